/- Parts of the proof: Dq Dr Ds Dt Du Dv Dw Dx Ea Dy. -/
import Derived.Test.YtgcdpcjeamjgfaaGreatDoorL1
import Derived.Great.BuildSlice
import Derived.ChangeKeysEq
import Derived.Laws.StructEq
section
/- Operations, eighth part: appends, literals of slices. -/
namespace Go.Dn

section
variable {w0 : World} {Pr0 M : Nat → Prop}
variable {P : Program} {cx : Cx} {E : Env} {V : List Value} {w w' : World} {Pr : Nat → Prop} {B : Nat → List Nat} {off : Nat} {a : Act}

/-- The machine's append to a row of one's own: it grows in its own block, or a new one comes. -/
theorem run_append_mine (t ty e : TypeId) (i : TypeInfo) (z : Value) (size : Nat) (ht : P.underlying t = some (.slice e)) (hi : P.info? e = some i) (hz : i.zero = some z)
    (hsize : i.size = size) (hby : i.bytes ≤ 128) (hzs : z.cells.size = size) (hsz : 0 < size)
    (v : Value) (n : Nat) (xs : List Value) (hown : w.ownsRow 0 e size v n xs)
    (A : Option Addr) (m c : Nat) (news : List Value) (hl : news.length = m * size) (hA : (news = []) ∨ ∃ ad, A = some ad ∧ Cells w ad news) (h1 : ∀ u ∈ news, u.oneCell' = true)
    (h40 : n + m ≤ 1099511627776) :
    ∃ v' w', (Builtin.append_ #[t, t] ty #[v, .slice A m c]).run P w = .ok v' w' ∧ w'.ownsRow 0 e size v' (n + m) (xs ++ news) ∧ w.grownBy w' v.ownBlock ∧
      (v'.ownBlock = v.ownBlock ∨ v'.ownBlock = some w.heap.size) := by
  have hmax : n + m ≤ maxLen := by simp only [maxLen]; omega
  have hbytes : (n + m) * i.bytes ≤ 140737488355328 := by
    calc (n + m) * i.bytes ≤ 1099511627776 * 128 := Nat.mul_le_mul h40 hby
      _ = 140737488355328 := by decide
  have hm0 : news = [] → m = 0 := by
    intro h
    rw [h] at hl
    rcases Nat.eq_zero_or_pos m with h | h
    · exact h
    · have := Nat.mul_pos h hsz; simp at hl; omega
  by_cases hAn : A = none
  · subst hAn
    have hn : news = [] := hA.resolve_right (by rintro ⟨ad, h, _⟩; cases h)
    have hm := hm0 hn
    subst hn; subst hm
    refine ⟨v, w, ?_, by simpa using hown, ⟨rfl, rfl, rfl, Nat.le_refl _, fun _ _ _ => rfl⟩, .inl rfl⟩
    rcases ownsRow_form hown with ⟨rfl, rfl, _⟩ | ⟨g, cap, rfl, _, hc⟩
    · simp [Builtin.append_, run_underlying ht, Go.sizeOf, typeInfo, hi, Builtin.lenOf, Builtin.firstCells, go_sem]
    · simp [Builtin.append_, run_underlying ht, Go.sizeOf, typeInfo, hi, Builtin.lenOf, Builtin.firstCells, hc, go_sem]
  · obtain ⟨ad, rfl⟩ : ∃ ad, A = some ad := by cases A with | none => exact absurd rfl hAn | some ad => exact ⟨ad, rfl⟩
    have hnews : ∀ (j : Nat) (u : Value), news[j]? = some u → w.cell? (ad.add j) = some u := by
      rcases hA with rfl | ⟨ad', h, hc⟩
      · intro j u hu; simp at hu
      · injection h with h; subst h; exact hc
    obtain ⟨v', w', r1, r2, r3, r4⟩ := run_append_own (P := P) w 0 t ty e i z size i.bytes ht hi hz hsize rfl hzs hsz v n xs hown ad m c news hl hnews h1 hmax hbytes (Nat.zero_le _)
    refine ⟨v', w', r1, r2, r3, ?_⟩
    rcases hown.2 with ⟨rfl, rfl⟩ | ⟨g, cap, cur, rfl, hbg, hg, hnc, hcm, hcs, htake⟩
    · by_cases hm : m = 0
      · left; rw [r4.2 ⟨rfl, hm⟩]
      · have hr := run_append_nil (P := P) w t ty e i z ht hi hz ad m c news (by rw [hsize]; exact hl) hnews (by omega) (by omega) (by have hb := hbytes; simp only [Nat.zero_add] at hb; omega)
        rw [r1] at hr
        injection hr with hr1 hr2
        right; rw [hr1]; rfl
    · by_cases hroom : n + m ≤ cap
      · have hr := run_append_room (P := P) w t ty e i ht hi g n cap cur hg ad m c news (by rw [hsize]; exact hl) hnews h1 hroom (by rw [hsize, hl, hcs, ← Nat.add_mul]; exact Nat.mul_le_mul_right _ hroom)
        rw [r1] at hr
        injection hr with hr1 hr2
        left; rw [hr1]; rfl
      · have hr := run_append_grow (P := P) w t ty e i z ht hi hz ⟨g, 0, none⟩ n cap xs (by rw [hsize]; exact hown.1) (hown.cells (g := g) rfl) ad m c news (by rw [hsize]; exact hl) hnews (by omega) (by omega) (growslice_fits (by omega) hbytes)
        rw [r1] at hr
        injection hr with hr1 hr2
        right; rw [hr1]; rfl

theorem zero_size {t : Ty} {z : Value} (h4 : zOk t z.cells.toList = some []) : z.cells.size = t.size := by
  obtain ⟨c, hc, hr⟩ := zOk_rep (w := default) (Pr := fun _ => False) h4
  simp only [List.append_nil] at hc
  rw [← hr.length, ← hc]; simp

theorem run_call_append {o : Oper} {c : Call} {x y : Operand} {tid : TypeId} (hop : o.op = .call c) (hc : c.callee = .builtin .append) (hargs : c.args = #[x, y]) (hty : c.argTypes = #[tid, tid]) {v' : Value}
    (hr : (Builtin.append_ #[tid, tid] o.type #[a.eval x, a.eval y]).run P w = .ok v' w') : (execOp a.eval o).run P w = .ok (.value v') w' := by
  simp [execOp, hop, resolve, hc, hargs, hty, invoke, builtin, hr]

/-- Elements without rows come to a row in the hand. -/
theorem good_append (htab : TabOk P cx.tab) {o : Oper} {c : Call} {x y : Operand} {tid e : TypeId} {t : Ty} {ow : Ow} {xs ys : List (PV t)} {us : List U}
    (hop : o.op = .call c) (hc : c.callee = .builtin .append) (hargs : c.args = #[x, y]) (hty : c.argTypes = #[tid, tid]) (h : StB w0 Pr0 M E V w Pr B) (hN : ∀ k, E.length ≤ k → B k = []) (hf : Fr off V a)
    (hl : lookup cx.tab tid = some (.slice e t)) (hns : noSl t = true) (htk : take E (opdT cx E off tid x) = some (⟨.slice e t, .row ow, xs⟩, us))
    (hy : rd (appU E us) (opdT cx (appU E us) off tid y).s = some ⟨.slice e t, ys⟩) (hroom : roomB (xs.length + ys.length) = true) :
    OpGood w0 Pr0 M P E V w a o (.val (.slice e t) (.row ow) (xs ++ ys), us) := by
  obtain ⟨_, hd, hfe, hsz⟩ := slTy_of htab hl
  obtain ⟨i, z, i1, i2, i3, i4, i5⟩ := hfe.info
  obtain ⟨B1, g1, ⟨cs, g2, g3⟩, g4, g5⟩ := take_ok h (N := E.length) (Nat.le_refl _) (hN _ (Nat.le_refl _)) (opdT_ok h hf tid x) htk
  obtain ⟨v, xc, b', rfl, r1, r2, r3⟩ := rep_row.1 g3
  obtain ⟨A, cy, y1, y2, A', c', y3, y4, y5⟩ := rd_slice g1 (opdT_ok g1 hf tid y) hy
  rw [y1] at y3
  simp only [List.cons.injEq, Value.slice.injEq, and_true, true_and] at y3
  obtain ⟨rfl, rfl⟩ := y3
  have hnewsEx : ∃ news, news.length = ys.length * t.size ∧ ((news = []) ∨ ∃ ad, A = some ad ∧ Cells w ad news) ∧ RepL (Rep w (All Pr B1) t .b) news ys [] := by
    rcases y5 with rfl | ⟨ad, nc, rfl, q1, q2, q3⟩
    · exact ⟨[], by simp, .inl rfl, rfl, rfl⟩
    · exact ⟨nc, q3.length (fun _ _ _ h => h.length), .inr ⟨ad, rfl, q2⟩, q3⟩
  obtain ⟨news, n1, n2, n3⟩ := hnewsEx
  have hv : a.eval x = v := g2
  obtain ⟨v', w', s1, s2, s3, s4⟩ := run_append_mine (P := P) tid o.type e i z t.size hd i1 i3 i2 i5 (zero_size i4) (by omega) v xs.length xc r1 A ys.length cy news n1 n2 n3.one (roomB_iff hroom)
  have hnd := r2.nodup_iff.1 (g1.nodup E.length)
  have hmem : ∀ k, k ∈ v.ownBlock.toList → k ∈ B1 E.length := fun k hk => r2.mem_iff.2 (List.mem_append_left _ hk)
  have hmem' : ∀ k, k ∈ b' → k ∈ B1 E.length := fun k hk => r2.mem_iff.2 (List.mem_append_right _ hk)
  have hlt' : ∀ k ∈ v'.ownBlock.toList, (k ∈ B1 E.length ∨ w.heap.size ≤ k) ∧ k < w'.heap.size := by
    intro k hk
    have hk' : v'.ownBlock = some k := by simpa using hk
    refine ⟨?_, (s2.lt k hk').2⟩
    rcases s4 with q | q
    · left; exact hmem k (by rw [← q]; exact hk)
    · right; rw [q] at hk'; injection hk' with hk'; omega
  have hB2 : (v'.ownBlock.toList ++ b').Nodup := by
    rcases s4 with q | q
    · rw [q]; exact hnd
    · rw [q]
      refine List.nodup_append.2 ⟨by simp, (List.nodup_append.1 hnd).2.1, fun x hx y hy => ?_⟩
      have hx' : x = w.heap.size := by simpa using hx
      have := (g1.free _ _ (hmem' y hy)).2.2
      omega
  have hgrow : ∀ b, b < w.heap.size → b ∉ v.ownBlock.toList → w'.heap[b]? = w.heap[b]? := fun b hb hnb => s3.block b hb (fun q => hnb (by rw [← q]; simp))
  have hst := g1.fresh (N := E.length) (w' := w') (bs := v'.ownBlock.toList ++ b') (by rw [g5]; exact Nat.le_refl _) (fun b hb => by
    rcases List.mem_append.1 hb with hb | hb
    · exact hlt' b hb
    · exact ⟨.inl (hmem' b hb), Nat.lt_of_lt_of_le (g1.free _ _ (hmem' b hb)).2.2 s3.size⟩) hB2 (fun b hb hnb => hgrow b hb (fun q => hnb (hmem b q))) s3.os s3.tape s3.output s3.size
  refine ⟨.value v', w', v', ?_, .inl rfl, g5, Pr, _, hst, ?_, fun j hj => ?_⟩
  · exact run_call_append hop hc hargs hty (by rw [hv, y1]; exact s1)
  · show ValOk _ _ _ _ _ _ _
    rw [g5, upd_N]
    refine ⟨[v'], rfl, rep_row.2 ⟨v', xc ++ news, b', rfl, by rw [List.length_append]; exact s2, List.Perm.refl _, ?_⟩⟩
    have hx2 : RepL (Rep w' Pr t ow) xc xs b' := r3.agree (fun _ h => h) (fun k hk => by
      rcases hk with hk | hk
      · exact hgrow k (g1.prlt k hk) (fun m => (g1.free _ _ (hmem k m)).2.1 hk)
      · exact hgrow k (g1.free _ _ (hmem' k hk)).2.2 (fun m => notin_of_nodup_append hnd m hk))
    have hy2 : RepL (Rep w' Pr t ow) news ys [] := n3.imp (bsA := []) (fun c x b hb hr => by
      have : b = [] := List.eq_nil_iff_forall_not_mem.2 (fun k hk => by simpa using hb k hk)
      subst this
      exact hr.plain hns) (fun _ h => h)
    have := hx2.append hy2
    rwa [List.append_nil] at this
  · rw [g5] at hj
    rw [upd_ne (by omega), g4 j (by omega) (by omega)]; exact hN j (by omega)

theorem meet_weaken (t : Ty) (o1 o2 : Ow) : weaken t o1 (meet t o1 o2) = true ∧ weaken t o2 (meet t o1 o2) = true := by
  have wk : ∀ (t : Ty) (o : Ow), weaken t o o = true := by
    intro t
    induction t with
    | pair a b iha ihb => intro o; simp [weaken, iha, ihb]
    | slice e t ih => intro o; cases o <;> simp [weaken, ih]
    | _ => intro o; rfl
  unfold meet
  cases h1 : weaken t o1 o2 with
  | true => exact ⟨h1, wk t o2⟩
  | false =>
    cases h2 : weaken t o2 o1 with
    | true => exact ⟨wk t o1, h2⟩
    | false => exact ⟨weaken_b t o1, weaken_b t o2⟩

/-- The cells of a slice's elements, and what they own. -/
theorem slice_cells {v : Value} {e : TypeId} {t : Ty} {oy : Ow} {ys : List (PV t)} {bs : List Nat} (h : ValOk w Pr v (.slice e t) oy ys bs) (hlt : ∀ b ∈ bs, ¬ Pr b) :
    ∃ A c news b'', v = .slice A ys.length c ∧ news.length = ys.length * t.size ∧ ((news = []) ∨ ∃ ad, A = some ad ∧ Cells w ad news ∧ (Pr ad.block ∨ ad.block ∈ bs)) ∧ RepL (Rep w Pr t oy.elem) news ys b'' ∧
      (∀ k ∈ b'', k ∈ bs) ∧ (bs.Nodup → b''.Nodup) := by
  obtain ⟨cs, rfl, hr⟩ := h
  have bor : ∀ oe, bs = [] ∧ Bor w Pr t cs ys → oe = Ow.b → ∃ A c news b'', pack (.slice e t) cs = .slice A ys.length c ∧ news.length = ys.length * t.size ∧ ((news = []) ∨ ∃ ad, A = some ad ∧ Cells w ad news ∧ (Pr ad.block ∨ ad.block ∈ bs)) ∧ RepL (Rep w Pr t oe) news ys b'' ∧
      (∀ k ∈ b'', k ∈ bs) ∧ (bs.Nodup → b''.Nodup) := by
    rintro oe ⟨rfl, A, c, rfl, hc, hb⟩ rfl
    rcases hb with rfl | ⟨ad, nc, rfl, q1, q2, q3⟩
    · exact ⟨A, c, [], [], rfl, by simp, .inl rfl, ⟨rfl, rfl⟩, fun _ h => h, fun h => h⟩
    · exact ⟨_, c, nc, [], rfl, q3.length (fun _ _ _ h => h.length), .inr ⟨ad, rfl, q2, .inl q1⟩, q3, fun _ h => h, fun h => h⟩
  cases oy with
  | b => exact bor .b (rep_bor.1 hr) rfl
  | pr p q => exact bor .b (rep_bor'.1 hr) rfl
  | row oe =>
    obtain ⟨v, yc, b', rfl, r1, r2, r3⟩ := rep_row.1 hr
    have hm : ∀ k ∈ b', k ∈ bs := fun k hk => r2.mem_iff.2 (List.mem_append_right _ hk)
    have hnd : bs.Nodup → b'.Nodup := fun h => (List.nodup_append.1 (r2.nodup_iff.1 h)).2.1
    rcases ownsRow_form r1 with ⟨rfl, h0, rfl⟩ | ⟨g, c, rfl, hg, hc⟩
    · have : ys = [] := List.eq_nil_of_length_eq_zero h0
      subst this
      exact ⟨none, 0, [], b', rfl, by simp, .inl rfl, r3, hm, hnd⟩
    · exact ⟨_, c, yc, b', rfl, r1.1, .inr ⟨⟨g, 0, none⟩, rfl, ownsRow_cells r1 rfl rfl, .inr (r2.mem_iff.2 (by simp [Value.ownBlock]))⟩, r3, hm, hnd⟩

/-- Elements that own rows come to a row in the hand. -/
theorem good_append_own (htab : TabOk P cx.tab) {o : Oper} {c : Call} {x y : Operand} {tid e : TypeId} {t : Ty} {ow oy : Ow} {xs ys : List (PV t)} {us us' : List U}
    (hop : o.op = .call c) (hc : c.callee = .builtin .append) (hargs : c.args = #[x, y]) (hty : c.argTypes = #[tid, tid]) (h : StB w0 Pr0 M E V w Pr B) (hN : ∀ k, E.length ≤ k → B k = []) (hf : Fr off V a)
    (hl : lookup cx.tab tid = some (.slice e t)) (htk : take E (opdT cx E off tid x) = some (⟨.slice e t, .row ow, xs⟩, us))
    (hy : take (appU E us) (opdT cx (appU E us) off tid y) = some (⟨.slice e t, oy, ys⟩, us')) (hroom : roomB (xs.length + ys.length) = true) :
    OpGood w0 Pr0 M P E V w a o (.val (.slice e t) (.row (meet t ow oy.elem)) (xs ++ ys), us ++ us') := by
  obtain ⟨_, hd, hfe, hsz⟩ := slTy_of htab hl
  obtain ⟨i, z, i1, i2, i3, i4, i5⟩ := hfe.info
  obtain ⟨B1, g1, g23, g4, g5⟩ := take_ok h (N := E.length) (Nat.le_refl _) (hN _ (Nat.le_refl _)) (opdT_ok h hf tid x) htk
  have hB1 : B1 (E.length + 1) = [] := by rw [g4 _ (by omega) (by omega)]; exact hN _ (by omega)
  obtain ⟨B2, k1, k2, k4, k5⟩ := take_ok g1 (N := E.length + 1) (by rw [g5]; omega) hB1 (opdT_ok g1 hf tid y) hy
  have hB2 : B2 E.length = B1 E.length := k4 _ (by rw [g5]; exact Nat.le_refl _) (by omega)
  have hlen : (appU E (us ++ us')).length = E.length := by rw [appU_append, k5, g5]
  obtain ⟨cs, g2, g3⟩ := g23
  obtain ⟨v, xc, b', rfl, r1, r2, r3⟩ := rep_row.1 g3
  have hv : a.eval x = v := g2
  -- the row's own part is still there
  have hfr1 : ∀ b ∈ B2 E.length, b < w.heap.size := fun b hb => (k1.free _ _ hb).2.2
  obtain ⟨A, cy, news, b'', y1, n1, n2, n3, n4, n5⟩ := slice_cells k2 (fun b hb => (k1.free _ _ hb).2.1)
  obtain ⟨p1, q1, e1, w1⟩ := repL_weaken (o2 := meet t ow oy.elem) (fun _ _ _ hr => hr.weaken (meet_weaken t ow oy.elem).1) r3
  obtain ⟨p2, q2, e2, w2⟩ := repL_weaken (o2 := meet t ow oy.elem) (fun _ _ _ hr => hr.weaken (meet_weaken t ow oy.elem).2) n3
  obtain ⟨v', w', s1, s2, s3, s4⟩ := run_append_mine (P := P) tid o.type e i z t.size hd i1 i3 i2 i5 (zero_size i4) (by omega) v xs.length xc r1 A ys.length cy news n1
    (n2.imp id (fun ⟨ad, q1, q2, _⟩ => ⟨ad, q1, q2⟩)) n3.one (roomB_iff hroom)
  rw [← hB2] at r2
  have hnd := r2.nodup_iff.1 (k1.nodup E.length)
  have mv : ∀ k, k ∈ v.ownBlock.toList → k ∈ B2 E.length := fun k hk => r2.mem_iff.2 (List.mem_append_left _ hk)
  have mb : ∀ k, k ∈ b' → k ∈ B2 E.length := fun k hk => r2.mem_iff.2 (List.mem_append_right _ hk)
  have m1 : ∀ k, k ∈ p1 → k ∈ B2 E.length := fun k hk => mb k (e1.mem_iff.2 (List.mem_append_left _ hk))
  have m1' : ∀ k, k ∈ q1 → k ∈ B2 E.length := fun k hk => mb k (e1.mem_iff.2 (List.mem_append_right _ hk))
  have m2 : ∀ k, k ∈ p2 → k ∈ B2 (E.length + 1) := fun k hk => n4 k (e2.mem_iff.2 (List.mem_append_left _ hk))
  have m2' : ∀ k, k ∈ q2 → k ∈ B2 (E.length + 1) := fun k hk => n4 k (e2.mem_iff.2 (List.mem_append_right _ hk))
  have hdis : ∀ k, k ∈ B2 E.length → k ∉ B2 (E.length + 1) := fun k => k1.disj _ _ (by omega) k
  have hnd1 := e1.nodup_iff.1 (List.nodup_append.1 hnd).2.1
  have hnd2 := e2.nodup_iff.1 (n5 (k1.nodup _))
  have hgrow : ∀ b, b < w.heap.size → b ∉ v.ownBlock.toList → w'.heap[b]? = w.heap[b]? := fun b hb hnb => s3.block b hb (fun q => hnb (by rw [← q]; simp))
  have hown' : ∀ k ∈ v'.ownBlock.toList, (k ∈ v.ownBlock.toList ∨ k = w.heap.size) ∧ k < w'.heap.size := by
    intro k hk
    have hk' : v'.ownBlock = some k := by simpa using hk
    refine ⟨?_, (s2.lt k hk').2⟩
    rcases s4 with q | q
    · left; rw [← q]; exact hk
    · right; rw [q] at hk'; injection hk' with hk'; exact hk'.symm
  have hvb : ∀ k, k ∈ v.ownBlock.toList → k ∉ b' := fun k hk => notin_of_nodup_append hnd hk
  have lenE : (appU (appU E us) us').length = E.length := by rw [k5, g5]
  let B3 : Nat → List Nat := fun j => if j = E.length then v'.ownBlock.toList ++ (p1 ++ p2) else if E.length ≤ j then [] else B2 j
  have hB3N : B3 E.length = v'.ownBlock.toList ++ (p1 ++ p2) := by simp [B3]
  have hB3o : ∀ j, E.length ≤ j → j ≠ E.length → B3 j = [] := fun j h1 h2 => by simp [B3, h1, h2]
  have pool : ∀ b, b ∈ v'.ownBlock.toList ++ (p1 ++ p2) → ((b ∈ B2 E.length ∨ b ∈ B2 (E.length + 1)) ∨ w.heap.size ≤ b) ∧ b < w'.heap.size := by
    intro b hb
    rcases List.mem_append.1 hb with hb | hb
    · obtain ⟨hb1, hb2⟩ := hown' b hb
      exact ⟨hb1.elim (fun q => .inl (.inl (mv b q))) (fun q => .inr (by omega)), hb2⟩
    · rcases List.mem_append.1 hb with hb | hb
      · exact ⟨.inl (.inl (m1 b hb)), Nat.lt_of_lt_of_le (k1.free _ _ (m1 b hb)).2.2 s3.size⟩
      · exact ⟨.inl (.inr (m2 b hb)), Nat.lt_of_lt_of_le (k1.free _ _ (m2 b hb)).2.2 s3.size⟩
  have hst := k1.hand (w' := w') (Pr' := fun k => Pr k ∨ k ∈ q1 ∨ k ∈ q2) (B' := B3) (fun k hk => by rw [lenE] at hk; have : k ≠ E.length := by omega
                                                                                                     have : ¬ E.length ≤ k := by omega
                                                                                                     simp [B3, *]) (fun k hk b hb => by
    rw [lenE] at hk
    by_cases hkN : k = E.length
    · subst hkN
      rw [hB3N] at hb
      obtain ⟨c1, c2⟩ := pool b hb
      refine ⟨c1.imp (fun q => ?_) id, c2⟩
      rcases q with q | q
      · exact ⟨_, by rw [lenE]; exact Nat.le_refl _, q⟩
      · exact ⟨_, by rw [lenE]; omega, q⟩
    · rw [hB3o k hk hkN] at hb; cases hb) (fun _ h => .inl h) (fun b hb => by
    rcases hb with hb | hb
    · exact .inl hb
    · right
      have hpool : ∃ k', (appU (appU E us) us').length ≤ k' ∧ b ∈ B2 k' := by
        rcases hb with hb | hb
        · exact ⟨_, by rw [lenE]; exact Nat.le_refl _, m1' b hb⟩
        · exact ⟨_, by rw [lenE]; omega, m2' b hb⟩
      obtain ⟨k', hk', hbk'⟩ := hpool
      have hbl := (k1.free _ _ hbk').2.2
      refine ⟨.inl ⟨k', hk', hbk'⟩, Nat.lt_of_lt_of_le hbl s3.size, fun k hk hm => ?_⟩
      rw [lenE] at hk
      by_cases hkN : k = E.length
      · subst hkN
        rw [hB3N] at hm
        rcases List.mem_append.1 hm with hm | hm
        · rcases (hown' b hm).1 with q | q
          · rcases hb with hb | hb
            · exact hvb b q (e1.mem_iff.2 (List.mem_append_right _ hb))
            · exact hdis b (mv b q) (m2' b hb)
          · omega
        · rcases List.mem_append.1 hm with hm | hm
          · rcases hb with hb | hb
            · exact notin_of_nodup_append hnd1 hm hb
            · exact hdis b (m1 b hm) (m2' b hb)
          · rcases hb with hb | hb
            · exact hdis b (m1' b hb) (m2 b hm)
            · exact notin_of_nodup_append hnd2 hm hb
      · rw [hB3o k hk hkN] at hm; cases hm) (fun k hk => by
    rw [lenE] at hk
    by_cases hkN : k = E.length
    · subst hkN
      rw [hB3N]
      refine List.nodup_append.2 ⟨by cases v'.ownBlock <;> simp, List.nodup_append.2 ⟨(List.nodup_append.1 hnd1).1, (List.nodup_append.1 hnd2).1, fun x hx y hy hxy => hdis x (m1 x hx) (hxy ▸ m2 y hy)⟩, fun x hx y hy hxy => ?_⟩
      subst hxy
      rcases (hown' x hx).1 with q | q
      · rcases List.mem_append.1 hy with hy | hy
        · exact hvb x q (e1.mem_iff.2 (List.mem_append_left _ hy))
        · exact hdis x (mv x q) (m2 x hy)
      · rcases List.mem_append.1 hy with hy | hy
        · have := (k1.free _ _ (m1 x hy)).2.2; omega
        · have := (k1.free _ _ (m2 x hy)).2.2; omega
    · rw [hB3o k hk hkN]; exact List.nodup_nil) (fun j k hj hk hne b hb hbk => by
    rw [lenE] at hj hk
    by_cases hjN : j = E.length
    · by_cases hkN : k = E.length
      · exact hne (hjN.trans hkN.symm)
      · rw [hB3o k hk hkN] at hbk; cases hbk
    · rw [hB3o j hj hjN] at hb; cases hb) (fun b hb hnb => hgrow b hb (fun q => hnb E.length (by rw [lenE]; exact Nat.le_refl _) (mv b q))) s3.os s3.tape s3.output s3.size
  have hag : ∀ k, (Pr k ∨ k ∈ q1 ∨ k ∈ q2) ∨ k ∈ p1 ∨ k ∈ p2 → w'.heap[k]? = w.heap[k]? := by
    intro k hk
    have : k < w.heap.size ∧ k ∉ v.ownBlock.toList := by
      rcases hk with (hk | hk | hk) | hk | hk
      · exact ⟨k1.prlt k hk, fun q => (k1.free _ _ (mv k q)).2.1 hk⟩
      · exact ⟨(k1.free _ _ (m1' k hk)).2.2, fun q => hvb k q (e1.mem_iff.2 (List.mem_append_right _ hk))⟩
      · exact ⟨(k1.free _ _ (m2' k hk)).2.2, fun q => hdis k (mv k q) (m2' k hk)⟩
      · exact ⟨(k1.free _ _ (m1 k hk)).2.2, fun q => hvb k q (e1.mem_iff.2 (List.mem_append_left _ hk))⟩
      · exact ⟨(k1.free _ _ (m2 k hk)).2.2, fun q => hdis k (mv k q) (m2 k hk)⟩
    exact hgrow k this.1 this.2
  refine ⟨.value v', w', v', run_call_append hop hc hargs hty (by rw [hv, y1]; exact s1), .inl rfl, hlen, fun k => Pr k ∨ k ∈ q1 ∨ k ∈ q2, B3, by rw [appU_append]; exact hst, ?_, fun j hj => ?_⟩
  · show ValOk _ _ _ _ _ _ _
    rw [hlen, hB3N]
    refine ⟨[v'], rfl, rep_row.2 ⟨v', xc ++ news, p1 ++ p2, rfl, by rw [List.length_append]; exact s2, List.Perm.refl _, ?_⟩⟩
    refine RepL.append ?_ ?_
    · exact w1.agree (Pr' := fun k => Pr k ∨ k ∈ q1 ∨ k ∈ q2) (fun k hk => hk.imp id .inl) (fun k hk => hag k (by
        rcases hk with (hk | hk) | hk
        · exact .inl (.inl hk)
        · exact .inl (.inr (.inl hk))
        · exact .inr (.inl hk)))
    · exact w2.agree (Pr' := fun k => Pr k ∨ k ∈ q1 ∨ k ∈ q2) (fun k hk => hk.imp id .inr) (fun k hk => hag k (by
        rcases hk with (hk | hk) | hk
        · exact .inl (.inl hk)
        · exact .inl (.inr (.inr hk))
        · exact .inr (.inr hk)))
  · rw [hlen] at hj
    exact hB3o j (by omega) (by omega)

end
end Go.Dn
end

section
/- Operations, ninth part: literals. -/
namespace Go.Dn

section
variable {w0 : World} {Pr0 M : Nat → Prop}
variable {P : Program} {cx : Cx} {E : Env} {V : List Value} {w w' : World} {Pr : Nat → Prop} {B : Nat → List Nat} {off : Nat} {a : Act}

theorem opdY_ok (h : StB w0 Pr0 M E V w Pr B) (hf : Fr off V a) (t : Ty) (x : Operand) : OpdOk w Pr E V (opdY E off t x) (a.eval x) := by
  unfold opdY
  split
  · split
    · exact ⟨[.slice none 0 0], rfl, rep_row.2 ⟨.slice none 0 0, [], [], rfl, World.ownsRow_nil _ _ _ _, by simp [Value.ownBlock], rfl, rfl⟩⟩
    · trivial
  · exact opd_ok h hf x

def AllH (w : World) (Pr : Nat → Prop) (B : Nat → List Nat) : Nat → List TV → List Value → Prop
  | _, [], [] => True
  | N, tv :: tvs, v :: vs => ValOk w Pr v tv.t tv.o tv.x (B N) ∧ AllH w Pr B (N + 1) tvs vs
  | _, _, _ => False

theorem AllH.congr {B' : Nat → List Nat} : ∀ {N : Nat} {tvs : List TV} {vs : List Value}, (∀ k, N ≤ k → B' k = B k) → AllH w Pr B N tvs vs → AllH w Pr B' N tvs vs
  | _, [], [], _, h => h
  | N, tv :: tvs, v :: vs, hB, h => ⟨by rw [hB N (Nat.le_refl _)]; exact h.1, AllH.congr (fun k hk => hB k (by omega)) h.2⟩
  | _, [], _ :: _, _, h => h.elim
  | _, _ :: _, [], _, h => h.elim

theorem AllH.length : ∀ {N : Nat} {tvs : List TV} {vs : List Value}, AllH w Pr B N tvs vs → tvs.length = vs.length
  | _, [], [], _ => rfl
  | _, _ :: _, _ :: _, h => by simp [AllH.length h.2]
  | _, [], _ :: _, h => h.elim
  | _, _ :: _, [], h => h.elim

theorem takeL_ok (hf : Fr off V a) : ∀ {l : List (Ty × Operand)} {E : Env} {B : Nat → List Nat} {N : Nat} {tvs : List TV} {us : List U}, StB w0 Pr0 M E V w Pr B → E.length ≤ N → (∀ k, N ≤ k → B k = []) →
    takeL off E l = some (tvs, us) → ∃ B1, StB w0 Pr0 M (appU E us) V w Pr B1 ∧ (appU E us).length = E.length ∧ AllH w Pr B1 N tvs (l.map fun q => a.eval q.2) ∧
      (∀ k, E.length ≤ k → k < N → B1 k = B k) ∧ (∀ k, N + tvs.length ≤ k → B1 k = [])
  | [], E, B, N, tvs, us, h, hN, hB, ht => by
    simp only [takeL, Option.some.injEq, Prod.mk.injEq] at ht
    obtain ⟨rfl, rfl⟩ := ht
    exact ⟨B, h, rfl, trivial, fun _ _ _ => rfl, fun k hk => hB k (by simpa using hk)⟩
  | (t, x) :: l, E, B, N, tvs, us, h, hN, hB, ht => by
    simp only [takeL] at ht
    split at ht
    · cases ht
    · rename_i tv us1 ht1
      split at ht
      · cases ht
      · rename_i tvs' us2 ht2
        simp only [Option.some.injEq, Prod.mk.injEq] at ht
        obtain ⟨rfl, rfl⟩ := ht
        obtain ⟨B1, g1, g2, g3, g4⟩ := take_ok h hN (hB N (Nat.le_refl _)) (opdY_ok h hf t x) ht1
        obtain ⟨B2, k1, k2, k3, k4, k5⟩ := takeL_ok hf (N := N + 1) g1 (by omega) (fun k hk => by rw [g3 k (by omega) (by omega)]; exact hB k (by omega)) ht2
        refine ⟨B2, by rw [appU_append]; exact k1, by rw [appU_append, k2, g4], ⟨?_, k3⟩, fun k hk hkN => ?_, fun k hk => k5 k (by simp at hk; omega)⟩
        · rw [k4 N (by omega) (by omega)]; exact g2
        · rw [k4 k (by omega) (by omega), g3 k hk (by omega)]

/-- What several hands hold comes into one, or is lent for good. -/
theorem StB.merge (h : StB w0 Pr0 M E V w Pr B) {bs q : List Nat} (hm : ∀ b ∈ bs ++ q, ∃ k, E.length ≤ k ∧ b ∈ B k) (hn : (bs ++ q).Nodup) :
    StB w0 Pr0 M E V w (fun k => Pr k ∨ k ∈ q) (fun j => if j = E.length then bs else if E.length ≤ j then [] else B j) := by
  refine h.hand (fun k hk => ?_) (fun k hk b hb => ?_) (fun _ h => .inl h) (fun b hb => ?_) (fun k hk => ?_) (fun j k hj hk hne b hb hbk => ?_) (fun _ _ _ => rfl) rfl rfl rfl (Nat.le_refl _)
  · have h1 : k ≠ E.length := by omega
    have h2 : ¬ E.length ≤ k := by omega
    simp [h1, h2]
  · by_cases hkN : k = E.length
    · subst hkN
      simp only [if_true] at hb
      obtain ⟨k', h1, h2⟩ := hm b (List.mem_append_left _ hb)
      exact ⟨.inl ⟨k', h1, h2⟩, (h.free _ _ h2).2.2⟩
    · simp [hkN, hk] at hb
  · rcases hb with hb | hb
    · exact .inl hb
    · obtain ⟨k', h1, h2⟩ := hm b (List.mem_append_right _ hb)
      refine .inr ⟨.inl ⟨k', h1, h2⟩, (h.free _ _ h2).2.2, fun k hk hbk => ?_⟩
      by_cases hkN : k = E.length
      · subst hkN
        simp only [if_true] at hbk
        exact notin_of_nodup_append hn hbk hb
      · simp [hkN, hk] at hbk
  · by_cases hkN : k = E.length
    · subst hkN; simp only [if_true]; exact (List.nodup_append.1 hn).1
    · simp [hkN, hk]
  · by_cases hjN : j = E.length
    · by_cases hkN : k = E.length
      · exact hne (hjN.trans hkN.symm)
      · simp [hkN, hk] at hbk
    · simp [hjN, hj] at hb

theorem ValOk.cells {v : Value} {t : Ty} {o : Ow} {x : PV t} {bs : List Nat} (h : ValOk w Pr v t o x bs) : v.cells.toList.length = t.size ∧ Rep w Pr t o v.cells.toList x bs := by
  obtain ⟨cs, rfl, hr⟩ := h
  rw [pack_cells hr]
  exact ⟨hr.length, hr⟩

theorem nodup4 {p1 q1 p2 q2 b1 : List Nat} (e1 : b1.Perm (p1 ++ q1)) (h1 : b1.Nodup) (h2 : (p2 ++ q2).Nodup) (hd : ∀ k, k ∈ b1 → k ∉ p2 ++ q2) : ((p1 ++ p2) ++ (q1 ++ q2)).Nodup := by
  have e : ((p1 ++ p2) ++ (q1 ++ q2)).Perm ((p1 ++ q1) ++ (p2 ++ q2)) := by
    rw [List.append_assoc, List.append_assoc]
    refine List.Perm.append_left _ ?_
    rw [← List.append_assoc, ← List.append_assoc]
    exact List.perm_append_comm.append_right _
  refine e.nodup_iff.2 (List.nodup_append.2 ⟨e1.nodup_iff.1 h1, h2, fun x hx y hy hxy => ?_⟩)
  exact hd x (e1.mem_iff.2 hx) (hxy ▸ hy)

/-- Elements in the hands are a row's. -/
theorem elems_ok (h : StB w0 Pr0 M E V w Pr B) {t : Ty} : ∀ {tvs : List TV} {vs : List Value} {N : Nat} {o : Ow} {xs : List (PV t)}, AllH w Pr B N tvs vs → elems t tvs = some (o, xs) →
    ∃ bs q, RepL (Rep w (fun k => Pr k ∨ k ∈ q) t o) (vs.flatMap fun v => v.cells.toList) xs bs ∧ (∀ b ∈ bs ++ q, ∃ k, N ≤ k ∧ b ∈ B k) ∧ (bs ++ q).Nodup ∧ (∀ v ∈ vs, v.cells.size = t.size) ∧ xs.length = vs.length
  | [], [], N, o, xs, _, he => by
    simp only [elems, Option.some.injEq, Prod.mk.injEq] at he
    obtain ⟨rfl, rfl⟩ := he
    exact ⟨[], [], ⟨rfl, rfl⟩, by simp, by simp, by simp, rfl⟩
  | tv :: tvs, v :: vs, N, o, xs, ha, he => by
    simp only [elems] at he
    split at he
    · rename_i x o2 xs2 hc he2
      simp only [Option.some.injEq, Prod.mk.injEq] at he
      obtain ⟨rfl, rfl⟩ := he
      obtain ⟨bs, q, g1, g2, g3, g4, g5⟩ := elems_ok h ha.2 he2
      obtain ⟨ht, hx⟩ := castTy_some hc
      obtain ⟨T, O, X⟩ := tv
      simp only at ht hx
      subst ht
      subst hx
      obtain ⟨hl, hr⟩ := ValOk.cells ha.1
      obtain ⟨p1, q1, e1, w1⟩ := hr.weaken (meet_weaken T O o2).1
      obtain ⟨p2, q2, e2, w2⟩ := repL_weaken (o2 := meet T O o2) (fun _ _ _ hr => hr.weaken (meet_weaken T O o2).2) g1
      have hdis : ∀ k, k ∈ B N → k ∉ bs ++ q := fun k hk hkb => by
        obtain ⟨k', h1, h2⟩ := g2 k hkb
        exact h.disj N k' (by omega) k hk h2
      have e2' : (bs ++ q).Perm (p2 ++ (q2 ++ q)) := by rw [← List.append_assoc]; exact e2.append_right _
      have hnd2 : (p2 ++ (q2 ++ q)).Nodup := e2'.nodup_iff.1 g3
      refine ⟨p1 ++ p2, q1 ++ (q2 ++ q), ⟨v.cells.toList, vs.flatMap fun v => v.cells.toList, p1, p2, by simp, List.Perm.refl _, ?_, ?_⟩, ?_, ?_, ?_, by simp [g5]⟩
      · exact w1.more (fun k hk => hk.imp id fun m => List.mem_append_left _ m)
      · exact w2.more (fun k hk => by
          rcases hk with (hk | hk) | hk
          · exact .inl hk
          · exact .inr (List.mem_append_right _ (List.mem_append_right _ hk))
          · exact .inr (List.mem_append_right _ (List.mem_append_left _ hk)))
      · intro b hb
        have : b ∈ B N ∨ b ∈ bs ++ q := by
          rcases List.mem_append.1 hb with hb | hb
          · rcases List.mem_append.1 hb with hb | hb
            · exact .inl (e1.mem_iff.2 (List.mem_append_left _ hb))
            · exact .inr (e2'.mem_iff.2 (List.mem_append_left _ hb))
          · rcases List.mem_append.1 hb with hb | hb
            · exact .inl (e1.mem_iff.2 (List.mem_append_right _ hb))
            · exact .inr (e2'.mem_iff.2 (List.mem_append_right _ hb))
        rcases this with hb | hb
        · exact ⟨N, Nat.le_refl _, hb⟩
        · obtain ⟨k, h1, h2⟩ := g2 b hb; exact ⟨k, by omega, h2⟩
      · exact nodup4 e1 (h.nodup N) hnd2 (fun k hk hkp => hdis k hk (e2'.mem_iff.2 hkp))
      · intro u hu
        rcases List.mem_cons.1 hu with rfl | hu
        · have := hl; simpa using this
        · exact g4 u hu
    · cases he
  | [], _ :: _, _, _, _, h, _ => h.elim
  | _ :: _, [], _, _, _, h, _ => h.elim

theorem zip_range {α : Type} : ∀ (l : List α) (s : Nat), (List.range' s l.length).zip l = (l.zipIdx s).map fun x => (x.2, x.1)
  | [], _ => rfl
  | x :: l, s => by simp [List.range'_succ, zip_range l (s + 1)]

theorem good_buildSlice (htab : TabOk P cx.tab) {o : Oper} {tid e : TypeId} {t : Ty} {n : Nat} {ps : Array (Nat × Operand)} {tvs : List TV} {us : List U} {ow : Ow} {xs : List (PV t)} (hop : o.op = .buildSlice tid n ps) (h : StB w0 Pr0 M E V w Pr B)
    (hN : ∀ k, E.length ≤ k → B k = []) (hf : Fr off V a) (hl : lookup cx.tab tid = some (.slice e t)) (h1 : ps.size = n) (h2 : List.range n = ps.toList.map (·.1)) (h3 : n * t.size ≤ 65536)
    (ht : takeL off E (ps.toList.map fun q => (t, q.2)) = some (tvs, us)) (he : elems t tvs = some (ow, xs)) : OpGood w0 Pr0 M P E V w a o (.val (.slice e t) (.row ow) xs, us) := by
  obtain ⟨_, hd, hfe, hsz⟩ := slTy_of htab hl
  obtain ⟨i, z, i1, i2, i3, i4, i5⟩ := hfe.info
  obtain ⟨B1, g1, g2, g3, _, g5⟩ := takeL_ok hf h (Nat.le_refl _) hN ht
  obtain ⟨bs, q, k1, k2, k3, k4, k5⟩ := elems_ok g1 g3 he
  have hvl : (ps.toList.map (fun q => (t, q.2)) |>.map fun q => a.eval q.2) = ps.toList.map fun q => a.eval q.2 := by rw [List.map_map]; rfl
  rw [hvl] at k1 k4 k5
  have hm := g1.merge (bs := bs) (q := q) (fun b hb => by rw [g2]; exact k2 b hb) k3
  rw [g2] at hm
  have hlen : xs.length = n := by rw [k5]; simp [h1]
  have hrowcells : ∀ (c : List Value) (x : PV t) (b : List Nat), Rep w (fun k => Pr k ∨ k ∈ q) t ow c x b → c.length = t.size := fun _ _ _ h => h.length
  have hrow := hand_row (w := w) (e := e) (t := t) (oe := ow) hm (N := E.length) (by rw [g2]; exact Nat.le_refl _) (cur := (ps.toList.map fun q => a.eval q.2).flatMap fun v => v.cells.toList) (cap := n) (xs := xs)
    (ys := (ps.toList.map fun q => a.eval q.2).flatMap fun v => v.cells.toList) (by omega) (by
      have : n * 1 ≤ n * t.size := Nat.mul_le_mul_left _ (by omega)
      simp only [maxLen]; omega) (by rw [k1.length hrowcells, hlen]) (by rw [List.take_of_length_le]; rw [k1.length hrowcells]; exact Nat.le_refl _) (by simpa using k1)
  simp only [if_true] at hrow
  rw [hlen] at hrow
  refine ⟨.value (.slice (some ⟨w.heap.size, 0, none⟩) n n), w.alloc (.cells ((ps.toList.map fun q => a.eval q.2).flatMap fun v => v.cells.toList).toArray e), .slice (some ⟨w.heap.size, 0, none⟩) n n, ?_, .inl rfl, g2, _, _, hrow.1, ?_, fun j hj => ?_⟩
  · -- the machine's step
    have hrun : (Instr.buildSlice tid n (ps.map fun (i, x) => (i, a.eval x))).run P w = .ok (.slice (some ⟨w.heap.size, 0, none⟩) n n) (w.alloc (.cells ((ps.toList.map fun q => a.eval q.2).flatMap fun v => v.cells.toList).toArray e)) := by
      by_cases hn0 : n = 0
      · subst hn0
        have hps : ps = #[] := Array.eq_empty_of_size_eq_zero h1
        subst hps
        simp [Instr.buildSlice, run_underlying hd, run_sizeOf hfe, Instr.fill, newRow, go_sem]
      · refine run_buildSlice w tid e n _ _ i z hd i1 i3 (by rw [i2]; omega) (by
          rw [i2]; intro hz
          rcases Nat.mul_eq_zero.1 hz with hz | hz
          · exact hn0 hz
          · exact hsz hz) ?_
        have hparts : (ps.map fun (i, x) => (i, a.eval x)).toList = ((ps.toList.map fun q => a.eval q.2).zipIdx 0).map fun x => (x.2, x.1) := by
          rw [← zip_range]
          rw [show (ps.toList.map fun q => a.eval q.2).length = n by simp [h1], ← List.range_eq_range', h2]
          rw [Array.toList_map, List.zip_map', ]
        rw [hparts, i2]
        refine Great.fill_whole (by omega) _ _ (fun v hv => ?_) ?_
        · exact k4 v hv
        · simp [h1]
    simp only [execOp, hop, Sem.run_bind, hrun, Result.andThen_ok]
    rfl
  · show ValOk _ _ _ _ _ _ _
    rw [g2, upd_N]
    exact hrow.2
  · rw [g2] at hj
    rw [upd_ne (by omega)]
    have h1 : j ≠ E.length := by omega
    have h2 : E.length ≤ j := by omega
    simp [h1, h2]

end
end Go.Dn
end

section
/- Operations, tenth part: structs and arrays; conversions. -/
namespace Go.Dn

section
variable {w0 : World} {Pr0 M : Nat → Prop}
variable {P : Program} {cx : Cx} {E : Env} {V : List Value} {w w' : World} {Pr : Nat → Prop} {B : Nat → List Nat} {off : Nat} {a : Act}

theorem fill_cons {place : Nat → Option (Nat × Nat)} {cells : Array Value} {n o s : Nat} {v : Value} {rest : List (Nat × Value)} (hp : place n = some (o, s)) (hv : v.cells.size = s) {pre mid post : List Value}
    (hc : cells.toList = pre ++ mid ++ post) (hpre : pre.length = o) (hmid : mid.length = s) :
    Instr.fill place cells ((n, v) :: rest) = Instr.fill place (pre ++ v.cells.toList ++ post).toArray rest := by
  have hsz : cells.size = o + s + post.length := by rw [← Array.length_toList, hc]; simp [hpre, hmid]; omega
  conv => lhs; unfold Instr.fill
  simp only [hp]
  rw [if_neg (by simp only [Bool.or_eq_true, decide_eq_true_eq]; omega)]
  congr 1
  obtain ⟨g1, g2⟩ := Great.foldl_set o v.cells.toList 0 cells
  have : (v.cells.zipIdx.foldl (fun cs (x : Value × Nat) => cs.setIfInBounds (o + x.2) x.1) cells) = ((v.cells.toList.zipIdx 0).foldl (fun cs (x : Value × Nat) => cs.setIfInBounds (o + x.2) x.1) cells) := by
    rw [← Array.foldl_toList]; congr 1; simp
  rw [this]
  apply Array.ext_getElem?
  intro k
  rw [g2 k]
  have hvl : v.cells.toList.length = s := by simpa using hv
  simp only [Nat.add_zero, List.getElem?_toArray]
  by_cases h1 : k < o
  · rw [if_neg (by omega), List.append_assoc, List.getElem?_append_left (by omega), ← Array.getElem?_toList, hc, List.append_assoc, List.getElem?_append_left (by omega)]
  · by_cases h2 : k < o + s
    · rw [if_pos (by omega), List.append_assoc, List.getElem?_append_right (by omega), List.getElem?_append_left (by omega), hpre]
    · rw [if_neg (by omega), List.getElem?_append_right (by simp; omega), ← Array.getElem?_toList, hc, List.getElem?_append_right (by simp; omega)]
      congr 1
      simp only [List.length_append, hmid, hvl]

theorem asm_ok (h : StB w0 Pr0 M E V w Pr B) {place : Nat → Option (Nat × Nat)} : ∀ {t : Ty} {n N o0 : Nat} {ps : List (Nat × TV)} {vs : List Value} {o : Ow} {x : PV t} {cells : Array Value} {pre zc : List Value},
    (∀ j, getT (fpath j) t ≠ .unit → place (n + j) = some (o0 + lrShift (fpath j) t, (getT (fpath j) t).size)) → (∀ a b, t = .pair a b → a ≠ .unit) → (∀ j a b, getT (List.replicate j .r) t = .pair a b → a ≠ .unit) →
    AllH w Pr B N (ps.map (·.2)) vs → asm t n ps = some (o, x) → cells.toList = pre ++ zc → pre.length = o0 → zOk t zc = some [] →
    ∃ new bs q, Instr.fill place cells ((ps.map (·.1)).zip vs) = some (pre ++ new).toArray ∧ Rep w (fun k => Pr k ∨ k ∈ q) t o new x bs ∧ (∀ b ∈ bs ++ q, ∃ k, N ≤ k ∧ b ∈ B k) ∧ (bs ++ q).Nodup
  | .unit, n, N, o0, [], [], o, x, cells, pre, zc, hp, _, _, ha, hs, hc, hpre, hz => by
    simp only [asm, Option.some.injEq, Prod.mk.injEq] at hs
    obtain ⟨rfl, _⟩ := hs
    simp only [zOk, Option.some.injEq] at hz
    subst hz
    refine ⟨[], [], [], ?_, ⟨rfl, rfl⟩, by simp, by simp⟩
    show Instr.fill place cells [] = _
    unfold Instr.fill
    rw [← hc]
  | .pair ta tb, n, N, o0, (i, tv) :: ps, v :: vs, o, x, cells, pre, zc, hp, hu, hu2, ha, hs, hc, hpre, hz => by
    simp only [zOk, Option.bind_eq_some_iff] at hz
    obtain ⟨r1, z1, z2⟩ := hz
    obtain ⟨za, rfl, ra⟩ := zOk_rep (w := w) (Pr := Pr) z1
    have hau := hu ta tb rfl
    have hub : ∀ a b, tb = .pair a b → a ≠ .unit := fun a b hab => hu2 1 a b (by show getT [] tb = _; exact hab)
    have hub2 : ∀ j a b, getT (List.replicate j .r) tb = .pair a b → a ≠ .unit := fun j a b hab => hu2 (j + 1) a b (by rw [List.replicate_succ]; exact hab)
    have hpb : ∀ j, getT (fpath j) tb ≠ .unit → place (n + 1 + j) = some (o0 + ta.size + lrShift (fpath j) tb, (getT (fpath j) tb).size) := fun j hj => by
      have := hp (j + 1) hj
      rw [show n + 1 + j = n + (j + 1) by omega, this]
      congr 2
      show o0 + (ta.size + _) = _
      omega
    simp only [asm] at hs
    cases hin : (i == n) with
    | true =>
      rw [hin] at hs
      simp only [cond_true] at hs
      obtain rfl := beq_iff_eq.1 hin
      split at hs
      · rename_i y o2 z hcast hrest
        simp only [Option.some.injEq, Prod.mk.injEq] at hs
        obtain ⟨rfl, rfl⟩ := hs
        obtain ⟨ht, hx⟩ := castTy_some hcast
        obtain ⟨T, O, X⟩ := tv
        simp only at ht hx
        subst ht
        subst hx
        obtain ⟨hl, hr⟩ := ValOk.cells ha.1
        have hl' : v.cells.size = T.size := by simpa using hl
        have hf := fill_cons (rest := (ps.map (·.1)).zip vs) (place := place) (cells := cells) (n := i) (o := o0) (s := T.size) (v := v) (pre := pre) (mid := za) (post := r1) (by
          have := hp 0 (by exact hau)
          simpa [fpath, lrShift, getT] using this) hl' (by rw [hc, List.append_assoc]) hpre ra.length
        obtain ⟨new, bs, q, k1, k2, k3, k4⟩ := asm_ok h (t := tb) (n := i + 1) (N := N + 1) (o0 := o0 + T.size) (ps := ps) (vs := vs) (cells := (pre ++ v.cells.toList ++ r1).toArray) (pre := pre ++ v.cells.toList) (zc := r1)
          hpb hub hub2 ha.2 hrest (by simp) (by simp [hpre, hl']) z2
        have hdis : ∀ k, k ∈ B N → k ∉ bs ++ q := fun k hk hkb => by
          obtain ⟨k', h1, h2⟩ := k3 k hkb
          exact h.disj N k' (by omega) k hk h2
        refine ⟨v.cells.toList ++ new, B N ++ bs, q, ?_, ⟨v.cells.toList, new, B N, bs, rfl, List.Perm.refl _, hr.more (fun k hk => .inl hk), k2⟩, ?_, ?_⟩
        · show Instr.fill place cells ((i, v) :: (ps.map (·.1)).zip vs) = _
          rw [hf, k1, List.append_assoc]
        · intro b hb
          rw [List.append_assoc] at hb
          rcases List.mem_append.1 hb with hb | hb
          · exact ⟨N, Nat.le_refl _, hb⟩
          · obtain ⟨k, h1, h2⟩ := k3 b hb; exact ⟨k, by omega, h2⟩
        · rw [List.append_assoc]
          exact List.nodup_append.2 ⟨h.nodup N, k4, fun x hx y hy hxy => hdis x hx (hxy ▸ hy)⟩
      · cases hs
    | false =>
      rw [hin] at hs
      simp only [cond_false] at hs
      split at hs
      · rename_i o2 z hrest
        simp only [Option.some.injEq, Prod.mk.injEq] at hs
        obtain ⟨rfl, rfl⟩ := hs
        obtain ⟨new, bs, q, k1, k2, k3, k4⟩ := asm_ok h (t := tb) (n := n + 1) (N := N) (o0 := o0 + ta.size) (ps := (i, tv) :: ps) (vs := v :: vs) (cells := cells) (pre := pre ++ za) (zc := r1)
          hpb hub hub2 ha hrest (by rw [hc, List.append_assoc]) (by rw [List.length_append, hpre, ra.length]) z2
        exact ⟨za ++ new, bs, q, by rw [k1, List.append_assoc], ⟨za, new, [], bs, rfl, by simp, ra.more (fun k hk => .inl hk), k2⟩, k3, k4⟩
      · cases hs
  | .pair ta tb, n, N, o0, [], [], o, x, cells, pre, zc, hp, hu, hu2, ha, hs, hc, hpre, hz => by
    simp only [zOk, Option.bind_eq_some_iff] at hz
    obtain ⟨r1, z1, z2⟩ := hz
    obtain ⟨za, rfl, ra⟩ := zOk_rep (w := w) (Pr := Pr) z1
    have hub : ∀ a b, tb = .pair a b → a ≠ .unit := fun a b hab => hu2 1 a b (by show getT [] tb = _; exact hab)
    have hub2 : ∀ j a b, getT (List.replicate j .r) tb = .pair a b → a ≠ .unit := fun j a b hab => hu2 (j + 1) a b (by rw [List.replicate_succ]; exact hab)
    have hpb : ∀ j, getT (fpath j) tb ≠ .unit → place (n + 1 + j) = some (o0 + ta.size + lrShift (fpath j) tb, (getT (fpath j) tb).size) := fun j hj => by
      have := hp (j + 1) hj
      rw [show n + 1 + j = n + (j + 1) by omega, this]
      congr 2
      show o0 + (ta.size + _) = _
      omega
    simp only [asm] at hs
    split at hs
    · rename_i o2 z hrest
      simp only [Option.some.injEq, Prod.mk.injEq] at hs
      obtain ⟨rfl, rfl⟩ := hs
      obtain ⟨new, bs, q, k1, k2, k3, k4⟩ := asm_ok h (t := tb) (n := n + 1) (N := N) (o0 := o0 + ta.size) (ps := []) (vs := []) (cells := cells) (pre := pre ++ za) (zc := r1)
        hpb hub hub2 ha hrest (by rw [hc, List.append_assoc]) (by rw [List.length_append, hpre, ra.length]) z2
      exact ⟨za ++ new, bs, q, by rw [k1, List.append_assoc], ⟨za, new, [], bs, rfl, by simp, ra.more (fun k hk => .inl hk), k2⟩, k3, k4⟩
    · cases hs
  | .unit, _, _, _, _ :: _, _, _, _, _, _, _, _, _, _, _, hs, _, _, _ => by simp [asm] at hs
  | .unit, _, _, _, [], _ :: _, _, _, _, _, _, _, _, _, ha, _, _, _, _ => ha.elim
  | .pair _ _, _, _, _, _ :: _, [], _, _, _, _, _, _, _, _, ha, _, _, _, _ => ha.elim
  | .pair _ _, _, _, _, [], _ :: _, _, _, _, _, _, _, _, _, ha, _, _, _, _ => ha.elim
  | .int _, _, _, _, _, _, _, _, _, _, _, _, _, _, _, hs, _, _, _ | .bool, _, _, _, _, _, _, _, _, _, _, _, _, _, _, hs, _, _, _ | .str, _, _, _, _, _, _, _, _, _, _, _, _, _, _, hs, _, _, _
  | .slice _ _, _, _, _, _, _, _, _, _, _, _, _, _, _, _, hs, _, _, _ => by simp [asm] at hs

theorem places_ok (htab : TabOk P cx.tab) : ∀ {fs : List Field} {o : Nat} {t : Ty}, fieldsOk cx.tab fs o t = true →
    ∃ places : List (Nat × Nat), fs.mapM (fun f => (P.info? f.type).map fun i => (f.offset, i.size)) = some places ∧ (∀ j, getT (fpath j) t ≠ .unit → places[j]? = some (o + lrShift (fpath j) t, (getT (fpath j) t).size)) ∧
      ∀ j a b, getT (List.replicate j .r) t = .pair a b → a ≠ .unit
  | [], o, .unit, _ => ⟨[], rfl, fun j h => by cases j <;> exact absurd rfl h, fun j a b h => by cases j <;> cases h⟩
  | f :: fs, o, .pair a b, h => by
    simp only [fieldsOk, Bool.and_eq_true, beq_iff_eq, Bool.not_eq_true', beq_eq_false_iff_ne] at h
    obtain ⟨⟨⟨h1, h2⟩, h3⟩, h4⟩ := h
    obtain ⟨i, z, i1, i2, _⟩ := (tab_fact htab h1).info
    obtain ⟨places, p1, p2, p3⟩ := places_ok htab h4
    refine ⟨(f.offset, i.size) :: places, ?_, fun j hj => ?_, fun j a' b' hj => ?_⟩
    · simp [List.mapM_cons, i1, p1]
    · cases j with
      | zero => simp [fpath, lrShift, getT, h2, i2]
      | succ j =>
        have := p2 j hj
        simp only [List.getElem?_cons_succ, this, Option.some.injEq, Prod.mk.injEq]
        exact ⟨by show _ = o + (a.size + _); omega, rfl⟩
    · cases j with
      | zero =>
        have : Ty.pair a b = .pair a' b' := hj
        injection this with e1 _
        subst e1
        rintro rfl
        exact h3 rfl
      | succ j => exact p3 j a' b' (by rw [List.replicate_succ] at hj; exact hj)
  | [], _, .pair _ _, h | [], _, .int _, h | [], _, .bool, h | [], _, .str, h | [], _, .slice _ _, h => by simp [fieldsOk] at h
  | _ :: _, _, .unit, h | _ :: _, _, .int _, h | _ :: _, _, .bool, h | _ :: _, _, .str, h | _ :: _, _, .slice _ _, h => by simp [fieldsOk] at h

theorem arr_ok {a : Ty} (ha : a.size ≠ 0) : ∀ {n : Nat} {t : Ty}, arrOk a n t = true → (∀ j, getT (fpath j) t ≠ .unit → getT (fpath j) t = a ∧ lrShift (fpath j) t = j * a.size ∧ j < n) ∧
    ∀ j b c, getT (List.replicate j .r) t = .pair b c → b ≠ .unit
  | 0, .unit, _ => ⟨fun j h => by cases j <;> exact absurd rfl h, fun j a b h => by cases j <;> cases h⟩
  | n + 1, .pair b c, h => by
    simp only [arrOk, Bool.and_eq_true, beq_iff_eq] at h
    obtain ⟨rfl, h2⟩ := h
    obtain ⟨g1, g2⟩ := arr_ok ha h2
    refine ⟨fun j hj => ?_, fun j b' c' hj => ?_⟩
    · cases j with
      | zero => exact ⟨rfl, by simp [fpath, lrShift], by omega⟩
      | succ j =>
        obtain ⟨k1, k2, k3⟩ := g1 j hj
        exact ⟨k1, by show b.size + _ = _; rw [k2, Nat.succ_mul, Nat.add_comm], by omega⟩
    · cases j with
      | zero =>
        have : Ty.pair b c = .pair b' c' := hj
        injection this with e1 _
        subst e1
        rintro rfl
        exact ha rfl
      | succ j => exact g2 j b' c' (by rw [List.replicate_succ] at hj; exact hj)
  | 0, .pair _ _, h | 0, .int _, h | 0, .bool, h | 0, .str, h | 0, .slice _ _, h => by simp [arrOk] at h
  | _ + 1, .unit, h | _ + 1, .int _, h | _ + 1, .bool, h | _ + 1, .str, h | _ + 1, .slice _ _, h => by simp [arrOk] at h

theorem zip_map_eval (ps : Array (Nat × Operand)) (ev : Operand → Value) : (ps.map fun (i, x) => (i, ev x)).toList = (ps.toList.map (·.1)).zip (ps.toList.map fun q => ev q.2) := by
  rw [Array.toList_map, List.zip_map']

theorem good_build (htab : TabOk P cx.tab) {o : Oper} {tid : TypeId} {t : Ty} {ps : Array (Nat × Operand)} {tvs : List TV} {us : List U} {ow : Ow} {x : PV t} (hop : o.op = .build tid ps) (h : StB w0 Pr0 M E V w Pr B)
    (hN : ∀ k, E.length ≤ k → B k = []) (hf : Fr off V a) (hl : lookup cx.tab tid = some t) (hag : t.agg = true)
    (ht : takeL off E (ps.toList.map fun q => (getT (fpath q.1) t, q.2)) = some (tvs, us)) (he : asm t 0 ((ps.toList.map (·.1)).zip tvs) = some (ow, x)) : OpGood w0 Pr0 M P E V w a o (.val t ow x, us) := by
  obtain ⟨d, hd, hfit⟩ := (tab_fact htab hl).und
  obtain ⟨i, z, i1, i2, i3, i4, i5⟩ := (tab_fact htab hl).info
  obtain ⟨B1, g1, g2, g3, _, g5⟩ := takeL_ok hf h (Nat.le_refl _) hN ht
  have hvl : ((ps.toList.map fun q => (getT (fpath q.1) t, q.2)).map fun q => a.eval q.2) = ps.toList.map fun q => a.eval q.2 := by rw [List.map_map]; rfl
  rw [hvl] at g3
  have hlen : tvs.length = ps.toList.length := by have := g3.length; simpa using this
  have hz2 : ((ps.toList.map (·.1)).zip tvs).map (·.2) = tvs := List.map_snd_zip (by simp [hlen])
  have hz1 : ((ps.toList.map (·.1)).zip tvs).map (·.1) = ps.toList.map (·.1) := List.map_fst_zip (by simp [hlen])
  have main : ∀ place : Nat → Option (Nat × Nat), (∀ j, getT (fpath j) t ≠ .unit → place (0 + j) = some (0 + lrShift (fpath j) t, (getT (fpath j) t).size)) → (∀ j a b, getT (List.replicate j .r) t = .pair a b → a ≠ .unit) →
      (∀ cells, Instr.fill place z.cells (ps.map fun (i, x) => (i, a.eval x)).toList = some cells → (Instr.build tid (ps.map fun (i, x) => (i, a.eval x))).run P w = .ok (.agg cells) w) → OpGood w0 Pr0 M P E V w a o (.val t ow x, us) := by
    intro place hpl hu hrun
    obtain ⟨new, bs, q, k1, k2, k3, k4⟩ := asm_ok g1 (place := place) (t := t) (n := 0) (N := E.length) (o0 := 0) (ps := (ps.toList.map (·.1)).zip tvs) (vs := ps.toList.map fun q => a.eval q.2) (cells := z.cells) (pre := []) (zc := z.cells.toList)
      hpl (fun a b hab => hu 0 a b (by exact hab)) hu (by rw [hz2]; exact g3) he rfl rfl i4
    rw [hz1, ← zip_map_eval ps a.eval, List.nil_append] at k1
    have hm := g1.merge (bs := bs) (q := q) (fun b hb => by rw [g2]; exact k3 b hb) k4
    rw [g2] at hm
    have hpk : pack t new = .agg new.toArray := by simp [pack, hag]
    refine ⟨.value (.agg new.toArray), w, .agg new.toArray, ?_, .inl rfl, g2, _, _, hm, ?_, fun j hj => ?_⟩
    · simp only [execOp, hop, Sem.run_bind, hrun _ k1, Result.andThen_ok]; rfl
    · show ValOk _ _ _ _ _ _ _
      rw [g2]
      simp only [if_true]
      exact ⟨new, hpk.symm, k2⟩
    · rw [g2] at hj
      have h1 : j ≠ E.length := by omega
      have h2 : E.length ≤ j := by omega
      simp [h1, h2]
  cases d with
  | struct fs =>
    have hfo : fieldsOk cx.tab fs.toList 0 t = true := by cases t <;> simp [fits, Ty.agg] at hfit ⊢ <;> exact hfit
    obtain ⟨places, p1, p2, p3⟩ := places_ok htab hfo
    refine main (places.toArray[·]?) (fun j hj => by rw [Nat.zero_add]; simpa using p2 j hj) p3 (fun cells hc => run_build w tid _ cells ?_)
    unfold Program.built
    simp only [i1, hd, i3, p1]
    exact hc
  | array n e =>
    have hfo : ∃ a', lookup cx.tab e = some a' ∧ a'.size ≠ 0 ∧ arrOk a' n t = true := by
      simp only [fits, Bool.and_eq_true] at hfit
      split at hfit
      · rename_i a' ha'
        simp only [Bool.and_eq_true, Bool.not_eq_true', beq_eq_false_iff_ne] at hfit
        exact ⟨a', ha', hfit.2.1, hfit.2.2⟩
      · simp at hfit
    obtain ⟨a', f1, f2, f3⟩ := hfo
    obtain ⟨q1, q2⟩ := arr_ok f2 f3
    obtain ⟨ie, ze, e1, e2, _⟩ := (tab_fact htab f1).info
    refine main (fun i => some (i * ie.size, ie.size)) (fun j hj => ?_) q2 (fun cells hc => run_build w tid _ cells ?_)
    · obtain ⟨r1, r2, r3⟩ := q1 j hj
      rw [Nat.zero_add, Nat.zero_add, r1, r2, e2]
    · unfold Program.built
      simp only [i1, hd, i3, e1]
      exact hc
  | _ => cases t <;> simp [fits, Ty.agg] at hfit hag

/-! ### conversions -/
theorem good_conv_int (htab : TabOk P cx.tab) {o : Oper} {s d : TypeId} {x : Operand} {k k' : IntKind} {n : Int} (hop : o.op = .convert s d x) (h : StB w0 Pr0 M E V w Pr B) (hN : ∀ k, E.length ≤ k → B k = []) (hf : Fr off V a)
    (hs : lookup cx.tab s = some (.int k)) (hd : lookup cx.tab d = some (.int k')) (hx : rd E (opd E off x).s = some ⟨.int k, n⟩) : OpGood w0 Pr0 M P E V w a o (sv (.int k') (k'.wrap n), []) := by
  have int : ∀ {tid : TypeId} {k : IntKind}, lookup cx.tab tid = some (.int k) → P.underlying tid = some (.int k) := by
    intro tid k hl
    obtain ⟨d, hd, hfit⟩ := (tab_fact htab hl).und
    cases d <;> first | (simp [fits, Ty.agg] at hfit; done) | skip
    simp only [fits, beq_iff_eq] at hfit
    rw [hd, hfit]
  refine good_scal h hN (.int _ _) ?_
  simp [execOp, hop, rd_int h (opd_ok h hf x) hx, convert, run_underlying (int hs), run_underlying (int hd), Conv.intToInt]

theorem und_str (htab : TabOk P cx.tab) {tid : TypeId} (hl : lookup cx.tab tid = some .str) : P.underlying tid = some .string := by
  obtain ⟨d, hd, hfit⟩ := (tab_fact htab hl).und
  cases d <;> first | exact hd | (simp [fits, Ty.agg] at hfit; done)

theorem und_int (htab : TabOk P cx.tab) {tid : TypeId} {k : IntKind} (hl : lookup cx.tab tid = some (.int k)) : P.underlying tid = some (.int k) := by
  obtain ⟨d, hd, hfit⟩ := (tab_fact htab hl).und
  cases d <;> first | (simp [fits, Ty.agg] at hfit; done) | skip
  simp only [fits, beq_iff_eq] at hfit
  rw [hd, hfit]

theorem und_slice (htab : TabOk P cx.tab) {tid e : TypeId} {t : Ty} (hl : lookup cx.tab tid = some (.slice e t)) : P.underlying tid = some (.slice e) ∧ lookup cx.tab e = some t := by
  obtain ⟨d, hd, hfit⟩ := (tab_fact htab hl).und
  obtain ⟨rfl, h1, h2⟩ := fits_slice hfit
  exact ⟨hd, h1⟩

theorem repL_ints {Q : Nat → Prop} {k : IntKind} {o : Ow} : ∀ {xs : List Int} {cs : List Value} {bs : List Nat}, RepL (Rep w Q (.int k) o) cs xs bs → cs = xs.map (Value.int k)
  | [], _, _, h => h.1
  | x :: xs, _, _, h => by
    obtain ⟨c1, c2, b1, b2, rfl, _, h1, h2⟩ := h
    rw [h1.1, repL_ints h2]; rfl

theorem good_conv_bytes (htab : TabOk P cx.tab) {o : Oper} {s d e e' : TypeId} {x : Operand} {l : List Int} (hop : o.op = .convert s d x) (h : StB w0 Pr0 M E V w Pr B) (hN : ∀ k, E.length ≤ k → B k = []) (hf : Fr off V a)
    (hs : lookup cx.tab s = some (.slice e (.int .u8))) (hd : lookup cx.tab d = some .str) (hx : rd E (opd E off x).s = some ⟨.slice e' (.int .u8), l⟩) : OpGood w0 Pr0 M P E V w a o (sv .str (bytesOfInts l), []) := by
  obtain ⟨hu, hl⟩ := und_slice htab hs
  have hue := und_int htab hl
  obtain ⟨A, c, h1, h2, A', c', h3, h4, h5⟩ := rd_slice h (opd_ok h hf x) hx
  refine good_scal h hN (.str _) ?_
  rw [h1] at h3
  simp only [List.cons.injEq, Value.slice.injEq, and_true, true_and] at h3
  obtain ⟨rfl, rfl⟩ := h3
  have key : (convert s d (.slice A l.length c)).run P w = .ok (strV (bytesOfInts l)) w := by
    rw [run_convert_bytes_string w s d e A l.length c hu hue (und_str htab hd)]
    have nilc : l = [] → A = none → (Conv.bytesToString (.slice A l.length c)).run P w = .ok (strV (bytesOfInts l)) w := by
      rintro rfl rfl; rfl
    have some : ∀ ad, A = .some ad → Cells w ad (l.map (Value.int .u8)) → (Conv.bytesToString (.slice A l.length c)).run P w = .ok (strV (bytesOfInts l)) w := by
      rintro ad rfl hc
      have hload := run_loadCells_list (P := P) w ad (l.map (Value.int .u8)) hc
      rw [List.length_map] at hload
      rw [run_bytesToString w ad l.length c l hload, foldl_push_bytes]
      congr 2
      simp only [bytesOfInts]
      rw [show ByteArray.empty.data = #[] from rfl]
      simp
    cases A with
    | none =>
      rcases h5 with hl | ⟨ad, ys, hA, _⟩
      · exact nilc hl rfl
      · cases hA
    | some ad =>
      rcases h5 with hl | ⟨ad', ys, hA, _, hc, hr⟩
      · exact some ad rfl (by rw [hl]; intro j u hu; simp at hu)
      · injection hA with hA; subst hA
        exact some _ rfl (by rw [← repL_ints hr]; exact hc)
  simp [execOp, hop, h1, key]

end
end Go.Dn
end

section
/- Every operation that the interpreter takes does in the machine what it says. -/
namespace Go.Dn

/-- A struct of a number and a text, of which nothing hinders the comparing. -/
def ntOk (P : Program) (t : TypeId) : Bool :=
  !P.eqGuardType P.depth t && (!P.stoodInHeld t && match (P.fieldsOf t).toList with
    | [f, g] => (f.name != "_" && g.name != "_") && ((f.offset == 0 && g.offset == 1) && ((match P.underlying f.type with | some (.int .i64) => true | _ => false) && (match P.underlying g.type with | some .string => true | _ => false)))
    | _ => false)

def ArrOk (P : Program) (cx : Cx) : Prop :=
  cx.tab.all (fun q => (match P.underlying q.1 with | some (.array _ _) => memN cx.arrs q.1 && !P.eqGuardType P.depth q.1 | _ => !(memN cx.arrs q.1)) && (!isNT q.2 || ntOk P q.1)) = true

section
variable {w0 : World} {Pr0 M : Nat → Prop}
variable {P : Program} {cx : Cx} {E : Env} {V : List Value} {w w' : World} {Pr : Nat → Prop} {B : Nat → List Nat} {off : Nat} {a : Act}

theorem struct_of (htab : TabOk P cx.tab) (harr : ArrOk P cx) {tid : TypeId} {t : Ty} (hl : lookup cx.tab tid = some t) (hm : memN cx.arrs tid = false) (hag : t.agg = true) : ∃ d fs, P.underlying tid = some d ∧ d = .struct fs := by
  obtain ⟨d, hd, hfit⟩ := (tab_fact htab hl).und
  have := (Bool.and_eq_true_iff.1 (List.all_eq_true.1 harr _ (lookup_mem hl))).1
  simp only [hd] at this
  cases d with
  | struct fs => exact ⟨_, fs, hd, rfl⟩
  | array n e => simp [hm] at this
  | _ => cases t <;> simp [fits, Ty.agg] at hfit hag

theorem array_of (htab : TabOk P cx.tab) (harr : ArrOk P cx) {tid : TypeId} {t : Ty} (hl : lookup cx.tab tid = some t) (hm : memN cx.arrs tid = true) :
    ∃ n e a, P.underlying tid = some (.array n e) ∧ lookup cx.tab e = some a ∧ a.size ≠ 0 ∧ arrOk a n t = true ∧ t.agg = true := by
  obtain ⟨d, hd, hfit⟩ := (tab_fact htab hl).und
  have := (Bool.and_eq_true_iff.1 (List.all_eq_true.1 harr _ (lookup_mem hl))).1
  simp only [hd] at this
  cases d with
  | array n e =>
    simp only [fits, Bool.and_eq_true] at hfit
    split at hfit
    · rename_i a' ha'
      simp only [Bool.and_eq_true, Bool.not_eq_true', beq_eq_false_iff_ne] at hfit
      exact ⟨n, e, a', hd, ha', hfit.2.1, hfit.2.2, hfit.1⟩
    · simp at hfit
  | _ => simp only [hm] at this; cases this

theorem array_guard (htab : TabOk P cx.tab) (harr : ArrOk P cx) {tid : TypeId} {t : Ty} (hl : lookup cx.tab tid = some t) (hm : memN cx.arrs tid = true) : P.eqGuardType P.depth tid = false := by
  obtain ⟨d, hd, hfit⟩ := (tab_fact htab hl).und
  have := (Bool.and_eq_true_iff.1 (List.all_eq_true.1 harr _ (lookup_mem hl))).1
  simp only [hd] at this
  cases d with
  | array n e => simpa [hm] using this
  | _ => simp only [hm] at this; cases this

theorem run_eqGuard2 {t : TypeId} (hg : P.eqGuardType P.depth t = false) (x y : Operand) (xs ys : Array Value) : (eqGuard .eql t x y (.agg xs) (.agg ys)).run P w = .ok () w := by
  simp [eqGuard, hg]

theorem run_eq2 {t e : TypeId} {i : TypeInfo} (hu : P.underlying t = some (.array 2 e)) (he : P.underlying e = some (.int .i64)) (hi : P.info? e = some i) (hc : P.cellsOf e = 1) (a b c d : Int) :
    (Op.equal t (.agg #[.int .i64 a, .int .i64 b]) (.agg #[.int .i64 c, .int .i64 d])).run P w = .ok (a == c && b == d) w := by
  have hp : P.plainKey e = true := by simp [Program.plainKey, he]
  have q : ∀ n, (Op.equalIn (n + 1 + 1) t (.agg #[.int .i64 a, .int .i64 b]) (.agg #[.int .i64 c, .int .i64 d])).run P w = .ok (a == c && b == d) w := by
    intro n
    rw [run_equalIn_array w (n + 1) _ _ hu hi, hc]
    rw [show List.range 2 = [0, 1] from rfl]
    simp only [Op.eqItems, Sem.run_bind]
    rw [run_part_plain w hp (v := .int .i64 a) (by rfl)]
    simp only [Result.andThen_ok]
    rw [run_part_plain w hp (v := .int .i64 c) (by rfl)]
    simp only [Result.andThen_ok, run_equalIn_int w n e .i64 .i64 a c he]
    cases h : (a == c)
    · simp
    · rw [if_neg (by simp), Sem.run_bind, run_part_plain w hp (v := .int .i64 b) (by rfl)]
      simp only [Result.andThen_ok, Sem.run_bind]
      rw [run_part_plain w hp (v := .int .i64 d) (by rfl)]
      simp only [Result.andThen_ok, run_equalIn_int w n e .i64 .i64 b d he]
      cases b == d <;> simp
  unfold Op.equal
  rw [show Op.maxDepth = 9998 + 1 + 1 from rfl]
  exact q 9998

theorem rep_two {Pr : Nat → Prop} {cs : List Value} {x : PV (.pair (.int .i64) (.pair (.int .i64) .unit))} (h : Rep w Pr (.pair (.int .i64) (.pair (.int .i64) .unit)) .b cs x []) : cs = [.int .i64 x.1, .int .i64 x.2.1] := by
  obtain ⟨c1, c2, b1, b2, rfl, _, h1, h2⟩ := h
  obtain ⟨d1, d2, e1, e2, rfl, _, g1, g2⟩ := h2
  have h1 : c1 = _ := h1.1
  have g1 : d1 = _ := g1.1
  have g2 : d2 = _ := g2.1
  rw [h1, g1, g2]
  rfl

theorem arr_eq_ok (htab : TabOk P cx.tab) (harr : ArrOk P cx) {tid : TypeId} (hm : memN cx.arrs tid = true) {op : BinOp} {p q : SV} {vp vq : Value} {z : Bool} {Q1 Q2 : Nat → Prop}
    (hp : ∃ cs, vp = pack p.1 cs ∧ Rep w Q1 p.1 .b cs p.2 []) (hq : ∃ cs, vq = pack q.1 cs ∧ Rep w Q2 q.1 .b cs q.2 []) (h : arrEq op (lookup cx.tab tid) p q = some z) (x y : Operand) :
    (eqGuard op tid x y vp vq).run P w = .ok () w ∧ (binOp op tid vp vq).run P w = .ok (.bool z) w := by
  unfold arrEq at h
  split at h
  · rename_i hl
    obtain rfl := Option.some.inj h
    obtain ⟨c1, rfl, r1⟩ := hp
    obtain ⟨c2, rfl, r2⟩ := hq
    simp only at r1 r2 ⊢
    obtain ⟨n, e, a', h1, h2, h3, h4, _⟩ := array_of htab harr hl hm
    have hn : n = 2 ∧ a' = .int .i64 := by
      cases n with
      | zero => simp [arrOk] at h4
      | succ n =>
        cases n with
        | zero => simp [arrOk] at h4
        | succ n =>
          cases n with
          | zero => simp [arrOk] at h4; exact ⟨rfl, h4.symm⟩
          | succ n => simp [arrOk] at h4
    obtain ⟨rfl, rfl⟩ := hn
    obtain ⟨d, hd, hfit⟩ := (tab_fact htab h2).und
    obtain ⟨i, zz, hi, hsz, _⟩ := (tab_fact htab h2).info
    have hd' : d = .int .i64 := by cases d <;> simp [fits, Ty.agg] at hfit; rw [hfit]
    subst hd'
    have hc : P.cellsOf e = 1 := by simp [Program.cellsOf, hi, hsz, Ty.size]
    rw [rep_two r1, rep_two r2]
    refine ⟨run_eqGuard2 (array_guard htab harr hl hm) _ _ _ _, ?_⟩
    have := run_eq2 (w := w) h1 hd hi hc
    show (binOp .eql tid (.agg _) (.agg _)).run P w = _
    simp only [binOp, Sem.run_bind]
    erw [this]
    rfl
  · cases h

theorem rep_nt {Pr : Nat → Prop} {cs : List Value} {x : PV (.pair (.int .i64) (.pair .str .unit))} (h : Rep w Pr (.pair (.int .i64) (.pair .str .unit)) .b cs x []) : cs = [.int .i64 x.1, .string ⟨⟨x.2.1⟩⟩] := by
  obtain ⟨c1, c2, b1, b2, rfl, _, h1, h2⟩ := h
  obtain ⟨d1, d2, e1, e2, rfl, _, g1, g2⟩ := h2
  have h1 : c1 = _ := h1.1
  have g1 : d1 = _ := g1.1
  have g2 : d2 = _ := g2.1
  rw [h1, g1, g2]
  rfl

theorem run_ntEq {t : TypeId} (hs : ∃ fs, P.underlying t = some (.struct fs)) (hok : ntOk P t = true) (a c : Int) (b d : List UInt8) :
    (Op.equalIn 10000 t (.agg #[.int .i64 a, .string ⟨⟨b⟩⟩]) (.agg #[.int .i64 c, .string ⟨⟨d⟩⟩])).run P w = .ok (a == c && b == d) w := by
  obtain ⟨fs, hu⟩ := hs
  have hf : P.fieldsOf t = fs := by unfold Program.fieldsOf; rw [hu]
  unfold ntOk at hok
  rw [Bool.and_eq_true, Bool.and_eq_true] at hok
  obtain ⟨_, h2, h3⟩ := hok
  rw [run_equalIn_struct w 9999 t _ _ (by rw [hf]; exact hu) (by simpa using h2)]
  split at h3
  · rename_i f g hl
    simp only [Bool.and_eq_true, bne_iff_ne, ne_eq, beq_iff_eq] at h3
    obtain ⟨⟨n1, n2⟩, ⟨o1, o2⟩, u1, u2⟩ := h3
    have u1' : P.underlying f.type = some (.int .i64) := by
      split at u1
      · assumption
      · cases u1
    have u2' : P.underlying g.type = some .string := by
      split at u2
      · assumption
      · cases u2
    have p1 : P.plainKey f.type = true := by simp [Program.plainKey, u1']
    have p2 : P.plainKey g.type = true := by simp [Program.plainKey, u2']
    rw [hl]
    unfold Op.eqFields
    rw [if_pos n1, Sem.run_bind, o1, run_part_plain w p1 (v := .int .i64 a) (by rfl)]
    simp only [Result.andThen_ok, Sem.run_bind]
    rw [run_part_plain w p1 (v := .int .i64 c) (by rfl)]
    simp only [Result.andThen_ok, run_equalIn_int w 9998 f.type .i64 .i64 a c u1']
    cases h : (a == c)
    · simp
    · rw [if_neg (by simp)]
      unfold Op.eqFields
      rw [if_pos n2, Sem.run_bind, o2, run_part_plain w p2 (v := .string ⟨⟨b⟩⟩) (by rfl)]
      simp only [Result.andThen_ok, Sem.run_bind]
      rw [run_part_plain w p2 (v := .string ⟨⟨d⟩⟩) (by rfl)]
      simp only [Result.andThen_ok, run_equalIn_string w 9998 g.type ⟨⟨b⟩⟩ ⟨⟨d⟩⟩ u2']
      rw [ByteArray.toList_eq, ByteArray.toList_eq]
      show (if (!(b == d)) = true then (pure false : Sem Bool) else Op.eqFields 9999 _ _ []).run P w = _
      cases h2 : (b == d) <;> simp [Op.eqFields]
  · cases h3

theorem nt_eq_ok (htab : TabOk P cx.tab) (harr : ArrOk P cx) {tid : TypeId} (hm : memN cx.arrs tid = false) {op : BinOp} {p q : SV} {vp vq : Value} {z : Bool} {Q1 Q2 : Nat → Prop}
    (hp : ∃ cs, vp = pack p.1 cs ∧ Rep w Q1 p.1 .b cs p.2 []) (hq : ∃ cs, vq = pack q.1 cs ∧ Rep w Q2 q.1 .b cs q.2 []) (h : ntEq op (lookup cx.tab tid) p q = some z) (x y : Operand) :
    (eqGuard op tid x y vp vq).run P w = .ok () w ∧ (binOp op tid vp vq).run P w = .ok (.bool z) w := by
  have key : ∀ {X Y : PV (.pair (.int .i64) (.pair .str .unit))}, lookup cx.tab tid = some (.pair (.int .i64) (.pair .str .unit)) → (∃ fs, P.underlying tid = some (.struct fs)) ∧ ntOk P tid = true := by
    intro _ _ hl
    obtain ⟨d, fs, hd, rfl⟩ := struct_of htab harr hl hm rfl
    refine ⟨⟨fs, hd⟩, ?_⟩
    have := (Bool.and_eq_true_iff.1 (List.all_eq_true.1 harr _ (lookup_mem hl))).2
    simpa [isNT] using this
  unfold ntEq at h
  split at h
  · rename_i X Y hl
    obtain rfl := Option.some.inj h
    obtain ⟨c1, rfl, r1⟩ := hp
    obtain ⟨c2, rfl, r2⟩ := hq
    simp only at r1 r2 ⊢
    obtain ⟨k1, k2⟩ := key (X := X) (Y := X) hl
    have hg : P.eqGuardType P.depth tid = false := by
      unfold ntOk at k2
      rw [Bool.and_eq_true] at k2
      simpa using k2.1
    rw [rep_nt r1, rep_nt r2]
    refine ⟨run_eqGuard_agg w _ _ _ _ _ _ hg, ?_⟩
    show (binOp .eql tid (.agg _) (.agg _)).run P w = _
    rw [run_eql_struct w tid]
    erw [run_ntEq k1 k2]
    rfl
  · rename_i X Y hl
    obtain rfl := Option.some.inj h
    obtain ⟨c1, rfl, r1⟩ := hp
    obtain ⟨c2, rfl, r2⟩ := hq
    simp only at r1 r2 ⊢
    obtain ⟨k1, k2⟩ := key (X := X) (Y := X) hl
    have hg : P.eqGuardType P.depth tid = false := by
      unfold ntOk at k2
      rw [Bool.and_eq_true] at k2
      simpa using k2.1
    rw [rep_nt r1, rep_nt r2]
    refine ⟨run_eqGuard_agg w _ _ _ _ _ _ hg, ?_⟩
    show (binOp .neq tid (.agg _) (.agg _)).run P w = _
    rw [run_neq_struct w tid]
    erw [run_ntEq k1 k2]
    rfl
  · cases h

theorem agg_field {t : Ty} {n : Nat} (hn : getT (fpath n) t ≠ .unit) : t.agg = true := by
  cases t <;> first | rfl | (cases n <;> exact absurd rfl hn)

theorem run_arrAt (htab : TabOk P cx.tab) (harr : ArrOk P cx) {tid : TypeId} {t : Ty} (hl : lookup cx.tab tid = some t) (hm : memN cx.arrs tid = true) {k : IntKind} {n : Int} (h0 : 0 ≤ n) (hn : getT (fpath n.toNat) t ≠ .unit)
    (ad : Addr) : (Instr.indexAt tid (.pointer (some ad)) (.int k n)).run P w = .ok (.pointer (some (ad.add (lrShift (fpath n.toNat) t)))) w := by
  obtain ⟨m, e, a', h1, h2, h3, h4, _⟩ := array_of htab harr hl hm
  obtain ⟨q1, q2, q3⟩ := (arr_ok h3 h4).1 n.toNat hn
  have hlt : n < (m : Int) := by omega
  simp [Instr.indexAt, asIntOf, run_underlying h1, Instr.sureAddr, h0, hlt, run_sizeOf (P := P) (w := w) (tab_fact htab h2), q2]

/-- The value of an array's element. -/
theorem run_arrIndex (htab : TabOk P cx.tab) (harr : ArrOk P cx) {tid : TypeId} {t : Ty} (hl : lookup cx.tab tid = some t) (hm : memN cx.arrs tid = true) {k : IntKind} {n : Int} (h0 : 0 ≤ n) (hn : getT (fpath n.toNat) t ≠ .unit)
    {c0 c c2 : List Value} (hc0 : c0.length = lrShift (fpath n.toNat) t) (hc : c.length = (getT (fpath n.toNat) t).size) :
    (Instr.index tid (.agg (c0 ++ c ++ c2).toArray) (.int k n)).run P w = .ok (pack (getT (fpath n.toNat) t) c) w := by
  obtain ⟨m, e, a', h1, h2, h3, h4, _⟩ := array_of htab harr hl hm
  obtain ⟨q1, q2, q3⟩ := (arr_ok h3 h4).1 n.toNat hn
  have hlt : n < (m : Int) := by omega
  rw [q1] at hc
  rw [q1]
  rw [q2] at hc0
  have hpart : (part e (c0 ++ c ++ c2).toArray (n.toNat * a'.size)).run P w = .ok (pack a' c) w := by
    simp only [part, Sem.run_bind, run_isAgg (P := P) (w := w) (tab_fact htab h2), Result.andThen_ok]
    cases ha : a'.agg with
    | true =>
      simp only [if_true, Sem.run_bind, run_sizeOf (P := P) (w := w) (tab_fact htab h2), Result.andThen_ok]
      have : ((c0 ++ c ++ c2).toArray.extract (n.toNat * a'.size) (n.toNat * a'.size + a'.size)) = c.toArray := by
        apply Array.ext'
        simp only [List.extract_toArray, List.toList_toArray]
        rw [← hc0, ← hc, List.append_assoc]
        simp
      rw [this]
      simp [pack, ha]
    | false =>
      simp only [Bool.false_eq_true, if_false]
      have h1 : a'.size = 1 := by cases a' <;> simp [Ty.agg] at ha <;> rfl
      rw [h1] at hc
      obtain ⟨v, rfl⟩ := List.length_eq_one_iff.1 hc
      have : (c0 ++ [v] ++ c2).toArray[n.toNat * a'.size]? = some v := by rw [← hc0]; simp
      simp only [this]
      simp [pack, ha]
  rw [List.append_assoc] at hpart
  simp [Instr.index, asIntOf, run_underlying h1, h0, hlt, run_sizeOf (P := P) (w := w) (tab_fact htab h2), hpart]

theorem holeIx_some {p : List PE} {s : Slot} {t : Ty} {m : Nat} (h : holeIx p s = some (t, m)) : ∃ (ow : Ow) (e : TypeId) (xs : List (PV t)) (q : List PE), p = [] ∧ s = .hole false (.slice e t) ow xs (.ix m :: q) := by
  unfold holeIx at h
  split at h
  · obtain ⟨rfl, rfl⟩ := Prod.mk.inj (Option.some.inj h)
    exact ⟨_, _, _, _, rfl, rfl⟩
  · cases h
theorem isNil_iff {p : List PE} : isNil p = true ↔ p = [] := by cases p <;> simp [isNil]
theorem isNil_false {p : List PE} : isNil p = false ↔ p ≠ [] := by cases p <;> simp [isNil]

theorem holeAt_some {q : List PE} {n : Nat} {s : Slot} {t' : Ty} (h : holeAt q n s = some (true, t')) : ∃ (iV : Bool) (t : Ty) (ow : Ow) (X : PV t) (p s2 : List PE) (e : TypeId), s = .hole iV t ow X p ∧ (iV = true ∨ q ≠ []) ∧ p = (q ++ [.ix n]) ++ s2 ∧ lrOnly s2 = true ∧ getT q t = .slice e t' := by
  unfold holeAt at h
  split at h
  · rename_i iV t ow X p
    split at h
    · rename_i e t2 hT
      obtain ⟨hc, rfl⟩ := Prod.mk.inj (Option.some.inj h)
      rw [Bool.and_eq_true, Bool.or_eq_true] at hc
      obtain ⟨s2, h1, h2⟩ := preLr_ok hc.2
      refine ⟨iV, t, ow, X, p, s2, e, rfl, ?_, h1, h2, hT⟩
      rcases hc.1 with h | h
      · exact .inl h
      · exact .inr (isNil_false.1 (by simpa using h))
    · cases h
  · cases h

theorem opd_at {x : Operand} : ∀ k, (opd E off x).ix = some k → (opd E off x).s = (E.at k).s := by
  intro k hk
  cases x <;> simp only [opd] at hk <;> first | (cases hk; done) | skip
  obtain rfl := Option.some.inj hk
  rfl

/-- What an alias that is looked at gives. -/
theorem rd_alias {d : Opd} {t : Ty} {x : PV t} (hd : ∀ k, d.ix = some k → d.s = (E.at k).s) (hr : rd E d.s = some ⟨t, x⟩) : (∃ o', alias E d = .val t o' x ∧ owns t o' = false) ∨ (∃ al, alias E d = .sub al ∧ rd E (.sub al) = some ⟨t, x⟩) ∨ (∃ al, alias E d = .view al t x ∧ d.s = .view al t x) ∨ alias E d = .none := by
  obtain ⟨ix, s⟩ := d
  simp only at hr
  cases s <;> simp only [rd] at hr <;> try (cases hr; done)
  · rename_i t' o' x'
    obtain ⟨rfl, hx⟩ := Sigma.mk.inj (Option.some.inj hr)
    obtain rfl := eq_of_heq hx
    cases hown : owns t' o' with
    | false =>
      left
      cases ix <;> exact ⟨.b, by simp [alias, hown], by
        have : ∀ t, owns t .b = false := by intro t; induction t <;> simp_all [owns, Ow.fst, Ow.snd]
        exact this _⟩
    | true =>
      cases ix with
      | none => right; right; right; simp [alias, hown]
      | some k =>
        right; left
        have h1 := hd k rfl
        simp only at h1
        refine ⟨⟨k, [], (E.at k).iv, (E.at k).cv⟩, by simp [alias, hown], ?_⟩
        simp only [rd, Al.okS, ← h1, beq_self_eq_true, Bool.true_and, Bool.true_or, cond_true]
        rfl
  · rename_i al
    right; left
    exact ⟨al, by cases ix <;> rfl, hr⟩
  · rename_i al t' x'
    right; right; left
    cases hok : (al.okC E && !(E.at al.j).s.isHole) with
    | false => rw [hok] at hr; cases hr
    | true =>
      rw [hok] at hr
      simp only [cond_true, Option.some.injEq] at hr
      obtain ⟨rfl, hx⟩ := Sigma.mk.inj hr
      obtain rfl := eq_of_heq hx
      exact ⟨al, by cases ix <;> rfl, rfl⟩


theorem beq_ty {a b : Ty} (h : (a == b) = true) : a = b := by simpa using h

theorem castTy_self {t : Ty} {x y : PV t} (h : castTy t t x = some y) : y = x := by
  obtain ⟨e, rfl⟩ := castTy_some h; rfl

/-- A field's or an array element's place, whichever way it is told. -/
theorem place_step {o : Oper} {x : Operand} {n : Nat} {t : Ty} (h : StB w0 Pr0 M E V w Pr B) (hN : ∀ k, E.length ≤ k → B k = []) (hf : Fr off V a) (hn : (!(getT (fpath n) t).isUnit) = true)
    (hrun : ∀ ad, a.eval x = .pointer (some ad) → (execOp a.eval o).run P w = .ok (.value (.pointer (some (ad.add (lrShift (fpath n) t))))) w) :
    (∀ y : PV t, (opd E off x).s = .bad t y → OpGood w0 Pr0 M P E V w a o (.bad (getT (fpath n) t) (get (fpath n) t y), [])) ∧
    (∀ al, place E (opd E off x) = some al → ∀ (iV : Bool) (t' : Ty) (o' : Ow) (z : PV t'), (E.at al.j).s = (if iV then .var t' o' z else .val t' o' z) → (getT al.p t' == t) = true → (iV = true ∨ al.p ≠ []) →
      OpGood w0 Pr0 M P E V w a o (.addr ⟨al.j, al.p ++ fpath n, al.iv, (E.at al.j).cv⟩, [])) ∧
    (∀ al, place E (opd E off x) = some al → ∀ (iV : Bool) (t' : Ty) (o' : Ow) (z : PV t') (p : List PE), (E.at al.j).s = .hole iV t' o' z p → (getT al.p t' == t) = true →
      ((isNil al.p && iV) || (!isNil al.p && preLr al.p p)) = true → OpGood w0 Pr0 M P E V w a o (.addr ⟨al.j, al.p ++ fpath n, al.iv, (E.at al.j).cv⟩, [])) := by
  have hn' := isUnit_false hn
  refine ⟨fun y hb => good_field_bad hrun h hN hf hn' hb, fun al hp iV t' o' z hr ht hnn => good_fieldAddr hrun h hN hf hn' hp (.inl ⟨iV, t', o', z, hr, beq_ty ht, hnn⟩), fun al hp iV t' o' z p hr ht hc => ?_⟩
  refine good_fieldAddr hrun h hN hf hn' hp (.inr ⟨iV, t', o', z, p, hr, beq_ty ht, ?_⟩)
  simp only [Bool.or_eq_true, Bool.and_eq_true, Bool.not_eq_true'] at hc
  rcases hc with ⟨h1, h2⟩ | ⟨h1, h2⟩
  · exact .inl ⟨isNil_iff.1 h1, h2⟩
  · exact .inr ⟨isNil_false.1 h1, preLr_ok h2⟩

variable {R : Type} {K : SU → Option R} {r : R}

/-- The master lemma on one operation. -/
theorem step_ok (htab : TabOk P cx.tab) (harr : ArrOk P cx) {o : Oper} (h : StB w0 Pr0 M E V w Pr B) (hN : ∀ k, E.length ≤ k → B k = []) (hf : Fr off V a) (hs : stepK cx E off o K = some r) :
    ∃ z, K z = some r ∧ OpGood w0 Pr0 M P E V w a o z := by
  unfold stepK at hs
  split at hs
  · -- move
    rename_i x hop
    split at hs
    · rename_i k l hd
      exact ⟨_, hs, good_move_tup hop h hN hf hd⟩
    · exact ⟨_, hs, good_move hop h hN hf⟩
  · -- assign
    rename_i x hop
    cases hv : viaIx (opd E off x).s with
    | true => rw [hv] at hs; exact ⟨_, hs, good_assign_alias hop h hN hf⟩
    | false =>
      rw [hv] at hs
      simp only [cond_false] at hs
      split at hs
      · rename_i v us ht
        exact ⟨_, hs, good_assign hop h hN hf ht⟩
      · split at hs
        · cases hs
        · cases hs
        · exact ⟨_, hs, good_assign_alias hop h hN hf⟩
  · -- pick
    rename_i c x y hop
    split at hs
    · rename_i bc hc
      split at hs
      · rename_i t xv t' yv hx hy
        split at hs
        · rename_i y2 hcast
          obtain ⟨rfl, rfl⟩ := castTy_some hcast
          cases hn : noSl t' with
          | false => rw [hn] at hs; cases hs
          | true => rw [hn] at hs; exact ⟨_, hs, good_pick hop h hN hf hc hx hy hn⟩
        · cases hs
      · rename_i t xv hx hy
        cases bc with
        | false => cases hs
        | true =>
          simp only [cond_true] at hs
          cases hn : noSl t with
          | false => rw [hn] at hs; cases hs
          | true => rw [hn] at hs; exact ⟨_, hs, good_pick1 hop h hN hf hc hx hn⟩
      · rename_i t yv hx hy
        cases bc with
        | true => cases hs
        | false =>
          simp only [cond_false] at hs
          cases hn : noSl t with
          | false => rw [hn] at hs; cases hs
          | true => rw [hn] at hs; exact ⟨_, hs, good_pick1 hop h hN hf hc hy hn⟩
      · cases hs
    · cases hs
  · -- alloc
    rename_i tid hop
    split at hs
    · rename_i t hl
      exact ⟨_, hs, good_alloc htab hop h hN hl⟩
    · cases hs
  · -- box
    rename_i tid x hop
    split at hs
    · rename_i t v us hl ht
      split at hs
      · rename_i y hcast
        obtain ⟨T, O, X⟩ := v
        obtain ⟨hT, rfl⟩ := castTy_some hcast
        simp only at hT
        subst hT
        exact ⟨_, hs, good_box hop h hN hf ht⟩
      · cases hs
    · cases hs
  · -- build
    rename_i tid ps hop
    split at hs
    · rename_i t hl
      split at hs
      · rename_i vs us ht
        split at hs
        · rename_i ow x he
          have hag : t.agg = true := by
            cases t <;> first | rfl | (simp [asm] at he; done)
          exact ⟨_, hs, good_build htab hop h hN hf hl hag ht he⟩
        · cases hs
      · cases hs
    · cases hs
  · -- buildSlice
    rename_i tid n ps hop
    split at hs
    · rename_i e t hl
      cases hc : ((ps.size == n) && ((List.range n == ps.toList.map (·.1)) && decide (n * t.size ≤ 65536))) with
      | false => rw [hc] at hs; cases hs
      | true =>
        rw [hc] at hs
        simp only [Bool.and_eq_true, beq_iff_eq, decide_eq_true_eq] at hc
        simp only [cond_true] at hs
        split at hs
        · rename_i vs us ht
          split at hs
          · rename_i ow xs he
            exact ⟨_, hs, good_buildSlice htab hop h hN hf hl hc.1 hc.2.1 hc.2.2 ht he⟩
          · cases hs
        · cases hs
    · cases hs
  · -- load
    rename_i tid x hop
    split at hs
    · cases hs
    · rename_i t hl
      split at hs
      · rename_i t' y hbad
        split at hs
        · rename_i y2 hcast
          obtain ⟨rfl, rfl⟩ := castTy_some hcast
          exact ⟨_, hs, good_load_bad htab hop h hN hf hl hbad⟩
        · cases hs
      · split at hs
        · rename_i al hp
          split at hs
          · rename_i v hlook
            split at hs
            · rename_i y2 hcast
              have go : ∀ (iV : Bool) (t' : Ty) (o' : Ow) (z : PV t'), (E.at al.j).s = (if iV then .var t' o' z else .val t' o' z) → (iV = true ∨ al.p ≠ []) → v = ⟨getT al.p t', getO al.p o', get al.p t' z⟩ →
                  ∃ z, K z = some r ∧ OpGood w0 Pr0 M P E V w a o z := by
                intro iV t' o' z hroot hnn hv
                subst hv
                obtain ⟨rfl, rfl⟩ := castTy_some hcast
                have := good_load htab hop h hN hf hl hp hroot hnn
                cases hown : owns (getT al.p t') (getO al.p o') with
                | true => simp only [hown, cond_true] at hs this; exact ⟨_, hs, this⟩
                | false => simp only [hown, cond_false] at hs this; exact ⟨_, hs, this⟩
              unfold look at hlook
              split at hlook
              · rename_i t' o' z hroot
                cases hn : isNil al.p with
                | true => rw [hn] at hlook; cases hlook
                | false =>
                  rw [hn] at hlook
                  exact go false t' o' z hroot (.inr (isNil_false.1 hn)) (Option.some.inj hlook).symm
              · rename_i t' o' z hroot
                exact go true t' o' z hroot (.inl rfl) (Option.some.inj hlook).symm
              · cases hlook
            · cases hs
          · cases hs
        · cases hs
  · -- store
    rename_i tid x y hop
    split at hs
    · rename_i t v us hl ht
      obtain ⟨B1, g1, g2, g3, g4⟩ := take_ok h (N := E.length) (Nat.le_refl _) (hN _ (Nat.le_refl _)) (opdT_ok h hf tid y) ht
      split at hs
      · rename_i al hp
        obtain ⟨hA, hok⟩ := place_ok g1 (opd_ok g1 hf x) hp
        -- the common end
        have fin : ∀ (iV : Bool) (t' : Ty) (ow ow2 ow3 : Ow) (z : PV t') (p : List PE) (y2 : PV (getT p t')) (vj : Value), p = al.p → (v.t == t) = true → castTy v.t (getT p t') v.x = some y2 → fitO p ow v.t v.o = some (ow2, ow3) →
            V[al.j]? = some vj → (appU E us)[al.j]? = some (Env.at (appU E us) al.j) → Fill w Pr (a.eval x) iV vj t' ow z p (B1 al.j) → (rootS iV t' ow3 (set p t' z y2)).ofVal = (Env.at (appU E us) al.j).s.ofVal →
            OpGood w0 Pr0 M P E V w a o (.none, us ++ [.cont al.j (rootS iV t' ow3 (set p t' z y2))]) := by
          intro iV t' ow ow2 ow3 z p y2 vj hpe hty hcast hfit hv he hfill hofv
          obtain ⟨T, O, X⟩ := v
          obtain ⟨hT, rfl⟩ := castTy_some hcast
          simp only at hT hty
          obtain rfl := beq_ty hty
          subst hT
          obtain ⟨B2, w2, Pr2, s1, s2, s3⟩ := g1.fill htab (N := E.length) (by rw [g4]; exact Nat.le_refl _) hl he hv hofv hfill g2 hfit
          have hlen : (appU E (us ++ [.cont al.j (rootS iV t' ow3 (set p t' z X))])).length = E.length := by rw [appU_append]; simp [appU, U.app, g4]
          refine ⟨.skip, w2, undef, ?_, .inr ⟨rfl, rfl⟩, hlen, Pr2, B2, by rw [appU_append]; exact s2, trivial, fun k hk => ?_⟩
          · simp [execOp, hop, s1]
          · rw [hlen] at hk
            rw [s3 k (by rw [g4]; omega), if_neg (by omega), g3 k (by omega) (by omega)]
            exact hN k (by omega)
        split at hs
        · rename_i t' ow z hroot
          split at hs
          · rename_i y2 ow2 ow3 hcast hfit
            cases hc : (v.t == t) && !isNil al.p with
            | false => rw [hc] at hs; cases hs
            | true =>
              rw [hc] at hs
              simp only [Bool.and_eq_true, Bool.not_eq_true'] at hc
              obtain ⟨vj, f1, f2, f3⟩ := fill_root (iV := false) g1 hA hok hroot (.inr (isNil_false.1 hc.2))
              exact ⟨_, hs, fin false t' ow ow2 ow3 z al.p y2 vj rfl hc.1 hcast hfit f1 f2 f3 (by rw [hroot]; rfl)⟩
          · cases hs
        · rename_i t' ow z hroot
          split at hs
          · rename_i y2 ow2 ow3 hcast hfit
            cases hc : (v.t == t) with
            | false => rw [hc] at hs; cases hs
            | true =>
              rw [hc] at hs
              obtain ⟨vj, f1, f2, f3⟩ := fill_root (iV := true) g1 hA hok hroot (.inl rfl)
              exact ⟨_, hs, fin true t' ow ow2 ow3 z al.p y2 vj rfl hc hcast hfit f1 f2 f3 (by rw [hroot]; rfl)⟩
          · cases hs
        · rename_i iV t' ow z p hroot
          split at hs
          · rename_i y2 ow2 ow3 hcast hfit
            cases hc : (v.t == t) with
            | false => rw [hc] at hs; cases hs
            | true =>
              rw [hc] at hs
              simp only [cond_true] at hs
              cases hc2 : samePath al.p p with
              | false => rw [hc2] at hs; cases hs
              | true =>
                rw [hc2] at hs
                obtain rfl := samePath_eq hc2
                obtain ⟨vj, f1, f2, f3⟩ := fill_hole g1 hA hok hroot
                refine ⟨_, hs, ?_⟩
                have := fin iV t' ow ow2 ow3 z al.p y2 vj rfl hc hcast hfit f1 f2 f3 (by rw [hroot]; cases iV <;> rfl)
                cases iV <;> exact this
          · cases hs
        · cases hs
      · cases hs
    · cases hs
  · -- binOp
    rename_i op tid x y yt hop
    split at hs
    · rename_i p q hp hq
      cases hm : memN cx.arrs tid with
      | true =>
        rw [hm] at hs
        simp only [cond_true] at hs
        split at hs
        · rename_i z hz
          refine ⟨_, hs, good_scal h hN (.bool z) ?_⟩
          obtain ⟨g1, g2⟩ := arr_eq_ok (w := w) htab harr hm (rd_ok h (opdT_ok h hf tid x) hp) (rd_ok h (opdT_ok h hf tid y) hq) hz x y
          simp [execOp, hop, g1, g2]
        · cases hs
      | false =>
        rw [hm] at hs
        simp only [cond_false] at hs
        split at hs
        · rename_i z hz
          refine ⟨_, hs, good_scal h hN (.bool z) ?_⟩
          obtain ⟨g1, g2⟩ := nt_eq_ok (w := w) htab harr hm (rd_ok h (opdT_ok h hf tid x) hp) (rd_ok h (opdT_ok h hf tid y) hq) hz x y
          simp [execOp, hop, g1, g2]
        · obtain ⟨s, v, k1, k2, k3⟩ := binK_ok (P := P) (w := w) htab (rd_scal h (opdT_ok h hf tid x) hp) (rd_scal h (opdT_ok h hf tid y) hq) hs
          refine ⟨_, k1, good_scal h hN k2 ?_⟩
          obtain ⟨g1, g2⟩ := k3 x y
          simp [execOp, hop, g1, g2]
    · cases hs
  · -- unOp
    rename_i op tid x hop
    split at hs
    · rename_i b hb
      refine ⟨_, hs, good_scal h hN (.bool _) ?_⟩
      simp [execOp, hop, Op.unary, rd_bool h (opd_ok h hf x) hb]
    · rename_i k n hb
      refine ⟨_, hs, good_scal h hN (.int _ _) ?_⟩
      simp [execOp, hop, Op.unary, rd_int h (opd_ok h hf x) hb, Op.intArith]
    · cases hs
  · -- convert
    rename_i s d x hop
    split at hs
    · rename_i k k' k'' n h1 h2 h3
      cases hk : (k == k'') with
      | false => rw [hk] at hs; cases hs
      | true =>
        rw [hk] at hs
        obtain rfl := beq_iff_eq.1 hk
        exact ⟨_, hs, good_conv_int htab hop h hN hf h1 h2 h3⟩
    · rename_i e e' l h1 h2 h3
      exact ⟨_, hs, good_conv_bytes htab hop h hN hf h1 h2 h3⟩
    · cases hs
  · -- makeFunc
    rename_i f first captured hop
    cases he : first.isEmpty with
    | false => rw [he] at hs; cases hs
    | true =>
      rw [he] at hs
      simp only [cond_true] at hs
      split at hs
      · rename_i as hp
        exact ⟨_, hs, good_makeFunc hop h hN hf he hp⟩
      · cases hs
  · -- makeSlice
    rename_i tid x y hop
    split at hs
    · rename_i e t n m h1 h2 h3
      cases hc : (decide (0 ≤ n) && (decide (n ≤ m) && roomB m.toNat)) with
      | false => rw [hc] at hs; cases hs
      | true =>
        rw [hc] at hs
        simp only [Bool.and_eq_true, decide_eq_true_eq] at hc
        exact ⟨_, hs, good_makeSlice htab hop h hN hf h1 h2 h3 hc.1 hc.2.1 hc.2.2⟩
    · cases hs
  · -- slice
    rename_i tid x lo hi hop
    split at hs
    · rename_i l hx
      split at hs
      · rename_i m n h1 h2 h3
        cases hc : cutB m n (List.length (α := UInt8) l) with
        | false => rw [hc] at hs; cases hs
        | true => rw [hc] at hs; exact ⟨_, hs, good_cut_str htab hop h hN hf h1 hx h2 h3 hc⟩
      · cases hs
    · rename_i e t l hx
      split at hs
      · rename_i e' t' m n h1 h2 h3
        cases hc : (Ty.slice e t == Ty.slice e' t') && cutB m n (List.length (α := PV t) l) with
        | false => rw [hc] at hs; cases hs
        | true =>
          rw [hc] at hs
          simp only [Bool.and_eq_true] at hc
          obtain ⟨hc1, hc2⟩ := hc
          obtain ⟨rfl, rfl⟩ : e = e' ∧ t = t' := by have := beq_ty hc1; injection this with a b; exact ⟨a, b⟩
          simp only [cond_true] at hs
          have hal := alias_ok h (opd_ok h hf x) (N := E.length) (hN _ (Nat.le_refl _))
          rcases rd_alias opd_at hx with ⟨o', q1, q2⟩ | ⟨al, q1, q2⟩ | ⟨al, q1, q2⟩ | q1
          · rw [q1] at hs hal
            refine ⟨_, hs, good_cut_slice htab hop h hN hf h1 h2 h3 hc2 (Q := Pr) ?_ (fun N v cs hB hv hr => ?_)⟩
            · exact ValOk.nowns q2 hal
            · show ValOk _ _ _ _ _ _ _
              rw [hB]; exact ⟨cs, hv, hr⟩
          · rw [q1] at hs hal
            dsimp only at hs
            cases hcase : (headCut lo hi && ((E.at al.j).s.isVar && noSl t)) with
            | true =>
              rw [hcase] at hs
              simp only [cond_true] at hs
              rw [Bool.and_eq_true, Bool.and_eq_true] at hcase
              obtain ⟨y, rfl, rfl⟩ : ∃ y, lo = none ∧ hi = some y := by
                cases lo <;> cases hi <;> first | exact ⟨_, rfl, rfl⟩ | cases hcase.1
              split at hs
              · rename_i e2 t2 oe z us ht
                cases hc3 : (Ty.slice e2 t2 == Ty.slice e t) && cutB 0 n (List.length (α := PV t2) z) with
                | false => rw [hc3] at hs; cases hs
                | true =>
                  rw [hc3] at hs
                  rw [Bool.and_eq_true] at hc3
                  obtain ⟨rfl, rfl⟩ : e2 = e ∧ t2 = t := by have := beq_ty hc3.1; injection this with a b; exact ⟨a, b⟩
                  exact ⟨_, hs, good_cut_take htab hop h hN hf h1 h3 hc3.2 hcase.2.2 ht⟩
              · cases hs
            | false =>
            rw [hcase] at hs
            simp only [cond_false] at hs
            have hal : SubOk w E V al (a.eval x) := hal
            obtain ⟨e0, vj, hl0, hv0, hk0⟩ := hal
            have he0 := at_of hl0.1
            have hok : al.okS E = true := by
              simp only [rd] at q2
              cases ho : al.okS E with
              | true => rfl
              | false => rw [ho] at q2; cases q2
            have hiv : (E.at al.j).iv = al.iv := by simp only [Al.okS, Bool.and_eq_true, beq_iff_eq] at hok; exact hok.1
            refine ⟨_, hs, good_cut_slice htab hop h hN hf h1 h2 h3 hc2 (Q := fun b => Pr b ∨ b ∈ B al.j) ?_ (fun N v cs hB hv hr => ?_)⟩
            · -- what is looked at lies in the root's blocks
              simp only [rd, hok, cond_true] at q2
              have go : ∀ (iV : Bool) (T : Ty) (O : Ow) (X : PV T), (E.at al.j).s = (if iV then .var T O X else .val T O X) → (⟨getT al.p T, get al.p T X⟩ : SV) = ⟨.slice e t, l⟩ →
                  ∃ cs, a.eval x = pack (.slice e t) cs ∧ Rep w (fun b => Pr b ∨ b ∈ B al.j) (.slice e t) .b cs l [] := by
                intro iV T O X hroot hx2
                obtain ⟨vj', g1, g2, g3, g4⟩ := alias_root h ⟨e0, vj, hl0, hv0, hk0⟩ hok hroot
                have fin : ∀ (T2 : Ty) (O2 : Ow) (X2 : PV T2) (bs : List Nat), (⟨T2, X2⟩ : SV) = ⟨.slice e t, l⟩ → ValOk w Pr (a.eval x) T2 O2 X2 bs → (∀ b ∈ bs, b ∈ B al.j) →
                    ∃ cs, a.eval x = pack (.slice e t) cs ∧ Rep w (fun b => Pr b ∨ b ∈ B al.j) (.slice e t) .b cs l [] := by
                  intro T2 O2 X2 bs hs2 hv2 hb
                  obtain ⟨rfl, hX⟩ := Sigma.mk.inj hs2
                  obtain rfl := eq_of_heq hX
                  exact hv2.lend (fun b hb' => hb'.imp id (hb b))
                rcases g4 with ⟨rfl, hp, hvj⟩ | ⟨_, _, hfo, loc, hl', hv'⟩
                · have g3 : ValOk w Pr vj' T O X (B al.j) := g3
                  rw [← hvj] at g3
                  obtain ⟨alj, alp, aliv, alcv⟩ := al
                  simp only at hp
                  subst hp
                  exact fin T O X _ hx2 g3 (fun _ h => h)
                · obtain ⟨bs', bsR, p1, p2⟩ := hfo.val hl' hv'
                  exact fin _ _ _ _ hx2 p2 (fun b hb => p1.mem_iff.2 (List.mem_append_left _ hb))
              split at q2
              · rename_i T O X hroot; exact go false T O X hroot (Option.some.inj q2)
              · rename_i T O X hroot; exact go true T O X hroot (Option.some.inj q2)
              · cases q2
            · refine ⟨e0, ⟨hl0.1, hl0.2.1, fun _ => by show (E.at al.j).cv ≤ e0.cv; rw [he0]; exact Nat.le_refl _⟩, fun _ _ _ => ⟨cs, hv, hr⟩⟩
          · rw [q1] at hs hal
            obtain ⟨e0, hl0, hk0⟩ := hal
            have he0 := at_of hl0.1
            rw [q2] at hx
            simp only [rd] at hx
            cases hok : (al.okC E && !(E.at al.j).s.isHole) with
            | false => rw [hok] at hx; cases hx
            | true =>
              simp only [Al.okC, he0, Bool.and_eq_true, beq_iff_eq, Bool.not_eq_true'] at hok
              obtain ⟨cs0, r1, r2⟩ := hk0 hok.1.1 hok.1.2 hok.2
              exact ⟨_, hs, good_cut_slice htab hop h hN hf h1 h2 h3 hc2 (Q := fun b => Pr b ∨ b ∈ B al.j) ⟨cs0, r1, r2⟩ (fun N v cs hB hv hr => ⟨e0, hl0, fun _ _ _ => ⟨cs, hv, hr⟩⟩)⟩
          · rw [q1] at hs; cases hs
      · cases hs
    · cases hs
  · -- fieldAddr
    rename_i tid x n hop
    split at hs
    · cases hs
    · rename_i t hl
      cases hm : memN cx.arrs tid with
      | true => rw [hm] at hl; cases hl
      | false =>
        rw [hm] at hl
        simp only [cond_false] at hl
        have hrun : getT (fpath n) t ≠ .unit → ∀ ad, a.eval x = .pointer (some ad) → (execOp a.eval o).run P w = .ok (.value (.pointer (some (ad.add (lrShift (fpath n) t))))) w := fun hn ad had => by
          simp [execOp, hop, had, run_fieldAt (w := w) htab hl hn (struct_of htab harr hl hm (agg_field hn))]
        split at hs
        · rename_i t' y hb
          split at hs
          · rename_i y2 hcast
            obtain ⟨rfl, rfl⟩ := castTy_some hcast
            cases hu : !(getT (fpath n) t').isUnit with
            | false => rw [hu] at hs; cases hs
            | true => rw [hu] at hs; exact ⟨_, hs, (place_step h hN hf hu (hrun (isUnit_false hu))).1 _ hb⟩
          · cases hs
        · split at hs
          · rename_i al hp
            split at hs
            · rename_i t' o' z hr
              cases hc : (getT al.p t' == t) && (!(getT (fpath n) t).isUnit && !isNil al.p) with
              | false => rw [hc] at hs; cases hs
              | true =>
                rw [hc] at hs
                rw [Bool.and_eq_true, Bool.and_eq_true] at hc
                exact ⟨_, hs, (place_step h hN hf hc.2.1 (hrun (isUnit_false hc.2.1))).2.1 al hp false t' o' z hr hc.1 (.inr (isNil_false.1 (by simpa using hc.2.2)))⟩
            · rename_i t' o' z hr
              cases hc : (getT al.p t' == t) && !(getT (fpath n) t).isUnit with
              | false => rw [hc] at hs; cases hs
              | true =>
                rw [hc] at hs
                rw [Bool.and_eq_true] at hc
                exact ⟨_, hs, (place_step h hN hf hc.2 (hrun (isUnit_false hc.2))).2.1 al hp true t' o' z hr hc.1 (.inl rfl)⟩
            · rename_i iV t' o' z p hr
              cases hc : (getT al.p t' == t) && !(getT (fpath n) t).isUnit with
              | false => rw [hc] at hs; cases hs
              | true =>
                rw [hc] at hs
                rw [Bool.and_eq_true] at hc
                simp only [cond_true] at hs
                cases hc2 : (isNil al.p && iV) || (!isNil al.p && preLr al.p p) with
                | false => rw [hc2] at hs; cases hs
                | true =>
                  rw [hc2] at hs
                  exact ⟨_, hs, (place_step h hN hf hc.2 (hrun (isUnit_false hc.2))).2.2 al hp iV t' o' z p hr hc.1 hc2⟩
            · cases hs
          · cases hs
  · -- nilCheck
    rename_i x hop
    split at hs
    · rename_i al hp
      obtain ⟨hA, hok⟩ := place_ok h (opd_ok h hf x) hp
      have fin : ∀ {iV : Bool} {t' : Ty} {o' : Ow} {z : PV t'}, (E.at al.j).s = (if iV then .var t' o' z else .val t' o' z) → (iV = true ∨ al.p ≠ []) → OpGood w0 Pr0 M P E V w a o (.addr al, []) := by
        intro iV t' o' z hr hnn
        obtain ⟨vj, loc, _, _, _, _, _, _, q7⟩ := addr_root h hA hok hr hnn
        refine ⟨.value (a.eval x), w, a.eval x, ?_, .inl rfl, rfl, hand_same h hN fun N hB => hA⟩
        simp [execOp, hop, q7, ptr]
      split at hs
      · rename_i t' o' z hr
        cases hn : isNil al.p with
        | true => rw [hn] at hs; cases hs
        | false => rw [hn] at hs; exact ⟨_, hs, fin (iV := false) hr (.inr (isNil_false.1 hn))⟩
      · rename_i t' o' z hr
        exact ⟨_, hs, fin (iV := true) hr (.inl rfl)⟩
      · rename_i iV t' o' z p hr
        cases hc : !isNil al.p && preLr al.p p with
        | false => rw [hc] at hs; cases hs
        | true =>
          rw [hc] at hs
          rw [Bool.and_eq_true] at hc
          refine ⟨_, hs, ?_⟩
          have hnn := isNil_false.1 (by simpa using hc.1)
          have hA' := hA
          obtain ⟨e, vj, hl, hv, hk⟩ := hA'
          have he := at_of hl.1
          rw [he] at hr
          simp only [Al.okA, he, Bool.and_eq_true, beq_iff_eq, Bool.or_eq_true] at hok
          have hcv : e.cv = al.cv := by
            rcases hok.2 with h | h
            · exact h
            · exact absurd (isNil_iff.1 h) hnn
          have hAt := (hk hok.1).2 hnn hcv
          rw [hr] at hAt
          obtain ⟨s, hs1, hs2⟩ := preLr_ok hc.2
          obtain ⟨loc, _, q7⟩ := hAt s hs1 hs2
          refine ⟨.value (a.eval x), w, a.eval x, ?_, .inl rfl, rfl, hand_same h hN fun N hB => hA⟩
          simp [execOp, hop, q7, ptr]
      · cases hs
    · cases hs
  · -- indexAddr
    rename_i tid x i hop
    split at hs
    · rename_i k n hi
      cases hm : memN cx.arrs tid with
      | true =>
        rw [hm] at hs
        simp only [cond_true] at hs
        split at hs
        · cases hs
        · rename_i t hl
          cases hc : decide (0 ≤ n) && !(getT (fpath n.toNat) t).isUnit with
          | false => rw [hc] at hs; cases hs
          | true =>
            rw [hc] at hs
            rw [Bool.and_eq_true, decide_eq_true_eq] at hc
            simp only [cond_true] at hs
            have hrun : ∀ ad, a.eval x = .pointer (some ad) → (execOp a.eval o).run P w = .ok (.value (.pointer (some (ad.add (lrShift (fpath n.toNat) t))))) w := fun ad had => by
              simp [execOp, hop, had, rd_int h (opd_ok h hf i) hi, run_arrAt (w := w) htab harr hl hm hc.1 (isUnit_false hc.2)]
            have hst := place_step h hN hf hc.2 hrun
            split at hs
            · rename_i t' y hb
              split at hs
              · rename_i y2 hcast
                obtain ⟨rfl, rfl⟩ := castTy_some hcast
                exact ⟨_, hs, hst.1 _ hb⟩
              · cases hs
            · split at hs
              · rename_i al hp
                split at hs
                · rename_i t' o' z hr
                  cases hc2 : (getT al.p t' == t) && !isNil al.p with
                  | false => rw [hc2] at hs; cases hs
                  | true =>
                    rw [hc2] at hs
                    rw [Bool.and_eq_true] at hc2
                    exact ⟨_, hs, hst.2.1 al hp false t' o' z hr hc2.1 (.inr (isNil_false.1 (by simpa using hc2.2)))⟩
                · rename_i t' o' z hr
                  cases hc2 : (getT al.p t' == t) with
                  | false => rw [hc2] at hs; cases hs
                  | true => rw [hc2] at hs; exact ⟨_, hs, hst.2.1 al hp true t' o' z hr hc2 (.inl rfl)⟩
                · cases hs
              · cases hs
      | false =>
        rw [hm] at hs
        simp only [cond_false] at hs
        split at hs
        · rename_i e t l hx
          split at hs
          · rename_i e2 t2 hl
            cases hc : (t2 == t) && inB n (List.length (α := PV t) l) with
            | false => rw [hc] at hs; cases hs
            | true =>
              rw [hc] at hs
              rw [Bool.and_eq_true] at hc
              obtain rfl := beq_ty hc.1
              have hsl := (slTy_of htab hl).1
              simp only [cond_true] at hs
              rcases rd_alias opd_at hx with ⟨o', q1, q2⟩ | ⟨al, q1, q2⟩ | ⟨al, q1, q2⟩ | q1
              · rw [q1] at hs
                exact ⟨_, hs, good_index_bor hop h hN hf hsl hi ⟨o', q1, q2⟩ hc.2⟩
              · rw [q1] at hs
                simp only [] at hs
                cases ho : ownsAt E al with
                | false => rw [ho] at hs; cases hs
                | true =>
                  rw [ho] at hs
                  refine ⟨_, hs, good_index_own hop h hN hf hsl hi q1 q2 hc.2 (fun t' o' x' hr => ?_)⟩
                  unfold ownsAt at ho
                  rcases hr with hr | hr <;> rw [hr] at ho <;> exact ho
              · rw [q1] at hs; cases hs
              · rw [q1] at hs; cases hs
          · cases hs
        · cases hs
        · split at hs
          · rename_i al hal
            split at hs
            · rename_i e2 t2 hl
              split at hs
              · rename_i t3 m hh
                cases hc : (al.okS E && (t2 == t3)) && (decide (0 ≤ n) && (n.toNat == m)) with
                | false => rw [hc] at hs; cases hs
                | true =>
                  rw [hc] at hs
                  simp only [Bool.and_eq_true, decide_eq_true_eq, beq_iff_eq] at hc
                  obtain ⟨⟨hok, rfl⟩, h0, hnm⟩ := hc
                  obtain ⟨ow, e3, xs, p, hnil, hroot⟩ := holeIx_some hh
                  exact ⟨_, hs, good_index_hole hop h hN hf (slTy_of htab hl).1 hi hal hok hnil hroot h0 hnm⟩
              · split at hs
                · rename_i b t3 hh
                  cases hc : (al.okC E && (t2 == t3)) && (decide (0 ≤ n) && b) with
                  | false => rw [hc] at hs; cases hs
                  | true =>
                    rw [hc] at hs
                    simp only [Bool.and_eq_true, decide_eq_true_eq] at hc
                    obtain ⟨⟨hok, ht⟩, h0, rfl⟩ := hc
                    obtain rfl := beq_ty ht
                    obtain ⟨iV, t4, ow, X, p, s2, e4, hroot, hq, hps, hlr, hT⟩ := holeAt_some hh
                    exact ⟨_, hs, good_index_hole2 hop h hN hf (slTy_of htab hl).1 hi hal hok hroot hq hps hlr hT h0⟩
                · cases hs
            · cases hs
          · cases hs
    · cases hs
  · -- index
    rename_i tid x i hop
    split at hs
    · rename_i l k n hx hi
      split at hs
      · rename_i hl
        cases hc : inB n (List.length (α := UInt8) l) with
        | false => rw [hc] at hs; cases hs
        | true => rw [hc] at hs; exact ⟨_, hs, good_index_str htab hop h hN hf hl hx hi hc⟩
      · cases hs
    · rename_i t y k n _ hx hi
      cases hm : memN cx.arrs tid with
      | false => rw [hm] at hs; cases hs
      | true =>
        rw [hm] at hs
        simp only [cond_true] at hs
        split at hs
        · cases hs
        · rename_i t' hl
          split at hs
          · rename_i y2 hcast
            obtain ⟨rfl, rfl⟩ := castTy_some hcast
            cases hc : decide (0 ≤ n) && (!(getT (fpath n.toNat) t).isUnit && noSl (getT (fpath n.toNat) t)) with
            | false => rw [hc] at hs; cases hs
            | true =>
              rw [hc] at hs
              rw [Bool.and_eq_true, Bool.and_eq_true, decide_eq_true_eq] at hc
              obtain ⟨c0, c1, c2⟩ := hc
              have hn := isUnit_false c1
              obtain ⟨cs, hv, hr⟩ := rd_ok h (opd_ok h hf x) hx
              obtain ⟨d0, d1, d2, rfl, e1, e2⟩ := rep_field hn hr
              have hag := agg_field hn
              refine ⟨_, hs, .value (pack (getT (fpath n.toNat) t) d1), w, _, ?_, .inl rfl, rfl, hand_same h hN fun N hB => slotOk_sv hB ⟨d1, rfl, e2.plain c2⟩⟩
              have := run_arrIndex (P := P) (w := w) htab harr hl hm (k := k) c0 hn (c2 := d2) e1 e2.length
              simp [execOp, hop, rd_int h (opd_ok h hf i) hi, hv, pack, hag] at this ⊢
              simp [this]
          · cases hs
    · cases hs
  · -- extract
    rename_i x i hop
    split at hs
    · rename_i k l hx
      split at hs
      · rename_i v hi
        cases hu : v.t.isUnit with
        | true => rw [hu] at hs; cases hs
        | false =>
          rw [hu] at hs
          simp only [cond_false] at hs
          cases hw : owns v.t v.o with
          | true =>
            rw [hw] at hs
            exact ⟨_, hs, good_extract hop h hN hf hx hi (by intro e; rw [e] at hu; cases hu)⟩
          | false =>
            rw [hw] at hs
            exact ⟨_, hs, good_extract_b hop h hN hf hx hi (by intro e; rw [e] at hu; cases hu) hw⟩
      · cases hs
    · cases hs
  · -- call
    rename_i c hop
    split at hs
    · rename_i x hc hargs
      have hargs' : c.args = #[x] := by apply Array.ext'; exact hargs
      split at hs
      · rename_i tid htl
        have h0 : c.argTypes[0]? = some tid := by
          have : c.argTypes = #[tid] := by apply Array.ext'; exact htl
          rw [this]; rfl
        split at hs
        · rename_i l hl hx
          exact ⟨_, hs, good_len htab hop hc hargs' h hN hf ⟨tid, h0, .inl ⟨hl, l, hx, rfl⟩⟩⟩
        · rename_i e t e' t' l hl hx
          exact ⟨_, hs, good_len htab hop hc hargs' h hN hf ⟨tid, h0, .inr ⟨e, t, e', t', hl, l, hx, rfl⟩⟩⟩
        · cases hs
      · cases hs
    · rename_i x y hc hargs
      have hargs' : c.args = #[x, y] := by apply Array.ext'; exact hargs
      split at hs
      · rename_i k m k' n hx hy
        cases hk : (k == k') with
        | false => rw [hk] at hs; cases hs
        | true =>
          rw [hk] at hs
          obtain rfl := beq_iff_eq.1 hk
          exact ⟨_, hs, good_max hop hc hargs' h hN hf hx hy⟩
      · cases hs
    · rename_i x y hc hargs
      have hargs' : c.args = #[x, y] := by apply Array.ext'; exact hargs
      split at hs
      · rename_i k m k' n hx hy
        cases hk : (k == k') with
        | false => rw [hk] at hs; cases hs
        | true =>
          rw [hk] at hs
          obtain rfl := beq_iff_eq.1 hk
          exact ⟨_, hs, good_min hop hc hargs' h hN hf hx hy⟩
      · cases hs
    · rename_i x y hc hargs
      have hargs' : c.args = #[x, y] := by apply Array.ext'; exact hargs
      cases hty : (c.argTypes.size == 2 && (c.argTypes.getD 0 0 == c.argTypes.getD 1 0)) with
      | false => rw [hty] at hs; cases hs
      | true =>
        rw [hty] at hs
        simp only [Bool.and_eq_true, beq_iff_eq] at hty
        have htys : c.argTypes = #[c.argTypes.getD 0 0, c.argTypes.getD 0 0] := by
          apply Array.ext
          · simp [hty.1]
          · intro i h1 h2
            simp at h2
            have : i = 0 ∨ i = 1 := by omega
            rcases this with rfl | rfl
            · simp [Array.getD, hty.1]
            · have := hty.2
              simp [Array.getD, hty.1] at this ⊢
              exact this.symm
        simp only [cond_true] at hs
        split at hs
        · rename_i e0 t0 e t ow xs us hl htk
          cases hc2 : (Ty.slice e0 t0 == Ty.slice e t) with
          | false => rw [hc2] at hs; cases hs
          | true =>
            rw [hc2] at hs
            simp only [cond_true] at hs
            obtain ⟨rfl, rfl⟩ : e0 = e ∧ t0 = t := by have := beq_ty hc2; injection this with a b; exact ⟨a, b⟩
            cases hns : noSl t0 with
            | true =>
              rw [hns] at hs
              simp only [cond_true] at hs
              split at hs
              · rename_i t'' ys hy
                split at hs
                · rename_i ys2 hcast
                  obtain ⟨rfl, rfl⟩ := castTy_some hcast
                  cases hroom : roomB (List.length (α := PV t0) xs + List.length (α := PV t0) ys2) with
                  | false => simp only [hroom] at hs; cases hs
                  | true => simp only [hroom, cond_true] at hs; exact ⟨_, hs, good_append htab hop hc hargs' htys h hN hf hl hns htk hy hroom⟩
                · cases hs
              · cases hs
            | false =>
              rw [hns] at hs
              simp only [cond_false] at hs
              split at hs
              · rename_i ty oy ys us' hy
                split at hs
                · rename_i ys2 hcast
                  obtain ⟨rfl, rfl⟩ := castTy_some hcast
                  cases hroom : roomB (List.length (α := PV t0) xs + List.length (α := PV t0) ys2) with
                  | false => simp only [hroom] at hs; cases hs
                  | true => simp only [hroom, cond_true] at hs; exact ⟨_, hs, good_append_own htab hop hc hargs' htys h hN hf hl htk hy hroom⟩
                · cases hs
              · cases hs
        · cases hs
    · cases hs
  · cases hs

end
end Go.Dn
end

section
/- Calls by contract. -/
namespace Go.Dn

/-- What is owned all through depends on nothing else. -/
theorem Rep.full {w : World} {Pr Q : Nat → Prop} : ∀ {t : Ty} {o : Ow} {cs : List Value} {x : PV t} {bs : List Nat}, Go.Dn.full t o = true → Rep w Pr t o cs x bs → Rep w Q t (top t) cs x bs
  | .int _, _, _, _, _, _, h => h
  | .bool, _, _, _, _, _, h => h
  | .str, _, _, _, _, _, h => h
  | .unit, _, _, _, _, _, h => h
  | .pair a b, o, _, _, _, hf, h => by
    simp only [Go.Dn.full, Bool.and_eq_true] at hf
    obtain ⟨c1, c2, b1, b2, e1, e2, h1, h2⟩ := h
    exact ⟨c1, c2, b1, b2, e1, e2, h1.full hf.1, h2.full hf.2⟩
  | .slice e t, .row oe, _, xs, bs, hf, h => by
    obtain ⟨v, ys, b', e1, e2, e3, h1⟩ := rep_row.1 h
    exact rep_row.2 ⟨v, ys, b', e1, e2, e3, h1.imp (bsA := b') (fun c x b _ hr => hr.full (by simpa [Go.Dn.full] using hf)) (fun _ h => h)⟩
  | .slice _ _, .b, _, _, _, hf, _ => by simp [Go.Dn.full] at hf
  | .slice _ _, .pr _ _, _, _, _, hf, _ => by simp [Go.Dn.full] at hf

theorem full_top : ∀ t : Ty, full t (top t) = true
  | .int _ => rfl
  | .bool => rfl
  | .str => rfl
  | .unit => rfl
  | .pair a b => by simp [full, top, Ow.fst, Ow.snd, full_top a, full_top b]
  | .slice _ t => by simp [full, top, full_top t]

section
variable {w0 : World} {Pr0 M : Nat → Prop}
variable {P : Program} {cx : Cx} {E : Env} {V : List Value} {w w' : World} {Pr Pr' Q : Nat → Prop} {B : Nat → List Nat} {off : Nat} {a : Act}

theorem ValOk.full {v : Value} {t : Ty} {o : Ow} {x : PV t} {bs : List Nat} (hf : Go.Dn.full t o = true) (h : ValOk w Pr v t o x bs) : ValOk w Q v t (top t) x bs := by
  obtain ⟨cs, h1, h2⟩ := h; exact ⟨cs, h1, h2.full hf⟩

theorem VarOk.full {v : Value} {t : Ty} {o : Ow} {x : PV t} {bs : List Nat} (hf : Go.Dn.full t o = true) (h : VarOk w Pr v t o x bs) : VarOk w Q v t (top t) x bs := by
  obtain ⟨b, cs, bs0, h1, h2, h3, h4⟩ := h; exact ⟨b, cs, bs0, h1, h2, h3.full hf, h4⟩

theorem VarOk.more {v : Value} {t : Ty} {o : Ow} {x : PV t} {bs : List Nat} (hp : ∀ k, Pr k → Q k) (h : VarOk w Pr v t o x bs) : VarOk w Q v t o x bs := by
  obtain ⟨b, cs, bs0, h1, h2, h3, h4⟩ := h; exact ⟨b, cs, bs0, h1, h2, h3.more hp, h4⟩
theorem VarOk.nowns {v : Value} {t : Ty} {o : Ow} {x : PV t} {bs : List Nat} (ho : owns t o = false) (h : VarOk w Pr v t o x bs) : VarOk w Pr v t .b x bs := by
  obtain ⟨b, cs, bs0, h1, h2, h3, h4⟩ := h
  have := h3.nowns ho
  subst this
  exact ⟨b, cs, [], h1, h2, h3.lend.more (fun k hk => hk.elim id (fun m => by cases m)), h4⟩

/-- One argument. -/
def ArgOk (w : World) (Pr : Nat → Prop) (m : Mode) (t : Ty) (v : Value) (x : PV t) (bs : List Nat) : Prop :=
  match m with
  | .bor => ValOk w Pr v t .b x [] ∧ bs = []
  | .own => ValOk w Pr v t (top t) x bs
  | .mut => ValOk w Pr v t (top t) x bs
  | .ptr => VarOk w Pr v t .b x bs

def ArgsOk (w : World) (Pr : Nat → Prop) : (ps : List (Mode × Ty)) → List Value → PVs (ps.map (·.2)) → List (List Nat) → Prop
  | [], [], _, [] => True
  | (m, t) :: ps, v :: vs, x, bs :: bss => ArgOk w Pr m t v x.1 bs ∧ ArgsOk w Pr ps vs x.2 bss
  | _, _, _, _ => False

/-- What comes back in the arguments. -/
def BacksOk (w : World) (Pr : Nat → Prop) : (ps : List (Mode × Ty)) → List Value → PVs (backs ps) → List (List Nat) → Prop
  | [], [], _, [] => True
  | (.bor, _) :: ps, _ :: vs, r, bs :: bss => bs = [] ∧ BacksOk w Pr ps vs r bss
  | (.own, _) :: ps, _ :: vs, r, bs :: bss => bs = [] ∧ BacksOk w Pr ps vs r bss
  | (.mut, t) :: ps, v :: vs, r, bs :: bss => ValOk w Pr v t (top t) r.1 bs ∧ BacksOk w Pr ps vs r.2 bss
  | (.ptr, t) :: ps, v :: vs, r, bs :: bss => VarOk w Pr v t .b r.1 bs ∧ BacksOk w Pr ps vs r.2 bss
  | _, _, _, _ => False

def retValue : List Value → Value
  | [v] => v
  | vs => .tuple vs.toArray

/-- What a call by contract does. -/
def FnOk (g : Glob) (P : Program) (k : FuncId) (ct : Ct) : Prop :=
  (ct.rets.all fun q => !q.1.isUnit) = true ∧
  ∀ (w : World) (Pr : Nat → Prop) (vs : List Value) (xs : PVs (ct.pars.map (·.2))) (bss : List (List Nat)) (r : PVs (ct.rets.map (·.1)) × PVs (backs ct.pars)),
    (∀ b, Pr b → b < w.heap.size) → ArgsOk w Pr ct.pars vs xs bss → bss.flatten.Nodup → (∀ b ∈ bss.flatten, ¬ Pr b ∧ b < w.heap.size) → g.ok w → (∀ b, g.dom b → Pr b) → ct.F xs = some r →
    (∃ fn, P.funcs[k]? = some fn ∧ fn.body.isSome = true ∧ (fn.name == "runtime.NumGoroutine") = false) ∧
    Calls P k vs.toArray w fun e w' => ∃ (rv : List Value) (Pr' : Nat → Prop) (bv : List Nat) (bms : List (List Nat)), e = .returned (retValue rv) ∧ TupOk w' Pr' (retList ct.rets r.1) rv bv ∧ BacksOk w' Pr' ct.pars vs r.2 bms ∧
      (bv ++ bms.flatten).Nodup ∧ (∀ b ∈ bv ++ bms.flatten, (b ∈ bss.flatten ∨ w.heap.size ≤ b) ∧ ¬ Pr' b ∧ b < w'.heap.size) ∧ (∀ b, Pr b → Pr' b) ∧
      (∀ b, Pr' b → Pr b ∨ (b ∈ bss.flatten ∨ w.heap.size ≤ b) ∧ b < w'.heap.size) ∧ w'.os = w.os ∧ w'.tape = w.tape ∧ w'.output = w.output ∧ w.heap.size ≤ w'.heap.size ∧
      (∀ b, b < w.heap.size → b ∉ bss.flatten → w'.heap[b]? = w.heap[b]?)

/-! ### handing over -/
/-- What is known of an argument's way back. -/
def BkOk (w : World) (_ : Nat → Prop) (E : Env) (V : List Value) (_ : Nat → List Nat) (m : Mode) (t : Ty) (v : Value) (b : Bk) : Prop :=
  match m, b with
  | .mut, .val j => V[j]? = some v ∧ j < E.length
  | .mut, .hol j iV t' o z p => E[j]? = some (E.at j) ∧ (E.at j).s = .hole iV t' o z p ∧ getT p t' = t ∧ ∃ vj loc, V[j]? = some vj ∧ locOf w iV t' vj p = some loc ∧ v = pack (getT p t') (readCells w loc.1 loc.2 (getT p t').size)
  | .ptr, .var j => V[j]? = some v ∧ j < E.length ∧ (E.at j).s.ofVal = false
  | .bor, _ => True
  | .own, _ => True
  | _, _ => False

def HandOk (w : World) (Pr : Nat → Prop) (m : Mode) (t : Ty) (v : Value) (x : PV t) (bs : List Nat) : Prop :=
  match m with
  | .bor => bs = []
  | .own => ValOk w Pr v t (top t) x bs
  | .mut => ValOk w Pr v t (top t) x bs
  | .ptr => VarOk w Pr v t .b x bs

theorem handOver_ok (h : StB w0 Pr0 M E V w Pr B) (hf : Fr off V a) {N : Nat} (hN : E.length ≤ N) (hB : B N = []) {m : Mode} {t : Ty} {x : Operand} {y : PV t} {us : List U} {b : Bk}
    (hh : handOver E off m t x = some (y, us, b)) :
    ∃ B1, StB w0 Pr0 M (appU E us) V w Pr B1 ∧ (appU E us).length = E.length ∧ HandOk w Pr m t (a.eval x) y (B1 N) ∧ (∀ k, E.length ≤ k → k ≠ N → B1 k = B k) ∧ BkOk w Pr (appU E us) V B1 m t (a.eval x) b := by
  cases m with
  | bor => cases hh
  | own =>
    simp only [handOver] at hh
    split at hh
    · rename_i v us' ht
      split at hh
      · rename_i y' hcast
        cases hfull : full v.t v.o with
        | false => rw [hfull] at hh; cases hh
        | true =>
          rw [hfull] at hh
          simp only [cond_true, Option.some.injEq, Prod.mk.injEq] at hh
          obtain ⟨rfl, rfl, rfl⟩ := hh
          obtain ⟨T, O, X⟩ := v
          obtain ⟨hT, rfl⟩ := castTy_some hcast
          simp only at hT
          subst hT
          obtain ⟨B1, g1, g2, g3, g4⟩ := take_ok h hN hB (opdY_ok h hf T x) ht
          exact ⟨B1, g1, g4, ValOk.full hfull g2, g3, trivial⟩
      · cases hh
    · cases hh
  | «mut» =>
    simp only [handOver] at hh
    split at hh
    · rename_i al hal
      cases hok : al.okS E with
      | false => rw [hok] at hh; cases hh
      | true =>
        rw [hok] at hh
        simp only [cond_true] at hh
        have hso := alias_ok h (opd_ok h hf x) (N := N) hB
        rw [hal] at hso
        have hso : SubOk w E V al (a.eval x) := hso
        split at hh
        · rename_i t' o z hroot
          split at hh
          · rename_i y' hcast
            cases hfull : full (getT al.p t') (getO al.p o) with
            | false => rw [hfull] at hh; cases hh
            | true =>
              rw [hfull] at hh
              simp only [cond_true] at hh
              obtain ⟨rfl, rfl⟩ := castTy_some hcast
              obtain ⟨vj, g1, g2, g3, g4⟩ := alias_root (iV := false) h hso hok hroot
              have hj := (List.getElem?_eq_some_iff.1 g2).1
              have hjN : al.j ≠ N := by omega
              cases hnil : isNil al.p with
              | true =>
                rw [hnil] at hh
                simp only [cond_true, Option.some.injEq, Prod.mk.injEq] at hh
                obtain ⟨rfl, rfl, rfl⟩ := hh
                have hp := isNil_iff.1 hnil
                rcases g4 with ⟨_, _, hv⟩ | ⟨hp', _⟩
                · have g3 : ValOk w Pr vj t' o z (B al.j) := g3
                  refine ⟨swap B N al.j (B al.j) [], ?_, by simp [appU, U.app], ?_, fun k hk hne => swap_ne hne (by omega), ?_⟩
                  · show StB w0 Pr0 M (E.set al.j _) V w Pr _
                    exact h.part hN hB g2 g1 (by simp) (.inl (Nat.lt_succ_self _)) trivial
                  · show ValOk _ _ _ _ _ _ _
                    rw [swap_N, hv]
                    obtain ⟨alj, alp, aliv, alcv⟩ := al
                    simp only at hp
                    subst hp
                    exact ValOk.full hfull g3
                  · exact ⟨by rw [hv]; exact g1, by simpa [appU, U.app] using hj⟩
                · rcases hp' with hp' | hp'
                  · exact absurd hp hp'
                  · cases hp'
              | false =>
                rw [hnil] at hh
                simp only [cond_false, Option.some.injEq, Prod.mk.injEq] at hh
                obtain ⟨rfl, rfl, rfl⟩ := hh
                rcases g4 with ⟨_, hp, _⟩ | ⟨_, hpath, hfo, loc, hl, hv⟩
                · rw [hp] at hnil; cases hnil
                · obtain ⟨B1, q1, q2, q3⟩ := h.dig hN hB g2 g1 (iV := false) hroot hpath hfo hl hv
                  refine ⟨B1, q1, by simp [appU, U.app], ValOk.full hfull q2, q3, ?_⟩
                  have he' : (appU E [.hol al.j (.hole false t' o z al.p)])[al.j]? = some ⟨(E.at al.j).iv, (E.at al.j).cv, .hole false t' o z al.p⟩ := List.getElem?_set_self hj
                  exact ⟨by rw [at_of he']; exact he', by rw [at_of he'], rfl, vj, loc, g1, hl, hv⟩
          · cases hh
        · rename_i t' o z hroot
          split at hh
          · rename_i y' hcast
            cases hfull : full (getT al.p t') (getO al.p o) with
            | false => rw [hfull] at hh; cases hh
            | true =>
              rw [hfull] at hh
              simp only [cond_true, Option.some.injEq, Prod.mk.injEq] at hh
              obtain ⟨rfl, rfl, rfl⟩ := hh
              obtain ⟨rfl, rfl⟩ := castTy_some hcast
              obtain ⟨vj, g1, g2, g3, g4⟩ := alias_root (iV := true) h hso hok hroot
              have hj := (List.getElem?_eq_some_iff.1 g2).1
              rcases g4 with ⟨hbad, _⟩ | ⟨_, hpath, hfo, loc, hl, hv⟩
              · cases hbad
              · obtain ⟨B1, q1, q2, q3⟩ := h.dig hN hB g2 g1 (iV := true) hroot hpath hfo hl hv
                refine ⟨B1, q1, by simp [appU, U.app], ValOk.full hfull q2, q3, ?_⟩
                have he' : (appU E [.hol al.j (.hole true t' o z al.p)])[al.j]? = some ⟨(E.at al.j).iv, (E.at al.j).cv, .hole true t' o z al.p⟩ := List.getElem?_set_self hj
                exact ⟨by rw [at_of he']; exact he', by rw [at_of he'], rfl, vj, loc, g1, hl, hv⟩
          · cases hh
        · cases hh
    · cases hh
  | ptr =>
    simp only [handOver] at hh
    split at hh
    · rename_i al hp
      split at hh
      · rename_i t' o z hroot
        split at hh
        · rename_i y' hcast
          cases hc : !owns t' o && isNil al.p with
          | false => rw [hc] at hh; cases hh
          | true =>
            rw [hc] at hh
            simp only [cond_true, Option.some.injEq, Prod.mk.injEq] at hh
            obtain ⟨rfl, rfl, rfl⟩ := hh
            obtain ⟨rfl, rfl⟩ := castTy_some hcast
            rw [Bool.and_eq_true] at hc
            obtain ⟨hA, hok⟩ := place_ok h (opd_ok h hf x) hp
            obtain ⟨e, vj, hl, hv, hk⟩ := hA
            have he := at_of hl.1
            have hiv : e.iv = al.iv := by simp only [Al.okA, he, Bool.and_eq_true, beq_iff_eq] at hok; exact hok.1
            have hev := (hk hiv).1 (isNil_iff.1 hc.2)
            have hj := (List.getElem?_eq_some_iff.1 hl.1).1
            have hjN : al.j ≠ N := by omega
            have hso := h.slots al.j e vj hl.1 hv
            rw [← he, hroot] at hso
            refine ⟨swap B N al.j (B al.j) [], ?_, by simp [appU, U.app], ?_, fun k hk hne => swap_ne hne (by omega), ?_⟩
            · show StB w0 Pr0 M (E.set al.j _) V w Pr _
              exact h.part hN hB (e := E.at al.j) (by rw [he]; exact hl.1) hv (by simp) (.inr (.inl ⟨rfl, rfl, Nat.lt_succ_self _, by rw [hroot]; rfl⟩)) trivial
            · show VarOk _ _ _ _ _ _ _
              rw [swap_N, hev]
              exact VarOk.nowns (by simpa using hc.1) hso
            · have he2 : (appU E [.cont al.j .none])[al.j]? = some ⟨(E.at al.j).iv, (E.at al.j).cv + 1, .none⟩ := List.getElem?_set_self hj
              exact ⟨by rw [hev]; exact hv, by simpa [appU, U.app] using hj, by rw [at_of he2]; rfl⟩
        · cases hh
      · cases hh
    · cases hh

theorem Rep.of_top {w : World} {Pr Q : Nat → Prop} : ∀ {t : Ty} {o : Ow} {cs : List Value} {x : PV t} {bs : List Nat}, Go.Dn.full t o = true → Rep w Pr t (top t) cs x bs → Rep w Q t o cs x bs
  | .int _, _, _, _, _, _, h => h
  | .bool, _, _, _, _, _, h => h
  | .str, _, _, _, _, _, h => h
  | .unit, _, _, _, _, _, h => h
  | .pair a b, o, _, _, _, hf, h => by
    simp only [Go.Dn.full, Bool.and_eq_true] at hf
    obtain ⟨c1, c2, b1, b2, e1, e2, h1, h2⟩ := h
    exact ⟨c1, c2, b1, b2, e1, e2, h1.of_top hf.1, h2.of_top hf.2⟩
  | .slice e t, .row oe, _, xs, bs, hf, h => by
    obtain ⟨v, ys, b', e1, e2, e3, h1⟩ := rep_row.1 h
    exact rep_row.2 ⟨v, ys, b', e1, e2, e3, h1.imp (bsA := b') (fun c x b _ hr => hr.of_top (by simpa [Go.Dn.full] using hf)) (fun _ h => h)⟩
  | .slice _ _, .b, _, _, _, hf, _ => by simp [Go.Dn.full] at hf
  | .slice _ _, .pr _ _, _, _, _, hf, _ => by simp [Go.Dn.full] at hf

theorem pack_inj {t : Ty} {c1 c2 : List Value} (h1 : c1.length = t.size) (h2 : c2.length = t.size) (h : pack t c1 = pack t c2) : c1 = c2 := by
  unfold pack at h
  cases ha : t.agg with
  | true =>
    simp only [ha, if_true, Value.agg.injEq] at h
    simpa using h
  | false =>
    simp only [ha, Bool.false_eq_true, if_false] at h
    have hs : t.size = 1 := by cases t <;> simp [Ty.agg] at ha <;> rfl
    rw [hs] at h1 h2
    obtain ⟨a, rfl⟩ := List.length_eq_one_iff.1 h1
    obtain ⟨b, rfl⟩ := List.length_eq_one_iff.1 h2
    simpa using h

/-- A hole is filled with what stands there already. -/
theorem StB.refill (h : StB w0 Pr0 M E V w Pr B) {N j : Nat} (hN : E.length ≤ N) {v vj : Value} {iV : Bool} {t : Ty} {o o2 o3 : Ow} {z : PV t} {p : List PE} {y : PV (getT p t)} {loc : Nat × Nat}
    (he : E[j]? = some (E.at j)) (hs : (E.at j).s = .hole iV t o z p) (hv : V[j]? = some vj) (hl : locOf w iV t vj p = some loc) (hval : v = pack (getT p t) (readCells w loc.1 loc.2 (getT p t).size))
    (hy : ValOk w Pr v (getT p t) (top (getT p t)) y (B N)) (hfit : fitO p o (getT p t) (top (getT p t)) = some (o2, o3)) (hfull : full (getT p t) o2 = true) :
    StB w0 Pr0 M (U.app E (.cont j (rootS iV t o3 (set p t z y)))) V w Pr (fun k => if k = j then B N ++ B j else if k = N then [] else B k) := by
  have hso := h.slots j _ vj he hv
  rw [hs] at hso
  obtain ⟨b', off', cs', h1, h2, h3, h4, h5, h6, h7, -⟩ := hso
  rw [hl] at h1
  obtain rfl := Option.some.inj h1
  obtain ⟨hset, _⟩ := fitO_ok h5 hfit
  obtain ⟨cs, hv1, hr⟩ := hy
  have hcs : cs = cs' := pack_inj hr.length h3 (by rw [← hv1, hval]; simp only; rw [← h3, h2.read])
  subst hcs
  have hroot := h7 w Pr o2 o3 cs y (B N) (fun _ h => h) (fun _ _ _ => rfl) (h2.upd rfl) (hr.of_top hfull) hset
  have hj := (List.getElem?_eq_some_iff.1 he).1
  have hjN : j ≠ N := by omega
  refine h.pool (fun k => k = j ∨ k = N) (by simp [U.app, h.len]) (by simp [U.app]) (fun k hk => ?_) (fun k e v hk he' hv' => ?_) (fun k hk b hb => ?_) (fun _ h => h) (fun _ h => .inl h)
    (fun k hk => ?_) (fun i k hi hk hne b hb hbk => ?_) (fun _ _ _ => rfl) rfl rfl rfl (Nat.le_refl _)
  · have h1 : k ≠ j := fun e => hk (.inl e)
    have h2 : k ≠ N := fun e => hk (.inr e)
    exact ⟨List.getElem?_set_ne (Ne.symm h1), rfl, by simp [h1, h2]⟩
  · rcases hk with rfl | rfl
    · rw [hv] at hv'
      rw [he] at he'
      obtain rfl := Option.some.inj hv'
      obtain rfl := Option.some.inj he'
      refine ⟨_, _, List.getElem?_set_self hj, hv, ?_, .inr (.inl ⟨rfl, rfl, Nat.lt_succ_self _, ?_⟩)⟩
      · show SlotOk w _ _ _ _ k (rootS iV t o3 (set p t z y)) _
        cases iV with
        | true => show VarOk _ _ _ _ _ _ _; simp only [if_true]; exact hroot
        | false => show ValOk _ _ _ _ _ _ _; simp only [if_true]; exact hroot
      · show (rootS iV t o3 (set p t z y)).ofVal = (E.at k).s.ofVal
        rw [hs]; cases iV <;> rfl
    · have := (List.getElem?_eq_some_iff.1 he').1; omega
  · rcases hk with rfl | rfl
    · simp only [if_true] at hb
      rcases List.mem_append.1 hb with hb | hb
      · exact ⟨.inl ⟨N, .inr rfl, hb⟩, (h.free _ _ hb).2.2⟩
      · exact ⟨.inl ⟨k, .inl rfl, hb⟩, (h.free _ _ hb).2.2⟩
    · simp [Ne.symm hjN] at hb
  · rcases hk with rfl | rfl
    · simp only [if_true]
      exact List.nodup_append.2 ⟨h.nodup N, h.nodup k, fun x hx y hy hxy => h.disj N k (Ne.symm hjN) x hx (hxy ▸ hy)⟩
    · simp [Ne.symm hjN]
  · rcases hi with rfl | rfl <;> rcases hk with rfl | rfl
    · exact hne rfl
    · simp [Ne.symm hjN] at hbk
    · simp [Ne.symm hjN] at hb
    · exact hne rfl

/-! ### the arguments together -/
/-- What is handed over: the blocks l. -/
def HandsOk (w : World) (Pr : Nat → Prop) (E : Env) (V : List Value) : List Nat → List (Mode × Ty) → List Value → List SV → List Bk → List (List Nat) → Prop
  | l, [], [], [], [], bss => bss = [] ∧ l = []
  | l, (.bor, _) :: ps, _ :: vs, _ :: ys, _ :: bs, bss => ∃ bss', bss = [] :: bss' ∧ HandsOk w Pr E V l ps vs ys bs bss'
  | l, (m, t) :: ps, v :: vs, ⟨t', y⟩ :: ys, b :: bs, bss => (m ≠ .bor ∧ ps.all isBor = true ∧ ps.length = vs.length ∧ bs = ps.map (fun _ => Bk.none) ∧ bss = l :: ps.map (fun _ => []) ∧ BkOk w Pr E V (fun _ => []) m t v b ∧ ∃ e : t' = t, HandOk w Pr m t v (e ▸ y) l) ∨
      (m = .own ∧ ∃ l1 l2 bss', l = l1 ++ l2 ∧ bss = l1 :: bss' ∧ (∃ e : t' = t, HandOk w Pr .own t v (e ▸ y) l1) ∧ HandsOk w Pr E V l2 ps vs ys bs bss')
  | _, _, _, _, _, _ => False

theorem appU_app (E : Env) : ∀ (us us' : List U), appU E (us ++ us') = appU (appU E us) us'
  | [], _ => rfl
  | u :: us, us' => appU_app (u.app E) us us'

theorem handAll_ok (hf : Fr off V a) : ∀ {ps : List (Mode × Ty)} {E : Env} {B : Nat → List Nat} {N : Nat} {xs : List Operand} {ys : List SV} {us : List U} {bs : List Bk}, StB w0 Pr0 M E V w Pr B → E.length ≤ N → (∀ k, N ≤ k → B k = []) → handAll E off ps xs = some (ys, us, bs) →
    ∃ B1 bss, StB w0 Pr0 M (appU E us) V w Pr B1 ∧ (appU E us).length = E.length ∧ HandsOk w Pr (appU E us) V (B1 N) ps (xs.map a.eval) ys bs bss ∧ (∀ k, N < k → B1 k = []) ∧ (∀ k, E.length ≤ k → k < N → B1 k = B k) ∧ bss.flatten = B1 N
  | [], E, B, N, [], ys, us, bs, h, hEN, hN, hh => by
    simp only [handAll, Option.some.injEq, Prod.mk.injEq] at hh
    obtain ⟨rfl, rfl, rfl⟩ := hh
    exact ⟨B, [], h, rfl, ⟨rfl, hN _ (Nat.le_refl _)⟩, fun k hk => hN k (by omega), fun _ _ _ => rfl, (hN _ (Nat.le_refl _)).symm⟩
  | (m, t) :: ps, E, B, N, x :: xs, ys, us, bs, h, hEN, hN, hh => by
    simp only [handAll] at hh
    split at hh
    · split at hh
      · rename_i vs us' bs' hh'
        simp only [Option.some.injEq, Prod.mk.injEq] at hh
        obtain ⟨rfl, rfl, rfl⟩ := hh
        obtain ⟨B1, bss, g1, g2, g3, g4, g5, g6⟩ := handAll_ok hf h hEN hN hh'
        exact ⟨B1, [] :: bss, g1, g2, ⟨bss, rfl, g3⟩, g4, g5, by simpa using g6⟩
      · cases hh
    · rename_i hm
      cases hc : ps.all isBor && (ps.length == xs.length) with
      | false =>
        rw [hc] at hh
        simp only [cond_false] at hh
        split at hh
        case h_2 => cases hh
        split at hh
        case h_2 => cases hh
        rename_i y us1 b1 hh1
        split at hh
        case h_2 => cases hh
        rename_i vs us2 bs2 hh2
        simp only [Option.some.injEq, Prod.mk.injEq] at hh
        obtain ⟨rfl, rfl, rfl⟩ := hh
        obtain ⟨B1, g1, g2, g3, g4, g5⟩ := handOver_ok h hf hEN (hN _ (Nat.le_refl _)) hh1
        obtain ⟨B2, bss, k1, k2, k3, k4, k5, k6⟩ := handAll_ok hf (N := N + 1) g1 (by omega) (fun k hk => by rw [g4 k (by omega) (by omega)]; exact hN k (by omega)) hh2
        have e2 : B2 N = B1 N := k5 N (by omega) (by omega)
        have hl : (appU (appU E us1) us2).length ≤ N := by omega
        refine ⟨fun k => if k = N then B1 N ++ B2 (N + 1) else if k = N + 1 then [] else B2 k, B1 N :: bss, ?_, by rw [appU_app]; omega, ?_, fun k hk => ?_, fun k hk hkN => ?_, ?_⟩
        · rw [appU_app]
          refine k1.hand (fun k hk => ?_) (fun k hk b hb => ?_) (fun _ h => h) (fun _ h => .inl h) (fun k hk => ?_) (fun j k hj hk hne b hb hbk => ?_) (fun _ _ _ => rfl) rfl rfl rfl (Nat.le_refl _)
          · rw [if_neg (by omega), if_neg (by omega)]
          · have : ∃ k', (appU (appU E us1) us2).length ≤ k' ∧ b ∈ B2 k' := by
              by_cases e : k = N
              · simp only [e, if_true] at hb
                rcases List.mem_append.1 hb with hb | hb
                · exact ⟨N, by omega, by rw [e2]; exact hb⟩
                · exact ⟨N + 1, by omega, hb⟩
              · by_cases e' : k = N + 1
                · simp [e'] at hb
                · simp only [e, e', if_false] at hb; exact ⟨k, hk, hb⟩
            obtain ⟨k', h1, h2⟩ := this
            exact ⟨.inl ⟨k', h1, h2⟩, (k1.free k' b h2).2.2⟩
          · by_cases e : k = N
            · simp only [e, if_true]
              rw [List.nodup_append]
              refine ⟨e2 ▸ k1.nodup N, k1.nodup (N + 1), fun a ha b hb hab => ?_⟩
              subst hab
              exact k1.disj N (N + 1) (by omega) a (by rw [e2]; exact ha) hb
            · by_cases e' : k = N + 1
              · simp [e']
              · simp only [e, e', if_false]; exact k1.nodup k
          · have key : ∀ j, b ∈ (if j = N then B1 N ++ B2 (N + 1) else if j = N + 1 then [] else B2 j) → ∃ j', b ∈ B2 j' ∧ (j' = j ∨ (j = N ∧ j' = N + 1)) ∧ j ≠ N + 1 := fun j hb => by
              by_cases e : j = N
              · simp only [e, if_true] at hb
                rcases List.mem_append.1 hb with hb | hb
                · exact ⟨N, by rw [e2]; exact hb, .inl e.symm, by omega⟩
                · exact ⟨N + 1, hb, .inr ⟨e, rfl⟩, by omega⟩
              · by_cases e' : j = N + 1
                · simp [e'] at hb
                · simp only [e, e', if_false] at hb; exact ⟨j, hb, .inl rfl, e'⟩
            obtain ⟨j', q1, q2, q3⟩ := key j hb
            obtain ⟨k', p1, p2, p3⟩ := key k hbk
            exact k1.disj j' k' (by omega) b q1 p1
        · rw [appU_app]
          refine .inr ⟨rfl, B1 N, B2 (N + 1), bss, by simp, rfl, ⟨rfl, g3⟩, k3⟩
        · show (if k = N then B1 N ++ B2 (N + 1) else if k = N + 1 then [] else B2 k) = []
          rw [if_neg (by omega)]
          by_cases e' : k = N + 1
          · rw [if_pos e']
          · rw [if_neg e']; exact k4 k (by omega)
        · show (if k = N then B1 N ++ B2 (N + 1) else if k = N + 1 then [] else B2 k) = B k
          rw [if_neg (by omega), if_neg (by omega), k5 k (by omega) (by omega)]
          exact g4 k hk (by omega)
        · simp [k6]
      | true =>
        rw [hc] at hh
        simp only [cond_true] at hh
        rw [Bool.and_eq_true, beq_iff_eq] at hc
        split at hh
        · rename_i y us' b hh'
          simp only [Option.some.injEq, Prod.mk.injEq] at hh
          obtain ⟨rfl, rfl, rfl⟩ := hh
          obtain ⟨B1, g1, g2, g3, g4, g5⟩ := handOver_ok h hf hEN (hN _ (Nat.le_refl _)) hh'
          refine ⟨B1, B1 N :: ps.map (fun _ => []), g1, g2, ?_, fun k hk => by rw [g4 k (by omega) (by omega)]; exact hN k (by omega), fun k hk hkN => g4 k hk (by omega), ?_⟩
          · cases m with
            | bor => exact absurd rfl hm
            | own => exact .inl ⟨hm, hc.1, by simp [hc.2], rfl, rfl, g5, rfl, g3⟩
            | «mut» => exact .inl ⟨hm, hc.1, by simp [hc.2], rfl, rfl, g5, rfl, g3⟩
            | ptr => exact .inl ⟨hm, hc.1, by simp [hc.2], rfl, rfl, g5, rfl, g3⟩
          · have : (ps.map (fun _ => ([] : List Nat))).flatten = [] := by
              clear hh' hc g3 g5 hm
              induction ps <;> simp_all
            simp [this]
        · cases hh
  | [], _, _, _, _ :: _, _, _, _, _, _, _, hh => by simp [handAll] at hh
  | _ :: _, _, _, _, [], _, _, _, _, _, _, hh => by simp [handAll] at hh

theorem StB.unhand (h : StB w0 Pr0 M E V w Pr B) : StB w0 Pr0 M E V w Pr (fun k => if E.length ≤ k then [] else B k) :=
  h.hand (fun k hk => if_neg (by omega)) (fun k hk b hb => by simp [hk] at hb) (fun _ h => h) (fun _ h => .inl h)
    (fun k hk => by simp [hk]) (fun j k hj hk _ b hb => by simp [hj] at hb) (fun _ _ _ => rfl) rfl rfl rfl (Nat.le_refl _)

/-- Of which memory the callee may think that it stays. -/
def PrC (strict : Bool) (E : Env) (Pr : Nat → Prop) (B : Nat → List Nat) : Nat → Prop :=
  fun b => Pr b ∨ (strict = false ∧ ∃ k, k < E.length ∧ b ∈ B k)

theorem HandOk.any {m : Mode} {t : Ty} {v : Value} {x : PV t} {bs : List Nat} (hm : m ≠ .bor) (hQ : ∀ b, Pr b → Q b) (h : HandOk w Pr m t v x bs) : ArgOk w Q m t v x bs := by
  cases m with
  | bor => exact absurd rfl hm
  | own => exact ValOk.full (full_top t) h
  | «mut» => exact ValOk.full (full_top t) h
  | ptr => exact VarOk.more hQ h

theorem lookOne_ok (h : StB w0 Pr0 M E V w Pr B) (hf : Fr off V a) {strict : Bool} {t t' : Ty} {x : Operand} {y : PV t'} (hr : rd E (opdY E off t x).s = some ⟨t', y⟩)
    (hst : (!strict || (opdY E off t x).s.free || noSl t') = true) : ValOk w (PrC strict E Pr B) (a.eval x) t' .b y [] := by
  have ho := opdY_ok h hf t x
  cases hns : noSl t' with
  | true => exact rd_plain h ho hr hns w _ .b
  | false =>
    cases strict with
    | false =>
      obtain ⟨cs, h1, h2⟩ := rd_ok h.unhand ho hr
      refine ⟨cs, h1, h2.more (fun b hb => hb.imp id fun ⟨k, hk⟩ => ⟨rfl, k, ?_⟩)⟩
      by_cases hle : E.length ≤ k
      · simp [hle] at hk
      · simp only [hle, if_false] at hk; exact ⟨by omega, hk⟩
    | true =>
      rw [hns] at hst
      simp only [Bool.not_true, Bool.false_or, Bool.or_false] at hst
      cases hs2 : (opdY E off t x).s <;> rw [hs2] at hst <;> try (cases hst; done)
      · rename_i t2 o2 x2
        rw [hs2] at hr
        simp only [rd] at hr
        obtain ⟨rfl, hx⟩ := Sigma.mk.inj (Option.some.inj hr)
        obtain rfl := eq_of_heq hx
        have hown : owns t2 o2 = false := by simpa [Slot.free] using hst
        have : ∃ bs, ValOk w Pr (a.eval x) t2 o2 x2 bs := by
          cases hix : (opdY E off t x).ix with
          | none => unfold OpdOk at ho; rw [hix, hs2] at ho; exact ⟨[], ho⟩
          | some k => have := opdOk_tmp h ho hix; rw [hs2] at this; exact ⟨_, this⟩
        obtain ⟨bs, hv⟩ := this
        obtain ⟨cs, h1, h2⟩ := ValOk.nowns hown hv
        exact ⟨cs, h1, h2.more (fun b hb => .inl hb)⟩

theorem lookOne_bor (h : StB w0 Pr0 M E V w Pr B) (hf : Fr off V a) {strict : Bool} {t : Ty} {x : Operand} {y : SV} {z : PV t} (hl : lookOne strict E off .bor t x y = some z) : ArgOk w (PrC strict E Pr B) .bor t (a.eval x) z [] := by
  simp only [lookOne] at hl
  split at hl
  · rename_i t' y' hr
    cases hst : (!strict || (opdY E off t x).s.free || noSl t') with
    | false => rw [hst] at hl; cases hl
    | true =>
      rw [hst] at hl
      simp only [cond_true] at hl
      obtain ⟨rfl, rfl⟩ := castTy_some hl
      exact ⟨lookOne_ok h hf hr hst, rfl⟩
  · cases hl

theorem bors_ok (h : StB w0 Pr0 M E V w Pr B) (hf : Fr off V a) {strict : Bool} : ∀ {ps : List (Mode × Ty)} {xs : List Operand} {ys : List SV} {zs : PVs (ps.map (·.2))}, ps.all isBor = true → lookAll strict E off ps xs ys = some zs →
    ArgsOk w (PrC strict E Pr B) ps (xs.map a.eval) zs (ps.map (fun _ => []))
  | [], [], [], _, _, _ => trivial
  | (m, t) :: ps, x :: xs, y :: ys, zs, hb, hl => by
    rw [List.all_cons, Bool.and_eq_true] at hb
    obtain ⟨hb1, hb⟩ := hb
    cases m <;> simp [isBor] at hb1
    simp only [lookAll] at hl
    split at hl
    · rename_i y2 r2 hc hl2
      simp only [Option.some.injEq] at hl
      subst hl
      exact ⟨lookOne_bor h hf hc, bors_ok h hf hb hl2⟩
    · cases hl
  | [], [], _ :: _, _, _, hl => by simp [lookAll] at hl
  | [], _ :: _, _, _, _, hl => by simp [lookAll] at hl
  | _ :: _, [], _, _, _, hl => by simp [lookAll] at hl
  | _ :: _, _ :: _, [], _, _, hl => by simp [lookAll] at hl

theorem lookAll_ok (h : StB w0 Pr0 M E V w Pr B) (hf : Fr off V a) {strict : Bool} : ∀ {l : List Nat} {ps : List (Mode × Ty)} {xs : List Operand} {ys : List SV} {bs : List Bk} {bss : List (List Nat)} {zs : PVs (ps.map (·.2))},
    HandsOk w Pr E V l ps (xs.map a.eval) ys bs bss → lookAll strict E off ps xs ys = some zs → ArgsOk w (PrC strict E Pr B) ps (xs.map a.eval) zs bss
  | l, [], [], [], [], bss, _, hh, _ => by obtain ⟨rfl, _⟩ := hh; trivial
  | l, (m, t) :: ps, x :: xs, y :: ys, b :: bs, bss, zs, hh, hl => by
    cases m with
    | bor =>
      obtain ⟨bss', rfl, hh⟩ := hh
      simp only [lookAll] at hl
      split at hl
      · rename_i y2 r2 hc hl2
        simp only [Option.some.injEq] at hl
        subst hl
        exact ⟨lookOne_bor h hf hc, lookAll_ok h hf hh hl2⟩
      · cases hl
    | _ =>
      obtain ⟨T, Y⟩ := y
      rcases hh with ⟨hm, hb, hlen, rfl, rfl, hbk, e, hh⟩ | ⟨hm, l1, l2, bss', rfl, rfl, ⟨e, hh⟩, hrest⟩
      · subst e
        simp only [lookAll] at hl
        split at hl
        · rename_i y2 r2 hc hl2
          simp only [Option.some.injEq] at hl
          subst hl
          obtain rfl := castTy_self hc
          exact ⟨HandOk.any hm (fun _ hb => .inl hb) hh, bors_ok h hf hb hl2⟩
        · cases hl
      · subst e
        simp only [lookAll] at hl
        split at hl
        · rename_i y2 r2 hc hl2
          simp only [Option.some.injEq] at hl
          subst hl
          obtain rfl := castTy_self hc
          cases hm <;> exact ⟨HandOk.any (by simp) (fun _ hb => .inl hb) hh, lookAll_ok h hf hrest hl2⟩
        · cases hl
  | _, [], _ :: _, _, _, _, _, hh, _ => by simp [HandsOk] at hh
  | _, (m, t) :: ps, [], ys, bs, bss, zs, hh, hl => by cases m <;> cases ys <;> simp [lookAll] at hl
  | _, [], [], _ :: _, _, _, _, hh, _ => by simp [HandsOk] at hh
  | _, [], [], [], _ :: _, _, _, hh, _ => by simp [HandsOk] at hh
  | _, (m, t) :: ps, x :: xs, [], bs, bss, zs, hh, hl => by cases m <;> simp [lookAll] at hl
  | _, (m, t) :: ps, x :: xs, y :: ys, [], bss, zs, hh, hl => by cases m <;> simp [HandsOk] at hh

end
end Go.Dn
end

section
/- Calls by contract, second part: what comes back. -/
namespace Go.Dn

section
variable {w0 : World} {Pr0 M : Nat → Prop}
variable {P : Program} {cx : Cx} {E : Env} {V : List Value} {w w' w1 : World} {Pr Pr' Pr1 Q : Nat → Prop} {B B1 : Nat → List Nat} {off : Nat} {a : Act}

theorem BkOk.move (h : StB w0 Pr0 M E V w Pr B) {m : Mode} {t : Ty} {v : Value} {b : Bk} (hb : BkOk w Q E V B1 m t v b)
    (hw : ∀ k, k < E.length → ∀ b ∈ B k, w'.heap[b]? = w.heap[b]?) : BkOk w' Pr' E V B m t v b := by
  cases m with
  | bor => trivial
  | own => trivial
  | ptr => cases b <;> exact hb
  | «mut» =>
    cases b with
    | none => exact hb
    | val j => exact hb
    | var j => exact hb
    | hol j iV t' o z p =>
      obtain ⟨he, hs, ht, vj, loc, hv, hl, hval⟩ := hb
      refine ⟨he, hs, ht, vj, loc, hv, ?_⟩
      have hj := (List.getElem?_eq_some_iff.1 he).1
      have hso := h.slots j _ vj he hv
      rw [hs] at hso
      obtain ⟨b', off', cs', h1, h2, h3, h4, h5, h6, h7⟩ := hso
      rw [hl] at h1
      obtain rfl := Option.some.inj h1
      have hb' := hw j hj b' h4
      have h2' : HoldsAt w' b' off' cs' := by
        obtain ⟨cur, T, q1, q2⟩ := h2
        exact ⟨cur, T, hb'.trans q1, q2⟩
      refine ⟨h6 w' cs' (fun k hk _ => hw j hj k hk) (h2.upd hb'), ?_⟩
      rw [hval]
      simp only
      rw [← h3, h2.read, h2'.read]

theorem bring_bors : ∀ {ps : List (Mode × Ty)} {vs : List Value} {r : PVs (backs ps)} {us : List U} {bms : List (List Nat)}, ps.all isBor = true → bring ps (ps.map (fun _ => Bk.none)) r = some us →
    BacksOk w Q ps vs r bms → us = [] ∧ bms.flatten = []
  | [], vs, r, us, bms, _, hb, hk => by
    cases vs <;> cases bms <;> simp [BacksOk] at hk
    simp [bring] at hb
    exact ⟨hb, rfl⟩
  | (m, t) :: ps, vs, r, us, bms, ha, hb, hk => by
    rw [List.all_cons, Bool.and_eq_true] at ha
    obtain ⟨ha1, ha⟩ := ha
    cases m <;> simp [isBor] at ha1
    cases vs with
    | nil => cases bms <;> simp [BacksOk] at hk
    | cons v vs =>
      cases bms with
      | nil => simp [BacksOk] at hk
      | cons b bms =>
        obtain ⟨rfl, hk⟩ := hk
        simp only [List.map_cons, bring] at hb
        obtain ⟨h1, h2⟩ := bring_bors ha hb hk
        exact ⟨h1, by simpa using h2⟩

theorem set_same {V : List Value} {j : Nat} {v : Value} (h : V[j]? = some v) : V.set j v = V := by
  apply List.ext_getElem?
  intro i
  rw [List.getElem?_set]
  split
  · rename_i e
    subst e
    split
    · exact h.symm
    · rename_i hlt; rw [List.getElem?_eq_none (by omega)]
  · rfl

theorem owns_b (t : Ty) : owns t .b = false := by induction t <;> simp_all [owns, Ow.fst, Ow.snd]

theorem lay_N {N j : Nat} (hN : E.length ≤ N) (hj : j < E.length) : lay B N j N = [] := by
  have : N ≠ j := by omega
  simp [lay, this]

theorem bring_ok (h : StB w0 Pr0 M E V w Pr B) {N : Nat} (hN : E.length ≤ N) (hbk : ∀ m t v b, BkOk w1 Pr1 E V (fun _ => []) m t v b → BkOk w Pr E V B m t v b) :
    ∀ {l : List Nat} {ps : List (Mode × Ty)} {vs : List Value} {ys : List SV} {bs : List Bk} {bss : List (List Nat)} {r : PVs (backs ps)} {us : List U} {bms : List (List Nat)},
    HandsOk w1 Pr1 E V l ps vs ys bs bss → BacksOk w Pr ps vs r bms → bring ps bs r = some us → bms.flatten = B N →
    ∃ B3, StB w0 Pr0 M (appU E us) V w Pr B3 ∧ (appU E us).length = E.length ∧ (∀ k, E.length ≤ k → k ≠ N → B3 k = B k) ∧ B3 N = []
  | l, [], vs, ys, bs, bss, r, us, bms, hh, hk, hb, hfl => by
    cases vs <;> cases ys <;> cases bs <;> simp [HandsOk] at hh
    cases bms <;> simp [BacksOk] at hk
    simp [bring] at hb
    subst hb
    exact ⟨B, h, rfl, fun _ _ _ => rfl, by simpa using hfl.symm⟩
  | l, (m, t) :: ps, vs, ys, bs, bss, r, us, bms, hh, hk, hb, hfl => by
    cases vs with
    | nil => cases m <;> cases bms <;> simp [BacksOk] at hk
    | cons v vs =>
    cases ys with
    | nil => cases m <;> cases bs <;> simp [HandsOk] at hh
    | cons y ys =>
    cases bs with
    | nil => cases m <;> simp [HandsOk] at hh
    | cons b bs =>
    cases bms with
    | nil => cases m <;> simp [BacksOk] at hk
    | cons bm bms =>
    cases m with
    | bor =>
      obtain ⟨bss', rfl, hh⟩ := hh
      obtain ⟨rfl, hk⟩ := hk
      simp only [bring] at hb
      exact bring_ok h hN hbk hh hk hb (by simpa using hfl)
    | own =>
      obtain ⟨T, Y⟩ := y
      rcases hh with ⟨_, ha, hlen, rfl, rfl, _, e, _⟩ | ⟨_, l1, l2, bss', rfl, rfl, _, hrest⟩
      · obtain ⟨rfl, hk⟩ := hk
        simp only [bring] at hb
        obtain ⟨rfl, h2⟩ := bring_bors ha hb hk
        exact ⟨B, h, rfl, fun _ _ _ => rfl, by rw [← hfl]; simpa using h2⟩
      · obtain ⟨rfl, hk⟩ := hk
        simp only [bring] at hb
        exact bring_ok h hN hbk hrest hk hb (by simpa using hfl)
    | «mut» =>
      obtain ⟨T, Y⟩ := y
      rcases hh with ⟨_, ha, hlen, rfl, rfl, hbk1, e, _⟩ | ⟨hm, _⟩
      case inr => cases hm
      obtain ⟨hv, hk⟩ := hk
      have hbk2 := hbk _ _ _ _ hbk1
      simp only [bring] at hb
      split at hb
      · rename_i j us' hb'
        obtain ⟨rfl, h2⟩ := bring_bors ha hb' hk
        obtain rfl := Option.some.inj hb
        obtain ⟨g1, g2⟩ := hbk2
        have hbm : bm = B N := by rw [← hfl]; simp [h2]
        subst hbm
        have := h.put hN g2 (s := .val t (top t) r.1) (v := v) (ValOk.full (full_top t) hv)
        rw [set_same g1] at this
        exact ⟨_, this, by simp [appU, U.app], fun k hk hne => by simp only [lay]; rw [if_neg (by omega), if_neg hne], lay_N hN g2⟩
      · rename_i j iV t' o z p us' hb'
        obtain ⟨rfl, h2⟩ := bring_bors ha hb' hk
        split at hb
        · rename_i y' o2 o3 hc hfit
          cases hfull : full t o2 with
          | false => rw [hfull] at hb; cases hb
          | true =>
            rw [hfull] at hb
            simp only [cond_true, Option.some.injEq] at hb
            obtain ⟨he, hs, ht, vj, loc, hvj, hl, hval⟩ := hbk2
            subst ht
            obtain rfl := castTy_self hc
            have hbm : bm = B N := by rw [← hfl]; simp [h2]
            subst hbm
            have hj := (List.getElem?_eq_some_iff.1 he).1
            have := h.refill hN he hs hvj hl hval (ValOk.full (full_top _) hv) hfit hfull
            subst hb
            refine ⟨(fun k => if k = j then B N ++ B j else if k = N then [] else B k), ?_, by simp [appU, U.app], fun k hk hne => ?_, ?_⟩
            · cases iV <;> exact this
            · simp only; rw [if_neg (by omega), if_neg hne]
            · have : N ≠ j := by omega
              simp [this]
        · cases hb
      · cases hb
    | ptr =>
      obtain ⟨T, Y⟩ := y
      rcases hh with ⟨_, ha, hlen, rfl, rfl, hbk1, e, _⟩ | ⟨hm, _⟩
      case inr => cases hm
      obtain ⟨hv, hk⟩ := hk
      have hbk2 := hbk _ _ _ _ hbk1
      simp only [bring] at hb
      split at hb
      · rename_i j us' hb'
        obtain ⟨rfl, h2⟩ := bring_bors ha hb' hk
        obtain rfl := Option.some.inj hb
        obtain ⟨g1, g2, g3⟩ := hbk2
        have hbm : bm = B N := by rw [← hfl]; simp [h2]
        subst hbm
        have := h.putC hN g2 (s := .var t .b r.1) (v := v) g1 (by rw [g3]; rfl) hv
        rw [set_same g1] at this
        exact ⟨_, this, by simp [appU, U.app], fun k hk hne => by simp only [lay]; rw [if_neg (by omega), if_neg hne], lay_N hN g2⟩
      · cases hb

/-- What was returned, in a slot. -/
theorem ret_slot {k : Nat} : ∀ {l : List TV} {rv : List Value}, TupOk w Pr l rv (B k) → (∀ x ∈ l, x.t ≠ .unit) → SlotOk w Pr E V B k (retSlot l) (retValue rv)
  | [], _, _, _ => trivial
  | [x], rv, h, hne => by
    cases rv with
    | nil => simp [TupOk] at h
    | cons v rv =>
      cases rv with
      | cons => obtain ⟨_, _, _, _, h⟩ := h; simp [TupOk] at h
      | nil =>
        obtain ⟨b1, b2, hp, h1, h2⟩ := h
        have : b2 = [] := h2
        subst this
        rcases h1 with h1 | h1
        · exact absurd h1 (hne x (by simp))
        · show ValOk w Pr v x.t x.o x.x (B k)
          obtain ⟨cs, q1, q2⟩ := h1
          exact ⟨cs, q1, q2.perm (by simpa using hp.symm)⟩
  | x :: y :: l, rv, h, _ => by
    cases rv with
    | nil => simp [TupOk] at h
    | cons v rv =>
      cases rv with
      | nil => obtain ⟨_, _, _, _, h⟩ := h; simp [TupOk] at h
      | cons u rv => exact ⟨_, rfl, h⟩

theorem noSl_owns : ∀ {t : Ty} {o : Ow}, noSl t = true → owns t o = false
  | .int _, _, _ => rfl
  | .bool, _, _ => rfl
  | .str, _, _ => rfl
  | .unit, _, _ => rfl
  | .pair a b, o, h => by
    simp only [noSl, Bool.and_eq_true] at h
    simp only [owns, noSl_owns h.1, noSl_owns h.2, Bool.or_false]
  | .slice _ _, _, h => by simp [noSl] at h

theorem tup_lend {Pr' : Nat → Prop} : ∀ {rs : List (Ty × Ow)} {x : PVs (rs.map (·.1))} {rv : List Value} {bs : List Nat}, lends rs = false → TupOk w Pr (retList rs x) rv bs → TupOk w Pr' (retList rs x) rv bs
  | [], _, [], _, _, h => h
  | [], _, _ :: _, _, _, h => by simp [retList, TupOk] at h
  | (t, o) :: rs, x, [], _, _, h => by simp [retList, TupOk] at h
  | (t, o) :: rs, x, v :: rv, bs, hn, h => by
    unfold lends at hn
    rw [List.any_cons, Bool.or_eq_false_iff] at hn
    obtain ⟨b1, b2, hp, h1, h2⟩ := h
    refine ⟨b1, b2, hp, ?_, tup_lend hn.2 h2⟩
    rcases h1 with h1 | h1
    · exact .inl h1
    · right
      cases he : Ow.eqb o (top t) with
      | true =>
        obtain rfl := Ow.eqb_eq he
        exact ValOk.full (full_top t) h1
      | false =>
        have hns : noSl t = true := by simpa [he] using hn.1
        obtain ⟨cs, q1, q2⟩ := h1
        have hb := q2.nowns (noSl_owns hns)
        exact ⟨cs, q1, by rw [hb]; exact q2.plain hns⟩

theorem backs_lend : ∀ {ps : List (Mode × Ty)} {vs : List Value} {r : PVs (backs ps)} {bss : List (List Nat)}, ptrs ps = false → BacksOk w Pr ps vs r bss → BacksOk w Pr' ps vs r bss
  | [], [], _, [], _, _ => trivial
  | [], _ :: _, _, _, _, h => by simp [BacksOk] at h
  | [], [], _, _ :: _, _, h => by simp [BacksOk] at h
  | (m, _) :: _, [], _, _, _, h => by cases m <;> simp [BacksOk] at h
  | (m, _) :: _, _ :: _, _, [], _, h => by cases m <;> simp [BacksOk] at h
  | (m, t) :: ps, v :: vs, r, bs :: bss, hn, h => by
    have hn' : ptrs ps = false := by
      unfold ptrs at hn ⊢
      rw [List.any_cons, Bool.or_eq_false_iff] at hn
      exact hn.2
    cases m with
    | bor => exact ⟨h.1, backs_lend hn' h.2⟩
    | own => exact ⟨h.1, backs_lend hn' h.2⟩
    | «mut» => exact ⟨ValOk.full (full_top t) h.1, backs_lend hn' h.2⟩
    | ptr =>
      refine ⟨?_, backs_lend hn' h.2⟩
      unfold ptrs at hn
      rw [List.any_cons, Bool.or_eq_false_iff] at hn
      have hns : noSl t = true := by simpa using hn.1
      obtain ⟨b, cs, bs0, h1, h2, h3, h4⟩ := h.1
      have hb := h3.nowns (owns_b t)
      subst hb
      exact ⟨b, cs, [], h1, h2, h3.plain hns, h4⟩

/-- What an operation, a call too, does. -/
def OpDoes (w0 : World) (Pr0 M : Nat → Prop) (P : Program) (E : Env) (V : List Value) (w : World) (a : Act) (o : Oper) (z : SU) : Prop :=
  ∀ Q : Exit → Act → World → Prop, o.wp P a w (fun a' w' => ∃ v, a' = a.put o.dst v ∧ (appU E z.2).length = E.length ∧ Hand w0 Pr0 M (appU E z.2) V w' z.1 v) Q

theorem OpGood.does {o : Oper} {z : SU} (h : OpGood w0 Pr0 M P E V w a o z) : OpDoes w0 Pr0 M P E V w a o z := by
  obtain ⟨r, w', v, h1, h2, h3, h4⟩ := h
  intro Q
  unfold Oper.wp
  rw [h1]
  rcases h2 with rfl | ⟨rfl, rfl⟩
  · exact ⟨v, rfl, h3, h4⟩
  · exact ⟨undef, rfl, h3, h4⟩

def CtsOk (P : Program) (cx : Cx) : Prop := ∀ k ct, lookup cx.cts k = some ct → FnOk cx.gl P k ct

/-- The variables at the start. -/
def GlOk (g : Glob) (w0 : World) (Pr0 M : Nat → Prop) : Prop := g.ok w0 ∧ ∀ b, g.dom b → Pr0 b ∧ b < w0.heap.size ∧ ¬ M b

theorem HandsOk.flat : ∀ {l : List Nat} {ps : List (Mode × Ty)} {vs : List Value} {ys : List SV} {bs : List Bk} {bss : List (List Nat)}, HandsOk w Pr E V l ps vs ys bs bss → bss.flatten = l
  | l, [], [], [], [], bss, h => by obtain ⟨rfl, h⟩ := h; exact h.symm
  | l, (m, t) :: ps, v :: vs, y :: ys, b :: bs, bss, h => by
    have key : ∀ {l : List (Mode × Ty)}, (l.map (fun _ => ([] : List Nat))).flatten = [] := by intro l; induction l <;> simp_all
    cases m with
    | bor => obtain ⟨bss', rfl, h⟩ := h; simpa using h.flat
    | own =>
      rcases h with ⟨_, _, _, _, rfl, _⟩ | ⟨_, l1, l2, bss', rfl, rfl, _, h⟩
      · simp [key]
      · simp [h.flat]
    | «mut» =>
      rcases h with ⟨_, _, _, _, rfl, _⟩ | ⟨hm, _⟩
      · simp [key]
      · cases hm
    | ptr =>
      rcases h with ⟨_, _, _, _, rfl, _⟩ | ⟨hm, _⟩
      · simp [key]
      · cases hm
  | _, [], _ :: _, _, _, _, h => by simp [HandsOk] at h
  | _, [], [], _ :: _, _, _, h => by simp [HandsOk] at h
  | _, [], [], [], _ :: _, _, h => by simp [HandsOk] at h
  | _, (m, t) :: ps, [], ys, bs, bss, h => by cases m <;> cases ys <;> cases bs <;> simp [HandsOk] at h
  | _, (m, t) :: ps, _ :: _, [], bs, bss, h => by cases m <;> cases bs <;> simp [HandsOk] at h
  | _, (m, t) :: ps, _ :: _, _ :: _, [], bss, h => by cases m <;> simp [HandsOk] at h

theorem ret_unit : ∀ {rs : List (Ty × Ow)} {x : PVs (rs.map (·.1))}, (rs.all fun q => !q.1.isUnit) = true → ∀ y ∈ retList rs x, y.t ≠ .unit
  | [], _, _, y, hy => by simp [retList] at hy
  | (t, o) :: rs, x, h, y, hy => by
    rw [List.all_cons, Bool.and_eq_true] at h
    simp only [retList, List.mem_cons] at hy
    rcases hy with rfl | hy
    · intro e; simp only at e; subst e; exact absurd h.1 (by simp [Ty.isUnit])
    · exact ret_unit h.2 y hy

theorem call_enter {k : FuncId} {fn : Func} (hfn : P.funcs[k]? = some fn) (hb : fn.body.isNone = false) (hn : (fn.name == "runtime.NumGoroutine") = false) (xs : Array Value) (w : World) :
    (callFunc k xs).run P w = .ok (.enter k xs) w := by
  unfold callFunc
  show ((match P.funcs[k]? with | none => _ | some fn => _ : Sem Next)).run P w = _
  rw [hfn]
  simp only [hb, hn, Bool.false_eq_true, if_false]
  rfl

theorem call_ok {R : Type} {K : SU → Option R} {r : R} (hcts : CtsOk P cx) (hgl : GlOk cx.gl w0 Pr0 M) {o : Oper} {c : Call} (hop : o.op = .call c) (h : StB w0 Pr0 M E V w Pr B) (hN : ∀ k, E.length ≤ k → B k = []) (hf : Fr off V a)
    (hs : callK cx E off c K = some r) : ∃ z, K z = some r ∧ OpDoes w0 Pr0 M P E V w a o z := by
  unfold callK at hs
  split at hs
  case h_2 => cases hs
  rename_i fo hfo
  split at hs
  case h_2 => cases hs
  rename_i k hfk
  split at hs
  case h_2 => cases hs
  rename_i ct hct
  split at hs
  case h_2 => cases hs
  rename_i vs us bs hhand
  split at hs
  case h_2 => cases hs
  rename_i xs hlook
  rw [Option.bind_eq_some_iff] at hs
  obtain ⟨rr, hF, hs⟩ := hs
  split at hs
  case h_2 => cases hs
  rename_i us' hbring
  refine ⟨_, hs, ?_⟩
  obtain ⟨B1, bss, g1, g2, g3, g4, -, g5⟩ := handAll_ok hf h (Nat.le_refl _) hN hhand
  have hargs := lookAll_ok g1 hf g3 hlook
  generalize hstr : (lends ct.rets || ptrs ct.pars) = strict at hlook hargs
  have hPrC : ∀ b, PrC strict (appU E us) Pr B1 b → b < w.heap.size := by
    rintro b (hb | ⟨_, k, _, hb⟩)
    · exact g1.prlt b hb
    · exact (g1.free k b hb).2.2
  have hbss : ∀ b ∈ bss.flatten, ¬ PrC strict (appU E us) Pr B1 b ∧ b < w.heap.size := by
    intro b hb
    rw [g5] at hb
    refine ⟨?_, (g1.free _ b hb).2.2⟩
    rintro (hb' | ⟨_, k, hk, hb'⟩)
    · exact (g1.free _ b hb).2.1 hb'
    · exact g1.disj k E.length (by omega) b hb' hb
  obtain ⟨hunit, hcts⟩ := hcts k ct hct
  obtain ⟨⟨fn, hfn, hbody, hname⟩, hcall⟩ := hcts w (PrC strict (appU E us) Pr B1) _ xs bss rr hPrC hargs (by rw [g5]; exact g1.nodup _) hbss (cx.gl.stable w0 w hgl.1 fun b hb => h.frame b (hgl.2 b hb).2.1 (hgl.2 b hb).2.2) (fun b hb => .inl (g1.pr0 b (hgl.2 b hb).1)) hF
  intro Q
  have hval : a.eval fo = .func (.func k) #[] #[] := by
    have ho := opd_ok h hf fo
    have := alias_ok h ho (N := E.length) (hN _ (Nat.le_refl _))
    unfold alias at this
    rw [hfk] at this
    cases hix : (opd E off fo).ix with
    | none => unfold OpdOk at ho; rw [hix, hfk] at ho; exact ho.2
    | some j =>
      have := opdOk_tmp h ho hix
      rw [hfk] at this
      obtain ⟨vs, h1, h2⟩ := this
      cases vs with
      | nil => exact h1
      | cons => exact h2.elim
  have hexec : (execOp a.eval o).run P w = .ok (.enter k ((c.args.map a.eval))) w := by
    have hbn : fn.body.isNone = false := by cases hb : fn.body <;> simp_all
    simp only [execOp, hop, resolve, hfo, hval, Deferred.ofValue]
    show (callFunc k (#[] ++ c.args.map a.eval ++ #[])).run P w = _
    simp only [Array.empty_append, Array.append_empty]
    exact call_enter hfn hbn hname _ _
  unfold Oper.wp
  rw [hexec]
  show Calls P k _ w _
  have hva : (c.args.map a.eval) = (c.args.toList.map a.eval).toArray := by rw [← Array.toList_map]
  rw [hva]
  refine Calls.mono hcall ?_
  rintro e w' ⟨rv, Pr', bv, bms, rfl, k1, k2, k3, k4, k5, k6, k7, k8, k9, k10, k11⟩
  have hnd := List.nodup_append.1 k3
  have hmem : ∀ b, b ∈ bss.flatten ↔ b ∈ B1 E.length := fun b => by rw [g5]
  obtain ⟨Pr2, p1, p2, p3, p4, p5⟩ : ∃ Pr2 : Nat → Prop, (∀ b, Pr b → Pr2 b) ∧ (∀ b, Pr2 b → Pr' b) ∧ (∀ b, Pr2 b → Pr b ∨ (b ∈ B1 E.length ∨ w.heap.size ≤ b) ∧ b < w'.heap.size) ∧ TupOk w' Pr2 (retList ct.rets rr.1) rv bv ∧ BacksOk w' Pr2 ct.pars _ rr.2 bms := by
    cases strict with
    | true =>
      refine ⟨Pr', fun b hb => k5 b (.inl hb), fun _ h => h, fun b hb => ?_, k1, k2⟩
      rcases k6 b hb with (hb' | ⟨hc, _⟩) | ⟨hb', hlt⟩
      · exact .inl hb'
      · cases hc
      · exact .inr ⟨by rw [← hmem]; exact hb', hlt⟩
    | false => exact ⟨Pr, fun _ h => h, fun b hb => k5 b (.inl hb), fun b hb => .inl hb, tup_lend (Bool.or_eq_false_iff.1 hstr).1 k1, backs_lend (Bool.or_eq_false_iff.1 hstr).2 k2⟩
  have hB2 : ∀ k, E.length ≤ k → ∀ b ∈ (if k = E.length then bv else if k = E.length + 1 then bms.flatten else B1 k), b ∈ bv ++ bms.flatten := by
    intro k hk b hb
    split at hb
    · exact List.mem_append_left _ hb
    · split at hb
      · exact List.mem_append_right _ hb
      · rw [g4 k (by omega)] at hb; cases hb
  have h2 : StB w0 Pr0 M (appU E us) V w' Pr2 (fun k => if k = E.length then bv else if k = E.length + 1 then bms.flatten else B1 k) := by
    refine g1.hand (fun k hk => ?_) (fun k hk b hb => ?_) p1 (fun b hb => ?_) (fun k hk => ?_) (fun j k hj hk hne b hb hbk => ?_) (fun b hb hnb => ?_) k7 k8 k9 k10
    · rw [g2] at hk
      rw [if_neg (by omega), if_neg (by omega)]
    · rw [g2] at hk
      have := k4 b (hB2 k hk b hb)
      rw [hmem] at this
      exact ⟨this.1.imp (fun q => ⟨E.length, by omega, q⟩) id, this.2.2⟩
    · rcases p3 b hb with q | ⟨q1, q2⟩
      · exact .inl q
      · refine .inr ⟨q1.imp (fun q => ⟨E.length, by omega, q⟩) id, q2, fun k hk hbk => ?_⟩
        rw [g2] at hk
        exact (k4 b (hB2 k hk b hbk)).2.1 (p2 b hb)
    · rw [g2] at hk
      split
      · exact hnd.1
      · split
        · exact hnd.2.1
        · rw [g4 k (by omega)]; exact List.nodup_nil
    · rw [g2] at hj hk
      by_cases e1 : j = E.length
      · by_cases e2 : k = E.length
        · omega
        · simp only [e1, if_true] at hb
          by_cases e3 : k = E.length + 1
          · have e4 : ¬ (E.length + 1 = E.length) := by omega
            simp only [e3, if_true, e4, if_false] at hbk; exact hnd.2.2 b hb b hbk rfl
          · simp only [e2, e3, if_false] at hbk; rw [g4 k (by omega)] at hbk; cases hbk
      · by_cases e3 : j = E.length + 1
        · have e4 : ¬ (E.length + 1 = E.length) := by omega
          simp only [e3, if_true, e4, if_false] at hb
          by_cases e2 : k = E.length
          · simp only [e2, if_true] at hbk; exact hnd.2.2 b hbk b hb rfl
          · have e5 : ¬ (k = E.length + 1) := by omega
            simp only [e2, e5, if_false] at hbk; rw [g4 k (by omega)] at hbk; cases hbk
        · simp only [e1, e3, if_false] at hb; rw [g4 j (by omega)] at hb; cases hb
    · refine k11 b hb fun q => ?_
      rw [hmem] at q
      exact hnb _ (by omega) q
  have hmove : ∀ m t v b, BkOk w Pr (appU E us) V B1 m t v b → BkOk w' Pr2 (appU E us) V (fun k => if k = E.length then bv else if k = E.length + 1 then bms.flatten else B1 k) m t v b := by
    intro m t v b hb
    have := BkOk.move (w' := w') (Pr' := Pr2) g1 hb (fun k hk b hb => k11 b (g1.free k b hb).2.2 (fun q => by rw [hmem] at q; exact g1.disj k E.length (by omega) b hb q))
    cases m <;> cases b <;> exact this
  obtain ⟨B3, q1, q2, q3, q4⟩ := bring_ok h2 (N := E.length + 1) (by omega) hmove g3 p5 hbring (by
    have e4 : ¬ (E.length + 1 = E.length) := by omega
    show _ = (if E.length + 1 = E.length then bv else if E.length + 1 = E.length + 1 then bms.flatten else B1 (E.length + 1))
    rw [if_neg e4, if_pos rfl])
  have hu : appU E (us ++ us') = appU (appU E us) us' := appU_append ..
  refine ⟨_, rfl, by simp only [hu]; omega, Pr2, B3, ?_, ?_, ?_⟩
  · simp only [hu]; exact q1
  · have hlen : (appU E (us ++ us')).length = E.length := by rw [hu]; omega
    show SlotOk _ _ _ _ _ (appU E (us ++ us')).length _ _
    rw [hlen]
    refine ret_slot ?_ ?_
    · rw [q3 E.length (by omega) (by omega), if_pos rfl]; exact p4
    · exact ret_unit hunit
  · intro k hk
    have hlen : (appU E (us ++ us')).length = E.length := by rw [hu]; omega
    simp only at hk
    rw [hlen] at hk
    by_cases e : k = E.length + 1
    · rw [e, q4]
    · rw [q3 k (by omega) e]
      have e2 : ¬ (k = E.length) := by omega
      simp only [e, e2, if_false]
      exact g4 k (by omega)

end
end Go.Dn
end

section
/- An operation looks at no more than what its operands name. -/
namespace Go.Dn

def rootsOf : Slot → List Nat
  | .sub a => [a.j]
  | .addr a => [a.j]
  | .view a _ _ => [a.j]
  | .fn _ caps => caps.map (·.j)
  | _ => []

def Loc (E E2 : Env) (k : Nat) : Prop := E.at k = E2.at k ∧ ∀ j ∈ rootsOf (E.at k).s, E.at j = E2.at j
def LocX (E E2 : Env) (off : Nat) : Operand → Prop
  | .tmp t => Loc E E2 (off + t)
  | _ => True

def DLoc (E E2 : Env) (d : Opd) : Prop := (∀ j ∈ rootsOf d.s, E.at j = E2.at j) ∧ ∀ k, d.ix = some k → E.at k = E2.at k

section
variable {E E2 : Env} {off : Nat} {cx : Cx}

theorem opd_d {x : Operand} (h : LocX E E2 off x) : opd E2 off x = opd E off x ∧ DLoc E E2 (opd E off x) := by
  cases x with
  | tmp t =>
    obtain ⟨h1, h2⟩ := h
    exact ⟨by simp only [opd, h1], h2, fun k hk => by cases hk; exact h1⟩
  | const v => exact ⟨rfl, by cases v <;> simp [opd, constS, rootsOf], fun k hk => by cases hk⟩
  | func f => exact ⟨rfl, by simp [opd, rootsOf], fun k hk => by cases hk⟩
  | global g => exact ⟨rfl, by simp [opd, rootsOf], fun k hk => by cases hk⟩

theorem opdT_d {x : Operand} {t : TypeId} (h : LocX E E2 off x) : opdT cx E2 off t x = opdT cx E off t x ∧ DLoc E E2 (opdT cx E off t x) := by
  unfold opdT
  split
  · split
    · exact ⟨rfl, by simp [rootsOf], fun k hk => by cases hk⟩
    · exact ⟨rfl, by simp [rootsOf], fun k hk => by cases hk⟩
  · exact opd_d h

theorem opdY_d {x : Operand} {t : Ty} (h : LocX E E2 off x) : opdY E2 off t x = opdY E off t x ∧ DLoc E E2 (opdY E off t x) := by
  unfold opdY
  split
  · split
    · exact ⟨rfl, by simp [rootsOf], fun k hk => by cases hk⟩
    · exact ⟨rfl, by simp [rootsOf], fun k hk => by cases hk⟩
  · exact opd_d h

theorem okS_r {a : Al} (h : E.at a.j = E2.at a.j) : a.okS E2 = a.okS E := by simp only [Al.okS, h]
theorem okA_r {a : Al} (h : E.at a.j = E2.at a.j) : a.okA E2 = a.okA E := by simp only [Al.okA, h]
theorem okC_r {a : Al} (h : E.at a.j = E2.at a.j) : a.okC E2 = a.okC E := by simp only [Al.okC, h]

theorem rd_r {d : Opd} (h : DLoc E E2 d) : rd E2 d.s = rd E d.s := by
  obtain ⟨h, _⟩ := h
  cases hs : d.s <;> rw [hs] at h <;> simp only [rd]
  · rename_i a
    have := h a.j (by simp [rootsOf])
    simp only [okS_r this, this]
  · rename_i a t x
    have := h a.j (by simp [rootsOf])
    simp only [okC_r this, this]

theorem take_r {d : Opd} (h : DLoc E E2 d) : take E2 d = take E d := by
  obtain ⟨h, _⟩ := h
  cases hs : d.s <;> rw [hs] at h <;> simp only [take, hs]
  · rename_i a
    have := h a.j (by simp [rootsOf])
    simp only [okS_r this, this]

theorem alias_r {d : Opd} (h : DLoc E E2 d) : alias E2 d = alias E d := by
  obtain ⟨_, h⟩ := h
  cases hs : d.s <;> cases hx : d.ix <;> simp only [alias, hs, hx]
  · rw [h _ hx]
  · rw [h _ hx]

theorem place_r {d : Opd} (h : DLoc E E2 d) : place E2 d = place E d := by
  obtain ⟨h', h⟩ := h
  unfold place
  cases hs : d.s <;> cases hx : d.ix <;> rw [hs] at h' <;> (try (simp only []; done)) <;> (try rfl)
  · simp only []
    rw [h _ hx]
  · rename_i iV _ _ _ _ _
    cases iV
    · rfl
    · simp only []
      rw [h _ hx]
  · rename_i a
    show (bif a.okA E2 then some a else none) = (bif a.okA E then some a else none)
    rw [okA_r (h' a.j (by simp [rootsOf]))]
  · rename_i a _
    show (bif a.okA E2 then some a else none) = (bif a.okA E then some a else none)
    rw [okA_r (h' a.j (by simp [rootsOf]))]

theorem place_root {d : Opd} (h : DLoc E E2 d) {a : Al} (hp : place E d = some a) : E.at a.j = E2.at a.j := by
  obtain ⟨h', h⟩ := h
  unfold place at hp
  split at hp
  · rename_i k hs hx
    cases hp
    exact h _ hx
  · rename_i k hs hx
    cases hp
    exact h _ hx
  · rename_i b hs
    cases hok : b.okA E <;> rw [hok] at hp <;> cases hp
    rw [hs] at h'
    exact h' _ (by simp [rootsOf])
  · cases hp

theorem alias_root' {d : Opd} (h : DLoc E E2 d) {a : Al} (hp : alias E d = .sub a) : E.at a.j = E2.at a.j := by
  obtain ⟨h', h⟩ := h
  unfold alias at hp
  split at hp <;> try (cases hp; done)
  · rename_i t o x k hs hx
    cases hown : owns t o <;> rw [hown] at hp <;> cases hp
    exact h _ hx
  · rename_i t o x hs hx
    cases hown : owns t o <;> rw [hown] at hp <;> cases hp
  · rename_i b hs
    cases hp
    rw [‹d.s = _›] at h'
    exact h' _ (by simp [rootsOf])

/-! ### .. after updates -/
def U.ix : U → Nat
  | .new k _ => k
  | .cont k _ => k
  | .hol k _ => k
def U.slot : U → Slot
  | .new _ s => s
  | .cont _ s => s
  | .hol _ s => s

theorem at_set (E : Env) (k j : Nat) (e : Ent) : Env.at (E.set k e) j = if j = k ∧ k < E.length then e else E.at j := by
  unfold Env.at
  rw [List.getD_eq_getElem?_getD, List.getD_eq_getElem?_getD, List.getElem?_set]
  by_cases h : k = j
  · subst h
    by_cases h2 : k < E.length
    · simp [h2]
    · simp [h2]
  · have : ¬ (j = k) := fun e => h e.symm
    simp [h, this]

theorem U.app_len (u : U) (E : Env) : (u.app E).length = E.length := by cases u <;> simp [U.app]

theorem appU_len : ∀ (us : List U) (E : Env), (appU E us).length = E.length
  | [], _ => rfl
  | u :: us, E => by rw [appU, appU_len us, U.app_len]

theorem U.app_at {u : U} (hl : E.length = E2.length) {k : Nat} (h : E.at k = E2.at k) : (u.app E).at k = (u.app E2).at k := by
  cases u <;> simp only [U.app, at_set, hl] <;> split
  all_goals first | exact h | (rename_i hk; rw [← hk.1, h])

theorem U.app_ne {u : U} {k : Nat} (h : k ≠ u.ix) : (u.app E).at k = E.at k := by
  cases u <;> simp only [U.app, at_set] <;> rw [if_neg (fun q => h q.1)]

theorem appU_at : ∀ {us : List U} {E E2 : Env}, E.length = E2.length → ∀ {k : Nat}, E.at k = E2.at k → (appU E us).at k = (appU E2 us).at k
  | [], _, _, _, _, h => h
  | u :: us, E, E2, hl, _, h => appU_at (us := us) (by simp [U.app_len, hl]) (U.app_at hl h)

theorem appU_ne : ∀ {us : List U} {E : Env} {k : Nat}, (∀ u ∈ us, k ≠ u.ix) → (appU E us).at k = E.at k
  | [], _, _, _ => rfl
  | u :: us, E, k, h => by
    rw [appU, appU_ne (us := us) (fun v hv => h v (List.mem_cons_of_mem _ hv)), U.app_ne (h u (List.mem_cons_self ..))]

/-- What an update lays down names no other slot. -/
def RF (us : List U) : Prop := ∀ u ∈ us, rootsOf u.slot = []

theorem RF.nil : RF [] := fun _ h => by cases h
theorem RF.append {us us' : List U} (h : RF us) (h' : RF us') : RF (us ++ us') := fun u hu => (List.mem_append.1 hu).elim (h u) (h' u)

theorem Loc.app {u : U} (hu : rootsOf u.slot = []) (hl : E.length = E2.length) {k : Nat} (h : Loc E E2 k) : Loc (u.app E) (u.app E2) k := by
  refine ⟨U.app_at hl h.1, fun j hj => ?_⟩
  by_cases hk : k = u.ix ∧ u.ix < E.length
  · have : ((u.app E).at k).s = u.slot := by cases u <;> simp only [U.app, at_set, U.slot] <;> simp only [U.ix] at hk <;> rw [if_pos hk]
    rw [this, hu] at hj; cases hj
  · have : (u.app E).at k = E.at k := by cases u <;> simp only [U.app, at_set] <;> simp only [U.ix] at hk <;> rw [if_neg hk]
    rw [this] at hj
    exact U.app_at hl (h.2 j hj)

theorem Loc.appU : ∀ {us : List U} {E E2 : Env}, RF us → E.length = E2.length → ∀ {k : Nat}, Loc E E2 k → Loc (Dn.appU E us) (Dn.appU E2 us) k
  | [], _, _, _, _, _, h => h
  | u :: us, E, E2, hr, hl, _, h => Loc.appU (us := us) (fun v hv => hr v (List.mem_cons_of_mem _ hv)) (by simp [U.app_len, hl]) (Loc.app (hr u (List.mem_cons_self ..)) hl h)

theorem LocX.appU {us : List U} (hr : RF us) (hl : E.length = E2.length) {x : Operand} (h : LocX E E2 off x) : LocX (Dn.appU E us) (Dn.appU E2 us) off x := by
  cases x with
  | tmp t => exact Loc.appU hr hl h
  | _ => trivial

theorem take_rf {d : Opd} {v : TV} {us : List U} (h : take E d = some (v, us)) : RF us := by
  unfold take at h
  intro u hu
  split at h
  · rename_i t o x hs
    cases hown : owns t o <;> rw [hown] at h
    · cases h; cases hu
    · cases hx : d.ix <;> rw [hx] at h <;> cases h
      · cases hu
      · cases hu with
        | head => rfl
        | tail _ h => cases h
  · rename_i a hs
    cases hok : a.okS E <;> rw [hok] at h
    · cases h
    · simp only [cond_true] at h
      split at h
      · rename_i t o x hr
        cases hown : owns (getT a.p t) (getO a.p o) <;> rw [hown] at h
        · cases h; cases hu
        · cases hp : isNil a.p <;> rw [hp] at h <;> cases h <;> cases hu with
          | head => rfl
          | tail _ h => cases h
      · rename_i t o x hr
        cases hown : owns (getT a.p t) (getO a.p o) <;> rw [hown] at h
        · cases h; cases hu
        · cases h; cases hu with
          | head => rfl
          | tail _ h => cases h
      · cases h
  · cases h

theorem takeL_loc : ∀ {ps : List (Ty × Operand)} {E E2 : Env}, E.length = E2.length → (∀ q ∈ ps, LocX E E2 off q.2) → takeL off E2 ps = takeL off E ps ∧ ∀ vs us, takeL off E ps = some (vs, us) → RF us
  | [], _, _, _, _ => ⟨rfl, fun vs us h => by simp [takeL] at h; rw [h.2]; exact RF.nil⟩
  | (t, x) :: ps, E, E2, hl, h => by
    have hx := opdY_d (t := t) (h (t, x) (List.mem_cons_self ..))
    simp only at hx
    have ht : take E2 (opdY E off t x) = take E (opdY E off t x) := take_r hx.2
    simp only [takeL, hx.1, ht]
    cases hv : take E (opdY E off t x) with
    | none => exact ⟨rfl, fun vs us h => by simp at h⟩
    | some q =>
      obtain ⟨v, us⟩ := q
      have hr := take_rf hv
      obtain ⟨g1, g2⟩ := takeL_loc (ps := ps) (E := appU E us) (E2 := appU E2 us) (by simp [appU_len, hl]) (fun q hq => LocX.appU hr hl (h q (List.mem_cons_of_mem _ hq)))
      refine ⟨by simp only [g1], fun vs us' hh => ?_⟩
      cases hv2 : takeL off (appU E us) ps with
      | none => simp [hv2] at hh
      | some q =>
        obtain ⟨vs2, us2⟩ := q
        simp only [hv2, Option.some.injEq, Prod.mk.injEq] at hh
        rw [← hh.2]
        exact hr.append (g2 _ _ hv2)

theorem placesOf_loc : ∀ {xs : List Operand}, (∀ x ∈ xs, LocX E E2 off x) → placesOf E2 off xs = placesOf E off xs
  | [], _ => rfl
  | x :: xs, h => by
    have hx := opd_d (h x (List.mem_cons_self ..))
    simp only [placesOf, hx.1, place_r hx.2, placesOf_loc fun y hy => h y (List.mem_cons_of_mem _ hy)]

theorem bound_loc {d : Int} : ∀ {y : Option Operand}, (∀ x, y = some x → LocX E E2 off x) → bound E2 off d y = bound E off d y
  | none, _ => rfl
  | some y, h => by
    have hx := opd_d (h y rfl)
    simp only [bound, hx.1, rd_r hx.2]

theorem look_r {a : Al} (h : E.at a.j = E2.at a.j) : look E2 a = look E a := by simp only [look, h]
theorem ownsAt_r {a : Al} (h : E.at a.j = E2.at a.j) : ownsAt E2 a = ownsAt E a := by simp only [ownsAt, h]

def LocO (E E2 : Env) (off : Nat) (o : Op) : Prop :=
  match o with
  | .move (.tmp t) => E.at (off + t) = E2.at (off + t)
  | .move _ => True
  | o => ∀ x ∈ o.operands.toList, LocX E E2 off x

theorem alias_none {E E2 : Env} (s : Slot) : alias E2 ⟨none, s⟩ = alias E ⟨none, s⟩ := by cases s <;> rfl

variable {R : Type} {K : SU → Option R}

theorem stepK_loc {o : Oper} (hl : E.length = E2.length) (h : LocO E E2 off o.op) : stepK cx E2 off o K = stepK cx E off o K := by
  unfold stepK
  unfold LocO at h
  cases hop : o.op <;> rw [hop] at h <;> (try rfl) <;> (try simp only [])
  case move x =>
    cases x with
    | tmp t =>
      have h' : E.at (off + t) = E2.at (off + t) := h
      have e : opd E2 off (.tmp t) = opd E off (.tmp t) := by simp only [opd, h']
      have a : alias E2 (opd E off (.tmp t)) = alias E (opd E off (.tmp t)) := by
        unfold opd alias
        simp only
        rw [h']
        cases (E2.at (off + t)).s <;> (first | rfl | (simp only [h']))
      rw [e]
      split
      · rfl
      · rw [a]
    | const v =>
      have a : alias E2 (opd E off (.const v)) = alias E (opd E off (.const v)) := alias_none _
      rw [show opd E2 off (.const v) = opd E off (.const v) from rfl]
      split
      · rfl
      · rw [a]
    | func v =>
      have a : alias E2 (opd E off (.func v)) = alias E (opd E off (.func v)) := alias_none _
      rw [show opd E2 off (.func v) = opd E off (.func v) from rfl]
      split
      · rfl
      · rw [a]
    | global v =>
      have a : alias E2 (opd E off (.global v)) = alias E (opd E off (.global v)) := alias_none _
      rw [show opd E2 off (.global v) = opd E off (.global v) from rfl]
      split
      · rfl
      · rw [a]
  case assign x =>
    have hx := opd_d (h x (by simp [Op.operands]))
    have hT := opdT_d (cx := cx) (t := o.type) (h x (by simp [Op.operands]))
    rw [hx.1, alias_r hx.2, hT.1, take_r hT.2]
  case pick c x y =>
    have h1 := opd_d (h c (by simp [Op.operands]))
    have h2 := opd_d (h x (by simp [Op.operands]))
    have h3 := opd_d (h y (by simp [Op.operands]))
    rw [h1.1, h2.1, h3.1, rd_r h1.2, rd_r h2.2, rd_r h3.2]
  case box t x =>
    have hT := opdT_d (cx := cx) (t := t) (h x (by simp [Op.operands]))
    rw [hT.1, take_r hT.2]
  case build t ps =>
    cases lookup cx.tab t with
    | none => rfl
    | some t =>
      have := takeL_loc (off := off) (ps := ps.toList.map fun q => (getT (fpath q.1) t, q.2)) hl (fun q hq => by
        simp only [List.mem_map] at hq
        obtain ⟨p, hp, rfl⟩ := hq
        exact h _ (by simp only [Op.operands]; exact List.mem_map.2 ⟨p, hp, rfl⟩))
      simp only [this.1]
  case buildSlice t n ps =>
    cases hlk : lookup cx.tab t with
    | none => rfl
    | some T =>
      cases T <;> simp only
      rename_i e t'
      have := takeL_loc (off := off) (ps := ps.toList.map fun q => (t', q.2)) hl (fun q hq => by
        simp only [List.mem_map] at hq
        obtain ⟨p, hp, rfl⟩ := hq
        exact h _ (by simp only [Op.operands]; exact List.mem_map.2 ⟨p, hp, rfl⟩))
      simp only [this.1]
  case load t x =>
    have hx := opd_d (h x (by simp [Op.operands]))
    rw [hx.1, place_r hx.2]
    cases hp : place E (opd E off x) with
    | none => rfl
    | some a =>
      have := place_root hx.2 hp
      simp only [look_r this, this]
  case store t x y =>
    have hT := opdT_d (cx := cx) (t := t) (h y (by simp [Op.operands]))
    rw [hT.1, take_r hT.2]
    cases lookup cx.tab t with
    | none => rfl
    | some T =>
      cases hv : take E (opdT cx E off t y) with
      | none => rfl
      | some q =>
        obtain ⟨v, us⟩ := q
        have hr := take_rf hv
        have hx := opd_d (LocX.appU hr hl (h x (by simp [Op.operands])))
        simp only [hx.1, place_r hx.2]
        cases hp : place (appU E us) (opd (appU E us) off x) with
        | none => rfl
        | some a =>
          have := place_root hx.2 hp
          simp only [this]
  case nilCheck x =>
    have hx := opd_d (h x (by simp [Op.operands]))
    rw [hx.1, place_r hx.2]
    cases hp : place E (opd E off x) with
    | none => rfl
    | some a =>
      have := place_root hx.2 hp
      simp only [this]
  case fieldAddr t x f =>
    have hx := opd_d (h x (by simp [Op.operands]))
    rw [hx.1, place_r hx.2]
    cases hp : place E (opd E off x) with
    | none => rfl
    | some a =>
      have := place_root hx.2 hp
      simp only [this]
  case indexAddr t x i =>
    have hx := opd_d (h x (by simp [Op.operands]))
    have hi := opd_d (h i (by simp [Op.operands]))
    rw [hx.1, hi.1, rd_r hi.2, rd_r hx.2, place_r hx.2, alias_r hx.2]
    have h1 : ∀ a, place E (opd E off x) = some a → E2.at a.j = E.at a.j := fun a hp => (place_root hx.2 hp).symm
    have h2 : ∀ a, alias E (opd E off x) = .sub a → E2.at a.j = E.at a.j := fun a hp => (alias_root' hx.2 hp).symm
    cases hp : place E (opd E off x) with
    | none =>
      cases ha : alias E (opd E off x) with
      | sub b => simp only [Al.okS, Al.okC, ownsAt_r (h2 b ha).symm, h2 b ha]
      | _ => rfl
    | some a =>
      cases ha : alias E (opd E off x) with
      | sub b => simp only [Al.okS, Al.okC, ownsAt_r (h2 b ha).symm, h2 b ha, h1 a hp]
      | _ => simp only [h1 a hp]
  case index t x i =>
    have hx := opd_d (h x (by simp [Op.operands]))
    have hi := opd_d (h i (by simp [Op.operands]))
    rw [hx.1, hi.1, rd_r hi.2, rd_r hx.2]
  case binOp op t x y s =>
    have hx := opdT_d (cx := cx) (t := t) (h x (by simp [Op.operands]))
    have hy := opdT_d (cx := cx) (t := t) (h y (by simp [Op.operands]))
    rw [hx.1, hy.1, rd_r hx.2, rd_r hy.2]
  case unOp op t x =>
    have hx := opd_d (h x (by simp [Op.operands]))
    rw [hx.1, rd_r hx.2]
  case convert s d x =>
    have hx := opd_d (h x (by simp [Op.operands]))
    rw [hx.1, rd_r hx.2]
  case makeFunc fn first captured =>
    cases fn <;> try rfl
    simp only
    rw [placesOf_loc (off := off) (xs := captured.toList) fun x hx => h x (by simp [Op.operands]; exact .inr (by simpa using hx))]
  case makeSlice t l c =>
    have hx := opd_d (h l (by simp [Op.operands]))
    have hy := opd_d (h c (by simp [Op.operands]))
    rw [hx.1, hy.1, rd_r hx.2, rd_r hy.2]
  case slice t x lo hi mx =>
    cases mx with
    | some m => rfl
    | none =>
      have hx := opd_d (h x (by simp [Op.operands]))
      have hb1 : ∀ d, bound E2 off d lo = bound E off d lo := fun d => bound_loc fun y hy => h y (by simp [Op.operands, hy])
      have hb2 : ∀ d, bound E2 off d hi = bound E off d hi := fun d => bound_loc fun y hy => h y (by simp [Op.operands, hy])
      simp only [hx.1, rd_r hx.2, alias_r hx.2, take_r hx.2, hb1, hb2]
      have h1 : ∀ a, alias E (opd E off x) = .sub a → E2.at a.j = E.at a.j := fun a hp => (alias_root' hx.2 hp).symm
      cases ha : alias E (opd E off x) <;> simp only
      simp only [h1 _ ha]
  case extract x i =>
    have hx := opd_d (h x (by simp [Op.operands]))
    rw [hx.1]
  case call c =>
    have hargs : ∀ x ∈ c.args.toList, LocX E E2 off x := fun x hx => h x (by
      simp only [Op.operands, Call.operands, Array.toList_append, List.mem_append]
      exact .inr hx)
    split
    · rename_i x hc hx
      rw [hx] at hargs
      split
      · rename_i tid _
        have hx := opdT_d (cx := cx) (t := tid) (hargs x (by simp))
        rw [hx.1, rd_r hx.2]
      · rfl
    · rename_i x y hc hx
      rw [hx] at hargs
      have hx := opd_d (hargs x (by simp))
      have hy := opd_d (hargs y (by simp))
      rw [hx.1, hy.1, rd_r hx.2, rd_r hy.2]
    · rename_i x y hc hx
      rw [hx] at hargs
      have hx := opd_d (hargs x (by simp))
      have hy := opd_d (hargs y (by simp))
      rw [hx.1, hy.1, rd_r hx.2, rd_r hy.2]
    · rename_i x y hc hx
      rw [hx] at hargs
      have hT := opdT_d (cx := cx) (t := c.argTypes.getD 0 0) (hargs x (by simp))
      rw [hT.1, take_r hT.2]
      cases hv : take E (opdT cx E off (c.argTypes.getD 0 0) x) with
      | none =>
        cases hlk : lookup cx.tab (c.argTypes.getD 0 0) with
        | none => rfl
        | some T => cases T <;> rfl
      | some q =>
        obtain ⟨v, us⟩ := q
        have hr := take_rf hv
        have hy := opdT_d (cx := cx) (t := c.argTypes.getD 0 0) (LocX.appU hr hl (hargs y (by simp)))
        cases hlk : lookup cx.tab (c.argTypes.getD 0 0) with
        | none => rfl
        | some T =>
          cases T <;> try rfl
          obtain ⟨tv, ov, xv⟩ := v
          cases tv <;> try rfl
          cases ov <;> try rfl
          simp only [hy.1, rd_r hy.2, take_r hy.2]
    · rfl

/-! ### calls -/
theorem handOver_loc {m : Mode} {t : Ty} {x : Operand} (h : LocX E E2 off x) : handOver E2 off m t x = handOver E off m t x ∧ ∀ y us b, handOver E off m t x = some (y, us, b) → RF us := by
  have hx := opd_d h
  have hy := opdY_d (t := t) h
  cases m with
  | bor => exact ⟨rfl, fun _ _ _ hh => by cases hh⟩
  | own =>
    simp only [handOver]
    rw [hy.1, take_r hy.2]
    refine ⟨rfl, fun z us b hh => ?_⟩
    cases hv : take E (opdY E off t x) with
    | none => simp [hv] at hh
    | some q =>
      obtain ⟨v, us'⟩ := q
      simp only [hv] at hh
      split at hh
      · cases hf : full v.t v.o <;> rw [hf] at hh <;> cases hh
        exact take_rf hv
      · cases hh
  | «mut» =>
    simp only [handOver]
    rw [hx.1, alias_r hx.2]
    cases ha : alias E (opd E off x) <;> simp only
    case sub a =>
      have := alias_root' hx.2 ha
      simp only [okS_r this, this]
      refine ⟨trivial, fun z us b hh => ?_⟩
      cases hok : a.okS E <;> rw [hok] at hh
      · cases hh
      · simp only [cond_true] at hh
        split at hh
        · split at hh
          · rename_i t' o z' hr _ _ hc
            cases hf : full (getT a.p t') (getO a.p o) <;> rw [hf] at hh
            · cases hh
            · cases hp : isNil a.p <;> rw [hp] at hh <;> cases hh <;> intro u hu <;> cases hu with
              | head => rfl
              | tail _ h => cases h
          · cases hh
        · split at hh
          · rename_i t' o z' hr _ _ hc
            cases hf : full (getT a.p t') (getO a.p o) <;> rw [hf] at hh <;> cases hh
            intro u hu
            cases hu with
            | head => rfl
            | tail _ h => cases h
          · cases hh
        · cases hh
    all_goals exact ⟨trivial, fun _ _ _ hh => by cases hh⟩
  | ptr =>
    simp only [handOver]
    rw [hx.1, place_r hx.2]
    cases ha : place E (opd E off x) with
    | none => exact ⟨rfl, fun _ _ _ hh => by cases hh⟩
    | some a =>
      have := place_root hx.2 ha
      simp only [this]
      refine ⟨trivial, fun z us b hh => ?_⟩
      split at hh
      · split at hh
        · rename_i t' o z' hr _ y hc
          cases hf : !owns t' o && isNil a.p <;> rw [hf] at hh <;> cases hh
          intro u hu
          cases hu with
          | head => rfl
          | tail _ h => cases h
        · cases hh
      · cases hh

theorem handAll_loc : ∀ {ps : List (Mode × Ty)} {xs : List Operand} {E E2 : Env}, E.length = E2.length → (∀ x ∈ xs, LocX E E2 off x) → handAll E2 off ps xs = handAll E off ps xs ∧ ∀ vs us bs, handAll E off ps xs = some (vs, us, bs) → RF us
  | [], [], _, _, _, _ => ⟨rfl, fun _ _ _ hh => by simp only [handAll, Option.some.injEq, Prod.mk.injEq] at hh; rw [← hh.2.1]; exact RF.nil⟩
  | [], _ :: _, _, _, _, _ => ⟨rfl, fun _ _ _ hh => by simp [handAll] at hh⟩
  | _ :: _, [], _, _, _, _ => ⟨rfl, fun _ _ _ hh => by simp [handAll] at hh⟩
  | (m, t) :: ps, x :: xs, E, E2, hl, h => by
    have ho := handOver_loc (m := m) (t := t) (h x (List.mem_cons_self ..))
    cases m with
    | bor =>
      have ih := handAll_loc (ps := ps) (xs := xs) hl fun y hy => h y (List.mem_cons_of_mem _ hy)
      simp only [handAll, ih.1]
      refine ⟨trivial, fun vs us bs hh => ?_⟩
      cases hr : handAll E off ps xs with
      | none => simp [hr] at hh
      | some q =>
        obtain ⟨v, u, b⟩ := q
        simp only [hr, Option.some.injEq, Prod.mk.injEq] at hh
        rw [← hh.2.1]
        exact ih.2 _ _ _ hr
    | own =>
      simp only [handAll, ho.1]
      cases hc : ps.all isBor && (ps.length == xs.length) with
      | true =>
        refine ⟨rfl, fun vs us bs hh => ?_⟩
        simp only [cond_true] at hh
        split at hh
        · rename_i y u b hv
          simp only [Option.some.injEq, Prod.mk.injEq] at hh
          rw [← hh.2.1]
          exact ho.2 _ _ _ hv
        · cases hh
      | false =>
        simp only [cond_false]
        cases hv : handOver E off .own t x with
        | none => exact ⟨rfl, fun _ _ _ hh => by cases hh⟩
        | some q =>
          obtain ⟨y, us1, b1⟩ := q
          have hrf := ho.2 _ _ _ hv
          have ih := handAll_loc (ps := ps) (xs := xs) (E := appU E us1) (E2 := appU E2 us1) (by rw [appU_len, appU_len, hl]) fun y hy => LocX.appU hrf hl (h y (List.mem_cons_of_mem _ hy))
          simp only [ih.1]
          refine ⟨trivial, fun vs us bs hh => ?_⟩
          cases hr : handAll (appU E us1) off ps xs with
          | none => simp [hr] at hh
          | some q =>
            obtain ⟨v, u, b⟩ := q
            simp only [hr, Option.some.injEq, Prod.mk.injEq] at hh
            rw [← hh.2.1]
            exact hrf.append (ih.2 _ _ _ hr)
    | _ =>
      simp only [handAll, ho.1]
      refine ⟨trivial, fun vs us bs hh => ?_⟩
      cases hc : ps.all isBor && (ps.length == xs.length) with
      | true =>
        rw [hc] at hh
        simp only [cond_true] at hh
        split at hh
        · rename_i y u b hv
          simp only [Option.some.injEq, Prod.mk.injEq] at hh
          rw [← hh.2.1]
          exact ho.2 _ _ _ hv
        · cases hh
      | false => rw [hc] at hh; cases hh

theorem lookAll_loc {st : Bool} : ∀ {ps : List (Mode × Ty)} {xs : List Operand} {vs : List SV}, (∀ x ∈ xs, LocX E E2 off x) → lookAll st E2 off ps xs vs = lookAll st E off ps xs vs
  | [], [], [], _ => rfl
  | [], [], _ :: _, _ => rfl
  | [], _ :: _, _, _ => rfl
  | _ :: _, [], _, _ => rfl
  | _ :: _, _ :: _, [], _ => rfl
  | (m, t) :: ps, x :: xs, v :: vs, h => by
    have hy := opdY_d (t := t) (h x (List.mem_cons_self ..))
    have ih := lookAll_loc (st := st) (ps := ps) (xs := xs) (vs := vs) fun y hy => h y (List.mem_cons_of_mem _ hy)
    have : lookOne st E2 off m t x v = lookOne st E off m t x v := by
      cases m <;> simp only [lookOne]
      rw [hy.1, rd_r hy.2]
    simp only [lookAll, ih, this]

theorem callK_loc {c : Call} (hl : E.length = E2.length) (h : ∀ x ∈ c.operands.toList, LocX E E2 off x) : callK cx E2 off c K = callK cx E off c K := by
  unfold callK
  have hargs : ∀ x ∈ c.args.toList, LocX E E2 off x := fun x hx => h x (by
    simp only [Call.operands, Array.toList_append, List.mem_append]
    exact .inr hx)
  split
  · rename_i fo hfo
    have hf := opd_d (h fo (by simp [Call.operands, hfo]))
    rw [hf.1]
    cases (opd E off fo).s <;> try rfl
    rename_i k caps
    cases caps <;> try rfl
    cases hlk : lookup cx.cts k with
    | none => simp only [hlk]
    | some ct =>
      have ha := handAll_loc (ps := ct.pars) hl hargs
      simp only [hlk, ha.1]
      cases hv : handAll E off ct.pars c.args.toList with
      | none => simp only
      | some q =>
        obtain ⟨vs, us, bs⟩ := q
        simp only
        rw [lookAll_loc fun x hx => LocX.appU (ha.2 _ _ _ hv) hl (hargs x hx)]
  · rfl

end
end Go.Dn
end

section
/- What is done with an operation's result is apart from it. -/
namespace Go.Dn

section
variable {E : Env} {off : Nat} {cx : Cx} {R : Type} {K : SU → Option R}

theorem cond_bind {α β : Type} (b : Bool) (x y : Option α) (f : α → Option β) : (bif b then x else y).bind f = bif b then x.bind f else y.bind f := by cases b <;> rfl

theorem intBin_bind {op : BinOp} {k : IntKind} {x y : Int} {K : Slot → Option R} : intBin op k x y K = (intBin op k x y some).bind K := by
  cases op <;> simp only [intBin, cond_bind, Option.bind_some, Option.bind_none]
theorem strBin_bind {op : BinOp} {x y : List UInt8} {K : Slot → Option R} : strBin op x y K = (strBin op x y some).bind K := by
  cases op <;> simp only [strBin, cond_bind, Option.bind_some, Option.bind_none]
theorem binK_bind {tb : Bool} {op : BinOp} {a b : SV} {K : Slot → Option R} : binK tb op a b K = (binK tb op a b some).bind K := by
  obtain ⟨t, x⟩ := a
  obtain ⟨t', y⟩ := b
  cases t <;> cases t' <;> try rfl
  · rename_i k k'
    cases op <;> simp only [binK, cond_bind, Option.bind_some, Option.bind_none] <;> (try rw [intBin_bind])
  · cases tb <;> cases op <;> rfl
  · exact strBin_bind

theorem binK_bind2 {tb : Bool} {op : BinOp} {a b : SV} : (binK tb op a b fun s => K (s, [])) = (binK tb op a b fun s => some (s, [])).bind K := by
  rw [binK_bind, binK_bind (K := fun s => some (s, []))]
  cases binK tb op a b some <;> rfl

theorem stepK_bind {o : Oper} : stepK cx E off o K = (stepK cx E off o some).bind K := by
  unfold stepK
  cases o.op <;> (try simp only []) <;> try rfl
  all_goals
    repeat' (first | rfl | (simp only [cond_bind, Option.bind_some, Option.bind_none]; done) | (rw [cond_bind]; (congr 1)) | exact binK_bind2 | split)

theorem callK_bind {c : Call} : callK cx E off c K = (callK cx E off c some).bind K := by
  unfold callK
  split
  · split
    · split
      · split
        · split
          · simp only [Option.bind_assoc]
            congr 1
            funext r
            split <;> rfl
          · rfl
        · rfl
      · rfl
    · rfl
  · rfl

end
end Go.Dn
end

section
/- Cuts: some slots are kept, the others are forgotten, and what is owned may be given up to be only looked at. -/
namespace Go.Dn

/-- A slot's rows (down to 'o') are no longer owned. -/
def wk1 (k : Nat) (o : Ow) (E : Env) : Env :=
  match (E.at k).s with
  | .val t o' x => E.set k ⟨(E.at k).iv + 1, 0, bif weaken t o' o then .val t o x else .none⟩
  | .var t o' x => E.set k ⟨(E.at k).iv + 1, 0, bif weaken t o' o then .var t o x else .none⟩
  | _ => E

def wkE : List (Nat × Ow) → Env → Env
  | [], E => E
  | (k, o) :: l, E => wkE l (wk1 k o E)

def keepS (keep : List Nat) (E : Env) (k : Nat) (s : Slot) : Slot :=
  bif memN keep k then
    match s with
    | .sub a => bif a.okS E && memN keep a.j then .sub ⟨a.j, a.p, 0, 0⟩ else .none
    | .addr a => bif a.okA E && memN keep a.j then .addr ⟨a.j, a.p, 0, 0⟩ else .none
    | .view a t x => bif (a.okC E && !(E.at a.j).s.isHole) && memN keep a.j then .view ⟨a.j, a.p, 0, 0⟩ t x else .none
    | .fn f as => bif as.all (fun a => a.okA E && memN keep a.j) then .fn f (as.map fun a => ⟨a.j, a.p, 0, 0⟩) else .none
    | s => s
  else .none

def keepL (keep : List Nat) (E : Env) : Nat → List Ent → List Ent
  | _, [] => []
  | k, e :: es => ⟨0, 0, keepS keep E k e.s⟩ :: keepL keep E (k + 1) es

def keepE (keep : List Nat) (E : Env) : Env := keepL keep E 0 E

def Cut.app (off : Nat) (c : Cut) (E : Env) : Env := keepE ((List.range off).filter (fun k => !memN c.drop k) ++ c.keep.map (off + ·)) (wkE (c.wk.map fun q => (off + q.1, q.2)) E)

def ent (s : Slot) : Ent := ⟨0, 0, s⟩

section
variable {w0 : World} {Pr0 M : Nat → Prop} {E : Env} {V : List Value} {w : World} {Pr : Nat → Prop} {B : Nat → List Nat}

theorem StB.wk_go (h : StB w0 Pr0 M E V w Pr B) {k : Nat} {s' : Slot} {b1 b2 : List Nat} {v : Value} (he : E[k]? = some (E.at k)) (hv : V[k]? = some v) (hp : (B k).Perm (b1 ++ b2)) (hN : ∀ k, E.length ≤ k → B k = [])
    (hs : ∀ E' B', B' k = b1 → rootsOf s' = [] → SlotOk w (fun b => Pr b ∨ b ∈ b2) E' V B' k s' v) (hr : rootsOf s' = []) :
    St w0 Pr0 M (E.set k ⟨(E.at k).iv + 1, 0, s'⟩) V w := by
  have hnd : (b1 ++ b2).Nodup := hp.nodup_iff.1 (h.nodup k)
  rw [List.nodup_append] at hnd
  have hk := (List.getElem?_eq_some_iff.1 he).1
  refine ⟨fun b => Pr b ∨ b ∈ b2, fun j => if j = k then b1 else B j, ?_, fun j hj => ?_⟩
  · refine h.pool (fun j => j = k) (by simp [h.len]) (by simp) (fun j hj => ?_) (fun j e v' hj he' hv' => ?_) (fun j hj b hb => ?_) (fun _ h => .inl h) (fun b hb => ?_)
      (fun j hj => ?_) (fun i j hi hj hne b hb hbj => ?_) (fun _ _ _ => rfl) rfl rfl rfl (Nat.le_refl _)
    · exact ⟨List.getElem?_set_ne (Ne.symm hj), rfl, by simp [hj]⟩
    · subst hj
      rw [he] at he'
      rw [hv] at hv'
      obtain rfl := Option.some.inj he'
      obtain rfl := Option.some.inj hv'
      refine ⟨_, _, List.getElem?_set_self hk, hv, hs _ _ (by simp) hr, .inl (Nat.lt_succ_self _)⟩
    · subst hj
      simp only [if_true] at hb
      have : b ∈ B j := hp.mem_iff.2 (List.mem_append_left _ hb)
      exact ⟨.inl ⟨j, rfl, this⟩, (h.free _ _ this).2.2⟩
    · rcases hb with hb | hb
      · exact .inl hb
      · have : b ∈ B k := hp.mem_iff.2 (List.mem_append_right _ hb)
        refine .inr ⟨.inl ⟨k, rfl, this⟩, (h.free _ _ this).2.2, fun j hj hbj => ?_⟩
        subst hj
        simp only [if_true] at hbj
        exact hnd.2.2 b hbj b hb rfl
    · subst hj; simp only [if_true]; exact hnd.1
    · exact absurd (hi.trans hj.symm) hne
  · simp only [List.length_set] at hj
    have : j ≠ k := by omega
    simp only [this, if_false]
    exact hN j hj

theorem St.wk1 {k : Nat} {o : Ow} (h : St w0 Pr0 M E V w) : St w0 Pr0 M (Dn.wk1 k o E) V w := by
  obtain ⟨Pr, B, h, hN⟩ := h
  have get : (∀ t o' x, (E.at k).s = .val t o' x → E[k]? = some (E.at k)) ∧ (∀ t o' x, (E.at k).s = .var t o' x → E[k]? = some (E.at k)) := by
    constructor <;> intro t o' x hs <;> (
      cases he : E[k]? with
      | none => unfold Env.at at hs; rw [List.getD_eq_getElem?_getD, he] at hs; cases hs
      | some e => rw [at_of he])
  unfold Dn.wk1
  split
  · rename_i t o' x hs
    have he := get.1 t o' x hs
    have hk := (List.getElem?_eq_some_iff.1 he).1
    have hv := List.getElem?_eq_getElem (l := V) (i := k) (by rw [← h.len]; exact hk)
    cases hw : weaken t o' o with
    | false => exact h.wk_go he hv (b1 := []) (b2 := B k) (List.Perm.refl _) hN (fun _ _ _ _ => trivial) rfl
    | true =>
      have hso := h.slots k _ _ he hv
      rw [hs] at hso
      obtain ⟨cs, h1, h2⟩ := hso
      obtain ⟨b1, b2, h3, h4⟩ := h2.weaken hw
      refine h.wk_go he hv h3 hN (fun E' B' hb _ => ?_) rfl
      show ValOk _ _ _ _ _ _ _
      rw [hb]
      exact ⟨cs, h1, h4⟩
  · rename_i t o' x hs
    have he := get.2 t o' x hs
    have hk := (List.getElem?_eq_some_iff.1 he).1
    have hv := List.getElem?_eq_getElem (l := V) (i := k) (by rw [← h.len]; exact hk)
    cases hw : weaken t o' o with
    | false => exact h.wk_go he hv (b1 := []) (b2 := B k) (List.Perm.refl _) hN (fun _ _ _ _ => trivial) rfl
    | true =>
      have hso := h.slots k _ _ he hv
      rw [hs] at hso
      obtain ⟨b, cs, bs0, h1, h0, h2, h3⟩ := hso
      obtain ⟨b1, b2, h4, h5⟩ := h2.weaken hw
      refine h.wk_go he hv (b1 := b :: b1) (b2 := b2) (h3.trans (by simpa using h4)) hN (fun E' B' hb _ => ?_) rfl
      show VarOk _ _ _ _ _ _ _
      rw [hb]
      exact ⟨b, cs, b1, h1, h0, h5, List.Perm.refl _⟩
  · exact ⟨Pr, B, h, hN⟩

theorem St.wkE : ∀ {l : List (Nat × Ow)} {E : Env}, St w0 Pr0 M E V w → St w0 Pr0 M (Dn.wkE l E) V w
  | [], _, h => h
  | (_, _) :: l, _, h => St.wkE (l := l) h.wk1

theorem keepL_get {keep : List Nat} {E : Env} : ∀ {es : List Ent} {k i : Nat}, (keepL keep E k es)[i]? = (es[i]?).map fun e => ⟨0, 0, keepS keep E (k + i) e.s⟩
  | [], _, _ => by simp [keepL]
  | e :: es, k, 0 => by simp [keepL]
  | e :: es, k, i + 1 => by
    simp only [keepL, List.getElem?_cons_succ]
    rw [keepL_get, show k + 1 + i = k + (i + 1) by omega]

theorem keepE_get {keep : List Nat} {E : Env} {i : Nat} : (keepE keep E)[i]? = (E[i]?).map fun e => ⟨0, 0, keepS keep E i e.s⟩ := by
  unfold keepE; rw [keepL_get, Nat.zero_add]

theorem keepL_len {keep : List Nat} {E : Env} : ∀ {es : List Ent} {k : Nat}, (keepL keep E k es).length = es.length
  | [], _ => rfl
  | e :: es, k => by simp [keepL, keepL_len]

/-- A root that is kept. -/
theorem keep_root {keep : List Nat} {j : Nat} (hm : memN keep j = true) {s : Slot} (hs : (∃ t o x, s = .val t o x) ∨ (∃ t o x, s = .var t o x) ∨ (∃ iV t o x p, s = .hole iV t o x p)) : keepS keep E j s = s := by
  unfold keepS
  rw [hm]
  rcases hs with ⟨t, o, x, rfl⟩ | ⟨t, o, x, rfl⟩ | ⟨iV, t, o, x, p, rfl⟩ <;> rfl

theorem addrAt_other {s : Slot} {vj v : Value} {q : List PE} (hs : ¬ ((∃ t o x, s = .val t o x) ∨ (∃ t o x, s = .var t o x) ∨ (∃ iV t o x p, s = .hole iV t o x p))) : AddrAt w s vj v q := by
  cases s <;> first | trivial | (exfalso; apply hs; simp)
theorem subAt_other {s : Slot} {vj v : Value} {q : List PE} (hs : ¬ ((∃ t o x, s = .val t o x) ∨ (∃ t o x, s = .var t o x) ∨ (∃ iV t o x p, s = .hole iV t o x p))) : SubAt w s vj v q := by
  cases s <;> first | trivial | (exfalso; apply hs; simp)

theorem keepS_other {keep : List Nat} {j : Nat} {s : Slot} (hs : ¬ ((∃ t o x, s = .val t o x) ∨ (∃ t o x, s = .var t o x) ∨ (∃ iV t o x p, s = .hole iV t o x p))) :
    ¬ ((∃ t o x, keepS keep E j s = .val t o x) ∨ (∃ t o x, keepS keep E j s = .var t o x) ∨ (∃ iV t o x p, keepS keep E j s = .hole iV t o x p)) := by
  unfold keepS
  cases memN keep j
  · simp
  · simp only [cond_true]
    split
    · cases h : (‹Al›.okS E && memN keep ‹Al›.j) <;> simp
    · cases h : (‹Al›.okA E && memN keep ‹Al›.j) <;> simp
    · rename_i a t x; cases h : ((a.okC E && !(E.at a.j).s.isHole) && memN keep a.j) <;> simp
    · rename_i as; cases h : (as.all fun a => a.okA E && memN keep a.j) <;> simp
    · exact hs

theorem keep_take {keep : List Nat} {n j : Nat} {e : Ent} (hj : j < n) (he : E[j]? = some e) : ((keepE keep E).take n)[j]? = some ⟨0, 0, keepS keep E j e.s⟩ := by
  rw [List.getElem?_take, if_pos hj, keepE_get, he]; rfl

theorem take_get {n j : Nat} {v : Value} (hj : j < n) (hv : V[j]? = some v) : (V.take n)[j]? = some v := by rw [List.getElem?_take, if_pos hj, hv]

theorem addr_keep {keep : List Nat} {n : Nat} (hkn : ∀ k, memN keep k = true → k < E.length → k < n) {a : Al} {v : Value} (h : AddrOk w E V a v) (hok : a.okA E = true) (hm : memN keep a.j = true) : AddrOk w ((keepE keep E).take n) (V.take n) ⟨a.j, a.p, 0, 0⟩ v := by
  obtain ⟨e, vj, hl, hv, hk⟩ := h
  have he := at_of hl.1
  simp only [Al.okA, he, Bool.and_eq_true, beq_iff_eq, Bool.or_eq_true] at hok
  obtain ⟨k1, k2⟩ := hk hok.1
  have hjn := hkn a.j hm (List.getElem?_eq_some_iff.1 hl.1).1
  refine ⟨⟨0, 0, keepS keep E a.j e.s⟩, vj, ⟨keep_take hjn hl.1, Nat.le_refl _, fun _ => Nat.le_refl _⟩, take_get hjn hv, fun _ => ⟨k1, fun hp _ => ?_⟩⟩
  · have hcv : e.cv = a.cv := by
      rcases hok.2 with h | h
      · exact h
      · exact absurd (isNil_iff.1 h) hp
    have hA := k2 hp hcv
    by_cases hs : (∃ t o x, e.s = .val t o x) ∨ (∃ t o x, e.s = .var t o x) ∨ (∃ iV t o x p, e.s = .hole iV t o x p)
    · simp only; rw [keep_root hm hs]; exact hA
    · exact addrAt_other (keepS_other hs)

theorem allL_keep {keep : List Nat} {n : Nat} (hkn : ∀ k, memN keep k = true → k < E.length → k < n) : ∀ {as : List Al} {vs : List Value}, (as.all fun a => a.okA E && memN keep a.j) = true → AllL (AddrOk w E V) as vs →
    AllL (AddrOk w ((keepE keep E).take n) (V.take n)) (as.map fun a => ⟨a.j, a.p, 0, 0⟩) vs
  | [], [], _, _ => trivial
  | [], _ :: _, _, h => h.elim
  | _ :: _, [], _, h => h.elim
  | a :: as, v :: vs, hall, h => by
    simp only [List.all_cons, Bool.and_eq_true] at hall
    exact ⟨addr_keep hkn h.1 hall.1.1 hall.1.2, allL_keep hkn (by simpa using hall.2) h.2⟩

theorem StB.keep (h : StB w0 Pr0 M E V w Pr B) {keep : List Nat} {n N : Nat} (hn : n ≤ E.length) (hN : E.length ≤ N) (hkn : ∀ k, memN keep k = true → k < E.length → k < n) :
    StB w0 Pr0 M ((keepE keep E).take n) (V.take n) w Pr (fun k => if k < n then (bif memN keep k then B k else []) else if k = n then B N else []) := by
  have hlen : (keepE keep E).length = E.length := keepL_len
  · have sub : ∀ k, ∃ k', (∀ b, b ∈ (if k < n then (bif memN keep k then B k else []) else if k = n then B N else []) → b ∈ B k') ∧ k' = (if k = n then N else k) := by
      intro k
      refine ⟨_, fun b hb => ?_, rfl⟩
      split at hb
      · rename_i hk
        rw [if_neg (by omega)]
        cases hm : memN keep k <;> rw [hm] at hb
        · cases hb
        · exact hb
      · split at hb
        · rename_i hk; rw [if_pos hk]; exact hb
        · cases hb
    have sub' : ∀ k b, b ∈ (if k < n then (bif memN keep k then B k else []) else if k = n then B N else []) → (k < n ∨ k = n) ∧ b ∈ B (if k = n then N else k) := by
      intro k b hb
      obtain ⟨k', h1, h2⟩ := sub k
      refine ⟨?_, h2 ▸ h1 b hb⟩
      split at hb
      · rename_i hk; exact .inl hk
      · split at hb
        · rename_i hk; exact .inr hk
        · cases hb
    refine { len := by simp only [List.length_take]; rw [hlen, h.len], pr0 := h.pr0, prlt := h.prlt, prnew := h.prnew, slots := fun k e v he hv => ?_, nodup := fun k => ?_, disj := fun j k hne b hb hb' => ?_, free := fun k b hb => h.free _ b (sub' k b hb).2,
             os := h.os, tape := h.tape, output := h.output, size := h.size, frame := h.frame }
    · have hkn' : k < n := by
        have := (List.getElem?_eq_some_iff.1 he).1
        simp only [List.length_take] at this
        omega
      rw [List.getElem?_take, if_pos hkn', keepE_get, Option.map_eq_some_iff] at he
      rw [List.getElem?_take, if_pos hkn'] at hv
      obtain ⟨e0, he0, rfl⟩ := he
      have hso := h.slots k e0 v he0 hv
      simp only
      cases hm : memN keep k with
      | false =>
        have : keepS keep E k e0.s = .none := by unfold keepS; rw [hm]; rfl
        rw [this]; trivial
      | true =>
        have hB : (fun k => if k < n then (bif memN keep k then B k else []) else if k = n then B N else []) k = B k := by simp only [hkn', if_true, hm, cond_true]
        unfold keepS
        rw [hm]
        simp only [cond_true]
        split
        · rename_i a hs
          rw [hs] at hso
          cases hc : (a.okS E && memN keep a.j) with
          | false => trivial
          | true =>
            rw [Bool.and_eq_true] at hc
            obtain ⟨e, vj, hl, hvj, hk⟩ := hso
            have he := at_of hl.1
            have hok := hc.1
            simp only [Al.okS, he, Bool.and_eq_true, beq_iff_eq, Bool.or_eq_true] at hok
            obtain ⟨k1, k2⟩ := hk hok.1
            have hjn := hkn a.j hc.2 (List.getElem?_eq_some_iff.1 hl.1).1
            refine ⟨⟨0, 0, keepS keep E a.j e.s⟩, vj, ⟨keep_take hjn hl.1, Nat.le_refl _, fun _ => Nat.le_refl _⟩, take_get hjn hvj, fun _ => ⟨fun hp hv => ?_, fun _ hp => ?_⟩⟩
            · refine k1 hp ?_
              by_cases hs : (∃ t o x, e.s = .val t o x) ∨ (∃ t o x, e.s = .var t o x) ∨ (∃ iV t o x p, e.s = .hole iV t o x p)
              · simp only at hv; rw [keep_root hc.2 hs] at hv; exact hv
              · have := keepS_other (E := E) (keep := keep) (j := a.j) hs
                cases hq : keepS keep E a.j e.s <;> simp only [hq, Slot.ofVal] at hv this <;> simp_all
            · by_cases hs : (∃ t o x, e.s = .val t o x) ∨ (∃ t o x, e.s = .var t o x) ∨ (∃ iV t o x p, e.s = .hole iV t o x p)
              · simp only at hp ⊢
                rw [keep_root hc.2 hs] at hp ⊢
                refine k2 ?_ hp
                rcases hok.2 with h | ⟨h1, h2⟩
                · exact h
                · rcases hp with hp | hp
                  · exact absurd (isNil_iff.1 h1) hp
                  · rw [h2] at hp; cases hp
              · exact subAt_other (keepS_other hs)
        · rename_i a hs
          rw [hs] at hso
          cases hc : (a.okA E && memN keep a.j) with
          | false => trivial
          | true =>
            rw [Bool.and_eq_true] at hc
            exact addr_keep hkn hso hc.1 hc.2
        · rename_i a t x hs
          rw [hs] at hso
          cases hc : ((a.okC E && !(E.at a.j).s.isHole) && memN keep a.j) with
          | false => trivial
          | true =>
            rw [Bool.and_eq_true, Bool.and_eq_true, Bool.not_eq_true'] at hc
            obtain ⟨⟨hc1, hc2⟩, hc3⟩ := hc
            obtain ⟨e, hl, hk⟩ := hso
            have he := at_of hl.1
            rw [he] at hc2
            simp only [Al.okC, he, Bool.and_eq_true, beq_iff_eq] at hc1
            obtain ⟨cs, q1, q2⟩ := hk hc1.1 hc1.2 hc2
            have hjn := hkn a.j hc3 (List.getElem?_eq_some_iff.1 hl.1).1
            refine ⟨⟨0, 0, keepS keep E a.j e.s⟩, ⟨keep_take hjn hl.1, Nat.le_refl _, fun _ => Nat.le_refl _⟩, fun _ _ _ => ⟨cs, q1, ?_⟩⟩
            have : (fun k => if k < n then (bif memN keep k then B k else []) else if k = n then B N else []) a.j = B a.j := by simp only [hjn, if_true, hc3, cond_true]
            simp only [this]
            exact q2
        · rename_i f as hs
          rw [hs] at hso
          cases hc : (as.all fun a => a.okA E && memN keep a.j) with
          | false => trivial
          | true =>
            obtain ⟨vs, h1, h2⟩ := hso
            exact ⟨vs, h1, allL_keep hkn hc h2⟩
        · rename_i n0 n1 n2 n3
          cases hs : e0.s with
          | none => trivial
          | val t o x => rw [hs] at hso; show ValOk _ _ _ _ _ _ _; rw [hB]; exact hso
          | var t o x => rw [hs] at hso; show VarOk _ _ _ _ _ _ _; rw [hB]; exact hso
          | hole iV t o x p => rw [hs] at hso; show HoleOk _ _ _ _ _ _ _ _ _; rw [hB]; exact hso
          | tup l => rw [hs] at hso; obtain ⟨vs, h1, h2⟩ := hso; exact ⟨vs, h1, by rw [hB]; exact h2⟩
          | bad t x => rw [hs] at hso; exact hso
          | sub a => exact absurd hs (by simp_all)
          | addr a => exact absurd hs (by simp_all)
          | view a t x => first | exact (n0 a t x hs).elim | exact (n1 a t x hs).elim | exact (n2 a t x hs).elim | exact (n3 a t x hs).elim
          | fn f c => exact absurd hs (by simp_all)
    · obtain ⟨k', h1, h2⟩ := sub k
      split
      · cases memN keep k
        · exact List.nodup_nil
        · exact h.nodup k
      · split
        · exact h.nodup N
        · exact List.nodup_nil
    · obtain ⟨p1, p2⟩ := sub' j b hb
      obtain ⟨q1, q2⟩ := sub' k b hb'
      refine h.disj _ _ ?_ b p2 q2
      split <;> split <;> omega

theorem St.keep {keep : List Nat} (h : St w0 Pr0 M E V w) : St w0 Pr0 M (keepE keep E) V w := by
  obtain ⟨Pr, B, h, hN⟩ := h
  have hlen : (keepE keep E).length = E.length := keepL_len
  have := h.keep (keep := keep) (n := E.length) (N := E.length) (Nat.le_refl _) (Nat.le_refl _) (fun _ _ h => h)
  rw [List.take_of_length_le (by omega), List.take_of_length_le (by rw [← h.len]; exact Nat.le_refl _)] at this
  refine ⟨Pr, _, this, fun k hk => ?_⟩
  rw [if_neg (by omega)]
  split
  · exact hN _ (Nat.le_refl _)
  · rfl

theorem St.cut {c : Cut} {off : Nat} (h : St w0 Pr0 M E V w) : St w0 Pr0 M (c.app off E) V w := h.wkE.keep

/-! ### an argument that is only looked at, and what comes back may look at it: it is given up for good -/
def lend1 (E : Env) (off : Nat) (x : Operand) : Option U :=
  match opd E off x with
  | ⟨some k, .val t o y⟩ => bif owns t o && weaken t o .b then some (.new k (.val t .b y)) else none
  | _ => none

def lendU (off : Nat) : Env → List (Mode × Ty) → List Operand → List U
  | E, (m, _) :: ps, x :: xs =>
    match m with
    | .bor =>
      match lend1 E off x with
      | some u => u :: lendU off (u.app E) ps xs
      | none => lendU off E ps xs
    | _ => lendU off E ps xs
  | _, _, _ => []

def lendC (cx : Cx) (E : Env) (off : Nat) (c : Call) : List U :=
  match c.callee with
  | .value fo =>
    match (opd E off fo).s with
    | .fn k [] =>
      match lookup cx.cts k with
      | some ct => bif lends ct.rets || ptrs ct.pars then lendU off E ct.pars c.args.toList else []
      | none => []
    | _ => []
  | _ => []

def callL {R : Type} (cx : Cx) (E : Env) (off : Nat) (c : Call) (K : SU → Option R) : Option R :=
  callK cx (appU E (lendC cx E off c)) off c fun z => K (z.1, lendC cx E off c ++ z.2)

theorem lend1_some {x : Operand} {u : U} {off : Nat} (h : lend1 E off x = some u) : ∃ k t o y, (E.at k).s = .val t o y ∧ weaken t o .b = true ∧ u = .new k (.val t .b y) := by
  unfold lend1 at h
  split at h
  · rename_i k t o y hd
    cases hc : owns t o && weaken t o .b with
    | false => rw [hc] at h; cases h
    | true =>
      rw [hc] at h
      rw [Bool.and_eq_true] at hc
      refine ⟨k, t, o, y, ?_, hc.2, (Option.some.inj h).symm⟩
      rw [← opd_at (x := x) (E := E) (off := off) k (by rw [hd]), hd]
  · cases h

theorem St.lend1 {x : Operand} {u : U} {off : Nat} (hu : Dn.lend1 E off x = some u) (h : St w0 Pr0 M E V w) : St w0 Pr0 M (u.app E) V w := by
  obtain ⟨k, t, o, y, h1, h2, rfl⟩ := lend1_some hu
  have := h.wk1 (k := k) (o := .b)
  unfold Dn.wk1 at this
  rw [h1] at this
  simp only [h2, cond_true] at this
  exact this

theorem St.lendU {off : Nat} : ∀ {ps : List (Mode × Ty)} {xs : List Operand} {E : Env}, St w0 Pr0 M E V w → St w0 Pr0 M (appU E (Dn.lendU off E ps xs)) V w
  | [], _, _, h => h
  | _ :: _, [], _, h => h
  | (m, t) :: ps, x :: xs, E, h => by
    cases m with
    | bor =>
      simp only [Dn.lendU]
      cases hu : Dn.lend1 E off x with
      | none => exact St.lendU (ps := ps) (xs := xs) h
      | some u => exact St.lendU (ps := ps) (xs := xs) (E := u.app E) (h.lend1 hu)
    | _ => exact St.lendU (ps := ps) (xs := xs) h

theorem St.lendC {off : Nat} {cx : Cx} {c : Call} (h : St w0 Pr0 M E V w) : St w0 Pr0 M (appU E (Dn.lendC cx E off c)) V w := by
  unfold Dn.lendC
  split
  · split
    · split
      · rename_i ct _
        cases lends ct.rets || ptrs ct.pars
        · exact h
        · exact St.lendU h
      · exact h
    · exact h
  · exact h

end

section
variable {E E2 : Env} {off : Nat} {cx : Cx} {R : Type} {K : SU → Option R}

theorem lend1_loc {x : Operand} (h : LocX E E2 off x) : lend1 E2 off x = lend1 E off x := by
  unfold lend1
  rw [(opd_d h).1]
theorem lend1_rf {x : Operand} {u : U} (h : lend1 E off x = some u) : rootsOf u.slot = [] := by
  obtain ⟨k, t, o, y, _, _, rfl⟩ := lend1_some h
  rfl
theorem lendU_loc : ∀ {ps : List (Mode × Ty)} {xs : List Operand} {E E2 : Env}, (∀ x ∈ xs, LocX E E2 off x) → E.length = E2.length → lendU off E2 ps xs = lendU off E ps xs ∧ RF (lendU off E ps xs)
  | [], _, _, _, _, _ => ⟨rfl, RF.nil⟩
  | _ :: _, [], _, _, _, _ => ⟨rfl, RF.nil⟩
  | (m, t) :: ps, x :: xs, E, E2, h, hl => by
    cases m with
    | bor =>
      simp only [lendU, lend1_loc (h x (List.mem_cons_self ..))]
      cases hu : lend1 E off x with
      | none => exact lendU_loc (ps := ps) (xs := xs) (fun y hy => h y (List.mem_cons_of_mem _ hy)) hl
      | some u =>
        have hr := lend1_rf hu
        have hr1 : RF [u] := fun v hv => by
          obtain rfl : v = u := by simpa using hv
          exact hr
        obtain ⟨h1, h2⟩ := lendU_loc (ps := ps) (xs := xs) (E := u.app E) (E2 := u.app E2) (fun y hy => LocX.appU (us := [u]) hr1 hl (h y (List.mem_cons_of_mem _ hy))) (by rw [U.app_len, U.app_len, hl])
        refine ⟨by simp only [h1], fun v hv => ?_⟩
        rcases List.mem_cons.1 hv with rfl | hv
        · exact hr
        · exact h2 v hv
    | _ => exact lendU_loc (ps := ps) (xs := xs) (fun y hy => h y (List.mem_cons_of_mem _ hy)) hl
theorem lendC_loc {c : Call} (hl : E.length = E2.length) (h : ∀ x ∈ c.operands.toList, LocX E E2 off x) : lendC cx E2 off c = lendC cx E off c ∧ RF (lendC cx E off c) := by
  have hargs : ∀ x ∈ c.args.toList, LocX E E2 off x := fun x hx => h x (by
    simp only [Call.operands, Array.toList_append, List.mem_append]
    exact .inr hx)
  unfold lendC
  split
  · rename_i fo hfo
    have hf := opd_d (h fo (by simp [Call.operands, hfo]))
    rw [hf.1]
    cases (opd E off fo).s <;> try exact ⟨rfl, RF.nil⟩
    rename_i k caps
    cases caps <;> try exact ⟨rfl, RF.nil⟩
    dsimp only
    cases hlk : lookup cx.cts k with
    | none => exact ⟨rfl, RF.nil⟩
    | some ct =>
      dsimp only
      cases lends ct.rets || ptrs ct.pars
      · exact ⟨rfl, RF.nil⟩
      · exact lendU_loc hargs hl
  · exact ⟨rfl, RF.nil⟩

theorem callL_loc {c : Call} (hl : E.length = E2.length) (h : ∀ x ∈ c.operands.toList, LocX E E2 off x) : callL cx E2 off c K = callL cx E off c K := by
  obtain ⟨h1, h2⟩ := lendC_loc (cx := cx) hl h
  unfold callL
  rw [h1]
  exact callK_loc (by rw [appU_len, appU_len, hl]) fun x hx => LocX.appU h2 hl (h x hx)

theorem callL_bind {c : Call} : callL cx E off c K = (callL cx E off c some).bind K := by
  unfold callL
  rw [callK_bind, callK_bind (K := fun z => some (z.1, lendC cx E off c ++ z.2)), Option.bind_assoc]
  rfl
end

section
variable {w0 : World} {Pr0 M : Nat → Prop}
variable {P : Program} {cx : Cx} {E : Env} {V : List Value} {w : World} {Pr : Nat → Prop} {B : Nat → List Nat} {off : Nat} {a : Act}

theorem callL_ok {R : Type} {K : SU → Option R} {r : R} (hcts : CtsOk P cx) (hgl : GlOk cx.gl w0 Pr0 M) {o : Oper} {c : Call} (hop : o.op = .call c) (h : StB w0 Pr0 M E V w Pr B) (hN : ∀ k, E.length ≤ k → B k = []) (hf : Fr off V a)
    (hs : callL cx E off c K = some r) : ∃ z, K z = some r ∧ OpDoes w0 Pr0 M P E V w a o z := by
  obtain ⟨Pr1, B1, h1, hN1⟩ := St.lendC (off := off) (cx := cx) (c := c) (⟨Pr, B, h, hN⟩ : St w0 Pr0 M E V w)
  obtain ⟨z, hz, hd⟩ := call_ok hcts hgl hop h1 hN1 hf hs
  refine ⟨_, hz, fun Q => ?_⟩
  have := hd Q
  rw [← appU_append, appU_len (lendC cx E off c)] at this
  exact this
end
end Go.Dn
end

section
/- Regions: in the text's order, or in any that Go may take. -/
namespace Go.Dn

section
variable {R : Type}

/-- How code of a function that is taken in place is told. -/
structure Rc where
  run : (R : Type) → Plan → Code → Nat → Env → (Xt → Env → Option R) → Option R

/-- What an operation leads to: its slot, the environment behind it, what was written. -/
structure Zv where
  s : Slot
  e : Env
  w : List Nat

def argE (E : Env) (off : Nat) : List Operand → List Ent
  | [] => []
  | x :: xs => ent (alias E (opd E off x)) :: argE E off xs

def retI (off : Nat) (E : Env) : List ResultVar → Option (Slot × Env)
  | [] => some (.tup [], E)
  | [.tmp t] =>
    match take E (opd E off (.tmp t)) with
    | some (v, us) => some (.val v.t v.o v.x, appU E us)
    | none => none
  | _ => none

def inlK (rc : Rc) (E : Env) (off : Nat) (f : Func) (pl : Plan) (caps : List Al) (xs : List Operand) (K : Zv → Option R) : Option R :=
  match f.body with
  | none => none
  | some c =>
    rc.run R pl c E.length (E ++ (argE E off xs ++ (caps.map (fun a => ent (.addr a)) ++ List.replicate (f.ntmps - (xs.length + caps.length)) (ent .none)))) fun x E2 =>
      match x with
      | .exit _ => none
      | _ =>
        match retI E.length E2 f.results.toList with
        | some (s, E3) =>
          bif E.length == ((keepE (List.range E.length) E3).take E.length).length then K ⟨s, (keepE (List.range E.length) E3).take E.length, List.range E.length⟩ else none
        | none => none

/-- A plan of its own for a call in place at one place of the code. -/
def siteOf (cx : Cx) (off : Nat) (dst : Option Tmp) (k : FuncId) : Option (Func × Plan) :=
  match dst with
  | none => none
  | some d =>
    match lookup cx.sites (off * 100000 + d) with
    | none => none
    | some (k', f) => bif k' == k then some f else none

def InFn (cx : Cx) (k : FuncId) (f : Func × Plan) : Prop := lookup cx.funcs k = some f ∨ ∃ d, lookup cx.sites d = some (k, f)

theorem siteOf_some {cx : Cx} {off : Nat} {dst : Option Tmp} {k : FuncId} {f : Func × Plan} (h : siteOf cx off dst k = some f) : InFn cx k f := by
  unfold siteOf at h
  cases dst with
  | none => cases h
  | some d =>
    simp only at h
    cases hl : lookup cx.sites (off * 100000 + d) with
    | none => rw [hl] at h; cases h
    | some q =>
      obtain ⟨k', f'⟩ := q
      rw [hl] at h
      simp only at h
      cases hk : k' == k with
      | false => rw [hk] at h; cases h
      | true =>
        rw [hk] at h
        obtain rfl := Option.some.inj h
        obtain rfl := beq_iff_eq.1 hk
        exact .inr ⟨_, hl⟩

/-- The function that a call takes in place. -/
def inlOf (cx : Cx) (E : Env) (off : Nat) (o : Oper) : Option (FuncId × (Func × Plan) × List Al × List Operand) :=
  match o.op with
  | .call c =>
    match c.callee with
    | .value fo =>
      match (opd E off fo).s with
      | .fn k caps =>
        match siteOf cx off o.dst k with
        | some f => some (k, f, caps, c.args.toList)
        | none =>
          match lookup cx.funcs k with
          | some f => some (k, f, caps, c.args.toList)
          | none => none
      | _ => none
    | _ => none
  | _ => none

/-- An array of n texts. -/
def isStrArr (cx : Cx) (tid : TypeId) (n : Nat) : Bool := memN cx.arrs tid && (decide (1 ≤ n) && match lookup cx.tab tid with | some t => arrOk .str n t | none => false)

def strElem : List (TypeId × Ty) → TypeId
  | [] => 0
  | (k, .str) :: _ => k
  | _ :: l => strElem l

/-- A text of a package-level row. -/
def globAt (cx : Cx) (E : Env) (off : Nat) (tid : TypeId) (g : Nat) (i : Operand) (K : SU → Option R) : Option R :=
  match lookup cx.gl.strs g, rd E (opd E off i).s with
  | some l, some ⟨.int _, n⟩ => bif isStrArr cx tid l.length && inB n l.length then K (.bad .str (l.getD n.toNat []), []) else none
  | _, _ => none

/-- A package-level row of texts, as a slice. -/
def globAll (cx : Cx) (tid : TypeId) (g : Nat) (K : SU → Option R) : Option R :=
  match lookup cx.gl.strs g with
  | some l => bif isStrArr cx tid l.length then K (.val (.slice (strElem cx.tab) .str) .b l, []) else none
  | none => none

def plainK (cx : Cx) (E : Env) (off : Nat) (o : Oper) (K : SU → Option R) : Option R :=
  match o.op with
  | .call c =>
    match c.callee with
    | .builtin _ => stepK cx E off o K
    | _ => callL cx E off c K
  | .indexAddr tid (.global g) i => globAt cx E off tid g i K
  | .slice tid (.global g) none none none => globAll cx tid g K
  | _ => stepK cx E off o K

def opK (cx : Cx) (rc : Rc) (E : Env) (off : Nat) (o : Oper) (K : Zv → Option R) : Option R :=
  match inlOf cx E off o with
  | some q => inlK rc E off q.2.1.1 q.2.1.2 q.2.2.1 q.2.2.2 K
  | none => plainK cx E off o fun z => K ⟨z.1, appU E z.2, z.2.map U.ix⟩

def putE (off : Nat) (dst : Option Tmp) (z : Zv) : Env :=
  match dst with
  | some d => setNew z.e (off + d) z.s
  | none => z.e

def setS (E : Env) (k : Nat) (s : Slot) : Env := E.set k ⟨(E.at k).iv, (E.at k).cv, s⟩

def guardK (E : Env) (off : Nat) (l : List Oper) (o : Oper) (A B : Env → Option R) : Option R :=
  match o.guard with
  | none => A E
  | some (g, want) =>
    match (l[g]?).bind (·.dst) with
    | none => none
    | some t =>
      match (E.at (off + t)).s with
      | .val .bool ow b =>
        match want with
        | true => bif b then A (setS E (off + t) (.val .bool ow true)) else B (setS E (off + t) (.val .bool ow false))
        | false => bif b then B (setS E (off + t) (.val .bool ow true)) else A (setS E (off + t) (.val .bool ow false))
      | .tup [] => B E
      | _ => none

def Xt.to : Xt → Exit
  | .normal => .normal
  | .exit id => .exit id
  | .ret => .ret

def deadZ (E : Env) : Zv := ⟨.tup [], E, []⟩

def opsK (cx : Cx) (rc : Rc) (off : Nat) (l : List Oper) : List Oper → Env → (Env → Option R) → Option R
  | [], E, K => K E
  | o :: os, E, K => guardK E off l o (fun E => opK cx rc E off o fun z => opsK cx rc off l os (putE off o.dst z) K) (fun E => opsK cx rc off l os (putE off o.dst (deadZ E)) K)

/-! ### any order -/
structure Ft where
  i : Nat
  r : List Nat
  w : List Nat
  anc : Nat

def rdX (E : Env) (off : Nat) : Operand → List Nat
  | .tmp t => (off + t) :: rootsOf (E.at (off + t)).s
  | _ => []

def guardT (l : List Oper) (o : Oper) : Option Nat := o.guard.bind fun g => (l[g.1]?).bind (·.dst)

/-- What an operation looks at: a move only at the name. -/
def opR (E : Env) (off : Nat) : Op → List Nat
  | .move (.tmp t) => [off + t]
  | .move _ => []
  | o => o.operands.toList.flatMap (rdX E off)

def readsOf (cx : Cx) (E : Env) (off : Nat) (l : List Oper) (o : Oper) : List Nat :=
  (match guardT l o with | some t => [off + t] | none => []) ++ (opR E off o.op ++ (match inlOf cx E off o with | some _ => List.range E.length | none => []))

def writesOf (off : Nat) (o : Oper) (z : Zv) : List Nat := (match o.dst with | some d => [off + d] | none => []) ++ z.w

def ancAt : List Ft → Nat → Nat
  | [], _ => 0
  | f :: fs, i => bif f.i == i then f.anc else ancAt fs i

def ancL (fs : List Ft) : List Edge → Nat
  | [] => 0
  | e :: es => bif Region.binds .any e then (2 ^ e.on ||| ancAt fs e.on) ||| ancL fs es else ancL fs es

def disjN (a b : List Nat) : Bool := a.all fun k => !memN b k
/-- Two parts, taken out of one tuple. -/
def extOf (o : Oper) : Option (Nat × Nat × Nat) :=
  match o.op, o.dst, o.guard with
  | .extract (.tmp t) a, some d, none => some (t, a, d)
  | _, _, _ => none
def swapX (l : List Oper) (i j : Nat) : Bool :=
  match (l[i]?).bind extOf, (l[j]?).bind extOf with
  | some (t, a, d), some (t', b, d') => t == t' && (a != b && (d != d' && (d != t && d' != t)))
  | _, _ => false
def indep (l : List Oper) (g f : Ft) : Bool := (disjN g.w f.r && (disjN g.w f.w && disjN f.w g.r)) || swapX l g.i f.i
def okD (l : List Oper) : List Ft → Bool
  | [] => true
  | f :: fs => (fs.all fun g => indep l g f || f.anc.testBit g.i) && okD l fs

def backE : List Oper → Nat → Bool
  | [], _ => true
  | o :: os, i => (o.after.toList.all fun e => !Region.binds .any e || decide (e.on < i)) && backE os (i + 1)

def opsD (cx : Cx) (rc : Rc) (off : Nat) (l : List Oper) : List Oper → Nat → Env → List Ft → (Env → Option R) → Option R
  | [], _, E, fs, K => bif okD l fs then K E else none
  | o :: os, i, E, fs, K =>
    guardK E off l o
      (fun E' => opK cx rc E' off o fun z => opsD cx rc off l os (i + 1) (putE off o.dst z) (⟨i, readsOf cx E off l o, writesOf off o z, ancL fs o.after.toList⟩ :: fs) K)
      (fun E' => opsD cx rc off l os (i + 1) (putE off o.dst (deadZ E')) (⟨i, readsOf cx E off l o, writesOf off o (deadZ E'), ancL fs o.after.toList⟩ :: fs) K)

def regionK (cx : Cx) (rc : Rc) (off : Nat) (ops : Array Oper) (draw : Bool) (E : Env) (K : Env → Option R) : Option R :=
  match draw with
  | true => bif backE ops.toList 0 then opsD cx rc off ops.toList ops.toList 0 E [] K else none
  | false => opsK cx rc off ops.toList ops.toList E K

end

section
variable {w0 : World} {Pr0 M : Nat → Prop} {outer : List Value} {ds : List Deferred}
variable {P : Program} {cx : Cx} {E : Env} {w : World} {a : Act} {R : Type} {r : R} {Pr : Nat → Prop} {B : Nat → List Nat}

/-- The state, with the frame's own slots behind the outer ones. -/
structure Sx (w0 : World) (Pr0 M : Nat → Prop) (outer : List Value) (ds : List Deferred) (E : Env) (a : Act) (w : World) : Prop where
  st : St w0 Pr0 M E (outer ++ a.tmps.toList) w
  ds : a.defers = ds

theorem St.len {V : List Value} (h : St w0 Pr0 M E V w) : E.length = V.length := by obtain ⟨Pr, B, h, _⟩ := h; exact h.len

theorem put_list (dst : Option Tmp) (v : Value) : outer ++ (a.put dst v).tmps.toList = match dst with | some d => (outer ++ a.tmps.toList).set (outer.length + d) v | none => outer ++ a.tmps.toList := by
  cases dst with
  | none => rfl
  | some d =>
    show outer ++ (a.tmps.setIfInBounds d v).toList = _
    rw [Array.toList_setIfInBounds]
    simp only
    rw [List.set_append_right _ _ (by omega), Nat.add_sub_cancel_left]

theorem Hand.putZ {z : Zv} {dst : Option Tmp} {v : Value} (h : Hand w0 Pr0 M z.e (outer ++ a.tmps.toList) w z.s v) :
    St w0 Pr0 M (Dn.putE outer.length dst z) (outer ++ (a.put dst v).tmps.toList) w := by
  rw [put_list]
  cases dst with
  | none => exact h.drop
  | some d =>
    simp only [Dn.putE]
    by_cases hk : outer.length + d < z.e.length
    · exact h.put hk
    · have hl := St.len h.drop
      have e1 : setNew z.e (outer.length + d) z.s = z.e := List.set_eq_of_length_le (by omega)
      have e2 : (outer ++ a.tmps.toList).set (outer.length + d) v = outer ++ a.tmps.toList := List.set_eq_of_length_le (by omega)
      rw [e1, e2]
      exact h.drop

theorem Sx.fr (_h : Sx w0 Pr0 M outer ds E a w) : Fr outer.length (outer ++ a.tmps.toList) a := ⟨outer, rfl, rfl⟩

theorem put_defers (dst : Option Tmp) (v : Value) : (a.put dst v).defers = a.defers := by cases dst <;> rfl

/-- What is told of code taken in place holds. -/
def RcOk (P : Program) (cx : Cx) (rc : Rc) : Prop :=
  ∀ (w0 : World) (Pr0 M : Nat → Prop) (outer : List Value) (ds : List Deferred) (R : Type) (pl : Plan) (c : Code) (r : R) (E : Env) (a : Act) (w : World) (K : Xt → Env → Option R) (Q : Exit → Act → World → Prop),
    GlOk cx.gl w0 Pr0 M → (∃ k f, InFn cx k (f, pl) ∧ f.body = some c) → rc.run R pl c outer.length E K = some r → Sx w0 Pr0 M outer ds E a w → (∀ x E' a' w', K x E' = some r → Sx w0 Pr0 M outer ds E' a' w' → Q x.to a' w') → c.wp P Q a w

def FuncsOk (P : Program) (cx : Cx) : Prop := ∀ k f, InFn cx k f → P.funcs[k]? = some f.1 ∧ (f.1.name == "runtime.NumGoroutine") = false

theorem alias_row (h : StB w0 Pr0 M E (outer ++ a.tmps.toList) w Pr B) (hN : ∀ k, E.length ≤ k → B k = []) {xs : List Operand} {i : Nat} {e : Ent} {v : Value} (he : (argE E outer.length xs)[i]? = some e) (hv : (xs.map a.eval)[i]? = some v) :
    SlotOk w Pr E (outer ++ a.tmps.toList) B E.length e.s v := by
  induction xs generalizing i with
  | nil => simp [argE] at he
  | cons x xs ih =>
    cases i with
    | zero =>
      simp only [argE, List.getElem?_cons_zero, Option.some.injEq, List.map_cons] at he hv
      subst he; subst hv
      exact alias_ok h (opd_ok h ⟨outer, rfl, rfl⟩ x) (hN _ (Nat.le_refl _))
    | succ i => exact ih (by simpa [argE] using he) (by simpa using hv)

theorem argE_len {xs : List Operand} {off : Nat} : (argE E off xs).length = xs.length := by
  induction xs with
  | nil => rfl
  | cons x xs ih => simp [argE, ih]

/-- More slots behind, that own nothing. -/
theorem St.more {E : Env} {V : List Value} {ex : List Ent} {vx : List Value} (h : StB w0 Pr0 M E V w Pr B) (hN : ∀ k, E.length ≤ k → B k = []) (hl : ex.length = vx.length)
    (hx : ∀ (i : Nat) (e : Ent) (v : Value), ex[i]? = some e → vx[i]? = some v → SlotOk w Pr E V B E.length e.s v) : St w0 Pr0 M (E ++ ex) (V ++ vx) w := by
  have lift : ∀ {k k' : Nat} {s : Slot} {v : Value}, B k' = B k → SlotOk w Pr E V B k s v → SlotOk w Pr (E ++ ex) (V ++ vx) B k' s v := by
    intro k k' s v hB hs
    have get : ∀ {j : Nat} {e : Ent}, E[j]? = some e → (E ++ ex)[j]? = some e := fun he => by rw [List.getElem?_append_left (List.getElem?_eq_some_iff.1 he).1]; exact he
    have getV : ∀ {j : Nat} {v : Value}, V[j]? = some v → (V ++ vx)[j]? = some v := fun he => by rw [List.getElem?_append_left (List.getElem?_eq_some_iff.1 he).1]; exact he
    have addr : ∀ {al : Al} {v : Value}, AddrOk w E V al v → AddrOk w (E ++ ex) (V ++ vx) al v := fun ⟨e, vj, hl, hv, hk⟩ => ⟨e, vj, ⟨get hl.1, hl.2⟩, getV hv, hk⟩
    cases s with
    | none => trivial
    | val t o x => show ValOk _ _ _ _ _ _ _; rw [hB]; exact hs
    | var t o x => show VarOk _ _ _ _ _ _ _; rw [hB]; exact hs
    | hole iV t o x p => show HoleOk _ _ _ _ _ _ _ _ _; rw [hB]; exact hs
    | sub al => obtain ⟨e, vj, hl, hv, hk⟩ := hs; exact ⟨e, vj, ⟨get hl.1, hl.2⟩, getV hv, hk⟩
    | addr al => exact addr hs
    | view al t x => obtain ⟨e, hl, hk⟩ := hs; exact ⟨e, ⟨get hl.1, hl.2⟩, hk⟩
    | bad t x => exact hs
    | fn f caps => obtain ⟨vs, h1, h2⟩ := hs; exact ⟨vs, h1, h2.imp fun _ _ => addr⟩
    | tup l => obtain ⟨vs, h1, h2⟩ := hs; exact ⟨vs, h1, by rw [hB]; exact h2⟩
  refine ⟨Pr, B, { len := by simp [h.len, hl], pr0 := h.pr0, prlt := h.prlt, prnew := h.prnew, slots := fun k e v he hv => ?_, nodup := h.nodup, disj := h.disj, free := h.free, os := h.os, tape := h.tape, output := h.output, size := h.size, frame := h.frame }, fun k hk => hN k (by simp at hk; omega)⟩
  by_cases hk : k < E.length
  · rw [List.getElem?_append_left hk] at he
    rw [List.getElem?_append_left (by rw [← h.len]; exact hk)] at hv
    exact lift rfl (h.slots k e v he hv)
  · rw [List.getElem?_append_right (by omega)] at he
    rw [List.getElem?_append_right (by rw [← h.len]; omega), ← h.len] at hv
    exact lift (k := E.length) (by rw [hN k (by omega), hN E.length (Nat.le_refl _)]) (hx _ e v he hv)

theorem getElem?_app' {α : Type} {l1 l2 : List α} {k : Nat} {x : α} (h : (l1 ++ l2)[k]? = some x) : (k < l1.length ∧ l1[k]? = some x) ∨ (l1.length ≤ k ∧ l2[k - l1.length]? = some x) := by
  by_cases hk : k < l1.length
  · exact .inl ⟨hk, by rwa [List.getElem?_append_left hk] at h⟩
  · exact .inr ⟨by omega, by rwa [List.getElem?_append_right (by omega)] at h⟩

theorem range_memN {n k : Nat} : memN (List.range n) k = true ↔ k < n := by
  have key : ∀ {l : List Nat} {k : Nat}, memN l k = true ↔ k ∈ l := by
    intro l
    induction l with
    | nil => simp [memN]
    | cons j l ih =>
      intro k
      simp only [memN, List.mem_cons]
      cases h : j == k with
      | true => have : j = k := by simpa using h
                simp [this]
      | false =>
        have : ¬ (k = j) := fun e => by simp [e] at h
        simp [this, ih]
  rw [key, List.mem_range]

/-- What a call in place hands back. -/
theorem retI_ok {outer2 : List Value} {f : Func} {E2 E3 : Env} {s : Slot} (h : Sx w0 Pr0 M outer2 [] E2 a w) {n : Nat} (hn : n = outer2.length) (hr : retI n E2 f.results.toList = some (s, E3)) (hle : n ≤ E2.length) :
    ∃ v, (results f a.tmps).run P w = .ok v w ∧ Hand w0 Pr0 M ((keepE (List.range n) E3).take n) outer2 w s v ∧ ((keepE (List.range n) E3).take n).length = n := by
  subst hn
  obtain ⟨⟨Pr, B, hst, hN⟩, hds⟩ := h
  have fin : ∀ {E3 : Env} {B3 : Nat → List Nat} {s : Slot} {v : Value}, E3.length = E2.length → StB w0 Pr0 M E3 (outer2 ++ a.tmps.toList) w Pr B3 → (∀ E' V', SlotOk w Pr E' V' B3 E3.length s v) → (∀ E' V' B' k, B' k = B3 E3.length → SlotOk w Pr E' V' B' k s v) →
      Hand w0 Pr0 M ((keepE (List.range outer2.length) E3).take outer2.length) outer2 w s v ∧ ((keepE (List.range outer2.length) E3).take outer2.length).length = outer2.length := by
    intro E3 B3 s v hl h3 _ hs
    have hlen : ((keepE (List.range outer2.length) E3).take outer2.length).length = outer2.length := by
      rw [List.length_take]
      have : (keepE (List.range outer2.length) E3).length = E3.length := keepL_len
      omega
    refine ⟨⟨Pr, (fun k => if k < outer2.length then (bif memN (List.range outer2.length) k then B3 k else []) else if k = outer2.length then B3 E3.length else []), ?_, ?_, fun k hk => ?_⟩, hlen⟩
    · have := h3.keep (keep := List.range outer2.length) (n := outer2.length) (N := E3.length) (by omega) (Nat.le_refl _) (fun k hk _ => range_memN.1 hk)
      rw [List.take_append_of_le_length (Nat.le_refl _), List.take_length] at this
      exact this
    · refine hs _ _ _ _ ?_
      rw [hlen]
      simp
    · rw [hlen] at hk
      simp only
      rw [if_neg (by omega), if_neg (by omega)]
  unfold retI at hr
  split at hr
  · rename_i hres
    simp only [Option.some.injEq, Prod.mk.injEq] at hr
    obtain ⟨rfl, rfl⟩ := hr
    have hres' : f.results = #[] := by rw [← Array.toList_inj]; exact hres
    refine ⟨.tuple #[], by simp [results, hres'], fin rfl hst (fun _ _ => ⟨[], rfl, hN _ (Nat.le_refl _)⟩) (fun _ _ _ _ hb => ⟨[], rfl, by rw [hb]; exact hN _ (Nat.le_refl _)⟩)⟩
  · rename_i t hres
    have hres' : f.results = #[.tmp t] := by rw [← Array.toList_inj]; exact hres
    split at hr
    · rename_i v us ht
      simp only [Option.some.injEq, Prod.mk.injEq] at hr
      obtain ⟨rfl, rfl⟩ := hr
      obtain ⟨B1, g1, g2, g3, g4⟩ := take_ok hst (Nat.le_refl _) (hN _ (Nat.le_refl _)) (opd_ok hst ⟨outer2, rfl, rfl⟩ (.tmp t)) ht
      refine ⟨a.eval (.tmp t), by simp [results, hres', Act.eval], fin g4 g1 (fun _ _ => ?_) (fun _ _ _ _ hb => ?_)⟩
      · show ValOk _ _ _ _ _ _ _
        rw [g4]; exact g2
      · show ValOk _ _ _ _ _ _ _
        rw [hb, g4]; exact g2
    · cases hr
  · cases hr

theorem inlOf_some {cx : Cx} {E : Env} {off : Nat} {o : Oper} {k : FuncId} {f : Func × Plan} {caps : List Al} {xs : List Operand} (h : inlOf cx E off o = some (k, f, caps, xs)) :
    ∃ c fo, o.op = .call c ∧ c.callee = .value fo ∧ (opd E off fo).s = .fn k caps ∧ InFn cx k f ∧ xs = c.args.toList := by
  unfold inlOf at h
  split at h
  · rename_i c hop
    split at h
    · rename_i fo hc
      split at h
      · rename_i k' caps' hs
        split at h
        · rename_i f' hf
          simp only [Option.some.injEq, Prod.mk.injEq] at h
          obtain ⟨rfl, rfl, rfl, rfl⟩ := h
          exact ⟨c, fo, hop, hc, hs, siteOf_some hf, rfl⟩
        · split at h
          · rename_i f' hf
            simp only [Option.some.injEq, Prod.mk.injEq] at h
            obtain ⟨rfl, rfl, rfl, rfl⟩ := h
            exact ⟨c, fo, hop, hc, hs, .inl hf, rfl⟩
          · cases h
      · cases h
    · cases h
  · cases h

theorem call_enter2 {k : FuncId} {fn : Func} {o : Oper} {c : Call} {fo : Operand} {cv : Array Value} (hop : o.op = .call c) (hc : c.callee = .value fo) (hv : a.eval fo = .func (.func k) #[] cv) (hfn : P.funcs[k]? = some fn) (hb : fn.body.isNone = false) (hn : (fn.name == "runtime.NumGoroutine") = false) (w : World) :
    (execOp a.eval o).run P w = .ok (.enter k (c.args.map a.eval ++ cv)) w := by
  simp only [execOp, hop, resolve, hc, hv, Deferred.ofValue]
  show (callFunc k ((#[] ++ c.args.map a.eval) ++ cv)).run P w = _
  simp only [Array.empty_append]
  exact call_enter hfn hb hn _ _

theorem caps_row {caps : List Al} {cv : List Value} (h : AllL (AddrOk w E (outer ++ a.tmps.toList)) caps cv) {i : Nat} {e : Ent} {v : Value} (he : (caps.map (fun al => ent (.addr al)))[i]? = some e) (hv : cv[i]? = some v) : SlotOk w Pr E (outer ++ a.tmps.toList) B E.length e.s v := by
  induction caps generalizing cv i with
  | nil => simp at he
  | cons al caps ih =>
    cases cv with
    | nil => simp at hv
    | cons u cv =>
      cases i with
      | zero =>
        simp only [List.map_cons, List.getElem?_cons_zero, Option.some.injEq] at he hv
        subst he; subst hv
        exact h.1
      | succ i => exact ih h.2 (by simpa using he) (by simpa using hv)

theorem allL_len {α β : Type} {S : α → β → Prop} : ∀ {as : List α} {bs : List β}, AllL S as bs → as.length = bs.length
  | [], [], _ => rfl
  | a :: as, b :: bs, h => by simp [allL_len h.2]
  | [], _ :: _, h => h.elim
  | _ :: _, [], h => h.elim

theorem inl_ok {rc : Rc} (hfs : FuncsOk P cx) (hrc : RcOk P cx rc) (hgl : GlOk cx.gl w0 Pr0 M) {o : Oper} {K : Zv → Option R} {q : FuncId × (Func × Plan) × List Al × List Operand} (h : Sx w0 Pr0 M outer ds E a w) (hq : inlOf cx E outer.length o = some q)
    (hs : inlK rc E outer.length q.2.1.1 q.2.1.2 q.2.2.1 q.2.2.2 K = some r) (next : Act → World → Prop) (Q : Exit → Act → World → Prop)
    (hn : ∀ z a' w', K z = some r → Sx w0 Pr0 M outer ds (putE outer.length o.dst z) a' w' → next a' w') : o.wp P a w next Q := by
  obtain ⟨k, ⟨f, pl⟩, caps, xs⟩ := q
  obtain ⟨c, fo, hop, hc, hfk, hf, rfl⟩ := inlOf_some hq
  simp only at hs
  unfold inlK at hs
  split at hs
  · cases hs
  rename_i body hbody
  obtain ⟨hfn, hname⟩ := hfs k _ hf
  simp only at hfn hname
  obtain ⟨⟨Pr, B, hst, hN⟩, hds⟩ := id h
  have hlen := hst.len
  have hcap : ∃ cv : List Value, a.eval fo = .func (.func k) #[] cv.toArray ∧ AllL (AddrOk w E (outer ++ a.tmps.toList)) caps cv := by
    have ho := opd_ok hst ⟨outer, rfl, rfl⟩ fo
    cases hix : (opd E outer.length fo).ix with
    | none =>
      unfold OpdOk at ho
      rw [hix, hfk] at ho
      obtain ⟨rfl, hv⟩ := ho
      exact ⟨[], hv, trivial⟩
    | some j =>
      have := opdOk_tmp hst ho hix
      rw [hfk] at this
      exact this
  obtain ⟨cv, hv, hcv⟩ := hcap
  unfold Oper.wp
  rw [call_enter2 hop hc hv hfn (by rw [hbody]; rfl) hname w]
  show Calls P k _ w _
  refine calls_of_wp hfn hbody ?_
  have hcl := allL_len hcv
  have hst2 : Sx w0 Pr0 M (outer ++ a.tmps.toList) [] (E ++ (argE E outer.length c.args.toList ++ (caps.map (fun a => ent (.addr a)) ++ List.replicate (f.ntmps - (c.args.toList.length + caps.length)) (ent .none))))
      { tmps := (c.args.map a.eval ++ cv.toArray) ++ Array.replicate (f.ntmps - (c.args.map a.eval ++ cv.toArray).size) undef, defers := [] } w := by
    refine ⟨?_, rfl⟩
    have e1 : ((c.args.map a.eval ++ cv.toArray) ++ Array.replicate (f.ntmps - (c.args.map a.eval ++ cv.toArray).size) undef).toList =
        c.args.toList.map a.eval ++ (cv ++ List.replicate (f.ntmps - (c.args.toList.length + caps.length)) undef) := by
      simp [hcl]
    simp only [e1]
    refine St.more hst hN (by simp [argE_len, hcl]) fun i e v he hv => ?_
    rcases getElem?_app' he with ⟨p1, p2⟩ | ⟨p1, p2⟩
    · rw [argE_len] at p1
      rw [List.getElem?_append_left (by simpa using p1)] at hv
      exact alias_row hst hN p2 hv
    · rw [argE_len] at p1 p2
      rw [List.getElem?_append_right (by simpa using p1)] at hv
      simp only [List.length_map] at hv
      rcases getElem?_app' p2 with ⟨q1, q2⟩ | ⟨q1, q2⟩
      · simp only [List.length_map] at q1
        rw [List.getElem?_append_left (by omega)] at hv
        exact caps_row hcv q2 hv
      · rw [List.getElem?_replicate] at q2
        split at q2
        · obtain rfl := Option.some.inj q2; trivial
        · cases q2
  rw [hlen] at hs
  refine hrc w0 Pr0 M (outer ++ a.tmps.toList) [] R pl body r _ _ w _ _ hgl ⟨k, f, hf, hbody⟩ hs hst2 fun x E2 a' w' hk hx => ?_
  have fin : ∀ (s : Slot) (E3 : Env), retI (outer ++ a.tmps.toList).length E2 f.results.toList = some (s, E3) →
      (bif (outer ++ a.tmps.toList).length == ((keepE (List.range (outer ++ a.tmps.toList).length) E3).take (outer ++ a.tmps.toList).length).length then K ⟨s, (keepE (List.range (outer ++ a.tmps.toList).length) E3).take (outer ++ a.tmps.toList).length, List.range (outer ++ a.tmps.toList).length⟩ else none) = some r →
      a'.defers = [] ∧ ∃ v, (results f a'.tmps).run P w' = .ok v w' ∧ next (a.put o.dst v) w' := by
    intro s E3 hret hk
    have hl2 : (outer ++ a.tmps.toList).length ≤ E2.length := by
      have := St.len hx.st
      simp only [List.length_append] at this ⊢
      omega
    obtain ⟨v, h1, h2, h3⟩ := retI_ok (P := P) hx rfl hret hl2
    refine ⟨hx.ds, v, h1, ?_⟩
    rw [h3, beq_self_eq_true, cond_true] at hk
    exact hn _ _ _ hk ⟨Hand.putZ h2, by rw [put_defers, hds]⟩
  cases x with
  | exit id => cases hk
  | normal =>
    simp only at hk
    split at hk
    · rename_i s E3 hret
      exact fin s E3 hret hk
    · cases hk
  | ret =>
    simp only at hk
    split at hk
    · rename_i s E3 hret
      exact fin s E3 hret hk
    · cases hk

theorem arrOk_str : ∀ {n m : Nat} {a t : Ty}, 1 ≤ n → arrOk .str n t = true → arrOk a m t = true → n = m ∧ a = .str
  | 0, _, _, _, h, _, _ => by omega
  | 1, 0, _, .pair _ _, _, _, h => by simp [arrOk] at h
  | n + 1, 0, _, .pair _ _, _, _, h => by simp [arrOk] at h
  | 1, 1, a, .pair b c, _, h1, h2 => by
    simp only [arrOk, Bool.and_eq_true, beq_iff_eq] at h1 h2
    exact ⟨rfl, by rw [← h2.1, h1.1]⟩
  | 1, m + 2, a, .pair b c, _, h1, h2 => by
    simp only [arrOk, Bool.and_eq_true, beq_iff_eq] at h1 h2
    cases c <;> simp [arrOk] at h1 h2
  | n + 2, 1, a, .pair b c, _, h1, h2 => by
    simp only [arrOk, Bool.and_eq_true, beq_iff_eq] at h1 h2
    cases c <;> simp [arrOk] at h1 h2
  | n + 2, m + 2, a, .pair b c, _, h1, h2 => by
    simp only [arrOk, Bool.and_eq_true] at h1 h2
    obtain ⟨e1, e2⟩ := arrOk_str (n := n + 1) (m := m + 1) (a := a) (t := c) (by omega) h1.2 h2.2
    exact ⟨by omega, e2⟩
  | n + 1, _, _, .int _, _, h, _ | n + 1, _, _, .bool, _, h, _ | n + 1, _, _, .str, _, h, _ | n + 1, _, _, .unit, _, h, _ | n + 1, _, _, .slice _ _, _, h, _ => by simp [arrOk] at h

theorem strArr_of (htab : TabOk P cx.tab) (harr : ArrOk P cx) {tid : TypeId} {n : Nat} (h : isStrArr cx tid n = true) : ∃ e, P.underlying tid = some (.array n e) ∧ lookup cx.tab e = some .str := by
  unfold isStrArr at h
  rw [Bool.and_eq_true, Bool.and_eq_true, decide_eq_true_eq] at h
  obtain ⟨h1, h2, h3⟩ := h
  cases hl : lookup cx.tab tid with
  | none => rw [hl] at h3; cases h3
  | some t =>
    rw [hl] at h3
    obtain ⟨m, e, a', g1, g2, g3, g4, _⟩ := array_of htab harr hl h1
    obtain ⟨rfl, rfl⟩ := arrOk_str h2 h3 g4
    exact ⟨e, g1, g2⟩

theorem repL_str {w : World} {Pr : Nat → Prop} : ∀ (l : List (List UInt8)), RepL (Rep w Pr .str .b) (l.map strV) l []
  | [] => ⟨rfl, rfl⟩
  | x :: l => ⟨[strV x], l.map strV, [], [], rfl, List.Perm.refl _, ⟨rfl, rfl⟩, repL_str l⟩

/-- Where a package-level row lies. -/
theorem glob_cells (hgl : GlOk cx.gl w0 Pr0 M) {E : Env} {V : List Value} {Pr : Nat → Prop} {B : Nat → List Nat} (h : StB w0 Pr0 M E V w Pr B) {g : Nat} {l : List (List UInt8)} (hl : lookup cx.gl.strs g = some l) :
    Pr g ∧ ∃ T, w.heap[g]? = some (.cells (l.map strV).toArray T (0, 0)) := by
  obtain ⟨h1, h2⟩ := cx.gl.strs_ok w (cx.gl.stable w0 w hgl.1 fun b hb => h.frame b (hgl.2 b hb).2.1 (hgl.2 b hb).2.2) _ (lookup_mem hl)
  exact ⟨h.pr0 g (hgl.2 g h1).1, h2⟩

theorem glob_at {g j : Nat} {T : TypeId} {l : List (List UInt8)} (hg : w.heap[g]? = some (.cells (l.map strV).toArray T (0, 0))) (hj : j < l.length) : w.cell? ⟨g, j, none⟩ = some (strV (l.getD j [])) := by
  have : (l.map strV)[j]? = some (strV (l.getD j [])) := by simp [List.getD, hj]
  simp [World.cell?, hg, this]

theorem globAt_ok (htab : TabOk P cx.tab) (harr : ArrOk P cx) (hgl : GlOk cx.gl w0 Pr0 M) {o : Oper} {V : List Value} {Pr : Nat → Prop} {B : Nat → List Nat} {off : Nat} {a : Act} {K : SU → Option R} (h : StB w0 Pr0 M E V w Pr B) (hN : ∀ k, E.length ≤ k → B k = []) (hf : Fr off V a)
    {tid : TypeId} {g : Nat} {i : Operand} (hop : o.op = .indexAddr tid (.global g) i) (hs : globAt cx E off tid g i K = some r) : ∃ z, K z = some r ∧ OpGood w0 Pr0 M P E V w a o z := by
  unfold globAt at hs
  split at hs
  · rename_i l k n hl hi
    cases hc : isStrArr cx tid l.length && inB n l.length with
    | false => rw [hc] at hs; cases hs
    | true =>
      rw [hc] at hs
      rw [Bool.and_eq_true] at hc
      obtain ⟨e, q1, q2⟩ := strArr_of htab harr hc.1
      obtain ⟨h0, h1, h2⟩ := inB_iff hc.2
      obtain ⟨hp, T, hg⟩ := glob_cells hgl h hl
      refine ⟨_, hs, .value (.pointer (some ((⟨g, 0, none⟩ : Addr).add (n.toNat * 1)))), w, _, ?_, .inl rfl, rfl, hand_same h hN fun N hB => ?_⟩
      · have hsz := run_sizeOf (P := P) (w := w) (tab_fact htab q2)
        have hge : a.eval (.global g) = .pointer (some ⟨g, 0, none⟩) := rfl
        simp [execOp, hop, rd_int h (opd_ok h hf i) hi, hge, Instr.indexAt, asIntOf, run_underlying q1, Instr.sureAddr, h0, h1, hsz, Ty.size]
      · refine ⟨_, [strV (l.getD n.toNat [])], rfl, by rw [add_block]; exact hp, fun j u hu => ?_, ⟨rfl, rfl⟩⟩
        have hj : j = 0 := by have := (List.getElem?_eq_some_iff.1 hu).1; simp at this; omega
        subst hj
        simp only [List.getElem?_cons_zero, Option.some.injEq] at hu
        subst hu
        have e0 : ((⟨g, 0, none⟩ : Addr).add (n.toNat * 1)).add 0 = ⟨g, n.toNat, none⟩ := by
          by_cases hz : n.toNat = 0 <;> simp [Addr.add, hz]
        rw [e0]
        exact glob_at hg h2
  · cases hs

theorem globAll_ok (htab : TabOk P cx.tab) (harr : ArrOk P cx) (hgl : GlOk cx.gl w0 Pr0 M) {o : Oper} {V : List Value} {Pr : Nat → Prop} {B : Nat → List Nat} {off : Nat} {a : Act} {K : SU → Option R} (h : StB w0 Pr0 M E V w Pr B) (hN : ∀ k, E.length ≤ k → B k = []) (_ : Fr off V a)
    {tid : TypeId} {g : Nat} (hop : o.op = .slice tid (.global g) none none none) (hs : globAll cx tid g K = some r) : ∃ z, K z = some r ∧ OpGood w0 Pr0 M P E V w a o z := by
  unfold globAll at hs
  split at hs
  · rename_i l hl
    cases hc : isStrArr cx tid l.length with
    | false => rw [hc] at hs; cases hs
    | true =>
      rw [hc] at hs
      obtain ⟨e, q1, q2⟩ := strArr_of htab harr hc
      obtain ⟨hp, T, hg⟩ := glob_cells hgl h hl
      refine ⟨_, hs, .value (.slice (some ⟨g, 0, none⟩) l.length l.length), w, _, ?_, .inl rfl, rfl, hand_same h hN fun N hB => ?_⟩
      · have hsz := run_sizeOf (P := P) (w := w) (tab_fact htab q2)
        by_cases hz : l.length = 0
        · simp [execOp, hop, Act.eval, Instr.sliceAt, run_underlying q1, Instr.sureAddr, Instr.sliceBounds, hsz, Ty.size, hz]
        · simp [execOp, hop, Act.eval, Instr.sliceAt, run_underlying q1, Instr.sureAddr, Instr.sliceBounds, hsz, Ty.size, Addr.add]
      · show ValOk _ _ _ _ _ _ _
        rw [hB]
        refine ⟨[.slice (some ⟨g, 0, none⟩) l.length l.length], rfl, rep_bor.2 ⟨rfl, _, _, rfl, Nat.le_refl _, .inr ⟨_, l.map strV, rfl, hp, fun j u hu => ?_, repL_str l⟩⟩⟩
        have hj : j < l.length := by have := (List.getElem?_eq_some_iff.1 hu).1; simpa using this
        have hu' : u = strV (l.getD j []) := by
          simp [hj] at hu
          simp [List.getD, hj, hu]
        rw [hu']
        have e0 : (⟨g, 0, none⟩ : Addr).add j = ⟨g, j, none⟩ := by
          by_cases hz : j = 0 <;> simp [Addr.add, hz]
        rw [e0]
        exact glob_at hg hj
  · cases hs

theorem plain_ok (htab : TabOk P cx.tab) (harr : ArrOk P cx) (hcts : CtsOk P cx) (hgl : GlOk cx.gl w0 Pr0 M) {o : Oper} {K : SU → Option R} (h : Sx w0 Pr0 M outer ds E a w) (hs : plainK cx E outer.length o K = some r) :
    ∃ z, K z = some r ∧ ∀ (next : Act → World → Prop) (Q : Exit → Act → World → Prop), (∀ a' w', Sx w0 Pr0 M outer ds (putE outer.length o.dst ⟨z.1, appU E z.2, z.2.map U.ix⟩) a' w' → next a' w') → o.wp P a w next Q := by
  obtain ⟨⟨Pr, B, hst, hN⟩, hds⟩ := h
  have hf : Fr outer.length (outer ++ a.tmps.toList) a := ⟨outer, rfl, rfl⟩
  have main : ∃ z, K z = some r ∧ OpDoes w0 Pr0 M P E (outer ++ a.tmps.toList) w a o z := by
    unfold plainK at hs
    split at hs
    · rename_i c hop
      split at hs
      · obtain ⟨z, h1, h2⟩ := step_ok htab harr hst hN hf hs
        exact ⟨z, h1, h2.does⟩
      · exact callL_ok hcts hgl hop hst hN hf hs
    · rename_i tid g i hop
      obtain ⟨z, h1, h2⟩ := globAt_ok htab harr hgl hst hN hf hop hs
      exact ⟨z, h1, h2.does⟩
    · rename_i tid g hop
      obtain ⟨z, h1, h2⟩ := globAll_ok htab harr hgl hst hN hf hop hs
      exact ⟨z, h1, h2.does⟩
    · obtain ⟨z, h1, h2⟩ := step_ok htab harr hst hN hf hs
      exact ⟨z, h1, h2.does⟩
  obtain ⟨z, h1, h2⟩ := main
  refine ⟨z, h1, fun next Q hn => ?_⟩
  refine Oper.wp_mono ?_ (h2 Q)
  rintro a' w' ⟨v, rfl, hlen, hh⟩
  exact hn _ _ ⟨Hand.putZ (z := ⟨z.1, appU E z.2, z.2.map U.ix⟩) hh, by rw [put_defers, hds]⟩

/-- All that the interpreter leans on. -/
structure Ok (P : Program) (cx : Cx) (rc : Rc) (w0 : World) (Pr0 M : Nat → Prop) : Prop where
  tab : TabOk P cx.tab
  arr : ArrOk P cx
  cts : CtsOk P cx
  fns : FuncsOk P cx
  rc : RcOk P cx rc
  mix : P.follows .mixedOrders = true
  gl : GlOk cx.gl w0 Pr0 M

theorem opK_ok {rc : Rc} (hk : Ok P cx rc w0 Pr0 M) {o : Oper} {K : Zv → Option R} (h : Sx w0 Pr0 M outer ds E a w) (hs : opK cx rc E outer.length o K = some r) (next : Act → World → Prop) (Q : Exit → Act → World → Prop)
    (hn : ∀ z a' w', K z = some r → Sx w0 Pr0 M outer ds (putE outer.length o.dst z) a' w' → next a' w') : o.wp P a w next Q := by
  unfold opK at hs
  split at hs
  · rename_i q hq
    exact inl_ok hk.fns hk.rc hk.gl h hq hs next Q hn
  · obtain ⟨z, h1, h2⟩ := plain_ok hk.tab hk.arr hk.cts hk.gl h hs
    exact h2 next Q fun a' w' hx => hn _ a' w' h1 hx

theorem skip_put (dst : Option Tmp) (h : Sx w0 Pr0 M outer ds E a w) : Sx w0 Pr0 M outer ds (putE outer.length dst (deadZ E)) (a.put dst undef) w := by
  obtain ⟨⟨Pr, B, hst, hN⟩, hds⟩ := h
  exact ⟨Hand.putZ (z := deadZ E) ⟨Pr, B, hst, ⟨[], rfl, hN _ (Nat.le_refl _)⟩, fun k hk => hN k (by simp only [deadZ] at hk; omega)⟩, by rw [put_defers, hds]⟩

/-! ### guards -/
/-- What the guard says. -/
def gd (E : Env) (off : Nat) (l : List Oper) (o : Oper) : Option Bool :=
  match o.guard with
  | none => some true
  | some (g, want) =>
    match (l[g]?).bind (·.dst) with
    | none => none
    | some t =>
      match (E.at (off + t)).s with
      | .val .bool _ b => some (b == want)
      | .tup [] => some false
      | _ => none

theorem setS_same {k : Nat} {s : Slot} (h : (E.at k).s = s) : setS E k s = E := by
  apply List.ext_getElem?
  intro i
  simp only [setS, List.getElem?_set]
  split
  · rename_i e
    subst e
    split
    · rename_i hk
      have := List.getElem?_eq_getElem (l := E) hk
      rw [this, ← h]
      have h2 := at_of this
      rw [h2]
    · rename_i hk; rw [List.getElem?_eq_none (by omega)]
  · rfl

theorem guardK_eq {off : Nat} {l : List Oper} {o : Oper} {A B : Env → Option R} : guardK E off l o A B = match gd E off l o with | none => none | some true => A E | some false => B E := by
  unfold guardK gd
  cases o.guard with
  | none => rfl
  | some q =>
    obtain ⟨g, want⟩ := q
    simp only
    cases (l[g]?).bind (·.dst) with
    | none => rfl
    | some t =>
      simp only
      split
      · rename_i ow b hs
        cases want <;> cases b <;> simp only [cond_true, cond_false, setS_same hs] <;> rfl
      · rfl
      · rfl

theorem gd_ok {ops : Array Oper} {o : Oper} {b : Bool} (h : Sx w0 Pr0 M outer ds E a w) (hg : gd E outer.length ops.toList o = some b) : Region.wanted o (yielded ops a.tmps) = b := by
  unfold gd at hg
  unfold Region.wanted
  split at hg
  · rename_i hgu; rw [hgu]; simpa using hg
  · rename_i g want hgu
    rw [hgu]
    simp only
    split at hg
    · cases hg
    · rename_i t ht
      rw [Array.getElem?_toList] at ht
      unfold yielded
      rw [ht]
      simp only [Option.bind_some]
      obtain ⟨⟨Pr, B, hst, hN⟩, hds⟩ := h
      have hf : Fr outer.length (outer ++ a.tmps.toList) a := ⟨outer, rfl, rfl⟩
      have ho := opd_ok hst hf (.tmp t)
      split at hg
      · rename_i ow bb hs
        have hr : rd E (opd E outer.length (.tmp t)).s = some ⟨.bool, bb⟩ := by
          show rd E (E.at (outer.length + t)).s = _
          rw [hs]; rfl
        have hv := rd_bool hst ho hr
        have : a.tmps[t]? = some (.bool bb) := by
          simp only [Act.eval] at hv
          rw [Array.getD_eq_getD_getElem?] at hv
          cases hq : a.tmps[t]? with
          | none => rw [hq] at hv; simp [undef] at hv
          | some u => rw [hq] at hv; simpa using hv
        rw [this]
        simp only [Option.some.injEq] at hg
        subst hg
        cases bb <;> cases want <;> rfl
      · rename_i hs
        have hso := opdOk_tmp hst ho (k := outer.length + t) rfl
        have hso : SlotOk w Pr E (outer ++ a.tmps.toList) B (outer.length + t) (E.at (outer.length + t)).s _ := hso
        rw [hs] at hso
        obtain ⟨vs, h1, h2⟩ := hso
        cases vs with
        | cons => exact h2.elim
        | nil =>
          have : ∀ b, a.tmps[t]? ≠ some (.bool b) := by
            intro b hq
            simp only [Act.eval] at h1
            rw [Array.getD_eq_getD_getElem?, hq] at h1
            cases h1
          cases hq : a.tmps[t]? with
          | none => simpa using hg
          | some u =>
            cases u <;> first | (exact absurd hq (this _)) | (simpa using hg)
      · cases hg

/-! ### the text's order -/
theorem opsK_ok {rc : Rc} (hok : Ok P cx rc w0 Pr0 M) {ops : Array Oper} {Q : Exit → Act → World → Prop} {K : Env → Option R}
    (hK : ∀ E a w, K E = some r → Sx w0 Pr0 M outer ds E a w → Q .normal a w) : ∀ (l2 : List Oper) (i : Nat) (E : Env) (a : Act) (w : World),
    ops.toList.drop i = l2 → opsK cx rc outer.length ops.toList l2 E K = some r → Sx w0 Pr0 M outer ds E a w → wpOps P ops Q (List.range' i l2.length) a w
  | [], i, E, a, w, _, hs, hx => hK E a w hs hx
  | o :: os, i, E, a, w, hd, hs, hx => by
    have hi : ops[i]? = some o := by
      rw [← Array.getElem?_toList]
      have := congrArg (fun l => l[0]?) hd
      simpa using this
    have hd' : ops.toList.drop (i + 1) = os := by rw [← List.tail_drop, hd]; rfl
    simp only [opsK] at hs
    rw [guardK_eq] at hs
    simp only [List.length_cons, List.range'_succ]
    rw [wpOps_cons]
    unfold wpOp
    rw [hi]
    simp only
    cases hg : gd E outer.length ops.toList o with
    | none => rw [hg] at hs; cases hs
    | some b =>
      rw [hg] at hs
      rw [gd_ok hx hg]
      cases b with
      | true => exact .inl (opK_ok hok hx hs _ _ fun z a' w' h1 hx' => opsK_ok hok hK os (i + 1) _ a' w' hd' h1 hx')
      | false => exact opsK_ok hok hK os (i + 1) _ _ w hd' hs (skip_put o.dst hx)

end
end Go.Dn
end
