/- Operations, eighth part: appends, literals of slices. -/
import Derived.Test.YtegfhigkmghmjaaDoorDp
namespace Go.Dn

section
variable {w0 : World} {Pr0 M : Nat → Prop}
variable {P : Program} {cx : Cx} {E : Env} {V : List Value} {w w' : World} {Pr : Nat → Prop} {B : Nat → List Nat} {off : Nat} {a : Act}

/-- The machine's append to a row of one's own: it grows in its own block, or a new one comes. -/
theorem run_append_mine (t ty e : TypeId) (i : TypeInfo) (z : Value) (size : Nat) (ht : P.underlying t = some (.slice e)) (hi : P.info? e = some i) (hz : i.zero = some z)
    (hsize : i.size = size) (hby : i.bytes ≤ 128) (hzs : z.cells.size = size) (hsz : 0 < size)
    (v : Value) (n : Nat) (xs : List Value) (hown : w.ownsRow 0 e size v n xs)
    (A : Option Addr) (m c : Nat) (news : List Value) (hl : news.length = m * size) (hA : (news = []) ∨ ∃ ad, A = some ad ∧ Cells w ad news) (h1 : ∀ u ∈ news, u.oneCell' = true)
    (h40 : n + m ≤ 1099511627776) :
    ∃ v' w', (Builtin.append_ #[t, t] ty #[v, .slice A m c]).run P w = .ok v' w' ∧ w'.ownsRow 0 e size v' (n + m) (xs ++ news) ∧ w.grownBy w' v.ownBlock ∧
      (v'.ownBlock = v.ownBlock ∨ v'.ownBlock = some w.heap.size) := by
  have hmax : n + m ≤ maxLen := by simp only [maxLen]; omega
  have hbytes : (n + m) * i.bytes ≤ 140737488355328 := by
    calc (n + m) * i.bytes ≤ 1099511627776 * 128 := Nat.mul_le_mul h40 hby
      _ = 140737488355328 := by decide
  have hm0 : news = [] → m = 0 := by
    intro h
    rw [h] at hl
    rcases Nat.eq_zero_or_pos m with h | h
    · exact h
    · have := Nat.mul_pos h hsz; simp at hl; omega
  by_cases hAn : A = none
  · subst hAn
    have hn : news = [] := hA.resolve_right (by rintro ⟨ad, h, _⟩; cases h)
    have hm := hm0 hn
    subst hn; subst hm
    refine ⟨v, w, ?_, by simpa using hown, ⟨rfl, rfl, rfl, Nat.le_refl _, fun _ _ _ => rfl⟩, .inl rfl⟩
    rcases ownsRow_form hown with ⟨rfl, rfl, _⟩ | ⟨g, cap, rfl, _, hc⟩
    · simp [Builtin.append_, run_underlying ht, Go.sizeOf, typeInfo, hi, Builtin.lenOf, Builtin.firstCells, go_sem]
    · simp [Builtin.append_, run_underlying ht, Go.sizeOf, typeInfo, hi, Builtin.lenOf, Builtin.firstCells, hc, go_sem]
  · obtain ⟨ad, rfl⟩ : ∃ ad, A = some ad := by cases A with | none => exact absurd rfl hAn | some ad => exact ⟨ad, rfl⟩
    have hnews : ∀ (j : Nat) (u : Value), news[j]? = some u → w.cell? (ad.add j) = some u := by
      rcases hA with rfl | ⟨ad', h, hc⟩
      · intro j u hu; simp at hu
      · injection h with h; subst h; exact hc
    obtain ⟨v', w', r1, r2, r3, r4⟩ := run_append_own (P := P) w 0 t ty e i z size i.bytes ht hi hz hsize rfl hzs hsz v n xs hown ad m c news hl hnews h1 hmax hbytes (Nat.zero_le _)
    refine ⟨v', w', r1, r2, r3, ?_⟩
    rcases hown.2 with ⟨rfl, rfl⟩ | ⟨g, cap, cur, rfl, hbg, hg, hnc, hcm, hcs, htake⟩
    · by_cases hm : m = 0
      · left; rw [r4.2 ⟨rfl, hm⟩]
      · have hr := run_append_nil (P := P) w t ty e i z ht hi hz ad m c news (by rw [hsize]; exact hl) hnews (by omega) (by omega) (by have hb := hbytes; simp only [Nat.zero_add] at hb; omega)
        rw [r1] at hr
        injection hr with hr1 hr2
        right; rw [hr1]; rfl
    · by_cases hroom : n + m ≤ cap
      · have hr := run_append_room (P := P) w t ty e i ht hi g n cap cur hg ad m c news (by rw [hsize]; exact hl) hnews h1 hroom (by rw [hsize, hl, hcs, ← Nat.add_mul]; exact Nat.mul_le_mul_right _ hroom)
        rw [r1] at hr
        injection hr with hr1 hr2
        left; rw [hr1]; rfl
      · have hr := run_append_grow (P := P) w t ty e i z ht hi hz ⟨g, 0, none⟩ n cap xs (by rw [hsize]; exact hown.1) (hown.cells (g := g) rfl) ad m c news (by rw [hsize]; exact hl) hnews (by omega) (by omega) (growslice_fits (by omega) hbytes)
        rw [r1] at hr
        injection hr with hr1 hr2
        right; rw [hr1]; rfl

theorem zero_size {t : Ty} {e : TypeId} {i : TypeInfo} {z : Value} (h4 : zOk t z.cells.toList = some []) : z.cells.size = t.size := by
  obtain ⟨c, hc, hr⟩ := zOk_rep (w := default) (Pr := fun _ => False) h4
  simp only [List.append_nil] at hc
  rw [← hr.length, ← hc]; simp

theorem run_call_append {o : Oper} {c : Call} {x y : Operand} {tid : TypeId} (hop : o.op = .call c) (hc : c.callee = .builtin .append) (hargs : c.args = #[x, y]) (hty : c.argTypes = #[tid, tid]) {v' : Value}
    (hr : (Builtin.append_ #[tid, tid] o.type #[a.eval x, a.eval y]).run P w = .ok v' w') : (execOp a.eval o).run P w = .ok (.value v') w' := by
  simp [execOp, hop, resolve, hc, hargs, hty, invoke, builtin, hr]

theorem perm_own {v v' : Value} {b' : List Nat} {bs : List Nat} (h : bs.Perm (v.ownBlock.toList ++ b')) : ∀ k ∈ b', k ∈ bs := fun _ hk => h.mem_iff.2 (List.mem_append_right _ hk)

/-- Elements without rows come to a row in the hand. -/
theorem good_append (htab : TabOk P cx.tab) {o : Oper} {c : Call} {x y : Operand} {tid e : TypeId} {t : Ty} {ow : Ow} {xs ys : List (PV t)} {us : List U}
    (hop : o.op = .call c) (hc : c.callee = .builtin .append) (hargs : c.args = #[x, y]) (hty : c.argTypes = #[tid, tid]) (h : StB w0 Pr0 M E V w Pr B) (hN : ∀ k, E.length ≤ k → B k = []) (hf : Fr off V a)
    (hl : lookup cx.tab tid = some (.slice e t)) (hns : noSl t = true) (htk : take E (opdT cx E off tid x) = some (⟨.slice e t, .row ow, xs⟩, us))
    (hy : rd (appU E us) (opdT cx (appU E us) off tid y).s = some ⟨.slice e t, ys⟩) (hroom : roomB (xs.length + ys.length) = true) :
    OpGood w0 Pr0 M P E V w a o (.val (.slice e t) (.row ow) (xs ++ ys), us) := by
  obtain ⟨_, hd, hfe, hsz⟩ := slTy_of htab hl
  obtain ⟨i, z, i1, i2, i3, i4, i5⟩ := hfe.info
  obtain ⟨B1, g1, ⟨cs, g2, g3⟩, g4, g5⟩ := take_ok h (N := E.length) (Nat.le_refl _) (hN _ (Nat.le_refl _)) (opdT_ok h hf tid x) htk
  obtain ⟨v, xc, b', rfl, r1, r2, r3⟩ := rep_row.1 g3
  obtain ⟨A, cy, y1, y2, A', c', y3, y4, y5⟩ := rd_slice g1 (opdT_ok g1 hf tid y) hy
  rw [y1] at y3
  simp only [List.cons.injEq, Value.slice.injEq, and_true, true_and] at y3
  obtain ⟨rfl, rfl⟩ := y3
  have hnewsEx : ∃ news, news.length = ys.length * t.size ∧ ((news = []) ∨ ∃ ad, A = some ad ∧ Cells w ad news) ∧ RepL (Rep w (All Pr B1) t .b) news ys [] := by
    rcases y5 with rfl | ⟨ad, nc, rfl, q1, q2, q3⟩
    · exact ⟨[], by simp, .inl rfl, rfl, rfl⟩
    · exact ⟨nc, q3.length (fun _ _ _ h => h.length), .inr ⟨ad, rfl, q2⟩, q3⟩
  obtain ⟨news, n1, n2, n3⟩ := hnewsEx
  have hv : a.eval x = v := g2
  obtain ⟨v', w', s1, s2, s3, s4⟩ := run_append_mine (P := P) tid o.type e i z t.size hd i1 i3 i2 i5 (zero_size (e := e) (i := i) i4) (by omega) v xs.length xc r1 A ys.length cy news n1 n2 n3.one (roomB_iff hroom)
  have hnd := r2.nodup_iff.1 (g1.nodup E.length)
  have hmem : ∀ k, k ∈ v.ownBlock.toList → k ∈ B1 E.length := fun k hk => r2.mem_iff.2 (List.mem_append_left _ hk)
  have hmem' : ∀ k, k ∈ b' → k ∈ B1 E.length := fun k hk => r2.mem_iff.2 (List.mem_append_right _ hk)
  have hlt' : ∀ k ∈ v'.ownBlock.toList, (k ∈ B1 E.length ∨ w.heap.size ≤ k) ∧ k < w'.heap.size := by
    intro k hk
    have hk' : v'.ownBlock = some k := by simpa using hk
    refine ⟨?_, (s2.lt k hk').2⟩
    rcases s4 with q | q
    · left; exact hmem k (by rw [← q]; exact hk)
    · right; rw [q] at hk'; injection hk' with hk'; omega
  have hB2 : (v'.ownBlock.toList ++ b').Nodup := by
    rcases s4 with q | q
    · rw [q]; exact hnd
    · rw [q]
      refine List.nodup_append.2 ⟨by simp, (List.nodup_append.1 hnd).2.1, fun x hx y hy => ?_⟩
      have hx' : x = w.heap.size := by simpa using hx
      have := (g1.free _ _ (hmem' y hy)).2.2
      omega
  have hgrow : ∀ b, b < w.heap.size → b ∉ v.ownBlock.toList → w'.heap[b]? = w.heap[b]? := fun b hb hnb => s3.block b hb (fun q => hnb (by rw [← q]; simp))
  have hst := g1.fresh (N := E.length) (w' := w') (bs := v'.ownBlock.toList ++ b') (by rw [g5]; exact Nat.le_refl _) (fun b hb => by
    rcases List.mem_append.1 hb with hb | hb
    · exact hlt' b hb
    · exact ⟨.inl (hmem' b hb), Nat.lt_of_lt_of_le (g1.free _ _ (hmem' b hb)).2.2 s3.size⟩) hB2 (fun b hb hnb => hgrow b hb (fun q => hnb (hmem b q))) s3.os s3.tape s3.output s3.size
  refine ⟨.value v', w', v', ?_, .inl rfl, g5, Pr, _, hst, ?_, fun j hj => ?_⟩
  · exact run_call_append hop hc hargs hty (by rw [hv, y1]; exact s1)
  · show ValOk _ _ _ _ _ _ _
    rw [g5, upd_N]
    refine ⟨[v'], rfl, rep_row.2 ⟨v', xc ++ news, b', rfl, by rw [List.length_append]; exact s2, List.Perm.refl _, ?_⟩⟩
    have hx2 : RepL (Rep w' Pr t ow) xc xs b' := r3.agree (fun _ h => h) (fun k hk => by
      rcases hk with hk | hk
      · exact hgrow k (g1.prlt k hk) (fun m => (g1.free _ _ (hmem k m)).2.1 hk)
      · exact hgrow k (g1.free _ _ (hmem' k hk)).2.2 (fun m => notin_of_nodup_append hnd m hk))
    have hy2 : RepL (Rep w' Pr t ow) news ys [] := n3.imp (bsA := []) (fun c x b hb hr => by
      have : b = [] := List.eq_nil_iff_forall_not_mem.2 (fun k hk => by simpa using hb k hk)
      subst this
      exact hr.plain hns) (fun _ h => h)
    have := hx2.append hy2
    rwa [List.append_nil] at this
  · rw [g5] at hj
    rw [upd_ne (by omega), g4 j (by omega) (by omega)]; exact hN j (by omega)

theorem meet_weaken (t : Ty) (o1 o2 : Ow) : weaken t o1 (meet t o1 o2) = true ∧ weaken t o2 (meet t o1 o2) = true := by
  have wk : ∀ (t : Ty) (o : Ow), weaken t o o = true := by
    intro t
    induction t with
    | pair a b iha ihb => intro o; simp [weaken, iha, ihb]
    | slice e t ih => intro o; cases o <;> simp [weaken, ih]
    | _ => intro o; rfl
  unfold meet
  cases h1 : weaken t o1 o2 with
  | true => exact ⟨h1, wk t o2⟩
  | false =>
    cases h2 : weaken t o2 o1 with
    | true => exact ⟨wk t o1, h2⟩
    | false => exact ⟨weaken_b t o1, weaken_b t o2⟩

/-- The cells of a slice's elements, and what they own. -/
theorem slice_cells {v : Value} {e : TypeId} {t : Ty} {oy : Ow} {ys : List (PV t)} {bs : List Nat} (h : ValOk w Pr v (.slice e t) oy ys bs) (hlt : ∀ b ∈ bs, ¬ Pr b) :
    ∃ A c news b'', v = .slice A ys.length c ∧ news.length = ys.length * t.size ∧ ((news = []) ∨ ∃ ad, A = some ad ∧ Cells w ad news ∧ (Pr ad.block ∨ ad.block ∈ bs)) ∧ RepL (Rep w Pr t oy.elem) news ys b'' ∧
      (∀ k ∈ b'', k ∈ bs) ∧ (bs.Nodup → b''.Nodup) := by
  obtain ⟨cs, rfl, hr⟩ := h
  have bor : ∀ oe, bs = [] ∧ Bor w Pr t cs ys → oe = Ow.b → ∃ A c news b'', pack (.slice e t) cs = .slice A ys.length c ∧ news.length = ys.length * t.size ∧ ((news = []) ∨ ∃ ad, A = some ad ∧ Cells w ad news ∧ (Pr ad.block ∨ ad.block ∈ bs)) ∧ RepL (Rep w Pr t oe) news ys b'' ∧
      (∀ k ∈ b'', k ∈ bs) ∧ (bs.Nodup → b''.Nodup) := by
    rintro oe ⟨rfl, A, c, rfl, hc, hb⟩ rfl
    rcases hb with rfl | ⟨ad, nc, rfl, q1, q2, q3⟩
    · exact ⟨A, c, [], [], rfl, by simp, .inl rfl, ⟨rfl, rfl⟩, fun _ h => h, fun h => h⟩
    · exact ⟨_, c, nc, [], rfl, q3.length (fun _ _ _ h => h.length), .inr ⟨ad, rfl, q2, .inl q1⟩, q3, fun _ h => h, fun h => h⟩
  cases oy with
  | b => exact bor .b (rep_bor.1 hr) rfl
  | pr p q => exact bor .b (rep_bor'.1 hr) rfl
  | row oe =>
    obtain ⟨v, yc, b', rfl, r1, r2, r3⟩ := rep_row.1 hr
    have hm : ∀ k ∈ b', k ∈ bs := fun k hk => r2.mem_iff.2 (List.mem_append_right _ hk)
    have hnd : bs.Nodup → b'.Nodup := fun h => (List.nodup_append.1 (r2.nodup_iff.1 h)).2.1
    rcases ownsRow_form r1 with ⟨rfl, h0, rfl⟩ | ⟨g, c, rfl, hg, hc⟩
    · have : ys = [] := List.eq_nil_of_length_eq_zero h0
      subst this
      exact ⟨none, 0, [], b', rfl, by simp, .inl rfl, r3, hm, hnd⟩
    · exact ⟨_, c, yc, b', rfl, r1.1, .inr ⟨⟨g, 0, none⟩, rfl, ownsRow_cells r1 rfl rfl, .inr (r2.mem_iff.2 (by simp [Value.ownBlock]))⟩, r3, hm, hnd⟩

/-- Elements that own rows come to a row in the hand. -/
theorem good_append_own (htab : TabOk P cx.tab) {o : Oper} {c : Call} {x y : Operand} {tid e : TypeId} {t : Ty} {ow oy : Ow} {xs ys : List (PV t)} {us us' : List U}
    (hop : o.op = .call c) (hc : c.callee = .builtin .append) (hargs : c.args = #[x, y]) (hty : c.argTypes = #[tid, tid]) (h : StB w0 Pr0 M E V w Pr B) (hN : ∀ k, E.length ≤ k → B k = []) (hf : Fr off V a)
    (hl : lookup cx.tab tid = some (.slice e t)) (htk : take E (opdT cx E off tid x) = some (⟨.slice e t, .row ow, xs⟩, us))
    (hy : take (appU E us) (opdT cx (appU E us) off tid y) = some (⟨.slice e t, oy, ys⟩, us')) (hroom : roomB (xs.length + ys.length) = true) :
    OpGood w0 Pr0 M P E V w a o (.val (.slice e t) (.row (meet t ow oy.elem)) (xs ++ ys), us ++ us') := by
  obtain ⟨_, hd, hfe, hsz⟩ := slTy_of htab hl
  obtain ⟨i, z, i1, i2, i3, i4, i5⟩ := hfe.info
  obtain ⟨B1, g1, g23, g4, g5⟩ := take_ok h (N := E.length) (Nat.le_refl _) (hN _ (Nat.le_refl _)) (opdT_ok h hf tid x) htk
  have hB1 : B1 (E.length + 1) = [] := by rw [g4 _ (by omega) (by omega)]; exact hN _ (by omega)
  obtain ⟨B2, k1, k2, k4, k5⟩ := take_ok g1 (N := E.length + 1) (by rw [g5]; omega) hB1 (opdT_ok g1 hf tid y) hy
  have hB2 : B2 E.length = B1 E.length := k4 _ (by rw [g5]; exact Nat.le_refl _) (by omega)
  have hlen : (appU E (us ++ us')).length = E.length := by rw [appU_append, k5, g5]
  obtain ⟨cs, g2, g3⟩ := g23
  obtain ⟨v, xc, b', rfl, r1, r2, r3⟩ := rep_row.1 g3
  have hv : a.eval x = v := g2
  -- the row's own part is still there
  have hfr1 : ∀ b ∈ B2 E.length, b < w.heap.size := fun b hb => (k1.free _ _ hb).2.2
  obtain ⟨A, cy, news, b'', y1, n1, n2, n3, n4, n5⟩ := slice_cells k2 (fun b hb => (k1.free _ _ hb).2.1)
  obtain ⟨p1, q1, e1, w1⟩ := repL_weaken (o2 := meet t ow oy.elem) (fun _ _ _ hr => hr.weaken (meet_weaken t ow oy.elem).1) r3
  obtain ⟨p2, q2, e2, w2⟩ := repL_weaken (o2 := meet t ow oy.elem) (fun _ _ _ hr => hr.weaken (meet_weaken t ow oy.elem).2) n3
  obtain ⟨v', w', s1, s2, s3, s4⟩ := run_append_mine (P := P) tid o.type e i z t.size hd i1 i3 i2 i5 (zero_size (e := e) (i := i) i4) (by omega) v xs.length xc r1 A ys.length cy news n1
    (n2.imp id (fun ⟨ad, q1, q2, _⟩ => ⟨ad, q1, q2⟩)) n3.one (roomB_iff hroom)
  rw [← hB2] at r2
  have hnd := r2.nodup_iff.1 (k1.nodup E.length)
  have mv : ∀ k, k ∈ v.ownBlock.toList → k ∈ B2 E.length := fun k hk => r2.mem_iff.2 (List.mem_append_left _ hk)
  have mb : ∀ k, k ∈ b' → k ∈ B2 E.length := fun k hk => r2.mem_iff.2 (List.mem_append_right _ hk)
  have m1 : ∀ k, k ∈ p1 → k ∈ B2 E.length := fun k hk => mb k (e1.mem_iff.2 (List.mem_append_left _ hk))
  have m1' : ∀ k, k ∈ q1 → k ∈ B2 E.length := fun k hk => mb k (e1.mem_iff.2 (List.mem_append_right _ hk))
  have m2 : ∀ k, k ∈ p2 → k ∈ B2 (E.length + 1) := fun k hk => n4 k (e2.mem_iff.2 (List.mem_append_left _ hk))
  have m2' : ∀ k, k ∈ q2 → k ∈ B2 (E.length + 1) := fun k hk => n4 k (e2.mem_iff.2 (List.mem_append_right _ hk))
  have hdis : ∀ k, k ∈ B2 E.length → k ∉ B2 (E.length + 1) := fun k => k1.disj _ _ (by omega) k
  have hnd1 := e1.nodup_iff.1 (List.nodup_append.1 hnd).2.1
  have hnd2 := e2.nodup_iff.1 (n5 (k1.nodup _))
  have hgrow : ∀ b, b < w.heap.size → b ∉ v.ownBlock.toList → w'.heap[b]? = w.heap[b]? := fun b hb hnb => s3.block b hb (fun q => hnb (by rw [← q]; simp))
  have hown' : ∀ k ∈ v'.ownBlock.toList, (k ∈ v.ownBlock.toList ∨ k = w.heap.size) ∧ k < w'.heap.size := by
    intro k hk
    have hk' : v'.ownBlock = some k := by simpa using hk
    refine ⟨?_, (s2.lt k hk').2⟩
    rcases s4 with q | q
    · left; rw [← q]; exact hk
    · right; rw [q] at hk'; injection hk' with hk'; exact hk'.symm
  have hvb : ∀ k, k ∈ v.ownBlock.toList → k ∉ b' := fun k hk => notin_of_nodup_append hnd hk
  have lenE : (appU (appU E us) us').length = E.length := by rw [k5, g5]
  let B3 : Nat → List Nat := fun j => if j = E.length then v'.ownBlock.toList ++ (p1 ++ p2) else if E.length ≤ j then [] else B2 j
  have hB3N : B3 E.length = v'.ownBlock.toList ++ (p1 ++ p2) := by simp [B3]
  have hB3o : ∀ j, E.length ≤ j → j ≠ E.length → B3 j = [] := fun j h1 h2 => by simp [B3, h1, h2]
  have pool : ∀ b, b ∈ v'.ownBlock.toList ++ (p1 ++ p2) → ((b ∈ B2 E.length ∨ b ∈ B2 (E.length + 1)) ∨ w.heap.size ≤ b) ∧ b < w'.heap.size := by
    intro b hb
    rcases List.mem_append.1 hb with hb | hb
    · obtain ⟨hb1, hb2⟩ := hown' b hb
      exact ⟨hb1.elim (fun q => .inl (.inl (mv b q))) (fun q => .inr (by omega)), hb2⟩
    · rcases List.mem_append.1 hb with hb | hb
      · exact ⟨.inl (.inl (m1 b hb)), Nat.lt_of_lt_of_le (k1.free _ _ (m1 b hb)).2.2 s3.size⟩
      · exact ⟨.inl (.inr (m2 b hb)), Nat.lt_of_lt_of_le (k1.free _ _ (m2 b hb)).2.2 s3.size⟩
  have hst := k1.hand (w' := w') (Pr' := fun k => Pr k ∨ k ∈ q1 ∨ k ∈ q2) (B' := B3) (fun k hk => by rw [lenE] at hk; have : k ≠ E.length := by omega
                                                                                                     have : ¬ E.length ≤ k := by omega
                                                                                                     simp [B3, *]) (fun k hk b hb => by
    rw [lenE] at hk
    by_cases hkN : k = E.length
    · subst hkN
      rw [hB3N] at hb
      obtain ⟨c1, c2⟩ := pool b hb
      refine ⟨c1.imp (fun q => ?_) id, c2⟩
      rcases q with q | q
      · exact ⟨_, by rw [lenE]; exact Nat.le_refl _, q⟩
      · exact ⟨_, by rw [lenE]; omega, q⟩
    · rw [hB3o k hk hkN] at hb; cases hb) (fun _ h => .inl h) (fun b hb => by
    rcases hb with hb | hb
    · exact .inl hb
    · right
      have hpool : ∃ k', (appU (appU E us) us').length ≤ k' ∧ b ∈ B2 k' := by
        rcases hb with hb | hb
        · exact ⟨_, by rw [lenE]; exact Nat.le_refl _, m1' b hb⟩
        · exact ⟨_, by rw [lenE]; omega, m2' b hb⟩
      obtain ⟨k', hk', hbk'⟩ := hpool
      have hbl := (k1.free _ _ hbk').2.2
      refine ⟨.inl ⟨k', hk', hbk'⟩, Nat.lt_of_lt_of_le hbl s3.size, fun k hk hm => ?_⟩
      rw [lenE] at hk
      by_cases hkN : k = E.length
      · subst hkN
        rw [hB3N] at hm
        rcases List.mem_append.1 hm with hm | hm
        · rcases (hown' b hm).1 with q | q
          · rcases hb with hb | hb
            · exact hvb b q (e1.mem_iff.2 (List.mem_append_right _ hb))
            · exact hdis b (mv b q) (m2' b hb)
          · omega
        · rcases List.mem_append.1 hm with hm | hm
          · rcases hb with hb | hb
            · exact notin_of_nodup_append hnd1 hm hb
            · exact hdis b (m1 b hm) (m2' b hb)
          · rcases hb with hb | hb
            · exact hdis b (m1' b hb) (m2 b hm)
            · exact notin_of_nodup_append hnd2 hm hb
      · rw [hB3o k hk hkN] at hm; cases hm) (fun k hk => by
    rw [lenE] at hk
    by_cases hkN : k = E.length
    · subst hkN
      rw [hB3N]
      refine List.nodup_append.2 ⟨by cases v'.ownBlock <;> simp, List.nodup_append.2 ⟨(List.nodup_append.1 hnd1).1, (List.nodup_append.1 hnd2).1, fun x hx y hy hxy => hdis x (m1 x hx) (hxy ▸ m2 y hy)⟩, fun x hx y hy hxy => ?_⟩
      subst hxy
      rcases (hown' x hx).1 with q | q
      · rcases List.mem_append.1 hy with hy | hy
        · exact hvb x q (e1.mem_iff.2 (List.mem_append_left _ hy))
        · exact hdis x (mv x q) (m2 x hy)
      · rcases List.mem_append.1 hy with hy | hy
        · have := (k1.free _ _ (m1 x hy)).2.2; omega
        · have := (k1.free _ _ (m2 x hy)).2.2; omega
    · rw [hB3o k hk hkN]; exact List.nodup_nil) (fun j k hj hk hne b hb hbk => by
    rw [lenE] at hj hk
    by_cases hjN : j = E.length
    · by_cases hkN : k = E.length
      · exact hne (hjN.trans hkN.symm)
      · rw [hB3o k hk hkN] at hbk; cases hbk
    · rw [hB3o j hj hjN] at hb; cases hb) (fun b hb hnb => hgrow b hb (fun q => hnb E.length (by rw [lenE]; exact Nat.le_refl _) (mv b q))) s3.os s3.tape s3.output s3.size
  have hag : ∀ k, (Pr k ∨ k ∈ q1 ∨ k ∈ q2) ∨ k ∈ p1 ∨ k ∈ p2 → w'.heap[k]? = w.heap[k]? := by
    intro k hk
    have : k < w.heap.size ∧ k ∉ v.ownBlock.toList := by
      rcases hk with (hk | hk | hk) | hk | hk
      · exact ⟨k1.prlt k hk, fun q => (k1.free _ _ (mv k q)).2.1 hk⟩
      · exact ⟨(k1.free _ _ (m1' k hk)).2.2, fun q => hvb k q (e1.mem_iff.2 (List.mem_append_right _ hk))⟩
      · exact ⟨(k1.free _ _ (m2' k hk)).2.2, fun q => hdis k (mv k q) (m2' k hk)⟩
      · exact ⟨(k1.free _ _ (m1 k hk)).2.2, fun q => hvb k q (e1.mem_iff.2 (List.mem_append_left _ hk))⟩
      · exact ⟨(k1.free _ _ (m2 k hk)).2.2, fun q => hdis k (mv k q) (m2 k hk)⟩
    exact hgrow k this.1 this.2
  refine ⟨.value v', w', v', run_call_append hop hc hargs hty (by rw [hv, y1]; exact s1), .inl rfl, hlen, fun k => Pr k ∨ k ∈ q1 ∨ k ∈ q2, B3, by rw [appU_append]; exact hst, ?_, fun j hj => ?_⟩
  · show ValOk _ _ _ _ _ _ _
    rw [hlen, hB3N]
    refine ⟨[v'], rfl, rep_row.2 ⟨v', xc ++ news, p1 ++ p2, rfl, by rw [List.length_append]; exact s2, List.Perm.refl _, ?_⟩⟩
    refine RepL.append ?_ ?_
    · exact w1.agree (Pr' := fun k => Pr k ∨ k ∈ q1 ∨ k ∈ q2) (fun k hk => hk.imp id .inl) (fun k hk => hag k (by
        rcases hk with (hk | hk) | hk
        · exact .inl (.inl hk)
        · exact .inl (.inr (.inl hk))
        · exact .inr (.inl hk)))
    · exact w2.agree (Pr' := fun k => Pr k ∨ k ∈ q1 ∨ k ∈ q2) (fun k hk => hk.imp id .inr) (fun k hk => hag k (by
        rcases hk with (hk | hk) | hk
        · exact .inl (.inl hk)
        · exact .inl (.inr (.inr hk))
        · exact .inr (.inr hk)))
  · rw [hlen] at hj
    exact hB3o j (by omega) (by omega)

end
end Go.Dn
