/- Places inside a value (paths): what stands there, where it lies in memory, and what becomes of the whole when something else is put there. -/
import Derived.Test.YtegfhigkmghmjaaDoorDb
namespace Go.Dn

inductive PE where
  | l
  | r
  | ix (n : Nat)

def getT : List PE → Ty → Ty
  | [], t => t
  | .l :: p, .pair a _ => getT p a
  | .r :: p, .pair _ b => getT p b
  | .ix _ :: p, .slice _ t => getT p t
  | _ :: _, _ => .unit

def get : (p : List PE) → (t : Ty) → PV t → PV (getT p t)
  | [], _, x => x
  | .l :: p, .pair a _, x => get p a x.1
  | .r :: p, .pair _ b, x => get p b x.2
  | .ix n :: p, .slice _ t, xs => get p t (List.getD (α := PV t) xs n (dflt t))
  | .l :: _, .int _, _ | .l :: _, .bool, _ | .l :: _, .str, _ | .l :: _, .unit, _ | .l :: _, .slice _ _, _ => ()
  | .r :: _, .int _, _ | .r :: _, .bool, _ | .r :: _, .str, _ | .r :: _, .unit, _ | .r :: _, .slice _ _, _ => ()
  | .ix _ :: _, .int _, _ | .ix _ :: _, .bool, _ | .ix _ :: _, .str, _ | .ix _ :: _, .unit, _ | .ix _ :: _, .pair _ _, _ => ()

def set : (p : List PE) → (t : Ty) → PV t → PV (getT p t) → PV t
  | [], _, _, y => y
  | .l :: p, .pair a _, x, y => (set p a x.1 y, x.2)
  | .r :: p, .pair _ b, x, y => (x.1, set p b x.2 y)
  | .ix n :: p, .slice _ t, xs, y => List.set (α := PV t) xs n (set p t (List.getD (α := PV t) xs n (dflt t)) y)
  | .l :: _, .int _, x, _ | .l :: _, .bool, x, _ | .l :: _, .str, x, _ | .l :: _, .unit, x, _ | .l :: _, .slice _ _, x, _ => x
  | .r :: _, .int _, x, _ | .r :: _, .bool, x, _ | .r :: _, .str, x, _ | .r :: _, .unit, x, _ | .r :: _, .slice _ _, x, _ => x
  | .ix _ :: _, .int _, x, _ | .ix _ :: _, .bool, x, _ | .ix _ :: _, .str, x, _ | .ix _ :: _, .unit, x, _ | .ix _ :: _, .pair _ _, x, _ => x

def getO : List PE → Ow → Ow
  | [], o => o
  | .l :: p, o => getO p o.fst
  | .r :: p, o => getO p o.snd
  | .ix _ :: p, o => getO p o.elem

/-- The place is there, and owned all along. -/
def OkPath : (p : List PE) → (t : Ty) → Ow → PV t → Prop
  | [], _, _, _ => True
  | .l :: p, .pair a _, o, x => OkPath p a o.fst x.1
  | .r :: p, .pair _ b, o, x => OkPath p b o.snd x.2
  | .ix n :: p, .slice _ t, .row oe, xs => n < List.length (α := PV t) xs ∧ OkPath p t oe (List.getD (α := PV t) xs n (dflt t))
  | _ :: _, _, _, _ => False

/-- What the whole's ownership is when something owned like 'o2' is put there. -/
def OkSet : List PE → Ow → Ow → Ow → Prop
  | [], _, o2, o3 => o3 = o2
  | .l :: p, o, o2, o3 => OkSet p o.fst o2 o3.fst ∧ o3.snd = o.snd
  | .r :: p, o, o2, o3 => o3.fst = o.fst ∧ OkSet p o.snd o2 o3.snd
  | .ix _ :: p, o, o2, o3 => ∃ oe, o = .row oe ∧ o3 = .row oe ∧ OkSet p oe o2 oe

/-- Where the place lies. -/
def locate (w : World) : List PE → Ty → Nat → Nat → Option (Nat × Nat)
  | [], _, b, off => some (b, off)
  | .l :: p, .pair a _, b, off => locate w p a b off
  | .r :: p, .pair a c, b, off => locate w p c b (off + a.size)
  | .ix n :: p, .slice _ t, b, off =>
    match w.cell? ⟨b, off, none⟩ with
    | some (.slice (some a) _ _) => locate w p t a.block (n * t.size)
    | _ => none
  | _ :: _, _, _, _ => none

def HoldsAt (w : World) (b off : Nat) (cs : List Value) : Prop :=
  ∃ cur T, w.heap[b]? = some (.cells cur T (0, 0)) ∧ ∀ (i : Nat) (u : Value), cs[i]? = some u → cur[off + i]? = some u

def Upd (w w2 : World) (b off : Nat) (cs : List Value) : Prop :=
  ∃ cur T cur2, w.heap[b]? = some (.cells cur T (0, 0)) ∧ w2.heap[b]? = some (.cells cur2 T (0, 0)) ∧ cur2.size = cur.size ∧
    (∀ i, (i < off ∨ off + cs.length ≤ i) → cur2[i]? = cur[i]?) ∧ (∀ (i : Nat) (u : Value), cs[i]? = some u → cur2[off + i]? = some u)

theorem Upd.holds {w w2 : World} {b off : Nat} {cs : List Value} (h : Upd w w2 b off cs) : HoldsAt w2 b off cs := by
  obtain ⟨cur, T, cur2, _, h2, _, _, h5⟩ := h
  exact ⟨cur2, T, h2, h5⟩

theorem HoldsAt.upd {w w2 : World} {b off : Nat} {cs : List Value} (h : HoldsAt w b off cs) (he : w2.heap[b]? = w.heap[b]?) : Upd w w2 b off cs := by
  obtain ⟨cur, T, h1, h2⟩ := h
  exact ⟨cur, T, cur, h1, by rw [he]; exact h1, rfl, fun _ _ => rfl, h2⟩

theorem HoldsAt.left {w : World} {b off : Nat} {c1 c2 : List Value} (h : HoldsAt w b off (c1 ++ c2)) : HoldsAt w b off c1 := by
  obtain ⟨cur, T, h1, h2⟩ := h
  exact ⟨cur, T, h1, fun i u hu => h2 i u (by rw [List.getElem?_append_left (List.getElem?_eq_some_iff.1 hu).1]; exact hu)⟩

theorem HoldsAt.right {w : World} {b off : Nat} {c1 c2 : List Value} (h : HoldsAt w b off (c1 ++ c2)) : HoldsAt w b (off + c1.length) c2 := by
  obtain ⟨cur, T, h1, h2⟩ := h
  refine ⟨cur, T, h1, fun i u hu => ?_⟩
  rw [Nat.add_assoc]
  exact h2 _ u (by rw [List.getElem?_append_right (by omega), Nat.add_sub_cancel_left]; exact hu)

theorem HoldsAt.cell {w : World} {b off : Nat} {v : Value} {cs : List Value} (h : HoldsAt w b off (v :: cs)) : w.cell? ⟨b, off, none⟩ = some v := by
  obtain ⟨cur, T, h1, h2⟩ := h
  have := h2 0 v rfl
  simp only [World.cell?, h1, Option.isSome_none, Bool.false_eq_true, if_false]
  simpa using this

theorem Upd.left {w w2 : World} {b off : Nat} {c1 c1' c2 : List Value} (h : HoldsAt w b off (c1 ++ c2)) (hu : Upd w w2 b off c1') (hl : c1'.length = c1.length) : Upd w w2 b off (c1' ++ c2) := by
  obtain ⟨cur, T, cur2, g1, g2, g3, g4, g5⟩ := hu
  obtain ⟨cur', T', h1, h2⟩ := h
  rw [h1] at g1
  injection g1 with g1; injection g1 with e1 e2 e3; subst e1; subst e2
  refine ⟨cur', T', cur2, h1, g2, g3, fun i hi => g4 i (by simp only [List.length_append] at hi; omega), fun i u hu => ?_⟩
  by_cases hi : i < c1'.length
  · rw [List.getElem?_append_left hi] at hu; exact g5 i u hu
  · rw [List.getElem?_append_right (by omega)] at hu
    rw [g4 (off + i) (by omega)]
    refine h2 i u ?_
    rw [List.getElem?_append_right (by omega), ← hl]; exact hu

theorem Upd.right {w w2 : World} {b off : Nat} {c1 c2 c2' : List Value} (h : HoldsAt w b off (c1 ++ c2)) (hu : Upd w w2 b (off + c1.length) c2') (hl : c2'.length = c2.length) : Upd w w2 b off (c1 ++ c2') := by
  obtain ⟨cur, T, cur2, g1, g2, g3, g4, g5⟩ := hu
  obtain ⟨cur', T', h1, h2⟩ := h
  rw [h1] at g1
  injection g1 with g1; injection g1 with e1 e2 e3; subst e1; subst e2
  refine ⟨cur', T', cur2, h1, g2, g3, fun i hi => g4 i (by simp only [List.length_append] at hi; omega), fun i u hu => ?_⟩
  by_cases hi : i < c1.length
  · rw [List.getElem?_append_left hi] at hu
    rw [g4 (off + i) (by omega)]
    exact h2 i u (by rw [List.getElem?_append_left hi]; exact hu)
  · rw [List.getElem?_append_right (by omega)] at hu
    have := g5 (i - c1.length) u hu
    rwa [show off + c1.length + (i - c1.length) = off + i by omega] at this

/-- What a look at a place gives, and what a change there does. -/
def Focus (w : World) (Pr : Nat → Prop) (p : List PE) (t : Ty) (o : Ow) (x : PV t) (b off : Nat) (bs : List Nat) : Prop :=
  ∃ b' off' cs' bs' bsR, locate w p t b off = some (b', off') ∧ HoldsAt w b' off' cs' ∧ Rep w Pr (getT p t) (getO p o) cs' (get p t x) bs' ∧ bs.Perm (bs' ++ bsR) ∧ (b' = b ∨ b' ∈ bsR) ∧
    (∀ (w2 : World) (cs2 : List Value), (∀ k, (k ∈ bsR ∨ k = b) → k ≠ b' → w2.heap[k]? = w.heap[k]?) → Upd w w2 b' off' cs2 → locate w2 p t b off = some (b', off')) ∧
    ∀ (w2 : World) (Pr2 : Nat → Prop) (o2 o3 : Ow) (cs2 : List Value) (y : PV (getT p t)) (bs2 : List Nat), (∀ k, Pr k → Pr2 k) →
      (∀ k, (Pr k ∨ k ∈ bsR ∨ k = b) → k ≠ b' → w2.heap[k]? = w.heap[k]?) → Upd w w2 b' off' cs2 → Rep w2 Pr2 (getT p t) o2 cs2 y bs2 → OkSet p o o2 o3 →
      ∃ cs3, Rep w2 Pr2 t o3 cs3 (set p t x y) (bs2 ++ bsR) ∧ Upd w w2 b off cs3

theorem notin_of_nodup_append {α : Type} {l1 l2 : List α} (h : (l1 ++ l2).Nodup) {k : α} (h1 : k ∈ l1) : k ∉ l2 := by
  intro h2
  exact (List.nodup_append.1 h).2.2 k h1 k h2 rfl

theorem focus (w : World) (Pr : Nat → Prop) : ∀ (p : List PE) (t : Ty) (o : Ow) (x : PV t) (cs : List Value) (bs : List Nat) (b off : Nat),
    Rep w Pr t o cs x bs → HoldsAt w b off cs → b ∉ bs → bs.Nodup → (∀ k, Pr k → k ≠ b ∧ k ∉ bs) → OkPath p t o x → Focus w Pr p t o x b off bs
  | [], t, o, x, cs, bs, b, off, h, hh, _, _, _, _ => by
    refine ⟨b, off, cs, bs, [], rfl, hh, h, by simp, .inl rfl, fun _ _ _ _ => rfl, ?_⟩
    intro w2 Pr2 o2 o3 cs2 y bs2 _ _ hu hr ho
    simp only [OkSet] at ho
    subst ho
    exact ⟨cs2, hr.perm (by simp), hu⟩
  | .l :: p, .pair a c, o, x, cs, bs, b, off, h, hh, hb, hn, hd, hp => by
    obtain ⟨c1, c2, b1, b2, rfl, e2, h1, h2⟩ := h
    have hn' := e2.nodup_iff.1 hn
    have m1 : ∀ k, k ∈ b1 → k ∈ bs := fun k hk => e2.mem_iff.2 (List.mem_append_left _ hk)
    have m2 : ∀ k, k ∈ b2 → k ∈ bs := fun k hk => e2.mem_iff.2 (List.mem_append_right _ hk)
    obtain ⟨b', off', cs', bs', bsR, f1, f2, f3, f4, f5, fL, f6⟩ := focus w Pr p a o.fst x.1 c1 b1 b off h1 hh.left (fun m => hb (m1 _ m)) (List.nodup_append.1 hn').1
      (fun k hk => ⟨(hd k hk).1, fun m => (hd k hk).2 (m1 _ m)⟩) hp
    have hb2 : ∀ k ∈ b2, k ≠ b' := by
      rintro k hk rfl
      rcases f5 with rfl | m
      · exact hb (m2 _ hk)
      · exact notin_of_nodup_append hn' (f4.mem_iff.2 (List.mem_append_right _ m)) hk
    refine ⟨b', off', cs', bs', bsR ++ b2, f1, f2, f3, ?_, f5.imp id (fun m => List.mem_append_left _ m), fun w2 cs2 q r => fL w2 cs2 (fun k hk => q k (hk.imp (fun m => List.mem_append_left _ m) id)) r, ?_⟩
    · rw [← List.append_assoc]; exact e2.trans (f4.append_right _)
    · intro w2 Pr2 o2 o3 cs2 y bs2 q1 q2 q3 q4 q5
      obtain ⟨cs3, g1, g2⟩ := f6 w2 Pr2 o2 o3.fst cs2 y bs2 q1 (fun k hk hne => q2 k (hk.imp id (Or.imp (fun m => List.mem_append_left _ m) id)) hne) q3 q4 q5.1
      refine ⟨cs3 ++ c2, ⟨cs3, c2, bs2 ++ bsR, b2, rfl, by rw [List.append_assoc], g1, ?_⟩, Upd.left hh g2 (by rw [g1.length, h1.length])⟩
      rw [q5.2]
      refine h2.agree q1 (fun k hk => q2 k (hk.imp id (fun m => .inl (List.mem_append_right _ m))) ?_)
      rintro rfl
      rcases hk with hk | hk
      · rcases f5 with rfl | m
        · exact (hd _ hk).1 rfl
        · exact (hd _ hk).2 (m1 _ (f4.mem_iff.2 (List.mem_append_right _ m)))
      · exact hb2 _ hk rfl
  | .r :: p, .pair a c, o, x, cs, bs, b, off, h, hh, hb, hn, hd, hp => by
    obtain ⟨c1, c2, b1, b2, rfl, e2, h1, h2⟩ := h
    have hn' := e2.nodup_iff.1 hn
    have m1 : ∀ k, k ∈ b1 → k ∈ bs := fun k hk => e2.mem_iff.2 (List.mem_append_left _ hk)
    have m2 : ∀ k, k ∈ b2 → k ∈ bs := fun k hk => e2.mem_iff.2 (List.mem_append_right _ hk)
    have hr := hh.right
    rw [h1.length] at hr
    obtain ⟨b', off', cs', bs', bsR, f1, f2, f3, f4, f5, fL, f6⟩ := focus w Pr p c o.snd x.2 c2 b2 b (off + a.size) h2 hr (fun m => hb (m2 _ m)) (List.nodup_append.1 hn').2.1
      (fun k hk => ⟨(hd k hk).1, fun m => (hd k hk).2 (m2 _ m)⟩) hp
    have hb1 : ∀ k ∈ b1, k ≠ b' := by
      rintro k hk rfl
      rcases f5 with rfl | m
      · exact hb (m1 _ hk)
      · exact notin_of_nodup_append hn' hk (f4.mem_iff.2 (List.mem_append_right _ m))
    refine ⟨b', off', cs', bs', bsR ++ b1, f1, f2, f3, ?_, f5.imp id (fun m => List.mem_append_left _ m), fun w2 cs2 q r => fL w2 cs2 (fun k hk => q k (hk.imp (fun m => List.mem_append_left _ m) id)) r, ?_⟩
    · rw [← List.append_assoc]; exact e2.trans ((f4.append_left _).trans List.perm_append_comm)
    · intro w2 Pr2 o2 o3 cs2 y bs2 q1 q2 q3 q4 q5
      obtain ⟨cs3, g1, g2⟩ := f6 w2 Pr2 o2 o3.snd cs2 y bs2 q1 (fun k hk hne => q2 k (hk.imp id (Or.imp (fun m => List.mem_append_left _ m) id)) hne) q3 q4 q5.2
      rw [← h1.length] at g2
      refine ⟨c1 ++ cs3, ⟨c1, cs3, b1, bs2 ++ bsR, rfl, by rw [← List.append_assoc]; exact List.perm_append_comm, ?_, g1⟩, Upd.right hh g2 (by rw [g1.length, h2.length])⟩
      rw [q5.1]
      refine h1.agree q1 (fun k hk => q2 k (hk.imp id (fun m => .inl (List.mem_append_right _ m))) ?_)
      rintro rfl
      rcases hk with hk | hk
      · rcases f5 with rfl | m
        · exact (hd _ hk).1 rfl
        · exact (hd _ hk).2 (m2 _ (f4.mem_iff.2 (List.mem_append_right _ m)))
      · exact hb1 _ hk rfl
  | .ix n :: p, .slice e t, .row oe, xs, cs, bs, b, off, h, hh, hb, hn, hd, hp => by
    obtain ⟨v, ys, bq, rfl, e4, e5, h1⟩ := rep_row.1 h
    obtain ⟨hlt, hp⟩ := hp
    rcases ownsRow_form e4 with ⟨rfl, h0, _⟩ | ⟨g, cap, rfl, hg, hc⟩
    · omega
    · have e5' : bs.Perm (g :: bq) := by simpa [Value.ownBlock] using e5
      have hn' := e5'.nodup_iff.1 hn
      have hgb : g ∈ bs := e5'.mem_iff.2 (List.mem_cons_self ..)
      have mq : ∀ k, k ∈ bq → k ∈ bs := fun k hk => e5'.mem_iff.2 (List.mem_cons_of_mem _ hk)
      obtain ⟨c0, c, c2, b1, b2, rfl, s2, s3, s4, s5⟩ := h1.split n hlt
      have hc0 : c0.length = n * t.size := s4 t.size (fun _ _ _ h => h.length)
      have hx : List.getD (α := PV t) xs n (dflt t) = xs[n] := by simp [List.getD, hlt]
      have hgc : ∃ cur, w.heap[g]? = some (.cells cur e (0, 0)) ∧ xs.length ≤ cap ∧ cap ≤ maxLen ∧ cur.size = cap * t.size ∧ cur.toList.take (xs.length * t.size) = c0 ++ c ++ c2 := by
        rcases e4.2 with ⟨hbad, _⟩ | ⟨g', cap', cur, hv, _, k1, k2, k3, k4, k5⟩
        · simp at hbad
        · injection hv with hv1 hv2 hv3; injection hv1 with hv1; injection hv1 with hv1; subst hv1; subst hv3
          exact ⟨cur, k1, k2, k3, k4, k5⟩
      obtain ⟨cur, k1, k2, k3, k4, k5⟩ := hgc
      have hcl : c.length = t.size := s3.length
      have htot : (c0 ++ c ++ c2).length = xs.length * t.size := e4.1
      have hcur : ∀ (i : Nat) (u : Value), (c0 ++ c ++ c2)[i]? = some u → cur[i]? = some u := by
        intro i u hu
        rw [← k5, List.getElem?_take] at hu
        split at hu
        · simpa using hu
        · cases hu
      have hhg : HoldsAt w g (n * t.size) c := ⟨cur, e, k1, fun i u hu => hcur _ _ (by
        rw [← hc0, List.append_assoc, List.getElem?_append_right (by omega), Nat.add_sub_cancel_left, List.getElem?_append_left (List.getElem?_eq_some_iff.1 hu).1]; exact hu)⟩
      have m1 : ∀ k, k ∈ b1 → k ∈ bq := fun k hk => s2.mem_iff.2 (List.mem_append_left _ hk)
      have m2 : ∀ k, k ∈ b2 → k ∈ bq := fun k hk => s2.mem_iff.2 (List.mem_append_right _ hk)
      have hgq : g ∉ bq := (List.nodup_cons.1 hn').1
      have hnq := s2.nodup_iff.1 (List.nodup_cons.1 hn').2
      rw [hx] at hp
      obtain ⟨b', off', cs', bs', bsR, f1, f2, f3, f4, f5, fL, f6⟩ := focus w Pr p t oe xs[n] c b1 g (n * t.size) s3 hhg (fun m => hgq (m1 _ m)) (List.nodup_append.1 hnq).1
        (fun k hk => ⟨fun hkg => (hd k hk).2 (hkg ▸ hgb), fun m => (hd k hk).2 (mq _ (m1 _ m))⟩) hp
      have hb'm : b' ∈ bs := by
        rcases f5 with rfl | m
        · exact hgb
        · exact mq _ (m1 _ (f4.mem_iff.2 (List.mem_append_right _ m)))
      have hbb' : b ≠ b' := fun hbb => hb (hbb ▸ hb'm)
      refine ⟨b', off', cs', bs', bsR ++ g :: b2, ?_, f2, by rw [show get (.ix n :: p) (.slice e t) xs = get p t (List.getD (α := PV t) xs n (dflt t)) from rfl, hx]; exact f3, ?_, .inr ?_, ?_, ?_⟩
      · show locate w (.ix n :: p) (.slice e t) b off = _
        simp only [locate, hh.cell]
        exact f1
      · refine e5'.trans ?_
        rw [← List.append_assoc]
        refine ((s2.trans (f4.append_right _)).cons g).trans ?_
        exact List.perm_middle.symm
      · rcases f5 with rfl | m
        · exact List.mem_append_right _ (List.mem_cons_self ..)
        · exact List.mem_append_left _ m
      · intro w2 cs2 q r
        have hcell : w2.cell? ⟨b, off, none⟩ = some (.slice (some ⟨g, 0, none⟩) (List.length (α := PV t) xs) cap) := by
          rw [World.cell?_of_block (w := w) (a := ⟨b, off, none⟩) (q b (.inr rfl) hbb')]; exact hh.cell
        simp only [locate, hcell]
        refine fL w2 cs2 (fun k hk => q k (.inl ?_)) r
        rcases hk with hk | rfl
        · exact List.mem_append_left _ hk
        · exact List.mem_append_right _ (List.mem_cons_self ..)
      · intro w2 Pr2 o2 o3 cs2 y bs2 q1 q2 q3 q4 q5
        obtain ⟨oe', he1, he2, q5⟩ := q5
        injection he1 with he1; subst he1; subst he2
        have hag : ∀ k, (Pr k ∨ k ∈ bsR ∨ k = g) → k ≠ b' → w2.heap[k]? = w.heap[k]? := by
          rintro k (hk | hk | rfl) hne
          · exact q2 k (.inl hk) hne
          · exact q2 k (.inr (.inl (List.mem_append_left _ hk))) hne
          · exact q2 k (.inr (.inl (List.mem_append_right _ (List.mem_cons_self ..)))) hne
        obtain ⟨cs3, g1, g2⟩ := f6 w2 Pr2 o2 oe cs2 y bs2 q1 hag q3 q4 q5
        have hl3 : cs3.length = c.length := by rw [g1.length, hcl]
        -- the row in the new world
        obtain ⟨cura, Ta, cur2, u1, u2, u3, u4, u5⟩ := g2
        rw [k1] at u1
        injection u1 with u1; injection u1 with w1 w2' w3; subst w1; subst w2'
        have hrow : w2.ownsRow 0 e t.size (.slice (some ⟨g, 0, none⟩) (List.length (α := PV t) xs) cap) (List.length (α := PV t) xs) (c0 ++ cs3 ++ c2) := by
          refine ⟨by rw [← htot]; simp [hl3], .inr ⟨g, cap, cur2, rfl, Nat.zero_le _, u2, k2, k3, by rw [u3]; exact k4, ?_⟩⟩
          apply List.ext_getElem?
          intro i
          rw [List.getElem?_take]
          have hi2 : ∀ (i : Nat), (cur2.toList)[i]? = cur2[i]? := fun i => by simp
          split
          · rename_i hi
            rw [hi2]
            by_cases hA : i < n * t.size
            · rw [u4 i (.inl hA), List.append_assoc, List.getElem?_append_left (by omega)]
              have := hcur i
              rw [List.append_assoc, List.getElem?_append_left (by omega)] at this
              rw [List.getElem?_eq_getElem (by omega)]
              exact this _ (List.getElem?_eq_getElem (by omega))
            · by_cases hB : i < n * t.size + c.length
              · have := u5 (i - n * t.size) _ (List.getElem?_eq_getElem (by omega))
                rw [show n * t.size + (i - n * t.size) = i by omega] at this
                rw [this, List.getElem?_append_left (by simp; omega), List.getElem?_append_right (by omega), hc0, List.getElem?_eq_getElem (by omega)]
              · rw [u4 i (.inr (by omega)), List.getElem?_append_right (by simp; omega)]
                have := hcur i
                rw [List.getElem?_append_right (by simp; omega)] at this
                have hl : (c0 ++ cs3).length = (c0 ++ c).length := by simp [hl3]
                rw [hl]
                have hlen : i - (c0 ++ c).length < c2.length := by simp only [List.length_append] at htot ⊢; omega
                rw [List.getElem?_eq_getElem hlen]
                exact this _ (List.getElem?_eq_getElem hlen)
          · rename_i hi
            rw [List.getElem?_eq_none]
            simp only [List.length_append] at htot ⊢
            omega
        have hL : RepL (Rep w2 Pr2 t oe) (c0 ++ cs3 ++ c2) (List.set (α := PV t) xs n (set p t xs[n] y)) ((bs2 ++ bsR) ++ b2) := by
          refine s5 (Rep w2 Pr2 t oe) (fun c x b'' hb'' hr => hr.agree q1 (fun k hk => q2 k ?_ ?_)) cs3 _ _ g1
          · rcases hk with hk | hk
            · exact .inl hk
            · exact .inr (.inl (List.mem_append_right _ (List.mem_cons_of_mem _ (hb'' _ hk))))
          · rintro rfl
            rcases hk with hk | hk
            · exact (hd _ hk).2 hb'm
            · have hkb := hb'' _ hk
              rcases f5 with rfl | m
              · exact hgq (m2 _ hkb)
              · exact notin_of_nodup_append hnq (f4.mem_iff.2 (List.mem_append_right _ m)) hkb
        refine ⟨[.slice (some ⟨g, 0, none⟩) (List.length (α := PV t) xs) cap], rep_row.2 ⟨_, c0 ++ cs3 ++ c2, (bs2 ++ bsR) ++ b2, rfl, ?_, ?_, ?_⟩, hh.upd (q2 b (.inr (.inr rfl)) hbb')⟩
        · show w2.ownsRow 0 e t.size _ (List.length (α := PV t) (List.set (α := PV t) xs n _)) _
          rw [List.length_set]; exact hrow
        · simp only [Value.ownBlock, Option.toList_some, List.singleton_append]
          rw [← List.append_assoc]
          exact List.perm_middle
        · show RepL _ _ (List.set (α := PV t) xs n (set p t (List.getD (α := PV t) xs n (dflt t)) y)) _
          rw [hx]; exact hL
  | .l :: _, .int _, _, _, _, _, _, _, _, _, _, _, _, hp | .l :: _, .bool, _, _, _, _, _, _, _, _, _, _, _, hp | .l :: _, .str, _, _, _, _, _, _, _, _, _, _, _, hp
  | .l :: _, .unit, _, _, _, _, _, _, _, _, _, _, _, hp | .l :: _, .slice _ _, _, _, _, _, _, _, _, _, _, _, _, hp => by simp [OkPath] at hp
  | .r :: _, .int _, _, _, _, _, _, _, _, _, _, _, _, hp | .r :: _, .bool, _, _, _, _, _, _, _, _, _, _, _, hp | .r :: _, .str, _, _, _, _, _, _, _, _, _, _, _, hp
  | .r :: _, .unit, _, _, _, _, _, _, _, _, _, _, _, hp | .r :: _, .slice _ _, _, _, _, _, _, _, _, _, _, _, _, hp => by simp [OkPath] at hp
  | .ix _ :: _, .int _, _, _, _, _, _, _, _, _, _, _, _, hp | .ix _ :: _, .bool, _, _, _, _, _, _, _, _, _, _, _, hp | .ix _ :: _, .str, _, _, _, _, _, _, _, _, _, _, _, hp
  | .ix _ :: _, .unit, _, _, _, _, _, _, _, _, _, _, _, hp | .ix _ :: _, .pair _ _, _, _, _, _, _, _, _, _, _, _, _, hp
  | .ix _ :: _, .slice _ _, .b, _, _, _, _, _, _, _, _, _, _, hp | .ix _ :: _, .slice _ _, .pr _ _, _, _, _, _, _, _, _, _, _, _, hp => by simp [OkPath] at hp

end Go.Dn
