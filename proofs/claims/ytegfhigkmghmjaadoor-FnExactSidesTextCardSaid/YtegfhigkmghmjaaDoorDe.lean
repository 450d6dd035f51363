/- What the environment says outlives changes elsewhere: the master lemma on updates. -/
import Derived.Test.YtegfhigkmghmjaaDoorDd
namespace Go.Dn

/-! ### places by parts -/
def lrShift : List PE → Ty → Nat
  | .l :: p, .pair a _ => lrShift p a
  | .r :: p, .pair a b => a.size + lrShift p b
  | _, _ => 0

theorem locate_append (w : World) : ∀ (q s : List PE) (t : Ty) (b off : Nat), locate w (q ++ s) t b off = (locate w q t b off).bind fun z => locate w s (getT q t) z.1 z.2
  | [], _, _, _, _ => rfl
  | .l :: q, s, .pair a c, b, off => locate_append w q s a b off
  | .r :: q, s, .pair a c, b, off => locate_append w q s c b (off + a.size)
  | .ix n :: q, s, .slice e t, b, off => by
    show locate w (.ix n :: (q ++ s)) (.slice e t) b off = (locate w (.ix n :: q) (.slice e t) b off).bind _
    simp only [locate]
    split
    · exact locate_append w q s t _ _
    · rfl
  | .l :: _, _, .int _, _, _ | .l :: _, _, .bool, _, _ | .l :: _, _, .str, _, _ | .l :: _, _, .unit, _, _ | .l :: _, _, .slice _ _, _, _ => rfl
  | .r :: _, _, .int _, _, _ | .r :: _, _, .bool, _, _ | .r :: _, _, .str, _, _ | .r :: _, _, .unit, _, _ | .r :: _, _, .slice _ _, _, _ => rfl
  | .ix _ :: _, _, .int _, _, _ | .ix _ :: _, _, .bool, _, _ | .ix _ :: _, _, .str, _, _ | .ix _ :: _, _, .unit, _, _ | .ix _ :: _, _, .pair _ _, _, _ => rfl

theorem locate_lr (w : World) : ∀ (s : List PE) (t : Ty) (b off : Nat) (z : Nat × Nat), lrOnly s = true → locate w s t b off = some z → z = (b, off + lrShift s t)
  | [], t, b, off, z, _, h => by simp only [locate, Option.some.injEq] at h; rw [← h]; simp [lrShift]
  | .l :: s, .pair a c, b, off, z, hs, h => locate_lr w s a b off z hs h
  | .r :: s, .pair a c, b, off, z, hs, h => by
    have := locate_lr w s c b (off + a.size) z hs h
    rw [this]; simp [lrShift, Nat.add_assoc]
  | .ix _ :: _, _, _, _, _, hs, _ => by simp [lrOnly] at hs
  | .l :: _, .int _, _, _, _, _, h | .l :: _, .bool, _, _, _, _, h | .l :: _, .str, _, _, _, _, h | .l :: _, .unit, _, _, _, _, h | .l :: _, .slice _ _, _, _, _, _, h => by simp [locate] at h
  | .r :: _, .int _, _, _, _, _, h | .r :: _, .bool, _, _, _, _, h | .r :: _, .str, _, _, _, _, h | .r :: _, .unit, _, _, _, _, h | .r :: _, .slice _ _, _, _, _, _, h => by simp [locate] at h

theorem locOf_append (w : World) (iV : Bool) (t : Ty) (v : Value) (q s : List PE) (hq : iV = true ∨ q ≠ []) :
    locOf w iV t v (q ++ s) = (locOf w iV t v q).bind fun z => locate w s (getT q t) z.1 z.2 := by
  unfold locOf
  cases iV with
  | true =>
    cases v <;> first | rfl | skip
    rename_i a
    cases a with
    | none => rfl
    | some a =>
      obtain ⟨b, n, sp⟩ := a
      cases n <;> cases sp <;> first | rfl | exact locate_append w q s t _ _
  | false =>
    cases v <;> first | rfl | skip
    rename_i a _ _
    cases a with
    | none => rfl
    | some a =>
      cases q with
      | nil => simp at hq
      | cons e q =>
        cases e <;> cases t <;> first | rfl | exact locate_append w q s _ _ _

/-- If a place's own place is known in both worlds to be the same, so is that of what it lies in. -/
theorem locOf_prefix {w w' : World} {iV : Bool} {t : Ty} {v : Value} {q s : List PE} {z loc : Nat × Nat} (hq : iV = true ∨ q ≠ []) (hs : lrOnly s = true)
    (h1 : locOf w iV t v (q ++ s) = some z) (h2 : locOf w' iV t v (q ++ s) = some z) (hl : locOf w iV t v q = some loc) : locOf w' iV t v q = some loc := by
  rw [locOf_append _ _ _ _ _ _ hq] at h1 h2
  rw [hl] at h1
  simp only [Option.bind_some] at h1
  cases hl2 : locOf w' iV t v q with
  | none => rw [hl2] at h2; simp at h2
  | some loc2 =>
    rw [hl2] at h2
    simp only [Option.bind_some] at h2
    have e1 := locate_lr w s _ _ _ _ hs h1
    have e2 := locate_lr w' s _ _ _ _ hs h2
    rw [e1] at e2
    obtain ⟨b1, o1⟩ := loc
    obtain ⟨b2, o2⟩ := loc2
    simp only [Prod.mk.injEq, Nat.add_right_cancel_iff] at e2
    rw [e2.1, e2.2]

/-! ### a look at a place of a root -/
def RootFocus (w : World) (Pr : Nat → Prop) (iV : Bool) (v : Value) (t : Ty) (o : Ow) (x : PV t) (bs : List Nat) (q : List PE) : Prop :=
  ∃ b' off' cs' bs' bsR, locOf w iV t v q = some (b', off') ∧ HoldsAt w b' off' cs' ∧ Rep w Pr (getT q t) (getO q o) cs' (get q t x) bs' ∧ bs.Perm (bs' ++ bsR) ∧ b' ∈ bsR ∧
    (∀ (w2 : World) (cs2 : List Value), (∀ k, k ∈ bsR → k ≠ b' → w2.heap[k]? = w.heap[k]?) → Upd w w2 b' off' cs2 → locOf w2 iV t v q = some (b', off')) ∧
    ∀ (w2 : World) (Pr2 : Nat → Prop) (o2 o3 : Ow) (cs2 : List Value) (y : PV (getT q t)) (bs2 : List Nat), (∀ k, Pr k → Pr2 k) →
      (∀ k, (Pr k ∨ k ∈ bsR) → k ≠ b' → w2.heap[k]? = w.heap[k]?) → Upd w w2 b' off' cs2 → Rep w2 Pr2 (getT q t) o2 cs2 y bs2 → OkSet q o o2 o3 →
      RootOk w2 Pr2 iV v t o3 (set q t x y) (bs2 ++ bsR)

theorem var_focus {w : World} {Pr : Nat → Prop} {v : Value} {t : Ty} {o : Ow} {x : PV t} {bs : List Nat} {q : List PE} (h : VarOk w Pr v t o x bs)
    (hn : bs.Nodup) (hd : ∀ k, Pr k → k ∉ bs) (hp : OkPath q t o x) : RootFocus w Pr true v t o x bs q := by
  obtain ⟨b, cs, bs0, rfl, h1, h2, h3⟩ := h
  have hn' := h3.nodup_iff.1 hn
  obtain ⟨b', off', cs', bs', bsR, f1, f2, f3, f4, f5, fL, f6⟩ := focus w Pr q t o x cs bs0 b 0 h2 h1 (List.nodup_cons.1 hn').1 (List.nodup_cons.1 hn').2
    (fun k hk => ⟨fun e => hd k hk (h3.mem_iff.2 (e ▸ List.mem_cons_self ..)), fun m => hd k hk (h3.mem_iff.2 (List.mem_cons_of_mem _ m))⟩) hp
  refine ⟨b', off', cs', bs', b :: bsR, f1, f2, f3, h3.trans ((f4.cons b).trans List.perm_middle.symm), ?_, fun w2 cs2 q r => fL w2 cs2 (fun k hk => q k ?_) r, ?_⟩
  · rcases f5 with rfl | m
    · exact List.mem_cons_self ..
    · exact List.mem_cons_of_mem _ m
  · rcases hk with hk | rfl
    · exact List.mem_cons_of_mem _ hk
    · exact List.mem_cons_self ..
  · intro w2 Pr2 o2 o3 cs2 y bs2 q1 q2 q3 q4 q5
    obtain ⟨cs3, g1, g2⟩ := f6 w2 Pr2 o2 o3 cs2 y bs2 q1 (fun k hk => q2 k (by
      rcases hk with hk | hk | rfl
      · exact .inl hk
      · exact .inr (List.mem_cons_of_mem _ hk)
      · exact .inr (List.mem_cons_self ..))) q3 q4 q5
    show VarOk _ _ _ _ _ _ _
    exact ⟨b, cs3, bs2 ++ bsR, rfl, g2.holds, g1, List.perm_middle⟩

theorem val_focus {w : World} {Pr : Nat → Prop} {v : Value} {e : TypeId} {t : Ty} {o : Ow} {xs : List (PV t)} {bs : List Nat} {n : Nat} {q : List PE} (h : ValOk w Pr v (.slice e t) o xs bs)
    (hn : bs.Nodup) (hd : ∀ k, Pr k → k ∉ bs) (hp : OkPath (.ix n :: q) (.slice e t) o xs) : RootFocus w Pr false v (.slice e t) o xs bs (.ix n :: q) := by
  obtain ⟨cs, rfl, h⟩ := h
  cases o with
  | b => simp [OkPath] at hp
  | pr _ _ => simp [OkPath] at hp
  | row oe =>
  obtain ⟨v, ys, bq, rfl, e4, e5, h1⟩ := rep_row.1 h
  obtain ⟨hlt, hp⟩ := hp
  rcases ownsRow_form e4 with ⟨rfl, h0, _⟩ | ⟨g, cap, rfl, hg, hc⟩
  · exact absurd hlt (by omega)
  have e5' : bs.Perm (g :: bq) := by simpa [Value.ownBlock] using e5
  have hn' := e5'.nodup_iff.1 hn
  have hgb : g ∈ bs := e5'.mem_iff.2 (List.mem_cons_self ..)
  have mq : ∀ k, k ∈ bq → k ∈ bs := fun k hk => e5'.mem_iff.2 (List.mem_cons_of_mem _ hk)
  obtain ⟨c0, c, c2, b1, b2, rfl, s2, s3, s4, s5⟩ := h1.split n hlt
  have hc0 : c0.length = n * t.size := s4 t.size (fun _ _ _ h => h.length)
  have hx : List.getD (α := PV t) xs n (dflt t) = xs[n] := by simp [List.getD, hlt]
  have hgc : ∃ cur, w.heap[g]? = some (.cells cur e (0, 0)) ∧ xs.length ≤ cap ∧ cap ≤ maxLen ∧ cur.size = cap * t.size ∧ cur.toList.take (xs.length * t.size) = c0 ++ c ++ c2 := by
    rcases e4.2 with ⟨hbad, _⟩ | ⟨g', cap', cur, hv, _, k1, k2, k3, k4, k5⟩
    · simp at hbad
    · injection hv with hv1 hv2 hv3; injection hv1 with hv1; injection hv1 with hv1; subst hv1; subst hv3
      exact ⟨cur, k1, k2, k3, k4, k5⟩
  obtain ⟨cur, k1, k2, k3, k4, k5⟩ := hgc
  have hcl : c.length = t.size := s3.length
  have htot : (c0 ++ c ++ c2).length = xs.length * t.size := e4.1
  have hcur : ∀ (i : Nat) (u : Value), (c0 ++ c ++ c2)[i]? = some u → cur[i]? = some u := by
    intro i u hu
    rw [← k5, List.getElem?_take] at hu
    split at hu
    · simpa using hu
    · cases hu
  have hhg : HoldsAt w g (n * t.size) c := ⟨cur, e, k1, fun i u hu => hcur _ _ (by
    rw [← hc0, List.append_assoc, List.getElem?_append_right (by omega), Nat.add_sub_cancel_left, List.getElem?_append_left (List.getElem?_eq_some_iff.1 hu).1]; exact hu)⟩
  have m1 : ∀ k, k ∈ b1 → k ∈ bq := fun k hk => s2.mem_iff.2 (List.mem_append_left _ hk)
  have m2 : ∀ k, k ∈ b2 → k ∈ bq := fun k hk => s2.mem_iff.2 (List.mem_append_right _ hk)
  have hgq : g ∉ bq := (List.nodup_cons.1 hn').1
  have hnq := s2.nodup_iff.1 (List.nodup_cons.1 hn').2
  rw [hx] at hp
  obtain ⟨b', off', cs', bs', bsR, f1, f2, f3, f4, f5, fL, f6⟩ := focus w Pr q t oe xs[n] c b1 g (n * t.size) s3 hhg (fun m => hgq (m1 _ m)) (List.nodup_append.1 hnq).1
    (fun k hk => ⟨fun hkg => hd k hk (hkg ▸ hgb), fun m => hd k hk (mq _ (m1 _ m))⟩) hp
  have hb'm : b' ∈ bs := by
    rcases f5 with rfl | m
    · exact hgb
    · exact mq _ (m1 _ (f4.mem_iff.2 (List.mem_append_right _ m)))
  refine ⟨b', off', cs', bs', bsR ++ g :: b2, f1, f2, ?_, ?_, ?_, ?_, ?_⟩
  · rw [show get (.ix n :: q) (.slice e t) xs = get q t (List.getD (α := PV t) xs n (dflt t)) from rfl, hx]; exact f3
  · refine e5'.trans ?_
    rw [← List.append_assoc]
    exact ((s2.trans (f4.append_right _)).cons g).trans List.perm_middle.symm
  · rcases f5 with rfl | m
    · exact List.mem_append_right _ (List.mem_cons_self ..)
    · exact List.mem_append_left _ m
  · intro w2 cs2 q' r
    refine fL w2 cs2 (fun k hk => q' k ?_) r
    rcases hk with hk | rfl
    · exact List.mem_append_left _ hk
    · exact List.mem_append_right _ (List.mem_cons_self ..)
  · intro w2 Pr2 o2 o3 cs2 y bs2 q1 q2 q3 q4 q5
    obtain ⟨oe', he1, he2, q5⟩ := q5
    injection he1 with he1; subst he1; subst he2
    have hag : ∀ k, (Pr k ∨ k ∈ bsR ∨ k = g) → k ≠ b' → w2.heap[k]? = w.heap[k]? := by
      rintro k (hk | hk | rfl) hne
      · exact q2 k (.inl hk) hne
      · exact q2 k (.inr (List.mem_append_left _ hk)) hne
      · exact q2 k (.inr (List.mem_append_right _ (List.mem_cons_self ..))) hne
    obtain ⟨cs3, g1, g2⟩ := f6 w2 Pr2 o2 oe cs2 y bs2 q1 hag q3 q4 q5
    have hl3 : cs3.length = c.length := by rw [g1.length, hcl]
    obtain ⟨cura, Ta, cur2, u1, u2, u3, u4, u5⟩ := g2
    rw [k1] at u1
    injection u1 with u1; injection u1 with w1 w2' w3; subst w1; subst w2'
    have hrow : w2.ownsRow 0 e t.size (.slice (some ⟨g, 0, none⟩) (List.length (α := PV t) xs) cap) (List.length (α := PV t) xs) (c0 ++ cs3 ++ c2) := by
      refine ⟨by rw [← htot]; simp [hl3], .inr ⟨g, cap, cur2, rfl, Nat.zero_le _, u2, k2, k3, by rw [u3]; exact k4, ?_⟩⟩
      apply List.ext_getElem?
      intro i
      rw [List.getElem?_take]
      have hi2 : ∀ (i : Nat), (cur2.toList)[i]? = cur2[i]? := fun i => by simp
      split
      · rename_i hi
        rw [hi2]
        by_cases hA : i < n * t.size
        · rw [u4 i (.inl hA), List.append_assoc, List.getElem?_append_left (by omega)]
          have := hcur i
          rw [List.append_assoc, List.getElem?_append_left (by omega)] at this
          rw [List.getElem?_eq_getElem (by omega)]
          exact this _ (List.getElem?_eq_getElem (by omega))
        · by_cases hB : i < n * t.size + c.length
          · have := u5 (i - n * t.size) _ (List.getElem?_eq_getElem (by omega))
            rw [show n * t.size + (i - n * t.size) = i by omega] at this
            rw [this, List.getElem?_append_left (by simp; omega), List.getElem?_append_right (by omega), hc0, List.getElem?_eq_getElem (by omega)]
          · rw [u4 i (.inr (by omega)), List.getElem?_append_right (by simp; omega)]
            have := hcur i
            rw [List.getElem?_append_right (by simp; omega)] at this
            have hl : (c0 ++ cs3).length = (c0 ++ c).length := by simp [hl3]
            rw [hl]
            have hlen : i - (c0 ++ c).length < c2.length := by simp only [List.length_append] at htot ⊢; omega
            rw [List.getElem?_eq_getElem hlen]
            exact this _ (List.getElem?_eq_getElem hlen)
      · rename_i hi
        rw [List.getElem?_eq_none]
        simp only [List.length_append] at htot ⊢
        omega
    have hL : RepL (Rep w2 Pr2 t oe) (c0 ++ cs3 ++ c2) (List.set (α := PV t) xs n (set q t xs[n] y)) ((bs2 ++ bsR) ++ b2) := by
      refine s5 (Rep w2 Pr2 t oe) (fun c x b'' hb'' hr => hr.agree q1 (fun k hk => q2 k ?_ ?_)) cs3 _ _ g1
      · rcases hk with hk | hk
        · exact .inl hk
        · exact .inr (List.mem_append_right _ (List.mem_cons_of_mem _ (hb'' _ hk)))
      · rintro rfl
        rcases hk with hk | hk
        · exact hd _ hk hb'm
        · have hkb := hb'' _ hk
          rcases f5 with rfl | m
          · exact hgq (m2 _ hkb)
          · exact notin_of_nodup_append hnq (f4.mem_iff.2 (List.mem_append_right _ m)) hkb
    show ValOk _ _ _ _ _ _ _
    refine ⟨[.slice (some ⟨g, 0, none⟩) (List.length (α := PV t) xs) cap], rfl, rep_row.2 ⟨_, c0 ++ cs3 ++ c2, (bs2 ++ bsR) ++ b2, rfl, ?_, ?_, ?_⟩⟩
    · show w2.ownsRow 0 e t.size _ (List.length (α := PV t) (List.set (α := PV t) xs n _)) _
      rw [List.length_set]; exact hrow
    · simp only [Value.ownBlock, Option.toList_some, List.singleton_append]
      rw [← List.append_assoc]
      exact List.perm_middle
    · show RepL _ _ (List.set (α := PV t) xs n (set q t (List.getD (α := PV t) xs n (dflt t)) y)) _
      rw [hx]; exact hL

theorem root_focus {w : World} {Pr : Nat → Prop} {iV : Bool} {v : Value} {t : Ty} {o : Ow} {x : PV t} {bs : List Nat} {q : List PE} (h : RootOk w Pr iV v t o x bs)
    (hn : bs.Nodup) (hd : ∀ k, Pr k → k ∉ bs) (hp : OkPath q t o x) (hq : iV = true ∨ (locOf w iV t v q).isSome) : RootFocus w Pr iV v t o x bs q := by
  cases iV with
  | true => exact var_focus h hn hd hp
  | false =>
    simp only [Bool.false_eq_true, false_or] at hq
    cases q with
    | nil => cases v <;> simp [locOf] at hq; rename_i a _ _; cases a <;> simp at hq
    | cons e q =>
      cases e with
      | l => cases v <;> simp [locOf] at hq; rename_i a _ _; cases a <;> simp at hq
      | r => cases v <;> simp [locOf] at hq; rename_i a _ _; cases a <;> simp at hq
      | ix n =>
        cases t with
        | slice e t => exact val_focus h hn hd hp
        | _ => simp [OkPath] at hp

/-- The places of a root stay where they are while its blocks stay as they are. -/
theorem root_loc {w w' : World} {Pr : Nat → Prop} {iV : Bool} {v : Value} {t : Ty} {o : Ow} {x : PV t} {bs : List Nat} {q : List PE} {loc : Nat × Nat} (h : RootOk w Pr iV v t o x bs)
    (hn : bs.Nodup) (hd : ∀ k, Pr k → k ∉ bs) (hp : OkPath q t o x) (hl : locOf w iV t v q = some loc) (ha : ∀ k ∈ bs, w'.heap[k]? = w.heap[k]?) :
    locOf w' iV t v q = some loc ∧ readCells w' loc.1 loc.2 (getT q t).size = readCells w loc.1 loc.2 (getT q t).size := by
  obtain ⟨b', off', cs', bs', bsR, f1, f2, f3, f4, f5, fL, _⟩ := root_focus h hn hd hp (.inr (by rw [hl]; rfl))
  rw [hl] at f1
  obtain rfl := Option.some.inj f1
  have hb : b' ∈ bs := f4.mem_iff.2 (List.mem_append_right _ f5)
  have hu := f2.upd (ha _ hb)
  refine ⟨fL w' cs' (fun k hk _ => ha k (f4.mem_iff.2 (List.mem_append_right _ hk))) hu, ?_⟩
  show readCells w' b' off' _ = readCells w b' off' _
  rw [← f3.length, hu.holds.read, f2.read]

theorem HoleOk.agree {w w' : World} {Pr Pr' : Nat → Prop} {iV : Bool} {v : Value} {t : Ty} {o : Ow} {x : PV t} {p : List PE} {bs : List Nat} (hp : ∀ k, Pr k → Pr' k)
    (ha : ∀ k, (Pr k ∨ k ∈ bs) → w'.heap[k]? = w.heap[k]?) (h : HoleOk w Pr iV v t o x p bs) : HoleOk w' Pr' iV v t o x p bs := by
  obtain ⟨b', off', cs', h1, h2, h3, h4, h5, h6, h7⟩ := h
  have hu := h2.upd (ha b' (.inr h4))
  have key : ∀ (w2 : World) (cs2 : List Value), Upd w' w2 b' off' cs2 → Upd w w2 b' off' cs2 := by
    intro w2 cs2 h
    obtain ⟨cur, T, cur2, g⟩ := h
    exact ⟨cur, T, cur2, by rw [← ha b' (.inr h4)]; exact g.1, g.2⟩
  refine ⟨b', off', cs', h6 w' cs' (fun k hk _ => ha k (.inr hk)) hu, hu.holds, h3, h4, h5, ?_, ?_⟩
  · intro w2 cs2 q r
    exact h6 w2 cs2 (fun k hk hne => (q k hk hne).trans (ha k (.inr hk))) (key _ _ r)
  · intro w2 Pr2 o2 o3 cs2 y bs2 q1 q2 q3 q4 q5
    exact h7 w2 Pr2 o2 o3 cs2 y bs2 (fun k hk => q1 k (hp k hk)) (fun k hk hne => (q2 k (hk.imp (hp k) id) hne).trans (ha k hk)) (key _ _ q3) q4 q5

/-! ### the master lemma -/
def Same (E E' : Env) (V V' : List Value) (B B' : Nat → List Nat) (w w' : World) (k : Nat) : Prop :=
  E'[k]? = E[k]? ∧ V'[k]? = V[k]? ∧ B' k = B k ∧ ∀ b ∈ B k, w'.heap[b]? = w.heap[b]?

/-- How an entry may turn: a new one; the same root with other content; the same root of which a part is away. -/
def Bump (w w' : World) (e e' : Ent) (v v' : Value) : Prop :=
  e.iv < e'.iv ∨ (e'.iv = e.iv ∧ v' = v ∧ e.cv < e'.cv ∧ e'.s.ofVal = e.s.ofVal) ∨
  (e'.iv = e.iv ∧ v' = v ∧ e'.cv = e.cv ∧ ∃ (iV : Bool) (t : Ty) (o : Ow) (x : PV t) (p : List PE), e'.s = .hole iV t o x p ∧ e.s = (if iV then .var t o x else .val t o x) ∧
    ∀ q s, p = q ++ s → lrOnly s = true → ∀ loc, locOf w iV t v q = some loc → locOf w' iV t v q = some loc)

theorem live_next {E E' : Env} {a : Al} {e e' : Ent} (h' : E'[a.j]? = some e') (h : a.live E e) (hb : e.iv < e'.iv ∨ (e'.iv = e.iv ∧ e.cv ≤ e'.cv)) : a.live E' e' :=
  ⟨h', by rcases hb with hb | hb <;> have := h.2.1 <;> omega, fun hi => by
    rcases hb with hb | hb
    · have := h.2.1; omega
    · have := h.2.2 (by omega); omega⟩

section
variable {w0 : World} {Pr0 M : Nat → Prop} {E E' : Env} {V V' : List Value} {w w' : World} {Pr Pr' : Nat → Prop} {B B' : Nat → List Nat}

theorem root_of {k : Nat} {s : Slot} {v : Value} {iV : Bool} {t : Ty} {o : Ow} {x : PV t} (h : SlotOk w Pr E V B k s v) (hs : s = if iV then .var t o x else .val t o x) : RootOk w Pr iV v t o x (B k) := by
  subst hs; cases iV <;> exact h

theorem AddrOk.next (h : StB w0 Pr0 M E V w Pr B) (hch : ∀ k e v, E[k]? = some e → V[k]? = some v → Same E E' V V' B B' w w' k ∨ ∃ e' v', E'[k]? = some e' ∧ V'[k]? = some v' ∧ Bump w w' e e' v v')
    {a : Al} {v : Value} (ha : AddrOk w E V a v) : AddrOk w' E' V' a v := by
  obtain ⟨e, vj, hl, hv, hk⟩ := ha
  rcases hch a.j e vj hl.1 hv with ⟨s1, s2, s3, s4⟩ | ⟨e', v', g1, g2, g3⟩
  · refine ⟨e, vj, ⟨by rw [s1]; exact hl.1, hl.2⟩, by rw [s2]; exact hv, fun hi => ⟨(hk hi).1, fun hp hc => ?_⟩⟩
    have hA := (hk hi).2 hp hc
    have hso := h.slots a.j e vj hl.1 hv
    have hdj : ∀ k, Pr k → k ∉ B a.j := fun k hk m => (h.free _ _ m).2.1 hk
    unfold AddrAt at hA ⊢
    split
    · rename_i t o x hs
      rw [hs] at hA hso
      obtain ⟨p1, loc, p2, p3⟩ := hA
      exact ⟨p1, loc, (root_loc (iV := false) (show RootOk _ _ _ _ _ _ _ _ from hso) (h.nodup _) hdj p1 p2 s4).1, p3⟩
    · rename_i t o x hs
      rw [hs] at hA hso
      obtain ⟨p1, loc, p2, p3⟩ := hA
      exact ⟨p1, loc, (root_loc (iV := true) (show RootOk _ _ _ _ _ _ _ _ from hso) (h.nodup _) hdj p1 p2 s4).1, p3⟩
    · rename_i iV t o x p hs
      rw [hs] at hA hso
      intro s hps hsl
      obtain ⟨loc, q1, q2⟩ := hA s hps hsl
      obtain ⟨b', off', cs', h1, h2, h3, h4, h5, h6, h7⟩ := hso
      have h1' := h6 w' cs' (fun k hk _ => s4 k hk) (h2.upd (s4 _ h4))
      refine ⟨loc, ?_, q2⟩
      subst hps
      exact locOf_prefix (.inr hp) hsl h1 h1' q1
    · trivial
  · rcases g3 with hb | ⟨hb1, hb2, hb3, hb0⟩ | ⟨hb1, hb2, hb3, iV, t, o, x, p, hb4, hb5, hb6⟩
    · exact ⟨e', v', live_next g1 hl (.inl hb), g2, fun hi => by have := hl.2.1; omega⟩
    · refine ⟨e', v', live_next g1 hl (.inr ⟨hb1, by omega⟩), g2, fun hi => ⟨fun hp => ?_, fun _ hc => ?_⟩⟩
      · rw [hb2]; exact (hk (by omega)).1 hp
      · have := hl.2.2 (by omega); omega
    · refine ⟨e', v', live_next g1 hl (.inr ⟨hb1, by omega⟩), g2, fun hi => ⟨fun hp => ?_, fun hp hc => ?_⟩⟩
      · rw [hb2]; exact (hk (by omega)).1 hp
      · have hA := (hk (by omega)).2 hp (by omega)
        rw [hb5] at hA
        rw [hb4, hb2]
        intro s hps hsl
        cases iV with
        | true =>
          obtain ⟨p1, loc, p2, p3⟩ := hA
          exact ⟨loc, hb6 _ s hps hsl loc p2, p3⟩
        | false =>
          obtain ⟨p1, loc, p2, p3⟩ := hA
          exact ⟨loc, hb6 _ s hps hsl loc p2, p3⟩

theorem SubOk.next (h : StB w0 Pr0 M E V w Pr B) (hch : ∀ k e v, E[k]? = some e → V[k]? = some v → Same E E' V V' B B' w w' k ∨ ∃ e' v', E'[k]? = some e' ∧ V'[k]? = some v' ∧ Bump w w' e e' v v')
    {a : Al} {v : Value} (ha : SubOk w E V a v) : SubOk w' E' V' a v := by
  obtain ⟨e, vj, hl, hv, hk⟩ := ha
  rcases hch a.j e vj hl.1 hv with ⟨s1, s2, s3, s4⟩ | ⟨e', v', g1, g2, g3⟩
  · refine ⟨e, vj, ⟨by rw [s1]; exact hl.1, hl.2⟩, by rw [s2]; exact hv, fun hi => ⟨(hk hi).1, fun hc hp => ?_⟩⟩
    have hA := (hk hi).2 hc hp
    have hso := h.slots a.j e vj hl.1 hv
    have hdj : ∀ k, Pr k → k ∉ B a.j := fun k hk m => (h.free _ _ m).2.1 hk
    unfold SubAt at hA ⊢
    split
    · rename_i t o x hs
      rw [hs] at hA hso
      obtain ⟨p1, loc, p2, p3⟩ := hA
      have := root_loc (iV := false) (show RootOk _ _ _ _ _ _ _ _ from hso) (h.nodup _) hdj p1 p2 s4
      exact ⟨p1, loc, this.1, by rw [this.2]; exact p3⟩
    · rename_i t o x hs
      rw [hs] at hA hso
      obtain ⟨p1, loc, p2, p3⟩ := hA
      have := root_loc (iV := true) (show RootOk _ _ _ _ _ _ _ _ from hso) (h.nodup _) hdj p1 p2 s4
      exact ⟨p1, loc, this.1, by rw [this.2]; exact p3⟩
    · trivial
  · rcases g3 with hb | ⟨hb1, hb2, hb3, hb0⟩ | ⟨hb1, hb2, hb3, iV, t, o, x, p, hb4, hb5, hb6⟩
    · exact ⟨e', v', live_next g1 hl (.inl hb), g2, fun hi => by have := hl.2.1; omega⟩
    · refine ⟨e', v', live_next g1 hl (.inr ⟨hb1, by omega⟩), g2, fun hi => ⟨fun hp hval => ?_, fun hc _ => ?_⟩⟩
      · rw [hb2]; exact (hk (by omega)).1 hp (by rw [← hb0]; exact hval)
      · have := hl.2.2 (by omega); omega
    · refine ⟨e', v', live_next g1 hl (.inr ⟨hb1, by omega⟩), g2, fun hi => ⟨fun hp hval => ?_, fun hc hp => ?_⟩⟩
      · rw [hb2]; refine (hk (by omega)).1 hp ?_
        rw [hb4] at hval; rw [hb5]
        cases iV <;> simp_all [Slot.ofVal]
      · rw [hb4]; trivial

theorem AllL.imp {α β : Type} {R R' : α → β → Prop} (hR : ∀ a b, R a b → R' a b) : ∀ {as : List α} {bs : List β}, AllL R as bs → AllL R' as bs
  | [], [], _ => trivial
  | _ :: _, _ :: _, h => ⟨hR _ _ h.1, AllL.imp hR h.2⟩
  | [], _ :: _, h => h.elim
  | _ :: _, [], h => h.elim

theorem ValOk.agree (hp : ∀ k, Pr k → Pr' k) {v : Value} {t : Ty} {o : Ow} {x : PV t} {bs : List Nat} (ha : ∀ k, (Pr k ∨ k ∈ bs) → w'.heap[k]? = w.heap[k]?)
    (h : ValOk w Pr v t o x bs) : ValOk w' Pr' v t o x bs := by
  obtain ⟨cs, h1, h2⟩ := h
  exact ⟨cs, h1, h2.agree hp ha⟩

theorem VarOk.agree (hp : ∀ k, Pr k → Pr' k) {v : Value} {t : Ty} {o : Ow} {x : PV t} {bs : List Nat} (ha : ∀ k, (Pr k ∨ k ∈ bs) → w'.heap[k]? = w.heap[k]?)
    (h : VarOk w Pr v t o x bs) : VarOk w' Pr' v t o x bs := by
  obtain ⟨b, cs, bs0, h1, h2, h3, h4⟩ := h
  exact ⟨b, cs, bs0, h1, (h2.upd (ha b (.inr (h4.mem_iff.2 (List.mem_cons_self ..))))).holds, h3.agree hp (fun k hk => ha k (hk.imp id fun m => h4.mem_iff.2 (List.mem_cons_of_mem _ m))), h4⟩

theorem TupOk.agree (hp : ∀ k, Pr k → Pr' k) : ∀ {l : List TV} {vs : List Value} {bs : List Nat}, (∀ k, (Pr k ∨ k ∈ bs) → w'.heap[k]? = w.heap[k]?) → TupOk w Pr l vs bs → TupOk w' Pr' l vs bs
  | [], [], _, _, h => h
  | _ :: _, _ :: _, _, ha, h => by
    obtain ⟨b1, b2, h1, h2, h3⟩ := h
    exact ⟨b1, b2, h1, h2.imp id (fun h2 => h2.agree hp (fun k hk => ha k (hk.imp id fun m => h1.mem_iff.2 (List.mem_append_left _ m)))), h3.agree hp (fun k hk => ha k (hk.imp id fun m => h1.mem_iff.2 (List.mem_append_right _ m)))⟩
  | [], _ :: _, _, _, h => h.elim
  | _ :: _, [], _, _, h => h.elim

theorem SlotOk.next (h : StB w0 Pr0 M E V w Pr B) (hp : ∀ k, Pr k → Pr' k) (hagP : ∀ k, Pr k → w'.heap[k]? = w.heap[k]?)
    (hch : ∀ k e v, E[k]? = some e → V[k]? = some v → Same E E' V V' B B' w w' k ∨ ∃ e' v', E'[k]? = some e' ∧ V'[k]? = some v' ∧ Bump w w' e e' v v')
    {k : Nat} {s : Slot} {v : Value} (hB : B' k = B k) (hagB : ∀ b ∈ B k, w'.heap[b]? = w.heap[b]?) (hs : SlotOk w Pr E V B k s v) : SlotOk w' Pr' E' V' B' k s v := by
  have hag : ∀ b, (Pr b ∨ b ∈ B k) → w'.heap[b]? = w.heap[b]? := fun b hb => hb.elim (hagP b) (hagB b)
  cases s with
  | none => trivial
  | val t o x => show ValOk _ _ _ _ _ _ _; rw [hB]; exact ValOk.agree hp hag hs
  | var t o x => show VarOk _ _ _ _ _ _ _; rw [hB]; exact VarOk.agree hp hag hs
  | hole iV t o x p => show HoleOk _ _ _ _ _ _ _ _ _; rw [hB]; exact HoleOk.agree hp hag hs
  | sub a => exact SubOk.next h hch hs
  | addr a => exact AddrOk.next h hch hs
  | view a t x =>
    obtain ⟨e, hl, hk⟩ := hs
    have hlt : ∃ vj, V[a.j]? = some vj := by
      have h1 : a.j < E.length := (List.getElem?_eq_some_iff.1 hl.1).1
      exact ⟨V[a.j]'(by rw [← h.len]; exact h1), List.getElem?_eq_getElem _⟩
    obtain ⟨vj, hvj⟩ := hlt
    rcases hch a.j e vj hl.1 hvj with ⟨s1, s2, s3, s4⟩ | ⟨e', v', g1, g2, g3⟩
    · refine ⟨e, ⟨by rw [s1]; exact hl.1, hl.2⟩, fun h1 h2 h3 => ?_⟩
      obtain ⟨cs, q1, q2⟩ := hk h1 h2 h3
      refine ⟨cs, q1, q2.agree (fun b hb => ?_) (fun b hb => ?_)⟩
      · rw [s3]; exact hb.imp (hp b) id
      · rcases hb with (hb | hb) | hb
        · exact hagP b hb
        · exact s4 b hb
        · cases hb
    · rcases g3 with hb | ⟨hb1, hb2, hb3, _⟩ | ⟨hb1, hb2, hb3, iV, t', o', x', p', hb4, hb5, hb6⟩
      · exact ⟨e', live_next g1 hl (.inl hb), fun hi => by have := hl.2.1; omega⟩
      · exact ⟨e', live_next g1 hl (.inr ⟨hb1, by omega⟩), fun hi hc => by have := hl.2.2 (by omega); omega⟩
      · exact ⟨e', live_next g1 hl (.inr ⟨hb1, by omega⟩), fun hi hc hh => by rw [hb4] at hh; simp [Slot.isHole] at hh⟩
  | bad t x =>
    obtain ⟨a, cs, h1, h3, h4, h5⟩ := hs
    exact ⟨a, cs, h1, hp _ h3, h4.agree (hagP _ h3), h5.agree hp (fun b hb => hb.elim (hagP b) (fun m => by cases m))⟩
  | fn f caps =>
    obtain ⟨vs, h1, h2⟩ := hs
    exact ⟨vs, h1, h2.imp fun a b => AddrOk.next h hch⟩
  | tup l =>
    obtain ⟨vs, h1, h2⟩ := hs
    exact ⟨vs, h1, by rw [hB]; exact h2.agree hp hag⟩

/-- What must be shown of a step: what turns, and that the rest of memory stays. -/
theorem StB.next (h : StB w0 Pr0 M E V w Pr B) (hlen : E'.length = V'.length) (hlen' : E'.length = E.length) (hp : ∀ k, Pr k → Pr' k) (hagP : ∀ k, Pr k → w'.heap[k]? = w.heap[k]?)
    (hch : ∀ k e v, E[k]? = some e → V[k]? = some v → Same E E' V V' B B' w w' k ∨ ∃ e' v', E'[k]? = some e' ∧ V'[k]? = some v' ∧ SlotOk w' Pr' E' V' B' k e'.s v' ∧ Bump w w' e e' v v')
    (hpn : ∀ k, Pr' k → Pr k ∨ ((w0.heap.size ≤ k ∨ M k) ∧ k < w'.heap.size))
    (hnd : ∀ k, (B' k).Nodup) (hdj : ∀ j k, j ≠ k → ∀ b ∈ B' j, b ∉ B' k)
    (hfr : ∀ k, ∀ b ∈ B' k, (w0.heap.size ≤ b ∨ M b) ∧ ¬ Pr' b ∧ b < w'.heap.size)
    (hos : w'.os = w.os) (htape : w'.tape = w.tape) (hout : w'.output = w.output) (hsz : w.heap.size ≤ w'.heap.size)
    (hframe : ∀ k, k < w0.heap.size → ¬ M k → w'.heap[k]? = w.heap[k]?) : StB w0 Pr0 M E' V' w' Pr' B' where
  len := hlen
  pr0 := fun k hk => hp k (h.pr0 k hk)
  prlt := fun k hk => (hpn k hk).elim (fun q => Nat.lt_of_lt_of_le (h.prlt k q) hsz) (fun q => q.2)
  prnew := fun k hk => (hpn k hk).elim (fun q => h.prnew k q) (fun q => .inr q.1)
  slots := by
    have hch' : ∀ k e v, E[k]? = some e → V[k]? = some v → Same E E' V V' B B' w w' k ∨ ∃ e' v', E'[k]? = some e' ∧ V'[k]? = some v' ∧ Bump w w' e e' v v' :=
      fun k e v he hv => (hch k e v he hv).imp id fun ⟨e', v', a, b, _, c⟩ => ⟨e', v', a, b, c⟩
    intro k e v he hv
    have hk : k < E.length := by rw [← hlen']; exact (List.getElem?_eq_some_iff.1 he).1
    have he0 := List.getElem?_eq_getElem hk
    have hv0 := List.getElem?_eq_getElem (l := V) (i := k) (by rw [← h.len]; exact hk)
    rcases hch k _ _ he0 hv0 with ⟨s1, s2, s3, s4⟩ | ⟨e', v', g1, g2, g3, _⟩
    · rw [s1] at he; rw [s2] at hv
      exact SlotOk.next h hp hagP hch' s3 s4 (h.slots k e v he hv)
    · rw [g1] at he; rw [g2] at hv
      obtain rfl := Option.some.inj he
      obtain rfl := Option.some.inj hv
      exact g3
  nodup := hnd
  disj := hdj
  free := hfr
  os := hos.trans h.os
  tape := htape.trans h.tape
  output := hout.trans h.output
  size := Nat.le_trans h.size hsz
  frame := fun k hk hm => (hframe k hk hm).trans (h.frame k hk hm)

/-- The same by a pool: some entries turn, and what they owned, with what is new, is shared out among them anew. -/
theorem StB.pool (h : StB w0 Pr0 M E V w Pr B) (C : Nat → Prop) (hlen : E'.length = V'.length) (hlen' : E'.length = E.length)
    (hE : ∀ k, ¬ C k → E'[k]? = E[k]? ∧ V'[k]? = V[k]? ∧ B' k = B k)
    (hC : ∀ k e v, C k → E[k]? = some e → V[k]? = some v → ∃ e' v', E'[k]? = some e' ∧ V'[k]? = some v' ∧ SlotOk w' Pr' E' V' B' k e'.s v' ∧ Bump w w' e e' v v')
    (hpool : ∀ k, C k → ∀ b ∈ B' k, ((∃ k', C k' ∧ b ∈ B k') ∨ w.heap.size ≤ b) ∧ b < w'.heap.size)
    (hPr : ∀ b, Pr b → Pr' b)
    (hPr' : ∀ b, Pr' b → Pr b ∨ (((∃ k', C k' ∧ b ∈ B k') ∨ w.heap.size ≤ b) ∧ b < w'.heap.size ∧ ∀ k, C k → b ∉ B' k))
    (hnd : ∀ k, C k → (B' k).Nodup) (hdj : ∀ j k, C j → C k → j ≠ k → ∀ b ∈ B' j, b ∉ B' k)
    (hw : ∀ b, b < w.heap.size → (∀ k, C k → b ∉ B k) → w'.heap[b]? = w.heap[b]?)
    (hos : w'.os = w.os) (htape : w'.tape = w.tape) (hout : w'.output = w.output) (hsz : w.heap.size ≤ w'.heap.size) : StB w0 Pr0 M E' V' w' Pr' B' := by
  have poolfree : ∀ b, ((∃ k', C k' ∧ b ∈ B k') ∨ w.heap.size ≤ b) → (w0.heap.size ≤ b ∨ M b) ∧ ¬ Pr b := by
    rintro b (⟨k', _, hb⟩ | hb)
    · exact ⟨(h.free _ _ hb).1, (h.free _ _ hb).2.1⟩
    · exact ⟨.inl (Nat.le_trans h.size hb), fun hp => by have := h.prlt b hp; omega⟩
  have poolout : ∀ b, ((∃ k', C k' ∧ b ∈ B k') ∨ w.heap.size ≤ b) → ∀ k, ¬ C k → b ∉ B k := by
    rintro b (⟨k', hc, hb⟩ | hb) k hk hbk
    · exact h.disj k' k (fun e => hk (e ▸ hc)) b hb hbk
    · have := (h.free _ _ hbk).2.2; omega
  have hagP : ∀ k, Pr k → w'.heap[k]? = w.heap[k]? := fun b hb => hw b (h.prlt b hb) (fun k _ m => (h.free _ _ m).2.1 hb)
  refine h.next hlen hlen' hPr hagP (fun k e v he hv => ?_) (fun b hb => ?_) (fun k => ?_) (fun j k hne b hb hbk => ?_) (fun k b hb => ?_) hos htape hout hsz (fun b hb hm => ?_)
  · by_cases hk : C k
    · obtain ⟨e', v', a, b, c, d⟩ := hC k e v hk he hv
      exact .inr ⟨e', v', a, b, c, d⟩
    · obtain ⟨a, b, c⟩ := hE k hk
      exact .inl ⟨a, b, c, fun x hx => hw x (h.free _ _ hx).2.2 (fun j hj m => h.disj j k (fun e => hk (e ▸ hj)) x m hx)⟩
  · rcases hPr' b hb with hb | ⟨hb1, hb2, _⟩
    · exact .inl hb
    · exact .inr ⟨(poolfree b hb1).1, hb2⟩
  · by_cases hk : C k
    · exact hnd k hk
    · rw [(hE k hk).2.2]; exact h.nodup k
  · by_cases hj : C j <;> by_cases hk : C k
    · exact hdj j k hj hk hne b hb hbk
    · rw [(hE k hk).2.2] at hbk
      exact poolout b (hpool j hj b hb).1 k hk hbk
    · rw [(hE j hj).2.2] at hb
      exact poolout b (hpool k hk b hbk).1 j hj hb
    · rw [(hE j hj).2.2] at hb; rw [(hE k hk).2.2] at hbk
      exact h.disj j k hne b hb hbk
  · by_cases hk : C k
    · obtain ⟨p1, p2⟩ := hpool k hk b hb
      refine ⟨(poolfree b p1).1, fun hp => ?_, p2⟩
      rcases hPr' b hp with hp | ⟨_, _, hp⟩
      · exact (poolfree b p1).2 hp
      · exact hp k hk hb
    · rw [(hE k hk).2.2] at hb
      obtain ⟨p1, p2, p3⟩ := h.free k b hb
      refine ⟨p1, fun hp => ?_, Nat.lt_of_lt_of_le p3 hsz⟩
      rcases hPr' b hp with hp | ⟨hp, _, _⟩
      · exact p2 hp
      · exact poolout b hp k hk hb
  · exact hw b (Nat.lt_of_lt_of_le hb h.size) (fun k _ m => (h.free _ _ m).1.elim (fun q => by omega) hm)
end

end Go.Dn
