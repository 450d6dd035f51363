/- Code on pure values, and that it tells what the machine does. -/
import Derived.Test.YtegfhigkmghmjaaDoorDz
namespace Go.Dn

set_option linter.constructorNameAsVariable false
def owEq : Ow → Ow → Bool
  | .b, .b => true
  | .row a, .row b => owEq a b
  | .pr a b, .pr c d => owEq a c && owEq b d
  | _, _ => false

theorem owEq_ok : ∀ {a b : Ow}, owEq a b = true → a = b
  | .b, .b, _ => rfl
  | .row a, .row b, h => by rw [owEq_ok (a := a) (b := b) h]
  | .pr a b, .pr c d, h => by
    simp only [owEq, Bool.and_eq_true] at h
    rw [owEq_ok h.1, owEq_ok h.2]
  | .b, .row _, h | .b, .pr _ _, h | .row _, .b, h | .row _, .pr _ _, h | .pr _ _, .b, h | .pr _ _, .row _, h => by cases h

theorem samePath_ok : ∀ {p q : List PE}, samePath p q = true → p = q
  | [], [], _ => rfl
  | .l :: p, .l :: q, h => by rw [samePath_ok (p := p) (q := q) h]
  | .r :: p, .r :: q, h => by rw [samePath_ok (p := p) (q := q) h]
  | .ix n :: p, .ix m :: q, h => by
    simp only [samePath, Bool.and_eq_true, beq_iff_eq] at h
    rw [h.1, samePath_ok h.2]
  | [], _ :: _, h => by simp [samePath] at h
  | .l :: _, [], h | .r :: _, [], h | .ix _ :: _, [], h => by simp [samePath] at h
  | .l :: _, .r :: _, h | .l :: _, .ix _ :: _, h | .r :: _, .l :: _, h | .r :: _, .ix _ :: _, h | .ix _ :: _, .l :: _, h | .ix _ :: _, .r :: _, h => by simp [samePath] at h

def alEq (a b : Al) : Bool := (a.j == b.j) && (samePath a.p b.p && ((a.iv == b.iv) && (a.cv == b.cv)))

theorem alEq_ok {a b : Al} (h : alEq a b = true) : a = b := by
  simp only [alEq, Bool.and_eq_true, beq_iff_eq] at h
  obtain ⟨h1, h2, h3, h4⟩ := h
  cases a; cases b
  simp only at h1 h2 h3 h4
  rw [h1, samePath_ok h2, h3, h4]

def alsEq : List Al → List Al → Bool
  | [], [] => true
  | a :: as, b :: bs => alEq a b && alsEq as bs
  | _, _ => false

theorem alsEq_ok : ∀ {a b : List Al}, alsEq a b = true → a = b
  | [], [], _ => rfl
  | a :: as, b :: bs, h => by
    simp only [alsEq, Bool.and_eq_true] at h
    rw [alEq_ok h.1, alsEq_ok h.2]
  | [], _ :: _, h => by simp [alsEq] at h
  | _ :: _, [], h => by simp [alsEq] at h

/-- The data, where the slots are of that shape. -/
def takeS : (l : List Sh) → List Ent → Option (DS l)
  | [], [] => some ()
  | .val t o :: l, e :: es =>
    match e with
    | ⟨0, 0, .val t' o' x⟩ => bif owEq o' o then (match castTy t' t x, takeS l es with | some y, some d => some (y, d) | _, _ => none) else none
    | _ => none
  | .var t o :: l, e :: es =>
    match e with
    | ⟨0, 0, .var t' o' x⟩ => bif owEq o' o then (match castTy t' t x, takeS l es with | some y, some d => some (y, d) | _, _ => none) else none
    | _ => none
  | .bad t :: l, e :: es =>
    match e with
    | ⟨0, 0, .bad t' x⟩ => (match castTy t' t x, takeS l es with | some y, some d => some (y, d) | _, _ => none)
    | _ => none
  | .view a t :: l, e :: es =>
    match e with
    | ⟨0, 0, .view a' t' x⟩ => bif alEq a' a then (match castTy t' t x, takeS l es with | some y, some d => some (y, d) | _, _ => none) else none
    | _ => none
  | .none :: l, e :: es =>
    match e with
    | ⟨0, 0, .none⟩ => takeS l es
    | _ => none
  | .undef :: l, e :: es =>
    match e with
    | ⟨0, 0, .tup []⟩ => takeS l es
    | _ => none
  | .sub a :: l, e :: es =>
    match e with
    | ⟨0, 0, .sub a'⟩ => bif alEq a' a then takeS l es else none
    | _ => none
  | .addr a :: l, e :: es =>
    match e with
    | ⟨0, 0, .addr a'⟩ => bif alEq a' a then takeS l es else none
    | _ => none
  | .fn f c :: l, e :: es =>
    match e with
    | ⟨0, 0, .fn f' c'⟩ => bif (f' == f) && alsEq c' c then takeS l es else none
    | _ => none
  | _, _ => none

theorem takeS_ok : ∀ {l : List Sh} {es : List Ent} {d : DS l}, takeS l es = some d → fillS l d = es
  | [], [], _, _ => rfl
  | [], _ :: _, _, h => by simp [takeS] at h
  | s :: _, [], _, h => by cases s <;> simp [takeS] at h
  | .val t o :: l, e :: es, d, h => by
    simp only [takeS] at h
    split at h
    · rename_i t' o' x
      cases hc : owEq o' o with
      | false => rw [hc] at h; cases h
      | true =>
        rw [hc] at h
        simp only [cond_true] at h
        split at h
        · rename_i y d' h1 h2
          obtain rfl := Option.some.inj h
          obtain ⟨rfl, rfl⟩ := castTy_some h1
          obtain rfl := owEq_ok hc
          simp only [fillS]; rw [takeS_ok h2]
        · cases h
    · cases h
  | .var t o :: l, e :: es, d, h => by
    simp only [takeS] at h
    split at h
    · rename_i t' o' x
      cases hc : owEq o' o with
      | false => rw [hc] at h; cases h
      | true =>
        rw [hc] at h
        simp only [cond_true] at h
        split at h
        · rename_i y d' h1 h2
          obtain rfl := Option.some.inj h
          obtain ⟨rfl, rfl⟩ := castTy_some h1
          obtain rfl := owEq_ok hc
          simp only [fillS]; rw [takeS_ok h2]
        · cases h
    · cases h
  | .bad t :: l, e :: es, d, h => by
    simp only [takeS] at h
    split at h
    · split at h
      · rename_i y d' h1 h2
        obtain rfl := Option.some.inj h
        obtain ⟨rfl, rfl⟩ := castTy_some h1
        simp only [fillS]; rw [takeS_ok h2]
      · cases h
    · cases h
  | .view a t :: l, e :: es, d, h => by
    simp only [takeS] at h
    split at h
    · rename_i a' t' x
      cases hc : alEq a' a with
      | false => rw [hc] at h; cases h
      | true =>
        rw [hc] at h
        simp only [cond_true] at h
        split at h
        · rename_i y d' h1 h2
          obtain rfl := Option.some.inj h
          obtain ⟨rfl, rfl⟩ := castTy_some h1
          obtain rfl := alEq_ok hc
          simp only [fillS]; rw [takeS_ok h2]
        · cases h
    · cases h
  | .none :: l, e :: es, d, h => by
    simp only [takeS] at h
    split at h
    · simp only [fillS]; rw [takeS_ok h]
    · cases h
  | .undef :: l, e :: es, d, h => by
    simp only [takeS] at h
    split at h
    · simp only [fillS]; rw [takeS_ok h]
    · cases h
  | .sub a :: l, e :: es, d, h => by
    simp only [takeS] at h
    split at h
    · rename_i a'
      cases hc : alEq a' a with
      | false => rw [hc] at h; cases h
      | true => rw [hc] at h; obtain rfl := alEq_ok hc; simp only [fillS]; rw [takeS_ok h]
    · cases h
  | .addr a :: l, e :: es, d, h => by
    simp only [takeS] at h
    split at h
    · rename_i a'
      cases hc : alEq a' a with
      | false => rw [hc] at h; cases h
      | true => rw [hc] at h; obtain rfl := alEq_ok hc; simp only [fillS]; rw [takeS_ok h]
    · cases h
  | .fn f c :: l, e :: es, d, h => by
    simp only [takeS] at h
    split at h
    · rename_i f' c'
      cases hc : (f' == f) && alsEq c' c with
      | false => rw [hc] at h; cases h
      | true =>
        rw [hc] at h
        rw [Bool.and_eq_true, beq_iff_eq] at hc
        obtain ⟨rfl, hc⟩ := hc
        obtain rfl := alsEq_ok hc
        simp only [fillS]; rw [takeS_ok h]
    · cases h

def Xt.eqb : Xt → Xt → Bool
  | .normal, .normal => true
  | .exit a, .exit b => a == b
  | .ret, .ret => true
  | _, _ => false

theorem Xt.eqb_ok {a b : Xt} (h : a.eqb b = true) : a = b := by
  cases a <;> cases b <;> simp [Xt.eqb] at h <;> first | rfl | rw [h]

/-- The data of an end. -/
def inj (off : Nat) : (os : List Out) → Xt → Env → Option (Xo os)
  | [], _, _ => none
  | [o], t, E => bif o.key.eqb t then takeS o.sh (o.cut.app off E) else none
  | o :: o2 :: os, t, E => bif o.key.eqb t then (match takeS o.sh (o.cut.app off E) with | some d => some (.inl d) | none => none) else (match inj off (o2 :: os) t E with | some y => some (.inr y) | none => none)

def elim {R : Type} : (os : List Out) → Xo os → (Xt → Env → Option R) → Option R
  | [], _, _ => none
  | [o], d, K => K o.key (fillS o.sh d)
  | o :: o2 :: os, x, K => match x with | .inl d => K o.key (fillS o.sh d) | .inr y => elim (o2 :: os) y K

/-- An end's data give the end again. -/
theorem elim_inj {off : Nat} {t : Xt} {E : Env} : ∀ {os : List Out} {x : Xo os}, inj off os t E = some x → ∃ c : Cut, ∀ (R : Type) (K : Xt → Env → Option R), elim os x K = K t (c.app off E)
  | [], _, h => by simp [inj] at h
  | [o], x, h => by
    simp only [inj] at h
    cases hk : o.key.eqb t with
    | false => rw [hk] at h; cases h
    | true =>
      rw [hk] at h
      exact ⟨o.cut, fun R K => by simp only [elim]; rw [Xt.eqb_ok hk, takeS_ok h]⟩
  | o :: o2 :: os, x, h => by
    simp only [inj] at h
    cases hk : o.key.eqb t with
    | false =>
      rw [hk] at h
      simp only [cond_false] at h
      split at h
      · rename_i y hy
        obtain rfl := Option.some.inj h
        obtain ⟨c, hc⟩ := elim_inj (os := o2 :: os) hy
        exact ⟨c, fun R K => hc R K⟩
      · cases h
    | true =>
      rw [hk] at h
      simp only [cond_true] at h
      split at h
      · rename_i d hd
        obtain rfl := Option.some.inj h
        exact ⟨o.cut, fun R K => by simp only [elim]; rw [Xt.eqb_ok hk, takeS_ok hd]⟩
      · cases h

/-- The first region's number; 1000000 where there is none. -/
def firstId : Code → Nat
  | .region id _ _ => id
  | .seq a b => bif firstId a == 1000000 then firstId b else firstId a
  | .cond _ a b => bif firstId a == 1000000 then firstId b else firstId a
  | .block _ c => firstId c
  | .loop c => firstId c
  | _ => 1000000

/-- One round of a loop has ended. -/
def roundK (off : Nat) (lp : Lp) (t : Xt) (E : Env) : Option (DS lp.sh ⊕ Xo lp.outs) :=
  match t with
  | .normal => match takeS lp.sh (lp.hd.app off E) with | some d => some (.inl d) | none => none
  | .exit id => match inj off lp.outs (.exit id) E with | some x => some (.inr x) | none => none
  | .ret => match inj off lp.outs .ret E with | some x => some (.inr x) | none => none

noncomputable def denK (cx : Cx) (rc : Rc) (pl : Plan) (off : Nat) : Code → {R : Type} → Env → (Xt → Env → Option R) → Option R
  | .skip, _, E, K => K .normal E
  | .label _, _, E, K => K .normal E
  | .region _ ops draw, _, E, K => regionK cx rc off ops draw E (K .normal)
  | .seq a b, _, E, K =>
    match lookup pl.seqs (firstId b) with
    | none => denK cx rc pl off a E fun x E' => match x with | .normal => denK cx rc pl off b E' K | .exit id => K (.exit id) E' | .ret => K .ret E'
    | some os => (denK cx rc pl off a (R := Xo os) E fun x E' => inj off os x E').bind fun x => elim os x fun x E' => match x with | .normal => denK cx rc pl off b E' K | .exit id => K (.exit id) E' | .ret => K .ret E'
  | .cond c a b, _, E, K =>
    match rd E (opd E off c).s with
    | some ⟨.bool, v⟩ => bif v then denK cx rc pl off a E K else denK cx rc pl off b E K
    | _ => none
  | .block id c, _, E, K => denK cx rc pl off c E fun x E' => match x with | .normal => K .normal E' | .exit id' => bif id' == id then K .normal E' else K (.exit id') E' | .ret => K .ret E'
  | .loop c, _, E, K =>
    match lookup pl.loops (firstId c) with
    | none => none
    | some lp =>
      match takeS lp.sh (lp.hd.app off E) with
      | none => none
      | some d => (fix lp.B d).bind fun x => elim lp.outs x K
  | .exit id, _, E, K => K (.exit id) E
  | .ret, _, E, K => K .ret E
  | _, _, _, _ => none

/-- What is said of a loop's round holds. -/
def LpOk (cx : Cx) (rc : Rc) (pl : Plan) (off : Nat) (c : Code) (lp : Lp) : Prop := ∀ d z, lp.B d = some z → denK cx rc pl off c (fillS lp.sh d) (roundK off lp) = some z

def LoopsOk (cx : Cx) (rc : Rc) (pl : Plan) (off : Nat) : Code → Prop
  | .seq a b => LoopsOk cx rc pl off a ∧ LoopsOk cx rc pl off b
  | .cond _ a b => LoopsOk cx rc pl off a ∧ LoopsOk cx rc pl off b
  | .block _ c => LoopsOk cx rc pl off c
  | .loop c => LoopsOk cx rc pl off c ∧ match lookup pl.loops (firstId c) with | some lp => LpOk cx rc pl off c lp | none => True
  | _ => True

section
variable {w0 : World} {Pr0 M : Nat → Prop} {outer : List Value} {ds : List Deferred}
variable {P : Program} {cx : Cx} {pl : Plan} {rc : Rc}

theorem Sx.cut {E : Env} {a : Act} {w : World} {c : Cut} {off : Nat} (h : Sx w0 Pr0 M outer ds E a w) : Sx w0 Pr0 M outer ds (c.app off E) a w := ⟨h.st.cut, h.ds⟩
theorem denK_ok (hok : Ok P cx rc w0 Pr0 M) (hn : RcNat rc) : ∀ (c : Code), LoopsOk cx rc pl outer.length c → ∀ {R : Type} {r : R} {E : Env} {a : Act} {w : World} {K : Xt → Env → Option R} {Q : Exit → Act → World → Prop},
    denK cx rc pl outer.length c E K = some r → Sx w0 Pr0 M outer ds E a w → (∀ x E' a' w', K x E' = some r → Sx w0 Pr0 M outer ds E' a' w' → Q x.to a' w') → c.wp P Q a w := by
  intro c
  induction c with
  | skip => intro hlo R r E a w K Q h hx hK; exact wp_skip (hK .normal E a w h hx)
  | label l => intro hlo R r E a w K Q h hx hK; exact wp_label (hK .normal E a w h hx)
  | exit id => intro hlo R r E a w K Q h hx hK; exact wp_exit (hK (.exit id) E a w h hx)
  | ret => intro hlo R r E a w K Q h hx hK; exact wp_ret (hK .ret E a w h hx)
  | goto l => intro hlo R r E a w K Q h hx hK; cases h
  | refuse s => intro hlo R r E a w K Q h hx hK; cases h
  | rangeFunc f p a b iha ihb => intro hlo R r E a w K Q h hx hK; cases h
  | scope c ih => intro hlo R r E a w K Q h hx hK; cases h
  | region id ops draw => intro hlo R r E a w K Q h hx hK; exact regionK_ok hok hn h hx fun E' a' w' hk hx' => hK .normal E' a' w' hk hx'
  | seq x y ihx ihy =>
    intro hlo R r E a w K Q h hx hK
    simp only [denK] at h
    refine wp_seq ?_
    split at h
    · refine ihx hlo.1 h hx fun t E' a' w' hk hx' => ?_
      cases t with
      | normal => exact ihy hlo.2 hk hx' hK
      | exit id => exact hK (.exit id) E' a' w' hk hx'
      | ret => exact hK .ret E' a' w' hk hx'
    · rename_i os hc
      rw [Option.bind_eq_some_iff] at h
      obtain ⟨q, h1, h2⟩ := h
      refine ihx hlo.1 h1 hx fun t E' a' w' hk hx' => ?_
      obtain ⟨c, hc⟩ := elim_inj hk
      rw [hc] at h2
      cases t with
      | normal => exact ihy hlo.2 h2 hx'.cut hK
      | exit id => exact hK (.exit id) _ a' w' h2 hx'.cut
      | ret => exact hK .ret _ a' w' h2 hx'.cut
  | cond c x y ihx ihy =>
    intro hlo R r E a w K Q h hx hK
    simp only [denK] at h
    split at h
    · rename_i v hr
      obtain ⟨⟨Pr, B, hst, hN⟩, hds⟩ := id hx
      have hv := rd_bool hst (opd_ok hst hx.fr c) hr
      cases v with
      | true => exact wp_cond_true hv (ihx hlo.1 h hx hK)
      | false => exact wp_cond_false hv (ihy hlo.2 h hx hK)
    · cases h
  | block id c ih =>
    intro hlo R r E a w K Q h hx hK
    simp only [denK] at h
    refine wp_block (ih hlo h hx fun t E' a' w' hk hx' => ?_)
    cases t with
    | normal => exact hK .normal E' a' w' hk hx'
    | ret => exact hK .ret E' a' w' hk hx'
    | exit id' =>
      simp only [Xt.to, Exit.inBlock]
      cases hid : id' == id with
      | true =>
        simp only [hid, cond_true] at hk
        rw [if_pos (by simpa using hid)]
        exact hK .normal E' a' w' hk hx'
      | false =>
        simp only [hid, cond_false] at hk
        rw [if_neg (by simpa using hid)]
        exact hK (.exit id') E' a' w' hk hx'
  | loop c ih =>
    intro hlo R r E a w K Q h hx hK
    simp only [denK] at h
    split at h
    · cases h
    · rename_i lp hl
      obtain ⟨hlo1, hlp⟩ := hlo
      rw [hl] at hlp
      simp only at hlp
      split at h
      · cases h
      · rename_i d hd
        rw [Option.bind_eq_some_iff] at h
        obtain ⟨q, h1, h2⟩ := h
        obtain ⟨n, h1⟩ := fix_eq_some.1 h1
        have key : ∀ (n : Nat) (d : DS lp.sh) (a : Act) (w : World), iter lp.B n d = some q →
            Sx w0 Pr0 M outer ds (fillS lp.sh d) a w → ∀ (b : Frame) (k : List Item) (cs : List Frame), ∃ e a' w', Q e a' w' ∧ Arrives P (lone (b.at a (.code c :: .inLoop c :: k)) cs w) b k cs e a' w' := by
          intro n
          induction n with
          | zero => intro d a w hi; simp [iter] at hi
          | succ n ihn =>
            intro d a w hi hx b k cs
            simp only [iter] at hi
            cases hb : lp.B d with
            | none => rw [hb] at hi; cases hi
            | some z =>
              rw [hb] at hi
              have hden := hlp d z hb
              have hwp : c.wp P (Exit.then (fun a' w' => ∃ d', iter lp.B n d' = some q ∧ Sx w0 Pr0 M outer ds (fillS lp.sh d') a' w') Q) a w := by
                refine ih hlo1 hden hx fun t E' a' w' hk hx' => ?_
                cases t with
                | normal =>
                  simp only [roundK] at hk
                  split at hk
                  · rename_i d' hd'
                    obtain rfl := Option.some.inj hk
                    exact ⟨d', hi, by rw [takeS_ok hd']; exact hx'.cut⟩
                  · cases hk
                | exit id =>
                  simp only [roundK] at hk
                  split at hk
                  · rename_i x hx2
                    obtain rfl := Option.some.inj hk
                    simp only [Option.some.injEq] at hi
                    subst hi
                    obtain ⟨c2, hc2⟩ := elim_inj hx2
                    rw [hc2] at h2
                    exact hK (.exit id) _ a' w' h2 hx'.cut
                  · cases hk
                | ret =>
                  simp only [roundK] at hk
                  split at hk
                  · rename_i x hx2
                    obtain rfl := Option.some.inj hk
                    simp only [Option.some.injEq] at hi
                    subst hi
                    obtain ⟨c2, hc2⟩ := elim_inj hx2
                    rw [hc2] at h2
                    exact hK .ret _ a' w' h2 hx'.cut
                  · cases hk
              obtain ⟨e, a₁, w₁, hq, harr⟩ := hwp b (.inLoop c :: k) cs
              cases e with
              | normal =>
                obtain ⟨E', h3, h4⟩ := hq
                obtain ⟨e₂, a₂, w₂, hq₂, harr₂⟩ := ihn E' a₁ w₁ h3 h4 b k cs
                exact ⟨e₂, a₂, w₂, hq₂, .of_steps (Steps.trans harr (.one step_inLoop)) harr₂⟩
              | exit id => exact ⟨_, a₁, w₁, hq, .pass (x := .inLoop c) rfl (fun _ _ => .inl (by simp)) harr⟩
              | goto l => exact ⟨_, a₁, w₁, hq, .pass (x := .inLoop c) rfl (fun _ _ => .inl (by simp)) harr⟩
              | ret => exact ⟨_, a₁, w₁, hq, .pass (x := .inLoop c) rfl (fun _ _ => .inl (by simp)) harr⟩
              | panic ch => exact ⟨_, a₁, w₁, hq, .pass (x := .inLoop c) rfl (fun _ _ => .inl (by simp)) harr⟩
              | outgrown => exact ⟨_, a₁, w₁, hq, .pass (x := .inLoop c) rfl (fun _ _ => .inl (by simp)) harr⟩
        intro b k cs
        obtain ⟨e, a', w', hq, harr⟩ := key n d a w h1 (by rw [takeS_ok hd]; exact hx.cut) b k cs
        exact ⟨e, a', w', hq, .of_steps (.one step_loop) harr⟩

end

/-! ### naturality -/
section
variable {cx : Cx} {pl : Plan} {rc : Rc} {off : Nat}

theorem opsK_bind (hn : RcNat rc) {l : List Oper} {R : Type} {K : Env → Option R} : ∀ {os : List Oper} {E : Env}, opsK cx rc off l os E K = (opsK cx rc off l os E some).bind K
  | [], E => rfl
  | o :: os, E => by
    simp only [opsK]
    rw [guardK_eq, guardK_eq]
    cases gd E off l o with
    | none => rfl
    | some b =>
      cases b with
      | true =>
        simp only
        rw [opK_bind hn, opK_bind hn (K := fun z => opsK cx rc off l os (putE off o.dst z) some), Option.bind_assoc]
        congr 1
        funext z
        exact opsK_bind hn
      | false => exact opsK_bind hn

theorem opsD_bind (hn : RcNat rc) {l : List Oper} {R : Type} {K : Env → Option R} : ∀ {os : List Oper} {i : Nat} {E : Env} {fs : List Ft}, opsD cx rc off l os i E fs K = (opsD cx rc off l os i E fs some).bind K
  | [], i, E, fs => by
    simp only [opsD]
    rw [cond_bind]; rfl
  | o :: os, i, E, fs => by
    simp only [opsD]
    rw [guardK_eq, guardK_eq]
    cases gd E off l o with
    | none => rfl
    | some b =>
      cases b with
      | true =>
        simp only
        rw [opK_bind hn, opK_bind hn (K := fun z => opsD cx rc off l os (i + 1) (putE off o.dst z) _ some), Option.bind_assoc]
        congr 1
        funext z
        exact opsD_bind hn
      | false => exact opsD_bind hn

theorem regionK_bind (hn : RcNat rc) {R : Type} {K : Env → Option R} {ops : Array Oper} {draw : Bool} {E : Env} : regionK cx rc off ops draw E K = (regionK cx rc off ops draw E some).bind K := by
  cases draw with
  | false => exact opsK_bind hn
  | true =>
    simp only [regionK]
    rw [cond_bind]
    congr 1
    exact opsD_bind hn

theorem elim_bind {R : Type} : ∀ {os : List Out} {x : Xo os} {K : Xt → Env → Option R}, elim os x K = (elim os x fun x E => some (x, E)).bind fun q => K q.1 q.2
  | [], x, _ => rfl
  | [o], _, _ => rfl
  | o :: o2 :: os, x, K => by
    cases x with
    | inl d => rfl
    | inr y => exact elim_bind (os := o2 :: os) (x := y)

theorem denK_bind (hn : RcNat rc) : ∀ (c : Code) {R : Type} {E : Env} {K : Xt → Env → Option R}, denK cx rc pl off c E K = (denK cx rc pl off c E fun x E => some (x, E)).bind fun q => K q.1 q.2 := by
  intro c
  induction c with
  | skip => intro R E K; rfl
  | label l => intro R E K; rfl
  | exit id => intro R E K; rfl
  | ret => intro R E K; rfl
  | goto l => intro R E K; rfl
  | refuse s => intro R E K; rfl
  | rangeFunc f p a b iha ihb => intro R E K; rfl
  | scope c ih => intro R E K; rfl
  | region id ops draw =>
    intro R E K
    simp only [denK]
    rw [regionK_bind hn, regionK_bind hn (K := fun E => some (Xt.normal, E)), Option.bind_assoc]
    rfl
  | seq x y ihx ihy =>
    intro R E K
    simp only [denK]
    cases lookup pl.seqs (firstId y) with
    | none =>
      simp only
      rw [ihx, ihx (K := fun x E' => match x with | .normal => denK cx rc pl off y E' (fun x E => some (x, E)) | .exit id => some (.exit id, E') | .ret => some (.ret, E')), Option.bind_assoc]
      congr 1
      funext q
      obtain ⟨t, E'⟩ := q
      cases t with
      | normal => exact ihy
      | exit id => rfl
      | ret => rfl
    | some os =>
      simp only
      rw [Option.bind_assoc]
      congr 1
      funext x
      rw [elim_bind (K := fun x E' => match x with | .normal => denK cx rc pl off y E' K | .exit id => K (.exit id) E' | .ret => K .ret E')]
      rw [elim_bind (K := fun x E' => match x with | .normal => denK cx rc pl off y E' (fun x E => some (x, E)) | .exit id => some (Xt.exit id, E') | .ret => some (Xt.ret, E'))]
      rw [Option.bind_assoc]
      congr 1
      funext q
      obtain ⟨t, E'⟩ := q
      cases t with
      | normal => exact ihy
      | exit id => rfl
      | ret => rfl
  | cond c x y ihx ihy =>
    intro R E K
    simp only [denK]
    split
    · rw [cond_bind, ihx, ihy]
    · rfl
  | block id c ih =>
    intro R E K
    simp only [denK]
    rw [ih, ih (R := Xt × Env) (K := fun x E' => match x with | .normal => some (Xt.normal, E') | .exit id' => bif id' == id then some (Xt.normal, E') else some (Xt.exit id', E') | .ret => some (Xt.ret, E')), Option.bind_assoc]
    congr 1
    funext q
    obtain ⟨t, E'⟩ := q
    cases t with
    | normal => rfl
    | exit id' => simp only; rw [cond_bind]; rfl
    | ret => rfl
  | loop c ih =>
    intro R E K
    simp only [denK]
    cases lookup pl.loops (firstId c) with
    | none => rfl
    | some lp =>
      simp only
      cases takeS lp.sh (lp.hd.app off E) with
      | none => rfl
      | some d =>
        simp only
        rw [Option.bind_assoc]
        congr 1
        funext x
        exact elim_bind

end

/-- Calls in place, of functions of level below 'n'. -/
noncomputable def rcN (cx : Cx) : Nat → Rc
  | 0 => ⟨fun _ _ _ _ _ _ => none⟩
  | n + 1 => ⟨fun R pl c off E K => bif pl.lv == n then (bif pl.off == off then denK cx (rcN cx n) pl off c E K else none) else (rcN cx n).run R pl c off E K⟩

theorem rcN_nat (cx : Cx) : ∀ n, RcNat (rcN cx n)
  | 0 => fun _ _ _ _ _ _ => rfl
  | n + 1 => fun R pl c off E K => by
    simp only [rcN]
    cases pl.lv == n with
    | true =>
      simp only [cond_true]
      rw [cond_bind]
      cases pl.off == off with
      | true => exact denK_bind (rcN_nat cx n) c
      | false => rfl
    | false => exact rcN_nat cx n R pl c off E K

/-- All but calls in place. -/
structure Ok0 (P : Program) (cx : Cx) : Prop where
  tab : TabOk P cx.tab
  arr : ArrOk P cx
  cts : CtsOk P cx
  fns : FuncsOk P cx
  loops : ∀ k f pl c, lookup cx.funcs k = some (f, pl) → f.body = some c → LoopsOk cx (rcN cx pl.lv) pl pl.off c
  mix : P.follows .mixedOrders = true

theorem rcN_ok {P : Program} {cx : Cx} (h : Ok0 P cx) : ∀ n, RcOk P cx (rcN cx n)
  | 0 => by
    intro w0 Pr0 M outer ds R pl c r E a w K Q _ _ hs
    cases hs
  | n + 1 => by
    intro w0 Pr0 M outer ds R pl c r E a w K Q hgl hf hs hx hK
    simp only [rcN] at hs
    cases hl : pl.lv == n with
    | true =>
      rw [hl] at hs
      simp only [cond_true] at hs
      obtain ⟨k, f, h1, h2⟩ := hf
      have := h.loops k f pl c h1 h2
      cases ho : pl.off == outer.length with
      | false => rw [ho] at hs; cases hs
      | true =>
        rw [ho] at hs
        rw [show pl.lv = n by simpa using hl, show pl.off = outer.length by simpa using ho] at this
        exact denK_ok ⟨h.tab, h.arr, h.cts, h.fns, rcN_ok h n, h.mix, hgl⟩ (rcN_nat cx n) c this hs hx hK
    | false =>
      rw [hl] at hs
      exact rcN_ok h n w0 Pr0 M outer ds R pl c r E a w K Q hgl hf hs hx hK

theorem Ok0.ok {P : Program} {cx : Cx} (h : Ok0 P cx) (n : Nat) {w0 : World} {Pr0 M : Nat → Prop} (hgl : GlOk cx.gl w0 Pr0 M) : Ok P cx (rcN cx n) w0 Pr0 M := ⟨h.tab, h.arr, h.cts, h.fns, rcN_ok h n, h.mix, hgl⟩

end Go.Dn
