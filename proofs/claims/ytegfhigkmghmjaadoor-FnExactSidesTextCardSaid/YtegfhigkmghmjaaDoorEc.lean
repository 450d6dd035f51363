/- Functions: a contract out of the code. -/
import Derived.Test.YtegfhigkmghmjaaDoorEb
namespace Go.Dn

def outerE : (ps : List (Mode × Ty)) → PVs (ps.map (·.2)) → List Ent
  | [], _ => []
  | (.bor, _) :: ps, x => outerE ps x.2
  | (.own, _) :: ps, x => outerE ps x.2
  | (.mut, t) :: ps, x => ent (.val t (top t) x.1) :: outerE ps x.2
  | (.ptr, t) :: ps, x => ent (.var t (top t) x.1) :: outerE ps x.2

def parE : (j : Nat) → (ps : List (Mode × Ty)) → PVs (ps.map (·.2)) → List Ent
  | _, [], _ => []
  | j, (.bor, t) :: ps, x => ent (.val t .b x.1) :: parE j ps x.2
  | j, (.own, t) :: ps, x => ent (.val t (top t) x.1) :: parE j ps x.2
  | j, (.mut, _) :: ps, x => ent (.sub ⟨j, [], 0, 0⟩) :: parE (j + 1) ps x.2
  | j, (.ptr, _) :: ps, x => ent (.addr ⟨j, [], 0, 0⟩) :: parE (j + 1) ps x.2

def outN : List (Mode × Ty) → Nat
  | [] => 0
  | (m, _) :: ps => bif m.back then outN ps + 1 else outN ps

def initE (ps : List (Mode × Ty)) (x : PVs (ps.map (·.2))) (n : Nat) : Env := outerE ps x ++ (parE 0 ps x ++ List.replicate (n - ps.length) (ent .none))

def rvT : ResultVar → Nat
  | .tmp t => t
  | .cell t _ => t

def wkR (off : Nat) : List ResultVar → List (Ty × Bool) → List (Nat × Ow)
  | t :: ts, (_, own) :: rs => bif own then wkR off ts rs else (off + rvT t, .b) :: wkR off ts rs
  | _, _ => []

def takeV (cx : Cx) (E : Env) (off : Nat) : ResultVar → Option (TV × List U)
  | .tmp t => take E (opd E off (.tmp t))
  | .cell t tid =>
    match lookup cx.tab tid, (E.at (off + t)).s with
    | some ty, .var t' o x => bif t' == ty then some (⟨t', o, x⟩, [.new (off + t) .none]) else none
    | _, _ => none

def takeR (cx : Cx) (off : Nat) : Env → List ResultVar → (rs : List (Ty × Bool)) → Option (PVs (rs.map (·.1)) × Env)
  | E, [], [] => some ((), E)
  | E, t :: ts, (ty, own) :: rs =>
    match takeV cx E off t with
    | some (v, us) =>
      match castTy v.t ty v.x with
      | some y =>
        bif (bif own then full v.t v.o else !owns v.t v.o) then
          match takeR cx off (appU E us) ts rs with
          | some (z, E') => some ((y, z), E')
          | none => none
        else none
      | none => none
    | none => none
  | _, _, _ => none

def backsOf (E : Env) : Nat → (ps : List (Mode × Ty)) → Option (PVs (backs ps))
  | _, [] => some ()
  | j, (.bor, _) :: ps => backsOf E j ps
  | j, (.own, _) :: ps => backsOf E j ps
  | j, (.mut, t) :: ps =>
    match (E.at j).s with
    | .val t' o x =>
      match castTy t' t x, backsOf E (j + 1) ps with
      | some y, some r => bif full t' o then some (y, r) else none
      | _, _ => none
    | _ => none
  | j, (.ptr, t) :: ps =>
    match (E.at j).s with
    | .var t' o x =>
      match castTy t' t x, backsOf E (j + 1) ps with
      | some y, some r => bif full t' o then some (y, r) else none
      | _, _ => none
    | _ => none

def finishK (cx : Cx) (off : Nat) (ts : List ResultVar) (ps : List (Mode × Ty)) (rs : List (Ty × Bool)) (E : Env) : Option (PVs (rs.map (·.1)) × PVs (backs ps)) :=
  match takeR cx off (wkE (wkR off ts rs) E) ts rs with
  | some (r, E') =>
    match backsOf E' 0 ps with
    | some b => some (r, b)
    | none => none
  | none => none

noncomputable def denF (cx : Cx) (dp : Nat) (pl : Plan) (n : Nat) (c : Code) (ts : List ResultVar) (ps : List (Mode × Ty)) (rs : List (Ty × Bool)) (x : PVs (ps.map (·.2))) : Option (PVs (rs.map (·.1)) × PVs (backs ps)) :=
  denK cx (rcN cx dp) pl (outN ps) c (initE ps x n) fun t E =>
    match t with
    | .normal => finishK cx (outN ps) ts ps rs E
    | .ret => finishK cx (outN ps) ts ps rs E
    | .exit _ => none

/-! ### the begin -/
def outerV : List (Mode × Ty) → List Value → List Value
  | (m, _) :: ps, v :: vs => bif m.back then v :: outerV ps vs else outerV ps vs
  | _, _ => []
def outerB : List (Mode × Ty) → List (List Nat) → List (List Nat)
  | (m, _) :: ps, b :: bs => bif m.back then b :: outerB ps bs else outerB ps bs
  | _, _ => []
def parB : List (Mode × Ty) → List (List Nat) → List (List Nat)
  | (m, _) :: ps, b :: bs => (bif m.back then [] else b) :: parB ps bs
  | _, _ => []

section
variable {w : World} {Pr : Nat → Prop}

def ArgSlot (w : World) (Pr : Nat → Prop) (s : Slot) (v : Value) (bs : List Nat) : Prop := (∃ t o x, s = .val t o x ∧ ValOk w Pr v t o x bs) ∨ (∃ t o x, s = .var t o x ∧ VarOk w Pr v t o x bs)

theorem ArgSlot.ok {s : Slot} {v : Value} {bs : List Nat} (h : ArgSlot w Pr s v bs) {E : Env} {V : List Value} {B : Nat → List Nat} {k : Nat} (hB : B k = bs) : SlotOk w Pr E V B k s v := by
  subst hB
  rcases h with ⟨t, o, x, rfl, h⟩ | ⟨t, o, x, rfl, h⟩
  · exact h
  · exact h

theorem arg_len : ∀ {ps : List (Mode × Ty)} {vs : List Value} {x : PVs (ps.map (·.2))} {bss : List (List Nat)}, ArgsOk w Pr ps vs x bss →
    (outerE ps x).length = outN ps ∧ (outerV ps vs).length = outN ps ∧ (outerB ps bss).length = outN ps ∧ vs.length = ps.length ∧ (parB ps bss).length = ps.length ∧ ∀ j, (parE j ps x).length = ps.length
  | [], [], _, [], _ => ⟨rfl, rfl, rfl, rfl, rfl, fun _ => rfl⟩
  | (m, t) :: ps, v :: vs, x, b :: bss, h => by
    obtain ⟨i1, i2, i3, i5, i6, i7⟩ := arg_len h.2
    cases m <;> exact ⟨by simp [outerE, outN, Mode.back, i1], by simp [outerV, outN, Mode.back, i2], by simp [outerB, outN, Mode.back, i3], by simp [i5], by simp [parB, i6], fun j => by simp [parE, i7]⟩
  | [], [], _, _ :: _, h => by simp [ArgsOk] at h
  | [], _ :: _, _, _, h => by simp [ArgsOk] at h
  | _ :: _, [], _, _, h => by simp [ArgsOk] at h
  | _ :: _, _ :: _, _, [], h => by simp [ArgsOk] at h

theorem outer_ok : ∀ {ps : List (Mode × Ty)} {vs : List Value} {x : PVs (ps.map (·.2))} {bss : List (List Nat)}, ArgsOk w Pr ps vs x bss →
    ∀ (j : Nat) (e : Ent) (v : Value), (outerE ps x)[j]? = some e → (outerV ps vs)[j]? = some v → ArgSlot w Pr e.s v ((outerB ps bss).getD j [])
  | [], [], _, [], _, j, e, v, he, _ => by simp [outerE] at he
  | (m, t) :: ps, v :: vs, x, b :: bss, h, j, e, v', he, hv => by
    have ih := outer_ok h.2
    cases m with
    | bor => exact ih j e v' he hv
    | own => exact ih j e v' he hv
    | «mut» =>
      cases j with
      | zero =>
        simp only [outerE, List.getElem?_cons_zero, Option.some.injEq, outerV, Mode.back, cond_true] at he hv
        subst he; subst hv
        exact .inl ⟨t, _, _, rfl, h.1⟩
      | succ j => exact ih j e v' he hv
    | ptr =>
      cases j with
      | zero =>
        simp only [outerE, List.getElem?_cons_zero, Option.some.injEq, outerV, Mode.back, cond_true] at he hv
        subst he; subst hv
        exact .inr ⟨t, _, _, rfl, h.1⟩
      | succ j => exact ih j e v' he hv
  | [], [], _, _ :: _, h, _, _, _, _, _ => by simp [ArgsOk] at h
  | [], _ :: _, _, _, h, _, _, _, _, _ => by simp [ArgsOk] at h
  | _ :: _, [], _, _, h, _, _, _, _, _ => by simp [ArgsOk] at h
  | _ :: _, _ :: _, _, [], h, _, _, _, _, _ => by simp [ArgsOk] at h

def ParSlot (w : World) (Pr : Nat → Prop) (Eo : List Ent) (Vo : List Value) (j0 : Nat) (s : Slot) (v : Value) (bs : List Nat) : Prop :=
  ArgSlot w Pr s v bs ∨ (bs = [] ∧ ∃ j, Vo[j]? = some v ∧ ((s = .sub ⟨j0 + j, [], 0, 0⟩ ∧ ∃ t o x, Eo[j]? = some (ent (.val t o x))) ∨ (s = .addr ⟨j0 + j, [], 0, 0⟩ ∧ ∃ t o x, Eo[j]? = some (ent (.var t o x)))))

theorem ParSlot.succ {Eo : List Ent} {Vo : List Value} {j0 : Nat} {s : Slot} {v : Value} {bs : List Nat} {e0 : Ent} {v0 : Value} (h : ParSlot w Pr Eo Vo (j0 + 1) s v bs) : ParSlot w Pr (e0 :: Eo) (v0 :: Vo) j0 s v bs := by
  rcases h with h | ⟨hb, j, hv, h⟩
  · exact .inl h
  · refine .inr ⟨hb, j + 1, hv, ?_⟩
    have : j0 + 1 + j = j0 + (j + 1) := by omega
    rw [← this]
    exact h

theorem par_ok : ∀ {ps : List (Mode × Ty)} {vs : List Value} {x : PVs (ps.map (·.2))} {bss : List (List Nat)} (j0 : Nat), ArgsOk w Pr ps vs x bss →
    ∀ (i : Nat) (e : Ent) (v : Value), (parE j0 ps x)[i]? = some e → vs[i]? = some v → ParSlot w Pr (outerE ps x) (outerV ps vs) j0 e.s v ((parB ps bss).getD i [])
  | [], [], _, [], _, _, i, e, v, he, _ => by simp [parE] at he
  | (m, t) :: ps, v :: vs, x, b :: bss, j0, h, i, e, v', he, hv => by
    cases m with
    | bor =>
      cases i with
      | zero =>
        simp only [parE, List.getElem?_cons_zero, Option.some.injEq] at he hv
        subst he; subst hv
        obtain ⟨⟨h1, rfl⟩, _⟩ := h
        exact .inl (.inl ⟨t, _, _, rfl, h1⟩)
      | succ i => exact par_ok j0 h.2 i e v' he hv
    | own =>
      cases i with
      | zero =>
        simp only [parE, List.getElem?_cons_zero, Option.some.injEq] at he hv
        subst he; subst hv
        exact .inl (.inl ⟨t, _, _, rfl, h.1⟩)
      | succ i => exact par_ok j0 h.2 i e v' he hv
    | «mut» =>
      cases i with
      | zero =>
        simp only [parE, List.getElem?_cons_zero, Option.some.injEq] at he hv
        subst he; subst hv
        exact .inr ⟨rfl, 0, rfl, .inl ⟨rfl, t, _, _, rfl⟩⟩
      | succ i => exact (par_ok (j0 + 1) h.2 i e v' he hv).succ
    | ptr =>
      cases i with
      | zero =>
        simp only [parE, List.getElem?_cons_zero, Option.some.injEq] at he hv
        subst he; subst hv
        exact .inr ⟨rfl, 0, rfl, .inr ⟨rfl, t, _, _, rfl⟩⟩
      | succ i => exact (par_ok (j0 + 1) h.2 i e v' he hv).succ
  | [], [], _, _ :: _, _, h, _, _, _, _, _ => by simp [ArgsOk] at h
  | [], _ :: _, _, _, _, h, _, _, _, _, _ => by simp [ArgsOk] at h
  | _ :: _, [], _, _, _, h, _, _, _, _, _ => by simp [ArgsOk] at h
  | _ :: _, _ :: _, _, [], _, h, _, _, _, _, _ => by simp [ArgsOk] at h

theorem blocks_perm : ∀ {ps : List (Mode × Ty)} {vs : List Value} {x : PVs (ps.map (·.2))} {bss : List (List Nat)}, ArgsOk w Pr ps vs x bss → bss.flatten.Perm ((outerB ps bss).flatten ++ (parB ps bss).flatten)
  | [], [], _, [], _ => List.Perm.refl _
  | (m, t) :: ps, v :: vs, x, b :: bss, h => by
    have ih := blocks_perm h.2
    cases m with
    | bor =>
      simp only [List.flatten_cons, outerB, parB, Mode.back, cond_false]
      refine (List.Perm.append_left b ih).trans ?_
      rw [← List.append_assoc, ← List.append_assoc]
      exact List.perm_append_comm.append_right _
    | own =>
      simp only [List.flatten_cons, outerB, parB, Mode.back, cond_false]
      refine (List.Perm.append_left b ih).trans ?_
      rw [← List.append_assoc, ← List.append_assoc]
      exact List.perm_append_comm.append_right _
    | «mut» =>
      simp only [List.flatten_cons, outerB, parB, Mode.back, cond_true, List.nil_append, List.append_assoc]
      exact List.Perm.append_left b ih
    | ptr =>
      simp only [List.flatten_cons, outerB, parB, Mode.back, cond_true, List.nil_append, List.append_assoc]
      exact List.Perm.append_left b ih
  | [], [], _, _ :: _, h => by simp [ArgsOk] at h
  | [], _ :: _, _, _, h => by simp [ArgsOk] at h
  | _ :: _, [], _, _, h => by simp [ArgsOk] at h
  | _ :: _, _ :: _, _, [], h => by simp [ArgsOk] at h

/-- Blocks out of a list of lists. -/
theorem getD_mem {l : List (List Nat)} {k b : Nat} (h : b ∈ l.getD k []) : b ∈ l.flatten := by
  rw [List.getD_eq_getElem?_getD] at h
  cases hk : l[k]? with
  | none => rw [hk] at h; simp at h
  | some x => rw [hk] at h; exact List.mem_flatten.2 ⟨x, List.mem_of_getElem? hk, h⟩

theorem getD_nodup : ∀ {l : List (List Nat)} {k : Nat}, l.flatten.Nodup → (l.getD k []).Nodup
  | [], _, _ => by simp
  | x :: l, 0, h => by simp only [List.flatten_cons, List.nodup_append] at h; exact h.1
  | x :: l, k + 1, h => by
    simp only [List.flatten_cons, List.nodup_append] at h
    exact getD_nodup (l := l) (k := k) h.2.1

theorem getD_disj : ∀ {l : List (List Nat)} {j k : Nat}, l.flatten.Nodup → j ≠ k → ∀ b ∈ l.getD j [], b ∉ l.getD k []
  | [], _, _, _, _, b, hb => by simp at hb
  | x :: l, 0, 0, _, hne, _, _ => absurd rfl hne
  | x :: l, 0, k + 1, h, _, b, hb => by
    simp only [List.flatten_cons, List.nodup_append] at h
    exact fun hk => h.2.2 b hb b (getD_mem (l := l) (k := k) hk) rfl
  | x :: l, j + 1, 0, h, _, b, hb => by
    simp only [List.flatten_cons, List.nodup_append] at h
    exact fun hk => h.2.2 b hk b (getD_mem (l := l) (k := j) hb) rfl
  | x :: l, j + 1, k + 1, h, hne, b, hb => by
    simp only [List.flatten_cons, List.nodup_append] at h
    exact getD_disj (l := l) (j := j) (k := k) h.2.1 (by omega) b hb

theorem getElem?_app {α : Type} {l1 l2 : List α} {k : Nat} {x : α} (h : (l1 ++ l2)[k]? = some x) : (k < l1.length ∧ l1[k]? = some x) ∨ (l1.length ≤ k ∧ l2[k - l1.length]? = some x) := by
  by_cases hk : k < l1.length
  · exact .inl ⟨hk, by rwa [List.getElem?_append_left hk] at h⟩
  · exact .inr ⟨by omega, by rwa [List.getElem?_append_right (by omega)] at h⟩

theorem getD_app {l1 l2 : List (List Nat)} {k : Nat} : (l1 ++ l2).getD k [] = if k < l1.length then l1.getD k [] else l2.getD (k - l1.length) [] := by
  simp only [List.getD_eq_getElem?_getD]
  split
  · rename_i h; rw [List.getElem?_append_left h]
  · rename_i h; rw [List.getElem?_append_right (by omega)]

theorem init_ok {ps : List (Mode × Ty)} {vs : List Value} {x : PVs (ps.map (·.2))} {bss : List (List Nat)} {n : Nat} (hpl : ∀ b, Pr b → b < w.heap.size) (h : ArgsOk w Pr ps vs x bss) (hnd : bss.flatten.Nodup)
    (hfr : ∀ b ∈ bss.flatten, ¬ Pr b ∧ b < w.heap.size) : St w Pr (fun b => b ∈ bss.flatten) (initE ps x n) (outerV ps vs ++ (vs ++ List.replicate (n - ps.length) undef)) w := by
  obtain ⟨l1, l2, l3, l4, l5, l6⟩ := arg_len h
  have hp := blocks_perm h
  have hnd2 : (outerB ps bss ++ parB ps bss).flatten.Nodup := by rw [List.flatten_append]; exact hp.nodup_iff.1 hnd
  have hmem : ∀ k b, b ∈ (outerB ps bss ++ parB ps bss).getD k [] → b ∈ bss.flatten := fun k b hb => hp.mem_iff.2 (by rw [← List.flatten_append]; exact getD_mem hb)
  refine ⟨Pr, fun k => (outerB ps bss ++ parB ps bss).getD k [], ?_, fun k hk => ?_⟩
  · refine { len := by simp [initE, l1, l2, l4, l6], pr0 := fun _ h => h, prlt := hpl, prnew := fun _ h => .inl h, slots := fun k e v he hv => ?_, nodup := fun k => getD_nodup hnd2, disj := fun j k hne b hb => getD_disj hnd2 hne b hb,
             free := fun k b hb => ⟨.inr (hmem k b hb), hfr b (hmem k b hb)⟩, os := rfl, tape := rfl, output := rfl, size := Nat.le_refl _, frame := fun _ _ _ => rfl }
    unfold initE at he
    rcases getElem?_app he with ⟨q1, q2⟩ | ⟨q1, q2⟩
    · rw [List.getElem?_append_left (by omega)] at hv
      refine (outer_ok h k e v q2 hv).ok ?_
      rw [getD_app, if_pos (by omega)]
    · rw [List.getElem?_append_right (by omega), l2, ← l1] at hv
      rcases getElem?_app q2 with ⟨p1, p2⟩ | ⟨p1, p2⟩
      · rw [List.getElem?_append_left (by rw [l6] at p1; omega)] at hv
        rcases par_ok 0 h _ e v p2 hv with hs | ⟨hb, j, hvj, hs⟩
        · refine hs.ok ?_
          rw [getD_app, if_neg (by omega), l3, l1]
        · have hj : j < (outerE ps x).length := by
            have := (List.getElem?_eq_some_iff.1 hvj).1
            omega
          have hV : (outerV ps vs ++ (vs ++ List.replicate (n - ps.length) undef))[j]? = some v := by rw [List.getElem?_append_left (by omega)]; exact hvj
          rcases hs with ⟨hs, t, o, y, hE⟩ | ⟨hs, t, o, y, hE⟩
          · rw [hs, Nat.zero_add]
            refine ⟨ent (.val t o y), v, ⟨?_, Nat.le_refl _, fun _ => Nat.le_refl _⟩, hV, fun _ => ⟨fun _ _ => rfl, fun _ hq => ?_⟩⟩
            · show (initE ps x n)[j]? = _
              unfold initE; rw [List.getElem?_append_left hj]; exact hE
            · rcases hq with hq | hq
              · exact absurd rfl hq
              · cases hq
          · rw [hs, Nat.zero_add]
            refine ⟨ent (.var t o y), v, ⟨?_, Nat.le_refl _, fun _ => Nat.le_refl _⟩, hV, fun _ => ⟨fun _ => rfl, fun hq => absurd rfl hq⟩⟩
            show (initE ps x n)[j]? = _
            unfold initE; rw [List.getElem?_append_left hj]; exact hE
      · rw [List.getElem?_replicate] at p2
        split at p2
        · obtain rfl := Option.some.inj p2; trivial
        · cases p2
  · simp only
    rw [getD_app]
    simp only [initE, List.length_append, List.length_replicate] at hk
    rw [if_neg (by omega), List.getD_eq_getElem?_getD, List.getElem?_eq_none (by rw [l6] at hk; omega)]
    rfl

/-! ### the end -/
section
variable {w0 : World} {Pr0 M : Nat → Prop} {outer : List Value} {E : Env} {V : List Value} {B : Nat → List Nat} {a : Act} {P : Program}

theorem getE_some {s : Slot} {j : Nat} (h : (E.at j).s = s) (hs : s ≠ .none) : E[j]? = some (E.at j) := by
  cases he : E[j]? with
  | none => unfold Env.at at h; rw [List.getD_eq_getElem?_getD, he] at h; exact absurd h.symm hs
  | some e => rw [at_of he]

/-- What a result is. -/
def ResV (P : Program) (a : Act) (w : World) (rv : ResultVar) (v : Value) : Prop :=
  match rv with
  | .tmp t => v = a.eval (.tmp t)
  | .cell t tid => ∃ ad, a.eval (.tmp t) = .pointer (some ad) ∧ (loadVar tid ad).run P w = .ok v w

theorem takeV_ok {cx : Cx} (htab : TabOk P cx.tab) (hf : Fr outer.length V a) (h : StB w0 Pr0 M E V w Pr B) {N : Nat} (hN : E.length ≤ N) (hB : B N = []) {rv : ResultVar} {tv : TV} {us : List U} (ht : takeV cx E outer.length rv = some (tv, us)) :
    ∃ B1 v, StB w0 Pr0 M (appU E us) V w Pr B1 ∧ ResV P a w rv v ∧ ValOk w Pr v tv.t tv.o tv.x (B1 N) ∧ (∀ k, E.length ≤ k → k ≠ N → B1 k = B k) ∧ (appU E us).length = E.length := by
  cases rv with
  | tmp t =>
    obtain ⟨B1, g1, g2, g3, g4⟩ := take_ok h hN hB (opd_ok h hf (.tmp t)) ht
    exact ⟨B1, _, g1, rfl, g2, g3, g4⟩
  | cell t tid =>
    simp only [takeV] at ht
    split at ht
    · rename_i ty t' o x hl hs
      cases hc : t' == ty with
      | false => rw [hc] at ht; cases ht
      | true =>
        rw [hc] at ht
        simp only [cond_true, Option.some.injEq, Prod.mk.injEq] at ht
        obtain ⟨rfl, rfl⟩ := ht
        have hty : t' = ty := by simpa using hc
        subst hty
        have he := getE_some (E := E) (j := outer.length + t) hs (by simp)
        have hk := (List.getElem?_eq_some_iff.1 he).1
        have hv := List.getElem?_eq_getElem (l := V) (i := outer.length + t) (by rw [← h.len]; exact hk)
        have hso := h.slots _ _ _ he hv
        rw [hs] at hso
        obtain ⟨b, cs, bs0, h1, h2, h3, h4⟩ := hso
        have hne : outer.length + t ≠ N := by omega
        refine ⟨swap B N (outer.length + t) bs0 [b], pack t' cs, ?_, ?_, ?_, fun k hk hne => swap_ne hne (by omega), by simp [appU, U.app]⟩
        · show StB w0 Pr0 M (E.set (outer.length + t) _) V w Pr _
          exact h.part hN hB he hv (h4.trans (List.perm_append_comm (l₁ := [b]))) (.inl (Nat.lt_succ_self _)) trivial
        · refine ⟨⟨b, 0, none⟩, ?_, run_loadVar_cells (tab_fact htab hl) (Cells.of_holds h2) h3.length⟩
          rw [eval_tmp hf hv, h1]
        · rw [swap_N]
          exact ⟨cs, rfl, h3⟩
    · cases ht

theorem takeR_ok {cx : Cx} (htab : TabOk P cx.tab) (hf : Fr outer.length V a) : ∀ {ts : List ResultVar} {rs : List (Ty × Bool)} {E : Env} {B : Nat → List Nat} {N : Nat} {z : PVs (rs.map (·.1))} {E' : Env}, StB w0 Pr0 M E V w Pr B → E.length ≤ N → (∀ k, N ≤ k → B k = []) →
    takeR cx outer.length E ts rs = some (z, E') →
    ∃ B' bv rv, StB w0 Pr0 M E' V w Pr B' ∧ E'.length = E.length ∧ (∀ k, E.length ≤ k → k < N → B' k = B k) ∧ AllL (ResV P a w) ts rv ∧ TupOk w Pr (retList rs z) rv bv ∧ bv.Nodup ∧ ∀ b ∈ bv, ∃ k, N ≤ k ∧ b ∈ B' k
  | [], [], E, B, N, z, E', h, hN, hB, ht => by
    simp only [takeR, Option.some.injEq, Prod.mk.injEq] at ht
    obtain ⟨_, rfl⟩ := ht
    exact ⟨B, [], [], h, rfl, fun _ _ _ => rfl, trivial, rfl, List.nodup_nil, fun b hb => by cases hb⟩
  | t :: ts, (ty, own) :: rs, E, B, N, z, E', h, hN, hB, ht => by
    simp only [takeR] at ht
    split at ht
    · rename_i v us hv
      split at ht
      · rename_i y hc
        cases hck : (bif own then full v.t v.o else !owns v.t v.o) with
        | false => rw [hck] at ht; cases ht
        | true =>
          rw [hck] at ht
          simp only [cond_true] at ht
          split at ht
          · rename_i z' E2 ht'
            simp only [Option.some.injEq, Prod.mk.injEq] at ht
            obtain ⟨rfl, rfl⟩ := ht
            obtain ⟨B1, u, g1, g0, g2, g3, g4⟩ := takeV_ok htab hf h hN (hB N (Nat.le_refl _)) hv
            obtain ⟨B', bv, rv, k1, k2, k3, k0, k4, k5, k6⟩ := takeR_ok htab hf (N := N + 1) g1 (by omega) (fun k hk => by rw [g3 k (by omega) (by omega)]; exact hB k (by omega)) ht'
            have hBN : B' N = B1 N := k3 N (by omega) (by omega)
            obtain ⟨T, O, X⟩ := v
            obtain ⟨hT, rfl⟩ := castTy_some hc
            simp only at hT hck g2
            subst hT
            refine ⟨B', B1 N ++ bv, u :: rv, k1, by omega, fun k hk hlt => by rw [k3 k (by omega) (by omega), g3 k hk (by omega)], ⟨g0, k0⟩, ⟨B1 N, bv, List.Perm.refl _, .inr ?_, k4⟩, ?_, fun b hb => ?_⟩
            · cases own with
              | true => exact ValOk.full hck g2
              | false =>
                have hno : owns T O = false := by simpa using hck
                have hb : B1 N = [] := by obtain ⟨cs, _, q2⟩ := g2; exact q2.nowns hno
                show ValOk w Pr _ T .b _ (B1 N)
                rw [hb]
                exact ValOk.nowns hno g2
            · refine List.nodup_append.2 ⟨g1.nodup N, k5, fun x hx y hy hxy => ?_⟩
              subst hxy
              obtain ⟨k, hk, hb⟩ := k6 x hy
              rw [← hBN] at hx
              exact k1.disj N k (by omega) x hx hb
            · rcases List.mem_append.1 hb with hb | hb
              · exact ⟨N, Nat.le_refl _, by rw [hBN]; exact hb⟩
              · obtain ⟨k, hk, hb⟩ := k6 b hb
                exact ⟨k, by omega, hb⟩
          · cases ht
      · cases ht
    · cases ht
  | [], _ :: _, _, _, _, _, _, _, _, _, ht => by simp [takeR] at ht
  | _ :: _, [], _, _, _, _, _, _, _, _, ht => by simp [takeR] at ht

def rvSem (a : Act) : ResultVar → Sem Value
  | .tmp t => pure (a.tmps.getD t undef)
  | .cell b t => do loadVar t (← asAddr (a.tmps.getD b undef))

theorem rvSem_ok {rv : ResultVar} {v : Value} (h : ResV P a w rv v) : (rvSem a rv).run P w = .ok v w := by
  cases rv with
  | tmp t => simp only [ResV, Act.eval] at h; subst h; rfl
  | cell b t =>
    obtain ⟨ad, e1, e2⟩ := h
    simp only [Act.eval] at e1
    simp only [rvSem, e1]
    simpa [asAddr] using e2

theorem results_list {fn : Func} {ts : List ResultVar} {vs : List Value} (h : fn.results = ts.toArray) {a : Act} {w : World} (hv : AllL (ResV P a w) ts vs) : (results fn a.tmps).run P w = .ok (retValue vs) w := by
  have key : ∀ {ts : List ResultVar} {vs : List Value}, AllL (ResV P a w) ts vs → (ts.mapM (rvSem a)).run P w = .ok vs w := by
    intro ts
    induction ts with
    | nil => intro vs hv; cases vs with
      | nil => rfl
      | cons => exact hv.elim
    | cons t ts ih =>
      intro vs hv
      cases vs with
      | nil => exact hv.elim
      | cons v vs =>
        rw [List.mapM_cons, Sem.run_bind, rvSem_ok hv.1]
        simp only [Result.andThen]
        rw [Sem.run_bind, ih hv.2]
        rfl
  have e : results fn a.tmps = (ts.toArray.mapM (rvSem a) >>= fun vs => pure (if h : vs.size = 1 then vs[0] else .tuple vs)) := by
    unfold results
    rw [h]
    rfl
  rw [e, List.mapM_toArray, Sem.run_bind, Sem.run_map, key hv]
  simp only [Result.andThen]
  match vs with
  | [] => simp [retValue]
  | [v] => simp [retValue]
  | _ :: _ :: _ => simp [retValue]

theorem backs_ok (h : StB w0 Pr0 M E V w Pr B) : ∀ {ps : List (Mode × Ty)} {vs : List Value} {j : Nat} {r : PVs (backs ps)}, vs.length = ps.length → (∀ i v, (outerV ps vs)[i]? = some v → V[j + i]? = some v) → backsOf E j ps = some r →
    ∃ bms, BacksOk w Pr ps vs r bms ∧ bms.flatten.Nodup ∧ ∀ b ∈ bms.flatten, ∃ k, j ≤ k ∧ k < j + outN ps ∧ b ∈ B k
  | [], [], _, r, _, _, _ => ⟨[], trivial, List.nodup_nil, fun b hb => by cases hb⟩
  | (m, t) :: ps, v :: vs, j, r, hl, hV, hb => by
    have hl' : vs.length = ps.length := by simpa using hl
    have root : ∀ {s : Slot}, (E.at j).s = s → s ≠ .none → V[j]? = some v → SlotOk w Pr E V B j s v := by
      intro s hs hne hv
      have := h.slots j _ v (getE_some hs hne) hv
      rwa [hs] at this
    have step : (∀ i u, (v :: outerV ps vs)[i]? = some u → V[j + i]? = some u) → V[j]? = some v ∧ ∀ i u, (outerV ps vs)[i]? = some u → V[j + 1 + i]? = some u := by
      intro q
      exact ⟨q 0 v rfl, fun i u hu => by have := q (i + 1) u hu; rwa [show j + 1 + i = j + (i + 1) by omega]⟩
    have comb : ∀ {bms : List (List Nat)}, bms.flatten.Nodup → (∀ b ∈ bms.flatten, ∃ k, j + 1 ≤ k ∧ k < j + 1 + outN ps ∧ b ∈ B k) →
        (B j :: bms).flatten.Nodup ∧ ∀ b ∈ (B j :: bms).flatten, ∃ k, j ≤ k ∧ k < j + (outN ps + 1) ∧ b ∈ B k := by
      intro bms h1 h2
      constructor
      · rw [List.flatten_cons]
        refine List.nodup_append.2 ⟨h.nodup j, h1, fun x hx y hy hxy => ?_⟩
        subst hxy
        obtain ⟨k, k1, k2, k3⟩ := h2 x hy
        exact h.disj j k (by omega) x hx k3
      · intro b hb
        rw [List.flatten_cons] at hb
        rcases List.mem_append.1 hb with hb | hb
        · exact ⟨j, Nat.le_refl _, by omega, hb⟩
        · obtain ⟨k, k1, k2, k3⟩ := h2 b hb
          exact ⟨k, by omega, by omega, k3⟩
    cases m with
    | bor =>
      obtain ⟨bms, h1, h2, h3⟩ := backs_ok h hl' hV hb
      exact ⟨[] :: bms, ⟨rfl, h1⟩, by simpa using h2, by simpa [outN, Mode.back] using h3⟩
    | own =>
      obtain ⟨bms, h1, h2, h3⟩ := backs_ok h hl' hV hb
      exact ⟨[] :: bms, ⟨rfl, h1⟩, by simpa using h2, by simpa [outN, Mode.back] using h3⟩
    | «mut» =>
      simp only [outerV, Mode.back, cond_true] at hV
      obtain ⟨hv, hV⟩ := step hV
      simp only [backsOf] at hb
      split at hb
      · rename_i t' o x hs
        split at hb
        · rename_i y r' hc hb'
          cases hf : full t' o with
          | false => rw [hf] at hb; cases hb
          | true =>
            rw [hf] at hb
            simp only [cond_true] at hb
            obtain rfl := Option.some.inj hb
            obtain ⟨rfl, rfl⟩ := castTy_some hc
            obtain ⟨bms, h1, h2, h3⟩ := backs_ok h hl' hV hb'
            have hso := root hs (by simp) hv
            exact ⟨B j :: bms, ⟨ValOk.full hf hso, h1⟩, (comb h2 h3).1, by simpa [outN, Mode.back] using (comb h2 h3).2⟩
        · cases hb
      · cases hb
    | ptr =>
      simp only [outerV, Mode.back, cond_true] at hV
      obtain ⟨hv, hV⟩ := step hV
      simp only [backsOf] at hb
      split at hb
      · rename_i t' o x hs
        split at hb
        · rename_i y r' hc hb'
          cases hf : full t' o with
          | false => rw [hf] at hb; cases hb
          | true =>
            rw [hf] at hb
            simp only [cond_true] at hb
            obtain rfl := Option.some.inj hb
            obtain ⟨rfl, rfl⟩ := castTy_some hc
            obtain ⟨bms, h1, h2, h3⟩ := backs_ok h hl' hV hb'
            have hso := root hs (by simp) hv
            exact ⟨B j :: bms, ⟨VarOk.full hf hso, h1⟩, (comb h2 h3).1, by simpa [outN, Mode.back] using (comb h2 h3).2⟩
        · cases hb
      · cases hb
  | [], _ :: _, _, _, hl, _, _ => by simp at hl
  | _ :: _, [], _, _, hl, _, _ => by simp at hl

theorem fnOk_of_den {cx : Cx} {pl : Plan} {k : FuncId} {fn : Func} {c : Code} {ts : List ResultVar} {ct : Ct} {dp : Nat} (hok : Ok0 P cx)
    (hf : P.funcs[k]? = some fn) (hb : fn.body = some c) (hn : (fn.name == "runtime.NumGoroutine") = false) (hres : fn.results = ts.toArray) (hunit : (ct.rets.all fun q => !q.1.isUnit) = true)
    (hlo : LoopsOk cx (rcN cx dp) pl (outN ct.pars) c) (hF : ∀ xs r, ct.F xs = some r → denF cx dp pl fn.ntmps c ts ct.pars ct.rets xs = some r) : FnOk cx.gl P k ct := by
  refine ⟨hunit, fun w Pr vs xs bss r hpl hargs hnd hfr hgo hgd hr => ⟨⟨fn, hf, by rw [hb]; rfl, hn⟩, ?_⟩⟩
  have hd := hF xs r hr
  obtain ⟨l1, l2, l3, l4, l5, l6⟩ := arg_len hargs
  refine calls_of_wp hf hb ?_
  have hst := init_ok (n := fn.ntmps) hpl hargs hnd hfr
  have hsx : Sx w Pr (fun b => b ∈ bss.flatten) (outerV ct.pars vs) [] (initE ct.pars xs fn.ntmps) { tmps := vs.toArray ++ Array.replicate (fn.ntmps - vs.toArray.size) undef, defers := [] } w := by
    refine ⟨?_, rfl⟩
    simp only [Array.toList_append, Array.toList_replicate, List.size_toArray, l4]
    exact hst
  unfold denF at hd
  rw [← l2] at hd
  have fin : ∀ (E' : Env) (a' : Act) (w' : World), finishK cx (outerV ct.pars vs).length ts ct.pars ct.rets E' = some r → Sx w Pr (fun b => b ∈ bss.flatten) (outerV ct.pars vs) [] E' a' w' →
      a'.defers = [] ∧ ∃ v, (results fn a'.tmps).run P w' = .ok v w' ∧ ∃ (rv : List Value) (Pr' : Nat → Prop) (bv : List Nat) (bms : List (List Nat)), Ending.returned v = .returned (retValue rv) ∧ TupOk w' Pr' (retList ct.rets r.1) rv bv ∧ BacksOk w' Pr' ct.pars vs r.2 bms ∧
      (bv ++ bms.flatten).Nodup ∧ (∀ b ∈ bv ++ bms.flatten, (b ∈ bss.flatten ∨ w.heap.size ≤ b) ∧ ¬ Pr' b ∧ b < w'.heap.size) ∧ (∀ b, Pr b → Pr' b) ∧
      (∀ b, Pr' b → Pr b ∨ (b ∈ bss.flatten ∨ w.heap.size ≤ b) ∧ b < w'.heap.size) ∧ w'.os = w.os ∧ w'.tape = w.tape ∧ w'.output = w.output ∧ w.heap.size ≤ w'.heap.size ∧
      (∀ b, b < w.heap.size → b ∉ bss.flatten → w'.heap[b]? = w.heap[b]?) := by
    intro E' a' w' hfin hx
    unfold finishK at hfin
    split at hfin
    · rename_i z E2 ht
      split at hfin
      · rename_i bk hbk
        obtain rfl := Option.some.inj hfin
        obtain ⟨Pr2, B2, h2, hN2⟩ := (hx.st.wkE (l := wkR (outerV ct.pars vs).length ts ct.rets))
        obtain ⟨B3, bv, rv, k1, k2, k3, k0, k4, k5, k6⟩ := takeR_ok hok.tab (hx.fr) h2 (Nat.le_refl _) hN2 ht
        obtain ⟨bms, m1, m2, m3⟩ := backs_ok k1 (j := 0) l4 (fun i v hv => by
          rw [Nat.zero_add, List.getElem?_append_left (List.getElem?_eq_some_iff.1 hv).1]; exact hv) hbk
        have hlt : outN ct.pars ≤ E2.length := by
          have := k1.len
          simp only [List.length_append] at this
          omega
        have hmem : ∀ b ∈ bv ++ bms.flatten, ∃ k, b ∈ B3 k := fun b hb => by
          rcases List.mem_append.1 hb with hb | hb
          · obtain ⟨k, _, h⟩ := k6 b hb; exact ⟨k, h⟩
          · obtain ⟨k, _, _, h⟩ := m3 b hb; exact ⟨k, h⟩
        refine ⟨hx.ds, _, results_list hres k0, rv, Pr2, bv, bms, rfl, k4, m1, ?_, fun b hb => ?_, k1.pr0, fun b hb => ?_, k1.os, k1.tape, k1.output, k1.size, fun b hb hnb => k1.frame b hb hnb⟩
        · refine List.nodup_append.2 ⟨k5, m2, fun x hx y hy hxy => ?_⟩
          subst hxy
          obtain ⟨k, q1, q2⟩ := k6 x hx
          obtain ⟨k', p1, p2, p3⟩ := m3 x hy
          exact k1.disj k k' (by omega) x q2 p3
        · obtain ⟨k, hk⟩ := hmem b hb
          obtain ⟨q1, q2, q3⟩ := k1.free k b hk
          exact ⟨q1.symm, q2, q3⟩
        · rcases k1.prnew b hb with q | q | q
          · exact .inl q
          · exact .inr ⟨.inr q, k1.prlt b hb⟩
          · exact .inr ⟨.inl q, k1.prlt b hb⟩
      · cases hfin
    · cases hfin
  refine denK_ok (hok.ok dp ⟨hgo, fun b hb => ⟨hgd b hb, hpl b (hgd b hb), fun hm => (hfr b hm).1 (hgd b hb)⟩⟩) (rcN_nat cx dp) c (by rw [l2]; exact hlo) hd hsx fun x E' a' w' hk hx => ?_
  cases x with
  | normal => exact fin E' a' w' hk hx
  | ret => exact fin E' a' w' hk hx
  | exit id => cases hk

end
end
end Go.Dn
