/- Taking a value into the hand. -/
import Derived.Test.YtegfhigkmghmjaaDoorDg
namespace Go.Dn

section
variable {w0 : World} {Pr0 M : Nat → Prop} {E E' : Env} {V V' : List Value} {w w' : World} {Pr Pr' : Nat → Prop} {B B' : Nat → List Nat}

theorem ValOk.nowns {v : Value} {t : Ty} {o : Ow} {x : PV t} {bs : List Nat} (ho : owns t o = false) (h : ValOk w Pr v t o x bs) : ValOk w Pr v t .b x [] := by
  obtain ⟨cs, h1, h2⟩ := h
  have := h2.nowns ho
  subst this
  exact ⟨cs, h1, h2.lend.more (fun k hk => hk.elim id (fun m => by cases m))⟩

/-- What slot k owns goes into the hand (at N), and another slot's content comes in its place. -/
def swap (B : Nat → List Nat) (N k : Nat) (b1 b2 : List Nat) : Nat → List Nat := fun j => if j = N then b1 else if j = k then b2 else B j

theorem StB.part (h : StB w0 Pr0 M E V w Pr B) {N k : Nat} (hN : E.length ≤ N) (hB : B N = []) {e e' : Ent} {v : Value} (he : E[k]? = some e) (hv : V[k]? = some v) {b1 b2 : List Nat}
    (hp : (B k).Perm (b1 ++ b2)) (hb : Bump w w e e' v v) (hs : SlotOk w Pr (E.set k e') V (swap B N k b1 b2) k e'.s v) : StB w0 Pr0 M (E.set k e') V w Pr (swap B N k b1 b2) := by
  have hk := (List.getElem?_eq_some_iff.1 he).1
  have hkN : k ≠ N := by omega
  have hn := hp.nodup_iff.1 (h.nodup k)
  refine h.pool (fun j => j = k ∨ j = N) (by simp [h.len]) (by simp) (fun j hj => ?_) (fun j f u hj hf hu => ?_) (fun j hj b hbb => ?_) (fun _ h => h) (fun _ h => .inl h)
    (fun j hj => ?_) (fun i j hi hj hne b hbi hbj => ?_) (fun _ _ _ => rfl) rfl rfl rfl (Nat.le_refl _)
  · have h1 : j ≠ k := fun e => hj (.inl e)
    have h2 : j ≠ N := fun e => hj (.inr e)
    exact ⟨List.getElem?_set_ne (Ne.symm h1), rfl, by simp [swap, h1, h2]⟩
  · rcases hj with rfl | rfl
    · rw [he] at hf; rw [hv] at hu
      obtain rfl := Option.some.inj hf
      obtain rfl := Option.some.inj hu
      exact ⟨e', v, List.getElem?_set_self hk, hv, hs, hb⟩
    · have := (List.getElem?_eq_some_iff.1 hf).1; omega
  · have hm : b ∈ B k := by
      rcases hj with rfl | rfl
      · simp only [swap, hkN, if_false, if_true] at hbb; exact hp.mem_iff.2 (List.mem_append_right _ hbb)
      · simp only [swap, if_true] at hbb; exact hp.mem_iff.2 (List.mem_append_left _ hbb)
    exact ⟨.inl ⟨k, .inl rfl, hm⟩, (h.free _ _ hm).2.2⟩
  · rcases hj with rfl | rfl
    · simp only [swap, hkN, if_false, if_true]; exact (List.nodup_append.1 hn).2.1
    · simp only [swap, if_true]; exact (List.nodup_append.1 hn).1
  · rcases hi with rfl | rfl <;> rcases hj with rfl | rfl
    · exact hne rfl
    · simp only [swap, hkN, if_false, if_true] at hbi hbj; exact notin_of_nodup_append hn hbj hbi
    · simp only [swap, hkN, if_false, if_true] at hbi hbj; exact notin_of_nodup_append hn hbi hbj
    · exact hne rfl

theorem swap_ne {N k j : Nat} {b1 b2 : List Nat} (h1 : j ≠ N) (h2 : j ≠ k) : swap B N k b1 b2 j = B j := by simp [swap, h1, h2]
theorem swap_N {N k : Nat} {b1 b2 : List Nat} : swap B N k b1 b2 N = b1 := by simp [swap]
theorem swap_k {N k : Nat} {b1 b2 : List Nat} (h : k ≠ N) : swap B N k b1 b2 k = b2 := by simp [swap, h]

/-- A root of which a part goes away. -/
theorem StB.dig (h : StB w0 Pr0 M E V w Pr B) {N j : Nat} (hN : E.length ≤ N) (hB : B N = []) {iV : Bool} {t : Ty} {o : Ow} {x : PV t} {p : List PE} {vj v : Value}
    (he : E[j]? = some (E.at j)) (hv : V[j]? = some vj) (hs : (E.at j).s = if iV then .var t o x else .val t o x) (hp : OkPath p t o x)
    (hf : RootFocus w Pr iV vj t o x (B j) p) {loc : Nat × Nat} (hl : locOf w iV t vj p = some loc) (hval : v = pack (getT p t) (readCells w loc.1 loc.2 (getT p t).size)) :
    ∃ B1, StB w0 Pr0 M (U.app E (.hol j (.hole iV t o x p))) V w Pr B1 ∧ ValOk w Pr v (getT p t) (getO p o) (get p t x) (B1 N) ∧ ∀ k, E.length ≤ k → k ≠ N → B1 k = B k := by
  have hj := (List.getElem?_eq_some_iff.1 he).1
  obtain ⟨b', off', cs', bs', bsR, f1, f2, f3, f4, f5, fL, f6⟩ := hf
  rw [hl] at f1
  obtain rfl := Option.some.inj f1
  have hjN : j ≠ N := by omega
  refine ⟨swap B N j bs' bsR, h.part hN hB he hv f4 (.inr (.inr ⟨rfl, rfl, rfl, iV, t, o, x, p, rfl, hs, fun q s _ _ l hl => hl⟩)) ?_, ?_, fun k hk hne => swap_ne hne (by omega)⟩
  · show HoleOk w Pr iV vj t o x p (swap B N j bs' bsR j)
    rw [swap_k hjN]
    exact ⟨b', off', cs', hl, f2, f3.length, f5, hp, fL, f6⟩
  · rw [swap_N]
    exact ⟨cs', by rw [hval]; simp only; rw [← f3.length, f2.read], f3⟩

theorem take_ok (h : StB w0 Pr0 M E V w Pr B) {N : Nat} (hN : E.length ≤ N) (hB : B N = []) {d : Opd} {v : Value} (ho : OpdOk w Pr E V d v) {tv : TV} {us : List U}
    (ht : take E d = some (tv, us)) :
    ∃ B1, StB w0 Pr0 M (appU E us) V w Pr B1 ∧ ValOk w Pr v tv.t tv.o tv.x (B1 N) ∧ (∀ k, E.length ≤ k → k ≠ N → B1 k = B k) ∧ (appU E us).length = E.length := by
  unfold take at ht
  split at ht
  · rename_i t o x hs
    cases hown : owns t o with
    | false =>
      rw [hown] at ht
      simp only [cond_false, Option.some.injEq, Prod.mk.injEq] at ht
      obtain ⟨rfl, rfl⟩ := ht
      refine ⟨B, h, ?_, fun _ _ _ => rfl, rfl⟩
      rw [hB]
      cases hix : d.ix with
      | none =>
        unfold OpdOk at ho
        rw [hix, hs] at ho
        exact ValOk.nowns hown ho
      | some k =>
        have hso := opdOk_tmp h ho hix
        rw [hs] at hso
        exact ValOk.nowns hown hso
    | true =>
      rw [hown] at ht
      simp only [cond_true] at ht
      split at ht
      · rename_i k hix
        simp only [Option.some.injEq, Prod.mk.injEq] at ht
        obtain ⟨rfl, rfl⟩ := ht
        unfold OpdOk at ho
        rw [hix, hs] at ho
        rcases ho with h0 | ⟨e, h1, h2, h3⟩
        · cases h0
        · have hso := h.slots k e v h1 h2
          rw [← h3] at hso
          have hk := (List.getElem?_eq_some_iff.1 h1).1
          have hkN : k ≠ N := by omega
          refine ⟨swap B N k (B k) [], ?_, ?_, fun i hi hne => swap_ne hne (by omega), by simp [appU, U.app]⟩
          · show StB w0 Pr0 M (E.set k _) V w Pr _
            refine h.part hN hB h1 h2 (by simp) (.inl ?_) trivial
            rw [at_of h1]; exact Nat.lt_succ_self _
          · rw [swap_N]; exact hso
      · rename_i hix
        simp only [Option.some.injEq, Prod.mk.injEq] at ht
        obtain ⟨rfl, rfl⟩ := ht
        unfold OpdOk at ho
        rw [hix, hs] at ho
        exact ⟨B, h, by rw [hB]; exact ho, fun _ _ _ => rfl, rfl⟩
  · rename_i a hs
    cases hok : a.okS E with
    | false => rw [hok] at ht; simp at ht
    | true =>
      rw [hok] at ht
      simp only [cond_true] at ht
      have hso : SubOk w E V a v := by
        cases hix : d.ix with
        | none => unfold OpdOk at ho; rw [hix, hs] at ho; exact ho.elim
        | some k => have := opdOk_tmp h ho hix; rw [hs] at this; exact this
      split at ht
      · rename_i t o x hroot
        obtain ⟨vj, g1, g2, g3, g4⟩ := alias_root (iV := false) h hso hok hroot
        cases hown : owns (getT a.p t) (getO a.p o) with
        | false =>
          rw [hown] at ht
          simp only [cond_false, Option.some.injEq, Prod.mk.injEq] at ht
          obtain ⟨rfl, rfl⟩ := ht
          refine ⟨B, h, ?_, fun _ _ _ => rfl, rfl⟩
          rw [hB]
          rcases g4 with ⟨_, hp, rfl⟩ | ⟨_, _, hf, loc, hl, hv⟩
          · have : ∀ p, p = [] → owns (getT p t) (getO p o) = false → ValOk w Pr v (getT p t) .b (get p t x) [] := by
              rintro p rfl ho
              exact ValOk.nowns ho (show ValOk _ _ _ _ _ _ _ from g3)
            exact this _ hp hown
          · obtain ⟨bs', bsR, p1, p2⟩ := hf.val hl hv
            exact ValOk.nowns hown p2
        | true =>
          rw [hown] at ht
          simp only [cond_true] at ht
          cases hn : isNil a.p with
          | true =>
            rw [hn] at ht
            simp only [cond_true, Option.some.injEq, Prod.mk.injEq] at ht
            obtain ⟨rfl, rfl⟩ := ht
            have hp : a.p = [] := by cases hap : a.p with | nil => rfl | cons _ _ => rw [hap] at hn; simp [isNil] at hn
            rcases g4 with ⟨_, _, rfl⟩ | ⟨hp', _⟩
            · have hj := (List.getElem?_eq_some_iff.1 g2).1
              have hjN : a.j ≠ N := by omega
              refine ⟨swap B N a.j (B a.j) [], ?_, ?_, fun i hi hne => swap_ne hne (by omega), by simp [appU, U.app]⟩
              · show StB w0 Pr0 M (E.set a.j _) V w Pr _
                exact h.part hN hB g2 g1 (by simp) (.inl (Nat.lt_succ_self _)) trivial
              · rw [swap_N]; exact g3
            · rcases hp' with hp' | hp'
              · exact absurd hp hp'
              · cases hp'
          | false =>
            rw [hn] at ht
            simp only [cond_false, Option.some.injEq, Prod.mk.injEq] at ht
            obtain ⟨rfl, rfl⟩ := ht
            rcases g4 with ⟨_, hp, _⟩ | ⟨_, hpath, hf, loc, hl, hv⟩
            · rw [hp] at hn; simp [isNil] at hn
            · obtain ⟨B1, q1, q2, q3⟩ := h.dig hN hB g2 g1 (iV := false) hroot hpath hf hl hv
              exact ⟨B1, q1, q2, q3, by simp [appU, U.app]⟩
      · rename_i t o x hroot
        obtain ⟨vj, g1, g2, g3, g4⟩ := alias_root (iV := true) h hso hok hroot
        rcases g4 with ⟨hbad, _⟩ | ⟨_, hpath, hf, loc, hl, hv⟩
        · cases hbad
        cases hown : owns (getT a.p t) (getO a.p o) with
        | false =>
          rw [hown] at ht
          simp only [cond_false, Option.some.injEq, Prod.mk.injEq] at ht
          obtain ⟨rfl, rfl⟩ := ht
          refine ⟨B, h, ?_, fun _ _ _ => rfl, rfl⟩
          rw [hB]
          obtain ⟨bs', bsR, p1, p2⟩ := hf.val hl hv
          exact ValOk.nowns hown p2
        | true =>
          rw [hown] at ht
          simp only [cond_true, Option.some.injEq, Prod.mk.injEq] at ht
          obtain ⟨rfl, rfl⟩ := ht
          obtain ⟨B1, q1, q2, q3⟩ := h.dig hN hB g2 g1 (iV := true) hroot hpath hf hl hv
          exact ⟨B1, q1, q2, q3, by simp [appU, U.app]⟩
      · cases ht
  · cases ht

end
end Go.Dn
