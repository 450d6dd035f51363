/- A function that asks whether a slice is nil: both answers lead to the same. -/
import Derived.Test.YtegfhigkmghmjaaDoorEd
import Derived.Laws.Cover3
namespace Go.Dn

section
variable {P : Program}

/-- How a function's code ends. -/
def finX (cx : Cx) (off : Nat) (ts : List ResultVar) (ps : List (Mode × Ty)) (rs : List (Ty × Bool)) (t : Xt) (E : Env) : Option (PVs (rs.map (·.1)) × PVs (backs ps)) :=
  match t with
  | .normal => finishK cx off ts ps rs E
  | .ret => finishK cx off ts ps rs E
  | .exit _ => none

theorem fnOk_of_wp {cx : Cx} {k : FuncId} {fn : Func} {c : Code} {ts : List ResultVar} {ct : Ct} (hok : Ok0 P cx)
    (hf : P.funcs[k]? = some fn) (hb : fn.body = some c) (hn : (fn.name == "runtime.NumGoroutine") = false) (hres : fn.results = ts.toArray) (hunit : (ct.rets.all fun q => !q.1.isUnit) = true)
    (hwp : ∀ {w0 : World} {Pr M : Nat → Prop} {outer : List Value} {a : Act} {w : World} {xs : PVs (ct.pars.map (·.2))} {r : PVs (ct.rets.map (·.1)) × PVs (backs ct.pars)} {Q : Exit → Act → World → Prop},
      GlOk cx.gl w0 Pr M → ct.F xs = some r → outer.length = outN ct.pars → Sx w0 Pr M outer [] (initE ct.pars xs fn.ntmps) a w → (∀ x E' a' w', finX cx (outN ct.pars) ts ct.pars ct.rets x E' = some r → Sx w0 Pr M outer [] E' a' w' → Q x.to a' w') → c.wp P Q a w) : FnOk cx.gl P k ct := by
  refine ⟨hunit, fun w Pr vs xs bss r hpl hargs hnd hfr hgo hgd hr => ⟨⟨fn, hf, by rw [hb]; rfl, hn⟩, ?_⟩⟩
  obtain ⟨l1, l2, l3, l4, l5, l6⟩ := arg_len hargs
  refine calls_of_wp hf hb ?_
  have hst := init_ok (n := fn.ntmps) hpl hargs hnd hfr
  have hsx : Sx w Pr (fun b => b ∈ bss.flatten) (outerV ct.pars vs) [] (initE ct.pars xs fn.ntmps) { tmps := vs.toArray ++ Array.replicate (fn.ntmps - vs.toArray.size) undef, defers := [] } w := by
    refine ⟨?_, rfl⟩
    simp only [Array.toList_append, Array.toList_replicate, List.size_toArray, l4]
    exact hst
  have fin : ∀ (E' : Env) (a' : Act) (w' : World), finishK cx (outerV ct.pars vs).length ts ct.pars ct.rets E' = some r → Sx w Pr (fun b => b ∈ bss.flatten) (outerV ct.pars vs) [] E' a' w' →
      a'.defers = [] ∧ ∃ v, (results fn a'.tmps).run P w' = .ok v w' ∧ ∃ (rv : List Value) (Pr' : Nat → Prop) (bv : List Nat) (bms : List (List Nat)), Ending.returned v = .returned (retValue rv) ∧ TupOk w' Pr' (retList ct.rets r.1) rv bv ∧ BacksOk w' Pr' ct.pars vs r.2 bms ∧
      (bv ++ bms.flatten).Nodup ∧ (∀ b ∈ bv ++ bms.flatten, (b ∈ bss.flatten ∨ w.heap.size ≤ b) ∧ ¬ Pr' b ∧ b < w'.heap.size) ∧ (∀ b, Pr b → Pr' b) ∧
      (∀ b, Pr' b → Pr b ∨ (b ∈ bss.flatten ∨ w.heap.size ≤ b) ∧ b < w'.heap.size) ∧ w'.os = w.os ∧ w'.tape = w.tape ∧ w'.output = w.output ∧ w.heap.size ≤ w'.heap.size ∧
      (∀ b, b < w.heap.size → b ∉ bss.flatten → w'.heap[b]? = w.heap[b]?) := by
    intro E' a' w' hfin hx
    unfold finishK at hfin
    split at hfin
    · rename_i z E2 ht
      split at hfin
      · rename_i bk hbk
        obtain rfl := Option.some.inj hfin
        obtain ⟨Pr2, B2, h2, hN2⟩ := (hx.st.wkE (l := wkR (outerV ct.pars vs).length ts ct.rets))
        obtain ⟨B3, bv, rv, k1, k2, k3, k0, k4, k5, k6⟩ := takeR_ok hok.tab (hx.fr) h2 (Nat.le_refl _) hN2 ht
        obtain ⟨bms, m1, m2, m3⟩ := backs_ok k1 (j := 0) l4 (fun i v hv => by
          rw [Nat.zero_add, List.getElem?_append_left (List.getElem?_eq_some_iff.1 hv).1]; exact hv) hbk
        have hlt : outN ct.pars ≤ E2.length := by
          have := k1.len
          simp only [List.length_append] at this
          omega
        have hmem : ∀ b ∈ bv ++ bms.flatten, ∃ k, b ∈ B3 k := fun b hb => by
          rcases List.mem_append.1 hb with hb | hb
          · obtain ⟨k, _, h⟩ := k6 b hb; exact ⟨k, h⟩
          · obtain ⟨k, _, _, h⟩ := m3 b hb; exact ⟨k, h⟩
        refine ⟨hx.ds, _, results_list hres k0, rv, Pr2, bv, bms, rfl, k4, m1, ?_, fun b hb => ?_, k1.pr0, fun b hb => ?_, k1.os, k1.tape, k1.output, k1.size, fun b hb hnb => k1.frame b hb hnb⟩
        · refine List.nodup_append.2 ⟨k5, m2, fun x hx y hy hxy => ?_⟩
          subst hxy
          obtain ⟨k, q1, q2⟩ := k6 x hx
          obtain ⟨k', p1, p2, p3⟩ := m3 x hy
          exact k1.disj k k' (by omega) x q2 p3
        · obtain ⟨k, hk⟩ := hmem b hb
          obtain ⟨q1, q2, q3⟩ := k1.free k b hk
          exact ⟨q1.symm, q2, q3⟩
        · rcases k1.prnew b hb with q | q | q
          · exact .inl q
          · exact .inr ⟨.inr q, k1.prlt b hb⟩
          · exact .inr ⟨.inl q, k1.prlt b hb⟩
      · cases hfin
    · cases hfin
  refine hwp ⟨hgo, fun b hb => ⟨hgd b hb, hpl b (hgd b hb), fun hm => (hfr b hm).1 (hgd b hb)⟩⟩ hr l2 hsx fun x E' a' w' hk hx => ?_
  cases x with
  | normal => exact fin E' a' w' (l2 ▸ hk) hx
  | ret => exact fin E' a' w' (l2 ▸ hk) hx
  | exit id => cases hk

theorem eqlnil_wp {w0 : World} {Pr0 M : Nat → Prop} {outer : List Value} {ds : List Deferred} {E : Env} {a : Act} {w : World} {o : Oper} {t3 t4 : Tmp} {ts e : TypeId} {A : Option Addr} {l c : Nat} (hx : Sx w0 Pr0 M outer ds E a w)
    (hop : o.op = .binOp .eql ts (.tmp t3) (.const (.slice none 0 0)) ts) (hd : o.dst = some t4) (hts : P.underlying ts = some (.slice e)) (hv : a.eval (.tmp t3) = .slice A l c) (next : Act → World → Prop) (Q : Exit → Act → World → Prop)
    (hn : ∀ a' w', Sx w0 Pr0 M outer ds (putE outer.length (some t4) ⟨.val .bool .b A.isNone, E, []⟩) a' w' → next a' w') : o.wp P a w next Q := by
  obtain ⟨⟨Pr, B, hst, hN⟩, hds⟩ := hx
  have hf : Fr outer.length (outer ++ a.tmps.toList) a := ⟨outer, rfl, rfl⟩
  have hr : (execOp a.eval o).run P w = .ok (.value (.bool A.isNone)) w := by
    have hb : (binOp .eql ts (.slice A l c) (.slice none 0 0)).run P w = .ok (.bool A.isNone) w := by
      simp only [binOp, Sem.run_bind, run_equal_slice_nil w ts e A l c hts, Result.andThen_ok]
      rfl
    have hg : (eqGuard .eql ts (.tmp t3) (.const (.slice none 0 0)) (.slice A l c) (.slice none 0 0)).run P w = .ok () w := by rw [eqGuard_at_slice]; rfl
    have hc : a.eval (.const (.slice none 0 0)) = .slice none 0 0 := rfl
    simp [execOp, hop, hv, hc, hg, hb]
  have hg := (good_scal (P := P) (o := o) hst hN (s := .val .bool .b A.isNone) (v := .bool A.isNone) (.bool _) hr).does
  refine Oper.wp_mono ?_ (hg Q)
  rintro a' w' ⟨v, rfl, hlen, hh⟩
  have := Hand.putZ (dst := some t4) (z := ⟨.val .bool .b A.isNone, appU E [], [].map U.ix⟩) hh
  exact hn _ _ ⟨by rw [hd]; exact this, by rw [put_defers, hds]⟩

theorem op_once {cx : Cx} {rc : Rc} {w0 : World} {Pr0 M : Nat → Prop} {outer : List Value} {ds : List Deferred} {E : Env} {a : Act} {w : World} {o : Oper} {z : Zv} (hok : Ok P cx rc w0 Pr0 M) (hx : Sx w0 Pr0 M outer ds E a w)
    (h : opK cx rc E outer.length o some = some z) (next : Act → World → Prop) (Q : Exit → Act → World → Prop) (hn : ∀ a' w', Sx w0 Pr0 M outer ds (putE outer.length o.dst z) a' w' → next a' w') : o.wp P a w next Q :=
  opK_ok hok hx h next Q fun z' a' w' hz hx' => by
    obtain rfl := Option.some.inj hz
    exact hn a' w' hx'

/-- A function that copies a slice, nil into nil. -/
theorem fnOk_nil {cx : Cx} {pl : Plan} {dp : Nat} {k : FuncId} {fn : Func} {i0 i1 : Nat} {o0 o1 o2 : Oper} {X Y : Code} {t3 t4 : Tmp} {ts te : TypeId} {T : Ty} {rets : List (Ty × Bool)} {rvs : List ResultVar} {F : PV (.slice te T) → Option (PVs (rets.map (·.1)) × PVs [])}
    {E1 : PV (.slice te T) → Env} {z1 : PV (.slice te T) → Zv} (hok : Ok0 P cx) (hf : P.funcs[k]? = some fn)
    (hb : fn.body = some (.seq (.region i0 #[o0] false) (.seq (.seq (.region i1 #[o1, o2] false) (.cond (.tmp t4) X .skip)) Y)))
    (hnm : (fn.name == "runtime.NumGoroutine") = false) (hres : fn.results = rvs.toArray) (hunit : (rets.all fun q => !q.1.isUnit) = true)
    (hg1 : o1.guard = none) (hg2 : o2.guard = none) (hop : o2.op = .binOp .eql ts (.tmp t3) (.const (.slice none 0 0)) ts) (hd : o2.dst = some t4) (hts : P.underlying ts = some (.slice te))
    (hlo : LoopsOk cx (rcN cx dp) pl 0 (.cond (.tmp t4) X .skip) ∧ LoopsOk cx (rcN cx dp) pl 0 Y)
    (h0 : ∀ x, regionK cx (rcN cx dp) 0 #[o0] false (initE [(.bor, .slice te T)] (x, ()) fn.ntmps) some = some (E1 x))
    (h1 : ∀ x, opK cx (rcN cx dp) (E1 x) 0 o1 some = some (z1 x))
    (h3 : ∀ x, ((putE 0 o1.dst (z1 x)).at t3).s = .val (.slice te T) .b x)
    (hff : ∀ x, denK cx (rcN cx dp) pl 0 (.cond (.tmp t4) X .skip) (putE 0 (some t4) ⟨.val .bool .b false, putE 0 o1.dst (z1 x), []⟩) (fun t E => match t with
      | .normal => denK cx (rcN cx dp) pl 0 Y E (finX cx 0 rvs [(.bor, .slice te T)] rets)
      | t => finX cx 0 rvs [(.bor, .slice te T)] rets t E) = F x)
    (hft : denK cx (rcN cx dp) pl 0 (.cond (.tmp t4) X .skip) (putE 0 (some t4) ⟨.val .bool .b true, putE 0 o1.dst (z1 ([] : List (PV T))), []⟩) (fun t E => match t with
      | .normal => denK cx (rcN cx dp) pl 0 Y E (finX cx 0 rvs [(.bor, .slice te T)] rets)
      | t => finX cx 0 rvs [(.bor, .slice te T)] rets t E) = F ([] : List (PV T))) : FnOk cx.gl P k ⟨[(.bor, .slice te T)], rets, fun x => F x.1⟩ := by
  have hnat := rcN_nat cx dp
  refine fnOk_of_wp (cx := cx) hok hf hb hnm hres hunit ?_
  intro w0 Pr M outer a w xs r Q hgl hF hlen hx hfin
  have hk := hok.ok dp hgl
  obtain rfl : outer = [] := List.eq_nil_of_length_eq_zero hlen
  obtain ⟨x, u⟩ := xs
  cases u
  refine wp_seq (regionK_ok (outer := []) hk hnat (h0 x) hx fun E a1 w1 hE hx1 => ?_)
  obtain rfl := Option.some.inj hE
  refine wp_seq (wp_seq (wp_region ?_))
  rw [show (List.range (#[o1, o2] : Array Oper).size) = List.range' 0 2 from by rw [← List.range_eq_range']; rfl]
  simp only [List.range'_succ, List.range'_zero]
  rw [wpOps_cons]
  unfold wpOp
  rw [show (#[o1, o2] : Array Oper)[0]? = some o1 from rfl]
  simp only
  rw [show Region.wanted o1 (yielded #[o1, o2] a1.tmps) = true from by unfold Region.wanted; rw [hg1]]
  refine .inl (op_once (outer := []) hk hx1 (h1 x) _ _ fun a2 w2 hx2 => ?_)
  rw [wpOps_cons]
  unfold wpOp
  rw [show (#[o1, o2] : Array Oper)[0 + 1]? = some o2 from rfl]
  simp only
  rw [show Region.wanted o2 (yielded #[o1, o2] a2.tmps) = true from by unfold Region.wanted; rw [hg2]]
  -- what is asked
  have hval : ∃ A c, a2.eval (.tmp t3) = .slice A (List.length (α := PV T) x) c ∧ (A = none → x = ([] : List (PV T))) := by
    obtain ⟨⟨Pr', B, hst, hN⟩, hds⟩ := id hx2
    have hso := opdOk_tmp hst (opd_ok hst hx2.fr (.tmp t3)) (k := 0 + t3) rfl
    have hso : SlotOk w2 Pr' _ _ B (0 + t3) ((putE 0 o1.dst (z1 x)).at (0 + t3)).s (a2.eval (.tmp t3)) := hso
    rw [Nat.zero_add, h3 x] at hso
    obtain ⟨cs, q1, q2⟩ := hso
    obtain ⟨q3, A, c, rfl, q4, q5⟩ := rep_bor.1 q2
    refine ⟨A, c, by rw [q1]; rfl, fun hA => ?_⟩
    rcases q5 with q5 | ⟨a, ys, q5, _⟩
    · exact q5
    · rw [hA] at q5; cases q5
  obtain ⟨A, c, hv, hA⟩ := hval
  refine .inl (eqlnil_wp (outer := []) hx2 hop hd hts hv _ _ fun a3 w3 hx3 => ?_)
  have hden : denK cx (rcN cx dp) pl 0 (.cond (.tmp t4) X .skip) (putE 0 (some t4) ⟨.val .bool .b A.isNone, putE 0 o1.dst (z1 x), []⟩) (fun t E => match t with
      | .normal => denK cx (rcN cx dp) pl 0 Y E (finX cx 0 rvs [(.bor, .slice te T)] rets)
      | t => finX cx 0 rvs [(.bor, .slice te T)] rets t E) = some r := by
    cases A with
    | some a => exact (hff x).trans hF
    | none =>
      obtain rfl := hA rfl
      exact hft.trans hF
  show (Code.cond (.tmp t4) X .skip).wp P _ a3 w3
  refine denK_ok (outer := []) hk hnat _ hlo.1 hden hx3 fun t E' a' w' hkk hx' => ?_
  cases t with
  | normal => exact denK_ok (outer := []) hk hnat Y hlo.2 hkk hx' fun t E' a' w' hk' hx'' => hfin t E' a' w' hk' hx''
  | ret => exact hfin .ret E' a' w' hkk hx'
  | exit id => exact hfin (.exit id) E' a' w' hkk hx'

/-- The environment ahead of the question. -/
noncomputable def nilE (cx : Cx) (dp n : Nat) (te : TypeId) (T : Ty) (o0 o1 : Oper) (x : PV (.slice te T)) : Env :=
  putE 0 o1.dst ((opK cx (rcN cx dp) ((regionK cx (rcN cx dp) 0 #[o0] false (initE [(.bor, .slice te T)] (x, ()) n) some).getD []) 0 o1 some).getD (deadZ []))

noncomputable def nilD (cx : Cx) (pl : Plan) (dp n : Nat) (te : TypeId) (T : Ty) (rets : List (Ty × Bool)) (rvs : List ResultVar) (o0 o1 : Oper) (X Y : Code) (t4 : Tmp) (b : Bool) (x : PV (.slice te T)) : Option (PVs (rets.map (·.1)) × PVs []) :=
  denK cx (rcN cx dp) pl 0 (.cond (.tmp t4) X .skip) (putE 0 (some t4) ⟨.val .bool .b b, nilE cx dp n te T o0 o1 x, []⟩) (fun t E => match t with
      | .normal => denK cx (rcN cx dp) pl 0 Y E (finX cx 0 rvs [(.bor, .slice te T)] rets)
      | t => finX cx 0 rvs [(.bor, .slice te T)] rets t E)

theorem fnOk_nil' {cx : Cx} {pl : Plan} {dp : Nat} {k : FuncId} {fn : Func} {i0 i1 : Nat} {o0 o1 o2 : Oper} {X Y : Code} {t3 t4 : Tmp} {ts te : TypeId} {T : Ty} {rets : List (Ty × Bool)} {rvs : List ResultVar} {F : PV (.slice te T) → Option (PVs (rets.map (·.1)) × PVs [])}
    (hok : Ok0 P cx) (hf : P.funcs[k]? = some fn)
    (hb : fn.body = some (.seq (.region i0 #[o0] false) (.seq (.seq (.region i1 #[o1, o2] false) (.cond (.tmp t4) X .skip)) Y)))
    (hnm : (fn.name == "runtime.NumGoroutine") = false) (hres : fn.results = rvs.toArray) (hunit : (rets.all fun q => !q.1.isUnit) = true)
    (hg1 : o1.guard = none) (hg2 : o2.guard = none) (hop : o2.op = .binOp .eql ts (.tmp t3) (.const (.slice none 0 0)) ts) (hd : o2.dst = some t4) (hts : P.underlying ts = some (.slice te))
    (hlo : LoopsOk cx (rcN cx dp) pl 0 (.cond (.tmp t4) X .skip) ∧ LoopsOk cx (rcN cx dp) pl 0 Y)
    (h0 : ∀ x : PV (.slice te T), (regionK cx (rcN cx dp) 0 #[o0] false (initE [(.bor, .slice te T)] (x, ()) fn.ntmps) some).isSome = true)
    (h1 : ∀ x : PV (.slice te T), (opK cx (rcN cx dp) ((regionK cx (rcN cx dp) 0 #[o0] false (initE [(.bor, .slice te T)] (x, ()) fn.ntmps) some).getD []) 0 o1 some).isSome = true)
    (h3 : ∀ x, ((nilE cx dp fn.ntmps te T o0 o1 x).at t3).s = .val (.slice te T) .b x)
    (hff : ∀ x, nilD cx pl dp fn.ntmps te T rets rvs o0 o1 X Y t4 false x = F x)
    (hft : nilD cx pl dp fn.ntmps te T rets rvs o0 o1 X Y t4 true ([] : List (PV T)) = F ([] : List (PV T))) : FnOk cx.gl P k ⟨[(.bor, .slice te T)], rets, fun x => F x.1⟩ :=
  fnOk_nil (E1 := fun x => (regionK cx (rcN cx dp) 0 #[o0] false (initE [(.bor, .slice te T)] (x, ()) fn.ntmps) some).getD [])
    (z1 := fun x => (opK cx (rcN cx dp) ((regionK cx (rcN cx dp) 0 #[o0] false (initE [(.bor, .slice te T)] (x, ()) fn.ntmps) some).getD []) 0 o1 some).getD (deadZ []))
    hok hf hb hnm hres hunit hg1 hg2 hop hd hts hlo (fun x => by
    obtain ⟨y, hy⟩ := Option.isSome_iff_exists.1 (h0 x)
    rw [hy]; rfl) (fun x => by
    obtain ⟨y, hy⟩ := Option.isSome_iff_exists.1 (h1 x)
    rw [hy]; rfl) h3 hff hft
end
end Go.Dn
