/- A law's row out of its contract: the arguments as they were, the answer true. -/
import Derived.Test.YtegfhigkmghmjaaDoorEd
import Derived.ReadAgain
import Derived.ChangeSame
import Derived.OpenShut
import Derived.RowKit
import Derived.ChangeAt
import Derived.WalkKit
import Derived.ProofKit
namespace Go.Dn
open Go.ChangeShapes Go.WideShapes Go.ChangeAt Go.RowKit

section
variable {H : Type} {enc : TypeId × Value → H} {P : Program}

theorem cell_same {W W' : World} (hk : ∀ b, b < W.heap.size → W'.heap[b]? = W.heap[b]?) {b off : Nat} (hb : b < W.heap.size) : W'.cell? ⟨b, off, none⟩ = W.cell? ⟨b, off, none⟩ := by
  simp only [World.cell?, hk b hb]

theorem carryAll {W W' : World} {base : Nat} {sp : Nat → Bool} {hd : Bool} (hk : ∀ b, b < W.heap.size → W'.heap[b]? = W.heap[b]?) : ∀ {ts : List TypeId} {vs : List Value} {ds : List (DataW H)} {ps : List MemPlace}, DataW.TrodAll enc P W base sp hd ts vs ds ps → (∀ p ∈ ps, p.block < W.heap.size) → DataW.TrodAll enc P W' base sp hd ts vs ds ps
  | [], [], [], _, h, _ => h
  | _ :: _, _ :: _, _ :: _, _, ⟨p, q, ⟨n, h1⟩, h2, e⟩, hp => ⟨p, q, ⟨n, DataW.trod_carry n _ _ _ h1 fun x hx => by
      have := hp x (by rw [e]; exact List.mem_append_left _ hx)
      cases x with
      | cell b off => exact cell_same hk this
      | map b => exact hk b this⟩, carryAll hk h2 (fun x hx => hp x (by rw [e]; exact List.mem_append_right _ hx)), e⟩

theorem post_law {T : TypeId → Prop} (K : Kids P T) (hz : ∀ t e, T t → P.underlying t = some (.slice e) → 0 < P.cellsOf e) {f : Func} {s : ChangeSpec} (hT : ∀ t ∈ f.params.toList, T t) (hvars : s.vars = []) {W W' : World} {args : Array Value} {ds gs : List (DataW H)} {before : List MemPlace}
    (hW : DataW.Whole enc P f.params.toList s.vars false W args.toList ds gs before) (hk : ∀ b, b < W.heap.size → W'.heap[b]? = W.heap[b]?) (hos : W'.os = W.os) (hout : W'.output = W.output)
    (hs1 : (s.fn H (ds ++ gs)).results = [.lit (.bool true)]) (hs2 : (s.fn H (ds ++ gs)).args = ds) (hs3 : (s.fn H (ds ++ gs)).vars = []) {tb : TypeId} (hrt : f.resultTypes = #[tb]) (hb : P.underlying tb = some .bool) : s.post enc P f false true false false W args (.bool true) W' := by
  have hlt := hW.lt
  obtain ⟨p, q, h1, h2, h3, h4, h5⟩ := id hW
  have hq : q = [] := by
    rw [hvars] at h2
    cases gs with
    | nil => exact h2
    | cons => exact h2.elim
  subst hq
  rw [List.append_nil] at h3
  subst h3
  refine ⟨ds, gs, before, [], before, [], hW, ?_, ?_, ?_, ⟨hos, hout, fun i hi => ?_⟩, fun h => by cases h⟩
  · rw [hs1, hrt]
    exact trodAll_cons_mk (shut_bool hb _) trodAll_mk0
  · rw [hs2]
    exact carryAll hk (h1.respare K hz hT fun x hx => by simpa using hlt x hx) hlt
  · rw [hvars, hs3]; rfl
  · rw [hk i hi]
    cases h : W.heap[i]? with
    | none => rfl
    | some o => cases o <;> simp
end
end Go.Dn
