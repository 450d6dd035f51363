/- Since: the law answers true at every call; then the tied card. -/
import Derived.Test.YtegfhigkmghmjaaDoorQPy231
import Derived.Test.YtegfhigkmghmjaaDoorRows
import Derived.Test.YtegfhigkmghmjaaDoorCards
import Derived.Test.YtegfhigkmghmjaaDoorTie
import Derived.Test.YtegfhigkmghmjaaDoorL3
import Derived.SevenTiedAt
namespace Go.Proofs.YtegfhigkmghmjaaDoor
open Go Go.ChangeShapes Go.WideShapes Go.ChangeAt Go.RowKit Go.Dn R
set_option linter.unusedVariables false

def laidL : List (String × DataW Unit) := [("math/bits.deBruijn32tab", Rows.laid_math_bits_deBruijn32tab), ("math/bits.deBruijn64tab", Rows.laid_math_bits_deBruijn64tab), ("internal/strconv.uint64pow10", Rows.laid_internal_strconv_uint64pow10)]

theorem door_met (os : Os) (args : Array Value) : laidMetH Tryd.prog laidL ((World.doorLaid Tryd.prog 4000 os).forCall (fun _ _ => 0) ⟨#[], args, []⟩).memory :=
  laidMetH_of_parts3 (fuel := 8) (laidMet_of_run' 8 (by kernel_rfl) (by kernel_rfl)) (by kernel_rfl) (by kernel_rfl)

theorem gl_of (W : World) (h : laidMetH Tryd.prog laidL W) : gl.ok W ∧ ∀ b, gl.dom b → b < W.heap.size := by
  rw [MakeChecks.laidMetH_plain _ _ _ (by kernel_rfl)] at h
  have hg : Tryd.prog.globalNamed "internal/strconv.uint64pow10" = some 2 := by kernel_rfl
  have t := laid_third (t := 201) (e := 97) (n := 20) (k := .u64) (zs := Lib.pow10Tab) (by kernel_rfl) hg (by kernel_rfl) Tryd.underlying201 Tryd.underlying97 (by kernel_rfl) (by kernel_rfl) h
  exact ⟨⟨hg, t⟩, tabGlob_dom (P := Tryd.prog) ⟨hg, t⟩⟩

set_option maxRecDepth 100000 in
theorem fnSince_lifted (os : Os) (started : os.Started) (H : Type) (enc : TypeId × Value → H) :
    ReturnsInHanded {} Tryd.checked os 7 .any (fun w args => (Rows.fnSinceSpec.pre enc Tryd.prog Tryd.f7 [] false w args ∧ laidMetH Tryd.prog laidL w) ∧ sizedMet enc Tryd.prog Tryd.f7 (OpenSpec.ofChange Rows.fnSinceSpec) false w args)
      (Rows.fnSinceSpec.post enc Tryd.prog Tryd.f7 false true false false) :=
  law_row_laid (C := Tryd.checked) (tab := tab) (tb := 4) (by kernel_rfl) started (by kernel_rfl) Tryd.func7
    (ChangeSpec.witness_shaped (enc := enc) (C := Tryd.checked) (os := os) (X := fun w _ => laidMetH Tryd.prog laidL w) false (World.doorLaid Tryd.prog 4000 os) #[.slice none 0 0, .slice none 0 0] 8 rfl (World.shaped_of_RefB (by kernel_rfl) (by kernel_rfl)) (by kernel_rfl) (by kernel_rfl) (by kernel_rfl) (door_met os _))
    (by kernel_rfl) (by kernel_rfl) (by kernel_rfl) (by kernel_rfl) rfl (by kernel_rfl) Tryd.underlying4
    (fun ds h => by
      match ds, h with
      | [d0, d1], _ => exact ⟨rfl, rfl, rfl⟩)
    tabOk ok_L_FnSince (by kernel_rfl) (fun x h => ⟨(), law_Since x.1 x.2.1 h.1 h.2.1⟩) gl_of

theorem fnSince_over : Rows.fnSinceRow.holds Tryd.pinned (OpenSpec.ofChange Rows.fnSinceSpec) :=
  OpenClaim.holds_of_wide 7 Tryd.f7 rfl rfl rfl rfl rfl rfl rfl ⟨rfl, rfl, rfl, rfl, rfl⟩ rfl rfl rfl rfl rfl (by kernel_rfl) Tryd.func7 (by kernel_rfl)
    (of_decide_eq_true (by kernel_rfl)) (by unfold Func.isWrapper; first | (rw [if_pos (by decide +kernel)]; kernel_rfl) | (rw [if_neg (by decide +kernel)]; exact ⟨rfl, rfl⟩))
    (fun os started H enc _ => fnSince_lifted os started H enc)

theorem fnSinceCard_holds : Rows.FnSinceCardSaid :=
  Claim7.holds_tied_plain_at .later [] [.data, .data, .data] true (true, "0a1b0523f959f228e3720158738f9895b48d260d65afecacba2880ca0992eecc") false
    fnSince_over (fun _ h => by cases h) (by kernel_rfl) (fun _ h => by cases h) fnSince_row_tie rfl ⟨rfl, rfl⟩ (by kernel_rfl) rfl
    (fun f fn hf hfn => by
      obtain rfl : f = 7 := Option.some.inj ((show Tryd.prog.funcNamed "loop.example/g00825/laws.FnSince" = some 7 by kernel_rfl).symm.trans hf) |>.symm
      obtain rfl : fn = Tryd.f7 := (Option.some.inj (Tryd.func7.symm.trans hfn)).symm
      exact ⟨by kernel_rfl, fun j t ht => by
        rw [show Tryd.f7.params = #[43, 43] from by kernel_rfl] at ht
        have hm : t ∈ [43, 43] := by simpa using Array.mem_of_getElem? ht
        have hall : ([43, 43].all fun u => !Tryd.prog.wantsStandIn u) = true := by kernel_rfl
        exact (show Tryd.prog.wantsStandIn t = false by simpa using List.all_eq_true.1 hall t hm)⟩)
    (by kernel_rfl)

#print axioms fnSinceCard_holds
end Go.Proofs.YtegfhigkmghmjaaDoor
