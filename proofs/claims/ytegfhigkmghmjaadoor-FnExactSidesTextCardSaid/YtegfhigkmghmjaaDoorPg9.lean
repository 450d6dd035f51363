/- FnExactSidesText: the program's SidesText answers as the reference's, for all arguments; the tied card. -/
import Derived.Test.YtegfhigkmghmjaaDoorPg8
import Derived.Test.YtegfhigkmghmjaaDoorRows
import Derived.Test.YtegfhigkmghmjaaDoorCards
import Derived.Test.YtegfhigkmghmjaaDoorTie
import Derived.Test.YtegfhigkmghmjaaDoorFi
import Derived.SevenTiedAt
namespace Go.Proofs.YtegfhigkmghmjaaDoor
open Go Go.ChangeShapes Go.WideShapes Go.ChangeAt Go.RowKit Go.Dn R
set_option linter.unusedVariables false

def laidL : List (String × DataW Unit) := [("math/bits.deBruijn32tab", Rows.laid_math_bits_deBruijn32tab), ("math/bits.deBruijn64tab", Rows.laid_math_bits_deBruijn64tab), ("internal/strconv.uint64pow10", Rows.laid_internal_strconv_uint64pow10)]

theorem door_met (os : Os) (args : Array Value) : laidMetH Tryd.prog laidL ((World.doorLaid Tryd.prog 4000 os).forCall (fun _ _ => 0) ⟨#[], args, []⟩).memory :=
  laidMetH_of_parts3 (fuel := 8) (laidMet_of_run' 8 (by kernel_rfl) (by kernel_rfl)) (by kernel_rfl) (by kernel_rfl)

theorem gl_of (W : World) (h : laidMetH Tryd.prog laidL W) : gl.ok W ∧ ∀ b, gl.dom b → b < W.heap.size := by
  rw [MakeChecks.laidMetH_plain _ _ _ (by kernel_rfl)] at h
  have hg : Tryd.prog.globalNamed "internal/strconv.uint64pow10" = some 2 := by kernel_rfl
  have t := laid_third (t := 201) (e := 97) (n := 20) (k := .u64) (zs := Lib.pow10Tab) (by kernel_rfl) hg (by kernel_rfl) Tryd.underlying201 Tryd.underlying97 (by kernel_rfl) (by kernel_rfl) h
  exact ⟨⟨hg, t⟩, tabGlob_dom (P := Tryd.prog) ⟨hg, t⟩⟩

set_option maxRecDepth 100000 in
theorem fnExactSidesText_lifted (os : Os) (started : os.Started) (H : Type) (enc : TypeId × Value → H) :
    ReturnsInHanded {} Tryd.checked os 6 .any (fun w args => (Rows.fnExactSidesTextSpec.pre enc Tryd.prog Tryd.f6 [] false w args ∧ laidMetH Tryd.prog laidL w) ∧ sizedMet enc Tryd.prog Tryd.f6 (OpenSpec.ofChange Rows.fnExactSidesTextSpec) false w args)
      (Rows.fnExactSidesTextSpec.post enc Tryd.prog Tryd.f6 false true false false) :=
  law_row_laid (C := Tryd.checked) (tab := tab) (tb := 4) (by kernel_rfl) started (by kernel_rfl) Tryd.func6
    (ChangeSpec.witness_shaped (enc := enc) (C := Tryd.checked) (os := os) (X := fun w _ => laidMetH Tryd.prog laidL w) false (World.doorLaid Tryd.prog 4000 os) #[.slice none 0 0] 8 rfl (World.shaped_of_RefB (by kernel_rfl) (by kernel_rfl)) (by kernel_rfl) (by kernel_rfl) (by kernel_rfl) (door_met os _))
    (by kernel_rfl) (by kernel_rfl) (by kernel_rfl) (by kernel_rfl) rfl (by kernel_rfl) Tryd.underlying4
    (fun ds h => by
      match ds, h with
      | [d0], _ => exact ⟨rfl, rfl, rfl⟩)
    tabOk ok_L_FnExactSidesText (by kernel_rfl) (fun x h => ⟨(), law_SidesText x.1 h.1⟩) gl_of

theorem fnExactSidesText_over : Rows.fnExactSidesTextRow.holds Tryd.pinned (OpenSpec.ofChange Rows.fnExactSidesTextSpec) :=
  OpenClaim.holds_of_wide 6 Tryd.f6 rfl rfl rfl rfl rfl rfl rfl ⟨rfl, rfl, rfl, rfl, rfl⟩ rfl rfl rfl rfl rfl (by kernel_rfl) Tryd.func6 (by kernel_rfl)
    (of_decide_eq_true (by kernel_rfl)) (by unfold Func.isWrapper; first | (rw [if_pos (by decide +kernel)]; kernel_rfl) | (rw [if_neg (by decide +kernel)]; exact ⟨rfl, rfl⟩))
    (fun os started H enc _ => fnExactSidesText_lifted os started H enc)

theorem fnExactSidesTextCard_holds : Rows.FnExactSidesTextCardSaid :=
  Claim7.holds_tied_plain_at .later [] [.data, .data, .data] true (true, "0a1b0523f959f228e3720158738f9895b48d260d65afecacba2880ca0992eecc") false
    fnExactSidesText_over (fun _ h => by cases h) (by kernel_rfl) (fun _ h => by cases h) fnExactSidesText_row_tie rfl ⟨rfl, rfl⟩ (by kernel_rfl) rfl
    (fun f fn hf hfn => by
      obtain rfl : f = 6 := Option.some.inj ((show Tryd.prog.funcNamed "loop.example/g00825/laws.FnExactSidesText" = some 6 by kernel_rfl).symm.trans hf) |>.symm
      obtain rfl : fn = Tryd.f6 := (Option.some.inj (Tryd.func6.symm.trans hfn)).symm
      exact ⟨by kernel_rfl, fun j t ht => by
        rw [show Tryd.f6.params = #[30] from by kernel_rfl] at ht
        have hm : t ∈ [30] := by simpa using Array.mem_of_getElem? ht
        have hall : ([30].all fun u => !Tryd.prog.wantsStandIn u) = true := by kernel_rfl
        exact (show Tryd.prog.wantsStandIn t = false by simpa using List.all_eq_true.1 hall t hm)⟩)
    (by kernel_rfl)

#print axioms fnExactSidesTextCard_holds
end Go.Proofs.YtegfhigkmghmjaaDoor
