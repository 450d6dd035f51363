/- FnExactSinceText: the program's SinceText answers as the reference's, for all arguments; the tied card. -/
import Derived.Test.YtegfhigkmghmjaaDoorQPj181
import Derived.Test.YtegfhigkmghmjaaDoorRows
import Derived.Test.YtegfhigkmghmjaaDoorCards
import Derived.Test.YtegfhigkmghmjaaDoorTie
import Derived.Test.YtegfhigkmghmjaaDoorL3
import Derived.SevenTiedAt
namespace Go.Proofs.YtegfhigkmghmjaaDoor
open Go Go.ChangeShapes Go.WideShapes Go.ChangeAt Go.RowKit Go.Dn R
set_option linter.unusedVariables false

def laidL : List (String × DataW Unit) := [("math/bits.deBruijn32tab", Rows.laid_math_bits_deBruijn32tab), ("math/bits.deBruijn64tab", Rows.laid_math_bits_deBruijn64tab), ("internal/strconv.uint64pow10", Rows.laid_internal_strconv_uint64pow10)]

theorem door_met (os : Os) (args : Array Value) : laidMetH Tryd.prog laidL ((World.doorLaid Tryd.prog 4000 os).forCall (fun _ _ => 0) ⟨#[], args, []⟩).memory :=
  laidMetH_of_parts3 (fuel := 8) (laidMet_of_run' 8 (by kernel_rfl) (by kernel_rfl)) (by kernel_rfl) (by kernel_rfl)

theorem gl_of (W : World) (h : laidMetH Tryd.prog laidL W) : gl.ok W ∧ ∀ b, gl.dom b → b < W.heap.size := by
  rw [MakeChecks.laidMetH_plain _ _ _ (by kernel_rfl)] at h
  have hg : Tryd.prog.globalNamed "internal/strconv.uint64pow10" = some 2 := by kernel_rfl
  have t := laid_third (t := 201) (e := 97) (n := 20) (k := .u64) (zs := Lib.pow10Tab) (by kernel_rfl) hg (by kernel_rfl) Tryd.underlying201 Tryd.underlying97 (by kernel_rfl) (by kernel_rfl) h
  exact ⟨⟨hg, t⟩, tabGlob_dom (P := Tryd.prog) ⟨hg, t⟩⟩

set_option maxRecDepth 100000 in
theorem fnExactSinceText_lifted (os : Os) (started : os.Started) (H : Type) (enc : TypeId × Value → H) :
    ReturnsInHanded {} Tryd.checked os 5 .any (fun w args => (Rows.fnExactSinceTextSpec.pre enc Tryd.prog Tryd.f5 [] false w args ∧ laidMetH Tryd.prog laidL w) ∧ sizedMet enc Tryd.prog Tryd.f5 (OpenSpec.ofChange Rows.fnExactSinceTextSpec) false w args)
      (Rows.fnExactSinceTextSpec.post enc Tryd.prog Tryd.f5 false true false false) :=
  law_row_laid (C := Tryd.checked) (tab := tab) (tb := 4) (by kernel_rfl) started (by kernel_rfl) Tryd.func5
    (ChangeSpec.witness_shaped (enc := enc) (C := Tryd.checked) (os := os) (X := fun w _ => laidMetH Tryd.prog laidL w) false (World.doorLaid Tryd.prog 4000 os) #[.slice none 0 0] 8 rfl (World.shaped_of_RefB (by kernel_rfl) (by kernel_rfl)) (by kernel_rfl) (by kernel_rfl) (by kernel_rfl) (door_met os _))
    (by kernel_rfl) (by kernel_rfl) (by kernel_rfl) (by kernel_rfl) rfl (by kernel_rfl) Tryd.underlying4
    (fun ds h => by
      match ds, h with
      | [d0], _ => exact ⟨rfl, rfl, rfl⟩)
    tabOk ok_L_FnExactSinceText (by kernel_rfl) (fun x h => ⟨(), law_SinceText x.1 h.1⟩) gl_of

theorem fnExactSinceText_over : Rows.fnExactSinceTextRow.holds Tryd.pinned (OpenSpec.ofChange Rows.fnExactSinceTextSpec) :=
  OpenClaim.holds_of_wide 5 Tryd.f5 rfl rfl rfl rfl rfl rfl rfl ⟨rfl, rfl, rfl, rfl, rfl⟩ rfl rfl rfl rfl rfl (by kernel_rfl) Tryd.func5 (by kernel_rfl)
    (of_decide_eq_true (by kernel_rfl)) (by unfold Func.isWrapper; first | (rw [if_pos (by decide +kernel)]; kernel_rfl) | (rw [if_neg (by decide +kernel)]; exact ⟨rfl, rfl⟩))
    (fun os started H enc _ => fnExactSinceText_lifted os started H enc)

theorem fnExactSinceTextCard_holds : Rows.FnExactSinceTextCardSaid :=
  Claim7.holds_tied_plain_at .later [] [.data, .data, .data] true (true, "0a1b0523f959f228e3720158738f9895b48d260d65afecacba2880ca0992eecc") false
    fnExactSinceText_over (fun _ h => by cases h) (by kernel_rfl) (fun _ h => by cases h) fnExactSinceText_row_tie rfl ⟨rfl, rfl⟩ (by kernel_rfl) rfl
    (fun f fn hf hfn => by
      obtain rfl : f = 5 := Option.some.inj ((show Tryd.prog.funcNamed "loop.example/g00825/laws.FnExactSinceText" = some 5 by kernel_rfl).symm.trans hf) |>.symm
      obtain rfl : fn = Tryd.f5 := (Option.some.inj (Tryd.func5.symm.trans hfn)).symm
      exact ⟨by kernel_rfl, fun j t ht => by
        rw [show Tryd.f5.params = #[37] from by kernel_rfl] at ht
        have hm : t ∈ [37] := by simpa using Array.mem_of_getElem? ht
        have hall : ([37].all fun u => !Tryd.prog.wantsStandIn u) = true := by kernel_rfl
        exact (show Tryd.prog.wantsStandIn t = false by simpa using List.all_eq_true.1 hall t hm)⟩)
    (by kernel_rfl)

#print axioms fnExactSinceTextCard_holds
end Go.Proofs.YtegfhigkmghmjaaDoor
