/- The row of OrdersText. -/
import Derived.Test.YtoaajkedncghgaaDoorQPw41
import Derived.Test.YtoaajkedncghgaaDoorRows
import Derived.Test.YtoaajkedncghgaaDoorCards
import Derived.Test.YtoaajkedncghgaaDoorTie
import Derived.Test.YtoaajkedncghgaaDoorL3
import Derived.SevenTiedAt
namespace Go.Proofs.YtoaajkedncghgaaDoor
open Go Go.ChangeShapes Go.WideShapes Go.ChangeAt Go.RowKit Go.Dn O
set_option linter.unusedVariables false

def laidL : List (String × DataW Unit) := [("math/bits.deBruijn32tab", Rows.laid_math_bits_deBruijn32tab), ("math/bits.deBruijn64tab", Rows.laid_math_bits_deBruijn64tab), ("internal/strconv.uint64pow10", Rows.laid_internal_strconv_uint64pow10), ("loop.example/g00825/impl.orderSigns", Rows.laid_loop_example_g00825_impl_orderSigns)]

theorem door_met (os : Os) (args : Array Value) : laidMetH Tryd.prog laidL ((World.doorLaid Tryd.prog 4000 os).forCall (fun _ _ => 0) ⟨#[], args, []⟩).memory :=
  laidMetH_of_parts3 (fuel := 8) (laidMet_of_run' 8 (by kernel_rfl) (by kernel_rfl)) (by kernel_rfl) (by kernel_rfl)

theorem gl_of (W : World) (h : laidMetH Tryd.prog laidL W) (hs : W.ShapedOpen Tryd.prog) : gl.ok W ∧ ∀ b, gl.dom b → b < W.heap.size := by
  rw [MakeChecks.laidMetH_plain _ _ _ (by kernel_rfl)] at h
  have hg0 : Tryd.prog.globalNamed "internal/strconv.uint64pow10" = some 2 := by kernel_rfl
  have a0 : (tabGlob Tryd.prog 2).ok W := ⟨hg0, laid_tab (t := 108) (e := 101) (n := 20) (k := .u64) (zs := Lib.pow10Tab) h (List.mem_of_getElem? (i := 2) (by kernel_rfl)) hg0 (by kernel_rfl) Tryd.underlying108 Tryd.underlying101 (by kernel_rfl) (by kernel_rfl)⟩
  have b0 := tabGlob_dom (P := Tryd.prog) a0
  have hg1 : Tryd.prog.globalNamed "loop.example/g00825/impl.orderSigns" = some 0 := by kernel_rfl
  have a1 : (strGlob 0 gs0).ok W := laid_strs (t := 49) (e := 9) (n := 6) h (List.mem_of_getElem? (i := 3) (by kernel_rfl)) (by decide) hg1 (by kernel_rfl) Tryd.underlying49 Tryd.underlying9 (by kernel_rfl) (by kernel_rfl)
  have b1 := strGlob_dom a1
  exact ⟨⟨a0, a1⟩, fun x => fun hx => hx.elim (b0 x) (b1 x)⟩

set_option maxRecDepth 100000 in
theorem fnExactOrdersText_lifted (os : Os) (started : os.Started) (H : Type) (enc : TypeId × Value → H) :
    ReturnsInHanded {} Tryd.checked os 3 .any (fun w args => (Rows.fnExactOrdersTextSpec.pre enc Tryd.prog Tryd.f3 [] false w args ∧ laidMetH Tryd.prog laidL w) ∧ sizedMet enc Tryd.prog Tryd.f3 (OpenSpec.ofChange Rows.fnExactOrdersTextSpec) false w args)
      (Rows.fnExactOrdersTextSpec.post enc Tryd.prog Tryd.f3 false true false false) :=
  law_row_vars (C := Tryd.checked) (tab := tab) (tb := 4) (by kernel_rfl) started (by kernel_rfl) Tryd.func3
    (ChangeSpec.witness_shaped (enc := enc) (C := Tryd.checked) (os := os) (X := fun w _ => laidMetH Tryd.prog laidL w) false (World.doorLaid Tryd.prog 4000 os) #[.slice none 0 0] 8 rfl (World.shaped_of_RefB (by kernel_rfl) (by kernel_rfl)) (by kernel_rfl) (by kernel_rfl) (by kernel_rfl) (door_met os _))
    (by kernel_rfl) (by kernel_rfl) (by kernel_rfl) (by kernel_rfl) (by kernel_rfl) (nv := 1) rfl (by kernel_rfl) Tryd.underlying4
    (fun ds gs h hg => by
      match ds, gs, h, hg with
      | [d0], [g0], _, _ => exact ⟨rfl, rfl, rfl⟩)
    tabOk ok_L_FnExactOrdersText (by kernel_rfl) (fun x h => ⟨(), law_OrdersText x.1 h.1⟩) gl_of

theorem fnExactOrdersText_over : Rows.fnExactOrdersTextRow.holds Tryd.pinned (OpenSpec.ofChange Rows.fnExactOrdersTextSpec) :=
  OpenClaim.holds_of_wide 3 Tryd.f3 rfl rfl rfl rfl rfl rfl rfl ⟨rfl, rfl, rfl, rfl, rfl⟩ rfl rfl rfl rfl rfl (by kernel_rfl) Tryd.func3 (by kernel_rfl)
    (of_decide_eq_true (by kernel_rfl)) (by unfold Func.isWrapper; first | (rw [if_pos (by decide +kernel)]; kernel_rfl) | (rw [if_neg (by decide +kernel)]; exact ⟨rfl, rfl⟩))
    (fun os started H enc _ => fnExactOrdersText_lifted os started H enc)

theorem fnExactOrdersTextCard_holds : Rows.FnExactOrdersTextCardSaid :=
  Claim7.holds_tied_plain_at .later [] [.data, .data, .data, .widerDeep] true (true, "9ca3964b803dcb0e003b1c8e0edb1ed5b768e82b74da8ce861491bf53edb3758") false
    fnExactOrdersText_over (fun _ h => by cases h) (by kernel_rfl) (fun _ h => by cases h) fnExactOrdersText_row_tie rfl ⟨rfl, rfl⟩ (by kernel_rfl) rfl
    (fun f fn hf hfn => by
      obtain rfl : f = 3 := Option.some.inj ((show Tryd.prog.funcNamed "loop.example/g00825/laws.FnExactOrdersText" = some 3 by kernel_rfl).symm.trans hf) |>.symm
      obtain rfl : fn = Tryd.f3 := (Option.some.inj (Tryd.func3.symm.trans hfn)).symm
      exact ⟨by kernel_rfl, fun j t ht => by
        rw [show Tryd.f3.params = #[22] from by kernel_rfl] at ht
        have hm : t ∈ [22] := by simpa using Array.mem_of_getElem? ht
        have hall : ([22].all fun u => !Tryd.prog.wantsStandIn u) = true := by kernel_rfl
        exact (show Tryd.prog.wantsStandIn t = false by simpa using List.all_eq_true.1 hall t hm)⟩)
    (by kernel_rfl)

#print axioms fnExactOrdersTextCard_holds
end Go.Proofs.YtoaajkedncghgaaDoor
