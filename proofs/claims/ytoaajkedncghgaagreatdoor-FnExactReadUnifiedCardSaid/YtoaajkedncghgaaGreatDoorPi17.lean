/- The row of ReadUnified. -/
import Derived.Test.YtoaajkedncghgaaGreatDoorPi16
import Derived.SevenTiedAt
namespace Go.Proofs.YtoaajkedncghgaaGreatDoor
open Go Go.ChangeShapes Go.WideShapes Go.ChangeAt Go.RowKit Go.Dn R
set_option linter.unusedVariables false
theorem cd_w : Rows.fnExactReadUnifiedRow.wfByText (OpenSpec.ofChange Rows.fnExactReadUnifiedSpec) = true := by kernel_rfl
theorem cd_m : Tryz.pinned.checked.prog.mainIs = some (true, ("452ee27688708eebd9f46de885a84937ef17fd2148129dba175c98788896ade3" : String).toList) := by kernel_rfl
theorem cd_f : Tryz.prog.funcNamed "loop.example/g00825/laws.FnExactReadUnified" = some 5 := by kernel_rfl
theorem cd_l : true = Tryz.pinned.checked.prog.looks [] := by kernel_rfl
theorem cd_s : ([9].all fun u => !Tryz.prog.wantsStandIn u) = true := by kernel_rfl
theorem cd_g : false = Rows.fnExactReadUnifiedRow.goesBy Tryz.pinned.checked.prog := by kernel_rfl

theorem fnExactReadUnifiedCard_holds : Rows.FnExactReadUnifiedCardSaid :=
  Claim7.holds_tied_plain_at .later [] [.data, .data, .data, .data, .sentinel, .sentinel, .pinned] true (true, "452ee27688708eebd9f46de885a84937ef17fd2148129dba175c98788896ade3") true
    fnExactReadUnified_over (fun _ h => by cases h) cd_w (fun _ h => by cases h) fnExactReadUnified_row_tie rfl ⟨rfl, rfl⟩ cd_m rfl
    (fun f fn hf hfn => by
      obtain rfl : f = 5 := Option.some.inj (cd_f.symm.trans hf) |>.symm
      obtain rfl : fn = Tryz.f5 := (Option.some.inj (Tryz.func5.symm.trans hfn)).symm
      exact ⟨cd_l, fun j t ht => by
        rw [show Tryz.f5.params = #[9] from by kernel_rfl] at ht
        have hm : t ∈ [9] := by simpa using Array.mem_of_getElem? ht
        have hall : ([9].all fun u => !Tryz.prog.wantsStandIn u) = true := cd_s
        exact (show Tryz.prog.wantsStandIn t = false by simpa using List.all_eq_true.1 hall t hm)⟩)
    cd_g

#print axioms fnExactReadUnifiedCard_holds
end Go.Proofs.YtoaajkedncghgaaGreatDoor
