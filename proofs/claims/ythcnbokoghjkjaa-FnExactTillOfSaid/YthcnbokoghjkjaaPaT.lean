/- The functions, part 2. -/
import Derived.Test.YthcnbokoghjkjaaPaT1
open Go Go.Dn Go.Proofs
namespace R
set_option linter.unusedVariables false
set_option maxRecDepth 20000
open Go.Shelf
noncomputable def o_L_FnExactTillOf_9 : List Out := [⟨.normal, ⟨[], [0, 4, 5, 6, 7, 8, 40, 52, 53, 54, 55, 58, 59, 60, 84, 85, 86]⟩, mkSh 96 [(0, .val S_S_string .b), (4, .val S_S_int (.row (.row .b))), (5, .val .bool .b), (6, .val S_S_string (.row (.row .b))), (7, .val S_S_int (.row (.row .b))), (8, .val .bool .b), (40, .val .bool .b)]⟩]
noncomputable def o_L_FnExactTillOf_15 : List Out := [⟨.normal, ⟨[], [0, 4, 5, 7, 61, 84, 85, 86]⟩, mkSh 96 [(0, .val S_S_string .b), (4, .val S_S_int (.row (.row .b))), (5, .val .bool .b), (7, .val S_S_int (.row (.row .b))), (61, .val .bool .b)]⟩]
noncomputable def o_L_FnExactTillOf_26 : List Out := [⟨.normal, ⟨[], [7, 10, 87]⟩, mkSh 96 [(7, .val S_S_int (.row (.row .b))), (10, .val (.int .i64) .b), (87, .val .bool .b)]⟩]
noncomputable def pl_L_FnExactTillOf : Plan := ⟨[(9, o_L_FnExactTillOf_9), (15, o_L_FnExactTillOf_15), (26, o_L_FnExactTillOf_26)], [], 0, 0⟩
noncomputable def f_L_FnExactTillOf (t0 : PV S_S_string) : Option (PVs [.bool] × PVs []) :=
  (f_L_szStringSS t0 1048576).bind fun r2 =>
    bif (decide (r2.1.1 < 0)) then
      some ((true, ()), ())
    else
      (f_L_toStringSS t0).bind fun r5 =>
        (f_S_TillOf r5.1.1).bind fun r6 =>
          (f_L_toStringSS t0).bind fun r8 =>
            (f_I_TillOf r8.1.1).bind fun r10 =>
              ((
                  (f_L_eqIntSS r10.1.1 r6.1.1).bind fun r14 =>
                    bif (!r14.1.1) then
                      some (t0, r6.1.1, r6.1.2.1, r8.1.1, r10.1.1, r10.1.2.1, true, ())
                    else
                      some (t0, r6.1.1, r6.1.2.1, r8.1.1, r10.1.1, r10.1.2.1, (!(r10.1.2.1 == r6.1.2.1)), ()) : Option ((PV S_S_string × PV S_S_int × PV .bool × PV S_S_string × PV S_S_int × PV .bool × PV .bool × Unit)))).bind fun j15 =>
                bif j15.2.2.2.2.2.2.1 then
                  some ((false, ()), ())
                else
                  (f_L_toStringSS j15.1).bind fun r22 =>
                    (f_L_eqStringSS j15.2.2.2.1 r22.1.1).bind fun r23 =>
                      bif (!r23.1.1) then
                        some ((false, ()), ())
                      else
                        (f_L_markStringSS j15.2.2.2.1 1).bind fun r25 =>
                          ((
                              bif (decide (r25.1.1 < 0)) then
                                some (j15.1, j15.2.1, j15.2.2.1, j15.2.2.2.2.1, true, ())
                              else
                                (f_L_eqIntSS j15.2.2.2.2.1 j15.2.1).bind fun r29 =>
                                  bif (!r29.1.1) then
                                    some (j15.1, j15.2.1, j15.2.2.1, j15.2.2.2.2.1, true, ())
                                  else
                                    some (j15.1, j15.2.1, j15.2.2.1, j15.2.2.2.2.1, (!(j15.2.2.2.2.2.1 == j15.2.2.1)), ()) : Option ((PV S_S_string × PV S_S_int × PV .bool × PV S_S_int × PV .bool × Unit)))).bind fun j30 =>
                            bif j30.2.2.2.2.1 then
                              some ((false, ()), ())
                            else
                              (f_L_markIntSS j30.2.2.2.1 1).bind fun r32 =>
                                (f_L_heldIntSS r32.2.1 1).bind fun r34 =>
                                  bif (decide (r34.1.1 < 0)) then
                                    some ((false, ()), ())
                                  else
                                    bif (!(r34.1.1 == r32.1.1)) then
                                      some ((false, ()), ())
                                    else
                                      (f_L_toStringSS j30.1).bind fun r37 =>
                                        (f_I_TillOf r37.1.1).bind fun r38 =>
                                          ((
                                              (f_L_eqIntSS r38.1.1 j30.2.1).bind fun r42 =>
                                                bif (!r42.1.1) then
                                                  some (r32.2.1, r32.1.1, true, ())
                                                else
                                                  some (r32.2.1, r32.1.1, (!(r38.1.2.1 == j30.2.2.1)), ()) : Option ((PV S_S_int × PV (.int .i64) × PV .bool × Unit)))).bind fun j43 =>
                                            bif j43.2.2.1 then
                                              some ((false, ()), ())
                                            else
                                              (f_L_heldIntSS j43.1 1).bind fun r45 =>
                                                bif (decide (r45.1.1 < 0)) then
                                                  some ((false, ()), ())
                                                else
                                                  bif (!(r45.1.1 == j43.2.1)) then
                                                    some ((false, ()), ())
                                                  else
                                                    some ((true, ()), ())
noncomputable def ct_L_FnExactTillOf : Ct := ⟨[(.bor, S_S_string)], [(.bool, false)], fun x => f_L_FnExactTillOf x.1⟩
noncomputable def cx_L_FnExactTillOf : Cx := ⟨tab, arrs, [(41, ct_L_szStringSS), (42, ct_S_TillOf), (43, ct_L_toStringSS), (44, ct_I_TillOf), (45, ct_L_eqIntSS), (46, ct_L_eqStringSS), (47, ct_L_markStringSS), (48, ct_L_markIntSS), (49, ct_L_heldIntSS)], []⟩
theorem ef_L_FnExactTillOf (t0 : PV S_S_string) : denF cx_L_FnExactTillOf 0 pl_L_FnExactTillOf Try.f7.ntmps (bodyOf Try.f7) Try.f7.results.toList [(.bor, S_S_string)] [(.bool, false)] (t0, ()) = f_L_FnExactTillOf t0 := by kernel_rfl
theorem ok_L_FnExactTillOf : FnOk Try.prog 7 ct_L_FnExactTillOf :=
  fnOk (cx := cx_L_FnExactTillOf) (pl := pl_L_FnExactTillOf) (dp := 0) (ok0_of tabOk (by unfold ArrOk; kernel_rfl) mix ⟨ok_L_szStringSS, ok_S_TillOf, ok_L_toStringSS, ok_I_TillOf, ok_L_eqIntSS, ok_L_eqStringSS, ok_L_markStringSS, ok_L_markIntSS, ok_L_heldIntSS, trivial⟩ trivial) Try.func7 (by kernel_rfl) (by kernel_rfl) (by kernel_rfl)
    (by rw [show loopsOf (bodyOf Try.f7) = [] from by kernel_rfl]; exact trivial) (fun x => ef_L_FnExactTillOf x.1)
end R
