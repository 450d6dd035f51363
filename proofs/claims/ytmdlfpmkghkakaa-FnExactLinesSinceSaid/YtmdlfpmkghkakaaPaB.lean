/- The functions, part 2. -/
import Derived.Test.YtmdlfpmkghkakaaPaB1
open Go Go.Dn Go.Proofs
namespace R
set_option linter.unusedVariables false
set_option maxRecDepth 20000
open Go.Shelf
noncomputable def o_I_since_12 : List Out := [⟨.normal, ⟨[], [0, 3, 4, 6, 10, 11, 12, 30, 31, 32]⟩, mkSh 57 [(0, .val S_S_string .b), (3, .val S_S_int (.row (.row .b))), (4, .val (.int .i64) .b), (6, .val S_int (.row .b)), (10, .val S_S_string .b), (11, .val (.int .i64) .b), (12, .val (.int .i64) .b), (30, .val S_int (.row .b)), (31, .val (.int .i64) .b), (32, .val (.int .i64) .b)]⟩]
noncomputable def o_I_since_13 : List Out := [⟨.normal, ⟨[], [0, 3, 6, 10, 11, 12]⟩, mkSh 57 [(0, .val S_S_string .b), (3, .val S_S_int (.row (.row .b))), (6, .val S_int (.row .b)), (10, .val S_S_string .b), (11, .val (.int .i64) .b), (12, .val (.int .i64) .b)]⟩]
noncomputable def sh_I_since_8 : List Sh := mkSh 57 [(0, .val S_S_string .b), (3, .val S_S_int (.row (.row .b))), (4, .val (.int .i64) .b), (6, .val S_int (.row .b)), (10, .val S_S_string .b), (11, .val (.int .i64) .b), (12, .val (.int .i64) .b), (30, .val S_int (.row .b)), (31, .val (.int .i64) .b), (32, .val (.int .i64) .b)]
noncomputable def o_I_since_8 : List Out := [⟨.exit 2, ⟨[], [0, 3, 6, 10, 11, 12]⟩, mkSh 57 [(0, .val S_S_string .b), (3, .val S_S_int (.row (.row .b))), (6, .val S_int (.row .b)), (10, .val S_S_string .b), (11, .val (.int .i64) .b), (12, .val (.int .i64) .b)]⟩]
noncomputable def b_I_since_8 (t0 : PV S_S_string) (t3 : PV S_S_int) (t4 : PV (.int .i64)) (t6 : PV S_int) (t10 : PV S_S_string) (t11 : PV (.int .i64)) (t12 : PV (.int .i64)) (t30 : PV S_int) (t31 : PV (.int .i64)) (t32 : PV (.int .i64)) : Option ((PV S_S_string × PV S_S_int × PV (.int .i64) × PV S_int × PV S_S_string × PV (.int .i64) × PV (.int .i64) × PV S_int × PV (.int .i64) × PV (.int .i64) × Unit) ⊕ ((PV S_S_string × PV S_S_int × PV S_int × PV S_S_string × PV (.int .i64) × PV (.int .i64) × Unit))) :=
  bif (decide (t32 < t31)) then
    ((
        bif inB t32 t30.length then
          bif (decide ((t30.getD t32.toNat (0 : Int)) ≥ 0)) then
            bif inB (IntKind.wrap .i64 (t4 - 1)) t3.length then
              bif inB t32 (t3.getD ((IntKind.wrap .i64 (t4 - 1)).toNat) []).length then
                bif inB (t30.getD t32.toNat (0 : Int)) t6.length then
                  some (t0, t3, t4, (t6.set ((t30.getD t32.toNat (0 : Int)).toNat) ((t3.getD ((IntKind.wrap .i64 (t4 - 1)).toNat) []).getD t32.toNat (0 : Int))), t10, t11, t12, t30, t31, t32, ())
                else
                  none
              else
                none
            else
              none
          else
            some (t0, t3, t4, t6, t10, t11, t12, t30, t31, t32, ())
        else
          none : Option ((PV S_S_string × PV S_S_int × PV (.int .i64) × PV S_int × PV S_S_string × PV (.int .i64) × PV (.int .i64) × PV S_int × PV (.int .i64) × PV (.int .i64) × Unit)))).bind fun j5 =>
      some (.inl (j5.1, j5.2.1, j5.2.2.1, j5.2.2.2.1, j5.2.2.2.2.1, j5.2.2.2.2.2.1, j5.2.2.2.2.2.2.1, j5.2.2.2.2.2.2.2.1, j5.2.2.2.2.2.2.2.2.1, (IntKind.wrap .i64 (j5.2.2.2.2.2.2.2.2.2.1 + 1)), ()))
  else
    some (.inr (t0, t3, t6, t10, t11, t12, ()))
noncomputable def w_I_since_8 : PV S_S_string × PV S_S_int × PV (.int .i64) × PV S_int × PV S_S_string × PV (.int .i64) × PV (.int .i64) × PV S_int × PV (.int .i64) × PV (.int .i64) × Unit → Option ((PV S_S_string × PV S_S_int × PV S_int × PV S_S_string × PV (.int .i64) × PV (.int .i64) × Unit)) := fix fun d => b_I_since_8 d.1 d.2.1 d.2.2.1 d.2.2.2.1 d.2.2.2.2.1 d.2.2.2.2.2.1 d.2.2.2.2.2.2.1 d.2.2.2.2.2.2.2.1 d.2.2.2.2.2.2.2.2.1 d.2.2.2.2.2.2.2.2.2.1
noncomputable def lp_I_since_8 : Lp := ⟨⟨[], [0, 3, 4, 6, 10, 11, 12, 30, 31, 32]⟩, sh_I_since_8, o_I_since_8, fun d => b_I_since_8 d.1 d.2.1 d.2.2.1 d.2.2.2.1 d.2.2.2.2.1 d.2.2.2.2.2.1 d.2.2.2.2.2.2.1 d.2.2.2.2.2.2.2.1 d.2.2.2.2.2.2.2.2.1 d.2.2.2.2.2.2.2.2.2.1⟩
noncomputable def sh_I_since_3 : List Sh := mkSh 57 [(0, .val S_S_string .b), (3, .val S_S_int (.row (.row .b))), (10, .val S_S_string .b), (11, .val (.int .i64) .b), (12, .val (.int .i64) .b)]
noncomputable def o_I_since_3 : List Out := [⟨.exit 0, ⟨[], [3]⟩, mkSh 57 [(3, .val S_S_int (.row (.row .b)))]⟩]
noncomputable def b_I_since_3 (t0 : PV S_S_string) (t3 : PV S_S_int) (t10 : PV S_S_string) (t11 : PV (.int .i64)) (t12 : PV (.int .i64)) : Option ((PV S_S_string × PV S_S_int × PV S_S_string × PV (.int .i64) × PV (.int .i64) × Unit) ⊕ ((PV S_S_int × Unit))) :=
  bif (decide (t12 < t11)) then
    bif inB t12 t10.length then
      (f_slices_Repeat_int [t12] ((t10.getD t12.toNat []).length : Int)).bind fun r8 =>
        ((
            bif (decide (t12 > 0)) then
              bif inB (IntKind.wrap .i64 (t12 - 1)) t0.length then
                (f_I_mates (t0.getD ((IntKind.wrap .i64 (t12 - 1)).toNat) []) (t10.getD t12.toNat [])).bind fun r10 =>
                  (w_I_since_8 (t0, t3, t12, r8.1.1, t10, t11, t12, r10.1.1, (r10.1.1.length : Int), 0, ())).bind fun l11 =>
                    some (l11.1, l11.2.1, l11.2.2.1, l11.2.2.2.1, l11.2.2.2.2.1, l11.2.2.2.2.2.1, ())
              else
                none
            else
              some (t0, t3, r8.1.1, t10, t11, t12, ()) : Option ((PV S_S_string × PV S_S_int × PV S_int × PV S_S_string × PV (.int .i64) × PV (.int .i64) × Unit)))).bind fun j12 =>
          bif roomB (j12.2.1.length + [j12.2.2.1].length) then
            some (.inl (j12.1, (j12.2.1 ++ [j12.2.2.1]), j12.2.2.2.1, j12.2.2.2.2.1, (IntKind.wrap .i64 (j12.2.2.2.2.2.1 + 1)), ()))
          else
            none
    else
      none
  else
    some (.inr (t3, ()))
noncomputable def w_I_since_3 : PV S_S_string × PV S_S_int × PV S_S_string × PV (.int .i64) × PV (.int .i64) × Unit → Option ((PV S_S_int × Unit)) := fix fun d => b_I_since_3 d.1 d.2.1 d.2.2.1 d.2.2.2.1 d.2.2.2.2.1
noncomputable def lp_I_since_3 : Lp := ⟨⟨[], [0, 3, 10, 11, 12]⟩, sh_I_since_3, o_I_since_3, fun d => b_I_since_3 d.1 d.2.1 d.2.2.1 d.2.2.2.1 d.2.2.2.2.1⟩
noncomputable def pl_I_since : Plan := ⟨[(12, o_I_since_12), (13, o_I_since_13)], [(8, lp_I_since_8), (3, lp_I_since_3)], 0, 0⟩
noncomputable def f_I_since (t0 : PV S_S_string) : Option (PVs [S_S_int] × PVs []) :=
  (w_I_since_3 (t0, ([] : PV S_S_int), t0, (t0.length : Int), 0, ())).bind fun l14 =>
    some ((l14.1, ()), ())
noncomputable def ct_I_since : Ct := ⟨[(.bor, S_S_string)], [(S_S_int, true)], fun x => f_I_since x.1⟩
noncomputable def cx_I_since : Cx := ⟨tab, arrs, [(143, ct_I_mates), (144, ct_slices_Repeat_int)], []⟩
theorem eb_I_since_3 (t0 : PV S_S_string) (t3 : PV S_S_int) (t10 : PV S_S_string) (t11 : PV (.int .i64)) (t12 : PV (.int .i64)) : denK cx_I_since (rcN cx_I_since 0) pl_I_since 0 ((loopsOf (bodyOf Try.f108)).getD 0 .skip) (fillS sh_I_since_3 (t0, t3, t10, t11, t12, ())) (roundK 0 lp_I_since_3) = b_I_since_3 t0 t3 t10 t11 t12 := by kernel_rfl
theorem eb_I_since_8 (t0 : PV S_S_string) (t3 : PV S_S_int) (t4 : PV (.int .i64)) (t6 : PV S_int) (t10 : PV S_S_string) (t11 : PV (.int .i64)) (t12 : PV (.int .i64)) (t30 : PV S_int) (t31 : PV (.int .i64)) (t32 : PV (.int .i64)) : denK cx_I_since (rcN cx_I_since 0) pl_I_since 0 ((loopsOf (bodyOf Try.f108)).getD 1 .skip) (fillS sh_I_since_8 (t0, t3, t4, t6, t10, t11, t12, t30, t31, t32, ())) (roundK 0 lp_I_since_8) = b_I_since_8 t0 t3 t4 t6 t10 t11 t12 t30 t31 t32 := by kernel_rfl
theorem ef_I_since (t0 : PV S_S_string) : denF cx_I_since 0 pl_I_since Try.f108.ntmps (bodyOf Try.f108) Try.f108.results.toList [(.bor, S_S_string)] [(S_S_int, true)] (t0, ()) = f_I_since t0 := by kernel_rfl
theorem ok_I_since : FnOk Try.prog 108 ct_I_since :=
  fnOk (cx := cx_I_since) (pl := pl_I_since) (dp := 0) (ok0_of tabOk (by unfold ArrOk; kernel_rfl) mix ⟨ok_I_mates, ok_slices_Repeat_int, trivial⟩ trivial) Try.func108 (by kernel_rfl) (by kernel_rfl) (by kernel_rfl)
    (by rw [show loopsOf (bodyOf Try.f108) = [((loopsOf (bodyOf Try.f108)).getD 0 .skip), ((loopsOf (bodyOf Try.f108)).getD 1 .skip)] from by kernel_rfl]; exact ⟨(by rw [show lookup pl_I_since.loops (firstId ((loopsOf (bodyOf Try.f108)).getD 0 .skip)) = some lp_I_since_3 from by kernel_rfl]; exact fun d z h => (eb_I_since_3 d.1 d.2.1 d.2.2.1 d.2.2.2.1 d.2.2.2.2.1).trans h), (by rw [show lookup pl_I_since.loops (firstId ((loopsOf (bodyOf Try.f108)).getD 1 .skip)) = some lp_I_since_8 from by kernel_rfl]; exact fun d z h => (eb_I_since_8 d.1 d.2.1 d.2.2.1 d.2.2.2.1 d.2.2.2.2.1 d.2.2.2.2.2.1 d.2.2.2.2.2.2.1 d.2.2.2.2.2.2.2.1 d.2.2.2.2.2.2.2.2.1 d.2.2.2.2.2.2.2.2.2.1).trans h), trivial⟩) (fun x => ef_I_since x.1)
noncomputable def pl_I_SinceOf : Plan := ⟨[], [], 0, 0⟩
noncomputable def f_I_SinceOf (t0 : PV S_S_string) : Option (PVs [S_int, .bool] × PVs []) :=
  (f_I_areVersions t0).bind fun r4 =>
    bif (!r4.1.1) then
      some (([], false, ()), ())
    else
      (f_I_since t0).bind fun r5 =>
        bif inB (IntKind.wrap .i64 ((t0.length : Int) - 1)) r5.1.1.length then
          some (((r5.1.1.getD ((IntKind.wrap .i64 ((t0.length : Int) - 1)).toNat) []), true, ()), ())
        else
          none
noncomputable def ct_I_SinceOf : Ct := ⟨[(.bor, S_S_string)], [(S_int, true), (.bool, false)], fun x => f_I_SinceOf x.1⟩
noncomputable def cx_I_SinceOf : Cx := ⟨tab, arrs, [(85, ct_I_areVersions), (108, ct_I_since)], []⟩
theorem ef_I_SinceOf (t0 : PV S_S_string) : denF cx_I_SinceOf 0 pl_I_SinceOf Try.f65.ntmps (bodyOf Try.f65) Try.f65.results.toList [(.bor, S_S_string)] [(S_int, true), (.bool, false)] (t0, ()) = f_I_SinceOf t0 := by kernel_rfl
theorem ok_I_SinceOf : FnOk Try.prog 65 ct_I_SinceOf :=
  fnOk (cx := cx_I_SinceOf) (pl := pl_I_SinceOf) (dp := 0) (ok0_of tabOk (by unfold ArrOk; kernel_rfl) mix ⟨ok_I_areVersions, ok_I_since, trivial⟩ trivial) Try.func65 (by kernel_rfl) (by kernel_rfl) (by kernel_rfl)
    (by rw [show loopsOf (bodyOf Try.f65) = [] from by kernel_rfl]; exact trivial) (fun x => ef_I_SinceOf x.1)
noncomputable def o_L_FnExactSinceOf_9 : List Out := [⟨.normal, ⟨[], [0, 4, 5, 6, 7, 8, 40, 52, 53, 54, 55, 58, 59, 60, 84, 85, 86]⟩, mkSh 96 [(0, .val S_S_string .b), (4, .val S_int (.row .b)), (5, .val .bool .b), (6, .val S_S_string (.row (.row .b))), (7, .val S_int (.row .b)), (8, .val .bool .b), (40, .val .bool .b)]⟩]
noncomputable def o_L_FnExactSinceOf_15 : List Out := [⟨.normal, ⟨[], [0, 4, 5, 7, 61, 84, 85, 86]⟩, mkSh 96 [(0, .val S_S_string .b), (4, .val S_int (.row .b)), (5, .val .bool .b), (7, .val S_int (.row .b)), (61, .val .bool .b)]⟩]
noncomputable def o_L_FnExactSinceOf_26 : List Out := [⟨.normal, ⟨[], [7, 10, 87]⟩, mkSh 96 [(7, .val S_int (.row .b)), (10, .val (.int .i64) .b), (87, .val .bool .b)]⟩]
noncomputable def pl_L_FnExactSinceOf : Plan := ⟨[(9, o_L_FnExactSinceOf_9), (15, o_L_FnExactSinceOf_15), (26, o_L_FnExactSinceOf_26)], [], 0, 0⟩
noncomputable def f_L_FnExactSinceOf (t0 : PV S_S_string) : Option (PVs [.bool] × PVs []) :=
  (f_L_szStringSS t0 1048576).bind fun r2 =>
    bif (decide (r2.1.1 < 0)) then
      some ((true, ()), ())
    else
      (f_L_toStringSS t0).bind fun r5 =>
        (f_S_SinceOf r5.1.1).bind fun r6 =>
          (f_L_toStringSS t0).bind fun r8 =>
            (f_I_SinceOf r8.1.1).bind fun r10 =>
              ((
                  (f_L_eqIntS r10.1.1 r6.1.1).bind fun r14 =>
                    bif (!r14.1.1) then
                      some (t0, r6.1.1, r6.1.2.1, r8.1.1, r10.1.1, r10.1.2.1, true, ())
                    else
                      some (t0, r6.1.1, r6.1.2.1, r8.1.1, r10.1.1, r10.1.2.1, (!(r10.1.2.1 == r6.1.2.1)), ()) : Option ((PV S_S_string × PV S_int × PV .bool × PV S_S_string × PV S_int × PV .bool × PV .bool × Unit)))).bind fun j15 =>
                bif j15.2.2.2.2.2.2.1 then
                  some ((false, ()), ())
                else
                  (f_L_toStringSS j15.1).bind fun r22 =>
                    (f_L_eqStringSS j15.2.2.2.1 r22.1.1).bind fun r23 =>
                      bif (!r23.1.1) then
                        some ((false, ()), ())
                      else
                        (f_L_markStringSS j15.2.2.2.1 1).bind fun r25 =>
                          ((
                              bif (decide (r25.1.1 < 0)) then
                                some (j15.1, j15.2.1, j15.2.2.1, j15.2.2.2.2.1, true, ())
                              else
                                (f_L_eqIntS j15.2.2.2.2.1 j15.2.1).bind fun r29 =>
                                  bif (!r29.1.1) then
                                    some (j15.1, j15.2.1, j15.2.2.1, j15.2.2.2.2.1, true, ())
                                  else
                                    some (j15.1, j15.2.1, j15.2.2.1, j15.2.2.2.2.1, (!(j15.2.2.2.2.2.1 == j15.2.2.1)), ()) : Option ((PV S_S_string × PV S_int × PV .bool × PV S_int × PV .bool × Unit)))).bind fun j30 =>
                            bif j30.2.2.2.2.1 then
                              some ((false, ()), ())
                            else
                              (f_L_markIntS j30.2.2.2.1 1).bind fun r32 =>
                                (f_L_heldIntS r32.2.1 1).bind fun r34 =>
                                  bif (decide (r34.1.1 < 0)) then
                                    some ((false, ()), ())
                                  else
                                    bif (!(r34.1.1 == r32.1.1)) then
                                      some ((false, ()), ())
                                    else
                                      (f_L_toStringSS j30.1).bind fun r37 =>
                                        (f_I_SinceOf r37.1.1).bind fun r38 =>
                                          ((
                                              (f_L_eqIntS r38.1.1 j30.2.1).bind fun r42 =>
                                                bif (!r42.1.1) then
                                                  some (r32.2.1, r32.1.1, true, ())
                                                else
                                                  some (r32.2.1, r32.1.1, (!(r38.1.2.1 == j30.2.2.1)), ()) : Option ((PV S_int × PV (.int .i64) × PV .bool × Unit)))).bind fun j43 =>
                                            bif j43.2.2.1 then
                                              some ((false, ()), ())
                                            else
                                              (f_L_heldIntS j43.1 1).bind fun r45 =>
                                                bif (decide (r45.1.1 < 0)) then
                                                  some ((false, ()), ())
                                                else
                                                  bif (!(r45.1.1 == j43.2.1)) then
                                                    some ((false, ()), ())
                                                  else
                                                    some ((true, ()), ())
noncomputable def ct_L_FnExactSinceOf : Ct := ⟨[(.bor, S_S_string)], [(.bool, false)], fun x => f_L_FnExactSinceOf x.1⟩
noncomputable def cx_L_FnExactSinceOf : Cx := ⟨tab, arrs, [(34, ct_L_szStringSS), (36, ct_L_toStringSS), (39, ct_L_eqStringSS), (40, ct_L_markStringSS), (61, ct_L_eqIntS), (62, ct_L_markIntS), (63, ct_L_heldIntS), (64, ct_S_SinceOf), (65, ct_I_SinceOf)], []⟩
theorem ef_L_FnExactSinceOf (t0 : PV S_S_string) : denF cx_L_FnExactSinceOf 0 pl_L_FnExactSinceOf Try.f13.ntmps (bodyOf Try.f13) Try.f13.results.toList [(.bor, S_S_string)] [(.bool, false)] (t0, ()) = f_L_FnExactSinceOf t0 := by kernel_rfl
theorem ok_L_FnExactSinceOf : FnOk Try.prog 13 ct_L_FnExactSinceOf :=
  fnOk (cx := cx_L_FnExactSinceOf) (pl := pl_L_FnExactSinceOf) (dp := 0) (ok0_of tabOk (by unfold ArrOk; kernel_rfl) mix ⟨ok_L_szStringSS, ok_L_toStringSS, ok_L_eqStringSS, ok_L_markStringSS, ok_L_eqIntS, ok_L_markIntS, ok_L_heldIntS, ok_S_SinceOf, ok_I_SinceOf, trivial⟩ trivial) Try.func13 (by kernel_rfl) (by kernel_rfl) (by kernel_rfl)
    (by rw [show loopsOf (bodyOf Try.f13) = [] from by kernel_rfl]; exact trivial) (fun x => ef_L_FnExactSinceOf x.1)
noncomputable def o_S_LinesSince_2 : List Out := [⟨.normal, ⟨[], [0, 1, 19]⟩, mkSh 45 [(0, .val S_S_string .b), (1, .val (.int .i64) .b), (19, .val .bool .b)]⟩]
noncomputable def o_S_LinesSince_9 : List Out := [⟨.normal, ⟨[], [0, 1, 6, 21, 22, 23]⟩, mkSh 45 [(0, .val S_S_string .b), (1, .val (.int .i64) .b), (6, .val S_string (.row .b)), (21, .val S_int (.row .b)), (22, .val (.int .i64) .b), (23, .val (.int .i64) .b)]⟩]
noncomputable def sh_S_LinesSince_5 : List Sh := mkSh 45 [(0, .val S_S_string .b), (1, .val (.int .i64) .b), (6, .val S_string (.row .b)), (21, .val S_int (.row .b)), (22, .val (.int .i64) .b), (23, .val (.int .i64) .b)]
noncomputable def o_S_LinesSince_5 : List Out := [⟨.exit 0, ⟨[], [6]⟩, mkSh 45 [(6, .val S_string (.row .b))]⟩]
noncomputable def b_S_LinesSince_5 (t0 : PV S_S_string) (t1 : PV (.int .i64)) (t6 : PV S_string) (t21 : PV S_int) (t22 : PV (.int .i64)) (t23 : PV (.int .i64)) : Option ((PV S_S_string × PV (.int .i64) × PV S_string × PV S_int × PV (.int .i64) × PV (.int .i64) × Unit) ⊕ ((PV S_string × Unit))) :=
  bif (decide (t23 < t22)) then
    ((
        bif inB t23 t21.length then
          bif ((t21.getD t23.toNat (0 : Int)) == t1) then
            bif inB (IntKind.wrap .i64 ((t0.length : Int) - 1)) t0.length then
              bif inB t23 (t0.getD ((IntKind.wrap .i64 ((t0.length : Int) - 1)).toNat) []).length then
                bif roomB (t6.length + [((t0.getD ((IntKind.wrap .i64 ((t0.length : Int) - 1)).toNat) []).getD t23.toNat [])].length) then
                  some (t0, t1, (t6 ++ [((t0.getD ((IntKind.wrap .i64 ((t0.length : Int) - 1)).toNat) []).getD t23.toNat [])]), t21, t22, t23, ())
                else
                  none
              else
                none
            else
              none
          else
            some (t0, t1, t6, t21, t22, t23, ())
        else
          none : Option ((PV S_S_string × PV (.int .i64) × PV S_string × PV S_int × PV (.int .i64) × PV (.int .i64) × Unit)))).bind fun j11 =>
      some (.inl (j11.1, j11.2.1, j11.2.2.1, j11.2.2.2.1, j11.2.2.2.2.1, (IntKind.wrap .i64 (j11.2.2.2.2.2.1 + 1)), ()))
  else
    some (.inr (t6, ()))
noncomputable def w_S_LinesSince_5 : PV S_S_string × PV (.int .i64) × PV S_string × PV S_int × PV (.int .i64) × PV (.int .i64) × Unit → Option ((PV S_string × Unit)) := fix fun d => b_S_LinesSince_5 d.1 d.2.1 d.2.2.1 d.2.2.2.1 d.2.2.2.2.1 d.2.2.2.2.2.1
noncomputable def lp_S_LinesSince_5 : Lp := ⟨⟨[], [0, 1, 6, 21, 22, 23]⟩, sh_S_LinesSince_5, o_S_LinesSince_5, fun d => b_S_LinesSince_5 d.1 d.2.1 d.2.2.1 d.2.2.2.1 d.2.2.2.2.1 d.2.2.2.2.2.1⟩
noncomputable def pl_S_LinesSince : Plan := ⟨[(2, o_S_LinesSince_2), (9, o_S_LinesSince_9)], [(5, lp_S_LinesSince_5)], 0, 0⟩
noncomputable def f_S_LinesSince (t0 : PV S_S_string) (t1 : PV (.int .i64)) : Option (PVs [S_string, .bool] × PVs []) :=
  ((
      (f_S_l12Good t0).bind fun r6 =>
        bif (!r6.1.1) then
          some (t0, t1, true, ())
        else
          (f_S_l1In t1 0 (IntKind.wrap .i64 ((t0.length : Int) - 1))).bind fun r7 =>
            some (t0, t1, (!r7.1.1), ()) : Option ((PV S_S_string × PV (.int .i64) × PV .bool × Unit)))).bind fun j8 =>
    bif j8.2.2.1 then
      some (([], false, ()), ())
    else
      (f_S_l12Since j8.1).bind fun r14 =>
        (w_S_LinesSince_5 (j8.1, j8.2.1, [], r14.1.1, (r14.1.1.length : Int), 0, ())).bind fun l15 =>
          some ((l15.1, true, ()), ())
noncomputable def ct_S_LinesSince : Ct := ⟨[(.bor, S_S_string), (.bor, (.int .i64))], [(S_string, true), (.bool, false)], fun x => f_S_LinesSince x.1 x.2.1⟩
noncomputable def cx_S_LinesSince : Cx := ⟨tab, arrs, [(83, ct_S_l12Good), (99, ct_S_l1In), (107, ct_S_l12Since)], []⟩
theorem eb_S_LinesSince_5 (t0 : PV S_S_string) (t1 : PV (.int .i64)) (t6 : PV S_string) (t21 : PV S_int) (t22 : PV (.int .i64)) (t23 : PV (.int .i64)) : denK cx_S_LinesSince (rcN cx_S_LinesSince 0) pl_S_LinesSince 0 ((loopsOf (bodyOf Try.f66)).getD 0 .skip) (fillS sh_S_LinesSince_5 (t0, t1, t6, t21, t22, t23, ())) (roundK 0 lp_S_LinesSince_5) = b_S_LinesSince_5 t0 t1 t6 t21 t22 t23 := by kernel_rfl
theorem ef_S_LinesSince (t0 : PV S_S_string) (t1 : PV (.int .i64)) : denF cx_S_LinesSince 0 pl_S_LinesSince Try.f66.ntmps (bodyOf Try.f66) Try.f66.results.toList [(.bor, S_S_string), (.bor, (.int .i64))] [(S_string, true), (.bool, false)] (t0, t1, ()) = f_S_LinesSince t0 t1 := by kernel_rfl
theorem ok_S_LinesSince : FnOk Try.prog 66 ct_S_LinesSince :=
  fnOk (cx := cx_S_LinesSince) (pl := pl_S_LinesSince) (dp := 0) (ok0_of tabOk (by unfold ArrOk; kernel_rfl) mix ⟨ok_S_l12Good, ok_S_l1In, ok_S_l12Since, trivial⟩ trivial) Try.func66 (by kernel_rfl) (by kernel_rfl) (by kernel_rfl)
    (by rw [show loopsOf (bodyOf Try.f66) = [((loopsOf (bodyOf Try.f66)).getD 0 .skip)] from by kernel_rfl]; exact ⟨(by rw [show lookup pl_S_LinesSince.loops (firstId ((loopsOf (bodyOf Try.f66)).getD 0 .skip)) = some lp_S_LinesSince_5 from by kernel_rfl]; exact fun d z h => (eb_S_LinesSince_5 d.1 d.2.1 d.2.2.1 d.2.2.2.1 d.2.2.2.2.1 d.2.2.2.2.2.1).trans h), trivial⟩) (fun x => ef_S_LinesSince x.1 x.2.1)
noncomputable def o_I_LinesSince_3 : List Out := [⟨.normal, ⟨[], [0, 1, 6, 25]⟩, mkSh 51 [(0, .val S_S_string .b), (1, .val (.int .i64) .b), (6, .val S_int (.row .b)), (25, .val .bool .b)]⟩]
noncomputable def o_I_LinesSince_10 : List Out := [⟨.normal, ⟨[], [1, 6, 8, 32, 33, 34]⟩, mkSh 51 [(1, .val (.int .i64) .b), (6, .val S_int (.row .b)), (8, .val S_string (.row .b)), (32, .val S_string .b), (33, .val (.int .i64) .b), (34, .val (.int .i64) .b)]⟩]
noncomputable def sh_I_LinesSince_6 : List Sh := mkSh 51 [(1, .val (.int .i64) .b), (6, .val S_int (.row .b)), (8, .val S_string (.row .b)), (32, .val S_string .b), (33, .val (.int .i64) .b), (34, .val (.int .i64) .b)]
noncomputable def o_I_LinesSince_6 : List Out := [⟨.exit 0, ⟨[], [8]⟩, mkSh 51 [(8, .val S_string (.row .b))]⟩]
noncomputable def b_I_LinesSince_6 (t1 : PV (.int .i64)) (t6 : PV S_int) (t8 : PV S_string) (t32 : PV S_string) (t33 : PV (.int .i64)) (t34 : PV (.int .i64)) : Option ((PV (.int .i64) × PV S_int × PV S_string × PV S_string × PV (.int .i64) × PV (.int .i64) × Unit) ⊕ ((PV S_string × Unit))) :=
  bif (decide (t34 < t33)) then
    ((
        bif inB t34 t32.length then
          bif inB t34 t6.length then
            bif ((t6.getD t34.toNat (0 : Int)) == t1) then
              bif roomB (t8.length + [(t32.getD t34.toNat [])].length) then
                some (t1, t6, (t8 ++ [(t32.getD t34.toNat [])]), t32, t33, t34, ())
              else
                none
            else
              some (t1, t6, t8, t32, t33, t34, ())
          else
            none
        else
          none : Option ((PV (.int .i64) × PV S_int × PV S_string × PV S_string × PV (.int .i64) × PV (.int .i64) × Unit)))).bind fun j8 =>
      some (.inl (j8.1, j8.2.1, j8.2.2.1, j8.2.2.2.1, j8.2.2.2.2.1, (IntKind.wrap .i64 (j8.2.2.2.2.2.1 + 1)), ()))
  else
    some (.inr (t8, ()))
noncomputable def w_I_LinesSince_6 : PV (.int .i64) × PV S_int × PV S_string × PV S_string × PV (.int .i64) × PV (.int .i64) × Unit → Option ((PV S_string × Unit)) := fix fun d => b_I_LinesSince_6 d.1 d.2.1 d.2.2.1 d.2.2.2.1 d.2.2.2.2.1 d.2.2.2.2.2.1
noncomputable def lp_I_LinesSince_6 : Lp := ⟨⟨[], [1, 6, 8, 32, 33, 34]⟩, sh_I_LinesSince_6, o_I_LinesSince_6, fun d => b_I_LinesSince_6 d.1 d.2.1 d.2.2.1 d.2.2.2.1 d.2.2.2.2.1 d.2.2.2.2.2.1⟩
noncomputable def pl_I_LinesSince : Plan := ⟨[(3, o_I_LinesSince_3), (10, o_I_LinesSince_10)], [(6, lp_I_LinesSince_6)], 0, 0⟩
noncomputable def f_I_LinesSince (t0 : PV S_S_string) (t1 : PV (.int .i64)) : Option (PVs [S_string, .bool] × PVs []) :=
  (f_I_SinceOf t0).bind fun r2 =>
    ((
        bif (!r2.1.2.1) then
          some (t0, t1, r2.1.1, true, ())
        else
          (f_I_in t1 0 (IntKind.wrap .i64 ((t0.length : Int) - 1))).bind fun r6 =>
            some (t0, t1, r2.1.1, (!r6.1.1), ()) : Option ((PV S_S_string × PV (.int .i64) × PV S_int × PV .bool × Unit)))).bind fun j7 =>
      bif j7.2.2.2.1 then
        some (([], false, ()), ())
      else
        bif inB (IntKind.wrap .i64 ((j7.1.length : Int) - 1)) j7.1.length then
          (w_I_LinesSince_6 (j7.2.1, j7.2.2.1, ([] : PV S_string), (j7.1.getD ((IntKind.wrap .i64 ((j7.1.length : Int) - 1)).toNat) []), ((j7.1.getD ((IntKind.wrap .i64 ((j7.1.length : Int) - 1)).toNat) []).length : Int), 0, ())).bind fun l10 =>
            some ((l10.1, true, ()), ())
        else
          none
noncomputable def ct_I_LinesSince : Ct := ⟨[(.bor, S_S_string), (.bor, (.int .i64))], [(S_string, true), (.bool, false)], fun x => f_I_LinesSince x.1 x.2.1⟩
noncomputable def cx_I_LinesSince : Cx := ⟨tab, arrs, [(65, ct_I_SinceOf), (101, ct_I_in)], []⟩
theorem eb_I_LinesSince_6 (t1 : PV (.int .i64)) (t6 : PV S_int) (t8 : PV S_string) (t32 : PV S_string) (t33 : PV (.int .i64)) (t34 : PV (.int .i64)) : denK cx_I_LinesSince (rcN cx_I_LinesSince 0) pl_I_LinesSince 0 ((loopsOf (bodyOf Try.f67)).getD 0 .skip) (fillS sh_I_LinesSince_6 (t1, t6, t8, t32, t33, t34, ())) (roundK 0 lp_I_LinesSince_6) = b_I_LinesSince_6 t1 t6 t8 t32 t33 t34 := by kernel_rfl
theorem ef_I_LinesSince (t0 : PV S_S_string) (t1 : PV (.int .i64)) : denF cx_I_LinesSince 0 pl_I_LinesSince Try.f67.ntmps (bodyOf Try.f67) Try.f67.results.toList [(.bor, S_S_string), (.bor, (.int .i64))] [(S_string, true), (.bool, false)] (t0, t1, ()) = f_I_LinesSince t0 t1 := by kernel_rfl
theorem ok_I_LinesSince : FnOk Try.prog 67 ct_I_LinesSince :=
  fnOk (cx := cx_I_LinesSince) (pl := pl_I_LinesSince) (dp := 0) (ok0_of tabOk (by unfold ArrOk; kernel_rfl) mix ⟨ok_I_SinceOf, ok_I_in, trivial⟩ trivial) Try.func67 (by kernel_rfl) (by kernel_rfl) (by kernel_rfl)
    (by rw [show loopsOf (bodyOf Try.f67) = [((loopsOf (bodyOf Try.f67)).getD 0 .skip)] from by kernel_rfl]; exact ⟨(by rw [show lookup pl_I_LinesSince.loops (firstId ((loopsOf (bodyOf Try.f67)).getD 0 .skip)) = some lp_I_LinesSince_6 from by kernel_rfl]; exact fun d z h => (eb_I_LinesSince_6 d.1 d.2.1 d.2.2.1 d.2.2.2.1 d.2.2.2.2.1 d.2.2.2.2.2.1).trans h), trivial⟩) (fun x => ef_I_LinesSince x.1 x.2.1)
noncomputable def sh_L_heldStringS_2 : List Sh := mkSh 22 [(0, .val S_string .b), (1, .val (.int .i64) .b), (5, .val (.int .i64) .b)]
noncomputable def o_L_heldStringS_2 : List Out := [⟨.exit 0, ⟨[], [1]⟩, mkSh 22 [(1, .val (.int .i64) .b)]⟩, ⟨.ret, ⟨[], [4]⟩, mkSh 22 [(4, .val (.int .i64) .b)]⟩]
noncomputable def b_L_heldStringS_2 (t0 : PV S_string) (t1 : PV (.int .i64)) (t5 : PV (.int .i64)) : Option ((PV S_string × PV (.int .i64) × PV (.int .i64) × Unit) ⊕ ((PV (.int .i64) × Unit) ⊕ (PV (.int .i64) × Unit))) :=
  bif (decide (t5 < (t0.length : Int))) then
    bif inB t5 t0.length then
      (f_L_markText t1).bind fun r8 =>
        bif (!((t0.getD t5.toNat []) == r8.1.1)) then
          some (.inr (.inr ((-1), ())))
        else
          some (.inl (t0, (IntKind.wrap .i64 (t1 + 1)), (IntKind.wrap .i64 (t5 + 1)), ()))
    else
      none
  else
    some (.inr (.inl (t1, ())))
noncomputable def w_L_heldStringS_2 : PV S_string × PV (.int .i64) × PV (.int .i64) × Unit → Option ((PV (.int .i64) × Unit) ⊕ (PV (.int .i64) × Unit)) := fix fun d => b_L_heldStringS_2 d.1 d.2.1 d.2.2.1
noncomputable def lp_L_heldStringS_2 : Lp := ⟨⟨[], [0, 1, 5]⟩, sh_L_heldStringS_2, o_L_heldStringS_2, fun d => b_L_heldStringS_2 d.1 d.2.1 d.2.2.1⟩
noncomputable def pl_L_heldStringS : Plan := ⟨[], [(2, lp_L_heldStringS_2)], 0, 0⟩
noncomputable def f_L_heldStringS (t0 : PV S_string) (t1 : PV (.int .i64)) : Option (PVs [(.int .i64)] × PVs []) :=
  (w_L_heldStringS_2 (t0, t1, 0, ())).bind fun x13 =>
    match x13 with
    | .inl l11 =>
      some ((l11.1, ()), ())
    | .inr l12 =>
      some ((l12.1, ()), ())
noncomputable def ct_L_heldStringS : Ct := ⟨[(.bor, S_string), (.bor, (.int .i64))], [((.int .i64), false)], fun x => f_L_heldStringS x.1 x.2.1⟩
noncomputable def cx_L_heldStringS : Cx := ⟨tab, arrs, [(103, ct_L_markText)], []⟩
theorem eb_L_heldStringS_2 (t0 : PV S_string) (t1 : PV (.int .i64)) (t5 : PV (.int .i64)) : denK cx_L_heldStringS (rcN cx_L_heldStringS 0) pl_L_heldStringS 0 ((loopsOf (bodyOf Try.f56)).getD 0 .skip) (fillS sh_L_heldStringS_2 (t0, t1, t5, ())) (roundK 0 lp_L_heldStringS_2) = b_L_heldStringS_2 t0 t1 t5 := by kernel_rfl
theorem ef_L_heldStringS (t0 : PV S_string) (t1 : PV (.int .i64)) : denF cx_L_heldStringS 0 pl_L_heldStringS Try.f56.ntmps (bodyOf Try.f56) Try.f56.results.toList [(.bor, S_string), (.bor, (.int .i64))] [((.int .i64), false)] (t0, t1, ()) = f_L_heldStringS t0 t1 := by kernel_rfl
theorem ok_L_heldStringS : FnOk Try.prog 56 ct_L_heldStringS :=
  fnOk (cx := cx_L_heldStringS) (pl := pl_L_heldStringS) (dp := 0) (ok0_of tabOk (by unfold ArrOk; kernel_rfl) mix ⟨ok_L_markText, trivial⟩ trivial) Try.func56 (by kernel_rfl) (by kernel_rfl) (by kernel_rfl)
    (by rw [show loopsOf (bodyOf Try.f56) = [((loopsOf (bodyOf Try.f56)).getD 0 .skip)] from by kernel_rfl]; exact ⟨(by rw [show lookup pl_L_heldStringS.loops (firstId ((loopsOf (bodyOf Try.f56)).getD 0 .skip)) = some lp_L_heldStringS_2 from by kernel_rfl]; exact fun d z h => (eb_L_heldStringS_2 d.1 d.2.1 d.2.2.1).trans h), trivial⟩) (fun x => ef_L_heldStringS x.1 x.2.1)
noncomputable def o_L_FnExactLinesSince_9 : List Out := [⟨.normal, ⟨[], [0, 1, 6, 7, 8, 9, 10, 44, 56, 57, 58, 59, 62, 63, 64, 89, 90, 91]⟩, mkSh 101 [(0, .val S_S_string .b), (1, .val (.int .i64) .b), (6, .val S_string (.row .b)), (7, .val .bool .b), (8, .val S_S_string (.row (.row .b))), (9, .val S_string (.row .b)), (10, .val .bool .b), (44, .val .bool .b)]⟩]
noncomputable def o_L_FnExactLinesSince_15 : List Out := [⟨.normal, ⟨[], [0, 1, 6, 7, 9, 65, 89, 90, 91]⟩, mkSh 101 [(0, .val S_S_string .b), (1, .val (.int .i64) .b), (6, .val S_string (.row .b)), (7, .val .bool .b), (9, .val S_string (.row .b)), (65, .val .bool .b)]⟩]
noncomputable def o_L_FnExactLinesSince_26 : List Out := [⟨.normal, ⟨[], [9, 12, 92]⟩, mkSh 101 [(9, .val S_string (.row .b)), (12, .val (.int .i64) .b), (92, .val .bool .b)]⟩]
noncomputable def pl_L_FnExactLinesSince : Plan := ⟨[(9, o_L_FnExactLinesSince_9), (15, o_L_FnExactLinesSince_15), (26, o_L_FnExactLinesSince_26)], [], 0, 0⟩
noncomputable def f_L_FnExactLinesSince (t0 : PV S_S_string) (t1 : PV (.int .i64)) : Option (PVs [.bool] × PVs []) :=
  (f_L_szStringSS t0 1048576).bind fun r2 =>
    bif (decide (r2.1.1 < 0)) then
      some ((true, ()), ())
    else
      (f_L_toStringSS t0).bind fun r5 =>
        (f_S_LinesSince r5.1.1 t1).bind fun r6 =>
          (f_L_toStringSS t0).bind fun r8 =>
            (f_I_LinesSince r8.1.1 t1).bind fun r10 =>
              ((
                  (f_L_eqStringS r10.1.1 r6.1.1).bind fun r14 =>
                    bif (!r14.1.1) then
                      some (t0, t1, r6.1.1, r6.1.2.1, r8.1.1, r10.1.1, r10.1.2.1, true, ())
                    else
                      some (t0, t1, r6.1.1, r6.1.2.1, r8.1.1, r10.1.1, r10.1.2.1, (!(r10.1.2.1 == r6.1.2.1)), ()) : Option ((PV S_S_string × PV (.int .i64) × PV S_string × PV .bool × PV S_S_string × PV S_string × PV .bool × PV .bool × Unit)))).bind fun j15 =>
                bif j15.2.2.2.2.2.2.2.1 then
                  some ((false, ()), ())
                else
                  (f_L_toStringSS j15.1).bind fun r22 =>
                    (f_L_eqStringSS j15.2.2.2.2.1 r22.1.1).bind fun r23 =>
                      bif (!r23.1.1) then
                        some ((false, ()), ())
                      else
                        (f_L_markStringSS j15.2.2.2.2.1 1).bind fun r25 =>
                          ((
                              bif (decide (r25.1.1 < 0)) then
                                some (j15.1, j15.2.1, j15.2.2.1, j15.2.2.2.1, j15.2.2.2.2.2.1, true, ())
                              else
                                (f_L_eqStringS j15.2.2.2.2.2.1 j15.2.2.1).bind fun r29 =>
                                  bif (!r29.1.1) then
                                    some (j15.1, j15.2.1, j15.2.2.1, j15.2.2.2.1, j15.2.2.2.2.2.1, true, ())
                                  else
                                    some (j15.1, j15.2.1, j15.2.2.1, j15.2.2.2.1, j15.2.2.2.2.2.1, (!(j15.2.2.2.2.2.2.1 == j15.2.2.2.1)), ()) : Option ((PV S_S_string × PV (.int .i64) × PV S_string × PV .bool × PV S_string × PV .bool × Unit)))).bind fun j30 =>
                            bif j30.2.2.2.2.2.1 then
                              some ((false, ()), ())
                            else
                              (f_L_markStringS j30.2.2.2.2.1 1).bind fun r32 =>
                                (f_L_heldStringS r32.2.1 1).bind fun r34 =>
                                  bif (decide (r34.1.1 < 0)) then
                                    some ((false, ()), ())
                                  else
                                    bif (!(r34.1.1 == r32.1.1)) then
                                      some ((false, ()), ())
                                    else
                                      (f_L_toStringSS j30.1).bind fun r37 =>
                                        (f_I_LinesSince r37.1.1 j30.2.1).bind fun r38 =>
                                          ((
                                              (f_L_eqStringS r38.1.1 j30.2.2.1).bind fun r42 =>
                                                bif (!r42.1.1) then
                                                  some (r32.2.1, r32.1.1, true, ())
                                                else
                                                  some (r32.2.1, r32.1.1, (!(r38.1.2.1 == j30.2.2.2.1)), ()) : Option ((PV S_string × PV (.int .i64) × PV .bool × Unit)))).bind fun j43 =>
                                            bif j43.2.2.1 then
                                              some ((false, ()), ())
                                            else
                                              (f_L_heldStringS j43.1 1).bind fun r45 =>
                                                bif (decide (r45.1.1 < 0)) then
                                                  some ((false, ()), ())
                                                else
                                                  bif (!(r45.1.1 == j43.2.1)) then
                                                    some ((false, ()), ())
                                                  else
                                                    some ((true, ()), ())
noncomputable def ct_L_FnExactLinesSince : Ct := ⟨[(.bor, S_S_string), (.bor, (.int .i64))], [(.bool, false)], fun x => f_L_FnExactLinesSince x.1 x.2.1⟩
noncomputable def cx_L_FnExactLinesSince : Cx := ⟨tab, arrs, [(33, ct_L_eqStringS), (34, ct_L_szStringSS), (36, ct_L_toStringSS), (39, ct_L_eqStringSS), (40, ct_L_markStringSS), (55, ct_L_markStringS), (56, ct_L_heldStringS), (66, ct_S_LinesSince), (67, ct_I_LinesSince)], []⟩
theorem ef_L_FnExactLinesSince (t0 : PV S_S_string) (t1 : PV (.int .i64)) : denF cx_L_FnExactLinesSince 0 pl_L_FnExactLinesSince Try.f14.ntmps (bodyOf Try.f14) Try.f14.results.toList [(.bor, S_S_string), (.bor, (.int .i64))] [(.bool, false)] (t0, t1, ()) = f_L_FnExactLinesSince t0 t1 := by kernel_rfl
theorem ok_L_FnExactLinesSince : FnOk Try.prog 14 ct_L_FnExactLinesSince :=
  fnOk (cx := cx_L_FnExactLinesSince) (pl := pl_L_FnExactLinesSince) (dp := 0) (ok0_of tabOk (by unfold ArrOk; kernel_rfl) mix ⟨ok_L_eqStringS, ok_L_szStringSS, ok_L_toStringSS, ok_L_eqStringSS, ok_L_markStringSS, ok_L_markStringS, ok_L_heldStringS, ok_S_LinesSince, ok_I_LinesSince, trivial⟩ trivial) Try.func14 (by kernel_rfl) (by kernel_rfl) (by kernel_rfl)
    (by rw [show loopsOf (bodyOf Try.f14) = [] from by kernel_rfl]; exact trivial) (fun x => ef_L_FnExactLinesSince x.1 x.2.1)
end R
