/- The functions, part 2. -/
import Derived.Test.YtoaajkedncghgaaGreatDoorPaA1
open Go Go.Dn Go.Proofs
namespace R
set_option linter.unusedVariables false
set_option maxRecDepth 20000
open Go.Shelf
noncomputable def o_I_takeGroup_8 : List Out := [⟨.normal, ⟨[], [0, 2, 8, 11, 13, 14, 15, 69, 76, 77, 103, 104, 105, 106, 142, 143], []⟩, mkSh 145 [(0, .val S_string .b), (2, .var Y_impl_Group (.pr .b (.pr .b (.pr (.row (.pr .b (.pr .b .b))) .b)))), (8, .val .str .b), (11, .val .str .b), (13, .var Y_impl_Group (.pr .b (.pr .b (.pr (.row (.pr .b (.pr .b .b))) .b)))), (14, .val (.int .i64) .b), (15, .val (.int .i64) .b), (69, .val .bool .b)]⟩]
noncomputable def o_I_takeGroup_11 : List Out := [⟨.exit 0, ⟨[], [0, 2, 8, 11, 13, 14, 15, 142, 143], []⟩, mkSh 145 [(0, .val S_string .b), (2, .var Y_impl_Group (.pr .b (.pr .b (.pr (.row (.pr .b (.pr .b .b))) .b)))), (8, .val .str .b), (11, .val .str .b), (13, .var Y_impl_Group (.pr .b (.pr .b (.pr (.row (.pr .b (.pr .b .b))) .b)))), (14, .val (.int .i64) .b), (15, .val (.int .i64) .b)]⟩, ⟨.normal, ⟨[], [0, 2, 8, 11, 13, 14, 15, 103, 104, 105, 106, 142, 143], []⟩, mkSh 145 [(0, .val S_string .b), (2, .var Y_impl_Group (.pr .b (.pr .b (.pr (.row (.pr .b (.pr .b .b))) .b)))), (8, .val .str .b), (11, .val .str .b), (13, .var Y_impl_Group (.pr .b (.pr .b (.pr (.row (.pr .b (.pr .b .b))) .b)))), (14, .val (.int .i64) .b), (15, .val (.int .i64) .b)]⟩]
noncomputable def o_I_takeGroup_18 : List Out := [⟨.normal, ⟨[], [0, 2, 8, 11, 13, 14, 15, 18, 76, 77, 107, 142, 143], []⟩, mkSh 145 [(0, .val S_string .b), (2, .var Y_impl_Group (.pr .b (.pr .b (.pr (.row (.pr .b (.pr .b .b))) .b)))), (8, .val .str .b), (11, .val .str .b), (13, .var Y_impl_Group (.pr .b (.pr .b (.pr (.row (.pr .b (.pr .b .b))) .b)))), (14, .val (.int .i64) .b), (15, .val (.int .i64) .b), (18, .var Y_impl_Row .b), (107, .val .bool .b)]⟩]
noncomputable def o_I_takeGroup_19 : List Out := [⟨.normal, ⟨[(18, .b)], [0, 2, 8, 11, 13, 14, 15, 18, 76, 77, 103, 104, 105, 106, 142, 143], []⟩, mkSh 145 [(0, .val S_string .b), (2, .var Y_impl_Group (.pr .b (.pr .b (.pr (.row (.pr .b (.pr .b .b))) .b)))), (8, .val .str .b), (11, .val .str .b), (13, .var Y_impl_Group (.pr .b (.pr .b (.pr (.row (.pr .b (.pr .b .b))) .b)))), (14, .val (.int .i64) .b), (15, .val (.int .i64) .b), (18, .var Y_impl_Row .b)]⟩]
noncomputable def o_I_takeGroup_21 : List Out := [⟨.normal, ⟨[], [0, 2, 8, 11, 13, 14, 15, 18, 76, 77, 103, 104, 105, 106, 142, 143], []⟩, mkSh 145 [(0, .val S_string .b), (2, .var Y_impl_Group (.pr .b (.pr .b (.pr (.row (.pr .b (.pr .b .b))) .b)))), (8, .val .str .b), (11, .val .str .b), (13, .var Y_impl_Group (.pr .b (.pr .b (.pr (.row (.pr .b (.pr .b .b))) .b)))), (14, .val (.int .i64) .b), (15, .val (.int .i64) .b), (18, .var Y_impl_Row .b)]⟩]
noncomputable def o_I_takeGroup_23 : List Out := [⟨.normal, ⟨[], [0, 2, 8, 11, 13, 14, 15, 18, 76, 77, 103, 104, 105, 106, 142, 143], []⟩, mkSh 145 [(0, .val S_string .b), (2, .var Y_impl_Group (.pr .b (.pr .b (.pr (.row (.pr .b (.pr .b .b))) .b)))), (8, .val .str .b), (11, .val .str .b), (13, .var Y_impl_Group (.pr .b (.pr .b (.pr (.row (.pr .b (.pr .b .b))) .b)))), (14, .val (.int .i64) .b), (15, .val (.int .i64) .b), (18, .var Y_impl_Row .b)]⟩]
noncomputable def sh_I_takeGroup_10 : List Sh := mkSh 145 [(0, .val S_string .b), (2, .var Y_impl_Group (.pr .b (.pr .b (.pr (.row (.pr .b (.pr .b .b))) .b)))), (8, .val .str .b), (11, .val .str .b), (13, .var Y_impl_Group (.pr .b (.pr .b (.pr (.row (.pr .b (.pr .b .b))) .b)))), (14, .val (.int .i64) .b), (15, .val (.int .i64) .b)]
noncomputable def o_I_takeGroup_10 : List Out := [⟨.exit 0, ⟨[], [0, 2, 8, 11, 13, 14, 15, 142, 143], []⟩, mkSh 145 [(0, .val S_string .b), (2, .var Y_impl_Group (.pr .b (.pr .b (.pr (.row (.pr .b (.pr .b .b))) .b)))), (8, .val .str .b), (11, .val .str .b), (13, .var Y_impl_Group (.pr .b (.pr .b (.pr (.row (.pr .b (.pr .b .b))) .b)))), (14, .val (.int .i64) .b), (15, .val (.int .i64) .b)]⟩, ⟨.ret, ⟨[], [2, 3, 4, 5], []⟩, mkSh 145 [(2, .var Y_impl_Group (.pr .b (.pr .b (.pr (.row (.pr .b (.pr .b .b))) .b)))), (3, .val .str .b), (4, .val S_string (.row .b)), (5, .val .bool .b)]⟩]
noncomputable def b_I_takeGroup_10 (t0 : PV S_string) (t2 : PV Y_impl_Group) (t8 : PV .str) (t11 : PV .str) (t13 : PV Y_impl_Group) (t14 : PV (.int .i64)) (t15 : PV (.int .i64)) : Option ((PV S_string × PV Y_impl_Group × PV .str × PV .str × PV Y_impl_Group × PV (.int .i64) × PV (.int .i64) × Unit) ⊕ ((PV S_string × PV Y_impl_Group × PV .str × PV .str × PV Y_impl_Group × PV (.int .i64) × PV (.int .i64) × Unit) ⊕ (PV Y_impl_Group × PV .str × PV S_string × PV .bool × Unit))) :=
  ((
      bif (decide (t14 > 0)) then
        some (.inr (t0, t2, t8, t11, t13, t14, t15, ()))
      else
        bif (decide (t15 > 0)) then
          some (.inr (t0, t2, t8, t11, t13, t14, t15, ()))
        else
          some (.inl (t0, t2, t8, t11, t13, t14, t15, ())) : Option ((PV S_string × PV Y_impl_Group × PV .str × PV .str × PV Y_impl_Group × PV (.int .i64) × PV (.int .i64) × Unit) ⊕ (PV S_string × PV Y_impl_Group × PV .str × PV .str × PV Y_impl_Group × PV (.int .i64) × PV (.int .i64) × Unit)))).bind fun x28 =>
    match x28 with
    | .inl j13 =>
      some (.inr (.inl (j13.1, j13.2.1, j13.2.2.1, j13.2.2.2.1, j13.2.2.2.2.1, j13.2.2.2.2.2.1, j13.2.2.2.2.2.2.1, ())))
    | .inr j14 =>
      bif ((j14.1.length : Int) == 0) then
        some (.inr (.inr ((0, (0, (([] : PV S_impl_Row), ()))), [], [], false, ())))
      else
        bif inB 0 j14.1.length then
          bif inB 0 (j14.1.getD ((0 : Int).toNat) []).length then
            (f_strings_IndexByte [63, 32, 45, 43] (((j14.1.getD ((0 : Int).toNat) []).getD (0 : Int).toNat 0).toNat : Int)).bind fun r16 =>
              bif inB 0 j14.1.length then
                bif cutB 1 ((j14.1.getD ((0 : Int).toNat) []).length : Int) (j14.1.getD ((0 : Int).toNat) []).length then
                  bif cutB 1 (j14.1.length : Int) j14.1.length then
                    bif (decide (r16.1.1 < 1)) then
                      some (.inr (.inr ((0, (0, (([] : PV S_impl_Row), ()))), [], [], false, ())))
                    else
                      ((
                          ((
                              bif (decide (((cutL 1 (j14.1.length : Int) j14.1).length : Int) > 0)) then
                                bif inB 0 (cutL 1 (j14.1.length : Int) j14.1).length then
                                  some ((cutL 1 (j14.1.length : Int) j14.1), j14.2.1, j14.2.2.1, j14.2.2.2.1, j14.2.2.2.2.1, j14.2.2.2.2.2.1, j14.2.2.2.2.2.2.1, (r16.1.1, ((cutL 1 ((j14.1.getD ((0 : Int).toNat) []).length : Int) (j14.1.getD ((0 : Int).toNat) [])), ())), (((cutL 1 (j14.1.length : Int) j14.1).getD ((0 : Int).toNat) []) == [92, 32, 110, 111, 110, 101, 10]), ())
                                else
                                  none
                              else
                                some ((cutL 1 (j14.1.length : Int) j14.1), j14.2.1, j14.2.2.1, j14.2.2.2.1, j14.2.2.2.2.1, j14.2.2.2.2.2.1, j14.2.2.2.2.2.2.1, (r16.1.1, ((cutL 1 ((j14.1.getD ((0 : Int).toNat) []).length : Int) (j14.1.getD ((0 : Int).toNat) [])), ())), false, ()) : Option ((PV S_string × PV Y_impl_Group × PV .str × PV .str × PV Y_impl_Group × PV (.int .i64) × PV (.int .i64) × PV Y_impl_Row × PV .bool × Unit)))).bind fun j17 =>
                            bif j17.2.2.2.2.2.2.2.2.1 then
                              (f_I_plain j17.2.2.2.2.2.2.2.1.2.1).bind fun r18 =>
                                bif cutB 1 (j17.1.length : Int) j17.1.length then
                                  some ((cutL 1 (j17.1.length : Int) j17.1), j17.2.1, j17.2.2.1, j17.2.2.2.1, j17.2.2.2.2.1, j17.2.2.2.2.2.1, j17.2.2.2.2.2.2.1, (j17.2.2.2.2.2.2.2.1.1, (r18.1.1, j17.2.2.2.2.2.2.2.1.2.2)), ())
                                else
                                  none
                            else
                              some (j17.1, j17.2.1, j17.2.2.1, j17.2.2.2.1, j17.2.2.2.2.1, j17.2.2.2.2.2.1, j17.2.2.2.2.2.2.1, j17.2.2.2.2.2.2.2.1, ()) : Option ((PV S_string × PV Y_impl_Group × PV .str × PV .str × PV Y_impl_Group × PV (.int .i64) × PV (.int .i64) × PV Y_impl_Row × Unit)))).bind fun j19 =>
                        ((
                            bif (!(j19.2.2.2.2.2.2.2.1.1 == 3)) then
                              some (j19.1, j19.2.1, j19.2.2.1, j19.2.2.2.1, j19.2.2.2.2.1, (IntKind.wrap .i64 (j19.2.2.2.2.2.1 - 1)), j19.2.2.2.2.2.2.1, j19.2.2.2.2.2.2.2.1, ())
                            else
                              some (j19.1, j19.2.1, j19.2.2.1, j19.2.2.2.1, j19.2.2.2.2.1, j19.2.2.2.2.2.1, j19.2.2.2.2.2.2.1, j19.2.2.2.2.2.2.2.1, ()) : Option ((PV S_string × PV Y_impl_Group × PV .str × PV .str × PV Y_impl_Group × PV (.int .i64) × PV (.int .i64) × PV Y_impl_Row × Unit)))).bind fun j20 =>
                          ((
                              bif (!(j20.2.2.2.2.2.2.2.1.1 == 2)) then
                                some (j20.1, j20.2.1, j20.2.2.1, j20.2.2.2.1, j20.2.2.2.2.1, j20.2.2.2.2.2.1, (IntKind.wrap .i64 (j20.2.2.2.2.2.2.1 - 1)), j20.2.2.2.2.2.2.2.1, ())
                              else
                                some (j20.1, j20.2.1, j20.2.2.1, j20.2.2.2.1, j20.2.2.2.2.1, j20.2.2.2.2.2.1, j20.2.2.2.2.2.2.1, j20.2.2.2.2.2.2.2.1, ()) : Option ((PV S_string × PV Y_impl_Group × PV .str × PV .str × PV Y_impl_Group × PV (.int .i64) × PV (.int .i64) × PV Y_impl_Row × Unit)))).bind fun j21 =>
                            bif roomB (j21.2.2.2.2.1.2.2.1.length + [j21.2.2.2.2.2.2.2.1].length) then
                              some (.inl (j21.1, j21.2.1, j21.2.2.1, j21.2.2.2.1, (j21.2.2.2.2.1.1, (j21.2.2.2.2.1.2.1, ((j21.2.2.2.2.1.2.2.1 ++ [j21.2.2.2.2.2.2.2.1]), j21.2.2.2.2.1.2.2.2))), j21.2.2.2.2.2.1, j21.2.2.2.2.2.2.1, ()))
                            else
                              none
                  else
                    none
                else
                  none
              else
                none
          else
            none
        else
          none
noncomputable def w_I_takeGroup_10 : PV S_string × PV Y_impl_Group × PV .str × PV .str × PV Y_impl_Group × PV (.int .i64) × PV (.int .i64) × Unit → Option ((PV S_string × PV Y_impl_Group × PV .str × PV .str × PV Y_impl_Group × PV (.int .i64) × PV (.int .i64) × Unit) ⊕ (PV Y_impl_Group × PV .str × PV S_string × PV .bool × Unit)) := fix fun d => b_I_takeGroup_10 d.1 d.2.1 d.2.2.1 d.2.2.2.1 d.2.2.2.2.1 d.2.2.2.2.2.1 d.2.2.2.2.2.2.1
noncomputable def lp_I_takeGroup_10 : Lp := ⟨⟨[], [0, 2, 8, 11, 13, 14, 15, 76, 77, 103, 104, 105, 106, 142, 143], []⟩, sh_I_takeGroup_10, o_I_takeGroup_10, fun d => b_I_takeGroup_10 d.1 d.2.1 d.2.2.1 d.2.2.2.1 d.2.2.2.2.1 d.2.2.2.2.2.1 d.2.2.2.2.2.2.1⟩
noncomputable def pl_I_takeGroup : Plan := ⟨[(8, o_I_takeGroup_8), (11, o_I_takeGroup_11), (18, o_I_takeGroup_18), (19, o_I_takeGroup_19), (21, o_I_takeGroup_21), (23, o_I_takeGroup_23)], [(10, lp_I_takeGroup_10)], 0, 0⟩
noncomputable def f_I_takeGroup (t0 : PV S_string) : Option (PVs [Y_impl_Group, .str, S_string, .bool] × PVs []) :=
  bif inB 0 t0.length then
    (f_strings_CutPrefix (t0.getD ((0 : Int).toNat) []) [64, 64, 32, 45]).bind fun r2 =>
      (f_strings_Cut r2.1.1 [32, 43]).bind fun r4 =>
        (f_strings_CutSuffix r4.1.2.1 [32, 64, 64, 10]).bind fun r6 =>
          (f_I_ReadCount r4.1.1).bind fun r8 =>
            (f_I_ReadCount r6.1.1).bind fun r10 =>
              ((
                  bif (!r2.1.2.1) then
                    some (t0, (0, (0, (([] : PV S_impl_Row), ()))), r4.1.1, r6.1.1, (r8.1.1, (r10.1.1, (([] : PV S_impl_Row), ()))), r8.1.2.1, r10.1.2.1, true, ())
                  else
                    bif (!r4.1.2.2.1) then
                      some (t0, (0, (0, (([] : PV S_impl_Row), ()))), r4.1.1, r6.1.1, (r8.1.1, (r10.1.1, (([] : PV S_impl_Row), ()))), r8.1.2.1, r10.1.2.1, true, ())
                    else
                      bif (!r6.1.2.1) then
                        some (t0, (0, (0, (([] : PV S_impl_Row), ()))), r4.1.1, r6.1.1, (r8.1.1, (r10.1.1, (([] : PV S_impl_Row), ()))), r8.1.2.1, r10.1.2.1, true, ())
                      else
                        bif (!r8.1.2.2.1) then
                          some (t0, (0, (0, (([] : PV S_impl_Row), ()))), r4.1.1, r6.1.1, (r8.1.1, (r10.1.1, (([] : PV S_impl_Row), ()))), r8.1.2.1, r10.1.2.1, true, ())
                        else
                          some (t0, (0, (0, (([] : PV S_impl_Row), ()))), r4.1.1, r6.1.1, (r8.1.1, (r10.1.1, (([] : PV S_impl_Row), ()))), r8.1.2.1, r10.1.2.1, (!r10.1.2.2.1), ()) : Option ((PV S_string × PV Y_impl_Group × PV .str × PV .str × PV Y_impl_Group × PV (.int .i64) × PV (.int .i64) × PV .bool × Unit)))).bind fun j12 =>
                bif j12.2.2.2.2.2.2.2.1 then
                  some (((0, (0, (([] : PV S_impl_Row), ()))), [], [], false, ()), ())
                else
                  bif cutB 1 (j12.1.length : Int) j12.1.length then
                    (w_I_takeGroup_10 ((cutL 1 (j12.1.length : Int) j12.1), j12.2.1, j12.2.2.1, j12.2.2.2.1, j12.2.2.2.2.1, j12.2.2.2.2.2.1, j12.2.2.2.2.2.2.1, ())).bind fun x29 =>
                      match x29 with
                      | .inl l24 =>
                        (f_I_headText l24.2.2.1 l24.2.2.2.1).bind fun r25 =>
                          (f_I_rowsText l24.2.2.2.2.1.2.2.1).bind fun r26 =>
                            bif decide (r25.1.1.length + r26.1.1.length ≤ 1099511627776) then
                              bif (l24.2.2.2.2.2.1 == 0) then
                                some ((l24.2.2.2.2.1, (r25.1.1 ++ r26.1.1), l24.1, (l24.2.2.2.2.2.2.1 == 0), ()), ())
                              else
                                some ((l24.2.2.2.2.1, (r25.1.1 ++ r26.1.1), l24.1, false, ()), ())
                            else
                              none
                      | .inr l27 =>
                        some ((l27.1, l27.2.1, l27.2.2.1, l27.2.2.2.1, ()), ())
                  else
                    none
  else
    none
noncomputable def ct_I_takeGroup : Ct := ⟨[(.bor, S_string)], [(Y_impl_Group, (.pr .b (.pr .b (.pr (.row (.pr .b (.pr .b .b))) .b)))), (.str, .b), (S_string, .b), (.bool, .b)], fun x => f_I_takeGroup x.1⟩
noncomputable def cx_I_takeGroup : Cx := ⟨tab, arrs, [(156, ct_I_plain), (198, ct_I_headText), (200, ct_I_rowsText), (218, ct_strings_CutPrefix), (219, ct_strings_Cut), (220, ct_strings_CutSuffix), (221, ct_I_ReadCount), (222, ct_strings_IndexByte)], [], gl, []⟩
theorem eb_I_takeGroup_10 (t0 : PV S_string) (t2 : PV Y_impl_Group) (t8 : PV .str) (t11 : PV .str) (t13 : PV Y_impl_Group) (t14 : PV (.int .i64)) (t15 : PV (.int .i64)) : denK cx_I_takeGroup (rcN cx_I_takeGroup 0) pl_I_takeGroup 0 ((loopsOf (bodyOf Tryz.f145)).getD 0 .skip) (fillS sh_I_takeGroup_10 (t0, t2, t8, t11, t13, t14, t15, ())) (roundK 0 lp_I_takeGroup_10) = b_I_takeGroup_10 t0 t2 t8 t11 t13 t14 t15 := by kernel_rfl
theorem ef_I_takeGroup (t0 : PV S_string) : denF cx_I_takeGroup 0 pl_I_takeGroup Tryz.f145.ntmps (bodyOf Tryz.f145) Tryz.f145.results.toList [(.bor, S_string)] [(Y_impl_Group, (.pr .b (.pr .b (.pr (.row (.pr .b (.pr .b .b))) .b)))), (.str, .b), (S_string, .b), (.bool, .b)] (t0, ()) = f_I_takeGroup t0 := by kernel_rfl
theorem ok_I_takeGroup : FnOk gl Tryz.prog 145 ct_I_takeGroup :=
  fnOk (cx := cx_I_takeGroup) (pl := pl_I_takeGroup) (dp := 0) (ok0_of tabOk (by unfold ArrOk; kernel_rfl) mix ⟨ok_I_plain, ok_I_headText, ok_I_rowsText, ok_strings_CutPrefix, ok_strings_Cut, ok_strings_CutSuffix, ok_I_ReadCount, ok_strings_IndexByte, trivial⟩ trivial) Tryz.func145 (by kernel_rfl) (by kernel_rfl) (by kernel_rfl)
    (by rw [show loopsOf (bodyOf Tryz.f145) = [((loopsOf (bodyOf Tryz.f145)).getD 0 .skip)] from by kernel_rfl]; exact ⟨(by rw [show lookup pl_I_takeGroup.loops (firstId ((loopsOf (bodyOf Tryz.f145)).getD 0 .skip)) = some lp_I_takeGroup_10 from by kernel_rfl]; exact fun d z h => (eb_I_takeGroup_10 d.1 d.2.1 d.2.2.1 d.2.2.2.1 d.2.2.2.2.1 d.2.2.2.2.2.1 d.2.2.2.2.2.2.1).trans h), trivial⟩) (fun x => ef_I_takeGroup x.1)
noncomputable def o_I_readUnified_5 : List Out := [⟨.normal, ⟨[], [5, 6, 7, 8, 9, 28], []⟩, mkSh 39 [(5, .val S_impl_Group (.row (.pr .b (.pr .b (.pr (.row (.pr .b (.pr .b .b))) .b))))), (6, .val .str .b), (7, .var Y_impl_Group (.pr .b (.pr .b (.pr (.row (.pr .b (.pr .b .b))) .b)))), (8, .val .str .b), (9, .val S_string .b), (28, .val .bool .b)]⟩]
noncomputable def sh_I_readUnified_2 : List Sh := mkSh 39 [(0, .val S_string .b), (5, .val S_impl_Group (.row (.pr .b (.pr .b (.pr (.row (.pr .b (.pr .b .b))) .b))))), (6, .val .str .b)]
noncomputable def o_I_readUnified_2 : List Out := [⟨.exit 0, ⟨[], [5, 6], []⟩, mkSh 39 [(5, .val S_impl_Group (.row (.pr .b (.pr .b (.pr (.row (.pr .b (.pr .b .b))) .b))))), (6, .val .str .b)]⟩, ⟨.ret, ⟨[], [2, 3, 4], []⟩, mkSh 39 [(2, .val S_impl_Group (.row (.pr .b (.pr .b (.pr (.row (.pr .b (.pr .b .b))) .b))))), (3, .val .str .b), (4, .val .bool .b)]⟩]
noncomputable def b_I_readUnified_2 (t0 : PV S_string) (t5 : PV S_impl_Group) (t6 : PV .str) : Option ((PV S_string × PV S_impl_Group × PV .str × Unit) ⊕ ((PV S_impl_Group × PV .str × Unit) ⊕ (PV S_impl_Group × PV .str × PV .bool × Unit))) :=
  bif (decide ((t0.length : Int) > 0)) then
    (f_I_takeGroup t0).bind fun r2 =>
      ((
          bif (!r2.1.2.2.2.1) then
            some (t5, t6, r2.1.1, r2.1.2.1, r2.1.2.2.1, true, ())
          else
            some (t5, t6, r2.1.1, r2.1.2.1, r2.1.2.2.1, ((t5.length : Int) == 20), ()) : Option ((PV S_impl_Group × PV .str × PV Y_impl_Group × PV .str × PV S_string × PV .bool × Unit)))).bind fun j4 =>
        bif j4.2.2.2.2.2.1 then
          some (.inr (.inr ([], [], false, ())))
        else
          bif roomB (j4.1.length + [j4.2.2.1].length) then
            bif decide (j4.2.1.length + j4.2.2.2.1.length ≤ 1099511627776) then
              some (.inl (j4.2.2.2.2.1, (j4.1 ++ [j4.2.2.1]), (j4.2.1 ++ j4.2.2.2.1), ()))
            else
              none
          else
            none
  else
    some (.inr (.inl (t5, t6, ())))
noncomputable def w_I_readUnified_2 : PV S_string × PV S_impl_Group × PV .str × Unit → Option ((PV S_impl_Group × PV .str × Unit) ⊕ (PV S_impl_Group × PV .str × PV .bool × Unit)) := fix fun d => b_I_readUnified_2 d.1 d.2.1 d.2.2.1
noncomputable def lp_I_readUnified_2 : Lp := ⟨⟨[], [0, 5, 6, 25, 26, 27], []⟩, sh_I_readUnified_2, o_I_readUnified_2, fun d => b_I_readUnified_2 d.1 d.2.1 d.2.2.1⟩
noncomputable def pl_I_readUnified : Plan := ⟨[(5, o_I_readUnified_5)], [(2, lp_I_readUnified_2)], 0, 0⟩
noncomputable def f_I_readUnified (t0 : PV S_string) : Option (PVs [S_impl_Group, .str, .bool] × PVs []) :=
  (w_I_readUnified_2 (t0, ([] : PV S_impl_Group), [], ())).bind fun x9 =>
    match x9 with
    | .inl l7 =>
      some ((l7.1, l7.2.1, true, ()), ())
    | .inr l8 =>
      some ((l8.1, l8.2.1, l8.2.2.1, ()), ())
noncomputable def ct_I_readUnified : Ct := ⟨[(.bor, S_string)], [(S_impl_Group, (.row (.pr .b (.pr .b (.pr (.row (.pr .b (.pr .b .b))) .b))))), (.str, .b), (.bool, .b)], fun x => f_I_readUnified x.1⟩
noncomputable def cx_I_readUnified : Cx := ⟨tab, arrs, [(145, ct_I_takeGroup)], [], gl, []⟩
theorem eb_I_readUnified_2 (t0 : PV S_string) (t5 : PV S_impl_Group) (t6 : PV .str) : denK cx_I_readUnified (rcN cx_I_readUnified 0) pl_I_readUnified 0 ((loopsOf (bodyOf Tryz.f79)).getD 0 .skip) (fillS sh_I_readUnified_2 (t0, t5, t6, ())) (roundK 0 lp_I_readUnified_2) = b_I_readUnified_2 t0 t5 t6 := by kernel_rfl
theorem ef_I_readUnified (t0 : PV S_string) : denF cx_I_readUnified 0 pl_I_readUnified Tryz.f79.ntmps (bodyOf Tryz.f79) Tryz.f79.results.toList [(.bor, S_string)] [(S_impl_Group, (.row (.pr .b (.pr .b (.pr (.row (.pr .b (.pr .b .b))) .b))))), (.str, .b), (.bool, .b)] (t0, ()) = f_I_readUnified t0 := by kernel_rfl
theorem ok_I_readUnified : FnOk gl Tryz.prog 79 ct_I_readUnified :=
  fnOk (cx := cx_I_readUnified) (pl := pl_I_readUnified) (dp := 0) (ok0_of tabOk (by unfold ArrOk; kernel_rfl) mix ⟨ok_I_takeGroup, trivial⟩ trivial) Tryz.func79 (by kernel_rfl) (by kernel_rfl) (by kernel_rfl)
    (by rw [show loopsOf (bodyOf Tryz.f79) = [((loopsOf (bodyOf Tryz.f79)).getD 0 .skip)] from by kernel_rfl]; exact ⟨(by rw [show lookup pl_I_readUnified.loops (firstId ((loopsOf (bodyOf Tryz.f79)).getD 0 .skip)) = some lp_I_readUnified_2 from by kernel_rfl]; exact fun d z h => (eb_I_readUnified_2 d.1 d.2.1 d.2.2.1).trans h), trivial⟩) (fun x => ef_I_readUnified x.1)
noncomputable def pl_I_isLine : Plan := ⟨[], [], 0, 0⟩
noncomputable def f_I_isLine (t0 : PV .str) : Option (PVs [.bool] × PVs []) :=
  (f_I_in (t0.length : Int) 1 30).bind fun r1 =>
    bif r1.1.1 then
      bif cutB 0 (IntKind.wrap .i64 ((t0.length : Int) - 1)) t0.length then
        (f_strings_Contains (cutL 0 (IntKind.wrap .i64 ((t0.length : Int) - 1)) t0) [10]).bind fun r2 =>
          some (((!r2.1.1), ()), ())
      else
        none
    else
      some ((false, ()), ())
noncomputable def ct_I_isLine : Ct := ⟨[(.bor, .str)], [(.bool, .b)], fun x => f_I_isLine x.1⟩
noncomputable def cx_I_isLine : Cx := ⟨tab, arrs, [(134, ct_I_in), (247, ct_strings_Contains)], [], gl, []⟩
theorem ef_I_isLine (t0 : PV .str) : denF cx_I_isLine 0 pl_I_isLine Tryz.f224.ntmps (bodyOf Tryz.f224) Tryz.f224.results.toList [(.bor, .str)] [(.bool, .b)] (t0, ()) = f_I_isLine t0 := by kernel_rfl
theorem ok_I_isLine : FnOk gl Tryz.prog 224 ct_I_isLine :=
  fnOk (cx := cx_I_isLine) (pl := pl_I_isLine) (dp := 0) (ok0_of tabOk (by unfold ArrOk; kernel_rfl) mix ⟨ok_I_in, ok_strings_Contains, trivial⟩ trivial) Tryz.func224 (by kernel_rfl) (by kernel_rfl) (by kernel_rfl)
    (by rw [show loopsOf (bodyOf Tryz.f224) = [] from by kernel_rfl]; exact trivial) (fun x => ef_I_isLine x.1)
noncomputable def o_I_sideOf_7 : List Out := [⟨.normal, ⟨[], [1, 5, 9, 10, 11], []⟩, mkSh 26 [(1, .val (.int .i64) .b), (5, .val S_string (.row .b)), (9, .val S_impl_Row .b), (10, .val (.int .i64) .b), (11, .val (.int .i64) .b)]⟩]
noncomputable def sh_I_sideOf_3 : List Sh := mkSh 26 [(1, .val (.int .i64) .b), (5, .val S_string (.row .b)), (9, .val S_impl_Row .b), (10, .val (.int .i64) .b), (11, .val (.int .i64) .b)]
noncomputable def o_I_sideOf_3 : List Out := [⟨.exit 0, ⟨[], [5], []⟩, mkSh 26 [(5, .val S_string (.row .b))]⟩]
noncomputable def b_I_sideOf_3 (t1 : PV (.int .i64)) (t5 : PV S_string) (t9 : PV S_impl_Row) (t10 : PV (.int .i64)) (t11 : PV (.int .i64)) : Option ((PV (.int .i64) × PV S_string × PV S_impl_Row × PV (.int .i64) × PV (.int .i64) × Unit) ⊕ ((PV S_string × Unit))) :=
  bif (decide (t11 < t10)) then
    ((
        bif inB t11 t9.length then
          bif (!(((t9.getD t11.toNat (dflt Y_impl_Row)).1) == t1)) then
            bif roomB (t5.length + [((t9.getD t11.toNat (dflt Y_impl_Row)).2).1].length) then
              some (t1, (t5 ++ [((t9.getD t11.toNat (dflt Y_impl_Row)).2).1]), t9, t10, t11, ())
            else
              none
          else
            some (t1, t5, t9, t10, t11, ())
        else
          none : Option ((PV (.int .i64) × PV S_string × PV S_impl_Row × PV (.int .i64) × PV (.int .i64) × Unit)))).bind fun j1 =>
      some (.inl (j1.1, j1.2.1, j1.2.2.1, j1.2.2.2.1, (IntKind.wrap .i64 (j1.2.2.2.2.1 + 1)), ()))
  else
    some (.inr (t5, ()))
noncomputable def w_I_sideOf_3 : PV (.int .i64) × PV S_string × PV S_impl_Row × PV (.int .i64) × PV (.int .i64) × Unit → Option ((PV S_string × Unit)) := fix fun d => b_I_sideOf_3 d.1 d.2.1 d.2.2.1 d.2.2.2.1 d.2.2.2.2.1
noncomputable def lp_I_sideOf_3 : Lp := ⟨⟨[], [1, 5, 9, 10, 11], []⟩, sh_I_sideOf_3, o_I_sideOf_3, fun d => b_I_sideOf_3 d.1 d.2.1 d.2.2.1 d.2.2.2.1 d.2.2.2.2.1⟩
noncomputable def pl_I_sideOf : Plan := ⟨[(7, o_I_sideOf_7)], [(3, lp_I_sideOf_3)], 0, 0⟩
noncomputable def f_I_sideOf (t0 : PV S_impl_Row) (t1 : PV (.int .i64)) : Option (PVs [S_string] × PVs []) :=
  (w_I_sideOf_3 (t1, ([] : PV S_string), t0, (t0.length : Int), 0, ())).bind fun l3 =>
    some ((l3.1, ()), ())
noncomputable def ct_I_sideOf : Ct := ⟨[(.bor, S_impl_Row), (.bor, (.int .i64))], [(S_string, (.row .b))], fun x => f_I_sideOf x.1 x.2.1⟩
noncomputable def cx_I_sideOf : Cx := ⟨tab, arrs, [], [], gl, []⟩
theorem eb_I_sideOf_3 (t1 : PV (.int .i64)) (t5 : PV S_string) (t9 : PV S_impl_Row) (t10 : PV (.int .i64)) (t11 : PV (.int .i64)) : denK cx_I_sideOf (rcN cx_I_sideOf 0) pl_I_sideOf 0 ((loopsOf (bodyOf Tryz.f225)).getD 0 .skip) (fillS sh_I_sideOf_3 (t1, t5, t9, t10, t11, ())) (roundK 0 lp_I_sideOf_3) = b_I_sideOf_3 t1 t5 t9 t10 t11 := by kernel_rfl
theorem ef_I_sideOf (t0 : PV S_impl_Row) (t1 : PV (.int .i64)) : denF cx_I_sideOf 0 pl_I_sideOf Tryz.f225.ntmps (bodyOf Tryz.f225) Tryz.f225.results.toList [(.bor, S_impl_Row), (.bor, (.int .i64))] [(S_string, (.row .b))] (t0, t1, ()) = f_I_sideOf t0 t1 := by kernel_rfl
theorem ok_I_sideOf : FnOk gl Tryz.prog 225 ct_I_sideOf :=
  fnOk (cx := cx_I_sideOf) (pl := pl_I_sideOf) (dp := 0) (ok0_of tabOk (by unfold ArrOk; kernel_rfl) mix trivial trivial) Tryz.func225 (by kernel_rfl) (by kernel_rfl) (by kernel_rfl)
    (by rw [show loopsOf (bodyOf Tryz.f225) = [((loopsOf (bodyOf Tryz.f225)).getD 0 .skip)] from by kernel_rfl]; exact ⟨(by rw [show lookup pl_I_sideOf.loops (firstId ((loopsOf (bodyOf Tryz.f225)).getD 0 .skip)) = some lp_I_sideOf_3 from by kernel_rfl]; exact fun d z h => (eb_I_sideOf_3 d.1 d.2.1 d.2.2.1 d.2.2.2.1 d.2.2.2.2.1).trans h), trivial⟩) (fun x => ef_I_sideOf x.1 x.2.1)
noncomputable def pl_I_Group_old : Plan := ⟨[], [], 0, 0⟩
noncomputable def f_I_Group_old (t0 : PV Y_impl_Group) : Option (PVs [S_string] × PVs []) :=
  (f_I_sideOf t0.2.2.1 3).bind fun r1 =>
    some ((r1.1.1, ()), ())
noncomputable def ct_I_Group_old : Ct := ⟨[(.bor, Y_impl_Group)], [(S_string, (.row .b))], fun x => f_I_Group_old x.1⟩
noncomputable def cx_I_Group_old : Cx := ⟨tab, arrs, [(225, ct_I_sideOf)], [], gl, []⟩
theorem ef_I_Group_old (t0 : PV Y_impl_Group) : denF cx_I_Group_old 0 pl_I_Group_old Tryz.f148.ntmps (bodyOf Tryz.f148) Tryz.f148.results.toList [(.bor, Y_impl_Group)] [(S_string, (.row .b))] (t0, ()) = f_I_Group_old t0 := by kernel_rfl
theorem ok_I_Group_old : FnOk gl Tryz.prog 148 ct_I_Group_old :=
  fnOk (cx := cx_I_Group_old) (pl := pl_I_Group_old) (dp := 0) (ok0_of tabOk (by unfold ArrOk; kernel_rfl) mix ⟨ok_I_sideOf, trivial⟩ trivial) Tryz.func148 (by kernel_rfl) (by kernel_rfl) (by kernel_rfl)
    (by rw [show loopsOf (bodyOf Tryz.f148) = [] from by kernel_rfl]; exact trivial) (fun x => ef_I_Group_old x.1)
noncomputable def pl_I_Group_fresh : Plan := ⟨[], [], 0, 0⟩
noncomputable def f_I_Group_fresh (t0 : PV Y_impl_Group) : Option (PVs [S_string] × PVs []) :=
  (f_I_sideOf t0.2.2.1 2).bind fun r1 =>
    some ((r1.1.1, ()), ())
noncomputable def ct_I_Group_fresh : Ct := ⟨[(.bor, Y_impl_Group)], [(S_string, (.row .b))], fun x => f_I_Group_fresh x.1⟩
noncomputable def cx_I_Group_fresh : Cx := ⟨tab, arrs, [(225, ct_I_sideOf)], [], gl, []⟩
theorem ef_I_Group_fresh (t0 : PV Y_impl_Group) : denF cx_I_Group_fresh 0 pl_I_Group_fresh Tryz.f149.ntmps (bodyOf Tryz.f149) Tryz.f149.results.toList [(.bor, Y_impl_Group)] [(S_string, (.row .b))] (t0, ()) = f_I_Group_fresh t0 := by kernel_rfl
theorem ok_I_Group_fresh : FnOk gl Tryz.prog 149 ct_I_Group_fresh :=
  fnOk (cx := cx_I_Group_fresh) (pl := pl_I_Group_fresh) (dp := 0) (ok0_of tabOk (by unfold ArrOk; kernel_rfl) mix ⟨ok_I_sideOf, trivial⟩ trivial) Tryz.func149 (by kernel_rfl) (by kernel_rfl) (by kernel_rfl)
    (by rw [show loopsOf (bodyOf Tryz.f149) = [] from by kernel_rfl]; exact trivial) (fun x => ef_I_Group_fresh x.1)
noncomputable def pl_I_areLines_1 : Plan := ⟨[], [], 0, 0⟩
noncomputable def f_I_areLines_1 (t0 : PV .str) : Option (PVs [.bool] × PVs []) :=
  (f_I_isLine t0).bind fun r1 =>
    some (((!r1.1.1), ()), ())
noncomputable def ct_I_areLines_1 : Ct := ⟨[(.bor, .str)], [(.bool, .b)], fun x => f_I_areLines_1 x.1⟩
noncomputable def cx_I_areLines_1 : Cx := ⟨tab, arrs, [(224, ct_I_isLine)], [], gl, []⟩
theorem ef_I_areLines_1 (t0 : PV .str) : denF cx_I_areLines_1 0 pl_I_areLines_1 Tryz.f285.ntmps (bodyOf Tryz.f285) Tryz.f285.results.toList [(.bor, .str)] [(.bool, .b)] (t0, ()) = f_I_areLines_1 t0 := by kernel_rfl
theorem ok_I_areLines_1 : FnOk gl Tryz.prog 285 ct_I_areLines_1 :=
  fnOk (cx := cx_I_areLines_1) (pl := pl_I_areLines_1) (dp := 0) (ok0_of tabOk (by unfold ArrOk; kernel_rfl) mix ⟨ok_I_isLine, trivial⟩ trivial) Tryz.func285 (by kernel_rfl) (by kernel_rfl) (by kernel_rfl)
    (by rw [show loopsOf (bodyOf Tryz.f285) = [] from by kernel_rfl]; exact trivial) (fun x => ef_I_areLines_1 x.1)
noncomputable def pl_I_areLines_254 : Plan := ⟨[], [], 1, 11⟩
noncomputable def sh_I_areLines_295_2 : List Sh := mkSh 39 [(0, .val S_string .b), (2, .val .bool .b), (3, .val S_string .b), (4, .val (.int .i64) .b), (5, .val .bool .b), (6, .val .bool .b), (7, .val S_string .b), (11, .val S_string .b), (12, .fn 285 []), (15, .val .bool .b), (16, .val S_string .b), (17, .fn 285 []), (20, .val S_string .b), (21, .fn 285 []), (27, .val (.int .i64) .b), (28, .val (.int .i64) .b)]
noncomputable def o_I_areLines_295_2 : List Out := [⟨.exit 0, ⟨[], [], []⟩, mkSh 39 [(0, .val S_string .b), (2, .val .bool .b), (3, .val S_string .b), (4, .val (.int .i64) .b), (5, .val .bool .b), (6, .val .bool .b), (7, .val S_string .b), (11, .val S_string .b), (12, .fn 285 []), (15, .val .bool .b), (16, .val S_string .b), (17, .fn 285 [])]⟩, ⟨.ret, ⟨[], [4], []⟩, mkSh 39 [(0, .val S_string .b), (2, .val .bool .b), (3, .val S_string .b), (4, .val (.int .i64) .b), (5, .val .bool .b), (6, .val .bool .b), (7, .val S_string .b), (11, .val S_string .b), (12, .fn 285 []), (15, .val .bool .b), (16, .val S_string .b), (17, .fn 285 []), (24, .val (.int .i64) .b)]⟩]
noncomputable def b_I_areLines_295_2 (t0 : PV S_string) (t2 : PV .bool) (t3 : PV S_string) (t4 : PV (.int .i64)) (t5 : PV .bool) (t6 : PV .bool) (t7 : PV S_string) (t11 : PV S_string) (t15 : PV .bool) (t16 : PV S_string) (t20 : PV S_string) (t27 : PV (.int .i64)) (t28 : PV (.int .i64)) : Option ((PV S_string × PV .bool × PV S_string × PV (.int .i64) × PV .bool × PV .bool × PV S_string × PV S_string × PV .bool × PV S_string × PV S_string × PV (.int .i64) × PV (.int .i64) × Unit) ⊕ ((PV S_string × PV .bool × PV S_string × PV (.int .i64) × PV .bool × PV .bool × PV S_string × PV S_string × PV .bool × PV S_string × Unit) ⊕ (PV S_string × PV .bool × PV S_string × PV (.int .i64) × PV .bool × PV .bool × PV S_string × PV S_string × PV .bool × PV S_string × PV (.int .i64) × Unit))) :=
  bif (decide (t28 < t27)) then
    bif inB t28 t20.length then
      (f_I_areLines_1 (t20.getD t28.toNat [])).bind fun r4 =>
        bif r4.1.1 then
          some (.inr (.inr (t0, t2, t3, t4, t5, t6, t7, t11, t15, t16, t28, ())))
        else
          some (.inl (t0, t2, t3, t4, t5, t6, t7, t11, t15, t16, t20, t27, (IntKind.wrap .i64 (t28 + 1)), ()))
    else
      none
  else
    some (.inr (.inl (t0, t2, t3, t4, t5, t6, t7, t11, t15, t16, ())))
noncomputable def w_I_areLines_295_2 : PV S_string × PV .bool × PV S_string × PV (.int .i64) × PV .bool × PV .bool × PV S_string × PV S_string × PV .bool × PV S_string × PV S_string × PV (.int .i64) × PV (.int .i64) × Unit → Option ((PV S_string × PV .bool × PV S_string × PV (.int .i64) × PV .bool × PV .bool × PV S_string × PV S_string × PV .bool × PV S_string × Unit) ⊕ (PV S_string × PV .bool × PV S_string × PV (.int .i64) × PV .bool × PV .bool × PV S_string × PV S_string × PV .bool × PV S_string × PV (.int .i64) × Unit)) := fix fun d => b_I_areLines_295_2 d.1 d.2.1 d.2.2.1 d.2.2.2.1 d.2.2.2.2.1 d.2.2.2.2.2.1 d.2.2.2.2.2.2.1 d.2.2.2.2.2.2.2.1 d.2.2.2.2.2.2.2.2.1 d.2.2.2.2.2.2.2.2.2.1 d.2.2.2.2.2.2.2.2.2.2.1 d.2.2.2.2.2.2.2.2.2.2.2.1 d.2.2.2.2.2.2.2.2.2.2.2.2.1
noncomputable def lp_I_areLines_295_2 : Lp := ⟨⟨[], [0, 1, 7, 8], []⟩, sh_I_areLines_295_2, o_I_areLines_295_2, fun d => b_I_areLines_295_2 d.1 d.2.1 d.2.2.1 d.2.2.2.1 d.2.2.2.2.1 d.2.2.2.2.2.1 d.2.2.2.2.2.2.1 d.2.2.2.2.2.2.2.1 d.2.2.2.2.2.2.2.2.1 d.2.2.2.2.2.2.2.2.2.1 d.2.2.2.2.2.2.2.2.2.2.1 d.2.2.2.2.2.2.2.2.2.2.2.1 d.2.2.2.2.2.2.2.2.2.2.2.2.1⟩
noncomputable def pl_I_areLines_295 : Plan := ⟨[], [(2, lp_I_areLines_295_2)], 0, 20⟩
noncomputable def pl_I_areLines : Plan := ⟨[], [], 2, 0⟩
noncomputable def f_I_areLines (t0 : PV S_string) : Option (PVs [.bool] × PVs []) :=
  bif (decide ((t0.length : Int) ≤ 40)) then
    (w_I_areLines_295_2 (t0, false, t0, (t0.length : Int), (decide ((t0.length : Int) ≤ 40)), true, t0, t0, false, t0, t0, (t0.length : Int), 0, ())).bind fun x9 =>
      match x9 with
      | .inl l7 =>
        bif l7.2.2.2.2.2.1 then
          some (((!(decide ((-1) ≥ 0))), ()), ())
        else
          some ((false, ()), ())
      | .inr l8 =>
        bif l8.2.2.2.2.2.1 then
          some (((!(decide (l8.2.2.2.2.2.2.2.2.2.2.1 ≥ 0))), ()), ())
        else
          some ((false, ()), ())
  else
    some ((false, ()), ())
noncomputable def ct_I_areLines : Ct := ⟨[(.bor, S_string)], [(.bool, .b)], fun x => f_I_areLines x.1⟩
noncomputable def cx_I_areLines : Cx := ⟨tab, arrs, [(285, ct_I_areLines_1)], [(254, Tryz.f254, pl_I_areLines_254), (295, Tryz.f295, pl_I_areLines_295)], gl, []⟩
theorem eb_I_areLines_295_2 (t0 : PV S_string) (t2 : PV .bool) (t3 : PV S_string) (t4 : PV (.int .i64)) (t5 : PV .bool) (t6 : PV .bool) (t7 : PV S_string) (t11 : PV S_string) (t15 : PV .bool) (t16 : PV S_string) (t20 : PV S_string) (t27 : PV (.int .i64)) (t28 : PV (.int .i64)) : denK cx_I_areLines (rcN cx_I_areLines 0) pl_I_areLines_295 20 ((loopsOf (bodyOf Tryz.f295)).getD 0 .skip) (fillS sh_I_areLines_295_2 (t0, t2, t3, t4, t5, t6, t7, t11, t15, t16, t20, t27, t28, ())) (roundK 20 lp_I_areLines_295_2) = b_I_areLines_295_2 t0 t2 t3 t4 t5 t6 t7 t11 t15 t16 t20 t27 t28 := by kernel_rfl
theorem ef_I_areLines (t0 : PV S_string) : denF cx_I_areLines 2 pl_I_areLines Tryz.f237.ntmps (bodyOf Tryz.f237) Tryz.f237.results.toList [(.bor, S_string)] [(.bool, .b)] (t0, ()) = f_I_areLines t0 := by kernel_rfl
theorem ok_I_areLines : FnOk gl Tryz.prog 237 ct_I_areLines :=
  fnOk (cx := cx_I_areLines) (pl := pl_I_areLines) (dp := 2) (ok0_of tabOk (by unfold ArrOk; kernel_rfl) mix ⟨ok_I_areLines_1, trivial⟩ ⟨⟨Tryz.func254, by kernel_rfl, (by rw [show loopsOf (bodyOf Tryz.f254) = [] from by kernel_rfl]; exact trivial)⟩, ⟨Tryz.func295, by kernel_rfl, (by rw [show loopsOf (bodyOf Tryz.f295) = [((loopsOf (bodyOf Tryz.f295)).getD 0 .skip)] from by kernel_rfl]; exact ⟨(by rw [show lookup pl_I_areLines_295.loops (firstId ((loopsOf (bodyOf Tryz.f295)).getD 0 .skip)) = some lp_I_areLines_295_2 from by kernel_rfl]; exact fun d z h => (eb_I_areLines_295_2 d.1 d.2.1 d.2.2.1 d.2.2.2.1 d.2.2.2.2.1 d.2.2.2.2.2.1 d.2.2.2.2.2.2.1 d.2.2.2.2.2.2.2.1 d.2.2.2.2.2.2.2.2.1 d.2.2.2.2.2.2.2.2.2.1 d.2.2.2.2.2.2.2.2.2.2.1 d.2.2.2.2.2.2.2.2.2.2.2.1 d.2.2.2.2.2.2.2.2.2.2.2.2.1).trans h), trivial⟩)⟩, trivial⟩) Tryz.func237 (by kernel_rfl) (by kernel_rfl) (by kernel_rfl)
    (by rw [show loopsOf (bodyOf Tryz.f237) = [] from by kernel_rfl]; exact trivial) (fun x => ef_I_areLines x.1)
noncomputable def o_I_goodLines_7 : List Out := [⟨.normal, ⟨[], [0, 8, 9, 10, 24], []⟩, mkSh 26 [(0, .val S_string .b), (8, .val S_string .b), (9, .val (.int .i64) .b), (10, .val (.int .i64) .b), (24, .val .bool .b)]⟩]
noncomputable def sh_I_goodLines_4 : List Sh := mkSh 26 [(0, .val S_string .b), (8, .val S_string .b), (9, .val (.int .i64) .b), (10, .val (.int .i64) .b)]
noncomputable def o_I_goodLines_4 : List Out := [⟨.exit 0, ⟨[], [], []⟩, mkSh 26 []⟩, ⟨.ret, ⟨[], [2], []⟩, mkSh 26 [(2, .val .bool .b)]⟩]
noncomputable def b_I_goodLines_4 (t0 : PV S_string) (t8 : PV S_string) (t9 : PV (.int .i64)) (t10 : PV (.int .i64)) : Option ((PV S_string × PV S_string × PV (.int .i64) × PV (.int .i64) × Unit) ⊕ ((Unit) ⊕ (PV .bool × Unit))) :=
  bif (decide (t10 < t9)) then
    bif inB t10 t8.length then
      ((
          bif (decide (t10 < (IntKind.wrap .i64 ((t0.length : Int) - 1)))) then
            (f_I_isEnded (t8.getD t10.toNat [])).bind fun r7 =>
              some (t0, t8, t9, t10, (!r7.1.1), ())
          else
            some (t0, t8, t9, t10, false, ()) : Option ((PV S_string × PV S_string × PV (.int .i64) × PV (.int .i64) × PV .bool × Unit)))).bind fun j8 =>
        bif j8.2.2.2.2.1 then
          some (.inr (.inr (false, ())))
        else
          some (.inl (j8.1, j8.2.1, j8.2.2.1, (IntKind.wrap .i64 (j8.2.2.2.1 + 1)), ()))
    else
      none
  else
    some (.inr (.inl ()))
noncomputable def w_I_goodLines_4 : PV S_string × PV S_string × PV (.int .i64) × PV (.int .i64) × Unit → Option ((Unit) ⊕ (PV .bool × Unit)) := fix fun d => b_I_goodLines_4 d.1 d.2.1 d.2.2.1 d.2.2.2.1
noncomputable def lp_I_goodLines_4 : Lp := ⟨⟨[], [0, 8, 9, 10, 21, 22, 23], []⟩, sh_I_goodLines_4, o_I_goodLines_4, fun d => b_I_goodLines_4 d.1 d.2.1 d.2.2.1 d.2.2.2.1⟩
noncomputable def pl_I_goodLines : Plan := ⟨[(7, o_I_goodLines_7)], [(4, lp_I_goodLines_4)], 0, 0⟩
noncomputable def f_I_goodLines (t0 : PV S_string) : Option (PVs [.bool] × PVs []) :=
  (f_I_areLines t0).bind fun r4 =>
    bif (!r4.1.1) then
      some ((false, ()), ())
    else
      (w_I_goodLines_4 (t0, t0, (t0.length : Int), 0, ())).bind fun x13 =>
        match x13 with
        | .inl l11 =>
          some ((true, ()), ())
        | .inr l12 =>
          some ((l12.1, ()), ())
noncomputable def ct_I_goodLines : Ct := ⟨[(.bor, S_string)], [(.bool, .b)], fun x => f_I_goodLines x.1⟩
noncomputable def cx_I_goodLines : Cx := ⟨tab, arrs, [(237, ct_I_areLines), (238, ct_I_isEnded)], [], gl, []⟩
theorem eb_I_goodLines_4 (t0 : PV S_string) (t8 : PV S_string) (t9 : PV (.int .i64)) (t10 : PV (.int .i64)) : denK cx_I_goodLines (rcN cx_I_goodLines 0) pl_I_goodLines 0 ((loopsOf (bodyOf Tryz.f168)).getD 0 .skip) (fillS sh_I_goodLines_4 (t0, t8, t9, t10, ())) (roundK 0 lp_I_goodLines_4) = b_I_goodLines_4 t0 t8 t9 t10 := by kernel_rfl
theorem ef_I_goodLines (t0 : PV S_string) : denF cx_I_goodLines 0 pl_I_goodLines Tryz.f168.ntmps (bodyOf Tryz.f168) Tryz.f168.results.toList [(.bor, S_string)] [(.bool, .b)] (t0, ()) = f_I_goodLines t0 := by kernel_rfl
theorem ok_I_goodLines : FnOk gl Tryz.prog 168 ct_I_goodLines :=
  fnOk (cx := cx_I_goodLines) (pl := pl_I_goodLines) (dp := 0) (ok0_of tabOk (by unfold ArrOk; kernel_rfl) mix ⟨ok_I_areLines, ok_I_isEnded, trivial⟩ trivial) Tryz.func168 (by kernel_rfl) (by kernel_rfl) (by kernel_rfl)
    (by rw [show loopsOf (bodyOf Tryz.f168) = [((loopsOf (bodyOf Tryz.f168)).getD 0 .skip)] from by kernel_rfl]; exact ⟨(by rw [show lookup pl_I_goodLines.loops (firstId ((loopsOf (bodyOf Tryz.f168)).getD 0 .skip)) = some lp_I_goodLines_4 from by kernel_rfl]; exact fun d z h => (eb_I_goodLines_4 d.1 d.2.1 d.2.2.1 d.2.2.2.1).trans h), trivial⟩) (fun x => ef_I_goodLines x.1)
noncomputable def o_I_goodGroup_2 : List Out := [⟨.normal, ⟨[], [1, 24, 38, 39, 40, 41, 44, 45, 46, 47, 48, 49, 50, 51, 52, 53, 54, 55, 56, 57, 58, 59, 60, 64, 65, 66, 75, 76, 79, 80, 83, 84, 85, 86, 87, 88, 91, 92, 93, 94, 95, 96], []⟩, mkSh 98 [(1, .var Y_impl_Group .b), (24, .val .bool .b)]⟩]
noncomputable def o_I_goodGroup_8 : List Out := [⟨.normal, ⟨[], [1, 3, 5, 26, 27, 28, 61, 64, 65, 66, 75, 76, 79, 80, 83, 84, 85, 86, 87, 88, 91, 92, 93, 94, 95, 96], []⟩, mkSh 98 [(1, .var Y_impl_Group .b), (3, .val .bool .b), (5, .var Y_impl_Row .b), (26, .val S_impl_Row .b), (27, .val (.int .i64) .b), (28, .val (.int .i64) .b), (61, .val .bool .b)]⟩]
noncomputable def o_I_goodGroup_10 : List Out := [⟨.normal, ⟨[], [1, 3, 5, 26, 27, 28, 38, 39, 40, 41, 44, 45, 46, 47, 48, 49, 50, 51, 52, 53, 54, 55, 56, 57, 58, 59, 60, 75, 76, 79, 80, 83, 84, 85, 86, 87, 88, 91, 92, 93, 94, 95, 96], []⟩, mkSh 98 [(1, .var Y_impl_Group .b), (3, .val .bool .b), (5, .var Y_impl_Row .b), (26, .val S_impl_Row .b), (27, .val (.int .i64) .b), (28, .val (.int .i64) .b)]⟩, ⟨.ret, ⟨[], [2], []⟩, mkSh 98 [(2, .val .bool .b)]⟩]
noncomputable def sh_I_goodGroup_5 : List Sh := mkSh 98 [(1, .var Y_impl_Group .b), (3, .val .bool .b), (26, .val S_impl_Row .b), (27, .val (.int .i64) .b), (28, .val (.int .i64) .b)]
noncomputable def o_I_goodGroup_5 : List Out := [⟨.exit 0, ⟨[], [1, 3, 75, 76, 79, 80, 83, 84, 85, 86, 87, 88, 91, 92, 93, 94, 95, 96], []⟩, mkSh 98 [(1, .var Y_impl_Group .b), (3, .val .bool .b)]⟩, ⟨.ret, ⟨[], [2], []⟩, mkSh 98 [(2, .val .bool .b)]⟩]
noncomputable def b_I_goodGroup_5 (t1 : PV Y_impl_Group) (t3 : PV .bool) (t26 : PV S_impl_Row) (t27 : PV (.int .i64)) (t28 : PV (.int .i64)) : Option ((PV Y_impl_Group × PV .bool × PV S_impl_Row × PV (.int .i64) × PV (.int .i64) × Unit) ⊕ ((PV Y_impl_Group × PV .bool × Unit) ⊕ (PV .bool × Unit))) :=
  bif (decide (t28 < t27)) then
    ((
        bif inB t28 t26.length then
          ((
              (f_I_in ((t26.getD t28.toNat (dflt Y_impl_Row)).1) 1 3).bind fun r15 =>
                bif (!r15.1.1) then
                  some (t1, t3, (t26.getD t28.toNat (dflt Y_impl_Row)), t26, t27, t28, true, ())
                else
                  (f_I_isLine (((t26.getD t28.toNat (dflt Y_impl_Row)).2).1)).bind fun r16 =>
                    bif (!r16.1.1) then
                      some (t1, t3, (t26.getD t28.toNat (dflt Y_impl_Row)), t26, t27, t28, true, ())
                    else
                      bif (decide (t28 > 0)) then
                        bif (((t26.getD t28.toNat (dflt Y_impl_Row)).1) == 2) then
                          bif inB (IntKind.wrap .i64 (t28 - 1)) t1.2.2.1.length then
                            some (t1, t3, (t26.getD t28.toNat (dflt Y_impl_Row)), t26, t27, t28, (((t1.2.2.1.getD ((IntKind.wrap .i64 (t28 - 1)).toNat) (dflt Y_impl_Row)).1) == 3), ())
                          else
                            none
                        else
                          some (t1, t3, (t26.getD t28.toNat (dflt Y_impl_Row)), t26, t27, t28, false, ())
                      else
                        some (t1, t3, (t26.getD t28.toNat (dflt Y_impl_Row)), t26, t27, t28, false, ()) : Option ((PV Y_impl_Group × PV .bool × PV Y_impl_Row × PV S_impl_Row × PV (.int .i64) × PV (.int .i64) × PV .bool × Unit)))).bind fun j17 =>
            bif j17.2.2.2.2.2.2.1 then
              some (.inr (false, ()))
            else
              bif j17.2.1 then
                some (.inl (j17.1, true, j17.2.2.1, j17.2.2.2.1, j17.2.2.2.2.1, j17.2.2.2.2.2.1, ()))
              else
                some (.inl (j17.1, (!(j17.2.2.1.1 == 1)), j17.2.2.1, j17.2.2.2.1, j17.2.2.2.2.1, j17.2.2.2.2.2.1, ()))
        else
          none : Option ((PV Y_impl_Group × PV .bool × PV Y_impl_Row × PV S_impl_Row × PV (.int .i64) × PV (.int .i64) × Unit) ⊕ (PV .bool × Unit)))).bind fun x30 =>
      match x30 with
      | .inl j18 =>
        some (.inl (j18.1, j18.2.1, j18.2.2.2.1, j18.2.2.2.2.1, (IntKind.wrap .i64 (j18.2.2.2.2.2.1 + 1)), ()))
      | .inr j19 =>
        some (.inr (.inr (j19.1, ())))
  else
    some (.inr (.inl (t1, t3, ())))
noncomputable def w_I_goodGroup_5 : PV Y_impl_Group × PV .bool × PV S_impl_Row × PV (.int .i64) × PV (.int .i64) × Unit → Option ((PV Y_impl_Group × PV .bool × Unit) ⊕ (PV .bool × Unit)) := fix fun d => b_I_goodGroup_5 d.1 d.2.1 d.2.2.1 d.2.2.2.1 d.2.2.2.2.1
noncomputable def lp_I_goodGroup_5 : Lp := ⟨⟨[], [1, 3, 26, 27, 28, 38, 39, 40, 41, 44, 45, 46, 47, 48, 49, 50, 51, 52, 53, 54, 55, 56, 57, 58, 59, 60, 64, 65, 66, 75, 76, 79, 80, 83, 84, 85, 86, 87, 88, 91, 92, 93, 94, 95, 96], []⟩, sh_I_goodGroup_5, o_I_goodGroup_5, fun d => b_I_goodGroup_5 d.1 d.2.1 d.2.2.1 d.2.2.2.1 d.2.2.2.2.1⟩
noncomputable def pl_I_goodGroup : Plan := ⟨[(2, o_I_goodGroup_2), (8, o_I_goodGroup_8), (10, o_I_goodGroup_10)], [(5, lp_I_goodGroup_5)], 0, 0⟩
noncomputable def f_I_goodGroup (t0 : PV Y_impl_Group) : Option (PVs [.bool] × PVs []) :=
  ((
      (f_I_in t0.1 0 999).bind fun r8 =>
        bif (!r8.1.1) then
          some (t0, true, ())
        else
          (f_I_in t0.2.1 0 999).bind fun r9 =>
            bif (!r9.1.1) then
              some (t0, true, ())
            else
              (f_I_in (t0.2.2.1.length : Int) 1 80).bind fun r10 =>
                some (t0, (!r10.1.1), ()) : Option ((PV Y_impl_Group × PV .bool × Unit)))).bind fun j11 =>
    bif j11.2.1 then
      some ((false, ()), ())
    else
      (w_I_goodGroup_5 (j11.1, false, j11.1.2.2.1, (j11.1.2.2.1.length : Int), 0, ())).bind fun x31 =>
        match x31 with
        | .inl l22 =>
          (f_I_Group_old l22.1).bind fun r25 =>
            (f_I_Group_fresh l22.1).bind fun r26 =>
              bif l22.2.1 then
                (f_I_goodLines r25.1.1).bind fun r27 =>
                  bif r27.1.1 then
                    (f_I_goodLines r26.1.1).bind fun r28 =>
                      bif r28.1.1 then
                        bif (decide ((IntKind.wrap .i64 (l22.1.1 + (r25.1.1.length : Int))) ≤ 1000)) then
                          some (((decide ((IntKind.wrap .i64 (l22.1.2.1 + (r26.1.1.length : Int))) ≤ 1000)), ()), ())
                        else
                          some ((false, ()), ())
                      else
                        some ((false, ()), ())
                  else
                    some ((false, ()), ())
              else
                some ((false, ()), ())
        | .inr l29 =>
          some ((l29.1, ()), ())
noncomputable def ct_I_goodGroup : Ct := ⟨[(.bor, Y_impl_Group)], [(.bool, .b)], fun x => f_I_goodGroup x.1⟩
noncomputable def cx_I_goodGroup : Cx := ⟨tab, arrs, [(134, ct_I_in), (148, ct_I_Group_old), (149, ct_I_Group_fresh), (168, ct_I_goodLines), (224, ct_I_isLine)], [], gl, []⟩
theorem eb_I_goodGroup_5 (t1 : PV Y_impl_Group) (t3 : PV .bool) (t26 : PV S_impl_Row) (t27 : PV (.int .i64)) (t28 : PV (.int .i64)) : denK cx_I_goodGroup (rcN cx_I_goodGroup 0) pl_I_goodGroup 0 ((loopsOf (bodyOf Tryz.f147)).getD 0 .skip) (fillS sh_I_goodGroup_5 (t1, t3, t26, t27, t28, ())) (roundK 0 lp_I_goodGroup_5) = b_I_goodGroup_5 t1 t3 t26 t27 t28 := by kernel_rfl
theorem ef_I_goodGroup (t0 : PV Y_impl_Group) : denF cx_I_goodGroup 0 pl_I_goodGroup Tryz.f147.ntmps (bodyOf Tryz.f147) Tryz.f147.results.toList [(.bor, Y_impl_Group)] [(.bool, .b)] (t0, ()) = f_I_goodGroup t0 := by kernel_rfl
theorem ok_I_goodGroup : FnOk gl Tryz.prog 147 ct_I_goodGroup :=
  fnOk (cx := cx_I_goodGroup) (pl := pl_I_goodGroup) (dp := 0) (ok0_of tabOk (by unfold ArrOk; kernel_rfl) mix ⟨ok_I_in, ok_I_Group_old, ok_I_Group_fresh, ok_I_goodLines, ok_I_isLine, trivial⟩ trivial) Tryz.func147 (by kernel_rfl) (by kernel_rfl) (by kernel_rfl)
    (by rw [show loopsOf (bodyOf Tryz.f147) = [((loopsOf (bodyOf Tryz.f147)).getD 0 .skip)] from by kernel_rfl]; exact ⟨(by rw [show lookup pl_I_goodGroup.loops (firstId ((loopsOf (bodyOf Tryz.f147)).getD 0 .skip)) = some lp_I_goodGroup_5 from by kernel_rfl]; exact fun d z h => (eb_I_goodGroup_5 d.1 d.2.1 d.2.2.1 d.2.2.2.1 d.2.2.2.2.1).trans h), trivial⟩) (fun x => ef_I_goodGroup x.1)
noncomputable def o_I_goodGroups_9 : List Out := [⟨.normal, ⟨[], [0, 4, 8, 9, 10, 57], []⟩, mkSh 59 [(0, .val S_impl_Group .b), (4, .var Y_impl_Group .b), (8, .val S_impl_Group .b), (9, .val (.int .i64) .b), (10, .val (.int .i64) .b), (57, .val .bool .b)]⟩]
noncomputable def sh_I_goodGroups_4 : List Sh := mkSh 59 [(0, .val S_impl_Group .b), (8, .val S_impl_Group .b), (9, .val (.int .i64) .b), (10, .val (.int .i64) .b)]
noncomputable def o_I_goodGroups_4 : List Out := [⟨.exit 0, ⟨[], [], []⟩, mkSh 59 []⟩, ⟨.ret, ⟨[], [2], []⟩, mkSh 59 [(2, .val .bool .b)]⟩]
noncomputable def b_I_goodGroups_4 (t0 : PV S_impl_Group) (t8 : PV S_impl_Group) (t9 : PV (.int .i64)) (t10 : PV (.int .i64)) : Option ((PV S_impl_Group × PV S_impl_Group × PV (.int .i64) × PV (.int .i64) × Unit) ⊕ ((Unit) ⊕ (PV .bool × Unit))) :=
  bif (decide (t10 < t9)) then
    bif inB t10 t8.length then
      (f_I_goodGroup (t8.getD t10.toNat (dflt Y_impl_Group))).bind fun r11 =>
        bif (!r11.1.1) then
          some (.inr (.inr (false, ())))
        else
          ((
              bif (decide (t10 > 0)) then
                bif inB (IntKind.wrap .i64 (t10 - 1)) t0.length then
                  bif inB (IntKind.wrap .i64 (t10 - 1)) t0.length then
                    (f_I_Group_old (t0.getD ((IntKind.wrap .i64 (t10 - 1)).toNat) (dflt Y_impl_Group))).bind fun r12 =>
                      bif (decide (((t8.getD t10.toNat (dflt Y_impl_Group)).1) < (IntKind.wrap .i64 (((t0.getD ((IntKind.wrap .i64 (t10 - 1)).toNat) (dflt Y_impl_Group)).1) + (r12.1.1.length : Int))))) then
                        some (t0, (t8.getD t10.toNat (dflt Y_impl_Group)), t8, t9, t10, true, ())
                      else
                        bif inB (IntKind.wrap .i64 (t10 - 1)) t0.length then
                          bif inB (IntKind.wrap .i64 (t10 - 1)) t0.length then
                            (f_I_Group_fresh (t0.getD ((IntKind.wrap .i64 (t10 - 1)).toNat) (dflt Y_impl_Group))).bind fun r13 =>
                              some (t0, (t8.getD t10.toNat (dflt Y_impl_Group)), t8, t9, t10, (decide ((((t8.getD t10.toNat (dflt Y_impl_Group)).2).1) < (IntKind.wrap .i64 ((((t0.getD ((IntKind.wrap .i64 (t10 - 1)).toNat) (dflt Y_impl_Group)).2).1) + (r13.1.1.length : Int))))), ())
                          else
                            none
                        else
                          none
                  else
                    none
                else
                  none
              else
                some (t0, (t8.getD t10.toNat (dflt Y_impl_Group)), t8, t9, t10, false, ()) : Option ((PV S_impl_Group × PV Y_impl_Group × PV S_impl_Group × PV (.int .i64) × PV (.int .i64) × PV .bool × Unit)))).bind fun j14 =>
            bif j14.2.2.2.2.2.1 then
              some (.inr (.inr (false, ())))
            else
              some (.inl (j14.1, j14.2.2.1, j14.2.2.2.1, (IntKind.wrap .i64 (j14.2.2.2.2.1 + 1)), ()))
    else
      none
  else
    some (.inr (.inl ()))
noncomputable def w_I_goodGroups_4 : PV S_impl_Group × PV S_impl_Group × PV (.int .i64) × PV (.int .i64) × Unit → Option ((Unit) ⊕ (PV .bool × Unit)) := fix fun d => b_I_goodGroups_4 d.1 d.2.1 d.2.2.1 d.2.2.2.1
noncomputable def lp_I_goodGroups_4 : Lp := ⟨⟨[], [0, 8, 9, 10, 21, 22, 23, 24, 25, 26, 27, 28, 29, 30, 31, 32, 33, 34, 35, 36, 37, 38, 39, 40, 41, 42, 43, 44, 45, 46, 47, 48, 49, 50, 51, 52, 53, 54, 55, 56], []⟩, sh_I_goodGroups_4, o_I_goodGroups_4, fun d => b_I_goodGroups_4 d.1 d.2.1 d.2.2.1 d.2.2.2.1⟩
noncomputable def pl_I_goodGroups : Plan := ⟨[(9, o_I_goodGroups_9)], [(4, lp_I_goodGroups_4)], 0, 0⟩
noncomputable def f_I_goodGroups (t0 : PV S_impl_Group) : Option (PVs [.bool] × PVs []) :=
  bif (decide ((t0.length : Int) > 20)) then
    some ((false, ()), ())
  else
    (w_I_goodGroups_4 (t0, t0, (t0.length : Int), 0, ())).bind fun x19 =>
      match x19 with
      | .inl l17 =>
        some ((true, ()), ())
      | .inr l18 =>
        some ((l18.1, ()), ())
noncomputable def ct_I_goodGroups : Ct := ⟨[(.bor, S_impl_Group)], [(.bool, .b)], fun x => f_I_goodGroups x.1⟩
noncomputable def cx_I_goodGroups : Cx := ⟨tab, arrs, [(147, ct_I_goodGroup), (148, ct_I_Group_old), (149, ct_I_Group_fresh)], [], gl, []⟩
theorem eb_I_goodGroups_4 (t0 : PV S_impl_Group) (t8 : PV S_impl_Group) (t9 : PV (.int .i64)) (t10 : PV (.int .i64)) : denK cx_I_goodGroups (rcN cx_I_goodGroups 0) pl_I_goodGroups 0 ((loopsOf (bodyOf Tryz.f81)).getD 0 .skip) (fillS sh_I_goodGroups_4 (t0, t8, t9, t10, ())) (roundK 0 lp_I_goodGroups_4) = b_I_goodGroups_4 t0 t8 t9 t10 := by kernel_rfl
theorem ef_I_goodGroups (t0 : PV S_impl_Group) : denF cx_I_goodGroups 0 pl_I_goodGroups Tryz.f81.ntmps (bodyOf Tryz.f81) Tryz.f81.results.toList [(.bor, S_impl_Group)] [(.bool, .b)] (t0, ()) = f_I_goodGroups t0 := by kernel_rfl
theorem ok_I_goodGroups : FnOk gl Tryz.prog 81 ct_I_goodGroups :=
  fnOk (cx := cx_I_goodGroups) (pl := pl_I_goodGroups) (dp := 0) (ok0_of tabOk (by unfold ArrOk; kernel_rfl) mix ⟨ok_I_goodGroup, ok_I_Group_old, ok_I_Group_fresh, trivial⟩ trivial) Tryz.func81 (by kernel_rfl) (by kernel_rfl) (by kernel_rfl)
    (by rw [show loopsOf (bodyOf Tryz.f81) = [((loopsOf (bodyOf Tryz.f81)).getD 0 .skip)] from by kernel_rfl]; exact ⟨(by rw [show lookup pl_I_goodGroups.loops (firstId ((loopsOf (bodyOf Tryz.f81)).getD 0 .skip)) = some lp_I_goodGroups_4 from by kernel_rfl]; exact fun d z h => (eb_I_goodGroups_4 d.1 d.2.1 d.2.2.1 d.2.2.2.1).trans h), trivial⟩) (fun x => ef_I_goodGroups x.1)
noncomputable def o_I_ReadUnified_4 : List Out := [⟨.normal, ⟨[], [5, 27], []⟩, mkSh 29 [(5, .val S_impl_Group (.row (.pr .b (.pr .b (.pr (.row (.pr .b (.pr .b .b))) .b))))), (27, .val .bool .b)]⟩]
noncomputable def o_I_ReadUnified_5 : List Out := [⟨.normal, ⟨[], [], []⟩, mkSh 29 []⟩, ⟨.ret, ⟨[], [2, 3, 4], []⟩, mkSh 29 [(2, .val S_impl_Group (.row (.pr .b (.pr .b (.pr (.row (.pr .b (.pr .b .b))) .b))))), (3, .val (.int .i64) .b), (4, .val .bool .b)]⟩]
noncomputable def pl_I_ReadUnified : Plan := ⟨[(4, o_I_ReadUnified_4), (5, o_I_ReadUnified_5)], [], 0, 0⟩
noncomputable def f_I_ReadUnified (t0 : PV .str) : Option (PVs [S_impl_Group, (.int .i64), .bool] × PVs []) :=
  ((
      bif (decide ((t0.length : Int) ≤ 3000)) then
        (f_I_linesOf t0).bind fun r10 =>
          (f_I_readUnified r10.1.1).bind fun r11 =>
            ((
                bif r11.1.2.2.1 then
                  bif (r11.1.2.1 == t0) then
                    (f_I_goodGroups r11.1.1).bind fun r12 =>
                      some (r11.1.1, r12.1.1, ())
                  else
                    some (r11.1.1, false, ())
                else
                  some (r11.1.1, false, ()) : Option ((PV S_impl_Group × PV .bool × Unit)))).bind fun j13 =>
              bif j13.2.1 then
                some (.inr (j13.1, 0, true, ()))
              else
                some (.inl ())
      else
        some (.inl ()) : Option ((Unit) ⊕ (PV S_impl_Group × PV (.int .i64) × PV .bool × Unit)))).bind fun x16 =>
    match x16 with
    | .inl j14 =>
      some (([], 1, false, ()), ())
    | .inr j15 =>
      some ((j15.1, j15.2.1, j15.2.2.1, ()), ())
noncomputable def ct_I_ReadUnified : Ct := ⟨[(.bor, .str)], [(S_impl_Group, (.row (.pr .b (.pr .b (.pr (.row (.pr .b (.pr .b .b))) .b))))), ((.int .i64), .b), (.bool, .b)], fun x => f_I_ReadUnified x.1⟩
noncomputable def cx_I_ReadUnified : Cx := ⟨tab, arrs, [(79, ct_I_readUnified), (80, ct_I_linesOf), (81, ct_I_goodGroups)], [], gl, []⟩
theorem ef_I_ReadUnified (t0 : PV .str) : denF cx_I_ReadUnified 0 pl_I_ReadUnified Tryz.f21.ntmps (bodyOf Tryz.f21) Tryz.f21.results.toList [(.bor, .str)] [(S_impl_Group, (.row (.pr .b (.pr .b (.pr (.row (.pr .b (.pr .b .b))) .b))))), ((.int .i64), .b), (.bool, .b)] (t0, ()) = f_I_ReadUnified t0 := by kernel_rfl
theorem ok_I_ReadUnified : FnOk gl Tryz.prog 21 ct_I_ReadUnified :=
  fnOk (cx := cx_I_ReadUnified) (pl := pl_I_ReadUnified) (dp := 0) (ok0_of tabOk (by unfold ArrOk; kernel_rfl) mix ⟨ok_I_readUnified, ok_I_linesOf, ok_I_goodGroups, trivial⟩ trivial) Tryz.func21 (by kernel_rfl) (by kernel_rfl) (by kernel_rfl)
    (by rw [show loopsOf (bodyOf Tryz.f21) = [] from by kernel_rfl]; exact trivial) (fun x => ef_I_ReadUnified x.1)
noncomputable def pl_L_eqRow : Plan := ⟨[], [], 0, 0⟩
noncomputable def f_L_eqRow (t0 : PV Y_impl_Row) (t1 : PV Y_impl_Row) : Option (PVs [.bool] × PVs []) :=
  bif (!(t0.1 == t1.1)) then
    some ((false, ()), ())
  else
    bif (!(t0.2.1 == t1.2.1)) then
      some ((false, ()), ())
    else
      some ((true, ()), ())
noncomputable def ct_L_eqRow : Ct := ⟨[(.bor, Y_impl_Row), (.bor, Y_impl_Row)], [(.bool, .b)], fun x => f_L_eqRow x.1 x.2.1⟩
noncomputable def cx_L_eqRow : Cx := ⟨tab, arrs, [], [], gl, []⟩
theorem ef_L_eqRow (t0 : PV Y_impl_Row) (t1 : PV Y_impl_Row) : denF cx_L_eqRow 0 pl_L_eqRow Tryz.f226.ntmps (bodyOf Tryz.f226) Tryz.f226.results.toList [(.bor, Y_impl_Row), (.bor, Y_impl_Row)] [(.bool, .b)] (t0, t1, ()) = f_L_eqRow t0 t1 := by kernel_rfl
theorem ok_L_eqRow : FnOk gl Tryz.prog 226 ct_L_eqRow :=
  fnOk (cx := cx_L_eqRow) (pl := pl_L_eqRow) (dp := 0) (ok0_of tabOk (by unfold ArrOk; kernel_rfl) mix trivial trivial) Tryz.func226 (by kernel_rfl) (by kernel_rfl) (by kernel_rfl)
    (by rw [show loopsOf (bodyOf Tryz.f226) = [] from by kernel_rfl]; exact trivial) (fun x => ef_L_eqRow x.1 x.2.1)
noncomputable def sh_L_eqRowS_4 : List Sh := mkSh 27 [(0, .val S_impl_Row .b), (1, .val S_impl_Row .b), (5, .val (.int .i64) .b)]
noncomputable def o_L_eqRowS_4 : List Out := [⟨.exit 0, ⟨[], [], []⟩, mkSh 27 []⟩, ⟨.ret, ⟨[], [4], []⟩, mkSh 27 [(4, .val .bool .b)]⟩]
noncomputable def b_L_eqRowS_4 (t0 : PV S_impl_Row) (t1 : PV S_impl_Row) (t5 : PV (.int .i64)) : Option ((PV S_impl_Row × PV S_impl_Row × PV (.int .i64) × Unit) ⊕ ((Unit) ⊕ (PV .bool × Unit))) :=
  bif (decide (t5 < (t0.length : Int))) then
    bif inB t5 t0.length then
      bif inB t5 t1.length then
        (f_L_eqRow (t0.getD t5.toNat (dflt Y_impl_Row)) (t1.getD t5.toNat (dflt Y_impl_Row))).bind fun r4 =>
          bif (!r4.1.1) then
            some (.inr (.inr (false, ())))
          else
            some (.inl (t0, t1, (IntKind.wrap .i64 (t5 + 1)), ()))
      else
        none
    else
      none
  else
    some (.inr (.inl ()))
noncomputable def w_L_eqRowS_4 : PV S_impl_Row × PV S_impl_Row × PV (.int .i64) × Unit → Option ((Unit) ⊕ (PV .bool × Unit)) := fix fun d => b_L_eqRowS_4 d.1 d.2.1 d.2.2.1
noncomputable def lp_L_eqRowS_4 : Lp := ⟨⟨[], [0, 1, 5], []⟩, sh_L_eqRowS_4, o_L_eqRowS_4, fun d => b_L_eqRowS_4 d.1 d.2.1 d.2.2.1⟩
noncomputable def pl_L_eqRowS : Plan := ⟨[], [(4, lp_L_eqRowS_4)], 0, 0⟩
noncomputable def f_L_eqRowS (t0 : PV S_impl_Row) (t1 : PV S_impl_Row) : Option (PVs [.bool] × PVs []) :=
  bif (!((t0.length : Int) == (t1.length : Int))) then
    some ((false, ()), ())
  else
    (w_L_eqRowS_4 (t0, t1, 0, ())).bind fun x9 =>
      match x9 with
      | .inl l7 =>
        some ((true, ()), ())
      | .inr l8 =>
        some ((l8.1, ()), ())
noncomputable def ct_L_eqRowS : Ct := ⟨[(.bor, S_impl_Row), (.bor, S_impl_Row)], [(.bool, .b)], fun x => f_L_eqRowS x.1 x.2.1⟩
noncomputable def cx_L_eqRowS : Cx := ⟨tab, arrs, [(226, ct_L_eqRow)], [], gl, []⟩
theorem eb_L_eqRowS_4 (t0 : PV S_impl_Row) (t1 : PV S_impl_Row) (t5 : PV (.int .i64)) : denK cx_L_eqRowS (rcN cx_L_eqRowS 0) pl_L_eqRowS 0 ((loopsOf (bodyOf Tryz.f150)).getD 0 .skip) (fillS sh_L_eqRowS_4 (t0, t1, t5, ())) (roundK 0 lp_L_eqRowS_4) = b_L_eqRowS_4 t0 t1 t5 := by kernel_rfl
theorem ef_L_eqRowS (t0 : PV S_impl_Row) (t1 : PV S_impl_Row) : denF cx_L_eqRowS 0 pl_L_eqRowS Tryz.f150.ntmps (bodyOf Tryz.f150) Tryz.f150.results.toList [(.bor, S_impl_Row), (.bor, S_impl_Row)] [(.bool, .b)] (t0, t1, ()) = f_L_eqRowS t0 t1 := by kernel_rfl
theorem ok_L_eqRowS : FnOk gl Tryz.prog 150 ct_L_eqRowS :=
  fnOk (cx := cx_L_eqRowS) (pl := pl_L_eqRowS) (dp := 0) (ok0_of tabOk (by unfold ArrOk; kernel_rfl) mix ⟨ok_L_eqRow, trivial⟩ trivial) Tryz.func150 (by kernel_rfl) (by kernel_rfl) (by kernel_rfl)
    (by rw [show loopsOf (bodyOf Tryz.f150) = [((loopsOf (bodyOf Tryz.f150)).getD 0 .skip)] from by kernel_rfl]; exact ⟨(by rw [show lookup pl_L_eqRowS.loops (firstId ((loopsOf (bodyOf Tryz.f150)).getD 0 .skip)) = some lp_L_eqRowS_4 from by kernel_rfl]; exact fun d z h => (eb_L_eqRowS_4 d.1 d.2.1 d.2.2.1).trans h), trivial⟩) (fun x => ef_L_eqRowS x.1 x.2.1)
noncomputable def pl_L_eqGroup : Plan := ⟨[], [], 0, 0⟩
noncomputable def f_L_eqGroup (t0 : PV Y_impl_Group) (t1 : PV Y_impl_Group) : Option (PVs [.bool] × PVs []) :=
  bif (!(t0.1 == t1.1)) then
    some ((false, ()), ())
  else
    bif (!(t0.2.1 == t1.2.1)) then
      some ((false, ()), ())
    else
      (f_L_eqRowS t0.2.2.1 t1.2.2.1).bind fun r4 =>
        bif (!r4.1.1) then
          some ((false, ()), ())
        else
          some ((true, ()), ())
noncomputable def ct_L_eqGroup : Ct := ⟨[(.bor, Y_impl_Group), (.bor, Y_impl_Group)], [(.bool, .b)], fun x => f_L_eqGroup x.1 x.2.1⟩
noncomputable def cx_L_eqGroup : Cx := ⟨tab, arrs, [(150, ct_L_eqRowS)], [], gl, []⟩
theorem ef_L_eqGroup (t0 : PV Y_impl_Group) (t1 : PV Y_impl_Group) : denF cx_L_eqGroup 0 pl_L_eqGroup Tryz.f82.ntmps (bodyOf Tryz.f82) Tryz.f82.results.toList [(.bor, Y_impl_Group), (.bor, Y_impl_Group)] [(.bool, .b)] (t0, t1, ()) = f_L_eqGroup t0 t1 := by kernel_rfl
theorem ok_L_eqGroup : FnOk gl Tryz.prog 82 ct_L_eqGroup :=
  fnOk (cx := cx_L_eqGroup) (pl := pl_L_eqGroup) (dp := 0) (ok0_of tabOk (by unfold ArrOk; kernel_rfl) mix ⟨ok_L_eqRowS, trivial⟩ trivial) Tryz.func82 (by kernel_rfl) (by kernel_rfl) (by kernel_rfl)
    (by rw [show loopsOf (bodyOf Tryz.f82) = [] from by kernel_rfl]; exact trivial) (fun x => ef_L_eqGroup x.1 x.2.1)
noncomputable def sh_L_eqGroupS_4 : List Sh := mkSh 27 [(0, .val S_impl_Group .b), (1, .val S_impl_Group .b), (5, .val (.int .i64) .b)]
noncomputable def o_L_eqGroupS_4 : List Out := [⟨.exit 0, ⟨[], [], []⟩, mkSh 27 []⟩, ⟨.ret, ⟨[], [4], []⟩, mkSh 27 [(4, .val .bool .b)]⟩]
noncomputable def b_L_eqGroupS_4 (t0 : PV S_impl_Group) (t1 : PV S_impl_Group) (t5 : PV (.int .i64)) : Option ((PV S_impl_Group × PV S_impl_Group × PV (.int .i64) × Unit) ⊕ ((Unit) ⊕ (PV .bool × Unit))) :=
  bif (decide (t5 < (t0.length : Int))) then
    bif inB t5 t0.length then
      bif inB t5 t1.length then
        (f_L_eqGroup (t0.getD t5.toNat (dflt Y_impl_Group)) (t1.getD t5.toNat (dflt Y_impl_Group))).bind fun r4 =>
          bif (!r4.1.1) then
            some (.inr (.inr (false, ())))
          else
            some (.inl (t0, t1, (IntKind.wrap .i64 (t5 + 1)), ()))
      else
        none
    else
      none
  else
    some (.inr (.inl ()))
noncomputable def w_L_eqGroupS_4 : PV S_impl_Group × PV S_impl_Group × PV (.int .i64) × Unit → Option ((Unit) ⊕ (PV .bool × Unit)) := fix fun d => b_L_eqGroupS_4 d.1 d.2.1 d.2.2.1
noncomputable def lp_L_eqGroupS_4 : Lp := ⟨⟨[], [0, 1, 5], []⟩, sh_L_eqGroupS_4, o_L_eqGroupS_4, fun d => b_L_eqGroupS_4 d.1 d.2.1 d.2.2.1⟩
noncomputable def pl_L_eqGroupS : Plan := ⟨[], [(4, lp_L_eqGroupS_4)], 0, 0⟩
noncomputable def f_L_eqGroupS (t0 : PV S_impl_Group) (t1 : PV S_impl_Group) : Option (PVs [.bool] × PVs []) :=
  bif (!((t0.length : Int) == (t1.length : Int))) then
    some ((false, ()), ())
  else
    (w_L_eqGroupS_4 (t0, t1, 0, ())).bind fun x9 =>
      match x9 with
      | .inl l7 =>
        some ((true, ()), ())
      | .inr l8 =>
        some ((l8.1, ()), ())
noncomputable def ct_L_eqGroupS : Ct := ⟨[(.bor, S_impl_Group), (.bor, S_impl_Group)], [(.bool, .b)], fun x => f_L_eqGroupS x.1 x.2.1⟩
noncomputable def cx_L_eqGroupS : Cx := ⟨tab, arrs, [(82, ct_L_eqGroup)], [], gl, []⟩
theorem eb_L_eqGroupS_4 (t0 : PV S_impl_Group) (t1 : PV S_impl_Group) (t5 : PV (.int .i64)) : denK cx_L_eqGroupS (rcN cx_L_eqGroupS 0) pl_L_eqGroupS 0 ((loopsOf (bodyOf Tryz.f22)).getD 0 .skip) (fillS sh_L_eqGroupS_4 (t0, t1, t5, ())) (roundK 0 lp_L_eqGroupS_4) = b_L_eqGroupS_4 t0 t1 t5 := by kernel_rfl
theorem ef_L_eqGroupS (t0 : PV S_impl_Group) (t1 : PV S_impl_Group) : denF cx_L_eqGroupS 0 pl_L_eqGroupS Tryz.f22.ntmps (bodyOf Tryz.f22) Tryz.f22.results.toList [(.bor, S_impl_Group), (.bor, S_impl_Group)] [(.bool, .b)] (t0, t1, ()) = f_L_eqGroupS t0 t1 := by kernel_rfl
theorem ok_L_eqGroupS : FnOk gl Tryz.prog 22 ct_L_eqGroupS :=
  fnOk (cx := cx_L_eqGroupS) (pl := pl_L_eqGroupS) (dp := 0) (ok0_of tabOk (by unfold ArrOk; kernel_rfl) mix ⟨ok_L_eqGroup, trivial⟩ trivial) Tryz.func22 (by kernel_rfl) (by kernel_rfl) (by kernel_rfl)
    (by rw [show loopsOf (bodyOf Tryz.f22) = [((loopsOf (bodyOf Tryz.f22)).getD 0 .skip)] from by kernel_rfl]; exact ⟨(by rw [show lookup pl_L_eqGroupS.loops (firstId ((loopsOf (bodyOf Tryz.f22)).getD 0 .skip)) = some lp_L_eqGroupS_4 from by kernel_rfl]; exact fun d z h => (eb_L_eqGroupS_4 d.1 d.2.1 d.2.2.1).trans h), trivial⟩) (fun x => ef_L_eqGroupS x.1 x.2.1)
noncomputable def sh_L_markText_4 : List Sh := mkSh 20 [(0, .val (.int .i64) .b), (3, .val .str .b)]
noncomputable def o_L_markText_4 : List Out := [⟨.exit 0, ⟨[], [3], []⟩, mkSh 20 [(3, .val .str .b)]⟩]
noncomputable def b_L_markText_4 (t0 : PV (.int .i64)) (t3 : PV .str) : Option ((PV (.int .i64) × PV .str × Unit) ⊕ ((PV .str × Unit))) :=
  bif (decide (t0 > 0)) then
    bif 10 == 0 then
      none
    else
      bif decide ((bytesOfInts [(IntKind.wrap .u8 (IntKind.wrap .i64 (48 + (t0.tmod 10))))]).length + t3.length ≤ 1099511627776) then
        bif 10 == 0 then
          none
        else
          some (.inl ((IntKind.wrap .i64 (t0.tdiv 10)), ((bytesOfInts [(IntKind.wrap .u8 (IntKind.wrap .i64 (48 + (t0.tmod 10))))]) ++ t3), ()))
      else
        none
  else
    some (.inr (t3, ()))
noncomputable def w_L_markText_4 : PV (.int .i64) × PV .str × Unit → Option ((PV .str × Unit)) := fix fun d => b_L_markText_4 d.1 d.2.1
noncomputable def lp_L_markText_4 : Lp := ⟨⟨[], [0, 3], []⟩, sh_L_markText_4, o_L_markText_4, fun d => b_L_markText_4 d.1 d.2.1⟩
noncomputable def pl_L_markText : Plan := ⟨[], [(4, lp_L_markText_4)], 0, 0⟩
noncomputable def f_L_markText (t0 : PV (.int .i64)) : Option (PVs [.str] × PVs []) :=
  bif (decide (t0 ≤ 0)) then
    some (([109, 48], ()), ())
  else
    (w_L_markText_4 (t0, [], ())).bind fun l2 =>
      bif decide ([109].length + l2.1.length ≤ 1099511627776) then
        some ((([109] ++ l2.1), ()), ())
      else
        none
noncomputable def ct_L_markText : Ct := ⟨[(.bor, (.int .i64))], [(.str, .b)], fun x => f_L_markText x.1⟩
noncomputable def cx_L_markText : Cx := ⟨tab, arrs, [], [], gl, []⟩
theorem eb_L_markText_4 (t0 : PV (.int .i64)) (t3 : PV .str) : denK cx_L_markText (rcN cx_L_markText 0) pl_L_markText 0 ((loopsOf (bodyOf Tryz.f151)).getD 0 .skip) (fillS sh_L_markText_4 (t0, t3, ())) (roundK 0 lp_L_markText_4) = b_L_markText_4 t0 t3 := by kernel_rfl
theorem ef_L_markText (t0 : PV (.int .i64)) : denF cx_L_markText 0 pl_L_markText Tryz.f151.ntmps (bodyOf Tryz.f151) Tryz.f151.results.toList [(.bor, (.int .i64))] [(.str, .b)] (t0, ()) = f_L_markText t0 := by kernel_rfl
theorem ok_L_markText : FnOk gl Tryz.prog 151 ct_L_markText :=
  fnOk (cx := cx_L_markText) (pl := pl_L_markText) (dp := 0) (ok0_of tabOk (by unfold ArrOk; kernel_rfl) mix trivial trivial) Tryz.func151 (by kernel_rfl) (by kernel_rfl) (by kernel_rfl)
    (by rw [show loopsOf (bodyOf Tryz.f151) = [((loopsOf (bodyOf Tryz.f151)).getD 0 .skip)] from by kernel_rfl]; exact ⟨(by rw [show lookup pl_L_markText.loops (firstId ((loopsOf (bodyOf Tryz.f151)).getD 0 .skip)) = some lp_L_markText_4 from by kernel_rfl]; exact fun d z h => (eb_L_markText_4 d.1 d.2.1).trans h), trivial⟩) (fun x => ef_L_markText x.1)
noncomputable def sh_L_markRowS_2 : List Sh := mkSh 29 [(0, .val S_impl_Row (.row (.pr .b (.pr .b .b)))), (1, .sub ⟨0, [], 0, 0⟩), (2, .val (.int .i64) .b), (6, .val (.int .i64) .b)]
noncomputable def o_L_markRowS_2 : List Out := [⟨.exit 0, ⟨[], [1], []⟩, mkSh 29 [(0, .val S_impl_Row (.row (.pr .b (.pr .b .b)))), (2, .val (.int .i64) .b)]⟩]
noncomputable def b_L_markRowS_2 (t0 : PV S_impl_Row) (t2 : PV (.int .i64)) (t6 : PV (.int .i64)) : Option ((PV S_impl_Row × PV (.int .i64) × PV (.int .i64) × Unit) ⊕ ((PV S_impl_Row × PV (.int .i64) × Unit))) :=
  bif (decide (t6 < (t0.length : Int))) then
    bif inB t6 t0.length then
      (f_L_markText (IntKind.wrap .i64 (t2 + 1))).bind fun r4 =>
        bif inB t6 (t0.set t6.toNat (t2, (t0.getD t6.toNat (dflt Y_impl_Row)).2)).length then
          some (.inl (((t0.set t6.toNat (t2, (t0.getD t6.toNat (dflt Y_impl_Row)).2)).set t6.toNat (((t0.set t6.toNat (t2, (t0.getD t6.toNat (dflt Y_impl_Row)).2)).getD t6.toNat (dflt Y_impl_Row)).1, (r4.1.1, (((t0.set t6.toNat (t2, (t0.getD t6.toNat (dflt Y_impl_Row)).2)).getD t6.toNat (dflt Y_impl_Row)).2).2))), (IntKind.wrap .i64 ((IntKind.wrap .i64 (t2 + 1)) + 1)), (IntKind.wrap .i64 (t6 + 1)), ()))
        else
          none
    else
      none
  else
    some (.inr (t0, t2, ()))
noncomputable def w_L_markRowS_2 : PV S_impl_Row × PV (.int .i64) × PV (.int .i64) × Unit → Option ((PV S_impl_Row × PV (.int .i64) × Unit)) := fix fun d => b_L_markRowS_2 d.1 d.2.1 d.2.2.1
noncomputable def lp_L_markRowS_2 : Lp := ⟨⟨[], [0, 1, 5], []⟩, sh_L_markRowS_2, o_L_markRowS_2, fun d => b_L_markRowS_2 d.1 d.2.1 d.2.2.1⟩
noncomputable def pl_L_markRowS : Plan := ⟨[], [(2, lp_L_markRowS_2)], 0, 1⟩
noncomputable def f_L_markRowS (t0 : PV S_impl_Row) (t1 : PV (.int .i64)) : Option (PVs [(.int .i64)] × PVs [S_impl_Row]) :=
  (w_L_markRowS_2 (t0, t1, 0, ())).bind fun l6 =>
    some ((l6.2.1, ()), (l6.1, ()))
noncomputable def ct_L_markRowS : Ct := ⟨[(.mut, S_impl_Row), (.bor, (.int .i64))], [((.int .i64), .b)], fun x => f_L_markRowS x.1 x.2.1⟩
noncomputable def cx_L_markRowS : Cx := ⟨tab, arrs, [(151, ct_L_markText)], [], gl, []⟩
theorem eb_L_markRowS_2 (t0 : PV S_impl_Row) (t2 : PV (.int .i64)) (t6 : PV (.int .i64)) : denK cx_L_markRowS (rcN cx_L_markRowS 0) pl_L_markRowS 1 ((loopsOf (bodyOf Tryz.f83)).getD 0 .skip) (fillS sh_L_markRowS_2 (t0, t2, t6, ())) (roundK 1 lp_L_markRowS_2) = b_L_markRowS_2 t0 t2 t6 := by kernel_rfl
theorem ef_L_markRowS (t0 : PV S_impl_Row) (t1 : PV (.int .i64)) : denF cx_L_markRowS 0 pl_L_markRowS Tryz.f83.ntmps (bodyOf Tryz.f83) Tryz.f83.results.toList [(.mut, S_impl_Row), (.bor, (.int .i64))] [((.int .i64), .b)] (t0, t1, ()) = f_L_markRowS t0 t1 := by kernel_rfl
theorem ok_L_markRowS : FnOk gl Tryz.prog 83 ct_L_markRowS :=
  fnOk (cx := cx_L_markRowS) (pl := pl_L_markRowS) (dp := 0) (ok0_of tabOk (by unfold ArrOk; kernel_rfl) mix ⟨ok_L_markText, trivial⟩ trivial) Tryz.func83 (by kernel_rfl) (by kernel_rfl) (by kernel_rfl)
    (by rw [show loopsOf (bodyOf Tryz.f83) = [((loopsOf (bodyOf Tryz.f83)).getD 0 .skip)] from by kernel_rfl]; exact ⟨(by rw [show lookup pl_L_markRowS.loops (firstId ((loopsOf (bodyOf Tryz.f83)).getD 0 .skip)) = some lp_L_markRowS_2 from by kernel_rfl]; exact fun d z h => (eb_L_markRowS_2 d.1 d.2.1 d.2.2.1).trans h), trivial⟩) (fun x => ef_L_markRowS x.1 x.2.1)
noncomputable def sh_L_markGroupS_2 : List Sh := mkSh 35 [(0, .val S_impl_Group (.row (.pr .b (.pr .b (.pr (.row (.pr .b (.pr .b .b))) .b))))), (1, .sub ⟨0, [], 0, 0⟩), (2, .val (.int .i64) .b), (6, .val (.int .i64) .b)]
noncomputable def o_L_markGroupS_2 : List Out := [⟨.exit 0, ⟨[], [1], []⟩, mkSh 35 [(0, .val S_impl_Group (.row (.pr .b (.pr .b (.pr (.row (.pr .b (.pr .b .b))) .b))))), (2, .val (.int .i64) .b)]⟩]
noncomputable def b_L_markGroupS_2 (t0 : PV S_impl_Group) (t2 : PV (.int .i64)) (t6 : PV (.int .i64)) : Option ((PV S_impl_Group × PV (.int .i64) × PV (.int .i64) × Unit) ⊕ ((PV S_impl_Group × PV (.int .i64) × Unit))) :=
  bif (decide (t6 < (t0.length : Int))) then
    bif inB t6 t0.length then
      bif inB t6 (t0.set t6.toNat (t2, (t0.getD t6.toNat (dflt Y_impl_Group)).2)).length then
        bif inB t6 ((t0.set t6.toNat (t2, (t0.getD t6.toNat (dflt Y_impl_Group)).2)).set t6.toNat (((t0.set t6.toNat (t2, (t0.getD t6.toNat (dflt Y_impl_Group)).2)).getD t6.toNat (dflt Y_impl_Group)).1, ((IntKind.wrap .i64 (t2 + 1)), (((t0.set t6.toNat (t2, (t0.getD t6.toNat (dflt Y_impl_Group)).2)).getD t6.toNat (dflt Y_impl_Group)).2).2))).length then
          (f_L_markRowS ((((((t0.set t6.toNat (t2, (t0.getD t6.toNat (dflt Y_impl_Group)).2)).set t6.toNat (((t0.set t6.toNat (t2, (t0.getD t6.toNat (dflt Y_impl_Group)).2)).getD t6.toNat (dflt Y_impl_Group)).1, ((IntKind.wrap .i64 (t2 + 1)), (((t0.set t6.toNat (t2, (t0.getD t6.toNat (dflt Y_impl_Group)).2)).getD t6.toNat (dflt Y_impl_Group)).2).2))).getD t6.toNat (dflt Y_impl_Group)).2).2).1) (IntKind.wrap .i64 ((IntKind.wrap .i64 (t2 + 1)) + 1))).bind fun r2 =>
            some (.inl ((((t0.set t6.toNat (t2, (t0.getD t6.toNat (dflt Y_impl_Group)).2)).set t6.toNat (((t0.set t6.toNat (t2, (t0.getD t6.toNat (dflt Y_impl_Group)).2)).getD t6.toNat (dflt Y_impl_Group)).1, ((IntKind.wrap .i64 (t2 + 1)), (((t0.set t6.toNat (t2, (t0.getD t6.toNat (dflt Y_impl_Group)).2)).getD t6.toNat (dflt Y_impl_Group)).2).2))).set t6.toNat ((((t0.set t6.toNat (t2, (t0.getD t6.toNat (dflt Y_impl_Group)).2)).set t6.toNat (((t0.set t6.toNat (t2, (t0.getD t6.toNat (dflt Y_impl_Group)).2)).getD t6.toNat (dflt Y_impl_Group)).1, ((IntKind.wrap .i64 (t2 + 1)), (((t0.set t6.toNat (t2, (t0.getD t6.toNat (dflt Y_impl_Group)).2)).getD t6.toNat (dflt Y_impl_Group)).2).2))).getD t6.toNat (dflt Y_impl_Group)).1, (((((t0.set t6.toNat (t2, (t0.getD t6.toNat (dflt Y_impl_Group)).2)).set t6.toNat (((t0.set t6.toNat (t2, (t0.getD t6.toNat (dflt Y_impl_Group)).2)).getD t6.toNat (dflt Y_impl_Group)).1, ((IntKind.wrap .i64 (t2 + 1)), (((t0.set t6.toNat (t2, (t0.getD t6.toNat (dflt Y_impl_Group)).2)).getD t6.toNat (dflt Y_impl_Group)).2).2))).getD t6.toNat (dflt Y_impl_Group)).2).1, (r2.2.1, (((((t0.set t6.toNat (t2, (t0.getD t6.toNat (dflt Y_impl_Group)).2)).set t6.toNat (((t0.set t6.toNat (t2, (t0.getD t6.toNat (dflt Y_impl_Group)).2)).getD t6.toNat (dflt Y_impl_Group)).1, ((IntKind.wrap .i64 (t2 + 1)), (((t0.set t6.toNat (t2, (t0.getD t6.toNat (dflt Y_impl_Group)).2)).getD t6.toNat (dflt Y_impl_Group)).2).2))).getD t6.toNat (dflt Y_impl_Group)).2).2).2)))), r2.1.1, (IntKind.wrap .i64 (t6 + 1)), ()))
        else
          none
      else
        none
    else
      none
  else
    some (.inr (t0, t2, ()))
noncomputable def w_L_markGroupS_2 : PV S_impl_Group × PV (.int .i64) × PV (.int .i64) × Unit → Option ((PV S_impl_Group × PV (.int .i64) × Unit)) := fix fun d => b_L_markGroupS_2 d.1 d.2.1 d.2.2.1
noncomputable def lp_L_markGroupS_2 : Lp := ⟨⟨[], [0, 1, 5], []⟩, sh_L_markGroupS_2, o_L_markGroupS_2, fun d => b_L_markGroupS_2 d.1 d.2.1 d.2.2.1⟩
noncomputable def pl_L_markGroupS : Plan := ⟨[], [(2, lp_L_markGroupS_2)], 0, 1⟩
noncomputable def f_L_markGroupS (t0 : PV S_impl_Group) (t1 : PV (.int .i64)) : Option (PVs [(.int .i64)] × PVs [S_impl_Group]) :=
  (w_L_markGroupS_2 (t0, t1, 0, ())).bind fun l4 =>
    some ((l4.2.1, ()), (l4.1, ()))
noncomputable def ct_L_markGroupS : Ct := ⟨[(.mut, S_impl_Group), (.bor, (.int .i64))], [((.int .i64), .b)], fun x => f_L_markGroupS x.1 x.2.1⟩
noncomputable def cx_L_markGroupS : Cx := ⟨tab, arrs, [(83, ct_L_markRowS)], [], gl, []⟩
theorem eb_L_markGroupS_2 (t0 : PV S_impl_Group) (t2 : PV (.int .i64)) (t6 : PV (.int .i64)) : denK cx_L_markGroupS (rcN cx_L_markGroupS 0) pl_L_markGroupS 1 ((loopsOf (bodyOf Tryz.f23)).getD 0 .skip) (fillS sh_L_markGroupS_2 (t0, t2, t6, ())) (roundK 1 lp_L_markGroupS_2) = b_L_markGroupS_2 t0 t2 t6 := by kernel_rfl
theorem ef_L_markGroupS (t0 : PV S_impl_Group) (t1 : PV (.int .i64)) : denF cx_L_markGroupS 0 pl_L_markGroupS Tryz.f23.ntmps (bodyOf Tryz.f23) Tryz.f23.results.toList [(.mut, S_impl_Group), (.bor, (.int .i64))] [((.int .i64), .b)] (t0, t1, ()) = f_L_markGroupS t0 t1 := by kernel_rfl
theorem ok_L_markGroupS : FnOk gl Tryz.prog 23 ct_L_markGroupS :=
  fnOk (cx := cx_L_markGroupS) (pl := pl_L_markGroupS) (dp := 0) (ok0_of tabOk (by unfold ArrOk; kernel_rfl) mix ⟨ok_L_markRowS, trivial⟩ trivial) Tryz.func23 (by kernel_rfl) (by kernel_rfl) (by kernel_rfl)
    (by rw [show loopsOf (bodyOf Tryz.f23) = [((loopsOf (bodyOf Tryz.f23)).getD 0 .skip)] from by kernel_rfl]; exact ⟨(by rw [show lookup pl_L_markGroupS.loops (firstId ((loopsOf (bodyOf Tryz.f23)).getD 0 .skip)) = some lp_L_markGroupS_2 from by kernel_rfl]; exact fun d z h => (eb_L_markGroupS_2 d.1 d.2.1 d.2.2.1).trans h), trivial⟩) (fun x => ef_L_markGroupS x.1 x.2.1)
noncomputable def sh_L_heldRowS_2 : List Sh := mkSh 32 [(0, .val S_impl_Row .b), (1, .val (.int .i64) .b), (5, .val (.int .i64) .b)]
noncomputable def o_L_heldRowS_2 : List Out := [⟨.exit 0, ⟨[], [1], []⟩, mkSh 32 [(1, .val (.int .i64) .b)]⟩, ⟨.ret, ⟨[], [4], []⟩, mkSh 32 [(4, .val (.int .i64) .b)]⟩]
noncomputable def b_L_heldRowS_2 (t0 : PV S_impl_Row) (t1 : PV (.int .i64)) (t5 : PV (.int .i64)) : Option ((PV S_impl_Row × PV (.int .i64) × PV (.int .i64) × Unit) ⊕ ((PV (.int .i64) × Unit) ⊕ (PV (.int .i64) × Unit))) :=
  bif (decide (t5 < (t0.length : Int))) then
    bif inB t5 t0.length then
      bif (!(((t0.getD t5.toNat (dflt Y_impl_Row)).1) == t1)) then
        some (.inr (.inr ((-1), ())))
      else
        bif inB t5 t0.length then
          (f_L_markText (IntKind.wrap .i64 (t1 + 1))).bind fun r8 =>
            bif (!((((t0.getD t5.toNat (dflt Y_impl_Row)).2).1) == r8.1.1)) then
              some (.inr (.inr ((-1), ())))
            else
              some (.inl (t0, (IntKind.wrap .i64 ((IntKind.wrap .i64 (t1 + 1)) + 1)), (IntKind.wrap .i64 (t5 + 1)), ()))
        else
          none
    else
      none
  else
    some (.inr (.inl (t1, ())))
noncomputable def w_L_heldRowS_2 : PV S_impl_Row × PV (.int .i64) × PV (.int .i64) × Unit → Option ((PV (.int .i64) × Unit) ⊕ (PV (.int .i64) × Unit)) := fix fun d => b_L_heldRowS_2 d.1 d.2.1 d.2.2.1
noncomputable def lp_L_heldRowS_2 : Lp := ⟨⟨[], [0, 1, 5], []⟩, sh_L_heldRowS_2, o_L_heldRowS_2, fun d => b_L_heldRowS_2 d.1 d.2.1 d.2.2.1⟩
noncomputable def pl_L_heldRowS : Plan := ⟨[], [(2, lp_L_heldRowS_2)], 0, 0⟩
noncomputable def f_L_heldRowS (t0 : PV S_impl_Row) (t1 : PV (.int .i64)) : Option (PVs [(.int .i64)] × PVs []) :=
  (w_L_heldRowS_2 (t0, t1, 0, ())).bind fun x13 =>
    match x13 with
    | .inl l11 =>
      some ((l11.1, ()), ())
    | .inr l12 =>
      some ((l12.1, ()), ())
noncomputable def ct_L_heldRowS : Ct := ⟨[(.bor, S_impl_Row), (.bor, (.int .i64))], [((.int .i64), .b)], fun x => f_L_heldRowS x.1 x.2.1⟩
noncomputable def cx_L_heldRowS : Cx := ⟨tab, arrs, [(151, ct_L_markText)], [], gl, []⟩
theorem eb_L_heldRowS_2 (t0 : PV S_impl_Row) (t1 : PV (.int .i64)) (t5 : PV (.int .i64)) : denK cx_L_heldRowS (rcN cx_L_heldRowS 0) pl_L_heldRowS 0 ((loopsOf (bodyOf Tryz.f84)).getD 0 .skip) (fillS sh_L_heldRowS_2 (t0, t1, t5, ())) (roundK 0 lp_L_heldRowS_2) = b_L_heldRowS_2 t0 t1 t5 := by kernel_rfl
theorem ef_L_heldRowS (t0 : PV S_impl_Row) (t1 : PV (.int .i64)) : denF cx_L_heldRowS 0 pl_L_heldRowS Tryz.f84.ntmps (bodyOf Tryz.f84) Tryz.f84.results.toList [(.bor, S_impl_Row), (.bor, (.int .i64))] [((.int .i64), .b)] (t0, t1, ()) = f_L_heldRowS t0 t1 := by kernel_rfl
theorem ok_L_heldRowS : FnOk gl Tryz.prog 84 ct_L_heldRowS :=
  fnOk (cx := cx_L_heldRowS) (pl := pl_L_heldRowS) (dp := 0) (ok0_of tabOk (by unfold ArrOk; kernel_rfl) mix ⟨ok_L_markText, trivial⟩ trivial) Tryz.func84 (by kernel_rfl) (by kernel_rfl) (by kernel_rfl)
    (by rw [show loopsOf (bodyOf Tryz.f84) = [((loopsOf (bodyOf Tryz.f84)).getD 0 .skip)] from by kernel_rfl]; exact ⟨(by rw [show lookup pl_L_heldRowS.loops (firstId ((loopsOf (bodyOf Tryz.f84)).getD 0 .skip)) = some lp_L_heldRowS_2 from by kernel_rfl]; exact fun d z h => (eb_L_heldRowS_2 d.1 d.2.1 d.2.2.1).trans h), trivial⟩) (fun x => ef_L_heldRowS x.1 x.2.1)
noncomputable def sh_L_heldGroupS_2 : List Sh := mkSh 40 [(0, .val S_impl_Group .b), (1, .val (.int .i64) .b), (5, .val (.int .i64) .b)]
noncomputable def o_L_heldGroupS_2 : List Out := [⟨.exit 0, ⟨[], [1], []⟩, mkSh 40 [(1, .val (.int .i64) .b)]⟩, ⟨.ret, ⟨[], [4], []⟩, mkSh 40 [(4, .val (.int .i64) .b)]⟩]
noncomputable def b_L_heldGroupS_2 (t0 : PV S_impl_Group) (t1 : PV (.int .i64)) (t5 : PV (.int .i64)) : Option ((PV S_impl_Group × PV (.int .i64) × PV (.int .i64) × Unit) ⊕ ((PV (.int .i64) × Unit) ⊕ (PV (.int .i64) × Unit))) :=
  bif (decide (t5 < (t0.length : Int))) then
    bif inB t5 t0.length then
      bif (!(((t0.getD t5.toNat (dflt Y_impl_Group)).1) == t1)) then
        some (.inr (.inr ((-1), ())))
      else
        bif inB t5 t0.length then
          bif (!((((t0.getD t5.toNat (dflt Y_impl_Group)).2).1) == (IntKind.wrap .i64 (t1 + 1)))) then
            some (.inr (.inr ((-1), ())))
          else
            bif inB t5 t0.length then
              (f_L_heldRowS ((((t0.getD t5.toNat (dflt Y_impl_Group)).2).2).1) (IntKind.wrap .i64 ((IntKind.wrap .i64 (t1 + 1)) + 1))).bind fun r4 =>
                bif (decide (r4.1.1 < 0)) then
                  some (.inr (.inr ((-1), ())))
                else
                  some (.inl (t0, r4.1.1, (IntKind.wrap .i64 (t5 + 1)), ()))
            else
              none
        else
          none
    else
      none
  else
    some (.inr (.inl (t1, ())))
noncomputable def w_L_heldGroupS_2 : PV S_impl_Group × PV (.int .i64) × PV (.int .i64) × Unit → Option ((PV (.int .i64) × Unit) ⊕ (PV (.int .i64) × Unit)) := fix fun d => b_L_heldGroupS_2 d.1 d.2.1 d.2.2.1
noncomputable def lp_L_heldGroupS_2 : Lp := ⟨⟨[], [0, 1, 5], []⟩, sh_L_heldGroupS_2, o_L_heldGroupS_2, fun d => b_L_heldGroupS_2 d.1 d.2.1 d.2.2.1⟩
noncomputable def pl_L_heldGroupS : Plan := ⟨[], [(2, lp_L_heldGroupS_2)], 0, 0⟩
noncomputable def f_L_heldGroupS (t0 : PV S_impl_Group) (t1 : PV (.int .i64)) : Option (PVs [(.int .i64)] × PVs []) :=
  (w_L_heldGroupS_2 (t0, t1, 0, ())).bind fun x9 =>
    match x9 with
    | .inl l7 =>
      some ((l7.1, ()), ())
    | .inr l8 =>
      some ((l8.1, ()), ())
noncomputable def ct_L_heldGroupS : Ct := ⟨[(.bor, S_impl_Group), (.bor, (.int .i64))], [((.int .i64), .b)], fun x => f_L_heldGroupS x.1 x.2.1⟩
noncomputable def cx_L_heldGroupS : Cx := ⟨tab, arrs, [(84, ct_L_heldRowS)], [], gl, []⟩
theorem eb_L_heldGroupS_2 (t0 : PV S_impl_Group) (t1 : PV (.int .i64)) (t5 : PV (.int .i64)) : denK cx_L_heldGroupS (rcN cx_L_heldGroupS 0) pl_L_heldGroupS 0 ((loopsOf (bodyOf Tryz.f24)).getD 0 .skip) (fillS sh_L_heldGroupS_2 (t0, t1, t5, ())) (roundK 0 lp_L_heldGroupS_2) = b_L_heldGroupS_2 t0 t1 t5 := by kernel_rfl
theorem ef_L_heldGroupS (t0 : PV S_impl_Group) (t1 : PV (.int .i64)) : denF cx_L_heldGroupS 0 pl_L_heldGroupS Tryz.f24.ntmps (bodyOf Tryz.f24) Tryz.f24.results.toList [(.bor, S_impl_Group), (.bor, (.int .i64))] [((.int .i64), .b)] (t0, t1, ()) = f_L_heldGroupS t0 t1 := by kernel_rfl
theorem ok_L_heldGroupS : FnOk gl Tryz.prog 24 ct_L_heldGroupS :=
  fnOk (cx := cx_L_heldGroupS) (pl := pl_L_heldGroupS) (dp := 0) (ok0_of tabOk (by unfold ArrOk; kernel_rfl) mix ⟨ok_L_heldRowS, trivial⟩ trivial) Tryz.func24 (by kernel_rfl) (by kernel_rfl) (by kernel_rfl)
    (by rw [show loopsOf (bodyOf Tryz.f24) = [((loopsOf (bodyOf Tryz.f24)).getD 0 .skip)] from by kernel_rfl]; exact ⟨(by rw [show lookup pl_L_heldGroupS.loops (firstId ((loopsOf (bodyOf Tryz.f24)).getD 0 .skip)) = some lp_L_heldGroupS_2 from by kernel_rfl]; exact fun d z h => (eb_L_heldGroupS_2 d.1 d.2.1 d.2.2.1).trans h), trivial⟩) (fun x => ef_L_heldGroupS x.1 x.2.1)
noncomputable def o_L_FnExactReadUnified_6 : List Out := [⟨.normal, ⟨[], [0, 3, 4, 5, 6, 42, 65, 66, 67, 70, 71, 72], []⟩, mkSh 82 [(0, .val .str .b), (3, .val S_impl_Group (.row (.pr .b (.pr .b (.pr (.row (.pr .b (.pr .b .b))) .b))))), (4, .val (.int .i64) .b), (5, .val .bool .b), (6, .val S_impl_Group (.row (.pr .b (.pr .b (.pr (.row (.pr .b (.pr .b .b))) .b))))), (42, .val .bool .b)]⟩]
noncomputable def o_L_FnExactReadUnified_17 : List Out := [⟨.normal, ⟨[], [6, 9, 73], []⟩, mkSh 82 [(6, .val S_impl_Group (.row (.pr .b (.pr .b (.pr (.row (.pr .b (.pr .b .b))) .b))))), (9, .val (.int .i64) .b), (73, .val .bool .b)]⟩]
noncomputable def pl_L_FnExactReadUnified : Plan := ⟨[(6, o_L_FnExactReadUnified_6), (17, o_L_FnExactReadUnified_17)], [], 0, 0⟩
noncomputable def f_L_FnExactReadUnified (t0 : PV .str) : Option (PVs [.bool] × PVs []) :=
  bif (decide ((t0.length : Int) > 1048576)) then
    some ((true, ()), ())
  else
    (f_S_ReadUnified t0).bind fun r2 =>
      (f_I_ReadUnified t0).bind fun r4 =>
        ((
            (f_L_eqGroupS r4.1.1 r2.1.1).bind fun r8 =>
              bif (!r8.1.1) then
                some (t0, r2.1.1, r2.1.2.1, r2.1.2.2.1, r4.1.1, true, ())
              else
                bif (!(r4.1.2.1 == r2.1.2.1)) then
                  some (t0, r2.1.1, r2.1.2.1, r2.1.2.2.1, r4.1.1, true, ())
                else
                  some (t0, r2.1.1, r2.1.2.1, r2.1.2.2.1, r4.1.1, (!(r4.1.2.2.1 == r2.1.2.2.1)), ()) : Option ((PV .str × PV S_impl_Group × PV (.int .i64) × PV .bool × PV S_impl_Group × PV .bool × Unit)))).bind fun j9 =>
          bif j9.2.2.2.2.2.1 then
            some ((false, ()), ())
          else
            (f_L_markGroupS j9.2.2.2.2.1 1).bind fun r11 =>
              (f_L_heldGroupS r11.2.1 1).bind fun r13 =>
                bif (decide (r13.1.1 < 0)) then
                  some ((false, ()), ())
                else
                  bif (!(r13.1.1 == r11.1.1)) then
                    some ((false, ()), ())
                  else
                    (f_I_ReadUnified j9.1).bind fun r15 =>
                      ((
                          (f_L_eqGroupS r15.1.1 j9.2.1).bind fun r19 =>
                            bif (!r19.1.1) then
                              some (r11.2.1, r11.1.1, true, ())
                            else
                              bif (!(r15.1.2.1 == j9.2.2.1)) then
                                some (r11.2.1, r11.1.1, true, ())
                              else
                                some (r11.2.1, r11.1.1, (!(r15.1.2.2.1 == j9.2.2.2.1)), ()) : Option ((PV S_impl_Group × PV (.int .i64) × PV .bool × Unit)))).bind fun j20 =>
                        bif j20.2.2.1 then
                          some ((false, ()), ())
                        else
                          (f_L_heldGroupS j20.1 1).bind fun r22 =>
                            bif (decide (r22.1.1 < 0)) then
                              some ((false, ()), ())
                            else
                              bif (!(r22.1.1 == j20.2.1)) then
                                some ((false, ()), ())
                              else
                                some ((true, ()), ())
noncomputable def ct_L_FnExactReadUnified : Ct := ⟨[(.bor, .str)], [(.bool, .b)], fun x => f_L_FnExactReadUnified x.1⟩
noncomputable def cx_L_FnExactReadUnified : Cx := ⟨tab, arrs, [(20, ct_S_ReadUnified), (21, ct_I_ReadUnified), (22, ct_L_eqGroupS), (23, ct_L_markGroupS), (24, ct_L_heldGroupS)], [], gl, []⟩
theorem ef_L_FnExactReadUnified (t0 : PV .str) : denF cx_L_FnExactReadUnified 0 pl_L_FnExactReadUnified Tryz.f5.ntmps (bodyOf Tryz.f5) Tryz.f5.results.toList [(.bor, .str)] [(.bool, .b)] (t0, ()) = f_L_FnExactReadUnified t0 := by kernel_rfl
theorem ok_L_FnExactReadUnified : FnOk gl Tryz.prog 5 ct_L_FnExactReadUnified :=
  fnOk (cx := cx_L_FnExactReadUnified) (pl := pl_L_FnExactReadUnified) (dp := 0) (ok0_of tabOk (by unfold ArrOk; kernel_rfl) mix ⟨ok_S_ReadUnified, ok_I_ReadUnified, ok_L_eqGroupS, ok_L_markGroupS, ok_L_heldGroupS, trivial⟩ trivial) Tryz.func5 (by kernel_rfl) (by kernel_rfl) (by kernel_rfl)
    (by rw [show loopsOf (bodyOf Tryz.f5) = [] from by kernel_rfl]; exact trivial) (fun x => ef_L_FnExactReadUnified x.1)
end R
