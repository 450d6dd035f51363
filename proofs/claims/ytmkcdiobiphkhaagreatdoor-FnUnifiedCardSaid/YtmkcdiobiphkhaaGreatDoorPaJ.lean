/- The functions, part 3. -/
import Derived.Test.YtmkcdiobiphkhaaGreatDoorPaJ2
open Go Go.Dn Go.Proofs
namespace R
set_option linter.unusedVariables false
set_option maxRecDepth 20000
open Go.Shelf
noncomputable def o_S_ReadUnified_19 : List Out := [⟨.normal, ⟨[], [6, 87], []⟩, mkSh 89 [(6, .val S_impl_Group (.row (.pr .b (.pr .b (.pr (.row (.pr .b (.pr .b .b))) .b))))), (87, .val .bool .b)]⟩]
noncomputable def sh_S_ReadUnified_6 : List Sh := mkSh 89 [(5, .val S_string .b), (6, .val S_impl_Group (.row (.pr .b (.pr .b (.pr (.row (.pr .b (.pr .b .b))) .b))))), (7, .val .str .b)]
noncomputable def o_S_ReadUnified_6 : List Out := [⟨.exit 0, ⟨[], [6, 7, 83, 84, 85, 86], []⟩, mkSh 89 [(6, .val S_impl_Group (.row (.pr .b (.pr .b (.pr (.row (.pr .b (.pr .b .b))) .b))))), (7, .val .str .b)]⟩, ⟨.ret, ⟨[], [2, 3, 4], []⟩, mkSh 89 [(2, .val S_impl_Group (.row (.pr .b (.pr .b (.pr (.row (.pr .b (.pr .b .b))) .b))))), (3, .val (.int .i64) .b), (4, .val .bool .b)]⟩]
noncomputable def b_S_ReadUnified_6 (t5 : PV S_string) (t6 : PV S_impl_Group) (t7 : PV .str) : Option ((PV S_string × PV S_impl_Group × PV .str × Unit) ⊕ ((PV S_impl_Group × PV .str × Unit) ⊕ (PV S_impl_Group × PV (.int .i64) × PV .bool × Unit))) :=
  bif (decide ((t5.length : Int) > 0)) then
    bif inB 0 t5.length then
      (f_S_l1Plain (t5.getD ((0 : Int).toNat) [])).bind fun r5 =>
        (f_S_l7Head r5.1.1).bind fun r6 =>
          bif (!r6.1.2.2.2.1) then
            some (.inr (.inr ([], 1, false, ())))
          else
            bif cutB 1 (t5.length : Int) t5.length then
              (f_S_l7Rows (cutL 1 (t5.length : Int) t5) r6.1.2.1 r6.1.2.2.1).bind fun r8 =>
                (f_S_l4Count r6.1.1.1 r6.1.2.1).bind fun r11 =>
                  bif decide ([64, 64, 32, 45].length + r11.1.1.length ≤ 1099511627776) then
                    bif decide (([64, 64, 32, 45] ++ r11.1.1).length + [32, 43].length ≤ 1099511627776) then
                      (f_S_l4Count r6.1.1.2.1 r6.1.2.2.1).bind fun r12 =>
                        bif decide ((([64, 64, 32, 45] ++ r11.1.1) ++ [32, 43]).length + r12.1.1.length ≤ 1099511627776) then
                          bif decide (((([64, 64, 32, 45] ++ r11.1.1) ++ [32, 43]) ++ r12.1.1).length + [32, 64, 64, 10].length ≤ 1099511627776) then
                            bif cutB 1 (IntKind.wrap .i64 (1 + r8.1.2.1)) t5.length then
                              (f_S_l1Text (cutL 1 (IntKind.wrap .i64 (1 + r8.1.2.1)) t5)).bind fun r14 =>
                                bif decide ((((([64, 64, 32, 45] ++ r11.1.1) ++ [32, 43]) ++ r12.1.1) ++ [32, 64, 64, 10]).length + r14.1.1.length ≤ 1099511627776) then
                                  bif decide (t7.length + ((((([64, 64, 32, 45] ++ r11.1.1) ++ [32, 43]) ++ r12.1.1) ++ [32, 64, 64, 10]) ++ r14.1.1).length ≤ 1099511627776) then
                                    bif inB 0 t5.length then
                                      (f_S_l1Ends (t5.getD ((0 : Int).toNat) [])).bind fun r18 =>
                                        bif (!r18.1.1) then
                                          some (.inr (.inr ([], 1, false, ())))
                                        else
                                          bif cutB (IntKind.wrap .i64 (1 + r8.1.2.1)) (t5.length : Int) t5.length then
                                            bif roomB (t6.length + [(r6.1.1.1, (r6.1.1.2.1, (r8.1.1, r6.1.1.2.2.2)))].length) then
                                              some (.inl ((cutL (IntKind.wrap .i64 (1 + r8.1.2.1)) (t5.length : Int) t5), (t6 ++ [(r6.1.1.1, (r6.1.1.2.1, (r8.1.1, r6.1.1.2.2.2)))]), (t7 ++ ((((([64, 64, 32, 45] ++ r11.1.1) ++ [32, 43]) ++ r12.1.1) ++ [32, 64, 64, 10]) ++ r14.1.1)), ()))
                                            else
                                              none
                                          else
                                            none
                                    else
                                      none
                                  else
                                    none
                                else
                                  none
                            else
                              none
                          else
                            none
                        else
                          none
                    else
                      none
                  else
                    none
            else
              none
    else
      none
  else
    some (.inr (.inl (t6, t7, ())))
noncomputable def w_S_ReadUnified_6 : PV S_string × PV S_impl_Group × PV .str × Unit → Option ((PV S_impl_Group × PV .str × Unit) ⊕ (PV S_impl_Group × PV (.int .i64) × PV .bool × Unit)) := fix fun d => b_S_ReadUnified_6 d.1 d.2.1 d.2.2.1
noncomputable def lp_S_ReadUnified_6 : Lp := ⟨⟨[], [5, 6, 7, 83, 84, 85, 86], []⟩, sh_S_ReadUnified_6, o_S_ReadUnified_6, fun d => b_S_ReadUnified_6 d.1 d.2.1 d.2.2.1⟩
noncomputable def pl_S_ReadUnified : Plan := ⟨[(19, o_S_ReadUnified_19)], [(6, lp_S_ReadUnified_6)], 0, 0⟩
noncomputable def f_S_ReadUnified (t0 : PV .str) : Option (PVs [S_impl_Group, (.int .i64), .bool] × PVs []) :=
  bif (decide ((t0.length : Int) > 3000)) then
    some (([], 1, false, ()), ())
  else
    (f_S_l1Cut t0).bind fun r2 =>
      (w_S_ReadUnified_6 (r2.1.1, [], [], ())).bind fun x31 =>
        match x31 with
        | .inl l21 =>
          ((
              (f_S_l6Good l21.1).bind fun r27 =>
                bif (!r27.1.1) then
                  some (l21.1, true, ())
                else
                  (f_S_l7Text l21.1).bind fun r28 =>
                    some (l21.1, (!(r28.1.1 == l21.2.1)), ()) : Option ((PV S_impl_Group × PV .bool × Unit)))).bind fun j29 =>
            bif j29.2.1 then
              some (([], 1, false, ()), ())
            else
              some ((j29.1, 0, true, ()), ())
        | .inr l30 =>
          some ((l30.1, l30.2.1, l30.2.2.1, ()), ())
noncomputable def ct_S_ReadUnified : Ct := ⟨[(.bor, .str)], [(S_impl_Group, (.row (.pr .b (.pr .b (.pr (.row (.pr .b (.pr .b .b))) .b))))), ((.int .i64), .b), (.bool, .b)], fun x => f_S_ReadUnified x.1⟩
noncomputable def cx_S_ReadUnified : Cx := ⟨tab, arrs, [(29, ct_S_l6Good), (30, ct_S_l7Text), (38, ct_S_l1Cut), (39, ct_S_l7Head), (40, ct_S_l1Plain), (41, ct_S_l7Rows), (42, ct_S_l4Count), (43, ct_S_l1Text), (44, ct_S_l1Ends)], [], gl, []⟩
theorem eb_S_ReadUnified_6 (t5 : PV S_string) (t6 : PV S_impl_Group) (t7 : PV .str) : denK cx_S_ReadUnified (rcN cx_S_ReadUnified 0) pl_S_ReadUnified 0 ((loopsOf (bodyOf Tryz.f14)).getD 0 .skip) (fillS sh_S_ReadUnified_6 (t5, t6, t7, ())) (roundK 0 lp_S_ReadUnified_6) = b_S_ReadUnified_6 t5 t6 t7 := by kernel_rfl
theorem ef_S_ReadUnified (t0 : PV .str) : denF cx_S_ReadUnified 0 pl_S_ReadUnified Tryz.f14.ntmps (bodyOf Tryz.f14) Tryz.f14.results.toList [(.bor, .str)] [(S_impl_Group, (.row (.pr .b (.pr .b (.pr (.row (.pr .b (.pr .b .b))) .b))))), ((.int .i64), .b), (.bool, .b)] (t0, ()) = f_S_ReadUnified t0 := by kernel_rfl
theorem ok_S_ReadUnified : FnOk gl Tryz.prog 14 ct_S_ReadUnified :=
  fnOk (cx := cx_S_ReadUnified) (pl := pl_S_ReadUnified) (dp := 0) (ok0_of tabOk (by unfold ArrOk; kernel_rfl) mix ⟨ok_S_l6Good, ok_S_l7Text, ok_S_l1Cut, ok_S_l7Head, ok_S_l1Plain, ok_S_l7Rows, ok_S_l4Count, ok_S_l1Text, ok_S_l1Ends, trivial⟩ trivial) Tryz.func14 (by kernel_rfl) (by kernel_rfl) (by kernel_rfl)
    (by rw [show loopsOf (bodyOf Tryz.f14) = [((loopsOf (bodyOf Tryz.f14)).getD 0 .skip)] from by kernel_rfl]; exact ⟨(by rw [show lookup pl_S_ReadUnified.loops (firstId ((loopsOf (bodyOf Tryz.f14)).getD 0 .skip)) = some lp_S_ReadUnified_6 from by kernel_rfl]; exact fun d z h => (eb_S_ReadUnified_6 d.1 d.2.1 d.2.2.1).trans h), trivial⟩) (fun x => ef_S_ReadUnified x.1)
noncomputable def o_L_FnUnified_7 : List Out := [⟨.normal, ⟨[], [1, 5, 6, 7, 54, 65, 66, 69, 70, 71, 72, 92, 93, 94, 97, 98, 99, 100, 111, 112, 113, 114, 115, 125, 126, 127], []⟩, mkSh 131 [(1, .val S_uint8 .b), (5, .val S_impl_Group (.row (.pr .b (.pr .b (.pr (.row (.pr .b (.pr .b .b))) .b))))), (6, .val .str .b), (7, .val .bool .b), (54, .val .bool .b)]⟩]
noncomputable def o_L_FnUnified_11 : List Out := [⟨.normal, ⟨[], [1, 73, 92, 93, 94, 97, 98, 99, 100, 111, 112, 113, 114, 115, 125, 126, 127], []⟩, mkSh 131 [(1, .val S_uint8 .b), (73, .val .bool .b)]⟩]
noncomputable def o_L_FnUnified_12 : List Out := [⟨.normal, ⟨[], [1, 92, 93, 94, 97, 98, 99, 100, 111, 112, 113, 114, 115, 125, 126, 127], []⟩, mkSh 131 [(1, .val S_uint8 .b)]⟩, ⟨.ret, ⟨[], [4], []⟩, mkSh 131 [(4, .val .bool .b)]⟩]
noncomputable def o_L_FnUnified_16 : List Out := [⟨.normal, ⟨[], [13, 14, 15, 16, 101, 111, 112, 113, 114, 115, 125, 126, 127], []⟩, mkSh 131 [(13, .val .str .b), (14, .val S_impl_Group (.row (.pr .b (.pr .b (.pr (.row (.pr .b (.pr .b .b))) .b))))), (15, .val (.int .i64) .b), (16, .val .bool .b), (101, .val .bool .b)]⟩]
noncomputable def o_L_FnUnified_20 : List Out := [⟨.normal, ⟨[], [14, 20, 116, 125, 126, 127], []⟩, mkSh 131 [(14, .val S_impl_Group (.row (.pr .b (.pr .b (.pr (.row (.pr .b (.pr .b .b))) .b))))), (20, .val .str .b), (116, .val .bool .b)]⟩]
noncomputable def pl_L_FnUnified : Plan := ⟨[(7, o_L_FnUnified_7), (11, o_L_FnUnified_11), (12, o_L_FnUnified_12), (16, o_L_FnUnified_16), (20, o_L_FnUnified_20)], [], 0, 0⟩
noncomputable def f_L_FnUnified (t0 : PV S_uint8) (t1 : PV S_uint8) : Option (PVs [.bool] × PVs []) :=
  (f_L_big t0 t1).bind fun r4 =>
    bif r4.1.1 then
      some ((true, ()), ())
    else
      (f_S_DrawGroupsText t0).bind fun r6 =>
        (f_I_GroupsText r6.1.1).bind fun r8 =>
          (f_S_GroupsText r6.1.1).bind fun r10 =>
            ((
                bif (!(r8.1.2.1 == r10.1.2.1)) then
                  some (t1, r6.1.1, r8.1.1, r8.1.2.1, true, ())
                else
                  bif (!(r8.1.1 == r10.1.1)) then
                    some (t1, r6.1.1, r8.1.1, r8.1.2.1, true, ())
                  else
                    (f_I_GoodGroups r6.1.1).bind fun r16 =>
                      (f_S_GoodGroups r6.1.1).bind fun r17 =>
                        some (t1, r6.1.1, r8.1.1, r8.1.2.1, (!(r16.1.1 == r17.1.1)), ()) : Option ((PV S_uint8 × PV S_impl_Group × PV .str × PV .bool × PV .bool × Unit)))).bind fun j18 =>
              bif j18.2.2.2.2.1 then
                some ((false, ()), ())
              else
                ((
                    bif j18.2.2.2.1 then
                      (f_I_ReadUnified j18.2.2.1).bind fun r25 =>
                        ((
                            bif (!r25.1.2.2.1) then
                              some (j18.1, true, ())
                            else
                              bif (!(r25.1.2.1 == 0)) then
                                some (j18.1, true, ())
                              else
                                (f_L_sameGroups r25.1.1 j18.2.1).bind fun r26 =>
                                  some (j18.1, (!r26.1.1), ()) : Option ((PV S_uint8 × PV .bool × Unit)))).bind fun j27 =>
                          bif j27.2.1 then
                            some (.inr (false, ()))
                          else
                            some (.inl (j27.1, ()))
                    else
                      some (.inl (j18.1, ())) : Option ((PV S_uint8 × Unit) ⊕ (PV .bool × Unit)))).bind fun x55 =>
                  match x55 with
                  | .inl j28 =>
                    (f_S_DrawReadUnified j28.1).bind fun r30 =>
                      (f_I_ReadUnified r30.1.1).bind fun r32 =>
                        (f_S_ReadUnified r30.1.1).bind fun r34 =>
                          ((
                              bif (!(r32.1.2.2.1 == r34.1.2.2.1)) then
                                some (r30.1.1, r32.1.1, r32.1.2.1, r32.1.2.2.1, true, ())
                              else
                                bif (!(r32.1.2.1 == r34.1.2.1)) then
                                  some (r30.1.1, r32.1.1, r32.1.2.1, r32.1.2.2.1, true, ())
                                else
                                  (f_L_sameGroups r32.1.1 r34.1.1).bind fun r38 =>
                                    some (r30.1.1, r32.1.1, r32.1.2.1, r32.1.2.2.1, (!r38.1.1), ()) : Option ((PV .str × PV S_impl_Group × PV (.int .i64) × PV .bool × PV .bool × Unit)))).bind fun j39 =>
                            bif j39.2.2.2.2.1 then
                              some ((false, ()), ())
                            else
                              bif j39.2.2.2.1 then
                                (f_I_GroupsText j39.2.1).bind fun r48 =>
                                  ((
                                      bif (!r48.1.2.1) then
                                        some (j39.2.1, r48.1.1, true, ())
                                      else
                                        some (j39.2.1, r48.1.1, (decide ((r48.1.1.length : Int) > (j39.1.length : Int))), ()) : Option ((PV S_impl_Group × PV .str × PV .bool × Unit)))).bind fun j50 =>
                                    bif j50.2.2.1 then
                                      some ((false, ()), ())
                                    else
                                      (f_I_ReadUnified j50.2.1).bind fun r52 =>
                                        bif r52.1.2.2.1 then
                                          (f_L_sameGroups r52.1.1 j50.1).bind fun r53 =>
                                            some ((r53.1.1, ()), ())
                                        else
                                          some ((false, ()), ())
                              else
                                some (((j39.2.2.1 == 1), ()), ())
                  | .inr j54 =>
                    some ((j54.1, ()), ())
noncomputable def ct_L_FnUnified : Ct := ⟨[(.bor, S_uint8), (.bor, S_uint8)], [(.bool, .b)], fun x => f_L_FnUnified x.1 x.2.1⟩
noncomputable def cx_L_FnUnified : Cx := ⟨tab, arrs, [(5, ct_L_big), (6, ct_S_DrawGroupsText), (7, ct_I_GroupsText), (8, ct_S_GroupsText), (9, ct_I_GoodGroups), (10, ct_S_GoodGroups), (11, ct_I_ReadUnified), (12, ct_L_sameGroups), (13, ct_S_DrawReadUnified), (14, ct_S_ReadUnified)], [], gl, []⟩
theorem ef_L_FnUnified (t0 : PV S_uint8) (t1 : PV S_uint8) : denF cx_L_FnUnified 0 pl_L_FnUnified Tryz.f3.ntmps (bodyOf Tryz.f3) Tryz.f3.results.toList [(.bor, S_uint8), (.bor, S_uint8)] [(.bool, .b)] (t0, t1, ()) = f_L_FnUnified t0 t1 := by kernel_rfl
theorem ok_L_FnUnified : FnOk gl Tryz.prog 3 ct_L_FnUnified :=
  fnOk (cx := cx_L_FnUnified) (pl := pl_L_FnUnified) (dp := 0) (ok0_of tabOk (by unfold ArrOk; kernel_rfl) mix ⟨ok_L_big, ok_S_DrawGroupsText, ok_I_GroupsText, ok_S_GroupsText, ok_I_GoodGroups, ok_S_GoodGroups, ok_I_ReadUnified, ok_L_sameGroups, ok_S_DrawReadUnified, ok_S_ReadUnified, trivial⟩ trivial) Tryz.func3 (by kernel_rfl) (by kernel_rfl) (by kernel_rfl)
    (by rw [show loopsOf (bodyOf Tryz.f3) = [] from by kernel_rfl]; exact trivial) (fun x => ef_L_FnUnified x.1 x.2.1)
end R
