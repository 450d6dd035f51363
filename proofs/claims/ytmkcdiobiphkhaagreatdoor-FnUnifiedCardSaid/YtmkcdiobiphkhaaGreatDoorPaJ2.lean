/- The functions, part 2. -/
import Derived.Test.YtmkcdiobiphkhaaGreatDoorPaJ1
open Go Go.Dn Go.Proofs
namespace R
set_option linter.unusedVariables false
set_option maxRecDepth 20000
open Go.Shelf
noncomputable def o_I_goodGroups_9 : List Out := [⟨.normal, ⟨[], [0, 4, 8, 9, 10, 57], []⟩, mkSh 59 [(0, .val S_impl_Group .b), (4, .var Y_impl_Group .b), (8, .val S_impl_Group .b), (9, .val (.int .i64) .b), (10, .val (.int .i64) .b), (57, .val .bool .b)]⟩]
noncomputable def sh_I_goodGroups_4 : List Sh := mkSh 59 [(0, .val S_impl_Group .b), (8, .val S_impl_Group .b), (9, .val (.int .i64) .b), (10, .val (.int .i64) .b)]
noncomputable def o_I_goodGroups_4 : List Out := [⟨.exit 0, ⟨[], [], []⟩, mkSh 59 []⟩, ⟨.ret, ⟨[], [2], []⟩, mkSh 59 [(2, .val .bool .b)]⟩]
noncomputable def b_I_goodGroups_4 (t0 : PV S_impl_Group) (t8 : PV S_impl_Group) (t9 : PV (.int .i64)) (t10 : PV (.int .i64)) : Option ((PV S_impl_Group × PV S_impl_Group × PV (.int .i64) × PV (.int .i64) × Unit) ⊕ ((Unit) ⊕ (PV .bool × Unit))) :=
  bif (decide (t10 < t9)) then
    bif inB t10 t8.length then
      (f_I_goodGroup (t8.getD t10.toNat (dflt Y_impl_Group))).bind fun r11 =>
        bif (!r11.1.1) then
          some (.inr (.inr (false, ())))
        else
          ((
              bif (decide (t10 > 0)) then
                bif inB (IntKind.wrap .i64 (t10 - 1)) t0.length then
                  bif inB (IntKind.wrap .i64 (t10 - 1)) t0.length then
                    (f_I_Group_old (t0.getD ((IntKind.wrap .i64 (t10 - 1)).toNat) (dflt Y_impl_Group))).bind fun r12 =>
                      bif (decide (((t8.getD t10.toNat (dflt Y_impl_Group)).1) < (IntKind.wrap .i64 (((t0.getD ((IntKind.wrap .i64 (t10 - 1)).toNat) (dflt Y_impl_Group)).1) + (r12.1.1.length : Int))))) then
                        some (t0, (t8.getD t10.toNat (dflt Y_impl_Group)), t8, t9, t10, true, ())
                      else
                        bif inB (IntKind.wrap .i64 (t10 - 1)) t0.length then
                          bif inB (IntKind.wrap .i64 (t10 - 1)) t0.length then
                            (f_I_Group_fresh (t0.getD ((IntKind.wrap .i64 (t10 - 1)).toNat) (dflt Y_impl_Group))).bind fun r13 =>
                              some (t0, (t8.getD t10.toNat (dflt Y_impl_Group)), t8, t9, t10, (decide ((((t8.getD t10.toNat (dflt Y_impl_Group)).2).1) < (IntKind.wrap .i64 ((((t0.getD ((IntKind.wrap .i64 (t10 - 1)).toNat) (dflt Y_impl_Group)).2).1) + (r13.1.1.length : Int))))), ())
                          else
                            none
                        else
                          none
                  else
                    none
                else
                  none
              else
                some (t0, (t8.getD t10.toNat (dflt Y_impl_Group)), t8, t9, t10, false, ()) : Option ((PV S_impl_Group × PV Y_impl_Group × PV S_impl_Group × PV (.int .i64) × PV (.int .i64) × PV .bool × Unit)))).bind fun j14 =>
            bif j14.2.2.2.2.2.1 then
              some (.inr (.inr (false, ())))
            else
              some (.inl (j14.1, j14.2.2.1, j14.2.2.2.1, (IntKind.wrap .i64 (j14.2.2.2.2.1 + 1)), ()))
    else
      none
  else
    some (.inr (.inl ()))
noncomputable def w_I_goodGroups_4 : PV S_impl_Group × PV S_impl_Group × PV (.int .i64) × PV (.int .i64) × Unit → Option ((Unit) ⊕ (PV .bool × Unit)) := fix fun d => b_I_goodGroups_4 d.1 d.2.1 d.2.2.1 d.2.2.2.1
noncomputable def lp_I_goodGroups_4 : Lp := ⟨⟨[], [0, 8, 9, 10, 21, 22, 23, 24, 25, 26, 27, 28, 29, 30, 31, 32, 33, 34, 35, 36, 37, 38, 39, 40, 41, 42, 43, 44, 45, 46, 47, 48, 49, 50, 51, 52, 53, 54, 55, 56], []⟩, sh_I_goodGroups_4, o_I_goodGroups_4, fun d => b_I_goodGroups_4 d.1 d.2.1 d.2.2.1 d.2.2.2.1⟩
noncomputable def pl_I_goodGroups : Plan := ⟨[(9, o_I_goodGroups_9)], [(4, lp_I_goodGroups_4)], 0, 0⟩
noncomputable def f_I_goodGroups (t0 : PV S_impl_Group) : Option (PVs [.bool] × PVs []) :=
  bif (decide ((t0.length : Int) > 20)) then
    some ((false, ()), ())
  else
    (w_I_goodGroups_4 (t0, t0, (t0.length : Int), 0, ())).bind fun x19 =>
      match x19 with
      | .inl l17 =>
        some ((true, ()), ())
      | .inr l18 =>
        some ((l18.1, ()), ())
noncomputable def ct_I_goodGroups : Ct := ⟨[(.bor, S_impl_Group)], [(.bool, .b)], fun x => f_I_goodGroups x.1⟩
noncomputable def cx_I_goodGroups : Cx := ⟨tab, arrs, [(57, ct_I_goodGroup), (58, ct_I_Group_old), (59, ct_I_Group_fresh)], [], gl, []⟩
theorem eb_I_goodGroups_4 (t0 : PV S_impl_Group) (t8 : PV S_impl_Group) (t9 : PV (.int .i64)) (t10 : PV (.int .i64)) : denK cx_I_goodGroups (rcN cx_I_goodGroups 0) pl_I_goodGroups 0 ((loopsOf (bodyOf Tryz.f26)).getD 0 .skip) (fillS sh_I_goodGroups_4 (t0, t8, t9, t10, ())) (roundK 0 lp_I_goodGroups_4) = b_I_goodGroups_4 t0 t8 t9 t10 := by kernel_rfl
theorem ef_I_goodGroups (t0 : PV S_impl_Group) : denF cx_I_goodGroups 0 pl_I_goodGroups Tryz.f26.ntmps (bodyOf Tryz.f26) Tryz.f26.results.toList [(.bor, S_impl_Group)] [(.bool, .b)] (t0, ()) = f_I_goodGroups t0 := by kernel_rfl
theorem ok_I_goodGroups : FnOk gl Tryz.prog 26 ct_I_goodGroups :=
  fnOk (cx := cx_I_goodGroups) (pl := pl_I_goodGroups) (dp := 0) (ok0_of tabOk (by unfold ArrOk; kernel_rfl) mix ⟨ok_I_goodGroup, ok_I_Group_old, ok_I_Group_fresh, trivial⟩ trivial) Tryz.func26 (by kernel_rfl) (by kernel_rfl) (by kernel_rfl)
    (by rw [show loopsOf (bodyOf Tryz.f26) = [((loopsOf (bodyOf Tryz.f26)).getD 0 .skip)] from by kernel_rfl]; exact ⟨(by rw [show lookup pl_I_goodGroups.loops (firstId ((loopsOf (bodyOf Tryz.f26)).getD 0 .skip)) = some lp_I_goodGroups_4 from by kernel_rfl]; exact fun d z h => (eb_I_goodGroups_4 d.1 d.2.1 d.2.2.1 d.2.2.2.1).trans h), trivial⟩) (fun x => ef_I_goodGroups x.1)
noncomputable def pl_I_numberOf : Plan := ⟨[], [], 0, 0⟩
noncomputable def f_I_numberOf (t0 : PV (.int .i64)) (t1 : PV (.int .i64)) : Option (PVs [(.int .i64)] × PVs []) :=
  bif (decide (t1 > 0)) then
    some (((IntKind.wrap .i64 (t0 + 1)), ()), ())
  else
    some ((t0, ()), ())
noncomputable def ct_I_numberOf : Ct := ⟨[(.bor, (.int .i64)), (.bor, (.int .i64))], [((.int .i64), .b)], fun x => f_I_numberOf x.1 x.2.1⟩
noncomputable def cx_I_numberOf : Cx := ⟨tab, arrs, [], [], gl, []⟩
theorem ef_I_numberOf (t0 : PV (.int .i64)) (t1 : PV (.int .i64)) : denF cx_I_numberOf 0 pl_I_numberOf Tryz.f102.ntmps (bodyOf Tryz.f102) Tryz.f102.results.toList [(.bor, (.int .i64)), (.bor, (.int .i64))] [((.int .i64), .b)] (t0, t1, ()) = f_I_numberOf t0 t1 := by kernel_rfl
theorem ok_I_numberOf : FnOk gl Tryz.prog 102 ct_I_numberOf :=
  fnOk (cx := cx_I_numberOf) (pl := pl_I_numberOf) (dp := 0) (ok0_of tabOk (by unfold ArrOk; kernel_rfl) mix trivial trivial) Tryz.func102 (by kernel_rfl) (by kernel_rfl) (by kernel_rfl)
    (by rw [show loopsOf (bodyOf Tryz.f102) = [] from by kernel_rfl]; exact trivial) (fun x => ef_I_numberOf x.1 x.2.1)
noncomputable def o_I_countOf_4 : List Out := [⟨.normal, ⟨[], [5], []⟩, mkSh 18 [(5, .val .str .b)]⟩]
noncomputable def pl_I_countOf : Plan := ⟨[(4, o_I_countOf_4)], [], 0, 0⟩
noncomputable def f_I_countOf (t0 : PV (.int .i64)) (t1 : PV (.int .i64)) : Option (PVs [.str] × PVs []) :=
  (f_I_numberOf t0 t1).bind fun r3 =>
    (f_strconv_Itoa r3.1.1).bind fun r4 =>
      ((
          bif (!(t1 == 1)) then
            (f_strconv_Itoa t1).bind fun r6 =>
              bif decide ([44].length + r6.1.1.length ≤ 1099511627776) then
                bif decide (r4.1.1.length + ([44] ++ r6.1.1).length ≤ 1099511627776) then
                  some ((r4.1.1 ++ ([44] ++ r6.1.1)), ())
                else
                  none
              else
                none
          else
            some (r4.1.1, ()) : Option ((PV .str × Unit)))).bind fun j7 =>
        some ((j7.1, ()), ())
noncomputable def ct_I_countOf : Ct := ⟨[(.bor, (.int .i64)), (.bor, (.int .i64))], [(.str, .b)], fun x => f_I_countOf x.1 x.2.1⟩
noncomputable def cx_I_countOf : Cx := ⟨tab, arrs, [(101, ct_strconv_Itoa), (102, ct_I_numberOf)], [], gl, []⟩
theorem ef_I_countOf (t0 : PV (.int .i64)) (t1 : PV (.int .i64)) : denF cx_I_countOf 0 pl_I_countOf Tryz.f61.ntmps (bodyOf Tryz.f61) Tryz.f61.results.toList [(.bor, (.int .i64)), (.bor, (.int .i64))] [(.str, .b)] (t0, t1, ()) = f_I_countOf t0 t1 := by kernel_rfl
theorem ok_I_countOf : FnOk gl Tryz.prog 61 ct_I_countOf :=
  fnOk (cx := cx_I_countOf) (pl := pl_I_countOf) (dp := 0) (ok0_of tabOk (by unfold ArrOk; kernel_rfl) mix ⟨ok_strconv_Itoa, ok_I_numberOf, trivial⟩ trivial) Tryz.func61 (by kernel_rfl) (by kernel_rfl) (by kernel_rfl)
    (by rw [show loopsOf (bodyOf Tryz.f61) = [] from by kernel_rfl]; exact trivial) (fun x => ef_I_countOf x.1 x.2.1)
noncomputable def pl_I_headText : Plan := ⟨[], [], 0, 0⟩
noncomputable def f_I_headText (t0 : PV .str) (t1 : PV .str) : Option (PVs [.str] × PVs []) :=
  bif decide ([64, 64, 32, 45].length + t0.length ≤ 1099511627776) then
    bif decide (([64, 64, 32, 45] ++ t0).length + [32, 43].length ≤ 1099511627776) then
      bif decide ((([64, 64, 32, 45] ++ t0) ++ [32, 43]).length + t1.length ≤ 1099511627776) then
        bif decide (((([64, 64, 32, 45] ++ t0) ++ [32, 43]) ++ t1).length + [32, 64, 64, 10].length ≤ 1099511627776) then
          some (((((([64, 64, 32, 45] ++ t0) ++ [32, 43]) ++ t1) ++ [32, 64, 64, 10]), ()), ())
        else
          none
      else
        none
    else
      none
  else
    none
noncomputable def ct_I_headText : Ct := ⟨[(.bor, .str), (.bor, .str)], [(.str, .b)], fun x => f_I_headText x.1 x.2.1⟩
noncomputable def cx_I_headText : Cx := ⟨tab, arrs, [], [], gl, []⟩
theorem ef_I_headText (t0 : PV .str) (t1 : PV .str) : denF cx_I_headText 0 pl_I_headText Tryz.f60.ntmps (bodyOf Tryz.f60) Tryz.f60.results.toList [(.bor, .str), (.bor, .str)] [(.str, .b)] (t0, t1, ()) = f_I_headText t0 t1 := by kernel_rfl
theorem ok_I_headText : FnOk gl Tryz.prog 60 ct_I_headText :=
  fnOk (cx := cx_I_headText) (pl := pl_I_headText) (dp := 0) (ok0_of tabOk (by unfold ArrOk; kernel_rfl) mix trivial trivial) Tryz.func60 (by kernel_rfl) (by kernel_rfl) (by kernel_rfl)
    (by rw [show loopsOf (bodyOf Tryz.f60) = [] from by kernel_rfl]; exact trivial) (fun x => ef_I_headText x.1 x.2.1)
noncomputable def pl_I_Row_sign : Plan := ⟨[], [], 0, 0⟩
noncomputable def f_I_Row_sign (t0 : PV Y_impl_Row) : Option (PVs [.str] × PVs []) :=
  bif cutB t0.1 (IntKind.wrap .i64 (t0.1 + 1)) [63, 32, 45, 43].length then
    some (((cutL t0.1 (IntKind.wrap .i64 (t0.1 + 1)) [63, 32, 45, 43]), ()), ())
  else
    none
noncomputable def ct_I_Row_sign : Ct := ⟨[(.bor, Y_impl_Row)], [(.str, .b)], fun x => f_I_Row_sign x.1⟩
noncomputable def cx_I_Row_sign : Cx := ⟨tab, arrs, [], [], gl, []⟩
theorem ef_I_Row_sign (t0 : PV Y_impl_Row) : denF cx_I_Row_sign 0 pl_I_Row_sign Tryz.f104.ntmps (bodyOf Tryz.f104) Tryz.f104.results.toList [(.bor, Y_impl_Row)] [(.str, .b)] (t0, ()) = f_I_Row_sign t0 := by kernel_rfl
theorem ok_I_Row_sign : FnOk gl Tryz.prog 104 ct_I_Row_sign :=
  fnOk (cx := cx_I_Row_sign) (pl := pl_I_Row_sign) (dp := 0) (ok0_of tabOk (by unfold ArrOk; kernel_rfl) mix trivial trivial) Tryz.func104 (by kernel_rfl) (by kernel_rfl) (by kernel_rfl)
    (by rw [show loopsOf (bodyOf Tryz.f104) = [] from by kernel_rfl]; exact trivial) (fun x => ef_I_Row_sign x.1)
noncomputable def pl_I_shown : Plan := ⟨[], [], 0, 0⟩
noncomputable def f_I_shown (t0 : PV .str) (t1 : PV .str) : Option (PVs [.str] × PVs []) :=
  (f_I_isEnded t1).bind fun r4 =>
    bif r4.1.1 then
      bif decide (t0.length + t1.length ≤ 1099511627776) then
        some (((t0 ++ t1), ()), ())
      else
        none
    else
      bif decide (t0.length + t1.length ≤ 1099511627776) then
        bif decide ((t0 ++ t1).length + [10].length ≤ 1099511627776) then
          bif decide (((t0 ++ t1) ++ [10]).length + [92, 32, 110, 111, 110, 101, 10].length ≤ 1099511627776) then
            some (((((t0 ++ t1) ++ [10]) ++ [92, 32, 110, 111, 110, 101, 10]), ()), ())
          else
            none
        else
          none
      else
        none
noncomputable def ct_I_shown : Ct := ⟨[(.bor, .str), (.bor, .str)], [(.str, .b)], fun x => f_I_shown x.1 x.2.1⟩
noncomputable def cx_I_shown : Cx := ⟨tab, arrs, [(92, ct_I_isEnded)], [], gl, []⟩
theorem ef_I_shown (t0 : PV .str) (t1 : PV .str) : denF cx_I_shown 0 pl_I_shown Tryz.f103.ntmps (bodyOf Tryz.f103) Tryz.f103.results.toList [(.bor, .str), (.bor, .str)] [(.str, .b)] (t0, t1, ()) = f_I_shown t0 t1 := by kernel_rfl
theorem ok_I_shown : FnOk gl Tryz.prog 103 ct_I_shown :=
  fnOk (cx := cx_I_shown) (pl := pl_I_shown) (dp := 0) (ok0_of tabOk (by unfold ArrOk; kernel_rfl) mix ⟨ok_I_isEnded, trivial⟩ trivial) Tryz.func103 (by kernel_rfl) (by kernel_rfl) (by kernel_rfl)
    (by rw [show loopsOf (bodyOf Tryz.f103) = [] from by kernel_rfl]; exact trivial) (fun x => ef_I_shown x.1 x.2.1)
noncomputable def sh_I_rowsText_3 : List Sh := mkSh 21 [(3, .val .str .b), (6, .val S_impl_Row .b), (7, .val (.int .i64) .b), (8, .val (.int .i64) .b)]
noncomputable def o_I_rowsText_3 : List Out := [⟨.exit 0, ⟨[], [3], []⟩, mkSh 21 [(3, .val .str .b)]⟩]
noncomputable def b_I_rowsText_3 (t3 : PV .str) (t6 : PV S_impl_Row) (t7 : PV (.int .i64)) (t8 : PV (.int .i64)) : Option ((PV .str × PV S_impl_Row × PV (.int .i64) × PV (.int .i64) × Unit) ⊕ ((PV .str × Unit))) :=
  bif (decide (t8 < t7)) then
    bif inB t8 t6.length then
      (f_I_Row_sign (t6.getD t8.toNat (dflt Y_impl_Row))).bind fun r3 =>
        (f_I_shown r3.1.1 (((t6.getD t8.toNat (dflt Y_impl_Row)).2).1)).bind fun r4 =>
          bif decide (t3.length + r4.1.1.length ≤ 1099511627776) then
            some (.inl ((t3 ++ r4.1.1), t6, t7, (IntKind.wrap .i64 (t8 + 1)), ()))
          else
            none
    else
      none
  else
    some (.inr (t3, ()))
noncomputable def w_I_rowsText_3 : PV .str × PV S_impl_Row × PV (.int .i64) × PV (.int .i64) × Unit → Option ((PV .str × Unit)) := fix fun d => b_I_rowsText_3 d.1 d.2.1 d.2.2.1 d.2.2.2.1
noncomputable def lp_I_rowsText_3 : Lp := ⟨⟨[], [3, 6, 7, 8], []⟩, sh_I_rowsText_3, o_I_rowsText_3, fun d => b_I_rowsText_3 d.1 d.2.1 d.2.2.1 d.2.2.2.1⟩
noncomputable def pl_I_rowsText : Plan := ⟨[], [(3, lp_I_rowsText_3)], 0, 0⟩
noncomputable def f_I_rowsText (t0 : PV S_impl_Row) : Option (PVs [.str] × PVs []) :=
  (w_I_rowsText_3 ([], t0, (t0.length : Int), 0, ())).bind fun l6 =>
    some ((l6.1, ()), ())
noncomputable def ct_I_rowsText : Ct := ⟨[(.bor, S_impl_Row)], [(.str, .b)], fun x => f_I_rowsText x.1⟩
noncomputable def cx_I_rowsText : Cx := ⟨tab, arrs, [(103, ct_I_shown), (104, ct_I_Row_sign)], [], gl, []⟩
theorem eb_I_rowsText_3 (t3 : PV .str) (t6 : PV S_impl_Row) (t7 : PV (.int .i64)) (t8 : PV (.int .i64)) : denK cx_I_rowsText (rcN cx_I_rowsText 0) pl_I_rowsText 0 ((loopsOf (bodyOf Tryz.f62)).getD 0 .skip) (fillS sh_I_rowsText_3 (t3, t6, t7, t8, ())) (roundK 0 lp_I_rowsText_3) = b_I_rowsText_3 t3 t6 t7 t8 := by kernel_rfl
theorem ef_I_rowsText (t0 : PV S_impl_Row) : denF cx_I_rowsText 0 pl_I_rowsText Tryz.f62.ntmps (bodyOf Tryz.f62) Tryz.f62.results.toList [(.bor, S_impl_Row)] [(.str, .b)] (t0, ()) = f_I_rowsText t0 := by kernel_rfl
theorem ok_I_rowsText : FnOk gl Tryz.prog 62 ct_I_rowsText :=
  fnOk (cx := cx_I_rowsText) (pl := pl_I_rowsText) (dp := 0) (ok0_of tabOk (by unfold ArrOk; kernel_rfl) mix ⟨ok_I_shown, ok_I_Row_sign, trivial⟩ trivial) Tryz.func62 (by kernel_rfl) (by kernel_rfl) (by kernel_rfl)
    (by rw [show loopsOf (bodyOf Tryz.f62) = [((loopsOf (bodyOf Tryz.f62)).getD 0 .skip)] from by kernel_rfl]; exact ⟨(by rw [show lookup pl_I_rowsText.loops (firstId ((loopsOf (bodyOf Tryz.f62)).getD 0 .skip)) = some lp_I_rowsText_3 from by kernel_rfl]; exact fun d z h => (eb_I_rowsText_3 d.1 d.2.1 d.2.2.1 d.2.2.2.1).trans h), trivial⟩) (fun x => ef_I_rowsText x.1)
noncomputable def sh_I_groupsText_3 : List Sh := mkSh 33 [(3, .val .str .b), (6, .val S_impl_Group .b), (7, .val (.int .i64) .b), (8, .val (.int .i64) .b)]
noncomputable def o_I_groupsText_3 : List Out := [⟨.exit 0, ⟨[], [3], []⟩, mkSh 33 [(3, .val .str .b)]⟩]
noncomputable def b_I_groupsText_3 (t3 : PV .str) (t6 : PV S_impl_Group) (t7 : PV (.int .i64)) (t8 : PV (.int .i64)) : Option ((PV .str × PV S_impl_Group × PV (.int .i64) × PV (.int .i64) × Unit) ⊕ ((PV .str × Unit))) :=
  bif (decide (t8 < t7)) then
    bif inB t8 t6.length then
      (f_I_Group_old (t6.getD t8.toNat (dflt Y_impl_Group))).bind fun r7 =>
        (f_I_countOf ((t6.getD t8.toNat (dflt Y_impl_Group)).1) (r7.1.1.length : Int)).bind fun r8 =>
          (f_I_Group_fresh (t6.getD t8.toNat (dflt Y_impl_Group))).bind fun r9 =>
            (f_I_countOf (((t6.getD t8.toNat (dflt Y_impl_Group)).2).1) (r9.1.1.length : Int)).bind fun r10 =>
              (f_I_headText r8.1.1 r10.1.1).bind fun r11 =>
                (f_I_rowsText ((((t6.getD t8.toNat (dflt Y_impl_Group)).2).2).1)).bind fun r12 =>
                  bif decide (r11.1.1.length + r12.1.1.length ≤ 1099511627776) then
                    bif decide (t3.length + (r11.1.1 ++ r12.1.1).length ≤ 1099511627776) then
                      some (.inl ((t3 ++ (r11.1.1 ++ r12.1.1)), t6, t7, (IntKind.wrap .i64 (t8 + 1)), ()))
                    else
                      none
                  else
                    none
    else
      none
  else
    some (.inr (t3, ()))
noncomputable def w_I_groupsText_3 : PV .str × PV S_impl_Group × PV (.int .i64) × PV (.int .i64) × Unit → Option ((PV .str × Unit)) := fix fun d => b_I_groupsText_3 d.1 d.2.1 d.2.2.1 d.2.2.2.1
noncomputable def lp_I_groupsText_3 : Lp := ⟨⟨[], [3, 6, 7, 8], []⟩, sh_I_groupsText_3, o_I_groupsText_3, fun d => b_I_groupsText_3 d.1 d.2.1 d.2.2.1 d.2.2.2.1⟩
noncomputable def pl_I_groupsText : Plan := ⟨[], [(3, lp_I_groupsText_3)], 0, 0⟩
noncomputable def f_I_groupsText (t0 : PV S_impl_Group) : Option (PVs [.str] × PVs []) :=
  (w_I_groupsText_3 ([], t0, (t0.length : Int), 0, ())).bind fun l14 =>
    some ((l14.1, ()), ())
noncomputable def ct_I_groupsText : Ct := ⟨[(.bor, S_impl_Group)], [(.str, .b)], fun x => f_I_groupsText x.1⟩
noncomputable def cx_I_groupsText : Cx := ⟨tab, arrs, [(58, ct_I_Group_old), (59, ct_I_Group_fresh), (60, ct_I_headText), (61, ct_I_countOf), (62, ct_I_rowsText)], [], gl, []⟩
theorem eb_I_groupsText_3 (t3 : PV .str) (t6 : PV S_impl_Group) (t7 : PV (.int .i64)) (t8 : PV (.int .i64)) : denK cx_I_groupsText (rcN cx_I_groupsText 0) pl_I_groupsText 0 ((loopsOf (bodyOf Tryz.f28)).getD 0 .skip) (fillS sh_I_groupsText_3 (t3, t6, t7, t8, ())) (roundK 0 lp_I_groupsText_3) = b_I_groupsText_3 t3 t6 t7 t8 := by kernel_rfl
theorem ef_I_groupsText (t0 : PV S_impl_Group) : denF cx_I_groupsText 0 pl_I_groupsText Tryz.f28.ntmps (bodyOf Tryz.f28) Tryz.f28.results.toList [(.bor, S_impl_Group)] [(.str, .b)] (t0, ()) = f_I_groupsText t0 := by kernel_rfl
theorem ok_I_groupsText : FnOk gl Tryz.prog 28 ct_I_groupsText :=
  fnOk (cx := cx_I_groupsText) (pl := pl_I_groupsText) (dp := 0) (ok0_of tabOk (by unfold ArrOk; kernel_rfl) mix ⟨ok_I_Group_old, ok_I_Group_fresh, ok_I_headText, ok_I_countOf, ok_I_rowsText, trivial⟩ trivial) Tryz.func28 (by kernel_rfl) (by kernel_rfl) (by kernel_rfl)
    (by rw [show loopsOf (bodyOf Tryz.f28) = [((loopsOf (bodyOf Tryz.f28)).getD 0 .skip)] from by kernel_rfl]; exact ⟨(by rw [show lookup pl_I_groupsText.loops (firstId ((loopsOf (bodyOf Tryz.f28)).getD 0 .skip)) = some lp_I_groupsText_3 from by kernel_rfl]; exact fun d z h => (eb_I_groupsText_3 d.1 d.2.1 d.2.2.1 d.2.2.2.1).trans h), trivial⟩) (fun x => ef_I_groupsText x.1)
noncomputable def pl_I_short : Plan := ⟨[], [], 0, 0⟩
noncomputable def f_I_short (t0 : PV .str) : Option (PVs [.str, .bool] × PVs []) :=
  bif (decide ((t0.length : Int) > 3000)) then
    some (([], false, ()), ())
  else
    some ((t0, true, ()), ())
noncomputable def ct_I_short : Ct := ⟨[(.bor, .str)], [(.str, .b), (.bool, .b)], fun x => f_I_short x.1⟩
noncomputable def cx_I_short : Cx := ⟨tab, arrs, [], [], gl, []⟩
theorem ef_I_short (t0 : PV .str) : denF cx_I_short 0 pl_I_short Tryz.f27.ntmps (bodyOf Tryz.f27) Tryz.f27.results.toList [(.bor, .str)] [(.str, .b), (.bool, .b)] (t0, ()) = f_I_short t0 := by kernel_rfl
theorem ok_I_short : FnOk gl Tryz.prog 27 ct_I_short :=
  fnOk (cx := cx_I_short) (pl := pl_I_short) (dp := 0) (ok0_of tabOk (by unfold ArrOk; kernel_rfl) mix trivial trivial) Tryz.func27 (by kernel_rfl) (by kernel_rfl) (by kernel_rfl)
    (by rw [show loopsOf (bodyOf Tryz.f27) = [] from by kernel_rfl]; exact trivial) (fun x => ef_I_short x.1)
noncomputable def pl_I_GroupsText : Plan := ⟨[], [], 0, 0⟩
noncomputable def f_I_GroupsText (t0 : PV S_impl_Group) : Option (PVs [.str, .bool] × PVs []) :=
  (f_I_goodGroups t0).bind fun r4 =>
    bif (!r4.1.1) then
      some (([], false, ()), ())
    else
      (f_I_groupsText t0).bind fun r5 =>
        (f_I_short r5.1.1).bind fun r6 =>
          some ((r6.1.1, r6.1.2.1, ()), ())
noncomputable def ct_I_GroupsText : Ct := ⟨[(.bor, S_impl_Group)], [(.str, .b), (.bool, .b)], fun x => f_I_GroupsText x.1⟩
noncomputable def cx_I_GroupsText : Cx := ⟨tab, arrs, [(26, ct_I_goodGroups), (27, ct_I_short), (28, ct_I_groupsText)], [], gl, []⟩
theorem ef_I_GroupsText (t0 : PV S_impl_Group) : denF cx_I_GroupsText 0 pl_I_GroupsText Tryz.f7.ntmps (bodyOf Tryz.f7) Tryz.f7.results.toList [(.bor, S_impl_Group)] [(.str, .b), (.bool, .b)] (t0, ()) = f_I_GroupsText t0 := by kernel_rfl
theorem ok_I_GroupsText : FnOk gl Tryz.prog 7 ct_I_GroupsText :=
  fnOk (cx := cx_I_GroupsText) (pl := pl_I_GroupsText) (dp := 0) (ok0_of tabOk (by unfold ArrOk; kernel_rfl) mix ⟨ok_I_goodGroups, ok_I_short, ok_I_groupsText, trivial⟩ trivial) Tryz.func7 (by kernel_rfl) (by kernel_rfl) (by kernel_rfl)
    (by rw [show loopsOf (bodyOf Tryz.f7) = [] from by kernel_rfl]; exact trivial) (fun x => ef_I_GroupsText x.1)
noncomputable def o_S_l6Old_7 : List Out := [⟨.normal, ⟨[], [3, 7, 8, 9], []⟩, mkSh 23 [(3, .val S_string (.row .b)), (7, .val S_impl_Row .b), (8, .val (.int .i64) .b), (9, .val (.int .i64) .b)]⟩]
noncomputable def sh_S_l6Old_3 : List Sh := mkSh 23 [(3, .val S_string (.row .b)), (7, .val S_impl_Row .b), (8, .val (.int .i64) .b), (9, .val (.int .i64) .b)]
noncomputable def o_S_l6Old_3 : List Out := [⟨.exit 0, ⟨[], [3], []⟩, mkSh 23 [(3, .val S_string (.row .b))]⟩]
noncomputable def b_S_l6Old_3 (t3 : PV S_string) (t7 : PV S_impl_Row) (t8 : PV (.int .i64)) (t9 : PV (.int .i64)) : Option ((PV S_string × PV S_impl_Row × PV (.int .i64) × PV (.int .i64) × Unit) ⊕ ((PV S_string × Unit))) :=
  bif (decide (t9 < t8)) then
    ((
        bif inB t9 t7.length then
          bif (!(((t7.getD t9.toNat (dflt Y_impl_Row)).1) == 3)) then
            bif roomB (t3.length + [((t7.getD t9.toNat (dflt Y_impl_Row)).2).1].length) then
              some ((t3 ++ [((t7.getD t9.toNat (dflt Y_impl_Row)).2).1]), t7, t8, t9, ())
            else
              none
          else
            some (t3, t7, t8, t9, ())
        else
          none : Option ((PV S_string × PV S_impl_Row × PV (.int .i64) × PV (.int .i64) × Unit)))).bind fun j1 =>
      some (.inl (j1.1, j1.2.1, j1.2.2.1, (IntKind.wrap .i64 (j1.2.2.2.1 + 1)), ()))
  else
    some (.inr (t3, ()))
noncomputable def w_S_l6Old_3 : PV S_string × PV S_impl_Row × PV (.int .i64) × PV (.int .i64) × Unit → Option ((PV S_string × Unit)) := fix fun d => b_S_l6Old_3 d.1 d.2.1 d.2.2.1 d.2.2.2.1
noncomputable def lp_S_l6Old_3 : Lp := ⟨⟨[], [3, 7, 8, 9], []⟩, sh_S_l6Old_3, o_S_l6Old_3, fun d => b_S_l6Old_3 d.1 d.2.1 d.2.2.1 d.2.2.2.1⟩
noncomputable def pl_S_l6Old : Plan := ⟨[(7, o_S_l6Old_7)], [(3, lp_S_l6Old_3)], 0, 0⟩
noncomputable def f_S_l6Old (t0 : PV Y_impl_Group) : Option (PVs [S_string] × PVs []) :=
  (w_S_l6Old_3 ([], t0.2.2.1, (t0.2.2.1.length : Int), 0, ())).bind fun l3 =>
    some ((l3.1, ()), ())
noncomputable def ct_S_l6Old : Ct := ⟨[(.bor, Y_impl_Group)], [(S_string, (.row .b))], fun x => f_S_l6Old x.1⟩
noncomputable def cx_S_l6Old : Cx := ⟨tab, arrs, [], [], gl, []⟩
theorem eb_S_l6Old_3 (t3 : PV S_string) (t7 : PV S_impl_Row) (t8 : PV (.int .i64)) (t9 : PV (.int .i64)) : denK cx_S_l6Old (rcN cx_S_l6Old 0) pl_S_l6Old 0 ((loopsOf (bodyOf Tryz.f64)).getD 0 .skip) (fillS sh_S_l6Old_3 (t3, t7, t8, t9, ())) (roundK 0 lp_S_l6Old_3) = b_S_l6Old_3 t3 t7 t8 t9 := by kernel_rfl
theorem ef_S_l6Old (t0 : PV Y_impl_Group) : denF cx_S_l6Old 0 pl_S_l6Old Tryz.f64.ntmps (bodyOf Tryz.f64) Tryz.f64.results.toList [(.bor, Y_impl_Group)] [(S_string, (.row .b))] (t0, ()) = f_S_l6Old t0 := by kernel_rfl
theorem ok_S_l6Old : FnOk gl Tryz.prog 64 ct_S_l6Old :=
  fnOk (cx := cx_S_l6Old) (pl := pl_S_l6Old) (dp := 0) (ok0_of tabOk (by unfold ArrOk; kernel_rfl) mix trivial trivial) Tryz.func64 (by kernel_rfl) (by kernel_rfl) (by kernel_rfl)
    (by rw [show loopsOf (bodyOf Tryz.f64) = [((loopsOf (bodyOf Tryz.f64)).getD 0 .skip)] from by kernel_rfl]; exact ⟨(by rw [show lookup pl_S_l6Old.loops (firstId ((loopsOf (bodyOf Tryz.f64)).getD 0 .skip)) = some lp_S_l6Old_3 from by kernel_rfl]; exact fun d z h => (eb_S_l6Old_3 d.1 d.2.1 d.2.2.1 d.2.2.2.1).trans h), trivial⟩) (fun x => ef_S_l6Old x.1)
noncomputable def o_S_l6New_7 : List Out := [⟨.normal, ⟨[], [3, 7, 8, 9], []⟩, mkSh 23 [(3, .val S_string (.row .b)), (7, .val S_impl_Row .b), (8, .val (.int .i64) .b), (9, .val (.int .i64) .b)]⟩]
noncomputable def sh_S_l6New_3 : List Sh := mkSh 23 [(3, .val S_string (.row .b)), (7, .val S_impl_Row .b), (8, .val (.int .i64) .b), (9, .val (.int .i64) .b)]
noncomputable def o_S_l6New_3 : List Out := [⟨.exit 0, ⟨[], [3], []⟩, mkSh 23 [(3, .val S_string (.row .b))]⟩]
noncomputable def b_S_l6New_3 (t3 : PV S_string) (t7 : PV S_impl_Row) (t8 : PV (.int .i64)) (t9 : PV (.int .i64)) : Option ((PV S_string × PV S_impl_Row × PV (.int .i64) × PV (.int .i64) × Unit) ⊕ ((PV S_string × Unit))) :=
  bif (decide (t9 < t8)) then
    ((
        bif inB t9 t7.length then
          bif (!(((t7.getD t9.toNat (dflt Y_impl_Row)).1) == 2)) then
            bif roomB (t3.length + [((t7.getD t9.toNat (dflt Y_impl_Row)).2).1].length) then
              some ((t3 ++ [((t7.getD t9.toNat (dflt Y_impl_Row)).2).1]), t7, t8, t9, ())
            else
              none
          else
            some (t3, t7, t8, t9, ())
        else
          none : Option ((PV S_string × PV S_impl_Row × PV (.int .i64) × PV (.int .i64) × Unit)))).bind fun j1 =>
      some (.inl (j1.1, j1.2.1, j1.2.2.1, (IntKind.wrap .i64 (j1.2.2.2.1 + 1)), ()))
  else
    some (.inr (t3, ()))
noncomputable def w_S_l6New_3 : PV S_string × PV S_impl_Row × PV (.int .i64) × PV (.int .i64) × Unit → Option ((PV S_string × Unit)) := fix fun d => b_S_l6New_3 d.1 d.2.1 d.2.2.1 d.2.2.2.1
noncomputable def lp_S_l6New_3 : Lp := ⟨⟨[], [3, 7, 8, 9], []⟩, sh_S_l6New_3, o_S_l6New_3, fun d => b_S_l6New_3 d.1 d.2.1 d.2.2.1 d.2.2.2.1⟩
noncomputable def pl_S_l6New : Plan := ⟨[(7, o_S_l6New_7)], [(3, lp_S_l6New_3)], 0, 0⟩
noncomputable def f_S_l6New (t0 : PV Y_impl_Group) : Option (PVs [S_string] × PVs []) :=
  (w_S_l6New_3 ([], t0.2.2.1, (t0.2.2.1.length : Int), 0, ())).bind fun l3 =>
    some ((l3.1, ()), ())
noncomputable def ct_S_l6New : Ct := ⟨[(.bor, Y_impl_Group)], [(S_string, (.row .b))], fun x => f_S_l6New x.1⟩
noncomputable def cx_S_l6New : Cx := ⟨tab, arrs, [], [], gl, []⟩
theorem eb_S_l6New_3 (t3 : PV S_string) (t7 : PV S_impl_Row) (t8 : PV (.int .i64)) (t9 : PV (.int .i64)) : denK cx_S_l6New (rcN cx_S_l6New 0) pl_S_l6New 0 ((loopsOf (bodyOf Tryz.f65)).getD 0 .skip) (fillS sh_S_l6New_3 (t3, t7, t8, t9, ())) (roundK 0 lp_S_l6New_3) = b_S_l6New_3 t3 t7 t8 t9 := by kernel_rfl
theorem ef_S_l6New (t0 : PV Y_impl_Group) : denF cx_S_l6New 0 pl_S_l6New Tryz.f65.ntmps (bodyOf Tryz.f65) Tryz.f65.results.toList [(.bor, Y_impl_Group)] [(S_string, (.row .b))] (t0, ()) = f_S_l6New t0 := by kernel_rfl
theorem ok_S_l6New : FnOk gl Tryz.prog 65 ct_S_l6New :=
  fnOk (cx := cx_S_l6New) (pl := pl_S_l6New) (dp := 0) (ok0_of tabOk (by unfold ArrOk; kernel_rfl) mix trivial trivial) Tryz.func65 (by kernel_rfl) (by kernel_rfl) (by kernel_rfl)
    (by rw [show loopsOf (bodyOf Tryz.f65) = [((loopsOf (bodyOf Tryz.f65)).getD 0 .skip)] from by kernel_rfl]; exact ⟨(by rw [show lookup pl_S_l6New.loops (firstId ((loopsOf (bodyOf Tryz.f65)).getD 0 .skip)) = some lp_S_l6New_3 from by kernel_rfl]; exact fun d z h => (eb_S_l6New_3 d.1 d.2.1 d.2.2.1 d.2.2.2.1).trans h), trivial⟩) (fun x => ef_S_l6New x.1)
noncomputable def o_S_l5Lines_5 : List Out := [⟨.normal, ⟨[], [0, 5, 6, 7, 26], []⟩, mkSh 31 [(0, .val S_string .b), (5, .val S_string .b), (6, .val (.int .i64) .b), (7, .val (.int .i64) .b), (26, .val .bool .b)]⟩]
noncomputable def sh_S_l5Lines_2 : List Sh := mkSh 31 [(0, .val S_string .b), (5, .val S_string .b), (6, .val (.int .i64) .b), (7, .val (.int .i64) .b)]
noncomputable def o_S_l5Lines_2 : List Out := [⟨.exit 0, ⟨[], [0], []⟩, mkSh 31 [(0, .val S_string .b)]⟩, ⟨.ret, ⟨[], [2], []⟩, mkSh 31 [(2, .val .bool .b)]⟩]
noncomputable def b_S_l5Lines_2 (t0 : PV S_string) (t5 : PV S_string) (t6 : PV (.int .i64)) (t7 : PV (.int .i64)) : Option ((PV S_string × PV S_string × PV (.int .i64) × PV (.int .i64) × Unit) ⊕ ((PV S_string × Unit) ⊕ (PV .bool × Unit))) :=
  bif (decide (t7 < t6)) then
    bif inB t7 t5.length then
      ((
          (f_S_l1Line (t5.getD t7.toNat [])).bind fun r4 =>
            bif (!r4.1.1) then
              some (t0, t5, t6, t7, true, ())
            else
              bif (decide (t7 < (IntKind.wrap .i64 ((t0.length : Int) - 1)))) then
                (f_S_l1Ends (t5.getD t7.toNat [])).bind fun r5 =>
                  some (t0, t5, t6, t7, (!r5.1.1), ())
              else
                some (t0, t5, t6, t7, false, ()) : Option ((PV S_string × PV S_string × PV (.int .i64) × PV (.int .i64) × PV .bool × Unit)))).bind fun j6 =>
        bif j6.2.2.2.2.1 then
          some (.inr (.inr (false, ())))
        else
          some (.inl (j6.1, j6.2.1, j6.2.2.1, (IntKind.wrap .i64 (j6.2.2.2.1 + 1)), ()))
    else
      none
  else
    some (.inr (.inl (t0, ())))
noncomputable def w_S_l5Lines_2 : PV S_string × PV S_string × PV (.int .i64) × PV (.int .i64) × Unit → Option ((PV S_string × Unit) ⊕ (PV .bool × Unit)) := fix fun d => b_S_l5Lines_2 d.1 d.2.1 d.2.2.1 d.2.2.2.1
noncomputable def lp_S_l5Lines_2 : Lp := ⟨⟨[], [0, 5, 6, 7, 16, 17, 18, 19, 20, 21, 22, 23, 24, 25], []⟩, sh_S_l5Lines_2, o_S_l5Lines_2, fun d => b_S_l5Lines_2 d.1 d.2.1 d.2.2.1 d.2.2.2.1⟩
noncomputable def pl_S_l5Lines : Plan := ⟨[(5, o_S_l5Lines_5)], [(2, lp_S_l5Lines_2)], 0, 0⟩
noncomputable def f_S_l5Lines (t0 : PV S_string) : Option (PVs [.bool] × PVs []) :=
  (w_S_l5Lines_2 (t0, t0, (t0.length : Int), 0, ())).bind fun x11 =>
    match x11 with
    | .inl l9 =>
      some (((decide ((l9.1.length : Int) ≤ 40)), ()), ())
    | .inr l10 =>
      some ((l10.1, ()), ())
noncomputable def ct_S_l5Lines : Ct := ⟨[(.bor, S_string)], [(.bool, .b)], fun x => f_S_l5Lines x.1⟩
noncomputable def cx_S_l5Lines : Cx := ⟨tab, arrs, [(44, ct_S_l1Ends), (105, ct_S_l1Line)], [], gl, []⟩
theorem eb_S_l5Lines_2 (t0 : PV S_string) (t5 : PV S_string) (t6 : PV (.int .i64)) (t7 : PV (.int .i64)) : denK cx_S_l5Lines (rcN cx_S_l5Lines 0) pl_S_l5Lines 0 ((loopsOf (bodyOf Tryz.f106)).getD 0 .skip) (fillS sh_S_l5Lines_2 (t0, t5, t6, t7, ())) (roundK 0 lp_S_l5Lines_2) = b_S_l5Lines_2 t0 t5 t6 t7 := by kernel_rfl
theorem ef_S_l5Lines (t0 : PV S_string) : denF cx_S_l5Lines 0 pl_S_l5Lines Tryz.f106.ntmps (bodyOf Tryz.f106) Tryz.f106.results.toList [(.bor, S_string)] [(.bool, .b)] (t0, ()) = f_S_l5Lines t0 := by kernel_rfl
theorem ok_S_l5Lines : FnOk gl Tryz.prog 106 ct_S_l5Lines :=
  fnOk (cx := cx_S_l5Lines) (pl := pl_S_l5Lines) (dp := 0) (ok0_of tabOk (by unfold ArrOk; kernel_rfl) mix ⟨ok_S_l1Ends, ok_S_l1Line, trivial⟩ trivial) Tryz.func106 (by kernel_rfl) (by kernel_rfl) (by kernel_rfl)
    (by rw [show loopsOf (bodyOf Tryz.f106) = [((loopsOf (bodyOf Tryz.f106)).getD 0 .skip)] from by kernel_rfl]; exact ⟨(by rw [show lookup pl_S_l5Lines.loops (firstId ((loopsOf (bodyOf Tryz.f106)).getD 0 .skip)) = some lp_S_l5Lines_2 from by kernel_rfl]; exact fun d z h => (eb_S_l5Lines_2 d.1 d.2.1 d.2.2.1 d.2.2.2.1).trans h), trivial⟩) (fun x => ef_S_l5Lines x.1)
noncomputable def o_S_l6Group_6 : List Out := [⟨.normal, ⟨[], [1, 3, 5, 7, 8, 9, 42, 45, 46, 47, 52, 53, 54, 57, 58, 59, 62, 63, 64, 65, 66, 67, 68, 71, 72, 73, 74, 75, 76, 77, 80, 81, 82, 83, 86, 87, 88, 91, 92, 93], []⟩, mkSh 95 [(1, .var Y_impl_Group .b), (3, .val .bool .b), (5, .var Y_impl_Row .b), (7, .val S_impl_Row .b), (8, .val (.int .i64) .b), (9, .val (.int .i64) .b), (42, .val .bool .b)]⟩]
noncomputable def o_S_l6Group_8 : List Out := [⟨.normal, ⟨[], [1, 3, 5, 7, 8, 9, 19, 20, 21, 22, 25, 26, 27, 28, 29, 30, 31, 32, 33, 34, 35, 36, 37, 38, 39, 40, 41, 52, 53, 54, 57, 58, 59, 62, 63, 64, 65, 66, 67, 68, 71, 72, 73, 74, 75, 76, 77, 80, 81, 82, 83, 86, 87, 88, 91, 92, 93], []⟩, mkSh 95 [(1, .var Y_impl_Group .b), (3, .val .bool .b), (5, .var Y_impl_Row .b), (7, .val S_impl_Row .b), (8, .val (.int .i64) .b), (9, .val (.int .i64) .b)]⟩, ⟨.ret, ⟨[], [2], []⟩, mkSh 95 [(2, .val .bool .b)]⟩]
noncomputable def sh_S_l6Group_3 : List Sh := mkSh 95 [(1, .var Y_impl_Group .b), (3, .val .bool .b), (7, .val S_impl_Row .b), (8, .val (.int .i64) .b), (9, .val (.int .i64) .b)]
noncomputable def o_S_l6Group_3 : List Out := [⟨.exit 0, ⟨[], [1, 3, 52, 53, 54, 57, 58, 59, 62, 63, 64, 65, 66, 67, 68, 71, 72, 73, 74, 75, 76, 77, 80, 81, 82, 83, 86, 87, 88, 91, 92, 93], []⟩, mkSh 95 [(1, .var Y_impl_Group .b), (3, .val .bool .b)]⟩, ⟨.ret, ⟨[], [2], []⟩, mkSh 95 [(2, .val .bool .b)]⟩]
noncomputable def b_S_l6Group_3 (t1 : PV Y_impl_Group) (t3 : PV .bool) (t7 : PV S_impl_Row) (t8 : PV (.int .i64)) (t9 : PV (.int .i64)) : Option ((PV Y_impl_Group × PV .bool × PV S_impl_Row × PV (.int .i64) × PV (.int .i64) × Unit) ⊕ ((PV Y_impl_Group × PV .bool × Unit) ⊕ (PV .bool × Unit))) :=
  bif (decide (t9 < t8)) then
    ((
        bif inB t9 t7.length then
          ((
              (f_S_l1In ((t7.getD t9.toNat (dflt Y_impl_Row)).1) 1 3).bind fun r4 =>
                bif (!r4.1.1) then
                  some (t1, t3, (t7.getD t9.toNat (dflt Y_impl_Row)), t7, t8, t9, true, ())
                else
                  (f_S_l1Line (((t7.getD t9.toNat (dflt Y_impl_Row)).2).1)).bind fun r5 =>
                    bif (!r5.1.1) then
                      some (t1, t3, (t7.getD t9.toNat (dflt Y_impl_Row)), t7, t8, t9, true, ())
                    else
                      bif (decide (t9 > 0)) then
                        bif (((t7.getD t9.toNat (dflt Y_impl_Row)).1) == 2) then
                          bif inB (IntKind.wrap .i64 (t9 - 1)) t1.2.2.1.length then
                            some (t1, t3, (t7.getD t9.toNat (dflt Y_impl_Row)), t7, t8, t9, (((t1.2.2.1.getD ((IntKind.wrap .i64 (t9 - 1)).toNat) (dflt Y_impl_Row)).1) == 3), ())
                          else
                            none
                        else
                          some (t1, t3, (t7.getD t9.toNat (dflt Y_impl_Row)), t7, t8, t9, false, ())
                      else
                        some (t1, t3, (t7.getD t9.toNat (dflt Y_impl_Row)), t7, t8, t9, false, ()) : Option ((PV Y_impl_Group × PV .bool × PV Y_impl_Row × PV S_impl_Row × PV (.int .i64) × PV (.int .i64) × PV .bool × Unit)))).bind fun j6 =>
            bif j6.2.2.2.2.2.2.1 then
              some (.inr (false, ()))
            else
              bif j6.2.1 then
                some (.inl (j6.1, true, j6.2.2.1, j6.2.2.2.1, j6.2.2.2.2.1, j6.2.2.2.2.2.1, ()))
              else
                some (.inl (j6.1, (!(j6.2.2.1.1 == 1)), j6.2.2.1, j6.2.2.2.1, j6.2.2.2.2.1, j6.2.2.2.2.2.1, ()))
        else
          none : Option ((PV Y_impl_Group × PV .bool × PV Y_impl_Row × PV S_impl_Row × PV (.int .i64) × PV (.int .i64) × Unit) ⊕ (PV .bool × Unit)))).bind fun x21 =>
      match x21 with
      | .inl j7 =>
        some (.inl (j7.1, j7.2.1, j7.2.2.2.1, j7.2.2.2.2.1, (IntKind.wrap .i64 (j7.2.2.2.2.2.1 + 1)), ()))
      | .inr j8 =>
        some (.inr (.inr (j8.1, ())))
  else
    some (.inr (.inl (t1, t3, ())))
noncomputable def w_S_l6Group_3 : PV Y_impl_Group × PV .bool × PV S_impl_Row × PV (.int .i64) × PV (.int .i64) × Unit → Option ((PV Y_impl_Group × PV .bool × Unit) ⊕ (PV .bool × Unit)) := fix fun d => b_S_l6Group_3 d.1 d.2.1 d.2.2.1 d.2.2.2.1 d.2.2.2.2.1
noncomputable def lp_S_l6Group_3 : Lp := ⟨⟨[], [1, 3, 7, 8, 9, 19, 20, 21, 22, 25, 26, 27, 28, 29, 30, 31, 32, 33, 34, 35, 36, 37, 38, 39, 40, 41, 45, 46, 47, 52, 53, 54, 57, 58, 59, 62, 63, 64, 65, 66, 67, 68, 71, 72, 73, 74, 75, 76, 77, 80, 81, 82, 83, 86, 87, 88, 91, 92, 93], []⟩, sh_S_l6Group_3, o_S_l6Group_3, fun d => b_S_l6Group_3 d.1 d.2.1 d.2.2.1 d.2.2.2.1 d.2.2.2.2.1⟩
noncomputable def pl_S_l6Group : Plan := ⟨[(6, o_S_l6Group_6), (8, o_S_l6Group_8)], [(3, lp_S_l6Group_3)], 0, 0⟩
noncomputable def f_S_l6Group (t0 : PV Y_impl_Group) : Option (PVs [.bool] × PVs []) :=
  (w_S_l6Group_3 (t0, false, t0.2.2.1, (t0.2.2.1.length : Int), 0, ())).bind fun x22 =>
    match x22 with
    | .inl l11 =>
      bif l11.2.1 then
        (f_S_l1In l11.1.1 0 999).bind fun r12 =>
          bif r12.1.1 then
            (f_S_l1In l11.1.2.1 0 999).bind fun r13 =>
              bif r13.1.1 then
                (f_S_l6Old l11.1).bind fun r14 =>
                  bif (decide ((IntKind.wrap .i64 (l11.1.1 + (r14.1.1.length : Int))) ≤ 1000)) then
                    (f_S_l6New l11.1).bind fun r15 =>
                      bif (decide ((IntKind.wrap .i64 (l11.1.2.1 + (r15.1.1.length : Int))) ≤ 1000)) then
                        bif (decide ((l11.1.2.2.1.length : Int) ≤ 80)) then
                          (f_S_l6Old l11.1).bind fun r16 =>
                            (f_S_l5Lines r16.1.1).bind fun r17 =>
                              bif r17.1.1 then
                                (f_S_l6New l11.1).bind fun r18 =>
                                  (f_S_l5Lines r18.1.1).bind fun r19 =>
                                    some ((r19.1.1, ()), ())
                              else
                                some ((false, ()), ())
                        else
                          some ((false, ()), ())
                      else
                        some ((false, ()), ())
                  else
                    some ((false, ()), ())
              else
                some ((false, ()), ())
          else
            some ((false, ()), ())
      else
        some ((false, ()), ())
    | .inr l20 =>
      some ((l20.1, ()), ())
noncomputable def ct_S_l6Group : Ct := ⟨[(.bor, Y_impl_Group)], [(.bool, .b)], fun x => f_S_l6Group x.1⟩
noncomputable def cx_S_l6Group : Cx := ⟨tab, arrs, [(64, ct_S_l6Old), (65, ct_S_l6New), (85, ct_S_l1In), (105, ct_S_l1Line), (106, ct_S_l5Lines)], [], gl, []⟩
theorem eb_S_l6Group_3 (t1 : PV Y_impl_Group) (t3 : PV .bool) (t7 : PV S_impl_Row) (t8 : PV (.int .i64)) (t9 : PV (.int .i64)) : denK cx_S_l6Group (rcN cx_S_l6Group 0) pl_S_l6Group 0 ((loopsOf (bodyOf Tryz.f63)).getD 0 .skip) (fillS sh_S_l6Group_3 (t1, t3, t7, t8, t9, ())) (roundK 0 lp_S_l6Group_3) = b_S_l6Group_3 t1 t3 t7 t8 t9 := by kernel_rfl
theorem ef_S_l6Group (t0 : PV Y_impl_Group) : denF cx_S_l6Group 0 pl_S_l6Group Tryz.f63.ntmps (bodyOf Tryz.f63) Tryz.f63.results.toList [(.bor, Y_impl_Group)] [(.bool, .b)] (t0, ()) = f_S_l6Group t0 := by kernel_rfl
theorem ok_S_l6Group : FnOk gl Tryz.prog 63 ct_S_l6Group :=
  fnOk (cx := cx_S_l6Group) (pl := pl_S_l6Group) (dp := 0) (ok0_of tabOk (by unfold ArrOk; kernel_rfl) mix ⟨ok_S_l6Old, ok_S_l6New, ok_S_l1In, ok_S_l1Line, ok_S_l5Lines, trivial⟩ trivial) Tryz.func63 (by kernel_rfl) (by kernel_rfl) (by kernel_rfl)
    (by rw [show loopsOf (bodyOf Tryz.f63) = [((loopsOf (bodyOf Tryz.f63)).getD 0 .skip)] from by kernel_rfl]; exact ⟨(by rw [show lookup pl_S_l6Group.loops (firstId ((loopsOf (bodyOf Tryz.f63)).getD 0 .skip)) = some lp_S_l6Group_3 from by kernel_rfl]; exact fun d z h => (eb_S_l6Group_3 d.1 d.2.1 d.2.2.1 d.2.2.2.1 d.2.2.2.2.1).trans h), trivial⟩) (fun x => ef_S_l6Group x.1)
noncomputable def o_S_l6Good_7 : List Out := [⟨.normal, ⟨[], [0, 4, 5, 6, 7, 54], []⟩, mkSh 59 [(0, .val S_impl_Group .b), (4, .var Y_impl_Group .b), (5, .val S_impl_Group .b), (6, .val (.int .i64) .b), (7, .val (.int .i64) .b), (54, .val .bool .b)]⟩]
noncomputable def sh_S_l6Good_2 : List Sh := mkSh 59 [(0, .val S_impl_Group .b), (5, .val S_impl_Group .b), (6, .val (.int .i64) .b), (7, .val (.int .i64) .b)]
noncomputable def o_S_l6Good_2 : List Out := [⟨.exit 0, ⟨[], [0], []⟩, mkSh 59 [(0, .val S_impl_Group .b)]⟩, ⟨.ret, ⟨[], [2], []⟩, mkSh 59 [(2, .val .bool .b)]⟩]
noncomputable def b_S_l6Good_2 (t0 : PV S_impl_Group) (t5 : PV S_impl_Group) (t6 : PV (.int .i64)) (t7 : PV (.int .i64)) : Option ((PV S_impl_Group × PV S_impl_Group × PV (.int .i64) × PV (.int .i64) × Unit) ⊕ ((PV S_impl_Group × Unit) ⊕ (PV .bool × Unit))) :=
  bif (decide (t7 < t6)) then
    bif inB t7 t5.length then
      (f_S_l6Group (t5.getD t7.toNat (dflt Y_impl_Group))).bind fun r11 =>
        bif (!r11.1.1) then
          some (.inr (.inr (false, ())))
        else
          ((
              bif (decide (t7 > 0)) then
                bif inB (IntKind.wrap .i64 (t7 - 1)) t0.length then
                  bif inB (IntKind.wrap .i64 (t7 - 1)) t0.length then
                    (f_S_l6Old (t0.getD ((IntKind.wrap .i64 (t7 - 1)).toNat) (dflt Y_impl_Group))).bind fun r12 =>
                      bif (decide (((t5.getD t7.toNat (dflt Y_impl_Group)).1) < (IntKind.wrap .i64 (((t0.getD ((IntKind.wrap .i64 (t7 - 1)).toNat) (dflt Y_impl_Group)).1) + (r12.1.1.length : Int))))) then
                        some (t0, (t5.getD t7.toNat (dflt Y_impl_Group)), t5, t6, t7, true, ())
                      else
                        bif inB (IntKind.wrap .i64 (t7 - 1)) t0.length then
                          bif inB (IntKind.wrap .i64 (t7 - 1)) t0.length then
                            (f_S_l6New (t0.getD ((IntKind.wrap .i64 (t7 - 1)).toNat) (dflt Y_impl_Group))).bind fun r13 =>
                              some (t0, (t5.getD t7.toNat (dflt Y_impl_Group)), t5, t6, t7, (decide ((((t5.getD t7.toNat (dflt Y_impl_Group)).2).1) < (IntKind.wrap .i64 ((((t0.getD ((IntKind.wrap .i64 (t7 - 1)).toNat) (dflt Y_impl_Group)).2).1) + (r13.1.1.length : Int))))), ())
                          else
                            none
                        else
                          none
                  else
                    none
                else
                  none
              else
                some (t0, (t5.getD t7.toNat (dflt Y_impl_Group)), t5, t6, t7, false, ()) : Option ((PV S_impl_Group × PV Y_impl_Group × PV S_impl_Group × PV (.int .i64) × PV (.int .i64) × PV .bool × Unit)))).bind fun j14 =>
            bif j14.2.2.2.2.2.1 then
              some (.inr (.inr (false, ())))
            else
              some (.inl (j14.1, j14.2.2.1, j14.2.2.2.1, (IntKind.wrap .i64 (j14.2.2.2.2.1 + 1)), ()))
    else
      none
  else
    some (.inr (.inl (t0, ())))
noncomputable def w_S_l6Good_2 : PV S_impl_Group × PV S_impl_Group × PV (.int .i64) × PV (.int .i64) × Unit → Option ((PV S_impl_Group × Unit) ⊕ (PV .bool × Unit)) := fix fun d => b_S_l6Good_2 d.1 d.2.1 d.2.2.1 d.2.2.2.1
noncomputable def lp_S_l6Good_2 : Lp := ⟨⟨[], [0, 5, 6, 7, 18, 19, 20, 21, 22, 23, 24, 25, 26, 27, 28, 29, 30, 31, 32, 33, 34, 35, 36, 37, 38, 39, 40, 41, 42, 43, 44, 45, 46, 47, 48, 49, 50, 51, 52, 53], []⟩, sh_S_l6Good_2, o_S_l6Good_2, fun d => b_S_l6Good_2 d.1 d.2.1 d.2.2.1 d.2.2.2.1⟩
noncomputable def pl_S_l6Good : Plan := ⟨[(7, o_S_l6Good_7)], [(2, lp_S_l6Good_2)], 0, 0⟩
noncomputable def f_S_l6Good (t0 : PV S_impl_Group) : Option (PVs [.bool] × PVs []) :=
  (w_S_l6Good_2 (t0, t0, (t0.length : Int), 0, ())).bind fun x19 =>
    match x19 with
    | .inl l17 =>
      some (((decide ((l17.1.length : Int) ≤ 20)), ()), ())
    | .inr l18 =>
      some ((l18.1, ()), ())
noncomputable def ct_S_l6Good : Ct := ⟨[(.bor, S_impl_Group)], [(.bool, .b)], fun x => f_S_l6Good x.1⟩
noncomputable def cx_S_l6Good : Cx := ⟨tab, arrs, [(63, ct_S_l6Group), (64, ct_S_l6Old), (65, ct_S_l6New)], [], gl, []⟩
theorem eb_S_l6Good_2 (t0 : PV S_impl_Group) (t5 : PV S_impl_Group) (t6 : PV (.int .i64)) (t7 : PV (.int .i64)) : denK cx_S_l6Good (rcN cx_S_l6Good 0) pl_S_l6Good 0 ((loopsOf (bodyOf Tryz.f29)).getD 0 .skip) (fillS sh_S_l6Good_2 (t0, t5, t6, t7, ())) (roundK 0 lp_S_l6Good_2) = b_S_l6Good_2 t0 t5 t6 t7 := by kernel_rfl
theorem ef_S_l6Good (t0 : PV S_impl_Group) : denF cx_S_l6Good 0 pl_S_l6Good Tryz.f29.ntmps (bodyOf Tryz.f29) Tryz.f29.results.toList [(.bor, S_impl_Group)] [(.bool, .b)] (t0, ()) = f_S_l6Good t0 := by kernel_rfl
theorem ok_S_l6Good : FnOk gl Tryz.prog 29 ct_S_l6Good :=
  fnOk (cx := cx_S_l6Good) (pl := pl_S_l6Good) (dp := 0) (ok0_of tabOk (by unfold ArrOk; kernel_rfl) mix ⟨ok_S_l6Group, ok_S_l6Old, ok_S_l6New, trivial⟩ trivial) Tryz.func29 (by kernel_rfl) (by kernel_rfl) (by kernel_rfl)
    (by rw [show loopsOf (bodyOf Tryz.f29) = [((loopsOf (bodyOf Tryz.f29)).getD 0 .skip)] from by kernel_rfl]; exact ⟨(by rw [show lookup pl_S_l6Good.loops (firstId ((loopsOf (bodyOf Tryz.f29)).getD 0 .skip)) = some lp_S_l6Good_2 from by kernel_rfl]; exact fun d z h => (eb_S_l6Good_2 d.1 d.2.1 d.2.2.1 d.2.2.2.1).trans h), trivial⟩) (fun x => ef_S_l6Good x.1)
noncomputable def pl_S_l4Number : Plan := ⟨[], [], 0, 0⟩
noncomputable def f_S_l4Number (t0 : PV (.int .i64)) (t1 : PV (.int .i64)) : Option (PVs [(.int .i64)] × PVs []) :=
  bif (decide (t1 > 0)) then
    some (((IntKind.wrap .i64 (t0 + 1)), ()), ())
  else
    some ((t0, ()), ())
noncomputable def ct_S_l4Number : Ct := ⟨[(.bor, (.int .i64)), (.bor, (.int .i64))], [((.int .i64), .b)], fun x => f_S_l4Number x.1 x.2.1⟩
noncomputable def cx_S_l4Number : Cx := ⟨tab, arrs, [], [], gl, []⟩
theorem ef_S_l4Number (t0 : PV (.int .i64)) (t1 : PV (.int .i64)) : denF cx_S_l4Number 0 pl_S_l4Number Tryz.f80.ntmps (bodyOf Tryz.f80) Tryz.f80.results.toList [(.bor, (.int .i64)), (.bor, (.int .i64))] [((.int .i64), .b)] (t0, t1, ()) = f_S_l4Number t0 t1 := by kernel_rfl
theorem ok_S_l4Number : FnOk gl Tryz.prog 80 ct_S_l4Number :=
  fnOk (cx := cx_S_l4Number) (pl := pl_S_l4Number) (dp := 0) (ok0_of tabOk (by unfold ArrOk; kernel_rfl) mix trivial trivial) Tryz.func80 (by kernel_rfl) (by kernel_rfl) (by kernel_rfl)
    (by rw [show loopsOf (bodyOf Tryz.f80) = [] from by kernel_rfl]; exact trivial) (fun x => ef_S_l4Number x.1 x.2.1)
noncomputable def fr_S_l1Num (ih : PV (.int .i64) → Option (PVs [.str] × PVs [])) (t0 : PV (.int .i64)) : Option (PVs [.str] × PVs []) :=
  bif (decide (t0 < 10)) then
    some (((bytesOfInts [(IntKind.wrap .u8 (IntKind.wrap .i64 (48 + t0)))]), ()), ())
  else
    bif 10 == 0 then
      none
    else
      (ih (IntKind.wrap .i64 (t0.tdiv 10))).bind fun r1 =>
        bif 10 == 0 then
          none
        else
          bif decide (r1.1.1.length + (bytesOfInts [(IntKind.wrap .u8 (IntKind.wrap .i64 (48 + (t0.tmod 10))))]).length ≤ 1099511627776) then
            some (((r1.1.1 ++ (bytesOfInts [(IntKind.wrap .u8 (IntKind.wrap .i64 (48 + (t0.tmod 10))))])), ()), ())
          else
            none
noncomputable def fn_S_l1Num : Nat → PV (.int .i64) → Option (PVs [.str] × PVs []) := fun n => Nat.rec (motive := fun _ => PV (.int .i64) → Option (PVs [.str] × PVs [])) (fun _ => none) (fun _ ih => fr_S_l1Num ih) n
noncomputable def f_S_l1Num (t0 : PV (.int .i64)) : Option (PVs [.str] × PVs []) := fn_S_l1Num (t0.toNat + 1) t0
noncomputable def ct_S_l1Num : Ct := ⟨[(.bor, (.int .i64))], [(.str, .b)], fun x => f_S_l1Num x.1⟩
noncomputable def ctn_S_l1Num (n : Nat) : Ct := ⟨[(.bor, (.int .i64))], [(.str, .b)], fun x => fn_S_l1Num n x.1⟩
noncomputable def cxn_S_l1Num (n : Nat) : Cx := ⟨tab, arrs, [(79, ctn_S_l1Num n)], [], gl, []⟩
noncomputable def pl_S_l1Num : Plan := ⟨[], [], 0, 0⟩
theorem efn_S_l1Num (n : Nat) (t0 : PV (.int .i64)) : denF (cxn_S_l1Num n) 0 pl_S_l1Num Tryz.f79.ntmps (bodyOf Tryz.f79) Tryz.f79.results.toList [(.bor, (.int .i64))] [(.str, .b)] (t0, ()) = fr_S_l1Num (fn_S_l1Num n) t0 := by kernel_rfl
theorem okn_S_l1Num : ∀ n, FnOk gl Tryz.prog 79 (ctn_S_l1Num n)
  | 0 => fnOk_none (by kernel_rfl)
  | n + 1 => fnOk (cx := cxn_S_l1Num n) (pl := pl_S_l1Num) (dp := 0) (ct := ctn_S_l1Num (n + 1)) (ok0_of tabOk (by unfold ArrOk; kernel_rfl) mix ⟨okn_S_l1Num n, trivial⟩ trivial) Tryz.func79 (by kernel_rfl) (by kernel_rfl) (by kernel_rfl)
    (by rw [show loopsOf (bodyOf Tryz.f79) = [] from by kernel_rfl]; exact trivial) (fun x => efn_S_l1Num n x.1)
theorem ok_S_l1Num : FnOk gl Tryz.prog 79 ct_S_l1Num := fnOk_fuel (pars := [(.bor, (.int .i64))]) (rets := [(.str, .b)]) (Fs := fun n x => fn_S_l1Num n x.1) (N := fun x => x.1.toNat + 1) okn_S_l1Num
noncomputable def o_S_l4Count_4 : List Out := [⟨.normal, ⟨[], [5], []⟩, mkSh 18 [(5, .val .str .b)]⟩]
noncomputable def pl_S_l4Count : Plan := ⟨[(4, o_S_l4Count_4)], [], 0, 0⟩
noncomputable def f_S_l4Count (t0 : PV (.int .i64)) (t1 : PV (.int .i64)) : Option (PVs [.str] × PVs []) :=
  (f_S_l4Number t0 t1).bind fun r3 =>
    (f_S_l1Num r3.1.1).bind fun r4 =>
      ((
          bif (!(t1 == 1)) then
            (f_S_l1Num t1).bind fun r6 =>
              bif decide ([44].length + r6.1.1.length ≤ 1099511627776) then
                bif decide (r4.1.1.length + ([44] ++ r6.1.1).length ≤ 1099511627776) then
                  some ((r4.1.1 ++ ([44] ++ r6.1.1)), ())
                else
                  none
              else
                none
          else
            some (r4.1.1, ()) : Option ((PV .str × Unit)))).bind fun j7 =>
        some ((j7.1, ()), ())
noncomputable def ct_S_l4Count : Ct := ⟨[(.bor, (.int .i64)), (.bor, (.int .i64))], [(.str, .b)], fun x => f_S_l4Count x.1 x.2.1⟩
noncomputable def cx_S_l4Count : Cx := ⟨tab, arrs, [(79, ct_S_l1Num), (80, ct_S_l4Number)], [], gl, []⟩
theorem ef_S_l4Count (t0 : PV (.int .i64)) (t1 : PV (.int .i64)) : denF cx_S_l4Count 0 pl_S_l4Count Tryz.f42.ntmps (bodyOf Tryz.f42) Tryz.f42.results.toList [(.bor, (.int .i64)), (.bor, (.int .i64))] [(.str, .b)] (t0, t1, ()) = f_S_l4Count t0 t1 := by kernel_rfl
theorem ok_S_l4Count : FnOk gl Tryz.prog 42 ct_S_l4Count :=
  fnOk (cx := cx_S_l4Count) (pl := pl_S_l4Count) (dp := 0) (ok0_of tabOk (by unfold ArrOk; kernel_rfl) mix ⟨ok_S_l1Num, ok_S_l4Number, trivial⟩ trivial) Tryz.func42 (by kernel_rfl) (by kernel_rfl) (by kernel_rfl)
    (by rw [show loopsOf (bodyOf Tryz.f42) = [] from by kernel_rfl]; exact trivial) (fun x => ef_S_l4Count x.1 x.2.1)
noncomputable def pl_S_l7Sign : Plan := ⟨[], [], 0, 0⟩
noncomputable def f_S_l7Sign (t0 : PV (.int .i64)) : Option (PVs [.str] × PVs []) :=
  bif cutB t0 (IntKind.wrap .i64 (t0 + 1)) [63, 32, 45, 43].length then
    some (((cutL t0 (IntKind.wrap .i64 (t0 + 1)) [63, 32, 45, 43]), ()), ())
  else
    none
noncomputable def ct_S_l7Sign : Ct := ⟨[(.bor, (.int .i64))], [(.str, .b)], fun x => f_S_l7Sign x.1⟩
noncomputable def cx_S_l7Sign : Cx := ⟨tab, arrs, [], [], gl, []⟩
theorem ef_S_l7Sign (t0 : PV (.int .i64)) : denF cx_S_l7Sign 0 pl_S_l7Sign Tryz.f67.ntmps (bodyOf Tryz.f67) Tryz.f67.results.toList [(.bor, (.int .i64))] [(.str, .b)] (t0, ()) = f_S_l7Sign t0 := by kernel_rfl
theorem ok_S_l7Sign : FnOk gl Tryz.prog 67 ct_S_l7Sign :=
  fnOk (cx := cx_S_l7Sign) (pl := pl_S_l7Sign) (dp := 0) (ok0_of tabOk (by unfold ArrOk; kernel_rfl) mix trivial trivial) Tryz.func67 (by kernel_rfl) (by kernel_rfl) (by kernel_rfl)
    (by rw [show loopsOf (bodyOf Tryz.f67) = [] from by kernel_rfl]; exact trivial) (fun x => ef_S_l7Sign x.1)
noncomputable def pl_S_l5Shown : Plan := ⟨[], [], 0, 0⟩
noncomputable def f_S_l5Shown (t0 : PV .str) (t1 : PV .str) : Option (PVs [.str] × PVs []) :=
  (f_S_l1Ends t1).bind fun r4 =>
    bif r4.1.1 then
      bif decide (t0.length + t1.length ≤ 1099511627776) then
        some (((t0 ++ t1), ()), ())
      else
        none
    else
      bif decide (t0.length + t1.length ≤ 1099511627776) then
        bif decide ((t0 ++ t1).length + [10, 92, 32, 110, 111, 110, 101, 10].length ≤ 1099511627776) then
          some ((((t0 ++ t1) ++ [10, 92, 32, 110, 111, 110, 101, 10]), ()), ())
        else
          none
      else
        none
noncomputable def ct_S_l5Shown : Ct := ⟨[(.bor, .str), (.bor, .str)], [(.str, .b)], fun x => f_S_l5Shown x.1 x.2.1⟩
noncomputable def cx_S_l5Shown : Cx := ⟨tab, arrs, [(44, ct_S_l1Ends)], [], gl, []⟩
theorem ef_S_l5Shown (t0 : PV .str) (t1 : PV .str) : denF cx_S_l5Shown 0 pl_S_l5Shown Tryz.f66.ntmps (bodyOf Tryz.f66) Tryz.f66.results.toList [(.bor, .str), (.bor, .str)] [(.str, .b)] (t0, t1, ()) = f_S_l5Shown t0 t1 := by kernel_rfl
theorem ok_S_l5Shown : FnOk gl Tryz.prog 66 ct_S_l5Shown :=
  fnOk (cx := cx_S_l5Shown) (pl := pl_S_l5Shown) (dp := 0) (ok0_of tabOk (by unfold ArrOk; kernel_rfl) mix ⟨ok_S_l1Ends, trivial⟩ trivial) Tryz.func66 (by kernel_rfl) (by kernel_rfl) (by kernel_rfl)
    (by rw [show loopsOf (bodyOf Tryz.f66) = [] from by kernel_rfl]; exact trivial) (fun x => ef_S_l5Shown x.1 x.2.1)
noncomputable def sh_S_l7Text_7 : List Sh := mkSh 50 [(3, .val .str .b), (8, .val S_impl_Group .b), (9, .val (.int .i64) .b), (10, .val (.int .i64) .b), (33, .val S_impl_Row .b), (34, .val (.int .i64) .b), (35, .val (.int .i64) .b)]
noncomputable def o_S_l7Text_7 : List Out := [⟨.exit 2, ⟨[], [3, 8, 9, 10], []⟩, mkSh 50 [(3, .val .str .b), (8, .val S_impl_Group .b), (9, .val (.int .i64) .b), (10, .val (.int .i64) .b)]⟩]
noncomputable def b_S_l7Text_7 (t3 : PV .str) (t8 : PV S_impl_Group) (t9 : PV (.int .i64)) (t10 : PV (.int .i64)) (t33 : PV S_impl_Row) (t34 : PV (.int .i64)) (t35 : PV (.int .i64)) : Option ((PV .str × PV S_impl_Group × PV (.int .i64) × PV (.int .i64) × PV S_impl_Row × PV (.int .i64) × PV (.int .i64) × Unit) ⊕ ((PV .str × PV S_impl_Group × PV (.int .i64) × PV (.int .i64) × Unit))) :=
  bif (decide (t35 < t34)) then
    bif inB t35 t33.length then
      (f_S_l7Sign ((t33.getD t35.toNat (dflt Y_impl_Row)).1)).bind fun r11 =>
        (f_S_l5Shown r11.1.1 (((t33.getD t35.toNat (dflt Y_impl_Row)).2).1)).bind fun r12 =>
          bif decide (t3.length + r12.1.1.length ≤ 1099511627776) then
            some (.inl ((t3 ++ r12.1.1), t8, t9, t10, t33, t34, (IntKind.wrap .i64 (t35 + 1)), ()))
          else
            none
    else
      none
  else
    some (.inr (t3, t8, t9, t10, ()))
noncomputable def w_S_l7Text_7 : PV .str × PV S_impl_Group × PV (.int .i64) × PV (.int .i64) × PV S_impl_Row × PV (.int .i64) × PV (.int .i64) × Unit → Option ((PV .str × PV S_impl_Group × PV (.int .i64) × PV (.int .i64) × Unit)) := fix fun d => b_S_l7Text_7 d.1 d.2.1 d.2.2.1 d.2.2.2.1 d.2.2.2.2.1 d.2.2.2.2.2.1 d.2.2.2.2.2.2.1
noncomputable def lp_S_l7Text_7 : Lp := ⟨⟨[], [3, 8, 9, 10, 33, 34, 35], []⟩, sh_S_l7Text_7, o_S_l7Text_7, fun d => b_S_l7Text_7 d.1 d.2.1 d.2.2.1 d.2.2.2.1 d.2.2.2.2.1 d.2.2.2.2.2.1 d.2.2.2.2.2.2.1⟩
noncomputable def sh_S_l7Text_3 : List Sh := mkSh 50 [(3, .val .str .b), (8, .val S_impl_Group .b), (9, .val (.int .i64) .b), (10, .val (.int .i64) .b)]
noncomputable def o_S_l7Text_3 : List Out := [⟨.exit 0, ⟨[], [3], []⟩, mkSh 50 [(3, .val .str .b)]⟩]
noncomputable def b_S_l7Text_3 (t3 : PV .str) (t8 : PV S_impl_Group) (t9 : PV (.int .i64)) (t10 : PV (.int .i64)) : Option ((PV .str × PV S_impl_Group × PV (.int .i64) × PV (.int .i64) × Unit) ⊕ ((PV .str × Unit))) :=
  bif (decide (t10 < t9)) then
    bif inB t10 t8.length then
      (f_S_l6Old (t8.getD t10.toNat (dflt Y_impl_Group))).bind fun r14 =>
        (f_S_l4Count ((t8.getD t10.toNat (dflt Y_impl_Group)).1) (r14.1.1.length : Int)).bind fun r15 =>
          bif decide ([64, 64, 32, 45].length + r15.1.1.length ≤ 1099511627776) then
            bif decide (([64, 64, 32, 45] ++ r15.1.1).length + [32, 43].length ≤ 1099511627776) then
              (f_S_l6New (t8.getD t10.toNat (dflt Y_impl_Group))).bind fun r16 =>
                (f_S_l4Count (((t8.getD t10.toNat (dflt Y_impl_Group)).2).1) (r16.1.1.length : Int)).bind fun r17 =>
                  bif decide ((([64, 64, 32, 45] ++ r15.1.1) ++ [32, 43]).length + r17.1.1.length ≤ 1099511627776) then
                    bif decide (((([64, 64, 32, 45] ++ r15.1.1) ++ [32, 43]) ++ r17.1.1).length + [32, 64, 64, 10].length ≤ 1099511627776) then
                      bif decide (t3.length + (((([64, 64, 32, 45] ++ r15.1.1) ++ [32, 43]) ++ r17.1.1) ++ [32, 64, 64, 10]).length ≤ 1099511627776) then
                        (w_S_l7Text_7 ((t3 ++ (((([64, 64, 32, 45] ++ r15.1.1) ++ [32, 43]) ++ r17.1.1) ++ [32, 64, 64, 10])), t8, t9, t10, (((t8.getD t10.toNat (dflt Y_impl_Group)).2).2).1, (((((t8.getD t10.toNat (dflt Y_impl_Group)).2).2).1).length : Int), 0, ())).bind fun l18 =>
                          some (.inl (l18.1, l18.2.1, l18.2.2.1, (IntKind.wrap .i64 (l18.2.2.2.1 + 1)), ()))
                      else
                        none
                    else
                      none
                  else
                    none
            else
              none
          else
            none
    else
      none
  else
    some (.inr (t3, ()))
noncomputable def w_S_l7Text_3 : PV .str × PV S_impl_Group × PV (.int .i64) × PV (.int .i64) × Unit → Option ((PV .str × Unit)) := fix fun d => b_S_l7Text_3 d.1 d.2.1 d.2.2.1 d.2.2.2.1
noncomputable def lp_S_l7Text_3 : Lp := ⟨⟨[], [3, 8, 9, 10], []⟩, sh_S_l7Text_3, o_S_l7Text_3, fun d => b_S_l7Text_3 d.1 d.2.1 d.2.2.1 d.2.2.2.1⟩
noncomputable def pl_S_l7Text : Plan := ⟨[], [(7, lp_S_l7Text_7), (3, lp_S_l7Text_3)], 0, 0⟩
noncomputable def f_S_l7Text (t0 : PV S_impl_Group) : Option (PVs [.str] × PVs []) :=
  (w_S_l7Text_3 ([], t0, (t0.length : Int), 0, ())).bind fun l20 =>
    some ((l20.1, ()), ())
noncomputable def ct_S_l7Text : Ct := ⟨[(.bor, S_impl_Group)], [(.str, .b)], fun x => f_S_l7Text x.1⟩
noncomputable def cx_S_l7Text : Cx := ⟨tab, arrs, [(42, ct_S_l4Count), (64, ct_S_l6Old), (65, ct_S_l6New), (66, ct_S_l5Shown), (67, ct_S_l7Sign)], [], gl, []⟩
theorem eb_S_l7Text_3 (t3 : PV .str) (t8 : PV S_impl_Group) (t9 : PV (.int .i64)) (t10 : PV (.int .i64)) : denK cx_S_l7Text (rcN cx_S_l7Text 0) pl_S_l7Text 0 ((loopsOf (bodyOf Tryz.f30)).getD 0 .skip) (fillS sh_S_l7Text_3 (t3, t8, t9, t10, ())) (roundK 0 lp_S_l7Text_3) = b_S_l7Text_3 t3 t8 t9 t10 := by kernel_rfl
theorem eb_S_l7Text_7 (t3 : PV .str) (t8 : PV S_impl_Group) (t9 : PV (.int .i64)) (t10 : PV (.int .i64)) (t33 : PV S_impl_Row) (t34 : PV (.int .i64)) (t35 : PV (.int .i64)) : denK cx_S_l7Text (rcN cx_S_l7Text 0) pl_S_l7Text 0 ((loopsOf (bodyOf Tryz.f30)).getD 1 .skip) (fillS sh_S_l7Text_7 (t3, t8, t9, t10, t33, t34, t35, ())) (roundK 0 lp_S_l7Text_7) = b_S_l7Text_7 t3 t8 t9 t10 t33 t34 t35 := by kernel_rfl
theorem ef_S_l7Text (t0 : PV S_impl_Group) : denF cx_S_l7Text 0 pl_S_l7Text Tryz.f30.ntmps (bodyOf Tryz.f30) Tryz.f30.results.toList [(.bor, S_impl_Group)] [(.str, .b)] (t0, ()) = f_S_l7Text t0 := by kernel_rfl
theorem ok_S_l7Text : FnOk gl Tryz.prog 30 ct_S_l7Text :=
  fnOk (cx := cx_S_l7Text) (pl := pl_S_l7Text) (dp := 0) (ok0_of tabOk (by unfold ArrOk; kernel_rfl) mix ⟨ok_S_l4Count, ok_S_l6Old, ok_S_l6New, ok_S_l5Shown, ok_S_l7Sign, trivial⟩ trivial) Tryz.func30 (by kernel_rfl) (by kernel_rfl) (by kernel_rfl)
    (by rw [show loopsOf (bodyOf Tryz.f30) = [((loopsOf (bodyOf Tryz.f30)).getD 0 .skip), ((loopsOf (bodyOf Tryz.f30)).getD 1 .skip)] from by kernel_rfl]; exact ⟨(by rw [show lookup pl_S_l7Text.loops (firstId ((loopsOf (bodyOf Tryz.f30)).getD 0 .skip)) = some lp_S_l7Text_3 from by kernel_rfl]; exact fun d z h => (eb_S_l7Text_3 d.1 d.2.1 d.2.2.1 d.2.2.2.1).trans h), (by rw [show lookup pl_S_l7Text.loops (firstId ((loopsOf (bodyOf Tryz.f30)).getD 1 .skip)) = some lp_S_l7Text_7 from by kernel_rfl]; exact fun d z h => (eb_S_l7Text_7 d.1 d.2.1 d.2.2.1 d.2.2.2.1 d.2.2.2.2.1 d.2.2.2.2.2.1 d.2.2.2.2.2.2.1).trans h), trivial⟩) (fun x => ef_S_l7Text x.1)
noncomputable def o_S_GroupsText_2 : List Out := [⟨.normal, ⟨[], [0, 12], []⟩, mkSh 15 [(0, .val S_impl_Group .b), (12, .val .bool .b)]⟩]
noncomputable def pl_S_GroupsText : Plan := ⟨[(2, o_S_GroupsText_2)], [], 0, 0⟩
noncomputable def f_S_GroupsText (t0 : PV S_impl_Group) : Option (PVs [.str, .bool] × PVs []) :=
  ((
      (f_S_l6Good t0).bind fun r6 =>
        bif (!r6.1.1) then
          some (t0, true, ())
        else
          (f_S_l7Text t0).bind fun r7 =>
            some (t0, (decide ((r7.1.1.length : Int) > 3000)), ()) : Option ((PV S_impl_Group × PV .bool × Unit)))).bind fun j8 =>
    bif j8.2.1 then
      some (([], false, ()), ())
    else
      (f_S_l7Text j8.1).bind fun r9 =>
        some ((r9.1.1, true, ()), ())
noncomputable def ct_S_GroupsText : Ct := ⟨[(.bor, S_impl_Group)], [(.str, .b), (.bool, .b)], fun x => f_S_GroupsText x.1⟩
noncomputable def cx_S_GroupsText : Cx := ⟨tab, arrs, [(29, ct_S_l6Good), (30, ct_S_l7Text)], [], gl, []⟩
theorem ef_S_GroupsText (t0 : PV S_impl_Group) : denF cx_S_GroupsText 0 pl_S_GroupsText Tryz.f8.ntmps (bodyOf Tryz.f8) Tryz.f8.results.toList [(.bor, S_impl_Group)] [(.str, .b), (.bool, .b)] (t0, ()) = f_S_GroupsText t0 := by kernel_rfl
theorem ok_S_GroupsText : FnOk gl Tryz.prog 8 ct_S_GroupsText :=
  fnOk (cx := cx_S_GroupsText) (pl := pl_S_GroupsText) (dp := 0) (ok0_of tabOk (by unfold ArrOk; kernel_rfl) mix ⟨ok_S_l6Good, ok_S_l7Text, trivial⟩ trivial) Tryz.func8 (by kernel_rfl) (by kernel_rfl) (by kernel_rfl)
    (by rw [show loopsOf (bodyOf Tryz.f8) = [] from by kernel_rfl]; exact trivial) (fun x => ef_S_GroupsText x.1)
noncomputable def pl_I_GoodGroups : Plan := ⟨[], [], 0, 0⟩
noncomputable def f_I_GoodGroups (t0 : PV S_impl_Group) : Option (PVs [.bool] × PVs []) :=
  (f_I_goodGroups t0).bind fun r1 =>
    some ((r1.1.1, ()), ())
noncomputable def ct_I_GoodGroups : Ct := ⟨[(.bor, S_impl_Group)], [(.bool, .b)], fun x => f_I_GoodGroups x.1⟩
noncomputable def cx_I_GoodGroups : Cx := ⟨tab, arrs, [(26, ct_I_goodGroups)], [], gl, []⟩
theorem ef_I_GoodGroups (t0 : PV S_impl_Group) : denF cx_I_GoodGroups 0 pl_I_GoodGroups Tryz.f9.ntmps (bodyOf Tryz.f9) Tryz.f9.results.toList [(.bor, S_impl_Group)] [(.bool, .b)] (t0, ()) = f_I_GoodGroups t0 := by kernel_rfl
theorem ok_I_GoodGroups : FnOk gl Tryz.prog 9 ct_I_GoodGroups :=
  fnOk (cx := cx_I_GoodGroups) (pl := pl_I_GoodGroups) (dp := 0) (ok0_of tabOk (by unfold ArrOk; kernel_rfl) mix ⟨ok_I_goodGroups, trivial⟩ trivial) Tryz.func9 (by kernel_rfl) (by kernel_rfl) (by kernel_rfl)
    (by rw [show loopsOf (bodyOf Tryz.f9) = [] from by kernel_rfl]; exact trivial) (fun x => ef_I_GoodGroups x.1)
noncomputable def pl_S_GoodGroups : Plan := ⟨[], [], 0, 0⟩
noncomputable def f_S_GoodGroups (t0 : PV S_impl_Group) : Option (PVs [.bool] × PVs []) :=
  (f_S_l6Good t0).bind fun r1 =>
    some ((r1.1.1, ()), ())
noncomputable def ct_S_GoodGroups : Ct := ⟨[(.bor, S_impl_Group)], [(.bool, .b)], fun x => f_S_GoodGroups x.1⟩
noncomputable def cx_S_GoodGroups : Cx := ⟨tab, arrs, [(29, ct_S_l6Good)], [], gl, []⟩
theorem ef_S_GoodGroups (t0 : PV S_impl_Group) : denF cx_S_GoodGroups 0 pl_S_GoodGroups Tryz.f10.ntmps (bodyOf Tryz.f10) Tryz.f10.results.toList [(.bor, S_impl_Group)] [(.bool, .b)] (t0, ()) = f_S_GoodGroups t0 := by kernel_rfl
theorem ok_S_GoodGroups : FnOk gl Tryz.prog 10 ct_S_GoodGroups :=
  fnOk (cx := cx_S_GoodGroups) (pl := pl_S_GoodGroups) (dp := 0) (ok0_of tabOk (by unfold ArrOk; kernel_rfl) mix ⟨ok_S_l6Good, trivial⟩ trivial) Tryz.func10 (by kernel_rfl) (by kernel_rfl) (by kernel_rfl)
    (by rw [show loopsOf (bodyOf Tryz.f10) = [] from by kernel_rfl]; exact trivial) (fun x => ef_S_GoodGroups x.1)
noncomputable def pl_strings_SplitAfter : Plan := ⟨[], [], 0, 0⟩
noncomputable def f_strings_SplitAfter (t0 : PV .str) (t1 : PV .str) : Option (PVs [S_string] × PVs []) :=
  (f_strings_genSplit t0 t1 (t1.length : Int) (-1)).bind fun r1 =>
    some ((r1.1.1, ()), ())
noncomputable def ct_strings_SplitAfter : Ct := ⟨[(.bor, .str), (.bor, .str)], [(S_string, .b)], fun x => f_strings_SplitAfter x.1 x.2.1⟩
noncomputable def cx_strings_SplitAfter : Cx := ⟨tab, arrs, [(113, ct_strings_genSplit)], [], gl, []⟩
theorem ef_strings_SplitAfter (t0 : PV .str) (t1 : PV .str) : denF cx_strings_SplitAfter 0 pl_strings_SplitAfter Tryz.f69.ntmps (bodyOf Tryz.f69) Tryz.f69.results.toList [(.bor, .str), (.bor, .str)] [(S_string, .b)] (t0, t1, ()) = f_strings_SplitAfter t0 t1 := by kernel_rfl
theorem ok_strings_SplitAfter : FnOk gl Tryz.prog 69 ct_strings_SplitAfter :=
  fnOk (cx := cx_strings_SplitAfter) (pl := pl_strings_SplitAfter) (dp := 0) (ok0_of tabOk (by unfold ArrOk; kernel_rfl) mix ⟨ok_strings_genSplit, trivial⟩ trivial) Tryz.func69 (by kernel_rfl) (by kernel_rfl) (by kernel_rfl)
    (by rw [show loopsOf (bodyOf Tryz.f69) = [] from by kernel_rfl]; exact trivial) (fun x => ef_strings_SplitAfter x.1 x.2.1)
noncomputable def o_I_linesOf_7 : List Out := [⟨.normal, ⟨[], [3], []⟩, mkSh 21 [(3, .val S_string .b)]⟩]
noncomputable def pl_I_linesOf : Plan := ⟨[(7, o_I_linesOf_7)], [], 0, 0⟩
noncomputable def f_I_linesOf (t0 : PV .str) : Option (PVs [S_string] × PVs []) :=
  bif (t0 == []) then
    some (([], ()), ())
  else
    (f_strings_SplitAfter t0 [10]).bind fun r2 =>
      ((
          bif inB (IntKind.wrap .i64 ((r2.1.1.length : Int) - 1)) r2.1.1.length then
            bif ((r2.1.1.getD ((IntKind.wrap .i64 ((r2.1.1.length : Int) - 1)).toNat) []) == []) then
              bif cutB 0 (IntKind.wrap .i64 ((r2.1.1.length : Int) - 1)) r2.1.1.length then
                some ((cutL 0 (IntKind.wrap .i64 ((r2.1.1.length : Int) - 1)) r2.1.1), ())
              else
                none
            else
              some (r2.1.1, ())
          else
            none : Option ((PV S_string × Unit)))).bind fun j3 =>
        some ((j3.1, ()), ())
noncomputable def ct_I_linesOf : Ct := ⟨[(.bor, .str)], [(S_string, .b)], fun x => f_I_linesOf x.1⟩
noncomputable def cx_I_linesOf : Cx := ⟨tab, arrs, [(69, ct_strings_SplitAfter)], [], gl, []⟩
theorem ef_I_linesOf (t0 : PV .str) : denF cx_I_linesOf 0 pl_I_linesOf Tryz.f32.ntmps (bodyOf Tryz.f32) Tryz.f32.results.toList [(.bor, .str)] [(S_string, .b)] (t0, ()) = f_I_linesOf t0 := by kernel_rfl
theorem ok_I_linesOf : FnOk gl Tryz.prog 32 ct_I_linesOf :=
  fnOk (cx := cx_I_linesOf) (pl := pl_I_linesOf) (dp := 0) (ok0_of tabOk (by unfold ArrOk; kernel_rfl) mix ⟨ok_strings_SplitAfter, trivial⟩ trivial) Tryz.func32 (by kernel_rfl) (by kernel_rfl) (by kernel_rfl)
    (by rw [show loopsOf (bodyOf Tryz.f32) = [] from by kernel_rfl]; exact trivial) (fun x => ef_I_linesOf x.1)
noncomputable def pl_internal_stringslite_HasPrefix : Plan := ⟨[], [], 0, 0⟩
noncomputable def f_internal_stringslite_HasPrefix (t0 : PV .str) (t1 : PV .str) : Option (PVs [.bool] × PVs []) :=
  bif (decide ((t0.length : Int) ≥ (t1.length : Int))) then
    bif cutB 0 (t1.length : Int) t0.length then
      some ((((cutL 0 (t1.length : Int) t0) == t1), ()), ())
    else
      none
  else
    some ((false, ()), ())
noncomputable def ct_internal_stringslite_HasPrefix : Ct := ⟨[(.bor, .str), (.bor, .str)], [(.bool, .b)], fun x => f_internal_stringslite_HasPrefix x.1 x.2.1⟩
noncomputable def cx_internal_stringslite_HasPrefix : Cx := ⟨tab, arrs, [], [], gl, []⟩
theorem ef_internal_stringslite_HasPrefix (t0 : PV .str) (t1 : PV .str) : denF cx_internal_stringslite_HasPrefix 0 pl_internal_stringslite_HasPrefix Tryz.f149.ntmps (bodyOf Tryz.f149) Tryz.f149.results.toList [(.bor, .str), (.bor, .str)] [(.bool, .b)] (t0, t1, ()) = f_internal_stringslite_HasPrefix t0 t1 := by kernel_rfl
theorem ok_internal_stringslite_HasPrefix : FnOk gl Tryz.prog 149 ct_internal_stringslite_HasPrefix :=
  fnOk (cx := cx_internal_stringslite_HasPrefix) (pl := pl_internal_stringslite_HasPrefix) (dp := 0) (ok0_of tabOk (by unfold ArrOk; kernel_rfl) mix trivial trivial) Tryz.func149 (by kernel_rfl) (by kernel_rfl) (by kernel_rfl)
    (by rw [show loopsOf (bodyOf Tryz.f149) = [] from by kernel_rfl]; exact trivial) (fun x => ef_internal_stringslite_HasPrefix x.1 x.2.1)
noncomputable def pl_internal_stringslite_CutPrefix : Plan := ⟨[], [], 0, 0⟩
noncomputable def f_internal_stringslite_CutPrefix (t0 : PV .str) (t1 : PV .str) : Option (PVs [.str, .bool] × PVs []) :=
  (f_internal_stringslite_HasPrefix t0 t1).bind fun r4 =>
    bif (!r4.1.1) then
      some ((t0, false, ()), ())
    else
      bif cutB (t1.length : Int) (t0.length : Int) t0.length then
        some (((cutL (t1.length : Int) (t0.length : Int) t0), true, ()), ())
      else
        none
noncomputable def ct_internal_stringslite_CutPrefix : Ct := ⟨[(.bor, .str), (.bor, .str)], [(.str, .b), (.bool, .b)], fun x => f_internal_stringslite_CutPrefix x.1 x.2.1⟩
noncomputable def cx_internal_stringslite_CutPrefix : Cx := ⟨tab, arrs, [(149, ct_internal_stringslite_HasPrefix)], [], gl, []⟩
theorem ef_internal_stringslite_CutPrefix (t0 : PV .str) (t1 : PV .str) : denF cx_internal_stringslite_CutPrefix 0 pl_internal_stringslite_CutPrefix Tryz.f133.ntmps (bodyOf Tryz.f133) Tryz.f133.results.toList [(.bor, .str), (.bor, .str)] [(.str, .b), (.bool, .b)] (t0, t1, ()) = f_internal_stringslite_CutPrefix t0 t1 := by kernel_rfl
theorem ok_internal_stringslite_CutPrefix : FnOk gl Tryz.prog 133 ct_internal_stringslite_CutPrefix :=
  fnOk (cx := cx_internal_stringslite_CutPrefix) (pl := pl_internal_stringslite_CutPrefix) (dp := 0) (ok0_of tabOk (by unfold ArrOk; kernel_rfl) mix ⟨ok_internal_stringslite_HasPrefix, trivial⟩ trivial) Tryz.func133 (by kernel_rfl) (by kernel_rfl) (by kernel_rfl)
    (by rw [show loopsOf (bodyOf Tryz.f133) = [] from by kernel_rfl]; exact trivial) (fun x => ef_internal_stringslite_CutPrefix x.1 x.2.1)
noncomputable def pl_strings_CutPrefix : Plan := ⟨[], [], 0, 0⟩
noncomputable def f_strings_CutPrefix (t0 : PV .str) (t1 : PV .str) : Option (PVs [.str, .bool] × PVs []) :=
  (f_internal_stringslite_CutPrefix t0 t1).bind fun r1 =>
    some ((r1.1.1, r1.1.2.1, ()), ())
noncomputable def ct_strings_CutPrefix : Ct := ⟨[(.bor, .str), (.bor, .str)], [(.str, .b), (.bool, .b)], fun x => f_strings_CutPrefix x.1 x.2.1⟩
noncomputable def cx_strings_CutPrefix : Cx := ⟨tab, arrs, [(133, ct_internal_stringslite_CutPrefix)], [], gl, []⟩
theorem ef_strings_CutPrefix (t0 : PV .str) (t1 : PV .str) : denF cx_strings_CutPrefix 0 pl_strings_CutPrefix Tryz.f107.ntmps (bodyOf Tryz.f107) Tryz.f107.results.toList [(.bor, .str), (.bor, .str)] [(.str, .b), (.bool, .b)] (t0, t1, ()) = f_strings_CutPrefix t0 t1 := by kernel_rfl
theorem ok_strings_CutPrefix : FnOk gl Tryz.prog 107 ct_strings_CutPrefix :=
  fnOk (cx := cx_strings_CutPrefix) (pl := pl_strings_CutPrefix) (dp := 0) (ok0_of tabOk (by unfold ArrOk; kernel_rfl) mix ⟨ok_internal_stringslite_CutPrefix, trivial⟩ trivial) Tryz.func107 (by kernel_rfl) (by kernel_rfl) (by kernel_rfl)
    (by rw [show loopsOf (bodyOf Tryz.f107) = [] from by kernel_rfl]; exact trivial) (fun x => ef_strings_CutPrefix x.1 x.2.1)
noncomputable def pl_internal_stringslite_Cut : Plan := ⟨[], [], 0, 0⟩
noncomputable def f_internal_stringslite_Cut (t0 : PV .str) (t1 : PV .str) : Option (PVs [.str, .str, .bool] × PVs []) :=
  (f_internal_stringslite_Index t0 t1).bind fun r4 =>
    bif (decide (r4.1.1 ≥ 0)) then
      bif cutB 0 r4.1.1 t0.length then
        bif cutB (IntKind.wrap .i64 (r4.1.1 + (t1.length : Int))) (t0.length : Int) t0.length then
          some (((cutL 0 r4.1.1 t0), (cutL (IntKind.wrap .i64 (r4.1.1 + (t1.length : Int))) (t0.length : Int) t0), true, ()), ())
        else
          none
      else
        none
    else
      some ((t0, [], false, ()), ())
noncomputable def ct_internal_stringslite_Cut : Ct := ⟨[(.bor, .str), (.bor, .str)], [(.str, .b), (.str, .b), (.bool, .b)], fun x => f_internal_stringslite_Cut x.1 x.2.1⟩
noncomputable def cx_internal_stringslite_Cut : Cx := ⟨tab, arrs, [(150, ct_internal_stringslite_Index)], [], gl, []⟩
theorem ef_internal_stringslite_Cut (t0 : PV .str) (t1 : PV .str) : denF cx_internal_stringslite_Cut 0 pl_internal_stringslite_Cut Tryz.f134.ntmps (bodyOf Tryz.f134) Tryz.f134.results.toList [(.bor, .str), (.bor, .str)] [(.str, .b), (.str, .b), (.bool, .b)] (t0, t1, ()) = f_internal_stringslite_Cut t0 t1 := by kernel_rfl
theorem ok_internal_stringslite_Cut : FnOk gl Tryz.prog 134 ct_internal_stringslite_Cut :=
  fnOk (cx := cx_internal_stringslite_Cut) (pl := pl_internal_stringslite_Cut) (dp := 0) (ok0_of tabOk (by unfold ArrOk; kernel_rfl) mix ⟨ok_internal_stringslite_Index, trivial⟩ trivial) Tryz.func134 (by kernel_rfl) (by kernel_rfl) (by kernel_rfl)
    (by rw [show loopsOf (bodyOf Tryz.f134) = [] from by kernel_rfl]; exact trivial) (fun x => ef_internal_stringslite_Cut x.1 x.2.1)
noncomputable def pl_strings_Cut : Plan := ⟨[], [], 0, 0⟩
noncomputable def f_strings_Cut (t0 : PV .str) (t1 : PV .str) : Option (PVs [.str, .str, .bool] × PVs []) :=
  (f_internal_stringslite_Cut t0 t1).bind fun r1 =>
    some ((r1.1.1, r1.1.2.1, r1.1.2.2.1, ()), ())
noncomputable def ct_strings_Cut : Ct := ⟨[(.bor, .str), (.bor, .str)], [(.str, .b), (.str, .b), (.bool, .b)], fun x => f_strings_Cut x.1 x.2.1⟩
noncomputable def cx_strings_Cut : Cx := ⟨tab, arrs, [(134, ct_internal_stringslite_Cut)], [], gl, []⟩
theorem ef_strings_Cut (t0 : PV .str) (t1 : PV .str) : denF cx_strings_Cut 0 pl_strings_Cut Tryz.f108.ntmps (bodyOf Tryz.f108) Tryz.f108.results.toList [(.bor, .str), (.bor, .str)] [(.str, .b), (.str, .b), (.bool, .b)] (t0, t1, ()) = f_strings_Cut t0 t1 := by kernel_rfl
theorem ok_strings_Cut : FnOk gl Tryz.prog 108 ct_strings_Cut :=
  fnOk (cx := cx_strings_Cut) (pl := pl_strings_Cut) (dp := 0) (ok0_of tabOk (by unfold ArrOk; kernel_rfl) mix ⟨ok_internal_stringslite_Cut, trivial⟩ trivial) Tryz.func108 (by kernel_rfl) (by kernel_rfl) (by kernel_rfl)
    (by rw [show loopsOf (bodyOf Tryz.f108) = [] from by kernel_rfl]; exact trivial) (fun x => ef_strings_Cut x.1 x.2.1)
noncomputable def pl_internal_stringslite_CutSuffix : Plan := ⟨[], [], 0, 0⟩
noncomputable def f_internal_stringslite_CutSuffix (t0 : PV .str) (t1 : PV .str) : Option (PVs [.str, .bool] × PVs []) :=
  (f_internal_stringslite_HasSuffix t0 t1).bind fun r4 =>
    bif (!r4.1.1) then
      some ((t0, false, ()), ())
    else
      bif cutB 0 (IntKind.wrap .i64 ((t0.length : Int) - (t1.length : Int))) t0.length then
        some (((cutL 0 (IntKind.wrap .i64 ((t0.length : Int) - (t1.length : Int))) t0), true, ()), ())
      else
        none
noncomputable def ct_internal_stringslite_CutSuffix : Ct := ⟨[(.bor, .str), (.bor, .str)], [(.str, .b), (.bool, .b)], fun x => f_internal_stringslite_CutSuffix x.1 x.2.1⟩
noncomputable def cx_internal_stringslite_CutSuffix : Cx := ⟨tab, arrs, [(147, ct_internal_stringslite_HasSuffix)], [], gl, []⟩
theorem ef_internal_stringslite_CutSuffix (t0 : PV .str) (t1 : PV .str) : denF cx_internal_stringslite_CutSuffix 0 pl_internal_stringslite_CutSuffix Tryz.f135.ntmps (bodyOf Tryz.f135) Tryz.f135.results.toList [(.bor, .str), (.bor, .str)] [(.str, .b), (.bool, .b)] (t0, t1, ()) = f_internal_stringslite_CutSuffix t0 t1 := by kernel_rfl
theorem ok_internal_stringslite_CutSuffix : FnOk gl Tryz.prog 135 ct_internal_stringslite_CutSuffix :=
  fnOk (cx := cx_internal_stringslite_CutSuffix) (pl := pl_internal_stringslite_CutSuffix) (dp := 0) (ok0_of tabOk (by unfold ArrOk; kernel_rfl) mix ⟨ok_internal_stringslite_HasSuffix, trivial⟩ trivial) Tryz.func135 (by kernel_rfl) (by kernel_rfl) (by kernel_rfl)
    (by rw [show loopsOf (bodyOf Tryz.f135) = [] from by kernel_rfl]; exact trivial) (fun x => ef_internal_stringslite_CutSuffix x.1 x.2.1)
noncomputable def pl_strings_CutSuffix : Plan := ⟨[], [], 0, 0⟩
noncomputable def f_strings_CutSuffix (t0 : PV .str) (t1 : PV .str) : Option (PVs [.str, .bool] × PVs []) :=
  (f_internal_stringslite_CutSuffix t0 t1).bind fun r1 =>
    some ((r1.1.1, r1.1.2.1, ()), ())
noncomputable def ct_strings_CutSuffix : Ct := ⟨[(.bor, .str), (.bor, .str)], [(.str, .b), (.bool, .b)], fun x => f_strings_CutSuffix x.1 x.2.1⟩
noncomputable def cx_strings_CutSuffix : Cx := ⟨tab, arrs, [(135, ct_internal_stringslite_CutSuffix)], [], gl, []⟩
theorem ef_strings_CutSuffix (t0 : PV .str) (t1 : PV .str) : denF cx_strings_CutSuffix 0 pl_strings_CutSuffix Tryz.f109.ntmps (bodyOf Tryz.f109) Tryz.f109.results.toList [(.bor, .str), (.bor, .str)] [(.str, .b), (.bool, .b)] (t0, t1, ()) = f_strings_CutSuffix t0 t1 := by kernel_rfl
theorem ok_strings_CutSuffix : FnOk gl Tryz.prog 109 ct_strings_CutSuffix :=
  fnOk (cx := cx_strings_CutSuffix) (pl := pl_strings_CutSuffix) (dp := 0) (ok0_of tabOk (by unfold ArrOk; kernel_rfl) mix ⟨ok_internal_stringslite_CutSuffix, trivial⟩ trivial) Tryz.func109 (by kernel_rfl) (by kernel_rfl) (by kernel_rfl)
    (by rw [show loopsOf (bodyOf Tryz.f109) = [] from by kernel_rfl]; exact trivial) (fun x => ef_strings_CutSuffix x.1 x.2.1)
noncomputable def pl_I_readTwo : Plan := ⟨[], [], 0, 0⟩
noncomputable def f_I_readTwo (t0 : PV .str) : Option (PVs [(.int .i64), (.int .i64), .bool, .bool] × PVs []) :=
  (f_strings_Cut t0 [44]).bind fun r2 =>
    (f_I_readNumber r2.1.1).bind fun r4 =>
      bif (!r2.1.2.2.1) then
        some ((r4.1.1, r4.1.1, false, r4.1.2.1, ()), ())
      else
        (f_I_readNumber r2.1.2.1).bind fun r6 =>
          bif r4.1.2.1 then
            some ((r4.1.1, r6.1.1, true, r6.1.2.1, ()), ())
          else
            some ((r4.1.1, r6.1.1, true, false, ()), ())
noncomputable def ct_I_readTwo : Ct := ⟨[(.bor, .str)], [((.int .i64), .b), ((.int .i64), .b), (.bool, .b), (.bool, .b)], fun x => f_I_readTwo x.1⟩
noncomputable def cx_I_readTwo : Cx := ⟨tab, arrs, [(108, ct_strings_Cut), (151, ct_I_readNumber)], [], gl, []⟩
theorem ef_I_readTwo (t0 : PV .str) : denF cx_I_readTwo 0 pl_I_readTwo Tryz.f136.ntmps (bodyOf Tryz.f136) Tryz.f136.results.toList [(.bor, .str)] [((.int .i64), .b), ((.int .i64), .b), (.bool, .b), (.bool, .b)] (t0, ()) = f_I_readTwo t0 := by kernel_rfl
theorem ok_I_readTwo : FnOk gl Tryz.prog 136 ct_I_readTwo :=
  fnOk (cx := cx_I_readTwo) (pl := pl_I_readTwo) (dp := 0) (ok0_of tabOk (by unfold ArrOk; kernel_rfl) mix ⟨ok_strings_Cut, ok_I_readNumber, trivial⟩ trivial) Tryz.func136 (by kernel_rfl) (by kernel_rfl) (by kernel_rfl)
    (by rw [show loopsOf (bodyOf Tryz.f136) = [] from by kernel_rfl]; exact trivial) (fun x => ef_I_readTwo x.1)
noncomputable def pl_I_isRange : Plan := ⟨[], [], 0, 0⟩
noncomputable def f_I_isRange (t0 : PV (.int .i64)) (t1 : PV (.int .i64)) : Option (PVs [.bool] × PVs []) :=
  (f_I_in t0 0 999).bind fun r1 =>
    bif r1.1.1 then
      (f_I_in t1 0 999).bind fun r2 =>
        some ((r2.1.1, ()), ())
    else
      some ((false, ()), ())
noncomputable def ct_I_isRange : Ct := ⟨[(.bor, (.int .i64)), (.bor, (.int .i64))], [(.bool, .b)], fun x => f_I_isRange x.1 x.2.1⟩
noncomputable def cx_I_isRange : Cx := ⟨tab, arrs, [(93, ct_I_in)], [], gl, []⟩
theorem ef_I_isRange (t0 : PV (.int .i64)) (t1 : PV (.int .i64)) : denF cx_I_isRange 0 pl_I_isRange Tryz.f137.ntmps (bodyOf Tryz.f137) Tryz.f137.results.toList [(.bor, (.int .i64)), (.bor, (.int .i64))] [(.bool, .b)] (t0, t1, ()) = f_I_isRange t0 t1 := by kernel_rfl
theorem ok_I_isRange : FnOk gl Tryz.prog 137 ct_I_isRange :=
  fnOk (cx := cx_I_isRange) (pl := pl_I_isRange) (dp := 0) (ok0_of tabOk (by unfold ArrOk; kernel_rfl) mix ⟨ok_I_in, trivial⟩ trivial) Tryz.func137 (by kernel_rfl) (by kernel_rfl) (by kernel_rfl)
    (by rw [show loopsOf (bodyOf Tryz.f137) = [] from by kernel_rfl]; exact trivial) (fun x => ef_I_isRange x.1 x.2.1)
noncomputable def o_I_ReadCount_4 : List Out := [⟨.normal, ⟨[], [5, 6, 8, 25, 26, 27, 28], []⟩, mkSh 32 [(5, .val (.int .i64) .b), (6, .val (.int .i64) .b), (8, .val .bool .b)]⟩]
noncomputable def o_I_ReadCount_6 : List Out := [⟨.normal, ⟨[], [5, 6, 8, 25, 26, 27, 28], []⟩, mkSh 32 [(5, .val (.int .i64) .b), (6, .val (.int .i64) .b), (8, .val .bool .b)]⟩]
noncomputable def o_I_ReadCount_7 : List Out := [⟨.normal, ⟨[], [5, 6, 29], []⟩, mkSh 32 [(5, .val (.int .i64) .b), (6, .val (.int .i64) .b), (29, .val .bool .b)]⟩]
noncomputable def pl_I_ReadCount : Plan := ⟨[(4, o_I_ReadCount_4), (6, o_I_ReadCount_6), (7, o_I_ReadCount_7)], [], 0, 0⟩
noncomputable def f_I_ReadCount (t0 : PV .str) : Option (PVs [(.int .i64), (.int .i64), .bool] × PVs []) :=
  (f_I_readTwo t0).bind fun r2 =>
    ((
        bif (!r2.1.2.2.1) then
          some (r2.1.1, 1, r2.1.2.2.2.1, ())
        else
          some (r2.1.1, r2.1.2.1, r2.1.2.2.2.1, ()) : Option ((PV (.int .i64) × PV (.int .i64) × PV .bool × Unit)))).bind fun j3 =>
      ((
          bif (decide (j3.2.1 > 0)) then
            some ((IntKind.wrap .i64 (j3.1 - 1)), j3.2.1, j3.2.2.1, ())
          else
            some (j3.1, j3.2.1, j3.2.2.1, ()) : Option ((PV (.int .i64) × PV (.int .i64) × PV .bool × Unit)))).bind fun j4 =>
        ((
            bif (!j4.2.2.1) then
              some (j4.1, j4.2.1, true, ())
            else
              (f_I_isRange j4.1 j4.2.1).bind fun r8 =>
                some (j4.1, j4.2.1, (!r8.1.1), ()) : Option ((PV (.int .i64) × PV (.int .i64) × PV .bool × Unit)))).bind fun j9 =>
          bif j9.2.2.1 then
            some ((0, 0, false, ()), ())
          else
            some ((j9.1, j9.2.1, true, ()), ())
noncomputable def ct_I_ReadCount : Ct := ⟨[(.bor, .str)], [((.int .i64), .b), ((.int .i64), .b), (.bool, .b)], fun x => f_I_ReadCount x.1⟩
noncomputable def cx_I_ReadCount : Cx := ⟨tab, arrs, [(136, ct_I_readTwo), (137, ct_I_isRange)], [], gl, []⟩
theorem ef_I_ReadCount (t0 : PV .str) : denF cx_I_ReadCount 0 pl_I_ReadCount Tryz.f110.ntmps (bodyOf Tryz.f110) Tryz.f110.results.toList [(.bor, .str)] [((.int .i64), .b), ((.int .i64), .b), (.bool, .b)] (t0, ()) = f_I_ReadCount t0 := by kernel_rfl
theorem ok_I_ReadCount : FnOk gl Tryz.prog 110 ct_I_ReadCount :=
  fnOk (cx := cx_I_ReadCount) (pl := pl_I_ReadCount) (dp := 0) (ok0_of tabOk (by unfold ArrOk; kernel_rfl) mix ⟨ok_I_readTwo, ok_I_isRange, trivial⟩ trivial) Tryz.func110 (by kernel_rfl) (by kernel_rfl) (by kernel_rfl)
    (by rw [show loopsOf (bodyOf Tryz.f110) = [] from by kernel_rfl]; exact trivial) (fun x => ef_I_ReadCount x.1)
noncomputable def pl_strings_IndexByte : Plan := ⟨[], [], 0, 0⟩
noncomputable def f_strings_IndexByte (t0 : PV .str) (t1 : PV (.int .u8)) : Option (PVs [(.int .i64)] × PVs []) :=
  (f_internal_stringslite_IndexByte t0 t1).bind fun r1 =>
    some ((r1.1.1, ()), ())
noncomputable def ct_strings_IndexByte : Ct := ⟨[(.bor, .str), (.bor, (.int .u8))], [((.int .i64), .b)], fun x => f_strings_IndexByte x.1 x.2.1⟩
noncomputable def cx_strings_IndexByte : Cx := ⟨tab, arrs, [(138, ct_internal_stringslite_IndexByte)], [], gl, []⟩
theorem ef_strings_IndexByte (t0 : PV .str) (t1 : PV (.int .u8)) : denF cx_strings_IndexByte 0 pl_strings_IndexByte Tryz.f111.ntmps (bodyOf Tryz.f111) Tryz.f111.results.toList [(.bor, .str), (.bor, (.int .u8))] [((.int .i64), .b)] (t0, t1, ()) = f_strings_IndexByte t0 t1 := by kernel_rfl
theorem ok_strings_IndexByte : FnOk gl Tryz.prog 111 ct_strings_IndexByte :=
  fnOk (cx := cx_strings_IndexByte) (pl := pl_strings_IndexByte) (dp := 0) (ok0_of tabOk (by unfold ArrOk; kernel_rfl) mix ⟨ok_internal_stringslite_IndexByte, trivial⟩ trivial) Tryz.func111 (by kernel_rfl) (by kernel_rfl) (by kernel_rfl)
    (by rw [show loopsOf (bodyOf Tryz.f111) = [] from by kernel_rfl]; exact trivial) (fun x => ef_strings_IndexByte x.1 x.2.1)
noncomputable def pl_internal_stringslite_TrimSuffix : Plan := ⟨[], [], 0, 0⟩
noncomputable def f_internal_stringslite_TrimSuffix (t0 : PV .str) (t1 : PV .str) : Option (PVs [.str] × PVs []) :=
  (f_internal_stringslite_HasSuffix t0 t1).bind fun r4 =>
    bif r4.1.1 then
      bif cutB 0 (IntKind.wrap .i64 ((t0.length : Int) - (t1.length : Int))) t0.length then
        some (((cutL 0 (IntKind.wrap .i64 ((t0.length : Int) - (t1.length : Int))) t0), ()), ())
      else
        none
    else
      some ((t0, ()), ())
noncomputable def ct_internal_stringslite_TrimSuffix : Ct := ⟨[(.bor, .str), (.bor, .str)], [(.str, .b)], fun x => f_internal_stringslite_TrimSuffix x.1 x.2.1⟩
noncomputable def cx_internal_stringslite_TrimSuffix : Cx := ⟨tab, arrs, [(147, ct_internal_stringslite_HasSuffix)], [], gl, []⟩
theorem ef_internal_stringslite_TrimSuffix (t0 : PV .str) (t1 : PV .str) : denF cx_internal_stringslite_TrimSuffix 0 pl_internal_stringslite_TrimSuffix Tryz.f153.ntmps (bodyOf Tryz.f153) Tryz.f153.results.toList [(.bor, .str), (.bor, .str)] [(.str, .b)] (t0, t1, ()) = f_internal_stringslite_TrimSuffix t0 t1 := by kernel_rfl
theorem ok_internal_stringslite_TrimSuffix : FnOk gl Tryz.prog 153 ct_internal_stringslite_TrimSuffix :=
  fnOk (cx := cx_internal_stringslite_TrimSuffix) (pl := pl_internal_stringslite_TrimSuffix) (dp := 0) (ok0_of tabOk (by unfold ArrOk; kernel_rfl) mix ⟨ok_internal_stringslite_HasSuffix, trivial⟩ trivial) Tryz.func153 (by kernel_rfl) (by kernel_rfl) (by kernel_rfl)
    (by rw [show loopsOf (bodyOf Tryz.f153) = [] from by kernel_rfl]; exact trivial) (fun x => ef_internal_stringslite_TrimSuffix x.1 x.2.1)
noncomputable def pl_strings_TrimSuffix : Plan := ⟨[], [], 0, 0⟩
noncomputable def f_strings_TrimSuffix (t0 : PV .str) (t1 : PV .str) : Option (PVs [.str] × PVs []) :=
  (f_internal_stringslite_TrimSuffix t0 t1).bind fun r1 =>
    some ((r1.1.1, ()), ())
noncomputable def ct_strings_TrimSuffix : Ct := ⟨[(.bor, .str), (.bor, .str)], [(.str, .b)], fun x => f_strings_TrimSuffix x.1 x.2.1⟩
noncomputable def cx_strings_TrimSuffix : Cx := ⟨tab, arrs, [(153, ct_internal_stringslite_TrimSuffix)], [], gl, []⟩
theorem ef_strings_TrimSuffix (t0 : PV .str) (t1 : PV .str) : denF cx_strings_TrimSuffix 0 pl_strings_TrimSuffix Tryz.f139.ntmps (bodyOf Tryz.f139) Tryz.f139.results.toList [(.bor, .str), (.bor, .str)] [(.str, .b)] (t0, t1, ()) = f_strings_TrimSuffix t0 t1 := by kernel_rfl
theorem ok_strings_TrimSuffix : FnOk gl Tryz.prog 139 ct_strings_TrimSuffix :=
  fnOk (cx := cx_strings_TrimSuffix) (pl := pl_strings_TrimSuffix) (dp := 0) (ok0_of tabOk (by unfold ArrOk; kernel_rfl) mix ⟨ok_internal_stringslite_TrimSuffix, trivial⟩ trivial) Tryz.func139 (by kernel_rfl) (by kernel_rfl) (by kernel_rfl)
    (by rw [show loopsOf (bodyOf Tryz.f139) = [] from by kernel_rfl]; exact trivial) (fun x => ef_strings_TrimSuffix x.1 x.2.1)
noncomputable def pl_I_plain : Plan := ⟨[], [], 0, 0⟩
noncomputable def f_I_plain (t0 : PV .str) : Option (PVs [.str] × PVs []) :=
  (f_strings_TrimSuffix t0 [10]).bind fun r1 =>
    some ((r1.1.1, ()), ())
noncomputable def ct_I_plain : Ct := ⟨[(.bor, .str)], [(.str, .b)], fun x => f_I_plain x.1⟩
noncomputable def cx_I_plain : Cx := ⟨tab, arrs, [(139, ct_strings_TrimSuffix)], [], gl, []⟩
theorem ef_I_plain (t0 : PV .str) : denF cx_I_plain 0 pl_I_plain Tryz.f112.ntmps (bodyOf Tryz.f112) Tryz.f112.results.toList [(.bor, .str)] [(.str, .b)] (t0, ()) = f_I_plain t0 := by kernel_rfl
theorem ok_I_plain : FnOk gl Tryz.prog 112 ct_I_plain :=
  fnOk (cx := cx_I_plain) (pl := pl_I_plain) (dp := 0) (ok0_of tabOk (by unfold ArrOk; kernel_rfl) mix ⟨ok_strings_TrimSuffix, trivial⟩ trivial) Tryz.func112 (by kernel_rfl) (by kernel_rfl) (by kernel_rfl)
    (by rw [show loopsOf (bodyOf Tryz.f112) = [] from by kernel_rfl]; exact trivial) (fun x => ef_I_plain x.1)
noncomputable def o_I_takeGroup_8 : List Out := [⟨.normal, ⟨[], [0, 2, 8, 11, 13, 14, 15, 69, 76, 77, 103, 104, 105, 106, 142, 143], []⟩, mkSh 145 [(0, .val S_string .b), (2, .var Y_impl_Group (.pr .b (.pr .b (.pr (.row (.pr .b (.pr .b .b))) .b)))), (8, .val .str .b), (11, .val .str .b), (13, .var Y_impl_Group (.pr .b (.pr .b (.pr (.row (.pr .b (.pr .b .b))) .b)))), (14, .val (.int .i64) .b), (15, .val (.int .i64) .b), (69, .val .bool .b)]⟩]
noncomputable def o_I_takeGroup_11 : List Out := [⟨.exit 0, ⟨[], [0, 2, 8, 11, 13, 14, 15, 142, 143], []⟩, mkSh 145 [(0, .val S_string .b), (2, .var Y_impl_Group (.pr .b (.pr .b (.pr (.row (.pr .b (.pr .b .b))) .b)))), (8, .val .str .b), (11, .val .str .b), (13, .var Y_impl_Group (.pr .b (.pr .b (.pr (.row (.pr .b (.pr .b .b))) .b)))), (14, .val (.int .i64) .b), (15, .val (.int .i64) .b)]⟩, ⟨.normal, ⟨[], [0, 2, 8, 11, 13, 14, 15, 103, 104, 105, 106, 142, 143], []⟩, mkSh 145 [(0, .val S_string .b), (2, .var Y_impl_Group (.pr .b (.pr .b (.pr (.row (.pr .b (.pr .b .b))) .b)))), (8, .val .str .b), (11, .val .str .b), (13, .var Y_impl_Group (.pr .b (.pr .b (.pr (.row (.pr .b (.pr .b .b))) .b)))), (14, .val (.int .i64) .b), (15, .val (.int .i64) .b)]⟩]
noncomputable def o_I_takeGroup_18 : List Out := [⟨.normal, ⟨[], [0, 2, 8, 11, 13, 14, 15, 18, 76, 77, 107, 142, 143], []⟩, mkSh 145 [(0, .val S_string .b), (2, .var Y_impl_Group (.pr .b (.pr .b (.pr (.row (.pr .b (.pr .b .b))) .b)))), (8, .val .str .b), (11, .val .str .b), (13, .var Y_impl_Group (.pr .b (.pr .b (.pr (.row (.pr .b (.pr .b .b))) .b)))), (14, .val (.int .i64) .b), (15, .val (.int .i64) .b), (18, .var Y_impl_Row .b), (107, .val .bool .b)]⟩]
noncomputable def o_I_takeGroup_19 : List Out := [⟨.normal, ⟨[(18, .b)], [0, 2, 8, 11, 13, 14, 15, 18, 76, 77, 103, 104, 105, 106, 142, 143], []⟩, mkSh 145 [(0, .val S_string .b), (2, .var Y_impl_Group (.pr .b (.pr .b (.pr (.row (.pr .b (.pr .b .b))) .b)))), (8, .val .str .b), (11, .val .str .b), (13, .var Y_impl_Group (.pr .b (.pr .b (.pr (.row (.pr .b (.pr .b .b))) .b)))), (14, .val (.int .i64) .b), (15, .val (.int .i64) .b), (18, .var Y_impl_Row .b)]⟩]
noncomputable def o_I_takeGroup_21 : List Out := [⟨.normal, ⟨[], [0, 2, 8, 11, 13, 14, 15, 18, 76, 77, 103, 104, 105, 106, 142, 143], []⟩, mkSh 145 [(0, .val S_string .b), (2, .var Y_impl_Group (.pr .b (.pr .b (.pr (.row (.pr .b (.pr .b .b))) .b)))), (8, .val .str .b), (11, .val .str .b), (13, .var Y_impl_Group (.pr .b (.pr .b (.pr (.row (.pr .b (.pr .b .b))) .b)))), (14, .val (.int .i64) .b), (15, .val (.int .i64) .b), (18, .var Y_impl_Row .b)]⟩]
noncomputable def o_I_takeGroup_23 : List Out := [⟨.normal, ⟨[], [0, 2, 8, 11, 13, 14, 15, 18, 76, 77, 103, 104, 105, 106, 142, 143], []⟩, mkSh 145 [(0, .val S_string .b), (2, .var Y_impl_Group (.pr .b (.pr .b (.pr (.row (.pr .b (.pr .b .b))) .b)))), (8, .val .str .b), (11, .val .str .b), (13, .var Y_impl_Group (.pr .b (.pr .b (.pr (.row (.pr .b (.pr .b .b))) .b)))), (14, .val (.int .i64) .b), (15, .val (.int .i64) .b), (18, .var Y_impl_Row .b)]⟩]
noncomputable def sh_I_takeGroup_10 : List Sh := mkSh 145 [(0, .val S_string .b), (2, .var Y_impl_Group (.pr .b (.pr .b (.pr (.row (.pr .b (.pr .b .b))) .b)))), (8, .val .str .b), (11, .val .str .b), (13, .var Y_impl_Group (.pr .b (.pr .b (.pr (.row (.pr .b (.pr .b .b))) .b)))), (14, .val (.int .i64) .b), (15, .val (.int .i64) .b)]
noncomputable def o_I_takeGroup_10 : List Out := [⟨.exit 0, ⟨[], [0, 2, 8, 11, 13, 14, 15, 142, 143], []⟩, mkSh 145 [(0, .val S_string .b), (2, .var Y_impl_Group (.pr .b (.pr .b (.pr (.row (.pr .b (.pr .b .b))) .b)))), (8, .val .str .b), (11, .val .str .b), (13, .var Y_impl_Group (.pr .b (.pr .b (.pr (.row (.pr .b (.pr .b .b))) .b)))), (14, .val (.int .i64) .b), (15, .val (.int .i64) .b)]⟩, ⟨.ret, ⟨[], [2, 3, 4, 5], []⟩, mkSh 145 [(2, .var Y_impl_Group (.pr .b (.pr .b (.pr (.row (.pr .b (.pr .b .b))) .b)))), (3, .val .str .b), (4, .val S_string (.row .b)), (5, .val .bool .b)]⟩]
noncomputable def b_I_takeGroup_10 (t0 : PV S_string) (t2 : PV Y_impl_Group) (t8 : PV .str) (t11 : PV .str) (t13 : PV Y_impl_Group) (t14 : PV (.int .i64)) (t15 : PV (.int .i64)) : Option ((PV S_string × PV Y_impl_Group × PV .str × PV .str × PV Y_impl_Group × PV (.int .i64) × PV (.int .i64) × Unit) ⊕ ((PV S_string × PV Y_impl_Group × PV .str × PV .str × PV Y_impl_Group × PV (.int .i64) × PV (.int .i64) × Unit) ⊕ (PV Y_impl_Group × PV .str × PV S_string × PV .bool × Unit))) :=
  ((
      bif (decide (t14 > 0)) then
        some (.inr (t0, t2, t8, t11, t13, t14, t15, ()))
      else
        bif (decide (t15 > 0)) then
          some (.inr (t0, t2, t8, t11, t13, t14, t15, ()))
        else
          some (.inl (t0, t2, t8, t11, t13, t14, t15, ())) : Option ((PV S_string × PV Y_impl_Group × PV .str × PV .str × PV Y_impl_Group × PV (.int .i64) × PV (.int .i64) × Unit) ⊕ (PV S_string × PV Y_impl_Group × PV .str × PV .str × PV Y_impl_Group × PV (.int .i64) × PV (.int .i64) × Unit)))).bind fun x28 =>
    match x28 with
    | .inl j13 =>
      some (.inr (.inl (j13.1, j13.2.1, j13.2.2.1, j13.2.2.2.1, j13.2.2.2.2.1, j13.2.2.2.2.2.1, j13.2.2.2.2.2.2.1, ())))
    | .inr j14 =>
      bif ((j14.1.length : Int) == 0) then
        some (.inr (.inr ((0, (0, (([] : PV S_impl_Row), ()))), [], [], false, ())))
      else
        bif inB 0 j14.1.length then
          bif inB 0 (j14.1.getD ((0 : Int).toNat) []).length then
            (f_strings_IndexByte [63, 32, 45, 43] (((j14.1.getD ((0 : Int).toNat) []).getD (0 : Int).toNat 0).toNat : Int)).bind fun r16 =>
              bif inB 0 j14.1.length then
                bif cutB 1 ((j14.1.getD ((0 : Int).toNat) []).length : Int) (j14.1.getD ((0 : Int).toNat) []).length then
                  bif cutB 1 (j14.1.length : Int) j14.1.length then
                    bif (decide (r16.1.1 < 1)) then
                      some (.inr (.inr ((0, (0, (([] : PV S_impl_Row), ()))), [], [], false, ())))
                    else
                      ((
                          ((
                              bif (decide (((cutL 1 (j14.1.length : Int) j14.1).length : Int) > 0)) then
                                bif inB 0 (cutL 1 (j14.1.length : Int) j14.1).length then
                                  some ((cutL 1 (j14.1.length : Int) j14.1), j14.2.1, j14.2.2.1, j14.2.2.2.1, j14.2.2.2.2.1, j14.2.2.2.2.2.1, j14.2.2.2.2.2.2.1, (r16.1.1, ((cutL 1 ((j14.1.getD ((0 : Int).toNat) []).length : Int) (j14.1.getD ((0 : Int).toNat) [])), ())), (((cutL 1 (j14.1.length : Int) j14.1).getD ((0 : Int).toNat) []) == [92, 32, 110, 111, 110, 101, 10]), ())
                                else
                                  none
                              else
                                some ((cutL 1 (j14.1.length : Int) j14.1), j14.2.1, j14.2.2.1, j14.2.2.2.1, j14.2.2.2.2.1, j14.2.2.2.2.2.1, j14.2.2.2.2.2.2.1, (r16.1.1, ((cutL 1 ((j14.1.getD ((0 : Int).toNat) []).length : Int) (j14.1.getD ((0 : Int).toNat) [])), ())), false, ()) : Option ((PV S_string × PV Y_impl_Group × PV .str × PV .str × PV Y_impl_Group × PV (.int .i64) × PV (.int .i64) × PV Y_impl_Row × PV .bool × Unit)))).bind fun j17 =>
                            bif j17.2.2.2.2.2.2.2.2.1 then
                              (f_I_plain j17.2.2.2.2.2.2.2.1.2.1).bind fun r18 =>
                                bif cutB 1 (j17.1.length : Int) j17.1.length then
                                  some ((cutL 1 (j17.1.length : Int) j17.1), j17.2.1, j17.2.2.1, j17.2.2.2.1, j17.2.2.2.2.1, j17.2.2.2.2.2.1, j17.2.2.2.2.2.2.1, (j17.2.2.2.2.2.2.2.1.1, (r18.1.1, j17.2.2.2.2.2.2.2.1.2.2)), ())
                                else
                                  none
                            else
                              some (j17.1, j17.2.1, j17.2.2.1, j17.2.2.2.1, j17.2.2.2.2.1, j17.2.2.2.2.2.1, j17.2.2.2.2.2.2.1, j17.2.2.2.2.2.2.2.1, ()) : Option ((PV S_string × PV Y_impl_Group × PV .str × PV .str × PV Y_impl_Group × PV (.int .i64) × PV (.int .i64) × PV Y_impl_Row × Unit)))).bind fun j19 =>
                        ((
                            bif (!(j19.2.2.2.2.2.2.2.1.1 == 3)) then
                              some (j19.1, j19.2.1, j19.2.2.1, j19.2.2.2.1, j19.2.2.2.2.1, (IntKind.wrap .i64 (j19.2.2.2.2.2.1 - 1)), j19.2.2.2.2.2.2.1, j19.2.2.2.2.2.2.2.1, ())
                            else
                              some (j19.1, j19.2.1, j19.2.2.1, j19.2.2.2.1, j19.2.2.2.2.1, j19.2.2.2.2.2.1, j19.2.2.2.2.2.2.1, j19.2.2.2.2.2.2.2.1, ()) : Option ((PV S_string × PV Y_impl_Group × PV .str × PV .str × PV Y_impl_Group × PV (.int .i64) × PV (.int .i64) × PV Y_impl_Row × Unit)))).bind fun j20 =>
                          ((
                              bif (!(j20.2.2.2.2.2.2.2.1.1 == 2)) then
                                some (j20.1, j20.2.1, j20.2.2.1, j20.2.2.2.1, j20.2.2.2.2.1, j20.2.2.2.2.2.1, (IntKind.wrap .i64 (j20.2.2.2.2.2.2.1 - 1)), j20.2.2.2.2.2.2.2.1, ())
                              else
                                some (j20.1, j20.2.1, j20.2.2.1, j20.2.2.2.1, j20.2.2.2.2.1, j20.2.2.2.2.2.1, j20.2.2.2.2.2.2.1, j20.2.2.2.2.2.2.2.1, ()) : Option ((PV S_string × PV Y_impl_Group × PV .str × PV .str × PV Y_impl_Group × PV (.int .i64) × PV (.int .i64) × PV Y_impl_Row × Unit)))).bind fun j21 =>
                            bif roomB (j21.2.2.2.2.1.2.2.1.length + [j21.2.2.2.2.2.2.2.1].length) then
                              some (.inl (j21.1, j21.2.1, j21.2.2.1, j21.2.2.2.1, (j21.2.2.2.2.1.1, (j21.2.2.2.2.1.2.1, ((j21.2.2.2.2.1.2.2.1 ++ [j21.2.2.2.2.2.2.2.1]), j21.2.2.2.2.1.2.2.2))), j21.2.2.2.2.2.1, j21.2.2.2.2.2.2.1, ()))
                            else
                              none
                  else
                    none
                else
                  none
              else
                none
          else
            none
        else
          none
noncomputable def w_I_takeGroup_10 : PV S_string × PV Y_impl_Group × PV .str × PV .str × PV Y_impl_Group × PV (.int .i64) × PV (.int .i64) × Unit → Option ((PV S_string × PV Y_impl_Group × PV .str × PV .str × PV Y_impl_Group × PV (.int .i64) × PV (.int .i64) × Unit) ⊕ (PV Y_impl_Group × PV .str × PV S_string × PV .bool × Unit)) := fix fun d => b_I_takeGroup_10 d.1 d.2.1 d.2.2.1 d.2.2.2.1 d.2.2.2.2.1 d.2.2.2.2.2.1 d.2.2.2.2.2.2.1
noncomputable def lp_I_takeGroup_10 : Lp := ⟨⟨[], [0, 2, 8, 11, 13, 14, 15, 76, 77, 103, 104, 105, 106, 142, 143], []⟩, sh_I_takeGroup_10, o_I_takeGroup_10, fun d => b_I_takeGroup_10 d.1 d.2.1 d.2.2.1 d.2.2.2.1 d.2.2.2.2.1 d.2.2.2.2.2.1 d.2.2.2.2.2.2.1⟩
noncomputable def pl_I_takeGroup : Plan := ⟨[(8, o_I_takeGroup_8), (11, o_I_takeGroup_11), (18, o_I_takeGroup_18), (19, o_I_takeGroup_19), (21, o_I_takeGroup_21), (23, o_I_takeGroup_23)], [(10, lp_I_takeGroup_10)], 0, 0⟩
noncomputable def f_I_takeGroup (t0 : PV S_string) : Option (PVs [Y_impl_Group, .str, S_string, .bool] × PVs []) :=
  bif inB 0 t0.length then
    (f_strings_CutPrefix (t0.getD ((0 : Int).toNat) []) [64, 64, 32, 45]).bind fun r2 =>
      (f_strings_Cut r2.1.1 [32, 43]).bind fun r4 =>
        (f_strings_CutSuffix r4.1.2.1 [32, 64, 64, 10]).bind fun r6 =>
          (f_I_ReadCount r4.1.1).bind fun r8 =>
            (f_I_ReadCount r6.1.1).bind fun r10 =>
              ((
                  bif (!r2.1.2.1) then
                    some (t0, (0, (0, (([] : PV S_impl_Row), ()))), r4.1.1, r6.1.1, (r8.1.1, (r10.1.1, (([] : PV S_impl_Row), ()))), r8.1.2.1, r10.1.2.1, true, ())
                  else
                    bif (!r4.1.2.2.1) then
                      some (t0, (0, (0, (([] : PV S_impl_Row), ()))), r4.1.1, r6.1.1, (r8.1.1, (r10.1.1, (([] : PV S_impl_Row), ()))), r8.1.2.1, r10.1.2.1, true, ())
                    else
                      bif (!r6.1.2.1) then
                        some (t0, (0, (0, (([] : PV S_impl_Row), ()))), r4.1.1, r6.1.1, (r8.1.1, (r10.1.1, (([] : PV S_impl_Row), ()))), r8.1.2.1, r10.1.2.1, true, ())
                      else
                        bif (!r8.1.2.2.1) then
                          some (t0, (0, (0, (([] : PV S_impl_Row), ()))), r4.1.1, r6.1.1, (r8.1.1, (r10.1.1, (([] : PV S_impl_Row), ()))), r8.1.2.1, r10.1.2.1, true, ())
                        else
                          some (t0, (0, (0, (([] : PV S_impl_Row), ()))), r4.1.1, r6.1.1, (r8.1.1, (r10.1.1, (([] : PV S_impl_Row), ()))), r8.1.2.1, r10.1.2.1, (!r10.1.2.2.1), ()) : Option ((PV S_string × PV Y_impl_Group × PV .str × PV .str × PV Y_impl_Group × PV (.int .i64) × PV (.int .i64) × PV .bool × Unit)))).bind fun j12 =>
                bif j12.2.2.2.2.2.2.2.1 then
                  some (((0, (0, (([] : PV S_impl_Row), ()))), [], [], false, ()), ())
                else
                  bif cutB 1 (j12.1.length : Int) j12.1.length then
                    (w_I_takeGroup_10 ((cutL 1 (j12.1.length : Int) j12.1), j12.2.1, j12.2.2.1, j12.2.2.2.1, j12.2.2.2.2.1, j12.2.2.2.2.2.1, j12.2.2.2.2.2.2.1, ())).bind fun x29 =>
                      match x29 with
                      | .inl l24 =>
                        (f_I_headText l24.2.2.1 l24.2.2.2.1).bind fun r25 =>
                          (f_I_rowsText l24.2.2.2.2.1.2.2.1).bind fun r26 =>
                            bif decide (r25.1.1.length + r26.1.1.length ≤ 1099511627776) then
                              bif (l24.2.2.2.2.2.1 == 0) then
                                some ((l24.2.2.2.2.1, (r25.1.1 ++ r26.1.1), l24.1, (l24.2.2.2.2.2.2.1 == 0), ()), ())
                              else
                                some ((l24.2.2.2.2.1, (r25.1.1 ++ r26.1.1), l24.1, false, ()), ())
                            else
                              none
                      | .inr l27 =>
                        some ((l27.1, l27.2.1, l27.2.2.1, l27.2.2.2.1, ()), ())
                  else
                    none
  else
    none
noncomputable def ct_I_takeGroup : Ct := ⟨[(.bor, S_string)], [(Y_impl_Group, (.pr .b (.pr .b (.pr (.row (.pr .b (.pr .b .b))) .b)))), (.str, .b), (S_string, .b), (.bool, .b)], fun x => f_I_takeGroup x.1⟩
noncomputable def cx_I_takeGroup : Cx := ⟨tab, arrs, [(60, ct_I_headText), (62, ct_I_rowsText), (107, ct_strings_CutPrefix), (108, ct_strings_Cut), (109, ct_strings_CutSuffix), (110, ct_I_ReadCount), (111, ct_strings_IndexByte), (112, ct_I_plain)], [], gl, []⟩
theorem eb_I_takeGroup_10 (t0 : PV S_string) (t2 : PV Y_impl_Group) (t8 : PV .str) (t11 : PV .str) (t13 : PV Y_impl_Group) (t14 : PV (.int .i64)) (t15 : PV (.int .i64)) : denK cx_I_takeGroup (rcN cx_I_takeGroup 0) pl_I_takeGroup 0 ((loopsOf (bodyOf Tryz.f68)).getD 0 .skip) (fillS sh_I_takeGroup_10 (t0, t2, t8, t11, t13, t14, t15, ())) (roundK 0 lp_I_takeGroup_10) = b_I_takeGroup_10 t0 t2 t8 t11 t13 t14 t15 := by kernel_rfl
theorem ef_I_takeGroup (t0 : PV S_string) : denF cx_I_takeGroup 0 pl_I_takeGroup Tryz.f68.ntmps (bodyOf Tryz.f68) Tryz.f68.results.toList [(.bor, S_string)] [(Y_impl_Group, (.pr .b (.pr .b (.pr (.row (.pr .b (.pr .b .b))) .b)))), (.str, .b), (S_string, .b), (.bool, .b)] (t0, ()) = f_I_takeGroup t0 := by kernel_rfl
theorem ok_I_takeGroup : FnOk gl Tryz.prog 68 ct_I_takeGroup :=
  fnOk (cx := cx_I_takeGroup) (pl := pl_I_takeGroup) (dp := 0) (ok0_of tabOk (by unfold ArrOk; kernel_rfl) mix ⟨ok_I_headText, ok_I_rowsText, ok_strings_CutPrefix, ok_strings_Cut, ok_strings_CutSuffix, ok_I_ReadCount, ok_strings_IndexByte, ok_I_plain, trivial⟩ trivial) Tryz.func68 (by kernel_rfl) (by kernel_rfl) (by kernel_rfl)
    (by rw [show loopsOf (bodyOf Tryz.f68) = [((loopsOf (bodyOf Tryz.f68)).getD 0 .skip)] from by kernel_rfl]; exact ⟨(by rw [show lookup pl_I_takeGroup.loops (firstId ((loopsOf (bodyOf Tryz.f68)).getD 0 .skip)) = some lp_I_takeGroup_10 from by kernel_rfl]; exact fun d z h => (eb_I_takeGroup_10 d.1 d.2.1 d.2.2.1 d.2.2.2.1 d.2.2.2.2.1 d.2.2.2.2.2.1 d.2.2.2.2.2.2.1).trans h), trivial⟩) (fun x => ef_I_takeGroup x.1)
noncomputable def o_I_readUnified_5 : List Out := [⟨.normal, ⟨[], [5, 6, 7, 8, 9, 28], []⟩, mkSh 39 [(5, .val S_impl_Group (.row (.pr .b (.pr .b (.pr (.row (.pr .b (.pr .b .b))) .b))))), (6, .val .str .b), (7, .var Y_impl_Group (.pr .b (.pr .b (.pr (.row (.pr .b (.pr .b .b))) .b)))), (8, .val .str .b), (9, .val S_string .b), (28, .val .bool .b)]⟩]
noncomputable def sh_I_readUnified_2 : List Sh := mkSh 39 [(0, .val S_string .b), (5, .val S_impl_Group (.row (.pr .b (.pr .b (.pr (.row (.pr .b (.pr .b .b))) .b))))), (6, .val .str .b)]
noncomputable def o_I_readUnified_2 : List Out := [⟨.exit 0, ⟨[], [5, 6], []⟩, mkSh 39 [(5, .val S_impl_Group (.row (.pr .b (.pr .b (.pr (.row (.pr .b (.pr .b .b))) .b))))), (6, .val .str .b)]⟩, ⟨.ret, ⟨[], [2, 3, 4], []⟩, mkSh 39 [(2, .val S_impl_Group (.row (.pr .b (.pr .b (.pr (.row (.pr .b (.pr .b .b))) .b))))), (3, .val .str .b), (4, .val .bool .b)]⟩]
noncomputable def b_I_readUnified_2 (t0 : PV S_string) (t5 : PV S_impl_Group) (t6 : PV .str) : Option ((PV S_string × PV S_impl_Group × PV .str × Unit) ⊕ ((PV S_impl_Group × PV .str × Unit) ⊕ (PV S_impl_Group × PV .str × PV .bool × Unit))) :=
  bif (decide ((t0.length : Int) > 0)) then
    (f_I_takeGroup t0).bind fun r2 =>
      ((
          bif (!r2.1.2.2.2.1) then
            some (t5, t6, r2.1.1, r2.1.2.1, r2.1.2.2.1, true, ())
          else
            some (t5, t6, r2.1.1, r2.1.2.1, r2.1.2.2.1, ((t5.length : Int) == 20), ()) : Option ((PV S_impl_Group × PV .str × PV Y_impl_Group × PV .str × PV S_string × PV .bool × Unit)))).bind fun j4 =>
        bif j4.2.2.2.2.2.1 then
          some (.inr (.inr ([], [], false, ())))
        else
          bif roomB (j4.1.length + [j4.2.2.1].length) then
            bif decide (j4.2.1.length + j4.2.2.2.1.length ≤ 1099511627776) then
              some (.inl (j4.2.2.2.2.1, (j4.1 ++ [j4.2.2.1]), (j4.2.1 ++ j4.2.2.2.1), ()))
            else
              none
          else
            none
  else
    some (.inr (.inl (t5, t6, ())))
noncomputable def w_I_readUnified_2 : PV S_string × PV S_impl_Group × PV .str × Unit → Option ((PV S_impl_Group × PV .str × Unit) ⊕ (PV S_impl_Group × PV .str × PV .bool × Unit)) := fix fun d => b_I_readUnified_2 d.1 d.2.1 d.2.2.1
noncomputable def lp_I_readUnified_2 : Lp := ⟨⟨[], [0, 5, 6, 25, 26, 27], []⟩, sh_I_readUnified_2, o_I_readUnified_2, fun d => b_I_readUnified_2 d.1 d.2.1 d.2.2.1⟩
noncomputable def pl_I_readUnified : Plan := ⟨[(5, o_I_readUnified_5)], [(2, lp_I_readUnified_2)], 0, 0⟩
noncomputable def f_I_readUnified (t0 : PV S_string) : Option (PVs [S_impl_Group, .str, .bool] × PVs []) :=
  (w_I_readUnified_2 (t0, ([] : PV S_impl_Group), [], ())).bind fun x9 =>
    match x9 with
    | .inl l7 =>
      some ((l7.1, l7.2.1, true, ()), ())
    | .inr l8 =>
      some ((l8.1, l8.2.1, l8.2.2.1, ()), ())
noncomputable def ct_I_readUnified : Ct := ⟨[(.bor, S_string)], [(S_impl_Group, (.row (.pr .b (.pr .b (.pr (.row (.pr .b (.pr .b .b))) .b))))), (.str, .b), (.bool, .b)], fun x => f_I_readUnified x.1⟩
noncomputable def cx_I_readUnified : Cx := ⟨tab, arrs, [(68, ct_I_takeGroup)], [], gl, []⟩
theorem eb_I_readUnified_2 (t0 : PV S_string) (t5 : PV S_impl_Group) (t6 : PV .str) : denK cx_I_readUnified (rcN cx_I_readUnified 0) pl_I_readUnified 0 ((loopsOf (bodyOf Tryz.f31)).getD 0 .skip) (fillS sh_I_readUnified_2 (t0, t5, t6, ())) (roundK 0 lp_I_readUnified_2) = b_I_readUnified_2 t0 t5 t6 := by kernel_rfl
theorem ef_I_readUnified (t0 : PV S_string) : denF cx_I_readUnified 0 pl_I_readUnified Tryz.f31.ntmps (bodyOf Tryz.f31) Tryz.f31.results.toList [(.bor, S_string)] [(S_impl_Group, (.row (.pr .b (.pr .b (.pr (.row (.pr .b (.pr .b .b))) .b))))), (.str, .b), (.bool, .b)] (t0, ()) = f_I_readUnified t0 := by kernel_rfl
theorem ok_I_readUnified : FnOk gl Tryz.prog 31 ct_I_readUnified :=
  fnOk (cx := cx_I_readUnified) (pl := pl_I_readUnified) (dp := 0) (ok0_of tabOk (by unfold ArrOk; kernel_rfl) mix ⟨ok_I_takeGroup, trivial⟩ trivial) Tryz.func31 (by kernel_rfl) (by kernel_rfl) (by kernel_rfl)
    (by rw [show loopsOf (bodyOf Tryz.f31) = [((loopsOf (bodyOf Tryz.f31)).getD 0 .skip)] from by kernel_rfl]; exact ⟨(by rw [show lookup pl_I_readUnified.loops (firstId ((loopsOf (bodyOf Tryz.f31)).getD 0 .skip)) = some lp_I_readUnified_2 from by kernel_rfl]; exact fun d z h => (eb_I_readUnified_2 d.1 d.2.1 d.2.2.1).trans h), trivial⟩) (fun x => ef_I_readUnified x.1)
noncomputable def o_I_ReadUnified_4 : List Out := [⟨.normal, ⟨[], [5, 27], []⟩, mkSh 29 [(5, .val S_impl_Group (.row (.pr .b (.pr .b (.pr (.row (.pr .b (.pr .b .b))) .b))))), (27, .val .bool .b)]⟩]
noncomputable def o_I_ReadUnified_5 : List Out := [⟨.normal, ⟨[], [], []⟩, mkSh 29 []⟩, ⟨.ret, ⟨[], [2, 3, 4], []⟩, mkSh 29 [(2, .val S_impl_Group (.row (.pr .b (.pr .b (.pr (.row (.pr .b (.pr .b .b))) .b))))), (3, .val (.int .i64) .b), (4, .val .bool .b)]⟩]
noncomputable def pl_I_ReadUnified : Plan := ⟨[(4, o_I_ReadUnified_4), (5, o_I_ReadUnified_5)], [], 0, 0⟩
noncomputable def f_I_ReadUnified (t0 : PV .str) : Option (PVs [S_impl_Group, (.int .i64), .bool] × PVs []) :=
  ((
      bif (decide ((t0.length : Int) ≤ 3000)) then
        (f_I_linesOf t0).bind fun r10 =>
          (f_I_readUnified r10.1.1).bind fun r11 =>
            ((
                bif r11.1.2.2.1 then
                  bif (r11.1.2.1 == t0) then
                    (f_I_goodGroups r11.1.1).bind fun r12 =>
                      some (r11.1.1, r12.1.1, ())
                  else
                    some (r11.1.1, false, ())
                else
                  some (r11.1.1, false, ()) : Option ((PV S_impl_Group × PV .bool × Unit)))).bind fun j13 =>
              bif j13.2.1 then
                some (.inr (j13.1, 0, true, ()))
              else
                some (.inl ())
      else
        some (.inl ()) : Option ((Unit) ⊕ (PV S_impl_Group × PV (.int .i64) × PV .bool × Unit)))).bind fun x16 =>
    match x16 with
    | .inl j14 =>
      some (([], 1, false, ()), ())
    | .inr j15 =>
      some ((j15.1, j15.2.1, j15.2.2.1, ()), ())
noncomputable def ct_I_ReadUnified : Ct := ⟨[(.bor, .str)], [(S_impl_Group, (.row (.pr .b (.pr .b (.pr (.row (.pr .b (.pr .b .b))) .b))))), ((.int .i64), .b), (.bool, .b)], fun x => f_I_ReadUnified x.1⟩
noncomputable def cx_I_ReadUnified : Cx := ⟨tab, arrs, [(26, ct_I_goodGroups), (31, ct_I_readUnified), (32, ct_I_linesOf)], [], gl, []⟩
theorem ef_I_ReadUnified (t0 : PV .str) : denF cx_I_ReadUnified 0 pl_I_ReadUnified Tryz.f11.ntmps (bodyOf Tryz.f11) Tryz.f11.results.toList [(.bor, .str)] [(S_impl_Group, (.row (.pr .b (.pr .b (.pr (.row (.pr .b (.pr .b .b))) .b))))), ((.int .i64), .b), (.bool, .b)] (t0, ()) = f_I_ReadUnified t0 := by kernel_rfl
theorem ok_I_ReadUnified : FnOk gl Tryz.prog 11 ct_I_ReadUnified :=
  fnOk (cx := cx_I_ReadUnified) (pl := pl_I_ReadUnified) (dp := 0) (ok0_of tabOk (by unfold ArrOk; kernel_rfl) mix ⟨ok_I_goodGroups, ok_I_readUnified, ok_I_linesOf, trivial⟩ trivial) Tryz.func11 (by kernel_rfl) (by kernel_rfl) (by kernel_rfl)
    (by rw [show loopsOf (bodyOf Tryz.f11) = [] from by kernel_rfl]; exact trivial) (fun x => ef_I_ReadUnified x.1)
noncomputable def o_L_sameGroup_2 : List Out := [⟨.normal, ⟨[], [2, 3, 26], []⟩, mkSh 45 [(2, .var Y_impl_Group .b), (3, .var Y_impl_Group .b), (26, .val .bool .b)]⟩]
noncomputable def sh_L_sameGroup_4 : List Sh := mkSh 45 [(2, .var Y_impl_Group .b), (3, .var Y_impl_Group .b), (29, .val (.int .i64) .b), (30, .val (.int .i64) .b)]
noncomputable def o_L_sameGroup_4 : List Out := [⟨.exit 0, ⟨[], [], []⟩, mkSh 45 []⟩, ⟨.ret, ⟨[], [4], []⟩, mkSh 45 [(4, .val .bool .b)]⟩]
noncomputable def b_L_sameGroup_4 (t2 : PV Y_impl_Group) (t3 : PV Y_impl_Group) (t29 : PV (.int .i64)) (t30 : PV (.int .i64)) : Option ((PV Y_impl_Group × PV Y_impl_Group × PV (.int .i64) × PV (.int .i64) × Unit) ⊕ ((Unit) ⊕ (PV .bool × Unit))) :=
  bif (decide (t30 < t29)) then
    bif inB t30 t2.2.2.1.length then
      bif inB t30 t3.2.2.1.length then
        bif (!((t2.2.2.1.getD t30.toNat (dflt Y_impl_Row)).1 == (t3.2.2.1.getD t30.toNat (dflt Y_impl_Row)).1 && (t2.2.2.1.getD t30.toNat (dflt Y_impl_Row)).2.1 == (t3.2.2.1.getD t30.toNat (dflt Y_impl_Row)).2.1)) then
          some (.inr (.inr (false, ())))
        else
          some (.inl (t2, t3, t29, (IntKind.wrap .i64 (t30 + 1)), ()))
      else
        none
    else
      none
  else
    some (.inr (.inl ()))
noncomputable def w_L_sameGroup_4 : PV Y_impl_Group × PV Y_impl_Group × PV (.int .i64) × PV (.int .i64) × Unit → Option ((Unit) ⊕ (PV .bool × Unit)) := fix fun d => b_L_sameGroup_4 d.1 d.2.1 d.2.2.1 d.2.2.2.1
noncomputable def lp_L_sameGroup_4 : Lp := ⟨⟨[], [2, 3, 29, 30], []⟩, sh_L_sameGroup_4, o_L_sameGroup_4, fun d => b_L_sameGroup_4 d.1 d.2.1 d.2.2.1 d.2.2.2.1⟩
noncomputable def pl_L_sameGroup : Plan := ⟨[(2, o_L_sameGroup_2)], [(4, lp_L_sameGroup_4)], 0, 0⟩
noncomputable def f_L_sameGroup (t0 : PV Y_impl_Group) (t1 : PV Y_impl_Group) : Option (PVs [.bool] × PVs []) :=
  ((
      bif (!(t0.1 == t1.1)) then
        some (t0, t1, true, ())
      else
        bif (!(t0.2.1 == t1.2.1)) then
          some (t0, t1, true, ())
        else
          some (t0, t1, (!((t0.2.2.1.length : Int) == (t1.2.2.1.length : Int))), ()) : Option ((PV Y_impl_Group × PV Y_impl_Group × PV .bool × Unit)))).bind fun j2 =>
    bif j2.2.2.1 then
      some ((false, ()), ())
    else
      (w_L_sameGroup_4 (j2.1, j2.2.1, (j2.1.2.2.1.length : Int), 0, ())).bind fun x7 =>
        match x7 with
        | .inl l5 =>
          some ((true, ()), ())
        | .inr l6 =>
          some ((l6.1, ()), ())
noncomputable def ct_L_sameGroup : Ct := ⟨[(.bor, Y_impl_Group), (.bor, Y_impl_Group)], [(.bool, .b)], fun x => f_L_sameGroup x.1 x.2.1⟩
noncomputable def cx_L_sameGroup : Cx := ⟨tab, arrs, [], [], gl, []⟩
theorem eb_L_sameGroup_4 (t2 : PV Y_impl_Group) (t3 : PV Y_impl_Group) (t29 : PV (.int .i64)) (t30 : PV (.int .i64)) : denK cx_L_sameGroup (rcN cx_L_sameGroup 0) pl_L_sameGroup 0 ((loopsOf (bodyOf Tryz.f33)).getD 0 .skip) (fillS sh_L_sameGroup_4 (t2, t3, t29, t30, ())) (roundK 0 lp_L_sameGroup_4) = b_L_sameGroup_4 t2 t3 t29 t30 := by kernel_rfl
theorem ef_L_sameGroup (t0 : PV Y_impl_Group) (t1 : PV Y_impl_Group) : denF cx_L_sameGroup 0 pl_L_sameGroup Tryz.f33.ntmps (bodyOf Tryz.f33) Tryz.f33.results.toList [(.bor, Y_impl_Group), (.bor, Y_impl_Group)] [(.bool, .b)] (t0, t1, ()) = f_L_sameGroup t0 t1 := by kernel_rfl
theorem ok_L_sameGroup : FnOk gl Tryz.prog 33 ct_L_sameGroup :=
  fnOk (cx := cx_L_sameGroup) (pl := pl_L_sameGroup) (dp := 0) (ok0_of tabOk (by unfold ArrOk; kernel_rfl) mix trivial trivial) Tryz.func33 (by kernel_rfl) (by kernel_rfl) (by kernel_rfl)
    (by rw [show loopsOf (bodyOf Tryz.f33) = [((loopsOf (bodyOf Tryz.f33)).getD 0 .skip)] from by kernel_rfl]; exact ⟨(by rw [show lookup pl_L_sameGroup.loops (firstId ((loopsOf (bodyOf Tryz.f33)).getD 0 .skip)) = some lp_L_sameGroup_4 from by kernel_rfl]; exact fun d z h => (eb_L_sameGroup_4 d.1 d.2.1 d.2.2.1 d.2.2.2.1).trans h), trivial⟩) (fun x => ef_L_sameGroup x.1 x.2.1)
noncomputable def sh_L_sameGroups_4 : List Sh := mkSh 27 [(0, .val S_impl_Group .b), (1, .val S_impl_Group .b), (12, .val (.int .i64) .b), (13, .val (.int .i64) .b)]
noncomputable def o_L_sameGroups_4 : List Out := [⟨.exit 0, ⟨[], [], []⟩, mkSh 27 []⟩, ⟨.ret, ⟨[], [4], []⟩, mkSh 27 [(4, .val .bool .b)]⟩]
noncomputable def b_L_sameGroups_4 (t0 : PV S_impl_Group) (t1 : PV S_impl_Group) (t12 : PV (.int .i64)) (t13 : PV (.int .i64)) : Option ((PV S_impl_Group × PV S_impl_Group × PV (.int .i64) × PV (.int .i64) × Unit) ⊕ ((Unit) ⊕ (PV .bool × Unit))) :=
  bif (decide (t13 < t12)) then
    bif inB t13 t0.length then
      bif inB t13 t1.length then
        (f_L_sameGroup (t0.getD t13.toNat (dflt Y_impl_Group)) (t1.getD t13.toNat (dflt Y_impl_Group))).bind fun r4 =>
          bif (!r4.1.1) then
            some (.inr (.inr (false, ())))
          else
            some (.inl (t0, t1, t12, (IntKind.wrap .i64 (t13 + 1)), ()))
      else
        none
    else
      none
  else
    some (.inr (.inl ()))
noncomputable def w_L_sameGroups_4 : PV S_impl_Group × PV S_impl_Group × PV (.int .i64) × PV (.int .i64) × Unit → Option ((Unit) ⊕ (PV .bool × Unit)) := fix fun d => b_L_sameGroups_4 d.1 d.2.1 d.2.2.1 d.2.2.2.1
noncomputable def lp_L_sameGroups_4 : Lp := ⟨⟨[], [0, 1, 12, 13], []⟩, sh_L_sameGroups_4, o_L_sameGroups_4, fun d => b_L_sameGroups_4 d.1 d.2.1 d.2.2.1 d.2.2.2.1⟩
noncomputable def pl_L_sameGroups : Plan := ⟨[], [(4, lp_L_sameGroups_4)], 0, 0⟩
noncomputable def f_L_sameGroups (t0 : PV S_impl_Group) (t1 : PV S_impl_Group) : Option (PVs [.bool] × PVs []) :=
  bif (!((t0.length : Int) == (t1.length : Int))) then
    some ((false, ()), ())
  else
    (w_L_sameGroups_4 (t0, t1, (t0.length : Int), 0, ())).bind fun x9 =>
      match x9 with
      | .inl l7 =>
        some ((true, ()), ())
      | .inr l8 =>
        some ((l8.1, ()), ())
noncomputable def ct_L_sameGroups : Ct := ⟨[(.bor, S_impl_Group), (.bor, S_impl_Group)], [(.bool, .b)], fun x => f_L_sameGroups x.1 x.2.1⟩
noncomputable def cx_L_sameGroups : Cx := ⟨tab, arrs, [(33, ct_L_sameGroup)], [], gl, []⟩
theorem eb_L_sameGroups_4 (t0 : PV S_impl_Group) (t1 : PV S_impl_Group) (t12 : PV (.int .i64)) (t13 : PV (.int .i64)) : denK cx_L_sameGroups (rcN cx_L_sameGroups 0) pl_L_sameGroups 0 ((loopsOf (bodyOf Tryz.f12)).getD 0 .skip) (fillS sh_L_sameGroups_4 (t0, t1, t12, t13, ())) (roundK 0 lp_L_sameGroups_4) = b_L_sameGroups_4 t0 t1 t12 t13 := by kernel_rfl
theorem ef_L_sameGroups (t0 : PV S_impl_Group) (t1 : PV S_impl_Group) : denF cx_L_sameGroups 0 pl_L_sameGroups Tryz.f12.ntmps (bodyOf Tryz.f12) Tryz.f12.results.toList [(.bor, S_impl_Group), (.bor, S_impl_Group)] [(.bool, .b)] (t0, t1, ()) = f_L_sameGroups t0 t1 := by kernel_rfl
theorem ok_L_sameGroups : FnOk gl Tryz.prog 12 ct_L_sameGroups :=
  fnOk (cx := cx_L_sameGroups) (pl := pl_L_sameGroups) (dp := 0) (ok0_of tabOk (by unfold ArrOk; kernel_rfl) mix ⟨ok_L_sameGroup, trivial⟩ trivial) Tryz.func12 (by kernel_rfl) (by kernel_rfl) (by kernel_rfl)
    (by rw [show loopsOf (bodyOf Tryz.f12) = [((loopsOf (bodyOf Tryz.f12)).getD 0 .skip)] from by kernel_rfl]; exact ⟨(by rw [show lookup pl_L_sameGroups.loops (firstId ((loopsOf (bodyOf Tryz.f12)).getD 0 .skip)) = some lp_L_sameGroups_4 from by kernel_rfl]; exact fun d z h => (eb_L_sameGroups_4 d.1 d.2.1 d.2.2.1 d.2.2.2.1).trans h), trivial⟩) (fun x => ef_L_sameGroups x.1 x.2.1)
noncomputable def o_S_l1Cur_spoilt_3 : List Out := [⟨.normal, ⟨[], [0, 1, 2, 7, 16, 17, 18], []⟩, mkSh 69 [(0, .var Y_spec_l1Cur .b), (1, .addr ⟨0, [], 0, 0⟩), (2, .val .str .b), (3, .val .str .b), (8, .val (.int .i64) .b), (17, .val .str .b), (18, .val (.int .i64) .b), (19, .val .bool .b)]⟩]
noncomputable def sh_S_l1Cur_spoilt_2 : List Sh := mkSh 69 [(0, .var Y_spec_l1Cur .b), (1, .addr ⟨0, [], 0, 0⟩), (2, .val .str .b), (3, .val .str .b), (8, .val (.int .i64) .b)]
noncomputable def o_S_l1Cur_spoilt_2 : List Out := [⟨.exit 0, ⟨[], [1], []⟩, mkSh 69 [(0, .var Y_spec_l1Cur .b), (2, .val .str .b)]⟩]
noncomputable def b_S_l1Cur_spoilt_2 (t0 : PV Y_spec_l1Cur) (t2 : PV .str) (t3 : PV .str) (t8 : PV (.int .i64)) : Option ((PV Y_spec_l1Cur × PV .str × PV .str × PV (.int .i64) × Unit) ⊕ ((PV Y_spec_l1Cur × PV .str × Unit))) :=
  bif (decide (t8 > 0)) then
    bif (decide ((t2.length : Int) > 0)) then
      ((
          (f_S_l1Cur_pick t0 (t2.length : Int)).bind fun r17 =>
            (f_S_l1Cur_pick r17.2.1 (t3.length : Int)).bind fun r19 =>
              bif inB r19.1.1 t3.length then
                (f_S_l1Cur_pick r19.2.1 3).bind fun r21 =>
                  bif (r21.1.1 == 0) then
                    bif cutB 0 r17.1.1 t2.length then
                      bif decide ((cutL 0 r17.1.1 t2).length + (bytesOfInts [((t3.getD r19.1.1.toNat 0).toNat : Int)]).length ≤ 1099511627776) then
                        bif cutB r17.1.1 (t2.length : Int) t2.length then
                          bif decide (((cutL 0 r17.1.1 t2) ++ (bytesOfInts [((t3.getD r19.1.1.toNat 0).toNat : Int)])).length + (cutL r17.1.1 (t2.length : Int) t2).length ≤ 1099511627776) then
                            some (r21.2.1, (((cutL 0 r17.1.1 t2) ++ (bytesOfInts [((t3.getD r19.1.1.toNat 0).toNat : Int)])) ++ (cutL r17.1.1 (t2.length : Int) t2)), t3, t8, t2, (t2.length : Int), (decide ((t2.length : Int) > 0)), ())
                          else
                            none
                        else
                          none
                      else
                        none
                    else
                      none
                  else
                    bif (r21.1.1 == 1) then
                      bif cutB 0 r17.1.1 t2.length then
                        bif decide ((cutL 0 r17.1.1 t2).length + (bytesOfInts [((t3.getD r19.1.1.toNat 0).toNat : Int)]).length ≤ 1099511627776) then
                          bif cutB (IntKind.wrap .i64 (r17.1.1 + 1)) (t2.length : Int) t2.length then
                            bif decide (((cutL 0 r17.1.1 t2) ++ (bytesOfInts [((t3.getD r19.1.1.toNat 0).toNat : Int)])).length + (cutL (IntKind.wrap .i64 (r17.1.1 + 1)) (t2.length : Int) t2).length ≤ 1099511627776) then
                              some (r21.2.1, (((cutL 0 r17.1.1 t2) ++ (bytesOfInts [((t3.getD r19.1.1.toNat 0).toNat : Int)])) ++ (cutL (IntKind.wrap .i64 (r17.1.1 + 1)) (t2.length : Int) t2)), t3, t8, t2, (t2.length : Int), (decide ((t2.length : Int) > 0)), ())
                            else
                              none
                          else
                            none
                        else
                          none
                      else
                        none
                    else
                      bif cutB 0 r17.1.1 t2.length then
                        bif cutB (IntKind.wrap .i64 (r17.1.1 + 1)) (t2.length : Int) t2.length then
                          bif decide ((cutL 0 r17.1.1 t2).length + (cutL (IntKind.wrap .i64 (r17.1.1 + 1)) (t2.length : Int) t2).length ≤ 1099511627776) then
                            some (r21.2.1, ((cutL 0 r17.1.1 t2) ++ (cutL (IntKind.wrap .i64 (r17.1.1 + 1)) (t2.length : Int) t2)), t3, t8, t2, (t2.length : Int), (decide ((t2.length : Int) > 0)), ())
                          else
                            none
                        else
                          none
                      else
                        none
              else
                none : Option ((PV Y_spec_l1Cur × PV .str × PV .str × PV (.int .i64) × PV .str × PV (.int .i64) × PV .bool × Unit)))).bind fun j22 =>
        some (.inl (j22.1, j22.2.1, j22.2.2.1, (IntKind.wrap .i64 (j22.2.2.2.1 - 1)), ()))
    else
      some (.inr (t0, t2, ()))
  else
    some (.inr (t0, t2, ()))
noncomputable def w_S_l1Cur_spoilt_2 : PV Y_spec_l1Cur × PV .str × PV .str × PV (.int .i64) × Unit → Option ((PV Y_spec_l1Cur × PV .str × Unit)) := fix fun d => b_S_l1Cur_spoilt_2 d.1 d.2.1 d.2.2.1 d.2.2.2.1
noncomputable def lp_S_l1Cur_spoilt_2 : Lp := ⟨⟨[], [0, 1, 2, 7], []⟩, sh_S_l1Cur_spoilt_2, o_S_l1Cur_spoilt_2, fun d => b_S_l1Cur_spoilt_2 d.1 d.2.1 d.2.2.1 d.2.2.2.1⟩
noncomputable def pl_S_l1Cur_spoilt : Plan := ⟨[(3, o_S_l1Cur_spoilt_3)], [(2, lp_S_l1Cur_spoilt_2)], 0, 1⟩
noncomputable def f_S_l1Cur_spoilt (t0 : PV Y_spec_l1Cur) (t1 : PV .str) (t2 : PV .str) : Option (PVs [.str] × PVs [Y_spec_l1Cur]) :=
  (f_S_l1Cur_pick t0 2).bind fun r25 =>
    (w_S_l1Cur_spoilt_2 (r25.2.1, t1, t2, (IntKind.wrap .i64 (1 + r25.1.1)), ())).bind fun l26 =>
      some ((l26.2.1, ()), (l26.1, ()))
noncomputable def ct_S_l1Cur_spoilt : Ct := ⟨[(.ptr, Y_spec_l1Cur), (.bor, .str), (.bor, .str)], [(.str, .b)], fun x => f_S_l1Cur_spoilt x.1 x.2.1 x.2.2.1⟩
noncomputable def cx_S_l1Cur_spoilt : Cx := ⟨tab, arrs, [(35, ct_S_l1Cur_pick)], [], gl, []⟩
theorem eb_S_l1Cur_spoilt_2 (t0 : PV Y_spec_l1Cur) (t2 : PV .str) (t3 : PV .str) (t8 : PV (.int .i64)) : denK cx_S_l1Cur_spoilt (rcN cx_S_l1Cur_spoilt 0) pl_S_l1Cur_spoilt 1 ((loopsOf (bodyOf Tryz.f36)).getD 0 .skip) (fillS sh_S_l1Cur_spoilt_2 (t0, t2, t3, t8, ())) (roundK 1 lp_S_l1Cur_spoilt_2) = b_S_l1Cur_spoilt_2 t0 t2 t3 t8 := by kernel_rfl
theorem ef_S_l1Cur_spoilt (t0 : PV Y_spec_l1Cur) (t1 : PV .str) (t2 : PV .str) : denF cx_S_l1Cur_spoilt 0 pl_S_l1Cur_spoilt Tryz.f36.ntmps (bodyOf Tryz.f36) Tryz.f36.results.toList [(.ptr, Y_spec_l1Cur), (.bor, .str), (.bor, .str)] [(.str, .b)] (t0, t1, t2, ()) = f_S_l1Cur_spoilt t0 t1 t2 := by kernel_rfl
theorem ok_S_l1Cur_spoilt : FnOk gl Tryz.prog 36 ct_S_l1Cur_spoilt :=
  fnOk (cx := cx_S_l1Cur_spoilt) (pl := pl_S_l1Cur_spoilt) (dp := 0) (ok0_of tabOk (by unfold ArrOk; kernel_rfl) mix ⟨ok_S_l1Cur_pick, trivial⟩ trivial) Tryz.func36 (by kernel_rfl) (by kernel_rfl) (by kernel_rfl)
    (by rw [show loopsOf (bodyOf Tryz.f36) = [((loopsOf (bodyOf Tryz.f36)).getD 0 .skip)] from by kernel_rfl]; exact ⟨(by rw [show lookup pl_S_l1Cur_spoilt.loops (firstId ((loopsOf (bodyOf Tryz.f36)).getD 0 .skip)) = some lp_S_l1Cur_spoilt_2 from by kernel_rfl]; exact fun d z h => (eb_S_l1Cur_spoilt_2 d.1 d.2.1 d.2.2.1 d.2.2.2.1).trans h), trivial⟩) (fun x => ef_S_l1Cur_spoilt x.1 x.2.1 x.2.2.1)
noncomputable def o_S_DrawReadUnified_9 : List Out := [⟨.normal, ⟨[], [6], []⟩, mkSh 34 [(6, .val .str .b)]⟩]
noncomputable def pl_S_DrawReadUnified_37 : Plan := ⟨[], [], 0, 34⟩
noncomputable def pl_S_DrawReadUnified : Plan := ⟨[(9, o_S_DrawReadUnified_9)], [], 1, 0⟩
noncomputable def f_S_DrawReadUnified (t0 : PV S_uint8) : Option (PVs [.str] × PVs []) :=
  (f_S_l1Cur_groups (t0, (0, (0, ())))).bind fun r2 =>
    (f_S_GroupsText r2.1.2.1).bind fun r4 =>
      ((
          (f_S_l1Cur_pick r2.2.1 4).bind fun r10 =>
            bif (r10.1.1 == 0) then
              (f_S_l1Cur_spoilt r10.2.1 r4.1.1 [64, 45, 43, 32, 44, 49, 10]).bind fun r11 =>
                some (r11.1.1, ())
            else
              bif (r10.1.1 == 1) then
                (f_S_l1Cur_pick r10.2.1 ([[], [64, 64, 32, 45, 49, 32, 43, 49, 32, 64, 64, 10, 45, 97, 10, 43, 98, 10], [64, 64, 32, 45, 49, 44, 49, 32, 43, 49, 44, 49, 32, 64, 64, 10, 45, 97, 10, 43, 98, 10], [64, 64, 32, 45, 48, 44, 48, 32, 43, 49, 32, 64, 64, 10, 43, 97, 10, 92, 32, 110, 111, 110, 101, 10], [64, 64, 32, 45, 49, 32, 43, 49, 32, 64, 64, 10, 45, 97, 10], [64, 64, 32, 45, 49, 32, 43, 49, 32, 64, 64, 10, 32, 97, 10], [64, 64, 32, 45, 49, 44, 50, 32, 43, 49, 44, 50, 32, 64, 64, 10, 43, 98, 10, 45, 97, 10, 32, 97, 10], [64, 64, 32, 45, 49, 32, 43, 48, 44, 48, 32, 64, 64, 10, 45, 97]].length : Int)).bind fun r12 =>
                  bif inB r12.1.1 [[], [64, 64, 32, 45, 49, 32, 43, 49, 32, 64, 64, 10, 45, 97, 10, 43, 98, 10], [64, 64, 32, 45, 49, 44, 49, 32, 43, 49, 44, 49, 32, 64, 64, 10, 45, 97, 10, 43, 98, 10], [64, 64, 32, 45, 48, 44, 48, 32, 43, 49, 32, 64, 64, 10, 43, 97, 10, 92, 32, 110, 111, 110, 101, 10], [64, 64, 32, 45, 49, 32, 43, 49, 32, 64, 64, 10, 45, 97, 10], [64, 64, 32, 45, 49, 32, 43, 49, 32, 64, 64, 10, 32, 97, 10], [64, 64, 32, 45, 49, 44, 50, 32, 43, 49, 44, 50, 32, 64, 64, 10, 43, 98, 10, 45, 97, 10, 32, 97, 10], [64, 64, 32, 45, 49, 32, 43, 48, 44, 48, 32, 64, 64, 10, 45, 97]].length then
                    some (([[], [64, 64, 32, 45, 49, 32, 43, 49, 32, 64, 64, 10, 45, 97, 10, 43, 98, 10], [64, 64, 32, 45, 49, 44, 49, 32, 43, 49, 44, 49, 32, 64, 64, 10, 45, 97, 10, 43, 98, 10], [64, 64, 32, 45, 48, 44, 48, 32, 43, 49, 32, 64, 64, 10, 43, 97, 10, 92, 32, 110, 111, 110, 101, 10], [64, 64, 32, 45, 49, 32, 43, 49, 32, 64, 64, 10, 45, 97, 10], [64, 64, 32, 45, 49, 32, 43, 49, 32, 64, 64, 10, 32, 97, 10], [64, 64, 32, 45, 49, 44, 50, 32, 43, 49, 44, 50, 32, 64, 64, 10, 43, 98, 10, 45, 97, 10, 32, 97, 10], [64, 64, 32, 45, 49, 32, 43, 48, 44, 48, 32, 64, 64, 10, 45, 97]].getD r12.1.1.toNat []), ())
                  else
                    none
              else
                some (r4.1.1, ()) : Option ((PV .str × Unit)))).bind fun j13 =>
        some ((j13.1, ()), ())
noncomputable def ct_S_DrawReadUnified : Ct := ⟨[(.bor, S_uint8)], [(.str, .b)], fun x => f_S_DrawReadUnified x.1⟩
noncomputable def cx_S_DrawReadUnified : Cx := ⟨tab, arrs, [(8, ct_S_GroupsText), (34, ct_S_l1Cur_groups), (35, ct_S_l1Cur_pick), (36, ct_S_l1Cur_spoilt)], [(37, Tryz.f37, pl_S_DrawReadUnified_37)], gl, []⟩
theorem ef_S_DrawReadUnified (t0 : PV S_uint8) : denF cx_S_DrawReadUnified 1 pl_S_DrawReadUnified Tryz.f13.ntmps (bodyOf Tryz.f13) Tryz.f13.results.toList [(.bor, S_uint8)] [(.str, .b)] (t0, ()) = f_S_DrawReadUnified t0 := by kernel_rfl
theorem ok_S_DrawReadUnified : FnOk gl Tryz.prog 13 ct_S_DrawReadUnified :=
  fnOk (cx := cx_S_DrawReadUnified) (pl := pl_S_DrawReadUnified) (dp := 1) (ok0_of tabOk (by unfold ArrOk; kernel_rfl) mix ⟨ok_S_GroupsText, ok_S_l1Cur_groups, ok_S_l1Cur_pick, ok_S_l1Cur_spoilt, trivial⟩ ⟨⟨Tryz.func37, by kernel_rfl, (by rw [show loopsOf (bodyOf Tryz.f37) = [] from by kernel_rfl]; exact trivial)⟩, trivial⟩) Tryz.func13 (by kernel_rfl) (by kernel_rfl) (by kernel_rfl)
    (by rw [show loopsOf (bodyOf Tryz.f13) = [] from by kernel_rfl]; exact trivial) (fun x => ef_S_DrawReadUnified x.1)
noncomputable def o_S_l1Cut_5 : List Out := [⟨.normal, ⟨[], [0, 3, 4, 5], []⟩, mkSh 37 [(0, .val .str .b), (3, .val S_string (.row .b)), (4, .val (.int .i64) .b), (5, .val (.int .i64) .b)]⟩]
noncomputable def o_S_l1Cut_11 : List Out := [⟨.normal, ⟨[], [3], []⟩, mkSh 37 [(3, .val S_string (.row .b))]⟩]
noncomputable def sh_S_l1Cut_4 : List Sh := mkSh 37 [(0, .val .str .b), (3, .val S_string (.row .b)), (4, .val (.int .i64) .b), (5, .val (.int .i64) .b)]
noncomputable def o_S_l1Cut_4 : List Out := [⟨.exit 0, ⟨[], [0, 3, 4], []⟩, mkSh 37 [(0, .val .str .b), (3, .val S_string (.row .b)), (4, .val (.int .i64) .b)]⟩]
noncomputable def b_S_l1Cut_4 (t0 : PV .str) (t3 : PV S_string) (t4 : PV (.int .i64)) (t5 : PV (.int .i64)) : Option ((PV .str × PV S_string × PV (.int .i64) × PV (.int .i64) × Unit) ⊕ ((PV .str × PV S_string × PV (.int .i64) × Unit))) :=
  bif (decide (t5 < (t0.length : Int))) then
    ((
        bif inB t5 t0.length then
          bif (((t0.getD t5.toNat 0).toNat : Int) == 10) then
            bif cutB t4 (IntKind.wrap .i64 (t5 + 1)) t0.length then
              bif roomB (t3.length + [(cutL t4 (IntKind.wrap .i64 (t5 + 1)) t0)].length) then
                some (t0, (t3 ++ [(cutL t4 (IntKind.wrap .i64 (t5 + 1)) t0)]), (IntKind.wrap .i64 (t5 + 1)), t5, ())
              else
                none
            else
              none
          else
            some (t0, t3, t4, t5, ())
        else
          none : Option ((PV .str × PV S_string × PV (.int .i64) × PV (.int .i64) × Unit)))).bind fun j1 =>
      some (.inl (j1.1, j1.2.1, j1.2.2.1, (IntKind.wrap .i64 (j1.2.2.2.1 + 1)), ()))
  else
    some (.inr (t0, t3, t4, ()))
noncomputable def w_S_l1Cut_4 : PV .str × PV S_string × PV (.int .i64) × PV (.int .i64) × Unit → Option ((PV .str × PV S_string × PV (.int .i64) × Unit)) := fix fun d => b_S_l1Cut_4 d.1 d.2.1 d.2.2.1 d.2.2.2.1
noncomputable def lp_S_l1Cut_4 : Lp := ⟨⟨[], [0, 3, 4, 5], []⟩, sh_S_l1Cut_4, o_S_l1Cut_4, fun d => b_S_l1Cut_4 d.1 d.2.1 d.2.2.1 d.2.2.2.1⟩
noncomputable def pl_S_l1Cut : Plan := ⟨[(5, o_S_l1Cut_5), (11, o_S_l1Cut_11)], [(4, lp_S_l1Cut_4)], 0, 0⟩
noncomputable def f_S_l1Cut (t0 : PV .str) : Option (PVs [S_string] × PVs []) :=
  (w_S_l1Cut_4 (t0, [], 0, 0, ())).bind fun l3 =>
    ((
        bif (decide (l3.2.2.1 < (l3.1.length : Int))) then
          bif cutB l3.2.2.1 (l3.1.length : Int) l3.1.length then
            bif roomB (l3.2.1.length + [(cutL l3.2.2.1 (l3.1.length : Int) l3.1)].length) then
              some ((l3.2.1 ++ [(cutL l3.2.2.1 (l3.1.length : Int) l3.1)]), ())
            else
              none
          else
            none
        else
          some (l3.2.1, ()) : Option ((PV S_string × Unit)))).bind fun j4 =>
      some ((j4.1, ()), ())
noncomputable def ct_S_l1Cut : Ct := ⟨[(.bor, .str)], [(S_string, .b)], fun x => f_S_l1Cut x.1⟩
noncomputable def cx_S_l1Cut : Cx := ⟨tab, arrs, [], [], gl, []⟩
theorem eb_S_l1Cut_4 (t0 : PV .str) (t3 : PV S_string) (t4 : PV (.int .i64)) (t5 : PV (.int .i64)) : denK cx_S_l1Cut (rcN cx_S_l1Cut 0) pl_S_l1Cut 0 ((loopsOf (bodyOf Tryz.f38)).getD 0 .skip) (fillS sh_S_l1Cut_4 (t0, t3, t4, t5, ())) (roundK 0 lp_S_l1Cut_4) = b_S_l1Cut_4 t0 t3 t4 t5 := by kernel_rfl
theorem ef_S_l1Cut (t0 : PV .str) : denF cx_S_l1Cut 0 pl_S_l1Cut Tryz.f38.ntmps (bodyOf Tryz.f38) Tryz.f38.results.toList [(.bor, .str)] [(S_string, .b)] (t0, ()) = f_S_l1Cut t0 := by kernel_rfl
theorem ok_S_l1Cut : FnOk gl Tryz.prog 38 ct_S_l1Cut :=
  fnOk (cx := cx_S_l1Cut) (pl := pl_S_l1Cut) (dp := 0) (ok0_of tabOk (by unfold ArrOk; kernel_rfl) mix trivial trivial) Tryz.func38 (by kernel_rfl) (by kernel_rfl) (by kernel_rfl)
    (by rw [show loopsOf (bodyOf Tryz.f38) = [((loopsOf (bodyOf Tryz.f38)).getD 0 .skip)] from by kernel_rfl]; exact ⟨(by rw [show lookup pl_S_l1Cut.loops (firstId ((loopsOf (bodyOf Tryz.f38)).getD 0 .skip)) = some lp_S_l1Cut_4 from by kernel_rfl]; exact fun d z h => (eb_S_l1Cut_4 d.1 d.2.1 d.2.2.1 d.2.2.2.1).trans h), trivial⟩) (fun x => ef_S_l1Cut x.1)
noncomputable def o_S_l1Split_5 : List Out := [⟨.normal, ⟨[], [0, 1, 5, 6, 7], []⟩, mkSh 34 [(0, .val .str .b), (1, .val (.int .u8) .b), (5, .val S_string (.row .b)), (6, .val (.int .i64) .b), (7, .val (.int .i64) .b)]⟩]
noncomputable def sh_S_l1Split_4 : List Sh := mkSh 34 [(0, .val .str .b), (1, .val (.int .u8) .b), (5, .val S_string (.row .b)), (6, .val (.int .i64) .b), (7, .val (.int .i64) .b)]
noncomputable def o_S_l1Split_4 : List Out := [⟨.exit 0, ⟨[], [0, 5, 6], []⟩, mkSh 34 [(0, .val .str .b), (5, .val S_string (.row .b)), (6, .val (.int .i64) .b)]⟩]
noncomputable def b_S_l1Split_4 (t0 : PV .str) (t1 : PV (.int .u8)) (t5 : PV S_string) (t6 : PV (.int .i64)) (t7 : PV (.int .i64)) : Option ((PV .str × PV (.int .u8) × PV S_string × PV (.int .i64) × PV (.int .i64) × Unit) ⊕ ((PV .str × PV S_string × PV (.int .i64) × Unit))) :=
  bif (decide (t7 < (t0.length : Int))) then
    ((
        bif inB t7 t0.length then
          bif (((t0.getD t7.toNat 0).toNat : Int) == t1) then
            bif cutB t6 t7 t0.length then
              bif roomB (t5.length + [(cutL t6 t7 t0)].length) then
                some (t0, t1, (t5 ++ [(cutL t6 t7 t0)]), (IntKind.wrap .i64 (t7 + 1)), t7, ())
              else
                none
            else
              none
          else
            some (t0, t1, t5, t6, t7, ())
        else
          none : Option ((PV .str × PV (.int .u8) × PV S_string × PV (.int .i64) × PV (.int .i64) × Unit)))).bind fun j1 =>
      some (.inl (j1.1, j1.2.1, j1.2.2.1, j1.2.2.2.1, (IntKind.wrap .i64 (j1.2.2.2.2.1 + 1)), ()))
  else
    some (.inr (t0, t5, t6, ()))
noncomputable def w_S_l1Split_4 : PV .str × PV (.int .u8) × PV S_string × PV (.int .i64) × PV (.int .i64) × Unit → Option ((PV .str × PV S_string × PV (.int .i64) × Unit)) := fix fun d => b_S_l1Split_4 d.1 d.2.1 d.2.2.1 d.2.2.2.1 d.2.2.2.2.1
noncomputable def lp_S_l1Split_4 : Lp := ⟨⟨[], [0, 1, 5, 6, 7], []⟩, sh_S_l1Split_4, o_S_l1Split_4, fun d => b_S_l1Split_4 d.1 d.2.1 d.2.2.1 d.2.2.2.1 d.2.2.2.2.1⟩
noncomputable def pl_S_l1Split : Plan := ⟨[(5, o_S_l1Split_5)], [(4, lp_S_l1Split_4)], 0, 0⟩
noncomputable def f_S_l1Split (t0 : PV .str) (t1 : PV (.int .u8)) : Option (PVs [S_string] × PVs []) :=
  (w_S_l1Split_4 (t0, t1, [], 0, 0, ())).bind fun l3 =>
    bif cutB l3.2.2.1 (l3.1.length : Int) l3.1.length then
      bif roomB (l3.2.1.length + [(cutL l3.2.2.1 (l3.1.length : Int) l3.1)].length) then
        some (((l3.2.1 ++ [(cutL l3.2.2.1 (l3.1.length : Int) l3.1)]), ()), ())
      else
        none
    else
      none
noncomputable def ct_S_l1Split : Ct := ⟨[(.bor, .str), (.bor, (.int .u8))], [(S_string, (.row .b))], fun x => f_S_l1Split x.1 x.2.1⟩
noncomputable def cx_S_l1Split : Cx := ⟨tab, arrs, [], [], gl, []⟩
theorem eb_S_l1Split_4 (t0 : PV .str) (t1 : PV (.int .u8)) (t5 : PV S_string) (t6 : PV (.int .i64)) (t7 : PV (.int .i64)) : denK cx_S_l1Split (rcN cx_S_l1Split 0) pl_S_l1Split 0 ((loopsOf (bodyOf Tryz.f76)).getD 0 .skip) (fillS sh_S_l1Split_4 (t0, t1, t5, t6, t7, ())) (roundK 0 lp_S_l1Split_4) = b_S_l1Split_4 t0 t1 t5 t6 t7 := by kernel_rfl
theorem ef_S_l1Split (t0 : PV .str) (t1 : PV (.int .u8)) : denF cx_S_l1Split 0 pl_S_l1Split Tryz.f76.ntmps (bodyOf Tryz.f76) Tryz.f76.results.toList [(.bor, .str), (.bor, (.int .u8))] [(S_string, (.row .b))] (t0, t1, ()) = f_S_l1Split t0 t1 := by kernel_rfl
theorem ok_S_l1Split : FnOk gl Tryz.prog 76 ct_S_l1Split :=
  fnOk (cx := cx_S_l1Split) (pl := pl_S_l1Split) (dp := 0) (ok0_of tabOk (by unfold ArrOk; kernel_rfl) mix trivial trivial) Tryz.func76 (by kernel_rfl) (by kernel_rfl) (by kernel_rfl)
    (by rw [show loopsOf (bodyOf Tryz.f76) = [((loopsOf (bodyOf Tryz.f76)).getD 0 .skip)] from by kernel_rfl]; exact ⟨(by rw [show lookup pl_S_l1Split.loops (firstId ((loopsOf (bodyOf Tryz.f76)).getD 0 .skip)) = some lp_S_l1Split_4 from by kernel_rfl]; exact fun d z h => (eb_S_l1Split_4 d.1 d.2.1 d.2.2.1 d.2.2.2.1 d.2.2.2.2.1).trans h), trivial⟩) (fun x => ef_S_l1Split x.1 x.2.1)
noncomputable def o_S_l1Read_2 : List Out := [⟨.normal, ⟨[], [0, 18, 30, 31, 32, 33], []⟩, mkSh 44 [(0, .val .str .b), (18, .val .bool .b)]⟩]
noncomputable def o_S_l1Read_8 : List Out := [⟨.normal, ⟨[], [0, 3, 4, 34], []⟩, mkSh 44 [(0, .val .str .b), (3, .val (.int .i64) .b), (4, .val (.int .i64) .b), (34, .val .bool .b)]⟩]
noncomputable def sh_S_l1Read_5 : List Sh := mkSh 44 [(0, .val .str .b), (3, .val (.int .i64) .b), (4, .val (.int .i64) .b)]
noncomputable def o_S_l1Read_5 : List Out := [⟨.exit 0, ⟨[], [3], []⟩, mkSh 44 [(3, .val (.int .i64) .b)]⟩, ⟨.ret, ⟨[], [2], []⟩, mkSh 44 [(2, .val (.int .i64) .b)]⟩]
noncomputable def b_S_l1Read_5 (t0 : PV .str) (t3 : PV (.int .i64)) (t4 : PV (.int .i64)) : Option ((PV .str × PV (.int .i64) × PV (.int .i64) × Unit) ⊕ ((PV (.int .i64) × Unit) ⊕ (PV (.int .i64) × Unit))) :=
  bif (decide (t4 < (t0.length : Int))) then
    ((
        bif inB t4 t0.length then
          bif (decide (((t0.getD t4.toNat 0).toNat : Int) < 48)) then
            some (t0, t3, t4, true, ())
          else
            bif inB t4 t0.length then
              some (t0, t3, t4, (decide (((t0.getD t4.toNat 0).toNat : Int) > 57)), ())
            else
              none
        else
          none : Option ((PV .str × PV (.int .i64) × PV (.int .i64) × PV .bool × Unit)))).bind fun j9 =>
      bif j9.2.2.2.1 then
        some (.inr (.inr ((-1), ())))
      else
        bif inB j9.2.2.1 j9.1.length then
          some (.inl (j9.1, (IntKind.wrap .i64 ((IntKind.wrap .i64 (10 * j9.2.1)) + (IntKind.wrap .i64 (IntKind.wrap .u8 (((j9.1.getD j9.2.2.1.toNat 0).toNat : Int) - 48))))), (IntKind.wrap .i64 (j9.2.2.1 + 1)), ()))
        else
          none
  else
    some (.inr (.inl (t3, ())))
noncomputable def w_S_l1Read_5 : PV .str × PV (.int .i64) × PV (.int .i64) × Unit → Option ((PV (.int .i64) × Unit) ⊕ (PV (.int .i64) × Unit)) := fix fun d => b_S_l1Read_5 d.1 d.2.1 d.2.2.1
noncomputable def lp_S_l1Read_5 : Lp := ⟨⟨[], [0, 3, 4, 30, 31, 32, 33], []⟩, sh_S_l1Read_5, o_S_l1Read_5, fun d => b_S_l1Read_5 d.1 d.2.1 d.2.2.1⟩
noncomputable def pl_S_l1Read : Plan := ⟨[(2, o_S_l1Read_2), (8, o_S_l1Read_8)], [(5, lp_S_l1Read_5)], 0, 0⟩
noncomputable def f_S_l1Read (t0 : PV .str) : Option (PVs [(.int .i64)] × PVs []) :=
  ((
      (f_S_l1In (t0.length : Int) 1 6).bind fun r4 =>
        bif (!r4.1.1) then
          some (t0, true, ())
        else
          bif inB 0 t0.length then
            bif (((t0.getD (0 : Int).toNat 0).toNat : Int) == 48) then
              some (t0, (decide ((t0.length : Int) > 1)), ())
            else
              some (t0, false, ())
          else
            none : Option ((PV .str × PV .bool × Unit)))).bind fun j5 =>
    bif j5.2.1 then
      some (((-1), ()), ())
    else
      (w_S_l1Read_5 (j5.1, 0, 0, ())).bind fun x14 =>
        match x14 with
        | .inl l12 =>
          some ((l12.1, ()), ())
        | .inr l13 =>
          some ((l13.1, ()), ())
noncomputable def ct_S_l1Read : Ct := ⟨[(.bor, .str)], [((.int .i64), .b)], fun x => f_S_l1Read x.1⟩
noncomputable def cx_S_l1Read : Cx := ⟨tab, arrs, [(85, ct_S_l1In)], [], gl, []⟩
theorem eb_S_l1Read_5 (t0 : PV .str) (t3 : PV (.int .i64)) (t4 : PV (.int .i64)) : denK cx_S_l1Read (rcN cx_S_l1Read 0) pl_S_l1Read 0 ((loopsOf (bodyOf Tryz.f143)).getD 0 .skip) (fillS sh_S_l1Read_5 (t0, t3, t4, ())) (roundK 0 lp_S_l1Read_5) = b_S_l1Read_5 t0 t3 t4 := by kernel_rfl
theorem ef_S_l1Read (t0 : PV .str) : denF cx_S_l1Read 0 pl_S_l1Read Tryz.f143.ntmps (bodyOf Tryz.f143) Tryz.f143.results.toList [(.bor, .str)] [((.int .i64), .b)] (t0, ()) = f_S_l1Read t0 := by kernel_rfl
theorem ok_S_l1Read : FnOk gl Tryz.prog 143 ct_S_l1Read :=
  fnOk (cx := cx_S_l1Read) (pl := pl_S_l1Read) (dp := 0) (ok0_of tabOk (by unfold ArrOk; kernel_rfl) mix ⟨ok_S_l1In, trivial⟩ trivial) Tryz.func143 (by kernel_rfl) (by kernel_rfl) (by kernel_rfl)
    (by rw [show loopsOf (bodyOf Tryz.f143) = [((loopsOf (bodyOf Tryz.f143)).getD 0 .skip)] from by kernel_rfl]; exact ⟨(by rw [show lookup pl_S_l1Read.loops (firstId ((loopsOf (bodyOf Tryz.f143)).getD 0 .skip)) = some lp_S_l1Read_5 from by kernel_rfl]; exact fun d z h => (eb_S_l1Read_5 d.1 d.2.1 d.2.2.1).trans h), trivial⟩) (fun x => ef_S_l1Read x.1)
noncomputable def o_S_ReadNumber_3 : List Out := [⟨.normal, ⟨[], [4, 13], []⟩, mkSh 15 [(4, .val (.int .i64) .b), (13, .val .bool .b)]⟩]
noncomputable def pl_S_ReadNumber : Plan := ⟨[(3, o_S_ReadNumber_3)], [], 0, 0⟩
noncomputable def f_S_ReadNumber (t0 : PV .str) : Option (PVs [(.int .i64), .bool] × PVs []) :=
  (f_S_l1Read t0).bind fun r2 =>
    ((
        bif (decide ((t0.length : Int) > 4)) then
          some (r2.1.1, true, ())
        else
          some (r2.1.1, (decide (r2.1.1 < 0)), ()) : Option ((PV (.int .i64) × PV .bool × Unit)))).bind fun j4 =>
      bif j4.2.1 then
        some ((0, false, ()), ())
      else
        some ((j4.1, true, ()), ())
noncomputable def ct_S_ReadNumber : Ct := ⟨[(.bor, .str)], [((.int .i64), .b), (.bool, .b)], fun x => f_S_ReadNumber x.1⟩
noncomputable def cx_S_ReadNumber : Cx := ⟨tab, arrs, [(143, ct_S_l1Read)], [], gl, []⟩
theorem ef_S_ReadNumber (t0 : PV .str) : denF cx_S_ReadNumber 0 pl_S_ReadNumber Tryz.f118.ntmps (bodyOf Tryz.f118) Tryz.f118.results.toList [(.bor, .str)] [((.int .i64), .b), (.bool, .b)] (t0, ()) = f_S_ReadNumber t0 := by kernel_rfl
theorem ok_S_ReadNumber : FnOk gl Tryz.prog 118 ct_S_ReadNumber :=
  fnOk (cx := cx_S_ReadNumber) (pl := pl_S_ReadNumber) (dp := 0) (ok0_of tabOk (by unfold ArrOk; kernel_rfl) mix ⟨ok_S_l1Read, trivial⟩ trivial) Tryz.func118 (by kernel_rfl) (by kernel_rfl) (by kernel_rfl)
    (by rw [show loopsOf (bodyOf Tryz.f118) = [] from by kernel_rfl]; exact trivial) (fun x => ef_S_ReadNumber x.1)
noncomputable def pl_S_l4Range : Plan := ⟨[], [], 0, 0⟩
noncomputable def f_S_l4Range (t0 : PV (.int .i64)) (t1 : PV (.int .i64)) : Option (PVs [.bool] × PVs []) :=
  (f_S_l1In t0 0 999).bind fun r1 =>
    bif r1.1.1 then
      (f_S_l1In t1 0 999).bind fun r2 =>
        some ((r2.1.1, ()), ())
    else
      some ((false, ()), ())
noncomputable def ct_S_l4Range : Ct := ⟨[(.bor, (.int .i64)), (.bor, (.int .i64))], [(.bool, .b)], fun x => f_S_l4Range x.1 x.2.1⟩
noncomputable def cx_S_l4Range : Cx := ⟨tab, arrs, [(85, ct_S_l1In)], [], gl, []⟩
theorem ef_S_l4Range (t0 : PV (.int .i64)) (t1 : PV (.int .i64)) : denF cx_S_l4Range 0 pl_S_l4Range Tryz.f119.ntmps (bodyOf Tryz.f119) Tryz.f119.results.toList [(.bor, (.int .i64)), (.bor, (.int .i64))] [(.bool, .b)] (t0, t1, ()) = f_S_l4Range t0 t1 := by kernel_rfl
theorem ok_S_l4Range : FnOk gl Tryz.prog 119 ct_S_l4Range :=
  fnOk (cx := cx_S_l4Range) (pl := pl_S_l4Range) (dp := 0) (ok0_of tabOk (by unfold ArrOk; kernel_rfl) mix ⟨ok_S_l1In, trivial⟩ trivial) Tryz.func119 (by kernel_rfl) (by kernel_rfl) (by kernel_rfl)
    (by rw [show loopsOf (bodyOf Tryz.f119) = [] from by kernel_rfl]; exact trivial) (fun x => ef_S_l4Range x.1 x.2.1)
noncomputable def o_S_ReadCount_8 : List Out := [⟨.normal, ⟨[], [5, 6, 7, 8, 44, 45, 46, 49, 50, 51, 52], []⟩, mkSh 56 [(5, .val S_string (.row .b)), (6, .val (.int .i64) .b), (7, .val .bool .b), (8, .val (.int .i64) .b)]⟩]
noncomputable def o_S_ReadCount_11 : List Out := [⟨.normal, ⟨[], [5, 7, 8, 11, 44, 45, 46, 49, 50, 51, 52], []⟩, mkSh 56 [(5, .val S_string (.row .b)), (7, .val .bool .b), (8, .val (.int .i64) .b), (11, .val (.int .i64) .b)]⟩]
noncomputable def o_S_ReadCount_12 : List Out := [⟨.normal, ⟨[], [8, 11, 53], []⟩, mkSh 56 [(8, .val (.int .i64) .b), (11, .val (.int .i64) .b), (53, .val .bool .b)]⟩]
noncomputable def pl_S_ReadCount : Plan := ⟨[(8, o_S_ReadCount_8), (11, o_S_ReadCount_11), (12, o_S_ReadCount_12)], [], 0, 0⟩
noncomputable def f_S_ReadCount (t0 : PV .str) : Option (PVs [(.int .i64), (.int .i64), .bool] × PVs []) :=
  (f_S_l1Split t0 44).bind fun r2 =>
    bif inB 0 r2.1.1.length then
      (f_S_ReadNumber (r2.1.1.getD ((0 : Int).toNat) [])).bind fun r4 =>
        ((
            bif ((r2.1.1.length : Int) == 2) then
              bif inB 1 r2.1.1.length then
                (f_S_ReadNumber (r2.1.1.getD ((1 : Int).toNat) [])).bind fun r8 =>
                  bif r4.1.2.1 then
                    some (r2.1.1, r4.1.1, r8.1.2.1, r8.1.1, ())
                  else
                    some (r2.1.1, r4.1.1, false, r8.1.1, ())
              else
                none
            else
              some (r2.1.1, r4.1.1, r4.1.2.1, 1, ()) : Option ((PV S_string × PV (.int .i64) × PV .bool × PV (.int .i64) × Unit)))).bind fun j9 =>
          ((
              bif (decide (j9.2.2.2.1 > 0)) then
                some (j9.1, j9.2.2.1, j9.2.2.2.1, (IntKind.wrap .i64 (j9.2.1 - 1)), ())
              else
                some (j9.1, j9.2.2.1, j9.2.2.2.1, j9.2.1, ()) : Option ((PV S_string × PV .bool × PV (.int .i64) × PV (.int .i64) × Unit)))).bind fun j10 =>
            ((
                bif (!j10.2.1) then
                  some (j10.2.2.1, j10.2.2.2.1, true, ())
                else
                  bif (decide ((j10.1.length : Int) > 2)) then
                    some (j10.2.2.1, j10.2.2.2.1, true, ())
                  else
                    (f_S_l4Range j10.2.2.2.1 j10.2.2.1).bind fun r14 =>
                      some (j10.2.2.1, j10.2.2.2.1, (!r14.1.1), ()) : Option ((PV (.int .i64) × PV (.int .i64) × PV .bool × Unit)))).bind fun j15 =>
              bif j15.2.2.1 then
                some ((0, 0, false, ()), ())
              else
                some ((j15.2.1, j15.1, true, ()), ())
    else
      none
noncomputable def ct_S_ReadCount : Ct := ⟨[(.bor, .str)], [((.int .i64), .b), ((.int .i64), .b), (.bool, .b)], fun x => f_S_ReadCount x.1⟩
noncomputable def cx_S_ReadCount : Cx := ⟨tab, arrs, [(76, ct_S_l1Split), (118, ct_S_ReadNumber), (119, ct_S_l4Range)], [], gl, []⟩
theorem ef_S_ReadCount (t0 : PV .str) : denF cx_S_ReadCount 0 pl_S_ReadCount Tryz.f77.ntmps (bodyOf Tryz.f77) Tryz.f77.results.toList [(.bor, .str)] [((.int .i64), .b), ((.int .i64), .b), (.bool, .b)] (t0, ()) = f_S_ReadCount t0 := by kernel_rfl
theorem ok_S_ReadCount : FnOk gl Tryz.prog 77 ct_S_ReadCount :=
  fnOk (cx := cx_S_ReadCount) (pl := pl_S_ReadCount) (dp := 0) (ok0_of tabOk (by unfold ArrOk; kernel_rfl) mix ⟨ok_S_l1Split, ok_S_ReadNumber, ok_S_l4Range, trivial⟩ trivial) Tryz.func77 (by kernel_rfl) (by kernel_rfl) (by kernel_rfl)
    (by rw [show loopsOf (bodyOf Tryz.f77) = [] from by kernel_rfl]; exact trivial) (fun x => ef_S_ReadCount x.1)
noncomputable def o_S_l7Head_3 : List Out := [⟨.normal, ⟨[], [2, 6, 57, 84], []⟩, mkSh 86 [(2, .var Y_impl_Group (.pr .b (.pr .b (.pr (.row (.pr .b (.pr .b .b))) .b)))), (6, .val S_string (.row .b)), (57, .val .bool .b)]⟩]
noncomputable def pl_S_l7Head : Plan := ⟨[(3, o_S_l7Head_3)], [], 0, 0⟩
noncomputable def f_S_l7Head (t0 : PV .str) : Option (PVs [Y_impl_Group, (.int .i64), (.int .i64), .bool] × PVs []) :=
  (f_S_l1Split t0 32).bind fun r2 =>
    ((
        bif (!((r2.1.1.length : Int) == 4)) then
          some ((0, (0, (([] : PV S_impl_Row), ()))), r2.1.1, true, ())
        else
          bif inB 0 r2.1.1.length then
            bif (!((r2.1.1.getD ((0 : Int).toNat) []) == [64, 64])) then
              some ((0, (0, (([] : PV S_impl_Row), ()))), r2.1.1, true, ())
            else
              bif inB 3 r2.1.1.length then
                bif (!((r2.1.1.getD ((3 : Int).toNat) []) == [64, 64])) then
                  some ((0, (0, (([] : PV S_impl_Row), ()))), r2.1.1, true, ())
                else
                  bif inB 1 r2.1.1.length then
                    bif (decide (((r2.1.1.getD ((1 : Int).toNat) []).length : Int) < 2)) then
                      some ((0, (0, (([] : PV S_impl_Row), ()))), r2.1.1, true, ())
                    else
                      bif inB 2 r2.1.1.length then
                        bif (decide (((r2.1.1.getD ((2 : Int).toNat) []).length : Int) < 2)) then
                          some ((0, (0, (([] : PV S_impl_Row), ()))), r2.1.1, true, ())
                        else
                          bif inB 1 r2.1.1.length then
                            bif inB 0 (r2.1.1.getD ((1 : Int).toNat) []).length then
                              bif (!((((r2.1.1.getD ((1 : Int).toNat) []).getD (0 : Int).toNat 0).toNat : Int) == 45)) then
                                some ((0, (0, (([] : PV S_impl_Row), ()))), r2.1.1, true, ())
                              else
                                bif inB 2 r2.1.1.length then
                                  bif inB 0 (r2.1.1.getD ((2 : Int).toNat) []).length then
                                    some ((0, (0, (([] : PV S_impl_Row), ()))), r2.1.1, (!((((r2.1.1.getD ((2 : Int).toNat) []).getD (0 : Int).toNat 0).toNat : Int) == 43)), ())
                                  else
                                    none
                                else
                                  none
                            else
                              none
                          else
                            none
                      else
                        none
                  else
                    none
              else
                none
          else
            none : Option ((PV Y_impl_Group × PV S_string × PV .bool × Unit)))).bind fun j4 =>
      bif j4.2.2.1 then
        some (((0, (0, (([] : PV S_impl_Row), ()))), 0, 0, false, ()), ())
      else
        bif inB 1 j4.2.1.length then
          bif cutB 1 ((j4.2.1.getD ((1 : Int).toNat) []).length : Int) (j4.2.1.getD ((1 : Int).toNat) []).length then
            (f_S_ReadCount (cutL 1 ((j4.2.1.getD ((1 : Int).toNat) []).length : Int) (j4.2.1.getD ((1 : Int).toNat) []))).bind fun r6 =>
              bif inB 2 j4.2.1.length then
                bif cutB 1 ((j4.2.1.getD ((2 : Int).toNat) []).length : Int) (j4.2.1.getD ((2 : Int).toNat) []).length then
                  (f_S_ReadCount (cutL 1 ((j4.2.1.getD ((2 : Int).toNat) []).length : Int) (j4.2.1.getD ((2 : Int).toNat) []))).bind fun r8 =>
                    bif r6.1.2.2.1 then
                      some (((r6.1.1, (r8.1.1, (([] : PV S_impl_Row), ()))), r6.1.2.1, r8.1.2.1, r8.1.2.2.1, ()), ())
                    else
                      some (((r6.1.1, (r8.1.1, (([] : PV S_impl_Row), ()))), r6.1.2.1, r8.1.2.1, false, ()), ())
                else
                  none
              else
                none
          else
            none
        else
          none
noncomputable def ct_S_l7Head : Ct := ⟨[(.bor, .str)], [(Y_impl_Group, (.pr .b (.pr .b (.pr (.row (.pr .b (.pr .b .b))) .b)))), ((.int .i64), .b), ((.int .i64), .b), (.bool, .b)], fun x => f_S_l7Head x.1⟩
noncomputable def cx_S_l7Head : Cx := ⟨tab, arrs, [(76, ct_S_l1Split), (77, ct_S_ReadCount)], [], gl, []⟩
theorem ef_S_l7Head (t0 : PV .str) : denF cx_S_l7Head 0 pl_S_l7Head Tryz.f39.ntmps (bodyOf Tryz.f39) Tryz.f39.results.toList [(.bor, .str)] [(Y_impl_Group, (.pr .b (.pr .b (.pr (.row (.pr .b (.pr .b .b))) .b)))), ((.int .i64), .b), ((.int .i64), .b), (.bool, .b)] (t0, ()) = f_S_l7Head t0 := by kernel_rfl
theorem ok_S_l7Head : FnOk gl Tryz.prog 39 ct_S_l7Head :=
  fnOk (cx := cx_S_l7Head) (pl := pl_S_l7Head) (dp := 0) (ok0_of tabOk (by unfold ArrOk; kernel_rfl) mix ⟨ok_S_l1Split, ok_S_ReadCount, trivial⟩ trivial) Tryz.func39 (by kernel_rfl) (by kernel_rfl) (by kernel_rfl)
    (by rw [show loopsOf (bodyOf Tryz.f39) = [] from by kernel_rfl]; exact trivial) (fun x => ef_S_l7Head x.1)
noncomputable def pl_S_l7Kind : Plan := ⟨[], [], 0, 0⟩
noncomputable def f_S_l7Kind (t0 : PV (.int .u8)) : Option (PVs [(.int .i64)] × PVs []) :=
  bif (t0 == 32) then
    some ((1, ()), ())
  else
    bif (t0 == 45) then
      some ((2, ()), ())
    else
      bif (t0 == 43) then
        some ((3, ()), ())
      else
        some ((0, ()), ())
noncomputable def ct_S_l7Kind : Ct := ⟨[(.bor, (.int .u8))], [((.int .i64), .b)], fun x => f_S_l7Kind x.1⟩
noncomputable def cx_S_l7Kind : Cx := ⟨tab, arrs, [], [], gl, []⟩
theorem ef_S_l7Kind (t0 : PV (.int .u8)) : denF cx_S_l7Kind 0 pl_S_l7Kind Tryz.f78.ntmps (bodyOf Tryz.f78) Tryz.f78.results.toList [(.bor, (.int .u8))] [((.int .i64), .b)] (t0, ()) = f_S_l7Kind t0 := by kernel_rfl
theorem ok_S_l7Kind : FnOk gl Tryz.prog 78 ct_S_l7Kind :=
  fnOk (cx := cx_S_l7Kind) (pl := pl_S_l7Kind) (dp := 0) (ok0_of tabOk (by unfold ArrOk; kernel_rfl) mix trivial trivial) Tryz.func78 (by kernel_rfl) (by kernel_rfl) (by kernel_rfl)
    (by rw [show loopsOf (bodyOf Tryz.f78) = [] from by kernel_rfl]; exact trivial) (fun x => ef_S_l7Kind x.1)
noncomputable def o_S_l7Rows_9 : List Out := [⟨.normal, ⟨[], [0, 1, 2, 8, 9, 10, 11, 17, 18, 19, 20, 51], []⟩, mkSh 75 [(0, .val S_string .b), (1, .val (.int .i64) .b), (2, .val (.int .i64) .b), (8, .val S_impl_Row (.row (.pr .b (.pr .b .b)))), (9, .val (.int .i64) .b), (10, .val (.int .i64) .b), (11, .val .str .b), (17, .val (.int .i64) .b), (18, .val (.int .i64) .b), (19, .val (.int .i64) .b), (20, .val .bool .b), (51, .val .bool .b)]⟩]
noncomputable def o_S_l7Rows_11 : List Out := [⟨.normal, ⟨[], [0, 1, 2, 8, 9, 10, 11, 17, 18, 19, 20, 42, 43, 44, 45, 46, 49, 50], []⟩, mkSh 75 [(0, .val S_string .b), (1, .val (.int .i64) .b), (2, .val (.int .i64) .b), (8, .val S_impl_Row (.row (.pr .b (.pr .b .b)))), (9, .val (.int .i64) .b), (10, .val (.int .i64) .b), (11, .val .str .b), (17, .val (.int .i64) .b), (18, .val (.int .i64) .b), (19, .val (.int .i64) .b), (20, .val .bool .b)]⟩]
noncomputable def o_S_l7Rows_13 : List Out := [⟨.normal, ⟨[], [0, 1, 2, 8, 9, 10, 11, 17, 18, 19, 20, 42, 43, 44, 45, 46, 49, 50], []⟩, mkSh 75 [(0, .val S_string .b), (1, .val (.int .i64) .b), (2, .val (.int .i64) .b), (8, .val S_impl_Row (.row (.pr .b (.pr .b .b)))), (9, .val (.int .i64) .b), (10, .val (.int .i64) .b), (11, .val .str .b), (17, .val (.int .i64) .b), (18, .val (.int .i64) .b), (19, .val (.int .i64) .b), (20, .val .bool .b)]⟩]
noncomputable def o_S_l7Rows_15 : List Out := [⟨.normal, ⟨[], [0, 1, 2, 8, 9, 10, 11, 17, 18, 19, 20, 42, 43, 44, 45, 46, 49, 50], []⟩, mkSh 75 [(0, .val S_string .b), (1, .val (.int .i64) .b), (2, .val (.int .i64) .b), (8, .val S_impl_Row (.row (.pr .b (.pr .b .b)))), (9, .val (.int .i64) .b), (10, .val (.int .i64) .b), (11, .val .str .b), (17, .val (.int .i64) .b), (18, .val (.int .i64) .b), (19, .val (.int .i64) .b), (20, .val .bool .b)]⟩]
noncomputable def sh_S_l7Rows_3 : List Sh := mkSh 75 [(0, .val S_string .b), (1, .val (.int .i64) .b), (2, .val (.int .i64) .b), (8, .val S_impl_Row (.row (.pr .b (.pr .b .b)))), (9, .val (.int .i64) .b)]
noncomputable def o_S_l7Rows_3 : List Out := [⟨.exit 0, ⟨[], [8, 9], []⟩, mkSh 75 [(8, .val S_impl_Row (.row (.pr .b (.pr .b .b)))), (9, .val (.int .i64) .b)]⟩]
noncomputable def b_S_l7Rows_3 (t0 : PV S_string) (t1 : PV (.int .i64)) (t2 : PV (.int .i64)) (t8 : PV S_impl_Row) (t9 : PV (.int .i64)) : Option ((PV S_string × PV (.int .i64) × PV (.int .i64) × PV S_impl_Row × PV (.int .i64) × Unit) ⊕ ((PV S_impl_Row × PV (.int .i64) × Unit))) :=
  bif (decide (t9 < (t0.length : Int))) then
    bif (decide ((IntKind.wrap .i64 (t1 + t2)) > 0)) then
      bif inB t9 t0.length then
        bif inB 0 (t0.getD t9.toNat []).length then
          (f_S_l7Kind (((t0.getD t9.toNat []).getD (0 : Int).toNat 0).toNat : Int)).bind fun r9 =>
            bif (r9.1.1 == 0) then
              some (.inr (t8, t9, ()))
            else
              bif inB t9 t0.length then
                bif cutB 1 ((t0.getD t9.toNat []).length : Int) (t0.getD t9.toNat []).length then
                  ((
                      ((
                          bif (decide ((IntKind.wrap .i64 (t9 + 1)) < (t0.length : Int))) then
                            bif inB (IntKind.wrap .i64 (t9 + 1)) t0.length then
                              bif ((t0.getD ((IntKind.wrap .i64 (t9 + 1)).toNat) []) == [92, 32, 110, 111, 110, 101, 10]) then
                                some (t0, t1, t2, t8, (IntKind.wrap .i64 (t9 + 1)), r9.1.1, (cutL 1 ((t0.getD t9.toNat []).length : Int) (t0.getD t9.toNat [])), t1, t2, (IntKind.wrap .i64 (t1 + t2)), (decide ((IntKind.wrap .i64 (t1 + t2)) > 0)), (!((cutL 1 ((t0.getD t9.toNat []).length : Int) (t0.getD t9.toNat [])) == [])), ())
                              else
                                some (t0, t1, t2, t8, (IntKind.wrap .i64 (t9 + 1)), r9.1.1, (cutL 1 ((t0.getD t9.toNat []).length : Int) (t0.getD t9.toNat [])), t1, t2, (IntKind.wrap .i64 (t1 + t2)), (decide ((IntKind.wrap .i64 (t1 + t2)) > 0)), false, ())
                            else
                              none
                          else
                            some (t0, t1, t2, t8, (IntKind.wrap .i64 (t9 + 1)), r9.1.1, (cutL 1 ((t0.getD t9.toNat []).length : Int) (t0.getD t9.toNat [])), t1, t2, (IntKind.wrap .i64 (t1 + t2)), (decide ((IntKind.wrap .i64 (t1 + t2)) > 0)), false, ()) : Option ((PV S_string × PV (.int .i64) × PV (.int .i64) × PV S_impl_Row × PV (.int .i64) × PV (.int .i64) × PV .str × PV (.int .i64) × PV (.int .i64) × PV (.int .i64) × PV .bool × PV .bool × Unit)))).bind fun j10 =>
                        bif j10.2.2.2.2.2.2.2.2.2.2.2.1 then
                          bif cutB 0 (IntKind.wrap .i64 ((j10.2.2.2.2.2.2.1.length : Int) - 1)) j10.2.2.2.2.2.2.1.length then
                            some (j10.1, j10.2.1, j10.2.2.1, j10.2.2.2.1, (IntKind.wrap .i64 (j10.2.2.2.2.1 + 1)), j10.2.2.2.2.2.1, (cutL 0 (IntKind.wrap .i64 ((j10.2.2.2.2.2.2.1.length : Int) - 1)) j10.2.2.2.2.2.2.1), j10.2.2.2.2.2.2.2.1, j10.2.2.2.2.2.2.2.2.1, j10.2.2.2.2.2.2.2.2.2.1, j10.2.2.2.2.2.2.2.2.2.2.1, ())
                          else
                            none
                        else
                          some (j10.1, j10.2.1, j10.2.2.1, j10.2.2.2.1, j10.2.2.2.2.1, j10.2.2.2.2.2.1, j10.2.2.2.2.2.2.1, j10.2.2.2.2.2.2.2.1, j10.2.2.2.2.2.2.2.2.1, j10.2.2.2.2.2.2.2.2.2.1, j10.2.2.2.2.2.2.2.2.2.2.1, ()) : Option ((PV S_string × PV (.int .i64) × PV (.int .i64) × PV S_impl_Row × PV (.int .i64) × PV (.int .i64) × PV .str × PV (.int .i64) × PV (.int .i64) × PV (.int .i64) × PV .bool × Unit)))).bind fun j11 =>
                    ((
                        bif (!(j11.2.2.2.2.2.1 == 3)) then
                          some (j11.1, (IntKind.wrap .i64 (j11.2.1 - 1)), j11.2.2.1, j11.2.2.2.1, j11.2.2.2.2.1, j11.2.2.2.2.2.1, j11.2.2.2.2.2.2.1, j11.2.2.2.2.2.2.2.1, j11.2.2.2.2.2.2.2.2.1, j11.2.2.2.2.2.2.2.2.2.1, j11.2.2.2.2.2.2.2.2.2.2.1, ())
                        else
                          some (j11.1, j11.2.1, j11.2.2.1, j11.2.2.2.1, j11.2.2.2.2.1, j11.2.2.2.2.2.1, j11.2.2.2.2.2.2.1, j11.2.2.2.2.2.2.2.1, j11.2.2.2.2.2.2.2.2.1, j11.2.2.2.2.2.2.2.2.2.1, j11.2.2.2.2.2.2.2.2.2.2.1, ()) : Option ((PV S_string × PV (.int .i64) × PV (.int .i64) × PV S_impl_Row × PV (.int .i64) × PV (.int .i64) × PV .str × PV (.int .i64) × PV (.int .i64) × PV (.int .i64) × PV .bool × Unit)))).bind fun j12 =>
                      ((
                          bif (!(j12.2.2.2.2.2.1 == 2)) then
                            some (j12.1, j12.2.1, (IntKind.wrap .i64 (j12.2.2.1 - 1)), j12.2.2.2.1, j12.2.2.2.2.1, j12.2.2.2.2.2.1, j12.2.2.2.2.2.2.1, j12.2.2.2.2.2.2.2.1, j12.2.2.2.2.2.2.2.2.1, j12.2.2.2.2.2.2.2.2.2.1, j12.2.2.2.2.2.2.2.2.2.2.1, ())
                          else
                            some (j12.1, j12.2.1, j12.2.2.1, j12.2.2.2.1, j12.2.2.2.2.1, j12.2.2.2.2.2.1, j12.2.2.2.2.2.2.1, j12.2.2.2.2.2.2.2.1, j12.2.2.2.2.2.2.2.2.1, j12.2.2.2.2.2.2.2.2.2.1, j12.2.2.2.2.2.2.2.2.2.2.1, ()) : Option ((PV S_string × PV (.int .i64) × PV (.int .i64) × PV S_impl_Row × PV (.int .i64) × PV (.int .i64) × PV .str × PV (.int .i64) × PV (.int .i64) × PV (.int .i64) × PV .bool × Unit)))).bind fun j13 =>
                        bif roomB (j13.2.2.2.1.length + [(j13.2.2.2.2.2.1, (j13.2.2.2.2.2.2.1, ()))].length) then
                          some (.inl (j13.1, j13.2.1, j13.2.2.1, (j13.2.2.2.1 ++ [(j13.2.2.2.2.2.1, (j13.2.2.2.2.2.2.1, ()))]), j13.2.2.2.2.1, ()))
                        else
                          none
                else
                  none
              else
                none
        else
          none
      else
        none
    else
      some (.inr (t8, t9, ()))
  else
    some (.inr (t8, t9, ()))
noncomputable def w_S_l7Rows_3 : PV S_string × PV (.int .i64) × PV (.int .i64) × PV S_impl_Row × PV (.int .i64) × Unit → Option ((PV S_impl_Row × PV (.int .i64) × Unit)) := fix fun d => b_S_l7Rows_3 d.1 d.2.1 d.2.2.1 d.2.2.2.1 d.2.2.2.2.1
noncomputable def lp_S_l7Rows_3 : Lp := ⟨⟨[], [0, 1, 2, 8, 9, 42, 43, 44, 45, 46, 49, 50], []⟩, sh_S_l7Rows_3, o_S_l7Rows_3, fun d => b_S_l7Rows_3 d.1 d.2.1 d.2.2.1 d.2.2.2.1 d.2.2.2.2.1⟩
noncomputable def pl_S_l7Rows : Plan := ⟨[(9, o_S_l7Rows_9), (11, o_S_l7Rows_11), (13, o_S_l7Rows_13), (15, o_S_l7Rows_15)], [(3, lp_S_l7Rows_3)], 0, 0⟩
noncomputable def f_S_l7Rows (t0 : PV S_string) (t1 : PV (.int .i64)) (t2 : PV (.int .i64)) : Option (PVs [S_impl_Row, (.int .i64)] × PVs []) :=
  (w_S_l7Rows_3 (t0, t1, t2, [], 0, ())).bind fun l15 =>
    some ((l15.1, l15.2.1, ()), ())
noncomputable def ct_S_l7Rows : Ct := ⟨[(.bor, S_string), (.bor, (.int .i64)), (.bor, (.int .i64))], [(S_impl_Row, (.row (.pr .b (.pr .b .b)))), ((.int .i64), .b)], fun x => f_S_l7Rows x.1 x.2.1 x.2.2.1⟩
noncomputable def cx_S_l7Rows : Cx := ⟨tab, arrs, [(78, ct_S_l7Kind)], [], gl, []⟩
theorem eb_S_l7Rows_3 (t0 : PV S_string) (t1 : PV (.int .i64)) (t2 : PV (.int .i64)) (t8 : PV S_impl_Row) (t9 : PV (.int .i64)) : denK cx_S_l7Rows (rcN cx_S_l7Rows 0) pl_S_l7Rows 0 ((loopsOf (bodyOf Tryz.f41)).getD 0 .skip) (fillS sh_S_l7Rows_3 (t0, t1, t2, t8, t9, ())) (roundK 0 lp_S_l7Rows_3) = b_S_l7Rows_3 t0 t1 t2 t8 t9 := by kernel_rfl
theorem ef_S_l7Rows (t0 : PV S_string) (t1 : PV (.int .i64)) (t2 : PV (.int .i64)) : denF cx_S_l7Rows 0 pl_S_l7Rows Tryz.f41.ntmps (bodyOf Tryz.f41) Tryz.f41.results.toList [(.bor, S_string), (.bor, (.int .i64)), (.bor, (.int .i64))] [(S_impl_Row, (.row (.pr .b (.pr .b .b)))), ((.int .i64), .b)] (t0, t1, t2, ()) = f_S_l7Rows t0 t1 t2 := by kernel_rfl
theorem ok_S_l7Rows : FnOk gl Tryz.prog 41 ct_S_l7Rows :=
  fnOk (cx := cx_S_l7Rows) (pl := pl_S_l7Rows) (dp := 0) (ok0_of tabOk (by unfold ArrOk; kernel_rfl) mix ⟨ok_S_l7Kind, trivial⟩ trivial) Tryz.func41 (by kernel_rfl) (by kernel_rfl) (by kernel_rfl)
    (by rw [show loopsOf (bodyOf Tryz.f41) = [((loopsOf (bodyOf Tryz.f41)).getD 0 .skip)] from by kernel_rfl]; exact ⟨(by rw [show lookup pl_S_l7Rows.loops (firstId ((loopsOf (bodyOf Tryz.f41)).getD 0 .skip)) = some lp_S_l7Rows_3 from by kernel_rfl]; exact fun d z h => (eb_S_l7Rows_3 d.1 d.2.1 d.2.2.1 d.2.2.2.1 d.2.2.2.2.1).trans h), trivial⟩) (fun x => ef_S_l7Rows x.1 x.2.1 x.2.2.1)
noncomputable def sh_S_l1Text_3 : List Sh := mkSh 17 [(3, .val .str .b), (6, .val S_string .b), (7, .val (.int .i64) .b), (8, .val (.int .i64) .b)]
noncomputable def o_S_l1Text_3 : List Out := [⟨.exit 0, ⟨[], [3], []⟩, mkSh 17 [(3, .val .str .b)]⟩]
noncomputable def b_S_l1Text_3 (t3 : PV .str) (t6 : PV S_string) (t7 : PV (.int .i64)) (t8 : PV (.int .i64)) : Option ((PV .str × PV S_string × PV (.int .i64) × PV (.int .i64) × Unit) ⊕ ((PV .str × Unit))) :=
  bif (decide (t8 < t7)) then
    bif inB t8 t6.length then
      bif decide (t3.length + (t6.getD t8.toNat []).length ≤ 1099511627776) then
        some (.inl ((t3 ++ (t6.getD t8.toNat [])), t6, t7, (IntKind.wrap .i64 (t8 + 1)), ()))
      else
        none
    else
      none
  else
    some (.inr (t3, ()))
noncomputable def w_S_l1Text_3 : PV .str × PV S_string × PV (.int .i64) × PV (.int .i64) × Unit → Option ((PV .str × Unit)) := fix fun d => b_S_l1Text_3 d.1 d.2.1 d.2.2.1 d.2.2.2.1
noncomputable def lp_S_l1Text_3 : Lp := ⟨⟨[], [3, 6, 7, 8], []⟩, sh_S_l1Text_3, o_S_l1Text_3, fun d => b_S_l1Text_3 d.1 d.2.1 d.2.2.1 d.2.2.2.1⟩
noncomputable def pl_S_l1Text : Plan := ⟨[], [(3, lp_S_l1Text_3)], 0, 0⟩
noncomputable def f_S_l1Text (t0 : PV S_string) : Option (PVs [.str] × PVs []) :=
  (w_S_l1Text_3 ([], t0, (t0.length : Int), 0, ())).bind fun l2 =>
    some ((l2.1, ()), ())
noncomputable def ct_S_l1Text : Ct := ⟨[(.bor, S_string)], [(.str, .b)], fun x => f_S_l1Text x.1⟩
noncomputable def cx_S_l1Text : Cx := ⟨tab, arrs, [], [], gl, []⟩
theorem eb_S_l1Text_3 (t3 : PV .str) (t6 : PV S_string) (t7 : PV (.int .i64)) (t8 : PV (.int .i64)) : denK cx_S_l1Text (rcN cx_S_l1Text 0) pl_S_l1Text 0 ((loopsOf (bodyOf Tryz.f43)).getD 0 .skip) (fillS sh_S_l1Text_3 (t3, t6, t7, t8, ())) (roundK 0 lp_S_l1Text_3) = b_S_l1Text_3 t3 t6 t7 t8 := by kernel_rfl
theorem ef_S_l1Text (t0 : PV S_string) : denF cx_S_l1Text 0 pl_S_l1Text Tryz.f43.ntmps (bodyOf Tryz.f43) Tryz.f43.results.toList [(.bor, S_string)] [(.str, .b)] (t0, ()) = f_S_l1Text t0 := by kernel_rfl
theorem ok_S_l1Text : FnOk gl Tryz.prog 43 ct_S_l1Text :=
  fnOk (cx := cx_S_l1Text) (pl := pl_S_l1Text) (dp := 0) (ok0_of tabOk (by unfold ArrOk; kernel_rfl) mix trivial trivial) Tryz.func43 (by kernel_rfl) (by kernel_rfl) (by kernel_rfl)
    (by rw [show loopsOf (bodyOf Tryz.f43) = [((loopsOf (bodyOf Tryz.f43)).getD 0 .skip)] from by kernel_rfl]; exact ⟨(by rw [show lookup pl_S_l1Text.loops (firstId ((loopsOf (bodyOf Tryz.f43)).getD 0 .skip)) = some lp_S_l1Text_3 from by kernel_rfl]; exact fun d z h => (eb_S_l1Text_3 d.1 d.2.1 d.2.2.1 d.2.2.2.1).trans h), trivial⟩) (fun x => ef_S_l1Text x.1)
end R
