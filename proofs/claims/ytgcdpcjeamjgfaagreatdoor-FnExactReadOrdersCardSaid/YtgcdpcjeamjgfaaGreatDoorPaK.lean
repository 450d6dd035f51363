/- The functions, part 2. -/
import Derived.Test.YtgcdpcjeamjgfaaGreatDoorPaK1
open Go Go.Dn Go.Proofs
namespace R
set_option linter.unusedVariables false
set_option maxRecDepth 20000
open Go.Shelf
noncomputable def o_I_OrdersText_10 : List Out := [⟨.normal, ⟨[], [4, 10, 11, 12], []⟩, mkSh 44 [(4, .val .str .b), (10, .val S_impl_Order .b), (11, .val (.int .i64) .b), (12, .val (.int .i64) .b)]⟩]
noncomputable def sh_I_OrdersText_5 : List Sh := mkSh 44 [(4, .val .str .b), (10, .val S_impl_Order .b), (11, .val (.int .i64) .b), (12, .val (.int .i64) .b)]
noncomputable def o_I_OrdersText_5 : List Out := [⟨.exit 0, ⟨[], [4], []⟩, mkSh 44 [(4, .val .str .b)]⟩]
noncomputable def b_I_OrdersText_5 (t4 : PV .str) (t10 : PV S_impl_Order) (t11 : PV (.int .i64)) (t12 : PV (.int .i64)) : Option ((PV .str × PV S_impl_Order × PV (.int .i64) × PV (.int .i64) × Unit) ⊕ ((PV .str × Unit))) :=
  bif (decide (t12 < t11)) then
    ((
        bif inB t12 t10.length then
          (f_I_pairOf (((t10.getD t12.toNat (dflt Y_impl_Order)).2).1) ((((t10.getD t12.toNat (dflt Y_impl_Order)).2).2).1)).bind fun r7 =>
            bif inB ((t10.getD t12.toNat (dflt Y_impl_Order)).1) gs0.length then
              bif decide (r7.1.1.length + (gs0.getD ((t10.getD t12.toNat (dflt Y_impl_Order)).1).toNat []).length ≤ 1099511627776) then
                bif decide ((r7.1.1 ++ (gs0.getD ((t10.getD t12.toNat (dflt Y_impl_Order)).1).toNat [])).length + [10].length ≤ 1099511627776) then
                  (f_strings_Join (((((t10.getD t12.toNat (dflt Y_impl_Order)).2).2).2).1) []).bind fun r8 =>
                    bif decide (((r7.1.1 ++ (gs0.getD ((t10.getD t12.toNat (dflt Y_impl_Order)).1).toNat [])) ++ [10]).length + r8.1.1.length ≤ 1099511627776) then
                      bif decide (t4.length + (((r7.1.1 ++ (gs0.getD ((t10.getD t12.toNat (dflt Y_impl_Order)).1).toNat [])) ++ [10]) ++ r8.1.1).length ≤ 1099511627776) then
                        bif (decide (((((((t10.getD t12.toNat (dflt Y_impl_Order)).2).2).2).1).length : Int) > 0)) then
                          bif decide ((t4 ++ (((r7.1.1 ++ (gs0.getD ((t10.getD t12.toNat (dflt Y_impl_Order)).1).toNat [])) ++ [10]) ++ r8.1.1)).length + [46, 10].length ≤ 1099511627776) then
                            some (((t4 ++ (((r7.1.1 ++ (gs0.getD ((t10.getD t12.toNat (dflt Y_impl_Order)).1).toNat [])) ++ [10]) ++ r8.1.1)) ++ [46, 10]), t10, t11, t12, ())
                          else
                            none
                        else
                          some ((t4 ++ (((r7.1.1 ++ (gs0.getD ((t10.getD t12.toNat (dflt Y_impl_Order)).1).toNat [])) ++ [10]) ++ r8.1.1)), t10, t11, t12, ())
                      else
                        none
                    else
                      none
                else
                  none
              else
                none
            else
              none
        else
          none : Option ((PV .str × PV S_impl_Order × PV (.int .i64) × PV (.int .i64) × Unit)))).bind fun j9 =>
      some (.inl (j9.1, j9.2.1, j9.2.2.1, (IntKind.wrap .i64 (j9.2.2.2.1 + 1)), ()))
  else
    some (.inr (t4, ()))
noncomputable def w_I_OrdersText_5 : PV .str × PV S_impl_Order × PV (.int .i64) × PV (.int .i64) × Unit → Option ((PV .str × Unit)) := fix fun d => b_I_OrdersText_5 d.1 d.2.1 d.2.2.1 d.2.2.2.1
noncomputable def lp_I_OrdersText_5 : Lp := ⟨⟨[], [4, 10, 11, 12], []⟩, sh_I_OrdersText_5, o_I_OrdersText_5, fun d => b_I_OrdersText_5 d.1 d.2.1 d.2.2.1 d.2.2.2.1⟩
noncomputable def pl_I_OrdersText : Plan := ⟨[(10, o_I_OrdersText_10)], [(5, lp_I_OrdersText_5)], 0, 0⟩
noncomputable def f_I_OrdersText (t0 : PV S_impl_Order) : Option (PVs [.str, .bool] × PVs []) :=
  (f_I_goodOrders t0).bind fun r4 =>
    bif (!r4.1.1) then
      some (([], false, ()), ())
    else
      (w_I_OrdersText_5 ([], t0, (t0.length : Int), 0, ())).bind fun l11 =>
        (f_I_short l11.1).bind fun r12 =>
          some ((r12.1.1, r12.1.2.1, ()), ())
noncomputable def ct_I_OrdersText : Ct := ⟨[(.bor, S_impl_Order)], [(.str, .b), (.bool, .b)], fun x => f_I_OrdersText x.1⟩
noncomputable def cx_I_OrdersText : Cx := ⟨tab, arrs, [(29, ct_I_goodOrders), (30, ct_I_pairOf), (31, ct_strings_Join), (32, ct_I_short)], [], gl, []⟩
theorem eb_I_OrdersText_5 (t4 : PV .str) (t10 : PV S_impl_Order) (t11 : PV (.int .i64)) (t12 : PV (.int .i64)) : denK cx_I_OrdersText (rcN cx_I_OrdersText 0) pl_I_OrdersText 0 ((loopsOf (bodyOf Tryz.f12)).getD 0 .skip) (fillS sh_I_OrdersText_5 (t4, t10, t11, t12, ())) (roundK 0 lp_I_OrdersText_5) = b_I_OrdersText_5 t4 t10 t11 t12 := by kernel_rfl
theorem ef_I_OrdersText (t0 : PV S_impl_Order) : denF cx_I_OrdersText 0 pl_I_OrdersText Tryz.f12.ntmps (bodyOf Tryz.f12) Tryz.f12.results.toList [(.bor, S_impl_Order)] [(.str, .b), (.bool, .b)] (t0, ()) = f_I_OrdersText t0 := by kernel_rfl
theorem ok_I_OrdersText : FnOk gl Tryz.prog 12 ct_I_OrdersText :=
  fnOk (cx := cx_I_OrdersText) (pl := pl_I_OrdersText) (dp := 0) (ok0_of tabOk (by unfold ArrOk; kernel_rfl) mix ⟨ok_I_goodOrders, ok_I_pairOf, ok_strings_Join, ok_I_short, trivial⟩ trivial) Tryz.func12 (by kernel_rfl) (by kernel_rfl) (by kernel_rfl)
    (by rw [show loopsOf (bodyOf Tryz.f12) = [((loopsOf (bodyOf Tryz.f12)).getD 0 .skip)] from by kernel_rfl]; exact ⟨(by rw [show lookup pl_I_OrdersText.loops (firstId ((loopsOf (bodyOf Tryz.f12)).getD 0 .skip)) = some lp_I_OrdersText_5 from by kernel_rfl]; exact fun d z h => (eb_I_OrdersText_5 d.1 d.2.1 d.2.2.1 d.2.2.2.1).trans h), trivial⟩) (fun x => ef_I_OrdersText x.1)
noncomputable def o_I_ReadOrders_5 : List Out := [⟨.normal, ⟨[], [5, 31], []⟩, mkSh 33 [(5, .val S_impl_Order (.row (.pr .b (.pr .b (.pr .b (.pr (.row .b) .b)))))), (31, .val .bool .b)]⟩]
noncomputable def o_I_ReadOrders_6 : List Out := [⟨.normal, ⟨[], [], []⟩, mkSh 33 []⟩, ⟨.ret, ⟨[], [2, 3, 4], []⟩, mkSh 33 [(2, .val S_impl_Order (.row (.pr .b (.pr .b (.pr .b (.pr (.row .b) .b)))))), (3, .val (.int .i64) .b), (4, .val .bool .b)]⟩]
noncomputable def pl_I_ReadOrders : Plan := ⟨[(5, o_I_ReadOrders_5), (6, o_I_ReadOrders_6)], [], 0, 0⟩
noncomputable def f_I_ReadOrders (t0 : PV .str) : Option (PVs [S_impl_Order, (.int .i64), .bool] × PVs []) :=
  ((
      bif (decide ((t0.length : Int) ≤ 3000)) then
        (f_I_linesOf t0).bind fun r10 =>
          (f_I_readOrders r10.1.1).bind fun r11 =>
            (f_I_OrdersText r11.1.1).bind fun r13 =>
              ((
                  bif r11.1.2.1 then
                    bif r13.1.2.1 then
                      some (r11.1.1, (r13.1.1 == t0), ())
                    else
                      some (r11.1.1, false, ())
                  else
                    some (r11.1.1, false, ()) : Option ((PV S_impl_Order × PV .bool × Unit)))).bind fun j14 =>
                bif j14.2.1 then
                  some (.inr (j14.1, 0, true, ()))
                else
                  some (.inl ())
      else
        some (.inl ()) : Option ((Unit) ⊕ (PV S_impl_Order × PV (.int .i64) × PV .bool × Unit)))).bind fun x17 =>
    match x17 with
    | .inl j15 =>
      some (([], 1, false, ()), ())
    | .inr j16 =>
      some ((j16.1, j16.2.1, j16.2.2.1, ()), ())
noncomputable def ct_I_ReadOrders : Ct := ⟨[(.bor, .str)], [(S_impl_Order, (.row (.pr .b (.pr .b (.pr .b (.pr (.row .b) .b)))))), ((.int .i64), .b), (.bool, .b)], fun x => f_I_ReadOrders x.1⟩
noncomputable def cx_I_ReadOrders : Cx := ⟨tab, arrs, [(12, ct_I_OrdersText), (23, ct_I_readOrders), (24, ct_I_linesOf)], [], gl, []⟩
theorem ef_I_ReadOrders (t0 : PV .str) : denF cx_I_ReadOrders 0 pl_I_ReadOrders Tryz.f6.ntmps (bodyOf Tryz.f6) Tryz.f6.results.toList [(.bor, .str)] [(S_impl_Order, (.row (.pr .b (.pr .b (.pr .b (.pr (.row .b) .b)))))), ((.int .i64), .b), (.bool, .b)] (t0, ()) = f_I_ReadOrders t0 := by kernel_rfl
theorem ok_I_ReadOrders : FnOk gl Tryz.prog 6 ct_I_ReadOrders :=
  fnOk (cx := cx_I_ReadOrders) (pl := pl_I_ReadOrders) (dp := 0) (ok0_of tabOk (by unfold ArrOk; kernel_rfl) mix ⟨ok_I_OrdersText, ok_I_readOrders, ok_I_linesOf, trivial⟩ trivial) Tryz.func6 (by kernel_rfl) (by kernel_rfl) (by kernel_rfl)
    (by rw [show loopsOf (bodyOf Tryz.f6) = [] from by kernel_rfl]; exact trivial) (fun x => ef_I_ReadOrders x.1)
noncomputable def sh_L_eqStringS_4 : List Sh := mkSh 26 [(0, .val S_string .b), (1, .val S_string .b), (5, .val (.int .i64) .b)]
noncomputable def o_L_eqStringS_4 : List Out := [⟨.exit 0, ⟨[], [], []⟩, mkSh 26 []⟩, ⟨.ret, ⟨[], [4], []⟩, mkSh 26 [(4, .val .bool .b)]⟩]
noncomputable def b_L_eqStringS_4 (t0 : PV S_string) (t1 : PV S_string) (t5 : PV (.int .i64)) : Option ((PV S_string × PV S_string × PV (.int .i64) × Unit) ⊕ ((Unit) ⊕ (PV .bool × Unit))) :=
  bif (decide (t5 < (t0.length : Int))) then
    bif inB t5 t0.length then
      bif inB t5 t1.length then
        bif (!((t0.getD t5.toNat []) == (t1.getD t5.toNat []))) then
          some (.inr (.inr (false, ())))
        else
          some (.inl (t0, t1, (IntKind.wrap .i64 (t5 + 1)), ()))
      else
        none
    else
      none
  else
    some (.inr (.inl ()))
noncomputable def w_L_eqStringS_4 : PV S_string × PV S_string × PV (.int .i64) × Unit → Option ((Unit) ⊕ (PV .bool × Unit)) := fix fun d => b_L_eqStringS_4 d.1 d.2.1 d.2.2.1
noncomputable def lp_L_eqStringS_4 : Lp := ⟨⟨[], [0, 1, 5], []⟩, sh_L_eqStringS_4, o_L_eqStringS_4, fun d => b_L_eqStringS_4 d.1 d.2.1 d.2.2.1⟩
noncomputable def pl_L_eqStringS : Plan := ⟨[], [(4, lp_L_eqStringS_4)], 0, 0⟩
noncomputable def f_L_eqStringS (t0 : PV S_string) (t1 : PV S_string) : Option (PVs [.bool] × PVs []) :=
  bif (!((t0.length : Int) == (t1.length : Int))) then
    some ((false, ()), ())
  else
    (w_L_eqStringS_4 (t0, t1, 0, ())).bind fun x5 =>
      match x5 with
      | .inl l3 =>
        some ((true, ()), ())
      | .inr l4 =>
        some ((l4.1, ()), ())
noncomputable def ct_L_eqStringS : Ct := ⟨[(.bor, S_string), (.bor, S_string)], [(.bool, .b)], fun x => f_L_eqStringS x.1 x.2.1⟩
noncomputable def cx_L_eqStringS : Cx := ⟨tab, arrs, [], [], gl, []⟩
theorem eb_L_eqStringS_4 (t0 : PV S_string) (t1 : PV S_string) (t5 : PV (.int .i64)) : denK cx_L_eqStringS (rcN cx_L_eqStringS 0) pl_L_eqStringS 0 ((loopsOf (bodyOf Tryz.f50)).getD 0 .skip) (fillS sh_L_eqStringS_4 (t0, t1, t5, ())) (roundK 0 lp_L_eqStringS_4) = b_L_eqStringS_4 t0 t1 t5 := by kernel_rfl
theorem ef_L_eqStringS (t0 : PV S_string) (t1 : PV S_string) : denF cx_L_eqStringS 0 pl_L_eqStringS Tryz.f50.ntmps (bodyOf Tryz.f50) Tryz.f50.results.toList [(.bor, S_string), (.bor, S_string)] [(.bool, .b)] (t0, t1, ()) = f_L_eqStringS t0 t1 := by kernel_rfl
theorem ok_L_eqStringS : FnOk gl Tryz.prog 50 ct_L_eqStringS :=
  fnOk (cx := cx_L_eqStringS) (pl := pl_L_eqStringS) (dp := 0) (ok0_of tabOk (by unfold ArrOk; kernel_rfl) mix trivial trivial) Tryz.func50 (by kernel_rfl) (by kernel_rfl) (by kernel_rfl)
    (by rw [show loopsOf (bodyOf Tryz.f50) = [((loopsOf (bodyOf Tryz.f50)).getD 0 .skip)] from by kernel_rfl]; exact ⟨(by rw [show lookup pl_L_eqStringS.loops (firstId ((loopsOf (bodyOf Tryz.f50)).getD 0 .skip)) = some lp_L_eqStringS_4 from by kernel_rfl]; exact fun d z h => (eb_L_eqStringS_4 d.1 d.2.1 d.2.2.1).trans h), trivial⟩) (fun x => ef_L_eqStringS x.1 x.2.1)
noncomputable def pl_L_eqOrder : Plan := ⟨[], [], 0, 0⟩
noncomputable def f_L_eqOrder (t0 : PV Y_impl_Order) (t1 : PV Y_impl_Order) : Option (PVs [.bool] × PVs []) :=
  bif (!(t0.1 == t1.1)) then
    some ((false, ()), ())
  else
    bif (!(t0.2.1 == t1.2.1)) then
      some ((false, ()), ())
    else
      bif (!(t0.2.2.1 == t1.2.2.1)) then
        some ((false, ()), ())
      else
        (f_L_eqStringS t0.2.2.2.1 t1.2.2.2.1).bind fun r4 =>
          bif (!r4.1.1) then
            some ((false, ()), ())
          else
            some ((true, ()), ())
noncomputable def ct_L_eqOrder : Ct := ⟨[(.bor, Y_impl_Order), (.bor, Y_impl_Order)], [(.bool, .b)], fun x => f_L_eqOrder x.1 x.2.1⟩
noncomputable def cx_L_eqOrder : Cx := ⟨tab, arrs, [(50, ct_L_eqStringS)], [], gl, []⟩
theorem ef_L_eqOrder (t0 : PV Y_impl_Order) (t1 : PV Y_impl_Order) : denF cx_L_eqOrder 0 pl_L_eqOrder Tryz.f25.ntmps (bodyOf Tryz.f25) Tryz.f25.results.toList [(.bor, Y_impl_Order), (.bor, Y_impl_Order)] [(.bool, .b)] (t0, t1, ()) = f_L_eqOrder t0 t1 := by kernel_rfl
theorem ok_L_eqOrder : FnOk gl Tryz.prog 25 ct_L_eqOrder :=
  fnOk (cx := cx_L_eqOrder) (pl := pl_L_eqOrder) (dp := 0) (ok0_of tabOk (by unfold ArrOk; kernel_rfl) mix ⟨ok_L_eqStringS, trivial⟩ trivial) Tryz.func25 (by kernel_rfl) (by kernel_rfl) (by kernel_rfl)
    (by rw [show loopsOf (bodyOf Tryz.f25) = [] from by kernel_rfl]; exact trivial) (fun x => ef_L_eqOrder x.1 x.2.1)
noncomputable def sh_L_eqOrderS_4 : List Sh := mkSh 27 [(0, .val S_impl_Order .b), (1, .val S_impl_Order .b), (5, .val (.int .i64) .b)]
noncomputable def o_L_eqOrderS_4 : List Out := [⟨.exit 0, ⟨[], [], []⟩, mkSh 27 []⟩, ⟨.ret, ⟨[], [4], []⟩, mkSh 27 [(4, .val .bool .b)]⟩]
noncomputable def b_L_eqOrderS_4 (t0 : PV S_impl_Order) (t1 : PV S_impl_Order) (t5 : PV (.int .i64)) : Option ((PV S_impl_Order × PV S_impl_Order × PV (.int .i64) × Unit) ⊕ ((Unit) ⊕ (PV .bool × Unit))) :=
  bif (decide (t5 < (t0.length : Int))) then
    bif inB t5 t0.length then
      bif inB t5 t1.length then
        (f_L_eqOrder (t0.getD t5.toNat (dflt Y_impl_Order)) (t1.getD t5.toNat (dflt Y_impl_Order))).bind fun r4 =>
          bif (!r4.1.1) then
            some (.inr (.inr (false, ())))
          else
            some (.inl (t0, t1, (IntKind.wrap .i64 (t5 + 1)), ()))
      else
        none
    else
      none
  else
    some (.inr (.inl ()))
noncomputable def w_L_eqOrderS_4 : PV S_impl_Order × PV S_impl_Order × PV (.int .i64) × Unit → Option ((Unit) ⊕ (PV .bool × Unit)) := fix fun d => b_L_eqOrderS_4 d.1 d.2.1 d.2.2.1
noncomputable def lp_L_eqOrderS_4 : Lp := ⟨⟨[], [0, 1, 5], []⟩, sh_L_eqOrderS_4, o_L_eqOrderS_4, fun d => b_L_eqOrderS_4 d.1 d.2.1 d.2.2.1⟩
noncomputable def pl_L_eqOrderS : Plan := ⟨[], [(4, lp_L_eqOrderS_4)], 0, 0⟩
noncomputable def f_L_eqOrderS (t0 : PV S_impl_Order) (t1 : PV S_impl_Order) : Option (PVs [.bool] × PVs []) :=
  bif (!((t0.length : Int) == (t1.length : Int))) then
    some ((false, ()), ())
  else
    (w_L_eqOrderS_4 (t0, t1, 0, ())).bind fun x9 =>
      match x9 with
      | .inl l7 =>
        some ((true, ()), ())
      | .inr l8 =>
        some ((l8.1, ()), ())
noncomputable def ct_L_eqOrderS : Ct := ⟨[(.bor, S_impl_Order), (.bor, S_impl_Order)], [(.bool, .b)], fun x => f_L_eqOrderS x.1 x.2.1⟩
noncomputable def cx_L_eqOrderS : Cx := ⟨tab, arrs, [(25, ct_L_eqOrder)], [], gl, []⟩
theorem eb_L_eqOrderS_4 (t0 : PV S_impl_Order) (t1 : PV S_impl_Order) (t5 : PV (.int .i64)) : denK cx_L_eqOrderS (rcN cx_L_eqOrderS 0) pl_L_eqOrderS 0 ((loopsOf (bodyOf Tryz.f7)).getD 0 .skip) (fillS sh_L_eqOrderS_4 (t0, t1, t5, ())) (roundK 0 lp_L_eqOrderS_4) = b_L_eqOrderS_4 t0 t1 t5 := by kernel_rfl
theorem ef_L_eqOrderS (t0 : PV S_impl_Order) (t1 : PV S_impl_Order) : denF cx_L_eqOrderS 0 pl_L_eqOrderS Tryz.f7.ntmps (bodyOf Tryz.f7) Tryz.f7.results.toList [(.bor, S_impl_Order), (.bor, S_impl_Order)] [(.bool, .b)] (t0, t1, ()) = f_L_eqOrderS t0 t1 := by kernel_rfl
theorem ok_L_eqOrderS : FnOk gl Tryz.prog 7 ct_L_eqOrderS :=
  fnOk (cx := cx_L_eqOrderS) (pl := pl_L_eqOrderS) (dp := 0) (ok0_of tabOk (by unfold ArrOk; kernel_rfl) mix ⟨ok_L_eqOrder, trivial⟩ trivial) Tryz.func7 (by kernel_rfl) (by kernel_rfl) (by kernel_rfl)
    (by rw [show loopsOf (bodyOf Tryz.f7) = [((loopsOf (bodyOf Tryz.f7)).getD 0 .skip)] from by kernel_rfl]; exact ⟨(by rw [show lookup pl_L_eqOrderS.loops (firstId ((loopsOf (bodyOf Tryz.f7)).getD 0 .skip)) = some lp_L_eqOrderS_4 from by kernel_rfl]; exact fun d z h => (eb_L_eqOrderS_4 d.1 d.2.1 d.2.2.1).trans h), trivial⟩) (fun x => ef_L_eqOrderS x.1 x.2.1)
noncomputable def sh_L_markText_4 : List Sh := mkSh 20 [(0, .val (.int .i64) .b), (3, .val .str .b)]
noncomputable def o_L_markText_4 : List Out := [⟨.exit 0, ⟨[], [3], []⟩, mkSh 20 [(3, .val .str .b)]⟩]
noncomputable def b_L_markText_4 (t0 : PV (.int .i64)) (t3 : PV .str) : Option ((PV (.int .i64) × PV .str × Unit) ⊕ ((PV .str × Unit))) :=
  bif (decide (t0 > 0)) then
    bif 10 == 0 then
      none
    else
      bif decide ((bytesOfInts [(IntKind.wrap .u8 (IntKind.wrap .i64 (48 + (t0.tmod 10))))]).length + t3.length ≤ 1099511627776) then
        bif 10 == 0 then
          none
        else
          some (.inl ((IntKind.wrap .i64 (t0.tdiv 10)), ((bytesOfInts [(IntKind.wrap .u8 (IntKind.wrap .i64 (48 + (t0.tmod 10))))]) ++ t3), ()))
      else
        none
  else
    some (.inr (t3, ()))
noncomputable def w_L_markText_4 : PV (.int .i64) × PV .str × Unit → Option ((PV .str × Unit)) := fix fun d => b_L_markText_4 d.1 d.2.1
noncomputable def lp_L_markText_4 : Lp := ⟨⟨[], [0, 3], []⟩, sh_L_markText_4, o_L_markText_4, fun d => b_L_markText_4 d.1 d.2.1⟩
noncomputable def pl_L_markText : Plan := ⟨[], [(4, lp_L_markText_4)], 0, 0⟩
noncomputable def f_L_markText (t0 : PV (.int .i64)) : Option (PVs [.str] × PVs []) :=
  bif (decide (t0 ≤ 0)) then
    some (([109, 48], ()), ())
  else
    (w_L_markText_4 (t0, [], ())).bind fun l2 =>
      bif decide ([109].length + l2.1.length ≤ 1099511627776) then
        some ((([109] ++ l2.1), ()), ())
      else
        none
noncomputable def ct_L_markText : Ct := ⟨[(.bor, (.int .i64))], [(.str, .b)], fun x => f_L_markText x.1⟩
noncomputable def cx_L_markText : Cx := ⟨tab, arrs, [], [], gl, []⟩
theorem eb_L_markText_4 (t0 : PV (.int .i64)) (t3 : PV .str) : denK cx_L_markText (rcN cx_L_markText 0) pl_L_markText 0 ((loopsOf (bodyOf Tryz.f51)).getD 0 .skip) (fillS sh_L_markText_4 (t0, t3, ())) (roundK 0 lp_L_markText_4) = b_L_markText_4 t0 t3 := by kernel_rfl
theorem ef_L_markText (t0 : PV (.int .i64)) : denF cx_L_markText 0 pl_L_markText Tryz.f51.ntmps (bodyOf Tryz.f51) Tryz.f51.results.toList [(.bor, (.int .i64))] [(.str, .b)] (t0, ()) = f_L_markText t0 := by kernel_rfl
theorem ok_L_markText : FnOk gl Tryz.prog 51 ct_L_markText :=
  fnOk (cx := cx_L_markText) (pl := pl_L_markText) (dp := 0) (ok0_of tabOk (by unfold ArrOk; kernel_rfl) mix trivial trivial) Tryz.func51 (by kernel_rfl) (by kernel_rfl) (by kernel_rfl)
    (by rw [show loopsOf (bodyOf Tryz.f51) = [((loopsOf (bodyOf Tryz.f51)).getD 0 .skip)] from by kernel_rfl]; exact ⟨(by rw [show lookup pl_L_markText.loops (firstId ((loopsOf (bodyOf Tryz.f51)).getD 0 .skip)) = some lp_L_markText_4 from by kernel_rfl]; exact fun d z h => (eb_L_markText_4 d.1 d.2.1).trans h), trivial⟩) (fun x => ef_L_markText x.1)
noncomputable def sh_L_markStringS_2 : List Sh := mkSh 21 [(0, .val S_string (.row .b)), (1, .sub ⟨0, [], 0, 0⟩), (2, .val (.int .i64) .b), (6, .val (.int .i64) .b)]
noncomputable def o_L_markStringS_2 : List Out := [⟨.exit 0, ⟨[], [1], []⟩, mkSh 21 [(0, .val S_string (.row .b)), (2, .val (.int .i64) .b)]⟩]
noncomputable def b_L_markStringS_2 (t0 : PV S_string) (t2 : PV (.int .i64)) (t6 : PV (.int .i64)) : Option ((PV S_string × PV (.int .i64) × PV (.int .i64) × Unit) ⊕ ((PV S_string × PV (.int .i64) × Unit))) :=
  bif (decide (t6 < (t0.length : Int))) then
    (f_L_markText t2).bind fun r4 =>
      bif inB t6 t0.length then
        some (.inl ((t0.set t6.toNat r4.1.1), (IntKind.wrap .i64 (t2 + 1)), (IntKind.wrap .i64 (t6 + 1)), ()))
      else
        none
  else
    some (.inr (t0, t2, ()))
noncomputable def w_L_markStringS_2 : PV S_string × PV (.int .i64) × PV (.int .i64) × Unit → Option ((PV S_string × PV (.int .i64) × Unit)) := fix fun d => b_L_markStringS_2 d.1 d.2.1 d.2.2.1
noncomputable def lp_L_markStringS_2 : Lp := ⟨⟨[], [0, 1, 5], []⟩, sh_L_markStringS_2, o_L_markStringS_2, fun d => b_L_markStringS_2 d.1 d.2.1 d.2.2.1⟩
noncomputable def pl_L_markStringS : Plan := ⟨[], [(2, lp_L_markStringS_2)], 0, 1⟩
noncomputable def f_L_markStringS (t0 : PV S_string) (t1 : PV (.int .i64)) : Option (PVs [(.int .i64)] × PVs [S_string]) :=
  (w_L_markStringS_2 (t0, t1, 0, ())).bind fun l6 =>
    some ((l6.2.1, ()), (l6.1, ()))
noncomputable def ct_L_markStringS : Ct := ⟨[(.mut, S_string), (.bor, (.int .i64))], [((.int .i64), .b)], fun x => f_L_markStringS x.1 x.2.1⟩
noncomputable def cx_L_markStringS : Cx := ⟨tab, arrs, [(51, ct_L_markText)], [], gl, []⟩
theorem eb_L_markStringS_2 (t0 : PV S_string) (t2 : PV (.int .i64)) (t6 : PV (.int .i64)) : denK cx_L_markStringS (rcN cx_L_markStringS 0) pl_L_markStringS 1 ((loopsOf (bodyOf Tryz.f26)).getD 0 .skip) (fillS sh_L_markStringS_2 (t0, t2, t6, ())) (roundK 1 lp_L_markStringS_2) = b_L_markStringS_2 t0 t2 t6 := by kernel_rfl
theorem ef_L_markStringS (t0 : PV S_string) (t1 : PV (.int .i64)) : denF cx_L_markStringS 0 pl_L_markStringS Tryz.f26.ntmps (bodyOf Tryz.f26) Tryz.f26.results.toList [(.mut, S_string), (.bor, (.int .i64))] [((.int .i64), .b)] (t0, t1, ()) = f_L_markStringS t0 t1 := by kernel_rfl
theorem ok_L_markStringS : FnOk gl Tryz.prog 26 ct_L_markStringS :=
  fnOk (cx := cx_L_markStringS) (pl := pl_L_markStringS) (dp := 0) (ok0_of tabOk (by unfold ArrOk; kernel_rfl) mix ⟨ok_L_markText, trivial⟩ trivial) Tryz.func26 (by kernel_rfl) (by kernel_rfl) (by kernel_rfl)
    (by rw [show loopsOf (bodyOf Tryz.f26) = [((loopsOf (bodyOf Tryz.f26)).getD 0 .skip)] from by kernel_rfl]; exact ⟨(by rw [show lookup pl_L_markStringS.loops (firstId ((loopsOf (bodyOf Tryz.f26)).getD 0 .skip)) = some lp_L_markStringS_2 from by kernel_rfl]; exact fun d z h => (eb_L_markStringS_2 d.1 d.2.1 d.2.2.1).trans h), trivial⟩) (fun x => ef_L_markStringS x.1 x.2.1)
noncomputable def sh_L_markOrderS_2 : List Sh := mkSh 42 [(0, .val S_impl_Order (.row (.pr .b (.pr .b (.pr .b (.pr (.row .b) .b)))))), (1, .sub ⟨0, [], 0, 0⟩), (2, .val (.int .i64) .b), (6, .val (.int .i64) .b)]
noncomputable def o_L_markOrderS_2 : List Out := [⟨.exit 0, ⟨[], [1], []⟩, mkSh 42 [(0, .val S_impl_Order (.row (.pr .b (.pr .b (.pr .b (.pr (.row .b) .b)))))), (2, .val (.int .i64) .b)]⟩]
noncomputable def b_L_markOrderS_2 (t0 : PV S_impl_Order) (t2 : PV (.int .i64)) (t6 : PV (.int .i64)) : Option ((PV S_impl_Order × PV (.int .i64) × PV (.int .i64) × Unit) ⊕ ((PV S_impl_Order × PV (.int .i64) × Unit))) :=
  bif (decide (t6 < (t0.length : Int))) then
    bif inB t6 t0.length then
      bif inB t6 (t0.set t6.toNat (t2, (t0.getD t6.toNat (dflt Y_impl_Order)).2)).length then
        bif inB t6 ((t0.set t6.toNat (t2, (t0.getD t6.toNat (dflt Y_impl_Order)).2)).set t6.toNat (((t0.set t6.toNat (t2, (t0.getD t6.toNat (dflt Y_impl_Order)).2)).getD t6.toNat (dflt Y_impl_Order)).1, ((IntKind.wrap .i64 (t2 + 1)), (((t0.set t6.toNat (t2, (t0.getD t6.toNat (dflt Y_impl_Order)).2)).getD t6.toNat (dflt Y_impl_Order)).2).2))).length then
          bif inB t6 (((t0.set t6.toNat (t2, (t0.getD t6.toNat (dflt Y_impl_Order)).2)).set t6.toNat (((t0.set t6.toNat (t2, (t0.getD t6.toNat (dflt Y_impl_Order)).2)).getD t6.toNat (dflt Y_impl_Order)).1, ((IntKind.wrap .i64 (t2 + 1)), (((t0.set t6.toNat (t2, (t0.getD t6.toNat (dflt Y_impl_Order)).2)).getD t6.toNat (dflt Y_impl_Order)).2).2))).set t6.toNat ((((t0.set t6.toNat (t2, (t0.getD t6.toNat (dflt Y_impl_Order)).2)).set t6.toNat (((t0.set t6.toNat (t2, (t0.getD t6.toNat (dflt Y_impl_Order)).2)).getD t6.toNat (dflt Y_impl_Order)).1, ((IntKind.wrap .i64 (t2 + 1)), (((t0.set t6.toNat (t2, (t0.getD t6.toNat (dflt Y_impl_Order)).2)).getD t6.toNat (dflt Y_impl_Order)).2).2))).getD t6.toNat (dflt Y_impl_Order)).1, (((((t0.set t6.toNat (t2, (t0.getD t6.toNat (dflt Y_impl_Order)).2)).set t6.toNat (((t0.set t6.toNat (t2, (t0.getD t6.toNat (dflt Y_impl_Order)).2)).getD t6.toNat (dflt Y_impl_Order)).1, ((IntKind.wrap .i64 (t2 + 1)), (((t0.set t6.toNat (t2, (t0.getD t6.toNat (dflt Y_impl_Order)).2)).getD t6.toNat (dflt Y_impl_Order)).2).2))).getD t6.toNat (dflt Y_impl_Order)).2).1, ((IntKind.wrap .i64 ((IntKind.wrap .i64 (t2 + 1)) + 1)), (((((t0.set t6.toNat (t2, (t0.getD t6.toNat (dflt Y_impl_Order)).2)).set t6.toNat (((t0.set t6.toNat (t2, (t0.getD t6.toNat (dflt Y_impl_Order)).2)).getD t6.toNat (dflt Y_impl_Order)).1, ((IntKind.wrap .i64 (t2 + 1)), (((t0.set t6.toNat (t2, (t0.getD t6.toNat (dflt Y_impl_Order)).2)).getD t6.toNat (dflt Y_impl_Order)).2).2))).getD t6.toNat (dflt Y_impl_Order)).2).2).2)))).length then
            (f_L_markStringS ((((((((t0.set t6.toNat (t2, (t0.getD t6.toNat (dflt Y_impl_Order)).2)).set t6.toNat (((t0.set t6.toNat (t2, (t0.getD t6.toNat (dflt Y_impl_Order)).2)).getD t6.toNat (dflt Y_impl_Order)).1, ((IntKind.wrap .i64 (t2 + 1)), (((t0.set t6.toNat (t2, (t0.getD t6.toNat (dflt Y_impl_Order)).2)).getD t6.toNat (dflt Y_impl_Order)).2).2))).set t6.toNat ((((t0.set t6.toNat (t2, (t0.getD t6.toNat (dflt Y_impl_Order)).2)).set t6.toNat (((t0.set t6.toNat (t2, (t0.getD t6.toNat (dflt Y_impl_Order)).2)).getD t6.toNat (dflt Y_impl_Order)).1, ((IntKind.wrap .i64 (t2 + 1)), (((t0.set t6.toNat (t2, (t0.getD t6.toNat (dflt Y_impl_Order)).2)).getD t6.toNat (dflt Y_impl_Order)).2).2))).getD t6.toNat (dflt Y_impl_Order)).1, (((((t0.set t6.toNat (t2, (t0.getD t6.toNat (dflt Y_impl_Order)).2)).set t6.toNat (((t0.set t6.toNat (t2, (t0.getD t6.toNat (dflt Y_impl_Order)).2)).getD t6.toNat (dflt Y_impl_Order)).1, ((IntKind.wrap .i64 (t2 + 1)), (((t0.set t6.toNat (t2, (t0.getD t6.toNat (dflt Y_impl_Order)).2)).getD t6.toNat (dflt Y_impl_Order)).2).2))).getD t6.toNat (dflt Y_impl_Order)).2).1, ((IntKind.wrap .i64 ((IntKind.wrap .i64 (t2 + 1)) + 1)), (((((t0.set t6.toNat (t2, (t0.getD t6.toNat (dflt Y_impl_Order)).2)).set t6.toNat (((t0.set t6.toNat (t2, (t0.getD t6.toNat (dflt Y_impl_Order)).2)).getD t6.toNat (dflt Y_impl_Order)).1, ((IntKind.wrap .i64 (t2 + 1)), (((t0.set t6.toNat (t2, (t0.getD t6.toNat (dflt Y_impl_Order)).2)).getD t6.toNat (dflt Y_impl_Order)).2).2))).getD t6.toNat (dflt Y_impl_Order)).2).2).2)))).getD t6.toNat (dflt Y_impl_Order)).2).2).2).1) (IntKind.wrap .i64 ((IntKind.wrap .i64 ((IntKind.wrap .i64 (t2 + 1)) + 1)) + 1))).bind fun r2 =>
              some (.inl (((((t0.set t6.toNat (t2, (t0.getD t6.toNat (dflt Y_impl_Order)).2)).set t6.toNat (((t0.set t6.toNat (t2, (t0.getD t6.toNat (dflt Y_impl_Order)).2)).getD t6.toNat (dflt Y_impl_Order)).1, ((IntKind.wrap .i64 (t2 + 1)), (((t0.set t6.toNat (t2, (t0.getD t6.toNat (dflt Y_impl_Order)).2)).getD t6.toNat (dflt Y_impl_Order)).2).2))).set t6.toNat ((((t0.set t6.toNat (t2, (t0.getD t6.toNat (dflt Y_impl_Order)).2)).set t6.toNat (((t0.set t6.toNat (t2, (t0.getD t6.toNat (dflt Y_impl_Order)).2)).getD t6.toNat (dflt Y_impl_Order)).1, ((IntKind.wrap .i64 (t2 + 1)), (((t0.set t6.toNat (t2, (t0.getD t6.toNat (dflt Y_impl_Order)).2)).getD t6.toNat (dflt Y_impl_Order)).2).2))).getD t6.toNat (dflt Y_impl_Order)).1, (((((t0.set t6.toNat (t2, (t0.getD t6.toNat (dflt Y_impl_Order)).2)).set t6.toNat (((t0.set t6.toNat (t2, (t0.getD t6.toNat (dflt Y_impl_Order)).2)).getD t6.toNat (dflt Y_impl_Order)).1, ((IntKind.wrap .i64 (t2 + 1)), (((t0.set t6.toNat (t2, (t0.getD t6.toNat (dflt Y_impl_Order)).2)).getD t6.toNat (dflt Y_impl_Order)).2).2))).getD t6.toNat (dflt Y_impl_Order)).2).1, ((IntKind.wrap .i64 ((IntKind.wrap .i64 (t2 + 1)) + 1)), (((((t0.set t6.toNat (t2, (t0.getD t6.toNat (dflt Y_impl_Order)).2)).set t6.toNat (((t0.set t6.toNat (t2, (t0.getD t6.toNat (dflt Y_impl_Order)).2)).getD t6.toNat (dflt Y_impl_Order)).1, ((IntKind.wrap .i64 (t2 + 1)), (((t0.set t6.toNat (t2, (t0.getD t6.toNat (dflt Y_impl_Order)).2)).getD t6.toNat (dflt Y_impl_Order)).2).2))).getD t6.toNat (dflt Y_impl_Order)).2).2).2)))).set t6.toNat (((((t0.set t6.toNat (t2, (t0.getD t6.toNat (dflt Y_impl_Order)).2)).set t6.toNat (((t0.set t6.toNat (t2, (t0.getD t6.toNat (dflt Y_impl_Order)).2)).getD t6.toNat (dflt Y_impl_Order)).1, ((IntKind.wrap .i64 (t2 + 1)), (((t0.set t6.toNat (t2, (t0.getD t6.toNat (dflt Y_impl_Order)).2)).getD t6.toNat (dflt Y_impl_Order)).2).2))).set t6.toNat ((((t0.set t6.toNat (t2, (t0.getD t6.toNat (dflt Y_impl_Order)).2)).set t6.toNat (((t0.set t6.toNat (t2, (t0.getD t6.toNat (dflt Y_impl_Order)).2)).getD t6.toNat (dflt Y_impl_Order)).1, ((IntKind.wrap .i64 (t2 + 1)), (((t0.set t6.toNat (t2, (t0.getD t6.toNat (dflt Y_impl_Order)).2)).getD t6.toNat (dflt Y_impl_Order)).2).2))).getD t6.toNat (dflt Y_impl_Order)).1, (((((t0.set t6.toNat (t2, (t0.getD t6.toNat (dflt Y_impl_Order)).2)).set t6.toNat (((t0.set t6.toNat (t2, (t0.getD t6.toNat (dflt Y_impl_Order)).2)).getD t6.toNat (dflt Y_impl_Order)).1, ((IntKind.wrap .i64 (t2 + 1)), (((t0.set t6.toNat (t2, (t0.getD t6.toNat (dflt Y_impl_Order)).2)).getD t6.toNat (dflt Y_impl_Order)).2).2))).getD t6.toNat (dflt Y_impl_Order)).2).1, ((IntKind.wrap .i64 ((IntKind.wrap .i64 (t2 + 1)) + 1)), (((((t0.set t6.toNat (t2, (t0.getD t6.toNat (dflt Y_impl_Order)).2)).set t6.toNat (((t0.set t6.toNat (t2, (t0.getD t6.toNat (dflt Y_impl_Order)).2)).getD t6.toNat (dflt Y_impl_Order)).1, ((IntKind.wrap .i64 (t2 + 1)), (((t0.set t6.toNat (t2, (t0.getD t6.toNat (dflt Y_impl_Order)).2)).getD t6.toNat (dflt Y_impl_Order)).2).2))).getD t6.toNat (dflt Y_impl_Order)).2).2).2)))).getD t6.toNat (dflt Y_impl_Order)).1, ((((((t0.set t6.toNat (t2, (t0.getD t6.toNat (dflt Y_impl_Order)).2)).set t6.toNat (((t0.set t6.toNat (t2, (t0.getD t6.toNat (dflt Y_impl_Order)).2)).getD t6.toNat (dflt Y_impl_Order)).1, ((IntKind.wrap .i64 (t2 + 1)), (((t0.set t6.toNat (t2, (t0.getD t6.toNat (dflt Y_impl_Order)).2)).getD t6.toNat (dflt Y_impl_Order)).2).2))).set t6.toNat ((((t0.set t6.toNat (t2, (t0.getD t6.toNat (dflt Y_impl_Order)).2)).set t6.toNat (((t0.set t6.toNat (t2, (t0.getD t6.toNat (dflt Y_impl_Order)).2)).getD t6.toNat (dflt Y_impl_Order)).1, ((IntKind.wrap .i64 (t2 + 1)), (((t0.set t6.toNat (t2, (t0.getD t6.toNat (dflt Y_impl_Order)).2)).getD t6.toNat (dflt Y_impl_Order)).2).2))).getD t6.toNat (dflt Y_impl_Order)).1, (((((t0.set t6.toNat (t2, (t0.getD t6.toNat (dflt Y_impl_Order)).2)).set t6.toNat (((t0.set t6.toNat (t2, (t0.getD t6.toNat (dflt Y_impl_Order)).2)).getD t6.toNat (dflt Y_impl_Order)).1, ((IntKind.wrap .i64 (t2 + 1)), (((t0.set t6.toNat (t2, (t0.getD t6.toNat (dflt Y_impl_Order)).2)).getD t6.toNat (dflt Y_impl_Order)).2).2))).getD t6.toNat (dflt Y_impl_Order)).2).1, ((IntKind.wrap .i64 ((IntKind.wrap .i64 (t2 + 1)) + 1)), (((((t0.set t6.toNat (t2, (t0.getD t6.toNat (dflt Y_impl_Order)).2)).set t6.toNat (((t0.set t6.toNat (t2, (t0.getD t6.toNat (dflt Y_impl_Order)).2)).getD t6.toNat (dflt Y_impl_Order)).1, ((IntKind.wrap .i64 (t2 + 1)), (((t0.set t6.toNat (t2, (t0.getD t6.toNat (dflt Y_impl_Order)).2)).getD t6.toNat (dflt Y_impl_Order)).2).2))).getD t6.toNat (dflt Y_impl_Order)).2).2).2)))).getD t6.toNat (dflt Y_impl_Order)).2).1, (((((((t0.set t6.toNat (t2, (t0.getD t6.toNat (dflt Y_impl_Order)).2)).set t6.toNat (((t0.set t6.toNat (t2, (t0.getD t6.toNat (dflt Y_impl_Order)).2)).getD t6.toNat (dflt Y_impl_Order)).1, ((IntKind.wrap .i64 (t2 + 1)), (((t0.set t6.toNat (t2, (t0.getD t6.toNat (dflt Y_impl_Order)).2)).getD t6.toNat (dflt Y_impl_Order)).2).2))).set t6.toNat ((((t0.set t6.toNat (t2, (t0.getD t6.toNat (dflt Y_impl_Order)).2)).set t6.toNat (((t0.set t6.toNat (t2, (t0.getD t6.toNat (dflt Y_impl_Order)).2)).getD t6.toNat (dflt Y_impl_Order)).1, ((IntKind.wrap .i64 (t2 + 1)), (((t0.set t6.toNat (t2, (t0.getD t6.toNat (dflt Y_impl_Order)).2)).getD t6.toNat (dflt Y_impl_Order)).2).2))).getD t6.toNat (dflt Y_impl_Order)).1, (((((t0.set t6.toNat (t2, (t0.getD t6.toNat (dflt Y_impl_Order)).2)).set t6.toNat (((t0.set t6.toNat (t2, (t0.getD t6.toNat (dflt Y_impl_Order)).2)).getD t6.toNat (dflt Y_impl_Order)).1, ((IntKind.wrap .i64 (t2 + 1)), (((t0.set t6.toNat (t2, (t0.getD t6.toNat (dflt Y_impl_Order)).2)).getD t6.toNat (dflt Y_impl_Order)).2).2))).getD t6.toNat (dflt Y_impl_Order)).2).1, ((IntKind.wrap .i64 ((IntKind.wrap .i64 (t2 + 1)) + 1)), (((((t0.set t6.toNat (t2, (t0.getD t6.toNat (dflt Y_impl_Order)).2)).set t6.toNat (((t0.set t6.toNat (t2, (t0.getD t6.toNat (dflt Y_impl_Order)).2)).getD t6.toNat (dflt Y_impl_Order)).1, ((IntKind.wrap .i64 (t2 + 1)), (((t0.set t6.toNat (t2, (t0.getD t6.toNat (dflt Y_impl_Order)).2)).getD t6.toNat (dflt Y_impl_Order)).2).2))).getD t6.toNat (dflt Y_impl_Order)).2).2).2)))).getD t6.toNat (dflt Y_impl_Order)).2).2).1, (r2.2.1, (((((((t0.set t6.toNat (t2, (t0.getD t6.toNat (dflt Y_impl_Order)).2)).set t6.toNat (((t0.set t6.toNat (t2, (t0.getD t6.toNat (dflt Y_impl_Order)).2)).getD t6.toNat (dflt Y_impl_Order)).1, ((IntKind.wrap .i64 (t2 + 1)), (((t0.set t6.toNat (t2, (t0.getD t6.toNat (dflt Y_impl_Order)).2)).getD t6.toNat (dflt Y_impl_Order)).2).2))).set t6.toNat ((((t0.set t6.toNat (t2, (t0.getD t6.toNat (dflt Y_impl_Order)).2)).set t6.toNat (((t0.set t6.toNat (t2, (t0.getD t6.toNat (dflt Y_impl_Order)).2)).getD t6.toNat (dflt Y_impl_Order)).1, ((IntKind.wrap .i64 (t2 + 1)), (((t0.set t6.toNat (t2, (t0.getD t6.toNat (dflt Y_impl_Order)).2)).getD t6.toNat (dflt Y_impl_Order)).2).2))).getD t6.toNat (dflt Y_impl_Order)).1, (((((t0.set t6.toNat (t2, (t0.getD t6.toNat (dflt Y_impl_Order)).2)).set t6.toNat (((t0.set t6.toNat (t2, (t0.getD t6.toNat (dflt Y_impl_Order)).2)).getD t6.toNat (dflt Y_impl_Order)).1, ((IntKind.wrap .i64 (t2 + 1)), (((t0.set t6.toNat (t2, (t0.getD t6.toNat (dflt Y_impl_Order)).2)).getD t6.toNat (dflt Y_impl_Order)).2).2))).getD t6.toNat (dflt Y_impl_Order)).2).1, ((IntKind.wrap .i64 ((IntKind.wrap .i64 (t2 + 1)) + 1)), (((((t0.set t6.toNat (t2, (t0.getD t6.toNat (dflt Y_impl_Order)).2)).set t6.toNat (((t0.set t6.toNat (t2, (t0.getD t6.toNat (dflt Y_impl_Order)).2)).getD t6.toNat (dflt Y_impl_Order)).1, ((IntKind.wrap .i64 (t2 + 1)), (((t0.set t6.toNat (t2, (t0.getD t6.toNat (dflt Y_impl_Order)).2)).getD t6.toNat (dflt Y_impl_Order)).2).2))).getD t6.toNat (dflt Y_impl_Order)).2).2).2)))).getD t6.toNat (dflt Y_impl_Order)).2).2).2).2))))), r2.1.1, (IntKind.wrap .i64 (t6 + 1)), ()))
          else
            none
        else
          none
      else
        none
    else
      none
  else
    some (.inr (t0, t2, ()))
noncomputable def w_L_markOrderS_2 : PV S_impl_Order × PV (.int .i64) × PV (.int .i64) × Unit → Option ((PV S_impl_Order × PV (.int .i64) × Unit)) := fix fun d => b_L_markOrderS_2 d.1 d.2.1 d.2.2.1
noncomputable def lp_L_markOrderS_2 : Lp := ⟨⟨[], [0, 1, 5], []⟩, sh_L_markOrderS_2, o_L_markOrderS_2, fun d => b_L_markOrderS_2 d.1 d.2.1 d.2.2.1⟩
noncomputable def pl_L_markOrderS : Plan := ⟨[], [(2, lp_L_markOrderS_2)], 0, 1⟩
noncomputable def f_L_markOrderS (t0 : PV S_impl_Order) (t1 : PV (.int .i64)) : Option (PVs [(.int .i64)] × PVs [S_impl_Order]) :=
  (w_L_markOrderS_2 (t0, t1, 0, ())).bind fun l4 =>
    some ((l4.2.1, ()), (l4.1, ()))
noncomputable def ct_L_markOrderS : Ct := ⟨[(.mut, S_impl_Order), (.bor, (.int .i64))], [((.int .i64), .b)], fun x => f_L_markOrderS x.1 x.2.1⟩
noncomputable def cx_L_markOrderS : Cx := ⟨tab, arrs, [(26, ct_L_markStringS)], [], gl, []⟩
theorem eb_L_markOrderS_2 (t0 : PV S_impl_Order) (t2 : PV (.int .i64)) (t6 : PV (.int .i64)) : denK cx_L_markOrderS (rcN cx_L_markOrderS 0) pl_L_markOrderS 1 ((loopsOf (bodyOf Tryz.f8)).getD 0 .skip) (fillS sh_L_markOrderS_2 (t0, t2, t6, ())) (roundK 1 lp_L_markOrderS_2) = b_L_markOrderS_2 t0 t2 t6 := by kernel_rfl
theorem ef_L_markOrderS (t0 : PV S_impl_Order) (t1 : PV (.int .i64)) : denF cx_L_markOrderS 0 pl_L_markOrderS Tryz.f8.ntmps (bodyOf Tryz.f8) Tryz.f8.results.toList [(.mut, S_impl_Order), (.bor, (.int .i64))] [((.int .i64), .b)] (t0, t1, ()) = f_L_markOrderS t0 t1 := by kernel_rfl
theorem ok_L_markOrderS : FnOk gl Tryz.prog 8 ct_L_markOrderS :=
  fnOk (cx := cx_L_markOrderS) (pl := pl_L_markOrderS) (dp := 0) (ok0_of tabOk (by unfold ArrOk; kernel_rfl) mix ⟨ok_L_markStringS, trivial⟩ trivial) Tryz.func8 (by kernel_rfl) (by kernel_rfl) (by kernel_rfl)
    (by rw [show loopsOf (bodyOf Tryz.f8) = [((loopsOf (bodyOf Tryz.f8)).getD 0 .skip)] from by kernel_rfl]; exact ⟨(by rw [show lookup pl_L_markOrderS.loops (firstId ((loopsOf (bodyOf Tryz.f8)).getD 0 .skip)) = some lp_L_markOrderS_2 from by kernel_rfl]; exact fun d z h => (eb_L_markOrderS_2 d.1 d.2.1 d.2.2.1).trans h), trivial⟩) (fun x => ef_L_markOrderS x.1 x.2.1)
noncomputable def sh_L_heldStringS_2 : List Sh := mkSh 22 [(0, .val S_string .b), (1, .val (.int .i64) .b), (5, .val (.int .i64) .b)]
noncomputable def o_L_heldStringS_2 : List Out := [⟨.exit 0, ⟨[], [1], []⟩, mkSh 22 [(1, .val (.int .i64) .b)]⟩, ⟨.ret, ⟨[], [4], []⟩, mkSh 22 [(4, .val (.int .i64) .b)]⟩]
noncomputable def b_L_heldStringS_2 (t0 : PV S_string) (t1 : PV (.int .i64)) (t5 : PV (.int .i64)) : Option ((PV S_string × PV (.int .i64) × PV (.int .i64) × Unit) ⊕ ((PV (.int .i64) × Unit) ⊕ (PV (.int .i64) × Unit))) :=
  bif (decide (t5 < (t0.length : Int))) then
    bif inB t5 t0.length then
      (f_L_markText t1).bind fun r8 =>
        bif (!((t0.getD t5.toNat []) == r8.1.1)) then
          some (.inr (.inr ((-1), ())))
        else
          some (.inl (t0, (IntKind.wrap .i64 (t1 + 1)), (IntKind.wrap .i64 (t5 + 1)), ()))
    else
      none
  else
    some (.inr (.inl (t1, ())))
noncomputable def w_L_heldStringS_2 : PV S_string × PV (.int .i64) × PV (.int .i64) × Unit → Option ((PV (.int .i64) × Unit) ⊕ (PV (.int .i64) × Unit)) := fix fun d => b_L_heldStringS_2 d.1 d.2.1 d.2.2.1
noncomputable def lp_L_heldStringS_2 : Lp := ⟨⟨[], [0, 1, 5], []⟩, sh_L_heldStringS_2, o_L_heldStringS_2, fun d => b_L_heldStringS_2 d.1 d.2.1 d.2.2.1⟩
noncomputable def pl_L_heldStringS : Plan := ⟨[], [(2, lp_L_heldStringS_2)], 0, 0⟩
noncomputable def f_L_heldStringS (t0 : PV S_string) (t1 : PV (.int .i64)) : Option (PVs [(.int .i64)] × PVs []) :=
  (w_L_heldStringS_2 (t0, t1, 0, ())).bind fun x13 =>
    match x13 with
    | .inl l11 =>
      some ((l11.1, ()), ())
    | .inr l12 =>
      some ((l12.1, ()), ())
noncomputable def ct_L_heldStringS : Ct := ⟨[(.bor, S_string), (.bor, (.int .i64))], [((.int .i64), .b)], fun x => f_L_heldStringS x.1 x.2.1⟩
noncomputable def cx_L_heldStringS : Cx := ⟨tab, arrs, [(51, ct_L_markText)], [], gl, []⟩
theorem eb_L_heldStringS_2 (t0 : PV S_string) (t1 : PV (.int .i64)) (t5 : PV (.int .i64)) : denK cx_L_heldStringS (rcN cx_L_heldStringS 0) pl_L_heldStringS 0 ((loopsOf (bodyOf Tryz.f27)).getD 0 .skip) (fillS sh_L_heldStringS_2 (t0, t1, t5, ())) (roundK 0 lp_L_heldStringS_2) = b_L_heldStringS_2 t0 t1 t5 := by kernel_rfl
theorem ef_L_heldStringS (t0 : PV S_string) (t1 : PV (.int .i64)) : denF cx_L_heldStringS 0 pl_L_heldStringS Tryz.f27.ntmps (bodyOf Tryz.f27) Tryz.f27.results.toList [(.bor, S_string), (.bor, (.int .i64))] [((.int .i64), .b)] (t0, t1, ()) = f_L_heldStringS t0 t1 := by kernel_rfl
theorem ok_L_heldStringS : FnOk gl Tryz.prog 27 ct_L_heldStringS :=
  fnOk (cx := cx_L_heldStringS) (pl := pl_L_heldStringS) (dp := 0) (ok0_of tabOk (by unfold ArrOk; kernel_rfl) mix ⟨ok_L_markText, trivial⟩ trivial) Tryz.func27 (by kernel_rfl) (by kernel_rfl) (by kernel_rfl)
    (by rw [show loopsOf (bodyOf Tryz.f27) = [((loopsOf (bodyOf Tryz.f27)).getD 0 .skip)] from by kernel_rfl]; exact ⟨(by rw [show lookup pl_L_heldStringS.loops (firstId ((loopsOf (bodyOf Tryz.f27)).getD 0 .skip)) = some lp_L_heldStringS_2 from by kernel_rfl]; exact fun d z h => (eb_L_heldStringS_2 d.1 d.2.1 d.2.2.1).trans h), trivial⟩) (fun x => ef_L_heldStringS x.1 x.2.1)
noncomputable def sh_L_heldOrderS_2 : List Sh := mkSh 49 [(0, .val S_impl_Order .b), (1, .val (.int .i64) .b), (5, .val (.int .i64) .b)]
noncomputable def o_L_heldOrderS_2 : List Out := [⟨.exit 0, ⟨[], [1], []⟩, mkSh 49 [(1, .val (.int .i64) .b)]⟩, ⟨.ret, ⟨[], [4], []⟩, mkSh 49 [(4, .val (.int .i64) .b)]⟩]
noncomputable def b_L_heldOrderS_2 (t0 : PV S_impl_Order) (t1 : PV (.int .i64)) (t5 : PV (.int .i64)) : Option ((PV S_impl_Order × PV (.int .i64) × PV (.int .i64) × Unit) ⊕ ((PV (.int .i64) × Unit) ⊕ (PV (.int .i64) × Unit))) :=
  bif (decide (t5 < (t0.length : Int))) then
    bif inB t5 t0.length then
      bif (!(((t0.getD t5.toNat (dflt Y_impl_Order)).1) == t1)) then
        some (.inr (.inr ((-1), ())))
      else
        bif inB t5 t0.length then
          bif (!((((t0.getD t5.toNat (dflt Y_impl_Order)).2).1) == (IntKind.wrap .i64 (t1 + 1)))) then
            some (.inr (.inr ((-1), ())))
          else
            bif inB t5 t0.length then
              bif (!(((((t0.getD t5.toNat (dflt Y_impl_Order)).2).2).1) == (IntKind.wrap .i64 ((IntKind.wrap .i64 (t1 + 1)) + 1)))) then
                some (.inr (.inr ((-1), ())))
              else
                bif inB t5 t0.length then
                  (f_L_heldStringS (((((t0.getD t5.toNat (dflt Y_impl_Order)).2).2).2).1) (IntKind.wrap .i64 ((IntKind.wrap .i64 ((IntKind.wrap .i64 (t1 + 1)) + 1)) + 1))).bind fun r4 =>
                    bif (decide (r4.1.1 < 0)) then
                      some (.inr (.inr ((-1), ())))
                    else
                      some (.inl (t0, r4.1.1, (IntKind.wrap .i64 (t5 + 1)), ()))
                else
                  none
            else
              none
        else
          none
    else
      none
  else
    some (.inr (.inl (t1, ())))
noncomputable def w_L_heldOrderS_2 : PV S_impl_Order × PV (.int .i64) × PV (.int .i64) × Unit → Option ((PV (.int .i64) × Unit) ⊕ (PV (.int .i64) × Unit)) := fix fun d => b_L_heldOrderS_2 d.1 d.2.1 d.2.2.1
noncomputable def lp_L_heldOrderS_2 : Lp := ⟨⟨[], [0, 1, 5], []⟩, sh_L_heldOrderS_2, o_L_heldOrderS_2, fun d => b_L_heldOrderS_2 d.1 d.2.1 d.2.2.1⟩
noncomputable def pl_L_heldOrderS : Plan := ⟨[], [(2, lp_L_heldOrderS_2)], 0, 0⟩
noncomputable def f_L_heldOrderS (t0 : PV S_impl_Order) (t1 : PV (.int .i64)) : Option (PVs [(.int .i64)] × PVs []) :=
  (w_L_heldOrderS_2 (t0, t1, 0, ())).bind fun x9 =>
    match x9 with
    | .inl l7 =>
      some ((l7.1, ()), ())
    | .inr l8 =>
      some ((l8.1, ()), ())
noncomputable def ct_L_heldOrderS : Ct := ⟨[(.bor, S_impl_Order), (.bor, (.int .i64))], [((.int .i64), .b)], fun x => f_L_heldOrderS x.1 x.2.1⟩
noncomputable def cx_L_heldOrderS : Cx := ⟨tab, arrs, [(27, ct_L_heldStringS)], [], gl, []⟩
theorem eb_L_heldOrderS_2 (t0 : PV S_impl_Order) (t1 : PV (.int .i64)) (t5 : PV (.int .i64)) : denK cx_L_heldOrderS (rcN cx_L_heldOrderS 0) pl_L_heldOrderS 0 ((loopsOf (bodyOf Tryz.f9)).getD 0 .skip) (fillS sh_L_heldOrderS_2 (t0, t1, t5, ())) (roundK 0 lp_L_heldOrderS_2) = b_L_heldOrderS_2 t0 t1 t5 := by kernel_rfl
theorem ef_L_heldOrderS (t0 : PV S_impl_Order) (t1 : PV (.int .i64)) : denF cx_L_heldOrderS 0 pl_L_heldOrderS Tryz.f9.ntmps (bodyOf Tryz.f9) Tryz.f9.results.toList [(.bor, S_impl_Order), (.bor, (.int .i64))] [((.int .i64), .b)] (t0, t1, ()) = f_L_heldOrderS t0 t1 := by kernel_rfl
theorem ok_L_heldOrderS : FnOk gl Tryz.prog 9 ct_L_heldOrderS :=
  fnOk (cx := cx_L_heldOrderS) (pl := pl_L_heldOrderS) (dp := 0) (ok0_of tabOk (by unfold ArrOk; kernel_rfl) mix ⟨ok_L_heldStringS, trivial⟩ trivial) Tryz.func9 (by kernel_rfl) (by kernel_rfl) (by kernel_rfl)
    (by rw [show loopsOf (bodyOf Tryz.f9) = [((loopsOf (bodyOf Tryz.f9)).getD 0 .skip)] from by kernel_rfl]; exact ⟨(by rw [show lookup pl_L_heldOrderS.loops (firstId ((loopsOf (bodyOf Tryz.f9)).getD 0 .skip)) = some lp_L_heldOrderS_2 from by kernel_rfl]; exact fun d z h => (eb_L_heldOrderS_2 d.1 d.2.1 d.2.2.1).trans h), trivial⟩) (fun x => ef_L_heldOrderS x.1 x.2.1)
noncomputable def o_L_FnExactReadOrders_6 : List Out := [⟨.normal, ⟨[], [0, 3, 4, 5, 6, 42, 65, 66, 67, 70, 71, 72], []⟩, mkSh 82 [(0, .val .str .b), (3, .val S_impl_Order (.row (.pr .b (.pr .b (.pr .b (.pr (.row .b) .b)))))), (4, .val (.int .i64) .b), (5, .val .bool .b), (6, .val S_impl_Order (.row (.pr .b (.pr .b (.pr .b (.pr (.row .b) .b)))))), (42, .val .bool .b)]⟩]
noncomputable def o_L_FnExactReadOrders_17 : List Out := [⟨.normal, ⟨[], [6, 9, 73], []⟩, mkSh 82 [(6, .val S_impl_Order (.row (.pr .b (.pr .b (.pr .b (.pr (.row .b) .b)))))), (9, .val (.int .i64) .b), (73, .val .bool .b)]⟩]
noncomputable def pl_L_FnExactReadOrders : Plan := ⟨[(6, o_L_FnExactReadOrders_6), (17, o_L_FnExactReadOrders_17)], [], 0, 0⟩
noncomputable def f_L_FnExactReadOrders (t0 : PV .str) : Option (PVs [.bool] × PVs []) :=
  bif (decide ((t0.length : Int) > 1048576)) then
    some ((true, ()), ())
  else
    (f_S_ReadOrders t0).bind fun r2 =>
      (f_I_ReadOrders t0).bind fun r4 =>
        ((
            (f_L_eqOrderS r4.1.1 r2.1.1).bind fun r8 =>
              bif (!r8.1.1) then
                some (t0, r2.1.1, r2.1.2.1, r2.1.2.2.1, r4.1.1, true, ())
              else
                bif (!(r4.1.2.1 == r2.1.2.1)) then
                  some (t0, r2.1.1, r2.1.2.1, r2.1.2.2.1, r4.1.1, true, ())
                else
                  some (t0, r2.1.1, r2.1.2.1, r2.1.2.2.1, r4.1.1, (!(r4.1.2.2.1 == r2.1.2.2.1)), ()) : Option ((PV .str × PV S_impl_Order × PV (.int .i64) × PV .bool × PV S_impl_Order × PV .bool × Unit)))).bind fun j9 =>
          bif j9.2.2.2.2.2.1 then
            some ((false, ()), ())
          else
            (f_L_markOrderS j9.2.2.2.2.1 1).bind fun r11 =>
              (f_L_heldOrderS r11.2.1 1).bind fun r13 =>
                bif (decide (r13.1.1 < 0)) then
                  some ((false, ()), ())
                else
                  bif (!(r13.1.1 == r11.1.1)) then
                    some ((false, ()), ())
                  else
                    (f_I_ReadOrders j9.1).bind fun r15 =>
                      ((
                          (f_L_eqOrderS r15.1.1 j9.2.1).bind fun r19 =>
                            bif (!r19.1.1) then
                              some (r11.2.1, r11.1.1, true, ())
                            else
                              bif (!(r15.1.2.1 == j9.2.2.1)) then
                                some (r11.2.1, r11.1.1, true, ())
                              else
                                some (r11.2.1, r11.1.1, (!(r15.1.2.2.1 == j9.2.2.2.1)), ()) : Option ((PV S_impl_Order × PV (.int .i64) × PV .bool × Unit)))).bind fun j20 =>
                        bif j20.2.2.1 then
                          some ((false, ()), ())
                        else
                          (f_L_heldOrderS j20.1 1).bind fun r22 =>
                            bif (decide (r22.1.1 < 0)) then
                              some ((false, ()), ())
                            else
                              bif (!(r22.1.1 == j20.2.1)) then
                                some ((false, ()), ())
                              else
                                some ((true, ()), ())
noncomputable def ct_L_FnExactReadOrders : Ct := ⟨[(.bor, .str)], [(.bool, .b)], fun x => f_L_FnExactReadOrders x.1⟩
noncomputable def cx_L_FnExactReadOrders : Cx := ⟨tab, arrs, [(5, ct_S_ReadOrders), (6, ct_I_ReadOrders), (7, ct_L_eqOrderS), (8, ct_L_markOrderS), (9, ct_L_heldOrderS)], [], gl, []⟩
theorem ef_L_FnExactReadOrders (t0 : PV .str) : denF cx_L_FnExactReadOrders 0 pl_L_FnExactReadOrders Tryz.f3.ntmps (bodyOf Tryz.f3) Tryz.f3.results.toList [(.bor, .str)] [(.bool, .b)] (t0, ()) = f_L_FnExactReadOrders t0 := by kernel_rfl
theorem ok_L_FnExactReadOrders : FnOk gl Tryz.prog 3 ct_L_FnExactReadOrders :=
  fnOk (cx := cx_L_FnExactReadOrders) (pl := pl_L_FnExactReadOrders) (dp := 0) (ok0_of tabOk (by unfold ArrOk; kernel_rfl) mix ⟨ok_S_ReadOrders, ok_I_ReadOrders, ok_L_eqOrderS, ok_L_markOrderS, ok_L_heldOrderS, trivial⟩ trivial) Tryz.func3 (by kernel_rfl) (by kernel_rfl) (by kernel_rfl)
    (by rw [show loopsOf (bodyOf Tryz.f3) = [] from by kernel_rfl]; exact trivial) (fun x => ef_L_FnExactReadOrders x.1)
end R
