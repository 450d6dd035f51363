/- The functions, part 2. -/
import Derived.Test.YtegfhigkmghmjaaDoorPaD1
open Go Go.Dn Go.Proofs
namespace R
set_option linter.unusedVariables false
set_option maxRecDepth 20000
open Go.Shelf
noncomputable def pl_I_endOf : Plan := ⟨[], [], 0, 0⟩
noncomputable def f_I_endOf (t0 : PV (.int .i64)) (t1 : PV (.int .i64)) : Option (PVs [(.int .i64)] × PVs []) :=
  some (((IntKind.wrap .i64 (t0 + t1)), ()), ())
noncomputable def ct_I_endOf : Ct := ⟨[(.bor, (.int .i64)), (.bor, (.int .i64))], [((.int .i64), false)], fun x => f_I_endOf x.1 x.2.1⟩
noncomputable def cx_I_endOf : Cx := ⟨tab, arrs, [], [], gl⟩
theorem ef_I_endOf (t0 : PV (.int .i64)) (t1 : PV (.int .i64)) : denF cx_I_endOf 0 pl_I_endOf Tryd.f122.ntmps (bodyOf Tryd.f122) Tryd.f122.results.toList [(.bor, (.int .i64)), (.bor, (.int .i64))] [((.int .i64), false)] (t0, t1, ()) = f_I_endOf t0 t1 := by kernel_rfl
theorem ok_I_endOf : FnOk gl Tryd.prog 122 ct_I_endOf :=
  fnOk (cx := cx_I_endOf) (pl := pl_I_endOf) (dp := 0) (ok0_of tabOk (by unfold ArrOk; kernel_rfl) mix trivial trivial) Tryd.func122 (by kernel_rfl) (by kernel_rfl) (by kernel_rfl)
    (by rw [show loopsOf (bodyOf Tryd.f122) = [] from by kernel_rfl]; exact trivial) (fun x => ef_I_endOf x.1 x.2.1)
noncomputable def pl_I_pairOf : Plan := ⟨[], [], 0, 0⟩
noncomputable def f_I_pairOf (t0 : PV (.int .i64)) (t1 : PV (.int .i64)) : Option (PVs [.str] × PVs []) :=
  bif (t0 == t1) then
    (f_strconv_Itoa t0).bind fun r2 =>
      some ((r2.1.1, ()), ())
  else
    (f_strconv_Itoa t0).bind fun r3 =>
      bif decide (r3.1.1.length + [44].length ≤ 1099511627776) then
        (f_strconv_Itoa t1).bind fun r4 =>
          bif decide ((r3.1.1 ++ [44]).length + r4.1.1.length ≤ 1099511627776) then
            some ((((r3.1.1 ++ [44]) ++ r4.1.1), ()), ())
          else
            none
      else
        none
noncomputable def ct_I_pairOf : Ct := ⟨[(.bor, (.int .i64)), (.bor, (.int .i64))], [(.str, false)], fun x => f_I_pairOf x.1 x.2.1⟩
noncomputable def cx_I_pairOf : Cx := ⟨tab, arrs, [(71, ct_strconv_Itoa)], [], gl⟩
theorem ef_I_pairOf (t0 : PV (.int .i64)) (t1 : PV (.int .i64)) : denF cx_I_pairOf 0 pl_I_pairOf Tryd.f56.ntmps (bodyOf Tryd.f56) Tryd.f56.results.toList [(.bor, (.int .i64)), (.bor, (.int .i64))] [(.str, false)] (t0, t1, ()) = f_I_pairOf t0 t1 := by kernel_rfl
theorem ok_I_pairOf : FnOk gl Tryd.prog 56 ct_I_pairOf :=
  fnOk (cx := cx_I_pairOf) (pl := pl_I_pairOf) (dp := 0) (ok0_of tabOk (by unfold ArrOk; kernel_rfl) mix ⟨ok_strconv_Itoa, trivial⟩ trivial) Tryd.func56 (by kernel_rfl) (by kernel_rfl) (by kernel_rfl)
    (by rw [show loopsOf (bodyOf Tryd.f56) = [] from by kernel_rfl]; exact trivial) (fun x => ef_I_pairOf x.1 x.2.1)
noncomputable def pl_I_Group_has_163 : Plan := ⟨[], [], 2, 9⟩
noncomputable def sh_I_Group_has_195_2 : List Sh := mkSh 37 [(0, .val Y_impl_Group .b), (1, .val (.int .i64) .b), (2, .var Y_impl_Group .b), (3, .var (.int .i64) .b), (4, .val .bool .b), (5, .addr ⟨2, [.r, .r, .l], 0, 0⟩), (6, .val S_impl_Row .b), (7, .fn 164 [⟨3, [], 0, 0⟩]), (9, .val S_impl_Row .b), (10, .fn 164 [⟨3, [], 0, 0⟩]), (13, .val .bool .b), (14, .val S_impl_Row .b), (15, .fn 164 [⟨3, [], 0, 0⟩]), (18, .val S_impl_Row .b), (19, .fn 164 [⟨3, [], 0, 0⟩]), (25, .val (.int .i64) .b), (26, .val (.int .i64) .b)]
noncomputable def o_I_Group_has_195_2 : List Out := [⟨.exit 0, ⟨[], []⟩, mkSh 37 [(0, .val Y_impl_Group .b), (1, .val (.int .i64) .b), (2, .var Y_impl_Group .b), (3, .var (.int .i64) .b), (4, .val .bool .b), (5, .addr ⟨2, [.r, .r, .l], 0, 0⟩), (6, .val S_impl_Row .b), (7, .fn 164 [⟨3, [], 0, 0⟩]), (9, .val S_impl_Row .b), (10, .fn 164 [⟨3, [], 0, 0⟩]), (13, .val .bool .b), (14, .val S_impl_Row .b), (15, .fn 164 [⟨3, [], 0, 0⟩])]⟩, ⟨.ret, ⟨[], [4]⟩, mkSh 37 [(0, .val Y_impl_Group .b), (1, .val (.int .i64) .b), (2, .var Y_impl_Group .b), (3, .var (.int .i64) .b), (4, .val .bool .b), (5, .addr ⟨2, [.r, .r, .l], 0, 0⟩), (6, .val S_impl_Row .b), (7, .fn 164 [⟨3, [], 0, 0⟩]), (9, .val S_impl_Row .b), (10, .fn 164 [⟨3, [], 0, 0⟩]), (13, .val .bool .b), (14, .val S_impl_Row .b), (15, .fn 164 [⟨3, [], 0, 0⟩]), (22, .val (.int .i64) .b)]⟩]
noncomputable def b_I_Group_has_195_2 (t0 : PV Y_impl_Group) (t1 : PV (.int .i64)) (t2 : PV Y_impl_Group) (t3 : PV (.int .i64)) (t4 : PV .bool) (t6 : PV S_impl_Row) (t9 : PV S_impl_Row) (t13 : PV .bool) (t14 : PV S_impl_Row) (t18 : PV S_impl_Row) (t25 : PV (.int .i64)) (t26 : PV (.int .i64)) : Option ((PV Y_impl_Group × PV (.int .i64) × PV Y_impl_Group × PV (.int .i64) × PV .bool × PV S_impl_Row × PV S_impl_Row × PV .bool × PV S_impl_Row × PV S_impl_Row × PV (.int .i64) × PV (.int .i64) × Unit) ⊕ ((PV Y_impl_Group × PV (.int .i64) × PV Y_impl_Group × PV (.int .i64) × PV .bool × PV S_impl_Row × PV S_impl_Row × PV .bool × PV S_impl_Row × Unit) ⊕ (PV Y_impl_Group × PV (.int .i64) × PV Y_impl_Group × PV (.int .i64) × PV .bool × PV S_impl_Row × PV S_impl_Row × PV .bool × PV S_impl_Row × PV (.int .i64) × Unit))) :=
  bif (decide (t26 < t25)) then
    bif inB t26 t18.length then
      bif (((t18.getD t26.toNat (dflt Y_impl_Row)).1) == t3) then
        some (.inr (.inr (t0, t1, t2, t3, t4, t6, t9, t13, t14, t26, ())))
      else
        some (.inl (t0, t1, t2, t3, t4, t6, t9, t13, t14, t18, t25, (IntKind.wrap .i64 (t26 + 1)), ()))
    else
      none
  else
    some (.inr (.inl (t0, t1, t2, t3, t4, t6, t9, t13, t14, ())))
noncomputable def w_I_Group_has_195_2 : PV Y_impl_Group × PV (.int .i64) × PV Y_impl_Group × PV (.int .i64) × PV .bool × PV S_impl_Row × PV S_impl_Row × PV .bool × PV S_impl_Row × PV S_impl_Row × PV (.int .i64) × PV (.int .i64) × Unit → Option ((PV Y_impl_Group × PV (.int .i64) × PV Y_impl_Group × PV (.int .i64) × PV .bool × PV S_impl_Row × PV S_impl_Row × PV .bool × PV S_impl_Row × Unit) ⊕ (PV Y_impl_Group × PV (.int .i64) × PV Y_impl_Group × PV (.int .i64) × PV .bool × PV S_impl_Row × PV S_impl_Row × PV .bool × PV S_impl_Row × PV (.int .i64) × Unit)) := fix fun d => b_I_Group_has_195_2 d.1 d.2.1 d.2.2.1 d.2.2.2.1 d.2.2.2.2.1 d.2.2.2.2.2.1 d.2.2.2.2.2.2.1 d.2.2.2.2.2.2.2.1 d.2.2.2.2.2.2.2.2.1 d.2.2.2.2.2.2.2.2.2.1 d.2.2.2.2.2.2.2.2.2.2.1 d.2.2.2.2.2.2.2.2.2.2.2.1
noncomputable def lp_I_Group_has_195_2 : Lp := ⟨⟨[], [0, 1, 7, 8]⟩, sh_I_Group_has_195_2, o_I_Group_has_195_2, fun d => b_I_Group_has_195_2 d.1 d.2.1 d.2.2.1 d.2.2.2.1 d.2.2.2.2.1 d.2.2.2.2.2.1 d.2.2.2.2.2.2.1 d.2.2.2.2.2.2.2.1 d.2.2.2.2.2.2.2.2.1 d.2.2.2.2.2.2.2.2.2.1 d.2.2.2.2.2.2.2.2.2.2.1 d.2.2.2.2.2.2.2.2.2.2.2.1⟩
noncomputable def pl_I_Group_has_195 : Plan := ⟨[], [(2, lp_I_Group_has_195_2)], 1, 18⟩
noncomputable def pl_I_Group_has_164 : Plan := ⟨[], [], 0, 37⟩
noncomputable def pl_I_Group_has : Plan := ⟨[], [], 3, 0⟩
noncomputable def f_I_Group_has (t0 : PV Y_impl_Group) (t1 : PV (.int .i64)) : Option (PVs [.bool] × PVs []) :=
  (w_I_Group_has_195_2 (t0, t1, t0, t1, false, t0.2.2.1, t0.2.2.1, false, t0.2.2.1, t0.2.2.1, (t0.2.2.1.length : Int), 0, ())).bind fun x5 =>
    match x5 with
    | .inl l3 =>
      some (((decide ((-1) ≥ 0)), ()), ())
    | .inr l4 =>
      some (((decide (l4.2.2.2.2.2.2.2.2.2.1 ≥ 0)), ()), ())
noncomputable def ct_I_Group_has : Ct := ⟨[(.bor, Y_impl_Group), (.bor, (.int .i64))], [(.bool, false)], fun x => f_I_Group_has x.1 x.2.1⟩
noncomputable def cx_I_Group_has : Cx := ⟨tab, arrs, [], [(163, Tryd.f163, pl_I_Group_has_163), (195, Tryd.f195, pl_I_Group_has_195), (164, Tryd.f164, pl_I_Group_has_164)], gl⟩
theorem eb_I_Group_has_195_2 (t0 : PV Y_impl_Group) (t1 : PV (.int .i64)) (t2 : PV Y_impl_Group) (t3 : PV (.int .i64)) (t4 : PV .bool) (t6 : PV S_impl_Row) (t9 : PV S_impl_Row) (t13 : PV .bool) (t14 : PV S_impl_Row) (t18 : PV S_impl_Row) (t25 : PV (.int .i64)) (t26 : PV (.int .i64)) : denK cx_I_Group_has (rcN cx_I_Group_has 1) pl_I_Group_has_195 18 ((loopsOf (bodyOf Tryd.f195)).getD 0 .skip) (fillS sh_I_Group_has_195_2 (t0, t1, t2, t3, t4, t6, t9, t13, t14, t18, t25, t26, ())) (roundK 18 lp_I_Group_has_195_2) = b_I_Group_has_195_2 t0 t1 t2 t3 t4 t6 t9 t13 t14 t18 t25 t26 := by kernel_rfl
theorem ef_I_Group_has (t0 : PV Y_impl_Group) (t1 : PV (.int .i64)) : denF cx_I_Group_has 3 pl_I_Group_has Tryd.f123.ntmps (bodyOf Tryd.f123) Tryd.f123.results.toList [(.bor, Y_impl_Group), (.bor, (.int .i64))] [(.bool, false)] (t0, t1, ()) = f_I_Group_has t0 t1 := by kernel_rfl
theorem ok_I_Group_has : FnOk gl Tryd.prog 123 ct_I_Group_has :=
  fnOk (cx := cx_I_Group_has) (pl := pl_I_Group_has) (dp := 3) (ok0_of tabOk (by unfold ArrOk; kernel_rfl) mix trivial ⟨⟨Tryd.func163, by kernel_rfl, (by rw [show loopsOf (bodyOf Tryd.f163) = [] from by kernel_rfl]; exact trivial)⟩, ⟨Tryd.func195, by kernel_rfl, (by rw [show loopsOf (bodyOf Tryd.f195) = [((loopsOf (bodyOf Tryd.f195)).getD 0 .skip)] from by kernel_rfl]; exact ⟨(by rw [show lookup pl_I_Group_has_195.loops (firstId ((loopsOf (bodyOf Tryd.f195)).getD 0 .skip)) = some lp_I_Group_has_195_2 from by kernel_rfl]; exact fun d z h => (eb_I_Group_has_195_2 d.1 d.2.1 d.2.2.1 d.2.2.2.1 d.2.2.2.2.1 d.2.2.2.2.2.1 d.2.2.2.2.2.2.1 d.2.2.2.2.2.2.2.1 d.2.2.2.2.2.2.2.2.1 d.2.2.2.2.2.2.2.2.2.1 d.2.2.2.2.2.2.2.2.2.2.1 d.2.2.2.2.2.2.2.2.2.2.2.1).trans h), trivial⟩)⟩, ⟨Tryd.func164, by kernel_rfl, (by rw [show loopsOf (bodyOf Tryd.f164) = [] from by kernel_rfl]; exact trivial)⟩, trivial⟩) Tryd.func123 (by kernel_rfl) (by kernel_rfl) (by kernel_rfl)
    (by rw [show loopsOf (bodyOf Tryd.f123) = [] from by kernel_rfl]; exact trivial) (fun x => ef_I_Group_has x.1 x.2.1)
noncomputable def pl_I_Group_runHas_163 : Plan := ⟨[], [], 2, 48⟩
noncomputable def sh_I_Group_runHas_195_2 : List Sh := mkSh 76 [(3, .var Y_impl_Group .b), (5, .var (.int .i64) .b), (7, .val (.int .i64) .b), (8, .val (.int .i64) .b), (41, .addr ⟨3, [.r, .r, .l], 0, 0⟩), (42, .val S_impl_Row .b), (43, .val (.int .i64) .b), (44, .val (.int .i64) .b), (45, .val S_impl_Row .b), (46, .fn 196 [⟨5, [], 0, 0⟩]), (48, .val S_impl_Row .b), (49, .fn 196 [⟨5, [], 0, 0⟩]), (52, .val .bool .b), (53, .val S_impl_Row .b), (54, .fn 196 [⟨5, [], 0, 0⟩]), (57, .val S_impl_Row .b), (58, .fn 196 [⟨5, [], 0, 0⟩]), (64, .val (.int .i64) .b), (65, .val (.int .i64) .b)]
noncomputable def o_I_Group_runHas_195_2 : List Out := [⟨.exit 0, ⟨[], []⟩, mkSh 76 [(3, .var Y_impl_Group .b), (5, .var (.int .i64) .b), (7, .val (.int .i64) .b), (8, .val (.int .i64) .b), (41, .addr ⟨3, [.r, .r, .l], 0, 0⟩), (42, .val S_impl_Row .b), (43, .val (.int .i64) .b), (44, .val (.int .i64) .b), (45, .val S_impl_Row .b), (46, .fn 196 [⟨5, [], 0, 0⟩]), (48, .val S_impl_Row .b), (49, .fn 196 [⟨5, [], 0, 0⟩]), (52, .val .bool .b), (53, .val S_impl_Row .b), (54, .fn 196 [⟨5, [], 0, 0⟩])]⟩, ⟨.ret, ⟨[], [4]⟩, mkSh 76 [(3, .var Y_impl_Group .b), (5, .var (.int .i64) .b), (7, .val (.int .i64) .b), (8, .val (.int .i64) .b), (41, .addr ⟨3, [.r, .r, .l], 0, 0⟩), (42, .val S_impl_Row .b), (43, .val (.int .i64) .b), (44, .val (.int .i64) .b), (45, .val S_impl_Row .b), (46, .fn 196 [⟨5, [], 0, 0⟩]), (48, .val S_impl_Row .b), (49, .fn 196 [⟨5, [], 0, 0⟩]), (52, .val .bool .b), (53, .val S_impl_Row .b), (54, .fn 196 [⟨5, [], 0, 0⟩]), (61, .val (.int .i64) .b)]⟩]
noncomputable def b_I_Group_runHas_195_2 (t3 : PV Y_impl_Group) (t5 : PV (.int .i64)) (t7 : PV (.int .i64)) (t8 : PV (.int .i64)) (t42 : PV S_impl_Row) (t43 : PV (.int .i64)) (t44 : PV (.int .i64)) (t45 : PV S_impl_Row) (t48 : PV S_impl_Row) (t52 : PV .bool) (t53 : PV S_impl_Row) (t57 : PV S_impl_Row) (t64 : PV (.int .i64)) (t65 : PV (.int .i64)) : Option ((PV Y_impl_Group × PV (.int .i64) × PV (.int .i64) × PV (.int .i64) × PV S_impl_Row × PV (.int .i64) × PV (.int .i64) × PV S_impl_Row × PV S_impl_Row × PV .bool × PV S_impl_Row × PV S_impl_Row × PV (.int .i64) × PV (.int .i64) × Unit) ⊕ ((PV Y_impl_Group × PV (.int .i64) × PV (.int .i64) × PV (.int .i64) × PV S_impl_Row × PV (.int .i64) × PV (.int .i64) × PV S_impl_Row × PV S_impl_Row × PV .bool × PV S_impl_Row × Unit) ⊕ (PV Y_impl_Group × PV (.int .i64) × PV (.int .i64) × PV (.int .i64) × PV S_impl_Row × PV (.int .i64) × PV (.int .i64) × PV S_impl_Row × PV S_impl_Row × PV .bool × PV S_impl_Row × PV (.int .i64) × Unit))) :=
  bif (decide (t65 < t64)) then
    bif inB t65 t57.length then
      bif (((t57.getD t65.toNat (dflt Y_impl_Row)).1) == t5) then
        some (.inr (.inr (t3, t5, t7, t8, t42, t43, t44, t45, t48, t52, t53, t65, ())))
      else
        some (.inl (t3, t5, t7, t8, t42, t43, t44, t45, t48, t52, t53, t57, t64, (IntKind.wrap .i64 (t65 + 1)), ()))
    else
      none
  else
    some (.inr (.inl (t3, t5, t7, t8, t42, t43, t44, t45, t48, t52, t53, ())))
noncomputable def w_I_Group_runHas_195_2 : PV Y_impl_Group × PV (.int .i64) × PV (.int .i64) × PV (.int .i64) × PV S_impl_Row × PV (.int .i64) × PV (.int .i64) × PV S_impl_Row × PV S_impl_Row × PV .bool × PV S_impl_Row × PV S_impl_Row × PV (.int .i64) × PV (.int .i64) × Unit → Option ((PV Y_impl_Group × PV (.int .i64) × PV (.int .i64) × PV (.int .i64) × PV S_impl_Row × PV (.int .i64) × PV (.int .i64) × PV S_impl_Row × PV S_impl_Row × PV .bool × PV S_impl_Row × Unit) ⊕ (PV Y_impl_Group × PV (.int .i64) × PV (.int .i64) × PV (.int .i64) × PV S_impl_Row × PV (.int .i64) × PV (.int .i64) × PV S_impl_Row × PV S_impl_Row × PV .bool × PV S_impl_Row × PV (.int .i64) × Unit)) := fix fun d => b_I_Group_runHas_195_2 d.1 d.2.1 d.2.2.1 d.2.2.2.1 d.2.2.2.2.1 d.2.2.2.2.2.1 d.2.2.2.2.2.2.1 d.2.2.2.2.2.2.2.1 d.2.2.2.2.2.2.2.2.1 d.2.2.2.2.2.2.2.2.2.1 d.2.2.2.2.2.2.2.2.2.2.1 d.2.2.2.2.2.2.2.2.2.2.2.1 d.2.2.2.2.2.2.2.2.2.2.2.2.1 d.2.2.2.2.2.2.2.2.2.2.2.2.2.1
noncomputable def lp_I_Group_runHas_195_2 : Lp := ⟨⟨[], [0, 1, 7, 8]⟩, sh_I_Group_runHas_195_2, o_I_Group_runHas_195_2, fun d => b_I_Group_runHas_195_2 d.1 d.2.1 d.2.2.1 d.2.2.2.1 d.2.2.2.2.1 d.2.2.2.2.2.1 d.2.2.2.2.2.2.1 d.2.2.2.2.2.2.2.1 d.2.2.2.2.2.2.2.2.1 d.2.2.2.2.2.2.2.2.2.1 d.2.2.2.2.2.2.2.2.2.2.1 d.2.2.2.2.2.2.2.2.2.2.2.1 d.2.2.2.2.2.2.2.2.2.2.2.2.1 d.2.2.2.2.2.2.2.2.2.2.2.2.2.1⟩
noncomputable def pl_I_Group_runHas_195 : Plan := ⟨[], [(2, lp_I_Group_runHas_195_2)], 1, 57⟩
noncomputable def pl_I_Group_runHas_196 : Plan := ⟨[], [], 0, 76⟩
noncomputable def sh_I_Group_runHas_2 : List Sh := mkSh 48 [(3, .var Y_impl_Group .b), (5, .var (.int .i64) .b), (7, .val (.int .i64) .b), (8, .val (.int .i64) .b)]
noncomputable def o_I_Group_runHas_2 : List Out := [⟨.exit 0, ⟨[], [3, 5, 7, 8, 31, 32, 33, 34, 35, 36, 37]⟩, mkSh 48 [(3, .var Y_impl_Group .b), (5, .var (.int .i64) .b), (7, .val (.int .i64) .b), (8, .val (.int .i64) .b)]⟩]
noncomputable def b_I_Group_runHas_2 (t3 : PV Y_impl_Group) (t5 : PV (.int .i64)) (t7 : PV (.int .i64)) (t8 : PV (.int .i64)) : Option ((PV Y_impl_Group × PV (.int .i64) × PV (.int .i64) × PV (.int .i64) × Unit) ⊕ ((PV Y_impl_Group × PV (.int .i64) × PV (.int .i64) × PV (.int .i64) × Unit))) :=
  bif (decide (t7 > 0)) then
    bif inB (IntKind.wrap .i64 (t7 - 1)) t3.2.2.1.length then
      bif (!(((t3.2.2.1.getD ((IntKind.wrap .i64 (t7 - 1)).toNat) (dflt Y_impl_Row)).1) == 1)) then
        some (.inl (t3, t5, (IntKind.wrap .i64 (t7 - 1)), t8, ()))
      else
        some (.inr (t3, t5, t7, t8, ()))
    else
      none
  else
    some (.inr (t3, t5, t7, t8, ()))
noncomputable def w_I_Group_runHas_2 : PV Y_impl_Group × PV (.int .i64) × PV (.int .i64) × PV (.int .i64) × Unit → Option ((PV Y_impl_Group × PV (.int .i64) × PV (.int .i64) × PV (.int .i64) × Unit)) := fix fun d => b_I_Group_runHas_2 d.1 d.2.1 d.2.2.1 d.2.2.2.1
noncomputable def lp_I_Group_runHas_2 : Lp := ⟨⟨[], [3, 5, 7, 8, 31, 32, 33, 34, 35, 36, 37]⟩, sh_I_Group_runHas_2, o_I_Group_runHas_2, fun d => b_I_Group_runHas_2 d.1 d.2.1 d.2.2.1 d.2.2.2.1⟩
noncomputable def sh_I_Group_runHas_4 : List Sh := mkSh 48 [(3, .var Y_impl_Group .b), (5, .var (.int .i64) .b), (7, .val (.int .i64) .b), (8, .val (.int .i64) .b)]
noncomputable def o_I_Group_runHas_4 : List Out := [⟨.exit 2, ⟨[], [3, 5, 7, 8]⟩, mkSh 48 [(3, .var Y_impl_Group .b), (5, .var (.int .i64) .b), (7, .val (.int .i64) .b), (8, .val (.int .i64) .b)]⟩]
noncomputable def b_I_Group_runHas_4 (t3 : PV Y_impl_Group) (t5 : PV (.int .i64)) (t7 : PV (.int .i64)) (t8 : PV (.int .i64)) : Option ((PV Y_impl_Group × PV (.int .i64) × PV (.int .i64) × PV (.int .i64) × Unit) ⊕ ((PV Y_impl_Group × PV (.int .i64) × PV (.int .i64) × PV (.int .i64) × Unit))) :=
  bif (decide (t8 < (t3.2.2.1.length : Int))) then
    bif inB t8 t3.2.2.1.length then
      bif (!(((t3.2.2.1.getD t8.toNat (dflt Y_impl_Row)).1) == 1)) then
        some (.inl (t3, t5, t7, (IntKind.wrap .i64 (t8 + 1)), ()))
      else
        some (.inr (t3, t5, t7, t8, ()))
    else
      none
  else
    some (.inr (t3, t5, t7, t8, ()))
noncomputable def w_I_Group_runHas_4 : PV Y_impl_Group × PV (.int .i64) × PV (.int .i64) × PV (.int .i64) × Unit → Option ((PV Y_impl_Group × PV (.int .i64) × PV (.int .i64) × PV (.int .i64) × Unit)) := fix fun d => b_I_Group_runHas_4 d.1 d.2.1 d.2.2.1 d.2.2.2.1
noncomputable def lp_I_Group_runHas_4 : Lp := ⟨⟨[], [3, 5, 7, 8]⟩, sh_I_Group_runHas_4, o_I_Group_runHas_4, fun d => b_I_Group_runHas_4 d.1 d.2.1 d.2.2.1 d.2.2.2.1⟩
noncomputable def pl_I_Group_runHas : Plan := ⟨[], [(2, lp_I_Group_runHas_2), (4, lp_I_Group_runHas_4)], 3, 0⟩
noncomputable def f_I_Group_runHas (t0 : PV Y_impl_Group) (t1 : PV (.int .i64)) (t2 : PV (.int .i64)) : Option (PVs [.bool] × PVs []) :=
  (w_I_Group_runHas_2 (t0, t2, t1, t1, ())).bind fun l2 =>
    (w_I_Group_runHas_4 (l2.1, l2.2.1, l2.2.2.1, l2.2.2.2.1, ())).bind fun l4 =>
      bif cutB l4.2.2.1 l4.2.2.2.1 l4.1.2.2.1.length then
        (w_I_Group_runHas_195_2 (l4.1, l4.2.1, l4.2.2.1, l4.2.2.2.1, l4.1.2.2.1, l4.2.2.1, l4.2.2.2.1, (cutL l4.2.2.1 l4.2.2.2.1 l4.1.2.2.1), (cutL l4.2.2.1 l4.2.2.2.1 l4.1.2.2.1), false, (cutL l4.2.2.1 l4.2.2.2.1 l4.1.2.2.1), (cutL l4.2.2.1 l4.2.2.2.1 l4.1.2.2.1), ((cutL l4.2.2.1 l4.2.2.2.1 l4.1.2.2.1).length : Int), 0, ())).bind fun x9 =>
          match x9 with
          | .inl l7 =>
            some (((decide ((-1) ≥ 0)), ()), ())
          | .inr l8 =>
            some (((decide (l8.2.2.2.2.2.2.2.2.2.2.2.1 ≥ 0)), ()), ())
      else
        none
noncomputable def ct_I_Group_runHas : Ct := ⟨[(.bor, Y_impl_Group), (.bor, (.int .i64)), (.bor, (.int .i64))], [(.bool, false)], fun x => f_I_Group_runHas x.1 x.2.1 x.2.2.1⟩
noncomputable def cx_I_Group_runHas : Cx := ⟨tab, arrs, [], [(163, Tryd.f163, pl_I_Group_runHas_163), (195, Tryd.f195, pl_I_Group_runHas_195), (196, Tryd.f196, pl_I_Group_runHas_196)], gl⟩
theorem eb_I_Group_runHas_195_2 (t3 : PV Y_impl_Group) (t5 : PV (.int .i64)) (t7 : PV (.int .i64)) (t8 : PV (.int .i64)) (t42 : PV S_impl_Row) (t43 : PV (.int .i64)) (t44 : PV (.int .i64)) (t45 : PV S_impl_Row) (t48 : PV S_impl_Row) (t52 : PV .bool) (t53 : PV S_impl_Row) (t57 : PV S_impl_Row) (t64 : PV (.int .i64)) (t65 : PV (.int .i64)) : denK cx_I_Group_runHas (rcN cx_I_Group_runHas 1) pl_I_Group_runHas_195 57 ((loopsOf (bodyOf Tryd.f195)).getD 0 .skip) (fillS sh_I_Group_runHas_195_2 (t3, t5, t7, t8, t42, t43, t44, t45, t48, t52, t53, t57, t64, t65, ())) (roundK 57 lp_I_Group_runHas_195_2) = b_I_Group_runHas_195_2 t3 t5 t7 t8 t42 t43 t44 t45 t48 t52 t53 t57 t64 t65 := by kernel_rfl
theorem eb_I_Group_runHas_2 (t3 : PV Y_impl_Group) (t5 : PV (.int .i64)) (t7 : PV (.int .i64)) (t8 : PV (.int .i64)) : denK cx_I_Group_runHas (rcN cx_I_Group_runHas 3) pl_I_Group_runHas 0 ((loopsOf (bodyOf Tryd.f165)).getD 0 .skip) (fillS sh_I_Group_runHas_2 (t3, t5, t7, t8, ())) (roundK 0 lp_I_Group_runHas_2) = b_I_Group_runHas_2 t3 t5 t7 t8 := by kernel_rfl
theorem eb_I_Group_runHas_4 (t3 : PV Y_impl_Group) (t5 : PV (.int .i64)) (t7 : PV (.int .i64)) (t8 : PV (.int .i64)) : denK cx_I_Group_runHas (rcN cx_I_Group_runHas 3) pl_I_Group_runHas 0 ((loopsOf (bodyOf Tryd.f165)).getD 1 .skip) (fillS sh_I_Group_runHas_4 (t3, t5, t7, t8, ())) (roundK 0 lp_I_Group_runHas_4) = b_I_Group_runHas_4 t3 t5 t7 t8 := by kernel_rfl
theorem ef_I_Group_runHas (t0 : PV Y_impl_Group) (t1 : PV (.int .i64)) (t2 : PV (.int .i64)) : denF cx_I_Group_runHas 3 pl_I_Group_runHas Tryd.f165.ntmps (bodyOf Tryd.f165) Tryd.f165.results.toList [(.bor, Y_impl_Group), (.bor, (.int .i64)), (.bor, (.int .i64))] [(.bool, false)] (t0, t1, t2, ()) = f_I_Group_runHas t0 t1 t2 := by kernel_rfl
theorem ok_I_Group_runHas : FnOk gl Tryd.prog 165 ct_I_Group_runHas :=
  fnOk (cx := cx_I_Group_runHas) (pl := pl_I_Group_runHas) (dp := 3) (ok0_of tabOk (by unfold ArrOk; kernel_rfl) mix trivial ⟨⟨Tryd.func163, by kernel_rfl, (by rw [show loopsOf (bodyOf Tryd.f163) = [] from by kernel_rfl]; exact trivial)⟩, ⟨Tryd.func195, by kernel_rfl, (by rw [show loopsOf (bodyOf Tryd.f195) = [((loopsOf (bodyOf Tryd.f195)).getD 0 .skip)] from by kernel_rfl]; exact ⟨(by rw [show lookup pl_I_Group_runHas_195.loops (firstId ((loopsOf (bodyOf Tryd.f195)).getD 0 .skip)) = some lp_I_Group_runHas_195_2 from by kernel_rfl]; exact fun d z h => (eb_I_Group_runHas_195_2 d.1 d.2.1 d.2.2.1 d.2.2.2.1 d.2.2.2.2.1 d.2.2.2.2.2.1 d.2.2.2.2.2.2.1 d.2.2.2.2.2.2.2.1 d.2.2.2.2.2.2.2.2.1 d.2.2.2.2.2.2.2.2.2.1 d.2.2.2.2.2.2.2.2.2.2.1 d.2.2.2.2.2.2.2.2.2.2.2.1 d.2.2.2.2.2.2.2.2.2.2.2.2.1 d.2.2.2.2.2.2.2.2.2.2.2.2.2.1).trans h), trivial⟩)⟩, ⟨Tryd.func196, by kernel_rfl, (by rw [show loopsOf (bodyOf Tryd.f196) = [] from by kernel_rfl]; exact trivial)⟩, trivial⟩) Tryd.func165 (by kernel_rfl) (by kernel_rfl) (by kernel_rfl)
    (by rw [show loopsOf (bodyOf Tryd.f165) = [((loopsOf (bodyOf Tryd.f165)).getD 0 .skip), ((loopsOf (bodyOf Tryd.f165)).getD 1 .skip)] from by kernel_rfl]; exact ⟨(by rw [show lookup pl_I_Group_runHas.loops (firstId ((loopsOf (bodyOf Tryd.f165)).getD 0 .skip)) = some lp_I_Group_runHas_2 from by kernel_rfl]; exact fun d z h => (eb_I_Group_runHas_2 d.1 d.2.1 d.2.2.1 d.2.2.2.1).trans h), (by rw [show lookup pl_I_Group_runHas.loops (firstId ((loopsOf (bodyOf Tryd.f165)).getD 1 .skip)) = some lp_I_Group_runHas_4 from by kernel_rfl]; exact fun d z h => (eb_I_Group_runHas_4 d.1 d.2.1 d.2.2.1 d.2.2.2.1).trans h), trivial⟩) (fun x => ef_I_Group_runHas x.1 x.2.1 x.2.2.1)
noncomputable def o_I_Group_half_8 : List Out := [⟨.normal, ⟨[], [1, 2, 5, 7, 9, 10, 11, 29]⟩, mkSh 46 [(1, .val (.int .i64) .b), (2, .var Y_impl_Group .b), (5, .val .str .b), (7, .var Y_impl_Row .b), (9, .val S_impl_Row .b), (10, .val (.int .i64) .b), (11, .val (.int .i64) .b), (29, .val .bool .b)]⟩]
noncomputable def o_I_Group_half_9 : List Out := [⟨.normal, ⟨[], [1, 2, 5, 9, 10, 11, 34, 35, 36, 37]⟩, mkSh 46 [(1, .val (.int .i64) .b), (2, .var Y_impl_Group .b), (5, .val .str .b), (9, .val S_impl_Row .b), (10, .val (.int .i64) .b), (11, .val (.int .i64) .b)]⟩]
noncomputable def sh_I_Group_half_3 : List Sh := mkSh 46 [(1, .val (.int .i64) .b), (2, .var Y_impl_Group .b), (5, .val .str .b), (9, .val S_impl_Row .b), (10, .val (.int .i64) .b), (11, .val (.int .i64) .b)]
noncomputable def o_I_Group_half_3 : List Out := [⟨.exit 0, ⟨[], [5]⟩, mkSh 46 [(5, .val .str .b)]⟩]
noncomputable def b_I_Group_half_3 (t1 : PV (.int .i64)) (t2 : PV Y_impl_Group) (t5 : PV .str) (t9 : PV S_impl_Row) (t10 : PV (.int .i64)) (t11 : PV (.int .i64)) : Option ((PV (.int .i64) × PV Y_impl_Group × PV .str × PV S_impl_Row × PV (.int .i64) × PV (.int .i64) × Unit) ⊕ ((PV .str × Unit))) :=
  bif (decide (t11 < t10)) then
    ((
        bif inB t11 t9.length then
          bif (((t9.getD t11.toNat (dflt Y_impl_Row)).1) == t1) then
            some (t1, t2, t5, t9, t10, t11, ())
          else
            ((
                bif (!(((t9.getD t11.toNat (dflt Y_impl_Row)).1) == 1)) then
                  (f_I_Group_runHas t2 t11 t1).bind fun r1 =>
                    some (t1, t2, t5, (t9.getD t11.toNat (dflt Y_impl_Row)), t9, t10, t11, r1.1.1, ())
                else
                  some (t1, t2, t5, (t9.getD t11.toNat (dflt Y_impl_Row)), t9, t10, t11, false, ()) : Option ((PV (.int .i64) × PV Y_impl_Group × PV .str × PV Y_impl_Row × PV S_impl_Row × PV (.int .i64) × PV (.int .i64) × PV .bool × Unit)))).bind fun j2 =>
              bif j2.2.2.2.2.2.2.2.1 then
                (f_I_shown [33, 32] j2.2.2.2.1.2.1).bind fun r3 =>
                  bif decide (j2.2.2.1.length + r3.1.1.length ≤ 1099511627776) then
                    some (j2.1, j2.2.1, (j2.2.2.1 ++ r3.1.1), j2.2.2.2.2.1, j2.2.2.2.2.2.1, j2.2.2.2.2.2.2.1, ())
                  else
                    none
              else
                (f_I_Row_sign j2.2.2.2.1).bind fun r4 =>
                  bif decide (r4.1.1.length + [32].length ≤ 1099511627776) then
                    (f_I_shown (r4.1.1 ++ [32]) j2.2.2.2.1.2.1).bind fun r5 =>
                      bif decide (j2.2.2.1.length + r5.1.1.length ≤ 1099511627776) then
                        some (j2.1, j2.2.1, (j2.2.2.1 ++ r5.1.1), j2.2.2.2.2.1, j2.2.2.2.2.2.1, j2.2.2.2.2.2.2.1, ())
                      else
                        none
                  else
                    none
        else
          none : Option ((PV (.int .i64) × PV Y_impl_Group × PV .str × PV S_impl_Row × PV (.int .i64) × PV (.int .i64) × Unit)))).bind fun j6 =>
      some (.inl (j6.1, j6.2.1, j6.2.2.1, j6.2.2.2.1, j6.2.2.2.2.1, (IntKind.wrap .i64 (j6.2.2.2.2.2.1 + 1)), ()))
  else
    some (.inr (t5, ()))
noncomputable def w_I_Group_half_3 : PV (.int .i64) × PV Y_impl_Group × PV .str × PV S_impl_Row × PV (.int .i64) × PV (.int .i64) × Unit → Option ((PV .str × Unit)) := fix fun d => b_I_Group_half_3 d.1 d.2.1 d.2.2.1 d.2.2.2.1 d.2.2.2.2.1 d.2.2.2.2.2.1
noncomputable def lp_I_Group_half_3 : Lp := ⟨⟨[], [1, 2, 5, 9, 10, 11, 34, 35, 36, 37]⟩, sh_I_Group_half_3, o_I_Group_half_3, fun d => b_I_Group_half_3 d.1 d.2.1 d.2.2.1 d.2.2.2.1 d.2.2.2.2.1 d.2.2.2.2.2.1⟩
noncomputable def pl_I_Group_half : Plan := ⟨[(8, o_I_Group_half_8), (9, o_I_Group_half_9)], [(3, lp_I_Group_half_3)], 0, 0⟩
noncomputable def f_I_Group_half (t0 : PV Y_impl_Group) (t1 : PV (.int .i64)) : Option (PVs [.str] × PVs []) :=
  (w_I_Group_half_3 (t1, t0, [], t0.2.2.1, (t0.2.2.1.length : Int), 0, ())).bind fun l8 =>
    some ((l8.1, ()), ())
noncomputable def ct_I_Group_half : Ct := ⟨[(.bor, Y_impl_Group), (.bor, (.int .i64))], [(.str, false)], fun x => f_I_Group_half x.1 x.2.1⟩
noncomputable def cx_I_Group_half : Cx := ⟨tab, arrs, [(157, ct_I_shown), (158, ct_I_Row_sign), (165, ct_I_Group_runHas)], [], gl⟩
theorem eb_I_Group_half_3 (t1 : PV (.int .i64)) (t2 : PV Y_impl_Group) (t5 : PV .str) (t9 : PV S_impl_Row) (t10 : PV (.int .i64)) (t11 : PV (.int .i64)) : denK cx_I_Group_half (rcN cx_I_Group_half 0) pl_I_Group_half 0 ((loopsOf (bodyOf Tryd.f124)).getD 0 .skip) (fillS sh_I_Group_half_3 (t1, t2, t5, t9, t10, t11, ())) (roundK 0 lp_I_Group_half_3) = b_I_Group_half_3 t1 t2 t5 t9 t10 t11 := by kernel_rfl
theorem ef_I_Group_half (t0 : PV Y_impl_Group) (t1 : PV (.int .i64)) : denF cx_I_Group_half 0 pl_I_Group_half Tryd.f124.ntmps (bodyOf Tryd.f124) Tryd.f124.results.toList [(.bor, Y_impl_Group), (.bor, (.int .i64))] [(.str, false)] (t0, t1, ()) = f_I_Group_half t0 t1 := by kernel_rfl
theorem ok_I_Group_half : FnOk gl Tryd.prog 124 ct_I_Group_half :=
  fnOk (cx := cx_I_Group_half) (pl := pl_I_Group_half) (dp := 0) (ok0_of tabOk (by unfold ArrOk; kernel_rfl) mix ⟨ok_I_shown, ok_I_Row_sign, ok_I_Group_runHas, trivial⟩ trivial) Tryd.func124 (by kernel_rfl) (by kernel_rfl) (by kernel_rfl)
    (by rw [show loopsOf (bodyOf Tryd.f124) = [((loopsOf (bodyOf Tryd.f124)).getD 0 .skip)] from by kernel_rfl]; exact ⟨(by rw [show lookup pl_I_Group_half.loops (firstId ((loopsOf (bodyOf Tryd.f124)).getD 0 .skip)) = some lp_I_Group_half_3 from by kernel_rfl]; exact fun d z h => (eb_I_Group_half_3 d.1 d.2.1 d.2.2.1 d.2.2.2.1 d.2.2.2.2.1 d.2.2.2.2.2.1).trans h), trivial⟩) (fun x => ef_I_Group_half x.1 x.2.1)
noncomputable def o_I_sidesText_9 : List Out := [⟨.normal, ⟨[], [3, 5, 7, 8, 9, 10]⟩, mkSh 60 [(3, .val .str .b), (5, .var Y_impl_Group .b), (7, .val (.int .i64) .b), (8, .val S_impl_Group .b), (9, .val (.int .i64) .b), (10, .val (.int .i64) .b)]⟩]
noncomputable def o_I_sidesText_12 : List Out := [⟨.normal, ⟨[], [3, 8, 9, 10]⟩, mkSh 60 [(3, .val .str .b), (8, .val S_impl_Group .b), (9, .val (.int .i64) .b), (10, .val (.int .i64) .b)]⟩]
noncomputable def sh_I_sidesText_3 : List Sh := mkSh 60 [(3, .val .str .b), (8, .val S_impl_Group .b), (9, .val (.int .i64) .b), (10, .val (.int .i64) .b)]
noncomputable def o_I_sidesText_3 : List Out := [⟨.exit 0, ⟨[], [3]⟩, mkSh 60 [(3, .val .str .b)]⟩]
noncomputable def b_I_sidesText_3 (t3 : PV .str) (t8 : PV S_impl_Group) (t9 : PV (.int .i64)) (t10 : PV (.int .i64)) : Option ((PV .str × PV S_impl_Group × PV (.int .i64) × PV (.int .i64) × Unit) ⊕ ((PV .str × Unit))) :=
  bif (decide (t10 < t9)) then
    ((
        bif inB t10 t8.length then
          (f_I_Group_old (t8.getD t10.toNat (dflt Y_impl_Group))).bind fun r3 =>
            (f_I_Group_fresh (t8.getD t10.toNat (dflt Y_impl_Group))).bind fun r4 =>
              (f_I_numberOf ((t8.getD t10.toNat (dflt Y_impl_Group)).1) (r3.1.1.length : Int)).bind fun r8 =>
                (f_I_endOf ((t8.getD t10.toNat (dflt Y_impl_Group)).1) (r3.1.1.length : Int)).bind fun r9 =>
                  (f_I_pairOf r8.1.1 r9.1.1).bind fun r10 =>
                    bif decide ([42, 42, 42, 42, 42, 42, 42, 42, 42, 42, 42, 42, 42, 42, 42, 10, 42, 42, 42, 32].length + r10.1.1.length ≤ 1099511627776) then
                      bif decide (([42, 42, 42, 42, 42, 42, 42, 42, 42, 42, 42, 42, 42, 42, 42, 10, 42, 42, 42, 32] ++ r10.1.1).length + [32, 42, 42, 42, 42, 10].length ≤ 1099511627776) then
                        bif decide (t3.length + (([42, 42, 42, 42, 42, 42, 42, 42, 42, 42, 42, 42, 42, 42, 42, 10, 42, 42, 42, 32] ++ r10.1.1) ++ [32, 42, 42, 42, 42, 10]).length ≤ 1099511627776) then
                          ((
                              (f_I_Group_has (t8.getD t10.toNat (dflt Y_impl_Group)) 2).bind fun r12 =>
                                bif r12.1.1 then
                                  (f_I_Group_half (t8.getD t10.toNat (dflt Y_impl_Group)) 3).bind fun r13 =>
                                    bif decide ((t3 ++ (([42, 42, 42, 42, 42, 42, 42, 42, 42, 42, 42, 42, 42, 42, 42, 10, 42, 42, 42, 32] ++ r10.1.1) ++ [32, 42, 42, 42, 42, 10])).length + r13.1.1.length ≤ 1099511627776) then
                                      some (((t3 ++ (([42, 42, 42, 42, 42, 42, 42, 42, 42, 42, 42, 42, 42, 42, 42, 10, 42, 42, 42, 32] ++ r10.1.1) ++ [32, 42, 42, 42, 42, 10])) ++ r13.1.1), (t8.getD t10.toNat (dflt Y_impl_Group)), (r4.1.1.length : Int), t8, t9, t10, ())
                                    else
                                      none
                                else
                                  some ((t3 ++ (([42, 42, 42, 42, 42, 42, 42, 42, 42, 42, 42, 42, 42, 42, 42, 10, 42, 42, 42, 32] ++ r10.1.1) ++ [32, 42, 42, 42, 42, 10])), (t8.getD t10.toNat (dflt Y_impl_Group)), (r4.1.1.length : Int), t8, t9, t10, ()) : Option ((PV .str × PV Y_impl_Group × PV (.int .i64) × PV S_impl_Group × PV (.int .i64) × PV (.int .i64) × Unit)))).bind fun j14 =>
                            (f_I_numberOf j14.2.1.2.1 j14.2.2.1).bind fun r18 =>
                              (f_I_endOf j14.2.1.2.1 j14.2.2.1).bind fun r19 =>
                                (f_I_pairOf r18.1.1 r19.1.1).bind fun r20 =>
                                  bif decide ([45, 45, 45, 32].length + r20.1.1.length ≤ 1099511627776) then
                                    bif decide (([45, 45, 45, 32] ++ r20.1.1).length + [32, 45, 45, 45, 45, 10].length ≤ 1099511627776) then
                                      bif decide (j14.1.length + (([45, 45, 45, 32] ++ r20.1.1) ++ [32, 45, 45, 45, 45, 10]).length ≤ 1099511627776) then
                                        (f_I_Group_has j14.2.1 3).bind fun r22 =>
                                          bif r22.1.1 then
                                            (f_I_Group_half j14.2.1 2).bind fun r23 =>
                                              bif decide ((j14.1 ++ (([45, 45, 45, 32] ++ r20.1.1) ++ [32, 45, 45, 45, 45, 10])).length + r23.1.1.length ≤ 1099511627776) then
                                                some (((j14.1 ++ (([45, 45, 45, 32] ++ r20.1.1) ++ [32, 45, 45, 45, 45, 10])) ++ r23.1.1), j14.2.2.2.1, j14.2.2.2.2.1, j14.2.2.2.2.2.1, ())
                                              else
                                                none
                                          else
                                            some ((j14.1 ++ (([45, 45, 45, 32] ++ r20.1.1) ++ [32, 45, 45, 45, 45, 10])), j14.2.2.2.1, j14.2.2.2.2.1, j14.2.2.2.2.2.1, ())
                                      else
                                        none
                                    else
                                      none
                                  else
                                    none
                        else
                          none
                      else
                        none
                    else
                      none
        else
          none : Option ((PV .str × PV S_impl_Group × PV (.int .i64) × PV (.int .i64) × Unit)))).bind fun j24 =>
      some (.inl (j24.1, j24.2.1, j24.2.2.1, (IntKind.wrap .i64 (j24.2.2.2.1 + 1)), ()))
  else
    some (.inr (t3, ()))
noncomputable def w_I_sidesText_3 : PV .str × PV S_impl_Group × PV (.int .i64) × PV (.int .i64) × Unit → Option ((PV .str × Unit)) := fix fun d => b_I_sidesText_3 d.1 d.2.1 d.2.2.1 d.2.2.2.1
noncomputable def lp_I_sidesText_3 : Lp := ⟨⟨[], [3, 8, 9, 10]⟩, sh_I_sidesText_3, o_I_sidesText_3, fun d => b_I_sidesText_3 d.1 d.2.1 d.2.2.1 d.2.2.2.1⟩
noncomputable def pl_I_sidesText : Plan := ⟨[(9, o_I_sidesText_9), (12, o_I_sidesText_12)], [(3, lp_I_sidesText_3)], 0, 0⟩
noncomputable def f_I_sidesText (t0 : PV S_impl_Group) : Option (PVs [.str] × PVs []) :=
  (w_I_sidesText_3 ([], t0, (t0.length : Int), 0, ())).bind fun l26 =>
    some ((l26.1, ()), ())
noncomputable def ct_I_sidesText : Ct := ⟨[(.bor, S_impl_Group)], [(.str, false)], fun x => f_I_sidesText x.1⟩
noncomputable def cx_I_sidesText : Cx := ⟨tab, arrs, [(56, ct_I_pairOf), (107, ct_I_Group_old), (108, ct_I_Group_fresh), (121, ct_I_numberOf), (122, ct_I_endOf), (123, ct_I_Group_has), (124, ct_I_Group_half)], [], gl⟩
theorem eb_I_sidesText_3 (t3 : PV .str) (t8 : PV S_impl_Group) (t9 : PV (.int .i64)) (t10 : PV (.int .i64)) : denK cx_I_sidesText (rcN cx_I_sidesText 0) pl_I_sidesText 0 ((loopsOf (bodyOf Tryd.f74)).getD 0 .skip) (fillS sh_I_sidesText_3 (t3, t8, t9, t10, ())) (roundK 0 lp_I_sidesText_3) = b_I_sidesText_3 t3 t8 t9 t10 := by kernel_rfl
theorem ef_I_sidesText (t0 : PV S_impl_Group) : denF cx_I_sidesText 0 pl_I_sidesText Tryd.f74.ntmps (bodyOf Tryd.f74) Tryd.f74.results.toList [(.bor, S_impl_Group)] [(.str, false)] (t0, ()) = f_I_sidesText t0 := by kernel_rfl
theorem ok_I_sidesText : FnOk gl Tryd.prog 74 ct_I_sidesText :=
  fnOk (cx := cx_I_sidesText) (pl := pl_I_sidesText) (dp := 0) (ok0_of tabOk (by unfold ArrOk; kernel_rfl) mix ⟨ok_I_pairOf, ok_I_Group_old, ok_I_Group_fresh, ok_I_numberOf, ok_I_endOf, ok_I_Group_has, ok_I_Group_half, trivial⟩ trivial) Tryd.func74 (by kernel_rfl) (by kernel_rfl) (by kernel_rfl)
    (by rw [show loopsOf (bodyOf Tryd.f74) = [((loopsOf (bodyOf Tryd.f74)).getD 0 .skip)] from by kernel_rfl]; exact ⟨(by rw [show lookup pl_I_sidesText.loops (firstId ((loopsOf (bodyOf Tryd.f74)).getD 0 .skip)) = some lp_I_sidesText_3 from by kernel_rfl]; exact fun d z h => (eb_I_sidesText_3 d.1 d.2.1 d.2.2.1 d.2.2.2.1).trans h), trivial⟩) (fun x => ef_I_sidesText x.1)
noncomputable def pl_I_SidesText : Plan := ⟨[], [], 0, 0⟩
noncomputable def f_I_SidesText (t0 : PV S_impl_Group) : Option (PVs [.str, .bool] × PVs []) :=
  (f_I_goodGroups t0).bind fun r4 =>
    bif (!r4.1.1) then
      some (([], false, ()), ())
    else
      (f_I_sidesText t0).bind fun r5 =>
        (f_I_short r5.1.1).bind fun r6 =>
          some ((r6.1.1, r6.1.2.1, ()), ())
noncomputable def ct_I_SidesText : Ct := ⟨[(.bor, S_impl_Group)], [(.str, false), (.bool, false)], fun x => f_I_SidesText x.1⟩
noncomputable def cx_I_SidesText : Cx := ⟨tab, arrs, [(58, ct_I_short), (64, ct_I_goodGroups), (74, ct_I_sidesText)], [], gl⟩
theorem ef_I_SidesText (t0 : PV S_impl_Group) : denF cx_I_SidesText 0 pl_I_SidesText Tryd.f27.ntmps (bodyOf Tryd.f27) Tryd.f27.results.toList [(.bor, S_impl_Group)] [(.str, false), (.bool, false)] (t0, ()) = f_I_SidesText t0 := by kernel_rfl
theorem ok_I_SidesText : FnOk gl Tryd.prog 27 ct_I_SidesText :=
  fnOk (cx := cx_I_SidesText) (pl := pl_I_SidesText) (dp := 0) (ok0_of tabOk (by unfold ArrOk; kernel_rfl) mix ⟨ok_I_short, ok_I_goodGroups, ok_I_sidesText, trivial⟩ trivial) Tryd.func27 (by kernel_rfl) (by kernel_rfl) (by kernel_rfl)
    (by rw [show loopsOf (bodyOf Tryd.f27) = [] from by kernel_rfl]; exact trivial) (fun x => ef_I_SidesText x.1)
noncomputable def o_L_FnExactSidesText_9 : List Out := [⟨.normal, ⟨[], [0, 6, 34]⟩, mkSh 40 [(0, .val S_laws_Group .b), (6, .val S_impl_Group (.row (.pr .b (.pr .b (.pr (.row (.pr .b (.pr .b .b))) .b))))), (34, .val .bool .b)]⟩]
noncomputable def pl_L_FnExactSidesText : Plan := ⟨[(9, o_L_FnExactSidesText_9)], [], 0, 0⟩
noncomputable def f_L_FnExactSidesText (t0 : PV S_laws_Group) : Option (PVs [.bool] × PVs []) :=
  (f_L_szGroupS t0 1048576).bind fun r2 =>
    bif (decide (r2.1.1 < 0)) then
      some ((true, ()), ())
    else
      (f_L_toGroupS t0).bind fun r5 =>
        (f_S_SidesText r5.1.1).bind fun r6 =>
          (f_L_toGroupS t0).bind fun r8 =>
            (f_I_SidesText r8.1.1).bind fun r10 =>
              ((
                  bif (!(r10.1.1 == r6.1.1)) then
                    some (t0, r8.1.1, true, ())
                  else
                    some (t0, r8.1.1, (!(r10.1.2.1 == r6.1.2.1)), ()) : Option ((PV S_laws_Group × PV S_impl_Group × PV .bool × Unit)))).bind fun j12 =>
                bif j12.2.2.1 then
                  some ((false, ()), ())
                else
                  (f_L_toGroupS j12.1).bind fun r19 =>
                    (f_L_eqGroupS j12.2.1 r19.1.1).bind fun r20 =>
                      bif (!r20.1.1) then
                        some ((false, ()), ())
                      else
                        some ((true, ()), ())
noncomputable def ct_L_FnExactSidesText : Ct := ⟨[(.bor, S_laws_Group)], [(.bool, false)], fun x => f_L_FnExactSidesText x.1⟩
noncomputable def cx_L_FnExactSidesText : Cx := ⟨tab, arrs, [(16, ct_L_szGroupS), (18, ct_L_toGroupS), (20, ct_L_eqGroupS), (26, ct_S_SidesText), (27, ct_I_SidesText)], [], gl⟩
theorem ef_L_FnExactSidesText (t0 : PV S_laws_Group) : denF cx_L_FnExactSidesText 0 pl_L_FnExactSidesText Tryd.f6.ntmps (bodyOf Tryd.f6) Tryd.f6.results.toList [(.bor, S_laws_Group)] [(.bool, false)] (t0, ()) = f_L_FnExactSidesText t0 := by kernel_rfl
theorem ok_L_FnExactSidesText : FnOk gl Tryd.prog 6 ct_L_FnExactSidesText :=
  fnOk (cx := cx_L_FnExactSidesText) (pl := pl_L_FnExactSidesText) (dp := 0) (ok0_of tabOk (by unfold ArrOk; kernel_rfl) mix ⟨ok_L_szGroupS, ok_L_toGroupS, ok_L_eqGroupS, ok_S_SidesText, ok_I_SidesText, trivial⟩ trivial) Tryd.func6 (by kernel_rfl) (by kernel_rfl) (by kernel_rfl)
    (by rw [show loopsOf (bodyOf Tryd.f6) = [] from by kernel_rfl]; exact trivial) (fun x => ef_L_FnExactSidesText x.1)
end R
