/- The functions, part 3. -/
import Derived.Test.YtmdlfpmkghkakaaPaR2
open Go Go.Dn Go.Proofs
namespace R
set_option linter.unusedVariables false
set_option maxRecDepth 20000
open Go.Shelf
noncomputable def sh_I_counts_3 : List Sh := mkSh 26 [(4, .val (.int .i64) .b), (5, .val (.int .i64) .b), (8, .val S_impl_Hunk .b), (9, .val (.int .i64) .b), (10, .val (.int .i64) .b)]
noncomputable def o_I_counts_3 : List Out := [⟨.exit 0, ⟨[], [4, 5]⟩, mkSh 26 [(4, .val (.int .i64) .b), (5, .val (.int .i64) .b)]⟩]
noncomputable def b_I_counts_3 (t4 : PV (.int .i64)) (t5 : PV (.int .i64)) (t8 : PV S_impl_Hunk) (t9 : PV (.int .i64)) (t10 : PV (.int .i64)) : Option ((PV (.int .i64) × PV (.int .i64) × PV S_impl_Hunk × PV (.int .i64) × PV (.int .i64) × Unit) ⊕ ((PV (.int .i64) × PV (.int .i64) × Unit))) :=
  bif (decide (t10 < t9)) then
    bif inB t10 t8.length then
      some (.inl ((IntKind.wrap .i64 (t4 + (((t8.getD t10.toNat (dflt Y_impl_Hunk)).2).1))), (IntKind.wrap .i64 (t5 + (((((t8.getD t10.toNat (dflt Y_impl_Hunk)).2).2).1).length : Int))), t8, t9, (IntKind.wrap .i64 (t10 + 1)), ()))
    else
      none
  else
    some (.inr (t4, t5, ()))
noncomputable def w_I_counts_3 : PV (.int .i64) × PV (.int .i64) × PV S_impl_Hunk × PV (.int .i64) × PV (.int .i64) × Unit → Option ((PV (.int .i64) × PV (.int .i64) × Unit)) := fix fun d => b_I_counts_3 d.1 d.2.1 d.2.2.1 d.2.2.2.1 d.2.2.2.2.1
noncomputable def lp_I_counts_3 : Lp := ⟨⟨[], [4, 5, 8, 9, 10]⟩, sh_I_counts_3, o_I_counts_3, fun d => b_I_counts_3 d.1 d.2.1 d.2.2.1 d.2.2.2.1 d.2.2.2.2.1⟩
noncomputable def pl_I_counts : Plan := ⟨[], [(3, lp_I_counts_3)], 0, 0⟩
noncomputable def f_I_counts (t0 : PV S_impl_Hunk) : Option (PVs [(.int .i64), (.int .i64)] × PVs []) :=
  (w_I_counts_3 (0, 0, t0, (t0.length : Int), 0, ())).bind fun l2 =>
    some ((l2.1, l2.2.1, ()), ())
noncomputable def ct_I_counts : Ct := ⟨[(.bor, S_impl_Hunk)], [((.int .i64), false), ((.int .i64), false)], fun x => f_I_counts x.1⟩
noncomputable def cx_I_counts : Cx := ⟨tab, arrs, [], []⟩
theorem eb_I_counts_3 (t4 : PV (.int .i64)) (t5 : PV (.int .i64)) (t8 : PV S_impl_Hunk) (t9 : PV (.int .i64)) (t10 : PV (.int .i64)) : denK cx_I_counts (rcN cx_I_counts 0) pl_I_counts 0 ((loopsOf (bodyOf Try.f104)).getD 0 .skip) (fillS sh_I_counts_3 (t4, t5, t8, t9, t10, ())) (roundK 0 lp_I_counts_3) = b_I_counts_3 t4 t5 t8 t9 t10 := by kernel_rfl
theorem ef_I_counts (t0 : PV S_impl_Hunk) : denF cx_I_counts 0 pl_I_counts Try.f104.ntmps (bodyOf Try.f104) Try.f104.results.toList [(.bor, S_impl_Hunk)] [((.int .i64), false), ((.int .i64), false)] (t0, ()) = f_I_counts t0 := by kernel_rfl
theorem ok_I_counts : FnOk Try.prog 104 ct_I_counts :=
  fnOk (cx := cx_I_counts) (pl := pl_I_counts) (dp := 0) (ok0_of tabOk (by unfold ArrOk; kernel_rfl) mix trivial trivial) Try.func104 (by kernel_rfl) (by kernel_rfl) (by kernel_rfl)
    (by rw [show loopsOf (bodyOf Try.f104) = [((loopsOf (bodyOf Try.f104)).getD 0 .skip)] from by kernel_rfl]; exact ⟨(by rw [show lookup pl_I_counts.loops (firstId ((loopsOf (bodyOf Try.f104)).getD 0 .skip)) = some lp_I_counts_3 from by kernel_rfl]; exact fun d z h => (eb_I_counts_3 d.1 d.2.1 d.2.2.1 d.2.2.2.1 d.2.2.2.2.1).trans h), trivial⟩) (fun x => ef_I_counts x.1)
noncomputable def sh_I_SizeOf_5 : List Sh := mkSh 32 [(4, .val (.int .i64) .b), (16, .val S_S_impl_Hunk .b), (17, .val (.int .i64) .b), (18, .val (.int .i64) .b)]
noncomputable def o_I_SizeOf_5 : List Out := [⟨.exit 0, ⟨[], [4]⟩, mkSh 32 [(4, .val (.int .i64) .b)]⟩]
noncomputable def b_I_SizeOf_5 (t4 : PV (.int .i64)) (t16 : PV S_S_impl_Hunk) (t17 : PV (.int .i64)) (t18 : PV (.int .i64)) : Option ((PV (.int .i64) × PV S_S_impl_Hunk × PV (.int .i64) × PV (.int .i64) × Unit) ⊕ ((PV (.int .i64) × Unit))) :=
  bif (decide (t18 < t17)) then
    bif inB t18 t16.length then
      (f_I_counts (t16.getD t18.toNat [])).bind fun r8 =>
        some (.inl ((IntKind.wrap .i64 (t4 + r8.1.2.1)), t16, t17, (IntKind.wrap .i64 (t18 + 1)), ()))
    else
      none
  else
    some (.inr (t4, ()))
noncomputable def w_I_SizeOf_5 : PV (.int .i64) × PV S_S_impl_Hunk × PV (.int .i64) × PV (.int .i64) × Unit → Option ((PV (.int .i64) × Unit)) := fix fun d => b_I_SizeOf_5 d.1 d.2.1 d.2.2.1 d.2.2.2.1
noncomputable def lp_I_SizeOf_5 : Lp := ⟨⟨[], [4, 16, 17, 18]⟩, sh_I_SizeOf_5, o_I_SizeOf_5, fun d => b_I_SizeOf_5 d.1 d.2.1 d.2.2.1 d.2.2.2.1⟩
noncomputable def pl_I_SizeOf : Plan := ⟨[], [(5, lp_I_SizeOf_5)], 0, 0⟩
noncomputable def f_I_SizeOf (t0 : PV Y_impl_Series) : Option (PVs [(.int .i64), .bool] × PVs []) :=
  (f_I_GoodSeries t0).bind fun r4 =>
    bif (!r4.1.1) then
      some ((0, false, ()), ())
    else
      (w_I_SizeOf_5 ((t0.1.length : Int), t0.2.1, (t0.2.1.length : Int), 0, ())).bind fun l10 =>
        some ((l10.1, true, ()), ())
noncomputable def ct_I_SizeOf : Ct := ⟨[(.bor, Y_impl_Series)], [((.int .i64), false), (.bool, false)], fun x => f_I_SizeOf x.1⟩
noncomputable def cx_I_SizeOf : Cx := ⟨tab, arrs, [(51, ct_I_GoodSeries), (104, ct_I_counts)], []⟩
theorem eb_I_SizeOf_5 (t4 : PV (.int .i64)) (t16 : PV S_S_impl_Hunk) (t17 : PV (.int .i64)) (t18 : PV (.int .i64)) : denK cx_I_SizeOf (rcN cx_I_SizeOf 0) pl_I_SizeOf 0 ((loopsOf (bodyOf Try.f58)).getD 0 .skip) (fillS sh_I_SizeOf_5 (t4, t16, t17, t18, ())) (roundK 0 lp_I_SizeOf_5) = b_I_SizeOf_5 t4 t16 t17 t18 := by kernel_rfl
theorem ef_I_SizeOf (t0 : PV Y_impl_Series) : denF cx_I_SizeOf 0 pl_I_SizeOf Try.f58.ntmps (bodyOf Try.f58) Try.f58.results.toList [(.bor, Y_impl_Series)] [((.int .i64), false), (.bool, false)] (t0, ()) = f_I_SizeOf t0 := by kernel_rfl
theorem ok_I_SizeOf : FnOk Try.prog 58 ct_I_SizeOf :=
  fnOk (cx := cx_I_SizeOf) (pl := pl_I_SizeOf) (dp := 0) (ok0_of tabOk (by unfold ArrOk; kernel_rfl) mix ⟨ok_I_GoodSeries, ok_I_counts, trivial⟩ trivial) Try.func58 (by kernel_rfl) (by kernel_rfl) (by kernel_rfl)
    (by rw [show loopsOf (bodyOf Try.f58) = [((loopsOf (bodyOf Try.f58)).getD 0 .skip)] from by kernel_rfl]; exact ⟨(by rw [show lookup pl_I_SizeOf.loops (firstId ((loopsOf (bodyOf Try.f58)).getD 0 .skip)) = some lp_I_SizeOf_5 from by kernel_rfl]; exact fun d z h => (eb_I_SizeOf_5 d.1 d.2.1 d.2.2.1 d.2.2.2.1).trans h), trivial⟩) (fun x => ef_I_SizeOf x.1)
noncomputable def o_L_FnExactSizeOf_9 : List Out := [⟨.normal, ⟨[], [1, 6, 34]⟩, mkSh 40 [(1, .var Y_laws_Series .b), (6, .var Y_impl_Series (.pr (.row .b) (.pr (.row (.row (.pr .b (.pr .b (.pr (.row .b) .b))))) .b))), (34, .val .bool .b)]⟩]
noncomputable def pl_L_FnExactSizeOf : Plan := ⟨[(9, o_L_FnExactSizeOf_9)], [], 0, 0⟩
noncomputable def f_L_FnExactSizeOf (t0 : PV Y_laws_Series) : Option (PVs [.bool] × PVs []) :=
  (f_L_szSeries t0 1048576).bind fun r2 =>
    bif (decide (r2.1.1 < 0)) then
      some ((true, ()), ())
    else
      (f_L_toSeries t0).bind fun r5 =>
        (f_S_SizeOf r5.1.1).bind fun r6 =>
          (f_L_toSeries t0).bind fun r8 =>
            (f_I_SizeOf r8.1.1).bind fun r10 =>
              ((
                  bif (!(r10.1.1 == r6.1.1)) then
                    some (t0, r8.1.1, true, ())
                  else
                    some (t0, r8.1.1, (!(r10.1.2.1 == r6.1.2.1)), ()) : Option ((PV Y_laws_Series × PV Y_impl_Series × PV .bool × Unit)))).bind fun j12 =>
                bif j12.2.2.1 then
                  some ((false, ()), ())
                else
                  (f_L_toSeries j12.1).bind fun r19 =>
                    (f_L_eqSeries j12.2.1 r19.1.1).bind fun r20 =>
                      bif (!r20.1.1) then
                        some ((false, ()), ())
                      else
                        some ((true, ()), ())
noncomputable def ct_L_FnExactSizeOf : Ct := ⟨[(.bor, Y_laws_Series)], [(.bool, false)], fun x => f_L_FnExactSizeOf x.1⟩
noncomputable def cx_L_FnExactSizeOf : Cx := ⟨tab, arrs, [(48, ct_L_szSeries), (50, ct_L_toSeries), (52, ct_L_eqSeries), (57, ct_S_SizeOf), (58, ct_I_SizeOf)], []⟩
theorem ef_L_FnExactSizeOf (t0 : PV Y_laws_Series) : denF cx_L_FnExactSizeOf 0 pl_L_FnExactSizeOf Try.f11.ntmps (bodyOf Try.f11) Try.f11.results.toList [(.bor, Y_laws_Series)] [(.bool, false)] (t0, ()) = f_L_FnExactSizeOf t0 := by kernel_rfl
theorem ok_L_FnExactSizeOf : FnOk Try.prog 11 ct_L_FnExactSizeOf :=
  fnOk (cx := cx_L_FnExactSizeOf) (pl := pl_L_FnExactSizeOf) (dp := 0) (ok0_of tabOk (by unfold ArrOk; kernel_rfl) mix ⟨ok_L_szSeries, ok_L_toSeries, ok_L_eqSeries, ok_S_SizeOf, ok_I_SizeOf, trivial⟩ trivial) Try.func11 (by kernel_rfl) (by kernel_rfl) (by kernel_rfl)
    (by rw [show loopsOf (bodyOf Try.f11) = [] from by kernel_rfl]; exact trivial) (fun x => ef_L_FnExactSizeOf x.1)
noncomputable def sh_L_szStringSS_5 : List Sh := mkSh 27 [(0, .val S_S_string .b), (1, .val (.int .i64) .b), (5, .val (.int .i64) .b)]
noncomputable def o_L_szStringSS_5 : List Out := [⟨.exit 0, ⟨[], [1]⟩, mkSh 27 [(1, .val (.int .i64) .b)]⟩, ⟨.ret, ⟨[], [4]⟩, mkSh 27 [(4, .val (.int .i64) .b)]⟩]
noncomputable def b_L_szStringSS_5 (t0 : PV S_S_string) (t1 : PV (.int .i64)) (t5 : PV (.int .i64)) : Option ((PV S_S_string × PV (.int .i64) × PV (.int .i64) × Unit) ⊕ ((PV (.int .i64) × Unit) ⊕ (PV (.int .i64) × Unit))) :=
  bif (decide (t5 < (t0.length : Int))) then
    bif inB t5 t0.length then
      (f_L_szStringS (t0.getD t5.toNat []) t1).bind fun r4 =>
        bif (decide (r4.1.1 < 0)) then
          some (.inr (.inr ((-1), ())))
        else
          some (.inl (t0, r4.1.1, (IntKind.wrap .i64 (t5 + 1)), ()))
    else
      none
  else
    some (.inr (.inl (t1, ())))
noncomputable def w_L_szStringSS_5 : PV S_S_string × PV (.int .i64) × PV (.int .i64) × Unit → Option ((PV (.int .i64) × Unit) ⊕ (PV (.int .i64) × Unit)) := fix fun d => b_L_szStringSS_5 d.1 d.2.1 d.2.2.1
noncomputable def lp_L_szStringSS_5 : Lp := ⟨⟨[], [0, 1, 5]⟩, sh_L_szStringSS_5, o_L_szStringSS_5, fun d => b_L_szStringSS_5 d.1 d.2.1 d.2.2.1⟩
noncomputable def pl_L_szStringSS : Plan := ⟨[], [(5, lp_L_szStringSS_5)], 0, 0⟩
noncomputable def f_L_szStringSS (t0 : PV S_S_string) (t1 : PV (.int .i64)) : Option (PVs [(.int .i64)] × PVs []) :=
  bif (decide ((IntKind.wrap .i64 (t1 - (t0.length : Int))) < 0)) then
    some (((-1), ()), ())
  else
    (w_L_szStringSS_5 (t0, (IntKind.wrap .i64 (t1 - (t0.length : Int))), 0, ())).bind fun x9 =>
      match x9 with
      | .inl l7 =>
        some ((l7.1, ()), ())
      | .inr l8 =>
        some ((l8.1, ()), ())
noncomputable def ct_L_szStringSS : Ct := ⟨[(.bor, S_S_string), (.bor, (.int .i64))], [((.int .i64), false)], fun x => f_L_szStringSS x.1 x.2.1⟩
noncomputable def cx_L_szStringSS : Cx := ⟨tab, arrs, [(29, ct_L_szStringS)], []⟩
theorem eb_L_szStringSS_5 (t0 : PV S_S_string) (t1 : PV (.int .i64)) (t5 : PV (.int .i64)) : denK cx_L_szStringSS (rcN cx_L_szStringSS 0) pl_L_szStringSS 0 ((loopsOf (bodyOf Try.f34)).getD 0 .skip) (fillS sh_L_szStringSS_5 (t0, t1, t5, ())) (roundK 0 lp_L_szStringSS_5) = b_L_szStringSS_5 t0 t1 t5 := by kernel_rfl
theorem ef_L_szStringSS (t0 : PV S_S_string) (t1 : PV (.int .i64)) : denF cx_L_szStringSS 0 pl_L_szStringSS Try.f34.ntmps (bodyOf Try.f34) Try.f34.results.toList [(.bor, S_S_string), (.bor, (.int .i64))] [((.int .i64), false)] (t0, t1, ()) = f_L_szStringSS t0 t1 := by kernel_rfl
theorem ok_L_szStringSS : FnOk Try.prog 34 ct_L_szStringSS :=
  fnOk (cx := cx_L_szStringSS) (pl := pl_L_szStringSS) (dp := 0) (ok0_of tabOk (by unfold ArrOk; kernel_rfl) mix ⟨ok_L_szStringS, trivial⟩ trivial) Try.func34 (by kernel_rfl) (by kernel_rfl) (by kernel_rfl)
    (by rw [show loopsOf (bodyOf Try.f34) = [((loopsOf (bodyOf Try.f34)).getD 0 .skip)] from by kernel_rfl]; exact ⟨(by rw [show lookup pl_L_szStringSS.loops (firstId ((loopsOf (bodyOf Try.f34)).getD 0 .skip)) = some lp_L_szStringSS_5 from by kernel_rfl]; exact fun d z h => (eb_L_szStringSS_5 d.1 d.2.1 d.2.2.1).trans h), trivial⟩) (fun x => ef_L_szStringSS x.1 x.2.1)
noncomputable def sh_L_toStringSS_3 : List Sh := mkSh 23 [(0, .val S_S_string .b), (3, .val S_S_string (.row (.row .b))), (4, .val (.int .i64) .b)]
noncomputable def o_L_toStringSS_3 : List Out := [⟨.exit 0, ⟨[], [3]⟩, mkSh 23 [(3, .val S_S_string (.row (.row .b)))]⟩]
noncomputable def b_L_toStringSS_3 (t0 : PV S_S_string) (t3 : PV S_S_string) (t4 : PV (.int .i64)) : Option ((PV S_S_string × PV S_S_string × PV (.int .i64) × Unit) ⊕ ((PV S_S_string × Unit))) :=
  bif (decide (t4 < (t0.length : Int))) then
    bif inB t4 t0.length then
      (f_L_toStringS (t0.getD t4.toNat [])).bind fun r2 =>
        bif inB t4 t3.length then
          some (.inl (t0, (t3.set t4.toNat r2.1.1), (IntKind.wrap .i64 (t4 + 1)), ()))
        else
          none
    else
      none
  else
    some (.inr (t3, ()))
noncomputable def w_L_toStringSS_3 : PV S_S_string × PV S_S_string × PV (.int .i64) × Unit → Option ((PV S_S_string × Unit)) := fix fun d => b_L_toStringSS_3 d.1 d.2.1 d.2.2.1
noncomputable def lp_L_toStringSS_3 : Lp := ⟨⟨[], [0, 3, 4]⟩, sh_L_toStringSS_3, o_L_toStringSS_3, fun d => b_L_toStringSS_3 d.1 d.2.1 d.2.2.1⟩
noncomputable def pl_L_toStringSS : Plan := ⟨[], [(3, lp_L_toStringSS_3)], 0, 0⟩
noncomputable def f_L_toStringSS (t0 : PV S_S_string) : Option (PVs [S_S_string] × PVs []) :=
  bif decide (0 ≤ (t0.length : Int)) && (decide ((t0.length : Int) ≤ (t0.length : Int)) && roomB (t0.length : Int).toNat) then
    (w_L_toStringSS_3 (t0, (List.replicate (t0.length : Int).toNat ([] : PV S_string)), 0, ())).bind fun l4 =>
      some ((l4.1, ()), ())
  else
    none
noncomputable def ct_L_toStringSS : Ct := ⟨[(.bor, S_S_string)], [(S_S_string, true)], fun x => f_L_toStringSS x.1⟩
noncomputable def cx_L_toStringSS : Cx := ⟨tab, arrs, [(31, ct_L_toStringS)], []⟩
theorem eb_L_toStringSS_3 (t0 : PV S_S_string) (t3 : PV S_S_string) (t4 : PV (.int .i64)) : denK cx_L_toStringSS (rcN cx_L_toStringSS 0) pl_L_toStringSS 0 ((loopsOf (bodyOf Try.f36)).getD 0 .skip) (fillS sh_L_toStringSS_3 (t0, t3, t4, ())) (roundK 0 lp_L_toStringSS_3) = b_L_toStringSS_3 t0 t3 t4 := by kernel_rfl
theorem ef_L_toStringSS (t0 : PV S_S_string) : denF cx_L_toStringSS 0 pl_L_toStringSS Try.f36.ntmps (bodyOf Try.f36) Try.f36.results.toList [(.bor, S_S_string)] [(S_S_string, true)] (t0, ()) = f_L_toStringSS t0 := by kernel_rfl
theorem ok_L_toStringSS : FnOk Try.prog 36 ct_L_toStringSS :=
  fnOk (cx := cx_L_toStringSS) (pl := pl_L_toStringSS) (dp := 0) (ok0_of tabOk (by unfold ArrOk; kernel_rfl) mix ⟨ok_L_toStringS, trivial⟩ trivial) Try.func36 (by kernel_rfl) (by kernel_rfl) (by kernel_rfl)
    (by rw [show loopsOf (bodyOf Try.f36) = [((loopsOf (bodyOf Try.f36)).getD 0 .skip)] from by kernel_rfl]; exact ⟨(by rw [show lookup pl_L_toStringSS.loops (firstId ((loopsOf (bodyOf Try.f36)).getD 0 .skip)) = some lp_L_toStringSS_3 from by kernel_rfl]; exact fun d z h => (eb_L_toStringSS_3 d.1 d.2.1 d.2.2.1).trans h), trivial⟩) (fun x => ef_L_toStringSS x.1)
noncomputable def sh_S_l12Good_2 : List Sh := mkSh 18 [(0, .val S_S_string .b), (5, .val S_S_string .b), (6, .val (.int .i64) .b), (7, .val (.int .i64) .b)]
noncomputable def o_S_l12Good_2 : List Out := [⟨.exit 0, ⟨[], [0]⟩, mkSh 18 [(0, .val S_S_string .b)]⟩, ⟨.ret, ⟨[], [2]⟩, mkSh 18 [(2, .val .bool .b)]⟩]
noncomputable def b_S_l12Good_2 (t0 : PV S_S_string) (t5 : PV S_S_string) (t6 : PV (.int .i64)) (t7 : PV (.int .i64)) : Option ((PV S_S_string × PV S_S_string × PV (.int .i64) × PV (.int .i64) × Unit) ⊕ ((PV S_S_string × Unit) ⊕ (PV .bool × Unit))) :=
  bif (decide (t7 < t6)) then
    bif inB t7 t5.length then
      (f_S_l1Good (t5.getD t7.toNat [])).bind fun r4 =>
        bif (!r4.1.1) then
          some (.inr (.inr (false, ())))
        else
          some (.inl (t0, t5, t6, (IntKind.wrap .i64 (t7 + 1)), ()))
    else
      none
  else
    some (.inr (.inl (t0, ())))
noncomputable def w_S_l12Good_2 : PV S_S_string × PV S_S_string × PV (.int .i64) × PV (.int .i64) × Unit → Option ((PV S_S_string × Unit) ⊕ (PV .bool × Unit)) := fix fun d => b_S_l12Good_2 d.1 d.2.1 d.2.2.1 d.2.2.2.1
noncomputable def lp_S_l12Good_2 : Lp := ⟨⟨[], [0, 5, 6, 7]⟩, sh_S_l12Good_2, o_S_l12Good_2, fun d => b_S_l12Good_2 d.1 d.2.1 d.2.2.1 d.2.2.2.1⟩
noncomputable def pl_S_l12Good : Plan := ⟨[], [(2, lp_S_l12Good_2)], 0, 0⟩
noncomputable def f_S_l12Good (t0 : PV S_S_string) : Option (PVs [.bool] × PVs []) :=
  (w_S_l12Good_2 (t0, t0, (t0.length : Int), 0, ())).bind fun x10 =>
    match x10 with
    | .inl l7 =>
      (f_S_l1In (l7.1.length : Int) 1 8).bind fun r8 =>
        some ((r8.1.1, ()), ())
    | .inr l9 =>
      some ((l9.1, ()), ())
noncomputable def ct_S_l12Good : Ct := ⟨[(.bor, S_S_string)], [(.bool, false)], fun x => f_S_l12Good x.1⟩
noncomputable def cx_S_l12Good : Cx := ⟨tab, arrs, [(99, ct_S_l1In), (100, ct_S_l1Good)], []⟩
theorem eb_S_l12Good_2 (t0 : PV S_S_string) (t5 : PV S_S_string) (t6 : PV (.int .i64)) (t7 : PV (.int .i64)) : denK cx_S_l12Good (rcN cx_S_l12Good 0) pl_S_l12Good 0 ((loopsOf (bodyOf Try.f83)).getD 0 .skip) (fillS sh_S_l12Good_2 (t0, t5, t6, t7, ())) (roundK 0 lp_S_l12Good_2) = b_S_l12Good_2 t0 t5 t6 t7 := by kernel_rfl
theorem ef_S_l12Good (t0 : PV S_S_string) : denF cx_S_l12Good 0 pl_S_l12Good Try.f83.ntmps (bodyOf Try.f83) Try.f83.results.toList [(.bor, S_S_string)] [(.bool, false)] (t0, ()) = f_S_l12Good t0 := by kernel_rfl
theorem ok_S_l12Good : FnOk Try.prog 83 ct_S_l12Good :=
  fnOk (cx := cx_S_l12Good) (pl := pl_S_l12Good) (dp := 0) (ok0_of tabOk (by unfold ArrOk; kernel_rfl) mix ⟨ok_S_l1In, ok_S_l1Good, trivial⟩ trivial) Try.func83 (by kernel_rfl) (by kernel_rfl) (by kernel_rfl)
    (by rw [show loopsOf (bodyOf Try.f83) = [((loopsOf (bodyOf Try.f83)).getD 0 .skip)] from by kernel_rfl]; exact ⟨(by rw [show lookup pl_S_l12Good.loops (firstId ((loopsOf (bodyOf Try.f83)).getD 0 .skip)) = some lp_S_l12Good_2 from by kernel_rfl]; exact fun d z h => (eb_S_l12Good_2 d.1 d.2.1 d.2.2.1 d.2.2.2.1).trans h), trivial⟩) (fun x => ef_S_l12Good x.1)
noncomputable def pl_S_l1Most : Plan := ⟨[], [], 0, 0⟩
noncomputable def f_S_l1Most (t0 : PV (.int .i64)) (t1 : PV (.int .i64)) : Option (PVs [(.int .i64)] × PVs []) :=
  bif (decide (t0 > t1)) then
    some ((t0, ()), ())
  else
    some ((t1, ()), ())
noncomputable def ct_S_l1Most : Ct := ⟨[(.bor, (.int .i64)), (.bor, (.int .i64))], [((.int .i64), false)], fun x => f_S_l1Most x.1 x.2.1⟩
noncomputable def cx_S_l1Most : Cx := ⟨tab, arrs, [], []⟩
theorem ef_S_l1Most (t0 : PV (.int .i64)) (t1 : PV (.int .i64)) : denF cx_S_l1Most 0 pl_S_l1Most Try.f153.ntmps (bodyOf Try.f153) Try.f153.results.toList [(.bor, (.int .i64)), (.bor, (.int .i64))] [((.int .i64), false)] (t0, t1, ()) = f_S_l1Most t0 t1 := by kernel_rfl
theorem ok_S_l1Most : FnOk Try.prog 153 ct_S_l1Most :=
  fnOk (cx := cx_S_l1Most) (pl := pl_S_l1Most) (dp := 0) (ok0_of tabOk (by unfold ArrOk; kernel_rfl) mix trivial trivial) Try.func153 (by kernel_rfl) (by kernel_rfl) (by kernel_rfl)
    (by rw [show loopsOf (bodyOf Try.f153) = [] from by kernel_rfl]; exact trivial) (fun x => ef_S_l1Most x.1 x.2.1)
noncomputable def o_S_l3Table_12 : List Out := [⟨.normal, ⟨[], [0, 1, 5, 7, 8]⟩, mkSh 97 [(0, .val S_string .b), (1, .val S_string .b), (5, .val S_S_int (.row (.row .b))), (7, .val (.int .i64) .b), (8, .val (.int .i64) .b)]⟩]
noncomputable def sh_S_l3Table_3 : List Sh := mkSh 97 [(0, .val S_string .b), (1, .val S_string .b), (5, .val S_S_int (.row (.row .b))), (14, .val (.int .i64) .b), (15, .val (.int .i64) .b)]
noncomputable def o_S_l3Table_3 : List Out := [⟨.exit 0, ⟨[], [0, 1, 5]⟩, mkSh 97 [(0, .val S_string .b), (1, .val S_string .b), (5, .val S_S_int (.row (.row .b)))]⟩]
noncomputable def b_S_l3Table_3 (t0 : PV S_string) (t1 : PV S_string) (t5 : PV S_S_int) (t14 : PV (.int .i64)) (t15 : PV (.int .i64)) : Option ((PV S_string × PV S_string × PV S_S_int × PV (.int .i64) × PV (.int .i64) × Unit) ⊕ ((PV S_string × PV S_string × PV S_S_int × Unit))) :=
  bif (decide (t15 < t14)) then
    bif decide (0 ≤ (IntKind.wrap .i64 ((t1.length : Int) + 1))) && (decide ((IntKind.wrap .i64 ((t1.length : Int) + 1)) ≤ (IntKind.wrap .i64 ((t1.length : Int) + 1))) && roomB (IntKind.wrap .i64 ((t1.length : Int) + 1)).toNat) then
      bif inB t15 t5.length then
        some (.inl (t0, t1, (t5.set t15.toNat (List.replicate (IntKind.wrap .i64 ((t1.length : Int) + 1)).toNat (0 : Int))), t14, (IntKind.wrap .i64 (t15 + 1)), ()))
      else
        none
    else
      none
  else
    some (.inr (t0, t1, t5, ()))
noncomputable def w_S_l3Table_3 : PV S_string × PV S_string × PV S_S_int × PV (.int .i64) × PV (.int .i64) × Unit → Option ((PV S_string × PV S_string × PV S_S_int × Unit)) := fix fun d => b_S_l3Table_3 d.1 d.2.1 d.2.2.1 d.2.2.2.1 d.2.2.2.2.1
noncomputable def lp_S_l3Table_3 : Lp := ⟨⟨[], [0, 1, 5, 14, 15]⟩, sh_S_l3Table_3, o_S_l3Table_3, fun d => b_S_l3Table_3 d.1 d.2.1 d.2.2.1 d.2.2.2.1 d.2.2.2.2.1⟩
noncomputable def sh_S_l3Table_11 : List Sh := mkSh 97 [(0, .val S_string .b), (1, .val S_string .b), (5, .val S_S_int (.row (.row .b))), (7, .val (.int .i64) .b), (8, .val (.int .i64) .b)]
noncomputable def o_S_l3Table_11 : List Out := [⟨.exit 4, ⟨[], [0, 1, 5, 7]⟩, mkSh 97 [(0, .val S_string .b), (1, .val S_string .b), (5, .val S_S_int (.row (.row .b))), (7, .val (.int .i64) .b)]⟩]
noncomputable def b_S_l3Table_11 (t0 : PV S_string) (t1 : PV S_string) (t5 : PV S_S_int) (t7 : PV (.int .i64)) (t8 : PV (.int .i64)) : Option ((PV S_string × PV S_string × PV S_S_int × PV (.int .i64) × PV (.int .i64) × Unit) ⊕ ((PV S_string × PV S_string × PV S_S_int × PV (.int .i64) × Unit))) :=
  bif (decide (t8 ≥ 0)) then
    ((
        bif inB t7 t5.length then
          bif inB (IntKind.wrap .i64 (t7 + 1)) t5.length then
            bif inB t8 (t5.getD ((IntKind.wrap .i64 (t7 + 1)).toNat) []).length then
              bif inB t7 t5.length then
                bif inB (IntKind.wrap .i64 (t8 + 1)) (t5.getD t7.toNat []).length then
                  (f_S_l1Most ((t5.getD ((IntKind.wrap .i64 (t7 + 1)).toNat) []).getD t8.toNat (0 : Int)) ((t5.getD t7.toNat []).getD ((IntKind.wrap .i64 (t8 + 1)).toNat) (0 : Int))).bind fun r4 =>
                    bif inB t8 (t5.getD t7.toNat []).length then
                      bif inB t7 t0.length then
                        bif inB t8 t1.length then
                          bif ((t0.getD t7.toNat []) == (t1.getD t8.toNat [])) then
                            bif inB t7 (t5.set t7.toNat ((t5.getD t7.toNat []).set t8.toNat r4.1.1)).length then
                              bif inB t7 (t5.set t7.toNat ((t5.getD t7.toNat []).set t8.toNat r4.1.1)).length then
                                bif inB t8 ((t5.set t7.toNat ((t5.getD t7.toNat []).set t8.toNat r4.1.1)).getD t7.toNat []).length then
                                  bif inB (IntKind.wrap .i64 (t7 + 1)) (t5.set t7.toNat ((t5.getD t7.toNat []).set t8.toNat r4.1.1)).length then
                                    bif inB (IntKind.wrap .i64 (t8 + 1)) ((t5.set t7.toNat ((t5.getD t7.toNat []).set t8.toNat r4.1.1)).getD ((IntKind.wrap .i64 (t7 + 1)).toNat) []).length then
                                      (f_S_l1Most (((t5.set t7.toNat ((t5.getD t7.toNat []).set t8.toNat r4.1.1)).getD t7.toNat []).getD t8.toNat (0 : Int)) (IntKind.wrap .i64 ((((t5.set t7.toNat ((t5.getD t7.toNat []).set t8.toNat r4.1.1)).getD ((IntKind.wrap .i64 (t7 + 1)).toNat) []).getD ((IntKind.wrap .i64 (t8 + 1)).toNat) (0 : Int)) + 1))).bind fun r5 =>
                                        bif inB t8 ((t5.set t7.toNat ((t5.getD t7.toNat []).set t8.toNat r4.1.1)).getD t7.toNat []).length then
                                          some (t0, t1, ((t5.set t7.toNat ((t5.getD t7.toNat []).set t8.toNat r4.1.1)).set t7.toNat (((t5.set t7.toNat ((t5.getD t7.toNat []).set t8.toNat r4.1.1)).getD t7.toNat []).set t8.toNat r5.1.1)), t7, t8, ())
                                        else
                                          none
                                    else
                                      none
                                  else
                                    none
                                else
                                  none
                              else
                                none
                            else
                              none
                          else
                            some (t0, t1, (t5.set t7.toNat ((t5.getD t7.toNat []).set t8.toNat r4.1.1)), t7, t8, ())
                        else
                          none
                      else
                        none
                    else
                      none
                else
                  none
              else
                none
            else
              none
          else
            none
        else
          none : Option ((PV S_string × PV S_string × PV S_S_int × PV (.int .i64) × PV (.int .i64) × Unit)))).bind fun j6 =>
      some (.inl (j6.1, j6.2.1, j6.2.2.1, j6.2.2.2.1, (IntKind.wrap .i64 (j6.2.2.2.2.1 - 1)), ()))
  else
    some (.inr (t0, t1, t5, t7, ()))
noncomputable def w_S_l3Table_11 : PV S_string × PV S_string × PV S_S_int × PV (.int .i64) × PV (.int .i64) × Unit → Option ((PV S_string × PV S_string × PV S_S_int × PV (.int .i64) × Unit)) := fix fun d => b_S_l3Table_11 d.1 d.2.1 d.2.2.1 d.2.2.2.1 d.2.2.2.2.1
noncomputable def lp_S_l3Table_11 : Lp := ⟨⟨[], [0, 1, 5, 7, 8]⟩, sh_S_l3Table_11, o_S_l3Table_11, fun d => b_S_l3Table_11 d.1 d.2.1 d.2.2.1 d.2.2.2.1 d.2.2.2.2.1⟩
noncomputable def sh_S_l3Table_8 : List Sh := mkSh 97 [(0, .val S_string .b), (1, .val S_string .b), (5, .val S_S_int (.row (.row .b))), (7, .val (.int .i64) .b)]
noncomputable def o_S_l3Table_8 : List Out := [⟨.exit 2, ⟨[], [5]⟩, mkSh 97 [(5, .val S_S_int (.row (.row .b)))]⟩]
noncomputable def b_S_l3Table_8 (t0 : PV S_string) (t1 : PV S_string) (t5 : PV S_S_int) (t7 : PV (.int .i64)) : Option ((PV S_string × PV S_string × PV S_S_int × PV (.int .i64) × Unit) ⊕ ((PV S_S_int × Unit))) :=
  bif (decide (t7 ≥ 0)) then
    (w_S_l3Table_11 (t0, t1, t5, t7, (IntKind.wrap .i64 ((t1.length : Int) - 1)), ())).bind fun l4 =>
      some (.inl (l4.1, l4.2.1, l4.2.2.1, (IntKind.wrap .i64 (l4.2.2.2.1 - 1)), ()))
  else
    some (.inr (t5, ()))
noncomputable def w_S_l3Table_8 : PV S_string × PV S_string × PV S_S_int × PV (.int .i64) × Unit → Option ((PV S_S_int × Unit)) := fix fun d => b_S_l3Table_8 d.1 d.2.1 d.2.2.1 d.2.2.2.1
noncomputable def lp_S_l3Table_8 : Lp := ⟨⟨[], [0, 1, 5, 7]⟩, sh_S_l3Table_8, o_S_l3Table_8, fun d => b_S_l3Table_8 d.1 d.2.1 d.2.2.1 d.2.2.2.1⟩
noncomputable def pl_S_l3Table : Plan := ⟨[(12, o_S_l3Table_12)], [(3, lp_S_l3Table_3), (11, lp_S_l3Table_11), (8, lp_S_l3Table_8)], 0, 0⟩
noncomputable def f_S_l3Table (t0 : PV S_string) (t1 : PV S_string) : Option (PVs [S_S_int] × PVs []) :=
  bif decide (0 ≤ (IntKind.wrap .i64 ((t0.length : Int) + 1))) && (decide ((IntKind.wrap .i64 ((t0.length : Int) + 1)) ≤ (IntKind.wrap .i64 ((t0.length : Int) + 1))) && roomB (IntKind.wrap .i64 ((t0.length : Int) + 1)).toNat) then
    (w_S_l3Table_3 (t0, t1, (List.replicate (IntKind.wrap .i64 ((t0.length : Int) + 1)).toNat ([] : PV S_int)), ((List.replicate (IntKind.wrap .i64 ((t0.length : Int) + 1)).toNat ([] : PV S_int)).length : Int), 0, ())).bind fun l2 =>
      (w_S_l3Table_8 (l2.1, l2.2.1, l2.2.2.1, (IntKind.wrap .i64 ((l2.1.length : Int) - 1)), ())).bind fun l6 =>
        some ((l6.1, ()), ())
  else
    none
noncomputable def ct_S_l3Table : Ct := ⟨[(.bor, S_string), (.bor, S_string)], [(S_S_int, true)], fun x => f_S_l3Table x.1 x.2.1⟩
noncomputable def cx_S_l3Table : Cx := ⟨tab, arrs, [(153, ct_S_l1Most)], []⟩
theorem eb_S_l3Table_3 (t0 : PV S_string) (t1 : PV S_string) (t5 : PV S_S_int) (t14 : PV (.int .i64)) (t15 : PV (.int .i64)) : denK cx_S_l3Table (rcN cx_S_l3Table 0) pl_S_l3Table 0 ((loopsOf (bodyOf Try.f119)).getD 0 .skip) (fillS sh_S_l3Table_3 (t0, t1, t5, t14, t15, ())) (roundK 0 lp_S_l3Table_3) = b_S_l3Table_3 t0 t1 t5 t14 t15 := by kernel_rfl
theorem eb_S_l3Table_8 (t0 : PV S_string) (t1 : PV S_string) (t5 : PV S_S_int) (t7 : PV (.int .i64)) : denK cx_S_l3Table (rcN cx_S_l3Table 0) pl_S_l3Table 0 ((loopsOf (bodyOf Try.f119)).getD 1 .skip) (fillS sh_S_l3Table_8 (t0, t1, t5, t7, ())) (roundK 0 lp_S_l3Table_8) = b_S_l3Table_8 t0 t1 t5 t7 := by kernel_rfl
theorem eb_S_l3Table_11 (t0 : PV S_string) (t1 : PV S_string) (t5 : PV S_S_int) (t7 : PV (.int .i64)) (t8 : PV (.int .i64)) : denK cx_S_l3Table (rcN cx_S_l3Table 0) pl_S_l3Table 0 ((loopsOf (bodyOf Try.f119)).getD 2 .skip) (fillS sh_S_l3Table_11 (t0, t1, t5, t7, t8, ())) (roundK 0 lp_S_l3Table_11) = b_S_l3Table_11 t0 t1 t5 t7 t8 := by kernel_rfl
theorem ef_S_l3Table (t0 : PV S_string) (t1 : PV S_string) : denF cx_S_l3Table 0 pl_S_l3Table Try.f119.ntmps (bodyOf Try.f119) Try.f119.results.toList [(.bor, S_string), (.bor, S_string)] [(S_S_int, true)] (t0, t1, ()) = f_S_l3Table t0 t1 := by kernel_rfl
theorem ok_S_l3Table : FnOk Try.prog 119 ct_S_l3Table :=
  fnOk (cx := cx_S_l3Table) (pl := pl_S_l3Table) (dp := 0) (ok0_of tabOk (by unfold ArrOk; kernel_rfl) mix ⟨ok_S_l1Most, trivial⟩ trivial) Try.func119 (by kernel_rfl) (by kernel_rfl) (by kernel_rfl)
    (by rw [show loopsOf (bodyOf Try.f119) = [((loopsOf (bodyOf Try.f119)).getD 0 .skip), ((loopsOf (bodyOf Try.f119)).getD 1 .skip), ((loopsOf (bodyOf Try.f119)).getD 2 .skip)] from by kernel_rfl]; exact ⟨(by rw [show lookup pl_S_l3Table.loops (firstId ((loopsOf (bodyOf Try.f119)).getD 0 .skip)) = some lp_S_l3Table_3 from by kernel_rfl]; exact fun d z h => (eb_S_l3Table_3 d.1 d.2.1 d.2.2.1 d.2.2.2.1 d.2.2.2.2.1).trans h), (by rw [show lookup pl_S_l3Table.loops (firstId ((loopsOf (bodyOf Try.f119)).getD 1 .skip)) = some lp_S_l3Table_8 from by kernel_rfl]; exact fun d z h => (eb_S_l3Table_8 d.1 d.2.1 d.2.2.1 d.2.2.2.1).trans h), (by rw [show lookup pl_S_l3Table.loops (firstId ((loopsOf (bodyOf Try.f119)).getD 2 .skip)) = some lp_S_l3Table_11 from by kernel_rfl]; exact fun d z h => (eb_S_l3Table_11 d.1 d.2.1 d.2.2.1 d.2.2.2.1 d.2.2.2.2.1).trans h), trivial⟩) (fun x => ef_S_l3Table x.1 x.2.1)
noncomputable def o_S_l3Pairs_13 : List Out := [⟨.normal, ⟨[], [0, 1, 5, 6, 7, 8, 9, 10, 11, 12, 72]⟩, mkSh 86 [(0, .val S_string .b), (1, .val S_string .b), (5, .val S_S_int (.row (.row .b))), (6, .val S__2_int (.row (.pr .b (.pr .b .b)))), (7, .val (.int .i64) .b), (8, .val (.int .i64) .b), (9, .val (.int .i64) .b), (10, .val (.int .i64) .b), (11, .val (.int .i64) .b), (12, .val (.int .i64) .b), (72, .val .bool .b)]⟩]
noncomputable def o_S_l3Pairs_11 : List Out := [⟨.normal, ⟨[], [0, 1, 5, 6, 7, 8, 9, 10, 11, 12, 54, 55, 56, 57, 58, 59, 60, 61, 62, 63, 64, 65, 66, 67, 68, 69, 70, 71]⟩, mkSh 86 [(0, .val S_string .b), (1, .val S_string .b), (5, .val S_S_int (.row (.row .b))), (6, .val S__2_int (.row (.pr .b (.pr .b .b)))), (7, .val (.int .i64) .b), (8, .val (.int .i64) .b), (9, .val (.int .i64) .b), (10, .val (.int .i64) .b), (11, .val (.int .i64) .b), (12, .val (.int .i64) .b)]⟩]
noncomputable def sh_S_l3Pairs_10 : List Sh := mkSh 86 [(0, .val S_string .b), (1, .val S_string .b), (5, .val S_S_int (.row (.row .b))), (6, .val S__2_int (.row (.pr .b (.pr .b .b)))), (7, .val (.int .i64) .b), (8, .val (.int .i64) .b), (9, .val (.int .i64) .b), (10, .val (.int .i64) .b), (11, .val (.int .i64) .b), (12, .val (.int .i64) .b)]
noncomputable def o_S_l3Pairs_10 : List Out := [⟨.exit 4, ⟨[], [0, 1, 5, 6, 7, 8, 9, 10, 11, 54, 55, 56, 57, 58, 59, 60, 61, 62, 63, 64, 65, 66, 67, 68, 69, 70, 71]⟩, mkSh 86 [(0, .val S_string .b), (1, .val S_string .b), (5, .val S_S_int (.row (.row .b))), (6, .val S__2_int (.row (.pr .b (.pr .b .b)))), (7, .val (.int .i64) .b), (8, .val (.int .i64) .b), (9, .val (.int .i64) .b), (10, .val (.int .i64) .b), (11, .val (.int .i64) .b)]⟩]
noncomputable def b_S_l3Pairs_10 (t0 : PV S_string) (t1 : PV S_string) (t5 : PV S_S_int) (t6 : PV S__2_int) (t7 : PV (.int .i64)) (t8 : PV (.int .i64)) (t9 : PV (.int .i64)) (t10 : PV (.int .i64)) (t11 : PV (.int .i64)) (t12 : PV (.int .i64)) : Option ((PV S_string × PV S_string × PV S_S_int × PV S__2_int × PV (.int .i64) × PV (.int .i64) × PV (.int .i64) × PV (.int .i64) × PV (.int .i64) × PV (.int .i64) × Unit) ⊕ ((PV S_string × PV S_string × PV S_S_int × PV S__2_int × PV (.int .i64) × PV (.int .i64) × PV (.int .i64) × PV (.int .i64) × PV (.int .i64) × Unit))) :=
  bif (decide (t12 ≥ t8)) then
    ((
        ((
            bif inB t11 t0.length then
              bif inB t12 t1.length then
                bif ((t0.getD t11.toNat []) == (t1.getD t12.toNat [])) then
                  bif inB (IntKind.wrap .i64 (t11 + 1)) t5.length then
                    bif inB (IntKind.wrap .i64 (t12 + 1)) (t5.getD ((IntKind.wrap .i64 (t11 + 1)).toNat) []).length then
                      bif inB t7 t5.length then
                        bif inB t8 (t5.getD t7.toNat []).length then
                          some (t0, t1, t5, t6, t7, t8, t9, t10, t11, t12, ((IntKind.wrap .i64 (((t5.getD ((IntKind.wrap .i64 (t11 + 1)).toNat) []).getD ((IntKind.wrap .i64 (t12 + 1)).toNat) (0 : Int)) + 1)) == ((t5.getD t7.toNat []).getD t8.toNat (0 : Int))), ())
                        else
                          none
                      else
                        none
                    else
                      none
                  else
                    none
                else
                  some (t0, t1, t5, t6, t7, t8, t9, t10, t11, t12, false, ())
              else
                none
            else
              none : Option ((PV S_string × PV S_string × PV S_S_int × PV S__2_int × PV (.int .i64) × PV (.int .i64) × PV (.int .i64) × PV (.int .i64) × PV (.int .i64) × PV (.int .i64) × PV .bool × Unit)))).bind fun j3 =>
          bif j3.2.2.2.2.2.2.2.2.2.2.1 then
            some (j3.1, j3.2.1, j3.2.2.1, j3.2.2.2.1, j3.2.2.2.2.1, j3.2.2.2.2.2.1, j3.2.2.2.2.2.2.2.2.1, j3.2.2.2.2.2.2.2.2.2.1, j3.2.2.2.2.2.2.2.2.1, j3.2.2.2.2.2.2.2.2.2.1, ())
          else
            some (j3.1, j3.2.1, j3.2.2.1, j3.2.2.2.1, j3.2.2.2.2.1, j3.2.2.2.2.2.1, j3.2.2.2.2.2.2.1, j3.2.2.2.2.2.2.2.1, j3.2.2.2.2.2.2.2.2.1, j3.2.2.2.2.2.2.2.2.2.1, ()) : Option ((PV S_string × PV S_string × PV S_S_int × PV S__2_int × PV (.int .i64) × PV (.int .i64) × PV (.int .i64) × PV (.int .i64) × PV (.int .i64) × PV (.int .i64) × Unit)))).bind fun j4 =>
      some (.inl (j4.1, j4.2.1, j4.2.2.1, j4.2.2.2.1, j4.2.2.2.2.1, j4.2.2.2.2.2.1, j4.2.2.2.2.2.2.1, j4.2.2.2.2.2.2.2.1, j4.2.2.2.2.2.2.2.2.1, (IntKind.wrap .i64 (j4.2.2.2.2.2.2.2.2.2.1 - 1)), ()))
  else
    some (.inr (t0, t1, t5, t6, t7, t8, t9, t10, t11, ()))
noncomputable def w_S_l3Pairs_10 : PV S_string × PV S_string × PV S_S_int × PV S__2_int × PV (.int .i64) × PV (.int .i64) × PV (.int .i64) × PV (.int .i64) × PV (.int .i64) × PV (.int .i64) × Unit → Option ((PV S_string × PV S_string × PV S_S_int × PV S__2_int × PV (.int .i64) × PV (.int .i64) × PV (.int .i64) × PV (.int .i64) × PV (.int .i64) × Unit)) := fix fun d => b_S_l3Pairs_10 d.1 d.2.1 d.2.2.1 d.2.2.2.1 d.2.2.2.2.1 d.2.2.2.2.2.1 d.2.2.2.2.2.2.1 d.2.2.2.2.2.2.2.1 d.2.2.2.2.2.2.2.2.1 d.2.2.2.2.2.2.2.2.2.1
noncomputable def lp_S_l3Pairs_10 : Lp := ⟨⟨[], [0, 1, 5, 6, 7, 8, 9, 10, 11, 12, 54, 55, 56, 57, 58, 59, 60, 61, 62, 63, 64, 65, 66, 67, 68, 69, 70, 71]⟩, sh_S_l3Pairs_10, o_S_l3Pairs_10, fun d => b_S_l3Pairs_10 d.1 d.2.1 d.2.2.1 d.2.2.2.1 d.2.2.2.2.1 d.2.2.2.2.2.1 d.2.2.2.2.2.2.1 d.2.2.2.2.2.2.2.1 d.2.2.2.2.2.2.2.2.1 d.2.2.2.2.2.2.2.2.2.1⟩
noncomputable def sh_S_l3Pairs_7 : List Sh := mkSh 86 [(0, .val S_string .b), (1, .val S_string .b), (5, .val S_S_int (.row (.row .b))), (6, .val S__2_int (.row (.pr .b (.pr .b .b)))), (7, .val (.int .i64) .b), (8, .val (.int .i64) .b), (9, .val (.int .i64) .b), (10, .val (.int .i64) .b), (11, .val (.int .i64) .b)]
noncomputable def o_S_l3Pairs_7 : List Out := [⟨.exit 2, ⟨[], [0, 1, 5, 6, 9, 10, 54, 55, 56, 57, 58, 59, 60, 61, 62, 63, 64, 65, 66, 67, 68, 69, 70, 71]⟩, mkSh 86 [(0, .val S_string .b), (1, .val S_string .b), (5, .val S_S_int (.row (.row .b))), (6, .val S__2_int (.row (.pr .b (.pr .b .b)))), (9, .val (.int .i64) .b), (10, .val (.int .i64) .b)]⟩]
noncomputable def b_S_l3Pairs_7 (t0 : PV S_string) (t1 : PV S_string) (t5 : PV S_S_int) (t6 : PV S__2_int) (t7 : PV (.int .i64)) (t8 : PV (.int .i64)) (t9 : PV (.int .i64)) (t10 : PV (.int .i64)) (t11 : PV (.int .i64)) : Option ((PV S_string × PV S_string × PV S_S_int × PV S__2_int × PV (.int .i64) × PV (.int .i64) × PV (.int .i64) × PV (.int .i64) × PV (.int .i64) × Unit) ⊕ ((PV S_string × PV S_string × PV S_S_int × PV S__2_int × PV (.int .i64) × PV (.int .i64) × Unit))) :=
  bif (decide (t11 ≥ t7)) then
    (w_S_l3Pairs_10 (t0, t1, t5, t6, t7, t8, t9, t10, t11, (IntKind.wrap .i64 ((t1.length : Int) - 1)), ())).bind fun l4 =>
      some (.inl (l4.1, l4.2.1, l4.2.2.1, l4.2.2.2.1, l4.2.2.2.2.1, l4.2.2.2.2.2.1, l4.2.2.2.2.2.2.1, l4.2.2.2.2.2.2.2.1, (IntKind.wrap .i64 (l4.2.2.2.2.2.2.2.2.1 - 1)), ()))
  else
    some (.inr (t0, t1, t5, t6, t9, t10, ()))
noncomputable def w_S_l3Pairs_7 : PV S_string × PV S_string × PV S_S_int × PV S__2_int × PV (.int .i64) × PV (.int .i64) × PV (.int .i64) × PV (.int .i64) × PV (.int .i64) × Unit → Option ((PV S_string × PV S_string × PV S_S_int × PV S__2_int × PV (.int .i64) × PV (.int .i64) × Unit)) := fix fun d => b_S_l3Pairs_7 d.1 d.2.1 d.2.2.1 d.2.2.2.1 d.2.2.2.2.1 d.2.2.2.2.2.1 d.2.2.2.2.2.2.1 d.2.2.2.2.2.2.2.1 d.2.2.2.2.2.2.2.2.1
noncomputable def lp_S_l3Pairs_7 : Lp := ⟨⟨[], [0, 1, 5, 6, 7, 8, 9, 10, 11, 54, 55, 56, 57, 58, 59, 60, 61, 62, 63, 64, 65, 66, 67, 68, 69, 70, 71]⟩, sh_S_l3Pairs_7, o_S_l3Pairs_7, fun d => b_S_l3Pairs_7 d.1 d.2.1 d.2.2.1 d.2.2.2.1 d.2.2.2.2.1 d.2.2.2.2.2.1 d.2.2.2.2.2.2.1 d.2.2.2.2.2.2.2.1 d.2.2.2.2.2.2.2.2.1⟩
noncomputable def sh_S_l3Pairs_4 : List Sh := mkSh 86 [(0, .val S_string .b), (1, .val S_string .b), (5, .val S_S_int (.row (.row .b))), (6, .val S__2_int (.row (.pr .b (.pr .b .b)))), (7, .val (.int .i64) .b), (8, .val (.int .i64) .b)]
noncomputable def o_S_l3Pairs_4 : List Out := [⟨.exit 0, ⟨[], [6]⟩, mkSh 86 [(6, .val S__2_int (.row (.pr .b (.pr .b .b))))]⟩]
noncomputable def b_S_l3Pairs_4 (t0 : PV S_string) (t1 : PV S_string) (t5 : PV S_S_int) (t6 : PV S__2_int) (t7 : PV (.int .i64)) (t8 : PV (.int .i64)) : Option ((PV S_string × PV S_string × PV S_S_int × PV S__2_int × PV (.int .i64) × PV (.int .i64) × Unit) ⊕ ((PV S__2_int × Unit))) :=
  bif inB t7 t5.length then
    bif inB t8 (t5.getD t7.toNat []).length then
      bif (decide (((t5.getD t7.toNat []).getD t8.toNat (0 : Int)) > 0)) then
        (w_S_l3Pairs_7 (t0, t1, t5, t6, t7, t8, (t0.length : Int), (t1.length : Int), (IntKind.wrap .i64 ((t0.length : Int) - 1)), ())).bind fun l4 =>
          bif roomB (l4.2.2.2.1.length + [(l4.2.2.2.2.1, (l4.2.2.2.2.2.1, ()))].length) then
            some (.inl (l4.1, l4.2.1, l4.2.2.1, (l4.2.2.2.1 ++ [(l4.2.2.2.2.1, (l4.2.2.2.2.2.1, ()))]), (IntKind.wrap .i64 (l4.2.2.2.2.1 + 1)), (IntKind.wrap .i64 (l4.2.2.2.2.2.1 + 1)), ()))
          else
            none
      else
        some (.inr (t6, ()))
    else
      none
  else
    none
noncomputable def w_S_l3Pairs_4 : PV S_string × PV S_string × PV S_S_int × PV S__2_int × PV (.int .i64) × PV (.int .i64) × Unit → Option ((PV S__2_int × Unit)) := fix fun d => b_S_l3Pairs_4 d.1 d.2.1 d.2.2.1 d.2.2.2.1 d.2.2.2.2.1 d.2.2.2.2.2.1
noncomputable def lp_S_l3Pairs_4 : Lp := ⟨⟨[], [0, 1, 5, 6, 7, 8, 54, 55, 56, 57, 58, 59, 60, 61, 62, 63, 64, 65, 66, 67, 68, 69, 70, 71]⟩, sh_S_l3Pairs_4, o_S_l3Pairs_4, fun d => b_S_l3Pairs_4 d.1 d.2.1 d.2.2.1 d.2.2.2.1 d.2.2.2.2.1 d.2.2.2.2.2.1⟩
noncomputable def pl_S_l3Pairs : Plan := ⟨[(13, o_S_l3Pairs_13), (11, o_S_l3Pairs_11)], [(10, lp_S_l3Pairs_10), (7, lp_S_l3Pairs_7), (4, lp_S_l3Pairs_4)], 0, 0⟩
noncomputable def f_S_l3Pairs (t0 : PV S_string) (t1 : PV S_string) : Option (PVs [S__2_int] × PVs []) :=
  (f_S_l3Table t0 t1).bind fun r2 =>
    (w_S_l3Pairs_4 (t0, t1, r2.1.1, [], 0, 0, ())).bind fun l6 =>
      some ((l6.1, ()), ())
noncomputable def ct_S_l3Pairs : Ct := ⟨[(.bor, S_string), (.bor, S_string)], [(S__2_int, true)], fun x => f_S_l3Pairs x.1 x.2.1⟩
noncomputable def cx_S_l3Pairs : Cx := ⟨tab, arrs, [(119, ct_S_l3Table)], []⟩
theorem eb_S_l3Pairs_4 (t0 : PV S_string) (t1 : PV S_string) (t5 : PV S_S_int) (t6 : PV S__2_int) (t7 : PV (.int .i64)) (t8 : PV (.int .i64)) : denK cx_S_l3Pairs (rcN cx_S_l3Pairs 0) pl_S_l3Pairs 0 ((loopsOf (bodyOf Try.f84)).getD 0 .skip) (fillS sh_S_l3Pairs_4 (t0, t1, t5, t6, t7, t8, ())) (roundK 0 lp_S_l3Pairs_4) = b_S_l3Pairs_4 t0 t1 t5 t6 t7 t8 := by kernel_rfl
theorem eb_S_l3Pairs_7 (t0 : PV S_string) (t1 : PV S_string) (t5 : PV S_S_int) (t6 : PV S__2_int) (t7 : PV (.int .i64)) (t8 : PV (.int .i64)) (t9 : PV (.int .i64)) (t10 : PV (.int .i64)) (t11 : PV (.int .i64)) : denK cx_S_l3Pairs (rcN cx_S_l3Pairs 0) pl_S_l3Pairs 0 ((loopsOf (bodyOf Try.f84)).getD 1 .skip) (fillS sh_S_l3Pairs_7 (t0, t1, t5, t6, t7, t8, t9, t10, t11, ())) (roundK 0 lp_S_l3Pairs_7) = b_S_l3Pairs_7 t0 t1 t5 t6 t7 t8 t9 t10 t11 := by kernel_rfl
theorem eb_S_l3Pairs_10 (t0 : PV S_string) (t1 : PV S_string) (t5 : PV S_S_int) (t6 : PV S__2_int) (t7 : PV (.int .i64)) (t8 : PV (.int .i64)) (t9 : PV (.int .i64)) (t10 : PV (.int .i64)) (t11 : PV (.int .i64)) (t12 : PV (.int .i64)) : denK cx_S_l3Pairs (rcN cx_S_l3Pairs 0) pl_S_l3Pairs 0 ((loopsOf (bodyOf Try.f84)).getD 2 .skip) (fillS sh_S_l3Pairs_10 (t0, t1, t5, t6, t7, t8, t9, t10, t11, t12, ())) (roundK 0 lp_S_l3Pairs_10) = b_S_l3Pairs_10 t0 t1 t5 t6 t7 t8 t9 t10 t11 t12 := by kernel_rfl
theorem ef_S_l3Pairs (t0 : PV S_string) (t1 : PV S_string) : denF cx_S_l3Pairs 0 pl_S_l3Pairs Try.f84.ntmps (bodyOf Try.f84) Try.f84.results.toList [(.bor, S_string), (.bor, S_string)] [(S__2_int, true)] (t0, t1, ()) = f_S_l3Pairs t0 t1 := by kernel_rfl
theorem ok_S_l3Pairs : FnOk Try.prog 84 ct_S_l3Pairs :=
  fnOk (cx := cx_S_l3Pairs) (pl := pl_S_l3Pairs) (dp := 0) (ok0_of tabOk (by unfold ArrOk; kernel_rfl) mix ⟨ok_S_l3Table, trivial⟩ trivial) Try.func84 (by kernel_rfl) (by kernel_rfl) (by kernel_rfl)
    (by rw [show loopsOf (bodyOf Try.f84) = [((loopsOf (bodyOf Try.f84)).getD 0 .skip), ((loopsOf (bodyOf Try.f84)).getD 1 .skip), ((loopsOf (bodyOf Try.f84)).getD 2 .skip)] from by kernel_rfl]; exact ⟨(by rw [show lookup pl_S_l3Pairs.loops (firstId ((loopsOf (bodyOf Try.f84)).getD 0 .skip)) = some lp_S_l3Pairs_4 from by kernel_rfl]; exact fun d z h => (eb_S_l3Pairs_4 d.1 d.2.1 d.2.2.1 d.2.2.2.1 d.2.2.2.2.1 d.2.2.2.2.2.1).trans h), (by rw [show lookup pl_S_l3Pairs.loops (firstId ((loopsOf (bodyOf Try.f84)).getD 1 .skip)) = some lp_S_l3Pairs_7 from by kernel_rfl]; exact fun d z h => (eb_S_l3Pairs_7 d.1 d.2.1 d.2.2.1 d.2.2.2.1 d.2.2.2.2.1 d.2.2.2.2.2.1 d.2.2.2.2.2.2.1 d.2.2.2.2.2.2.2.1 d.2.2.2.2.2.2.2.2.1).trans h), (by rw [show lookup pl_S_l3Pairs.loops (firstId ((loopsOf (bodyOf Try.f84)).getD 2 .skip)) = some lp_S_l3Pairs_10 from by kernel_rfl]; exact fun d z h => (eb_S_l3Pairs_10 d.1 d.2.1 d.2.2.1 d.2.2.2.1 d.2.2.2.2.1 d.2.2.2.2.2.1 d.2.2.2.2.2.2.1 d.2.2.2.2.2.2.2.1 d.2.2.2.2.2.2.2.2.1 d.2.2.2.2.2.2.2.2.2.1).trans h), trivial⟩) (fun x => ef_S_l3Pairs x.1 x.2.1)
noncomputable def sh_S_ChurnOf_5 : List Sh := mkSh 47 [(0, .val S_S_string .b), (4, .val S_S_int (.row (.row .b))), (5, .val (.int .i64) .b)]
noncomputable def o_S_ChurnOf_5 : List Out := [⟨.exit 0, ⟨[], [4]⟩, mkSh 47 [(4, .val S_S_int (.row (.row .b)))]⟩]
noncomputable def b_S_ChurnOf_5 (t0 : PV S_S_string) (t4 : PV S_S_int) (t5 : PV (.int .i64)) : Option ((PV S_S_string × PV S_S_int × PV (.int .i64) × Unit) ⊕ ((PV S_S_int × Unit))) :=
  bif (decide (t5 < (t0.length : Int))) then
    bif inB (IntKind.wrap .i64 (t5 - 1)) t0.length then
      bif inB t5 t0.length then
        (f_S_l3Pairs (t0.getD ((IntKind.wrap .i64 (t5 - 1)).toNat) []) (t0.getD t5.toNat [])).bind fun r8 =>
          bif inB (IntKind.wrap .i64 (t5 - 1)) t0.length then
            bif inB t5 t0.length then
              bif roomB (t4.length + [[(IntKind.wrap .i64 (((t0.getD ((IntKind.wrap .i64 (t5 - 1)).toNat) []).length : Int) - (r8.1.1.length : Int))), (IntKind.wrap .i64 (((t0.getD t5.toNat []).length : Int) - (r8.1.1.length : Int)))]].length) then
                some (.inl (t0, (t4 ++ [[(IntKind.wrap .i64 (((t0.getD ((IntKind.wrap .i64 (t5 - 1)).toNat) []).length : Int) - (r8.1.1.length : Int))), (IntKind.wrap .i64 (((t0.getD t5.toNat []).length : Int) - (r8.1.1.length : Int)))]]), (IntKind.wrap .i64 (t5 + 1)), ()))
              else
                none
            else
              none
          else
            none
      else
        none
    else
      none
  else
    some (.inr (t4, ()))
noncomputable def w_S_ChurnOf_5 : PV S_S_string × PV S_S_int × PV (.int .i64) × Unit → Option ((PV S_S_int × Unit)) := fix fun d => b_S_ChurnOf_5 d.1 d.2.1 d.2.2.1
noncomputable def lp_S_ChurnOf_5 : Lp := ⟨⟨[], [0, 4, 5]⟩, sh_S_ChurnOf_5, o_S_ChurnOf_5, fun d => b_S_ChurnOf_5 d.1 d.2.1 d.2.2.1⟩
noncomputable def pl_S_ChurnOf : Plan := ⟨[], [(5, lp_S_ChurnOf_5)], 0, 0⟩
noncomputable def f_S_ChurnOf (t0 : PV S_S_string) : Option (PVs [S_S_int, .bool] × PVs []) :=
  (f_S_l12Good t0).bind fun r4 =>
    bif (!r4.1.1) then
      some (([], false, ()), ())
    else
      (w_S_ChurnOf_5 (t0, [], 1, ())).bind fun l10 =>
        some ((l10.1, true, ()), ())
noncomputable def ct_S_ChurnOf : Ct := ⟨[(.bor, S_S_string)], [(S_S_int, true), (.bool, false)], fun x => f_S_ChurnOf x.1⟩
noncomputable def cx_S_ChurnOf : Cx := ⟨tab, arrs, [(83, ct_S_l12Good), (84, ct_S_l3Pairs)], []⟩
theorem eb_S_ChurnOf_5 (t0 : PV S_S_string) (t4 : PV S_S_int) (t5 : PV (.int .i64)) : denK cx_S_ChurnOf (rcN cx_S_ChurnOf 0) pl_S_ChurnOf 0 ((loopsOf (bodyOf Try.f35)).getD 0 .skip) (fillS sh_S_ChurnOf_5 (t0, t4, t5, ())) (roundK 0 lp_S_ChurnOf_5) = b_S_ChurnOf_5 t0 t4 t5 := by kernel_rfl
theorem ef_S_ChurnOf (t0 : PV S_S_string) : denF cx_S_ChurnOf 0 pl_S_ChurnOf Try.f35.ntmps (bodyOf Try.f35) Try.f35.results.toList [(.bor, S_S_string)] [(S_S_int, true), (.bool, false)] (t0, ()) = f_S_ChurnOf t0 := by kernel_rfl
theorem ok_S_ChurnOf : FnOk Try.prog 35 ct_S_ChurnOf :=
  fnOk (cx := cx_S_ChurnOf) (pl := pl_S_ChurnOf) (dp := 0) (ok0_of tabOk (by unfold ArrOk; kernel_rfl) mix ⟨ok_S_l12Good, ok_S_l3Pairs, trivial⟩ trivial) Try.func35 (by kernel_rfl) (by kernel_rfl) (by kernel_rfl)
    (by rw [show loopsOf (bodyOf Try.f35) = [((loopsOf (bodyOf Try.f35)).getD 0 .skip)] from by kernel_rfl]; exact ⟨(by rw [show lookup pl_S_ChurnOf.loops (firstId ((loopsOf (bodyOf Try.f35)).getD 0 .skip)) = some lp_S_ChurnOf_5 from by kernel_rfl]; exact fun d z h => (eb_S_ChurnOf_5 d.1 d.2.1 d.2.2.1).trans h), trivial⟩) (fun x => ef_S_ChurnOf x.1)
noncomputable def pl_I_areVersions_1 : Plan := ⟨[], [], 0, 0⟩
noncomputable def f_I_areVersions_1 (t0 : PV S_string) : Option (PVs [.bool] × PVs []) :=
  (f_I_goodLines t0).bind fun r1 =>
    some (((!r1.1.1), ()), ())
noncomputable def ct_I_areVersions_1 : Ct := ⟨[(.bor, S_string)], [(.bool, false)], fun x => f_I_areVersions_1 x.1⟩
noncomputable def cx_I_areVersions_1 : Cx := ⟨tab, arrs, [(102, ct_I_goodLines)], []⟩
theorem ef_I_areVersions_1 (t0 : PV S_string) : denF cx_I_areVersions_1 0 pl_I_areVersions_1 Try.f121.ntmps (bodyOf Try.f121) Try.f121.results.toList [(.bor, S_string)] [(.bool, false)] (t0, ()) = f_I_areVersions_1 t0 := by kernel_rfl
theorem ok_I_areVersions_1 : FnOk Try.prog 121 ct_I_areVersions_1 :=
  fnOk (cx := cx_I_areVersions_1) (pl := pl_I_areVersions_1) (dp := 0) (ok0_of tabOk (by unfold ArrOk; kernel_rfl) mix ⟨ok_I_goodLines, trivial⟩ trivial) Try.func121 (by kernel_rfl) (by kernel_rfl) (by kernel_rfl)
    (by rw [show loopsOf (bodyOf Try.f121) = [] from by kernel_rfl]; exact trivial) (fun x => ef_I_areVersions_1 x.1)
noncomputable def pl_I_areVersions_120 : Plan := ⟨[], [], 1, 11⟩
noncomputable def sh_I_areVersions_154_2 : List Sh := mkSh 39 [(0, .val S_S_string .b), (2, .val .bool .b), (3, .val S_S_string .b), (4, .val (.int .i64) .b), (5, .val .bool .b), (6, .val .bool .b), (7, .val S_S_string .b), (11, .val S_S_string .b), (12, .fn 121 []), (15, .val .bool .b), (16, .val S_S_string .b), (17, .fn 121 []), (20, .val S_S_string .b), (21, .fn 121 []), (27, .val (.int .i64) .b), (28, .val (.int .i64) .b)]
noncomputable def o_I_areVersions_154_2 : List Out := [⟨.exit 0, ⟨[], []⟩, mkSh 39 [(0, .val S_S_string .b), (2, .val .bool .b), (3, .val S_S_string .b), (4, .val (.int .i64) .b), (5, .val .bool .b), (6, .val .bool .b), (7, .val S_S_string .b), (11, .val S_S_string .b), (12, .fn 121 []), (15, .val .bool .b), (16, .val S_S_string .b), (17, .fn 121 [])]⟩, ⟨.ret, ⟨[], [4]⟩, mkSh 39 [(0, .val S_S_string .b), (2, .val .bool .b), (3, .val S_S_string .b), (4, .val (.int .i64) .b), (5, .val .bool .b), (6, .val .bool .b), (7, .val S_S_string .b), (11, .val S_S_string .b), (12, .fn 121 []), (15, .val .bool .b), (16, .val S_S_string .b), (17, .fn 121 []), (24, .val (.int .i64) .b)]⟩]
noncomputable def b_I_areVersions_154_2 (t0 : PV S_S_string) (t2 : PV .bool) (t3 : PV S_S_string) (t4 : PV (.int .i64)) (t5 : PV .bool) (t6 : PV .bool) (t7 : PV S_S_string) (t11 : PV S_S_string) (t15 : PV .bool) (t16 : PV S_S_string) (t20 : PV S_S_string) (t27 : PV (.int .i64)) (t28 : PV (.int .i64)) : Option ((PV S_S_string × PV .bool × PV S_S_string × PV (.int .i64) × PV .bool × PV .bool × PV S_S_string × PV S_S_string × PV .bool × PV S_S_string × PV S_S_string × PV (.int .i64) × PV (.int .i64) × Unit) ⊕ ((PV S_S_string × PV .bool × PV S_S_string × PV (.int .i64) × PV .bool × PV .bool × PV S_S_string × PV S_S_string × PV .bool × PV S_S_string × Unit) ⊕ (PV S_S_string × PV .bool × PV S_S_string × PV (.int .i64) × PV .bool × PV .bool × PV S_S_string × PV S_S_string × PV .bool × PV S_S_string × PV (.int .i64) × Unit))) :=
  bif (decide (t28 < t27)) then
    bif inB t28 t20.length then
      (f_I_areVersions_1 (t20.getD t28.toNat [])).bind fun r5 =>
        bif r5.1.1 then
          some (.inr (.inr (t0, t2, t3, t4, t5, t6, t7, t11, t15, t16, t28, ())))
        else
          some (.inl (t0, t2, t3, t4, t5, t6, t7, t11, t15, t16, t20, t27, (IntKind.wrap .i64 (t28 + 1)), ()))
    else
      none
  else
    some (.inr (.inl (t0, t2, t3, t4, t5, t6, t7, t11, t15, t16, ())))
noncomputable def w_I_areVersions_154_2 : PV S_S_string × PV .bool × PV S_S_string × PV (.int .i64) × PV .bool × PV .bool × PV S_S_string × PV S_S_string × PV .bool × PV S_S_string × PV S_S_string × PV (.int .i64) × PV (.int .i64) × Unit → Option ((PV S_S_string × PV .bool × PV S_S_string × PV (.int .i64) × PV .bool × PV .bool × PV S_S_string × PV S_S_string × PV .bool × PV S_S_string × Unit) ⊕ (PV S_S_string × PV .bool × PV S_S_string × PV (.int .i64) × PV .bool × PV .bool × PV S_S_string × PV S_S_string × PV .bool × PV S_S_string × PV (.int .i64) × Unit)) := fix fun d => b_I_areVersions_154_2 d.1 d.2.1 d.2.2.1 d.2.2.2.1 d.2.2.2.2.1 d.2.2.2.2.2.1 d.2.2.2.2.2.2.1 d.2.2.2.2.2.2.2.1 d.2.2.2.2.2.2.2.2.1 d.2.2.2.2.2.2.2.2.2.1 d.2.2.2.2.2.2.2.2.2.2.1 d.2.2.2.2.2.2.2.2.2.2.2.1 d.2.2.2.2.2.2.2.2.2.2.2.2.1
noncomputable def lp_I_areVersions_154_2 : Lp := ⟨⟨[], [0, 1, 7, 8]⟩, sh_I_areVersions_154_2, o_I_areVersions_154_2, fun d => b_I_areVersions_154_2 d.1 d.2.1 d.2.2.1 d.2.2.2.1 d.2.2.2.2.1 d.2.2.2.2.2.1 d.2.2.2.2.2.2.1 d.2.2.2.2.2.2.2.1 d.2.2.2.2.2.2.2.2.1 d.2.2.2.2.2.2.2.2.2.1 d.2.2.2.2.2.2.2.2.2.2.1 d.2.2.2.2.2.2.2.2.2.2.2.1 d.2.2.2.2.2.2.2.2.2.2.2.2.1⟩
noncomputable def pl_I_areVersions_154 : Plan := ⟨[], [(2, lp_I_areVersions_154_2)], 0, 20⟩
noncomputable def pl_I_areVersions : Plan := ⟨[], [], 2, 0⟩
noncomputable def f_I_areVersions (t0 : PV S_S_string) : Option (PVs [.bool] × PVs []) :=
  (f_I_in (t0.length : Int) 1 8).bind fun r1 =>
    bif r1.1.1 then
      (w_I_areVersions_154_2 (t0, false, t0, (t0.length : Int), r1.1.1, true, t0, t0, false, t0, t0, (t0.length : Int), 0, ())).bind fun x10 =>
        match x10 with
        | .inl l8 =>
          bif l8.2.2.2.2.2.1 then
            some (((!(decide ((-1) ≥ 0))), ()), ())
          else
            some ((false, ()), ())
        | .inr l9 =>
          bif l9.2.2.2.2.2.1 then
            some (((!(decide (l9.2.2.2.2.2.2.2.2.2.2.1 ≥ 0))), ()), ())
          else
            some ((false, ()), ())
    else
      some ((false, ()), ())
noncomputable def ct_I_areVersions : Ct := ⟨[(.bor, S_S_string)], [(.bool, false)], fun x => f_I_areVersions x.1⟩
noncomputable def cx_I_areVersions : Cx := ⟨tab, arrs, [(101, ct_I_in), (121, ct_I_areVersions_1)], [(120, Try.f120, pl_I_areVersions_120), (154, Try.f154, pl_I_areVersions_154)]⟩
theorem eb_I_areVersions_154_2 (t0 : PV S_S_string) (t2 : PV .bool) (t3 : PV S_S_string) (t4 : PV (.int .i64)) (t5 : PV .bool) (t6 : PV .bool) (t7 : PV S_S_string) (t11 : PV S_S_string) (t15 : PV .bool) (t16 : PV S_S_string) (t20 : PV S_S_string) (t27 : PV (.int .i64)) (t28 : PV (.int .i64)) : denK cx_I_areVersions (rcN cx_I_areVersions 0) pl_I_areVersions_154 20 ((loopsOf (bodyOf Try.f154)).getD 0 .skip) (fillS sh_I_areVersions_154_2 (t0, t2, t3, t4, t5, t6, t7, t11, t15, t16, t20, t27, t28, ())) (roundK 20 lp_I_areVersions_154_2) = b_I_areVersions_154_2 t0 t2 t3 t4 t5 t6 t7 t11 t15 t16 t20 t27 t28 := by kernel_rfl
theorem ef_I_areVersions (t0 : PV S_S_string) : denF cx_I_areVersions 2 pl_I_areVersions Try.f85.ntmps (bodyOf Try.f85) Try.f85.results.toList [(.bor, S_S_string)] [(.bool, false)] (t0, ()) = f_I_areVersions t0 := by kernel_rfl
theorem ok_I_areVersions : FnOk Try.prog 85 ct_I_areVersions :=
  fnOk (cx := cx_I_areVersions) (pl := pl_I_areVersions) (dp := 2) (ok0_of tabOk (by unfold ArrOk; kernel_rfl) mix ⟨ok_I_in, ok_I_areVersions_1, trivial⟩ ⟨⟨Try.func120, by kernel_rfl, (by rw [show loopsOf (bodyOf Try.f120) = [] from by kernel_rfl]; exact trivial)⟩, ⟨Try.func154, by kernel_rfl, (by rw [show loopsOf (bodyOf Try.f154) = [((loopsOf (bodyOf Try.f154)).getD 0 .skip)] from by kernel_rfl]; exact ⟨(by rw [show lookup pl_I_areVersions_154.loops (firstId ((loopsOf (bodyOf Try.f154)).getD 0 .skip)) = some lp_I_areVersions_154_2 from by kernel_rfl]; exact fun d z h => (eb_I_areVersions_154_2 d.1 d.2.1 d.2.2.1 d.2.2.2.1 d.2.2.2.2.1 d.2.2.2.2.2.1 d.2.2.2.2.2.2.1 d.2.2.2.2.2.2.2.1 d.2.2.2.2.2.2.2.2.1 d.2.2.2.2.2.2.2.2.2.1 d.2.2.2.2.2.2.2.2.2.2.1 d.2.2.2.2.2.2.2.2.2.2.2.1 d.2.2.2.2.2.2.2.2.2.2.2.2.1).trans h), trivial⟩)⟩, trivial⟩) Try.func85 (by kernel_rfl) (by kernel_rfl) (by kernel_rfl)
    (by rw [show loopsOf (bodyOf Try.f85) = [] from by kernel_rfl]; exact trivial) (fun x => ef_I_areVersions x.1)
noncomputable def o_I_common_9 : List Out := [⟨.normal, ⟨[], [0, 1, 5, 6, 7]⟩, mkSh 90 [(0, .val S_string .b), (1, .val S_string .b), (5, .val S_S_int (.row (.row .b))), (6, .val (.int .i64) .b), (7, .val (.int .i64) .b)]⟩]
noncomputable def sh_I_common_8 : List Sh := mkSh 90 [(0, .val S_string .b), (1, .val S_string .b), (5, .val S_S_int (.row (.row .b))), (6, .val (.int .i64) .b), (7, .val (.int .i64) .b)]
noncomputable def o_I_common_8 : List Out := [⟨.exit 2, ⟨[], [0, 1, 5, 6]⟩, mkSh 90 [(0, .val S_string .b), (1, .val S_string .b), (5, .val S_S_int (.row (.row .b))), (6, .val (.int .i64) .b)]⟩]
noncomputable def b_I_common_8 (t0 : PV S_string) (t1 : PV S_string) (t5 : PV S_S_int) (t6 : PV (.int .i64)) (t7 : PV (.int .i64)) : Option ((PV S_string × PV S_string × PV S_S_int × PV (.int .i64) × PV (.int .i64) × Unit) ⊕ ((PV S_string × PV S_string × PV S_S_int × PV (.int .i64) × Unit))) :=
  bif (decide (t7 ≥ 0)) then
    ((
        bif inB t6 t0.length then
          bif inB t7 t1.length then
            bif ((t0.getD t6.toNat []) == (t1.getD t7.toNat [])) then
              bif inB t6 t5.length then
                bif inB (IntKind.wrap .i64 (t6 + 1)) t5.length then
                  bif inB (IntKind.wrap .i64 (t7 + 1)) (t5.getD ((IntKind.wrap .i64 (t6 + 1)).toNat) []).length then
                    bif inB t7 (t5.getD t6.toNat []).length then
                      some (t0, t1, (t5.set t6.toNat ((t5.getD t6.toNat []).set t7.toNat (IntKind.wrap .i64 (((t5.getD ((IntKind.wrap .i64 (t6 + 1)).toNat) []).getD ((IntKind.wrap .i64 (t7 + 1)).toNat) (0 : Int)) + 1)))), t6, t7, ())
                    else
                      none
                  else
                    none
                else
                  none
              else
                none
            else
              bif inB t6 t5.length then
                bif inB (IntKind.wrap .i64 (t6 + 1)) t5.length then
                  bif inB t7 (t5.getD ((IntKind.wrap .i64 (t6 + 1)).toNat) []).length then
                    bif inB t6 t5.length then
                      bif inB (IntKind.wrap .i64 (t7 + 1)) (t5.getD t6.toNat []).length then
                        bif inB t7 (t5.getD t6.toNat []).length then
                          some (t0, t1, (t5.set t6.toNat ((t5.getD t6.toNat []).set t7.toNat (bif decide (((t5.getD t6.toNat []).getD ((IntKind.wrap .i64 (t7 + 1)).toNat) (0 : Int)) > ((t5.getD ((IntKind.wrap .i64 (t6 + 1)).toNat) []).getD t7.toNat (0 : Int))) then ((t5.getD t6.toNat []).getD ((IntKind.wrap .i64 (t7 + 1)).toNat) (0 : Int)) else ((t5.getD ((IntKind.wrap .i64 (t6 + 1)).toNat) []).getD t7.toNat (0 : Int))))), t6, t7, ())
                        else
                          none
                      else
                        none
                    else
                      none
                  else
                    none
                else
                  none
              else
                none
          else
            none
        else
          none : Option ((PV S_string × PV S_string × PV S_S_int × PV (.int .i64) × PV (.int .i64) × Unit)))).bind fun j1 =>
      some (.inl (j1.1, j1.2.1, j1.2.2.1, j1.2.2.2.1, (IntKind.wrap .i64 (j1.2.2.2.2.1 - 1)), ()))
  else
    some (.inr (t0, t1, t5, t6, ()))
noncomputable def w_I_common_8 : PV S_string × PV S_string × PV S_S_int × PV (.int .i64) × PV (.int .i64) × Unit → Option ((PV S_string × PV S_string × PV S_S_int × PV (.int .i64) × Unit)) := fix fun d => b_I_common_8 d.1 d.2.1 d.2.2.1 d.2.2.2.1 d.2.2.2.2.1
noncomputable def lp_I_common_8 : Lp := ⟨⟨[], [0, 1, 5, 6, 7]⟩, sh_I_common_8, o_I_common_8, fun d => b_I_common_8 d.1 d.2.1 d.2.2.1 d.2.2.2.1 d.2.2.2.2.1⟩
noncomputable def sh_I_common_4 : List Sh := mkSh 90 [(0, .val S_string .b), (1, .val S_string .b), (5, .val S_S_int (.row (.row .b))), (6, .val (.int .i64) .b)]
noncomputable def o_I_common_4 : List Out := [⟨.exit 0, ⟨[], [5]⟩, mkSh 90 [(5, .val S_S_int (.row (.row .b)))]⟩]
noncomputable def b_I_common_4 (t0 : PV S_string) (t1 : PV S_string) (t5 : PV S_S_int) (t6 : PV (.int .i64)) : Option ((PV S_string × PV S_string × PV S_S_int × PV (.int .i64) × Unit) ⊕ ((PV S_S_int × Unit))) :=
  bif (decide (t6 ≥ 0)) then
    bif decide (0 ≤ (IntKind.wrap .i64 ((t1.length : Int) + 1))) && (decide ((IntKind.wrap .i64 ((t1.length : Int) + 1)) ≤ (IntKind.wrap .i64 ((t1.length : Int) + 1))) && roomB (IntKind.wrap .i64 ((t1.length : Int) + 1)).toNat) then
      bif inB t6 t5.length then
        (w_I_common_8 (t0, t1, (t5.set t6.toNat (List.replicate (IntKind.wrap .i64 ((t1.length : Int) + 1)).toNat (0 : Int))), t6, (IntKind.wrap .i64 ((t1.length : Int) - 1)), ())).bind fun l2 =>
          some (.inl (l2.1, l2.2.1, l2.2.2.1, (IntKind.wrap .i64 (l2.2.2.2.1 - 1)), ()))
      else
        none
    else
      none
  else
    some (.inr (t5, ()))
noncomputable def w_I_common_4 : PV S_string × PV S_string × PV S_S_int × PV (.int .i64) × Unit → Option ((PV S_S_int × Unit)) := fix fun d => b_I_common_4 d.1 d.2.1 d.2.2.1 d.2.2.2.1
noncomputable def lp_I_common_4 : Lp := ⟨⟨[], [0, 1, 5, 6]⟩, sh_I_common_4, o_I_common_4, fun d => b_I_common_4 d.1 d.2.1 d.2.2.1 d.2.2.2.1⟩
noncomputable def pl_I_common : Plan := ⟨[(9, o_I_common_9)], [(8, lp_I_common_8), (4, lp_I_common_4)], 0, 0⟩
noncomputable def f_I_common (t0 : PV S_string) (t1 : PV S_string) : Option (PVs [S_S_int] × PVs []) :=
  bif decide (0 ≤ (IntKind.wrap .i64 ((t0.length : Int) + 1))) && (decide ((IntKind.wrap .i64 ((t0.length : Int) + 1)) ≤ (IntKind.wrap .i64 ((t0.length : Int) + 1))) && roomB (IntKind.wrap .i64 ((t0.length : Int) + 1)).toNat) then
    bif decide (0 ≤ (IntKind.wrap .i64 ((t1.length : Int) + 1))) && (decide ((IntKind.wrap .i64 ((t1.length : Int) + 1)) ≤ (IntKind.wrap .i64 ((t1.length : Int) + 1))) && roomB (IntKind.wrap .i64 ((t1.length : Int) + 1)).toNat) then
      bif inB (t0.length : Int) (List.replicate (IntKind.wrap .i64 ((t0.length : Int) + 1)).toNat ([] : PV S_int)).length then
        (w_I_common_4 (t0, t1, ((List.replicate (IntKind.wrap .i64 ((t0.length : Int) + 1)).toNat ([] : PV S_int)).set ((t0.length : Int).toNat) (List.replicate (IntKind.wrap .i64 ((t1.length : Int) + 1)).toNat (0 : Int))), (IntKind.wrap .i64 ((t0.length : Int) - 1)), ())).bind fun l4 =>
          some ((l4.1, ()), ())
      else
        none
    else
      none
  else
    none
noncomputable def ct_I_common : Ct := ⟨[(.bor, S_string), (.bor, S_string)], [(S_S_int, true)], fun x => f_I_common x.1 x.2.1⟩
noncomputable def cx_I_common : Cx := ⟨tab, arrs, [], []⟩
theorem eb_I_common_4 (t0 : PV S_string) (t1 : PV S_string) (t5 : PV S_S_int) (t6 : PV (.int .i64)) : denK cx_I_common (rcN cx_I_common 0) pl_I_common 0 ((loopsOf (bodyOf Try.f86)).getD 0 .skip) (fillS sh_I_common_4 (t0, t1, t5, t6, ())) (roundK 0 lp_I_common_4) = b_I_common_4 t0 t1 t5 t6 := by kernel_rfl
theorem eb_I_common_8 (t0 : PV S_string) (t1 : PV S_string) (t5 : PV S_S_int) (t6 : PV (.int .i64)) (t7 : PV (.int .i64)) : denK cx_I_common (rcN cx_I_common 0) pl_I_common 0 ((loopsOf (bodyOf Try.f86)).getD 1 .skip) (fillS sh_I_common_8 (t0, t1, t5, t6, t7, ())) (roundK 0 lp_I_common_8) = b_I_common_8 t0 t1 t5 t6 t7 := by kernel_rfl
theorem ef_I_common (t0 : PV S_string) (t1 : PV S_string) : denF cx_I_common 0 pl_I_common Try.f86.ntmps (bodyOf Try.f86) Try.f86.results.toList [(.bor, S_string), (.bor, S_string)] [(S_S_int, true)] (t0, t1, ()) = f_I_common t0 t1 := by kernel_rfl
theorem ok_I_common : FnOk Try.prog 86 ct_I_common :=
  fnOk (cx := cx_I_common) (pl := pl_I_common) (dp := 0) (ok0_of tabOk (by unfold ArrOk; kernel_rfl) mix trivial trivial) Try.func86 (by kernel_rfl) (by kernel_rfl) (by kernel_rfl)
    (by rw [show loopsOf (bodyOf Try.f86) = [((loopsOf (bodyOf Try.f86)).getD 0 .skip), ((loopsOf (bodyOf Try.f86)).getD 1 .skip)] from by kernel_rfl]; exact ⟨(by rw [show lookup pl_I_common.loops (firstId ((loopsOf (bodyOf Try.f86)).getD 0 .skip)) = some lp_I_common_4 from by kernel_rfl]; exact fun d z h => (eb_I_common_4 d.1 d.2.1 d.2.2.1 d.2.2.2.1).trans h), (by rw [show lookup pl_I_common.loops (firstId ((loopsOf (bodyOf Try.f86)).getD 1 .skip)) = some lp_I_common_8 from by kernel_rfl]; exact fun d z h => (eb_I_common_8 d.1 d.2.1 d.2.2.1 d.2.2.2.1 d.2.2.2.2.1).trans h), trivial⟩) (fun x => ef_I_common x.1 x.2.1)
noncomputable def sh_I_ChurnOf_5 : List Sh := mkSh 51 [(0, .val S_S_string .b), (4, .val S_S_int (.row (.row .b))), (5, .val (.int .i64) .b)]
noncomputable def o_I_ChurnOf_5 : List Out := [⟨.exit 0, ⟨[], [4]⟩, mkSh 51 [(4, .val S_S_int (.row (.row .b)))]⟩]
noncomputable def b_I_ChurnOf_5 (t0 : PV S_S_string) (t4 : PV S_S_int) (t5 : PV (.int .i64)) : Option ((PV S_S_string × PV S_S_int × PV (.int .i64) × Unit) ⊕ ((PV S_S_int × Unit))) :=
  bif (decide (t5 < (t0.length : Int))) then
    bif inB (IntKind.wrap .i64 (t5 - 1)) t0.length then
      bif inB t5 t0.length then
        (f_I_common (t0.getD ((IntKind.wrap .i64 (t5 - 1)).toNat) []) (t0.getD t5.toNat [])).bind fun r8 =>
          bif inB 0 r8.1.1.length then
            bif inB 0 (r8.1.1.getD ((0 : Int).toNat) []).length then
              bif inB (IntKind.wrap .i64 (t5 - 1)) t0.length then
                bif inB t5 t0.length then
                  bif roomB (t4.length + [[(IntKind.wrap .i64 (((t0.getD ((IntKind.wrap .i64 (t5 - 1)).toNat) []).length : Int) - ((r8.1.1.getD ((0 : Int).toNat) []).getD ((0 : Int).toNat) (0 : Int)))), (IntKind.wrap .i64 (((t0.getD t5.toNat []).length : Int) - ((r8.1.1.getD ((0 : Int).toNat) []).getD ((0 : Int).toNat) (0 : Int))))]].length) then
                    some (.inl (t0, (t4 ++ [[(IntKind.wrap .i64 (((t0.getD ((IntKind.wrap .i64 (t5 - 1)).toNat) []).length : Int) - ((r8.1.1.getD ((0 : Int).toNat) []).getD ((0 : Int).toNat) (0 : Int)))), (IntKind.wrap .i64 (((t0.getD t5.toNat []).length : Int) - ((r8.1.1.getD ((0 : Int).toNat) []).getD ((0 : Int).toNat) (0 : Int))))]]), (IntKind.wrap .i64 (t5 + 1)), ()))
                  else
                    none
                else
                  none
              else
                none
            else
              none
          else
            none
      else
        none
    else
      none
  else
    some (.inr (t4, ()))
noncomputable def w_I_ChurnOf_5 : PV S_S_string × PV S_S_int × PV (.int .i64) × Unit → Option ((PV S_S_int × Unit)) := fix fun d => b_I_ChurnOf_5 d.1 d.2.1 d.2.2.1
noncomputable def lp_I_ChurnOf_5 : Lp := ⟨⟨[], [0, 4, 5]⟩, sh_I_ChurnOf_5, o_I_ChurnOf_5, fun d => b_I_ChurnOf_5 d.1 d.2.1 d.2.2.1⟩
noncomputable def pl_I_ChurnOf : Plan := ⟨[], [(5, lp_I_ChurnOf_5)], 0, 0⟩
noncomputable def f_I_ChurnOf (t0 : PV S_S_string) : Option (PVs [S_S_int, .bool] × PVs []) :=
  (f_I_areVersions t0).bind fun r4 =>
    bif (!r4.1.1) then
      some (([], false, ()), ())
    else
      (w_I_ChurnOf_5 (t0, ([] : PV S_S_int), 1, ())).bind fun l10 =>
        some ((l10.1, true, ()), ())
noncomputable def ct_I_ChurnOf : Ct := ⟨[(.bor, S_S_string)], [(S_S_int, true), (.bool, false)], fun x => f_I_ChurnOf x.1⟩
noncomputable def cx_I_ChurnOf : Cx := ⟨tab, arrs, [(85, ct_I_areVersions), (86, ct_I_common)], []⟩
theorem eb_I_ChurnOf_5 (t0 : PV S_S_string) (t4 : PV S_S_int) (t5 : PV (.int .i64)) : denK cx_I_ChurnOf (rcN cx_I_ChurnOf 0) pl_I_ChurnOf 0 ((loopsOf (bodyOf Try.f37)).getD 0 .skip) (fillS sh_I_ChurnOf_5 (t0, t4, t5, ())) (roundK 0 lp_I_ChurnOf_5) = b_I_ChurnOf_5 t0 t4 t5 := by kernel_rfl
theorem ef_I_ChurnOf (t0 : PV S_S_string) : denF cx_I_ChurnOf 0 pl_I_ChurnOf Try.f37.ntmps (bodyOf Try.f37) Try.f37.results.toList [(.bor, S_S_string)] [(S_S_int, true), (.bool, false)] (t0, ()) = f_I_ChurnOf t0 := by kernel_rfl
theorem ok_I_ChurnOf : FnOk Try.prog 37 ct_I_ChurnOf :=
  fnOk (cx := cx_I_ChurnOf) (pl := pl_I_ChurnOf) (dp := 0) (ok0_of tabOk (by unfold ArrOk; kernel_rfl) mix ⟨ok_I_areVersions, ok_I_common, trivial⟩ trivial) Try.func37 (by kernel_rfl) (by kernel_rfl) (by kernel_rfl)
    (by rw [show loopsOf (bodyOf Try.f37) = [((loopsOf (bodyOf Try.f37)).getD 0 .skip)] from by kernel_rfl]; exact ⟨(by rw [show lookup pl_I_ChurnOf.loops (firstId ((loopsOf (bodyOf Try.f37)).getD 0 .skip)) = some lp_I_ChurnOf_5 from by kernel_rfl]; exact fun d z h => (eb_I_ChurnOf_5 d.1 d.2.1 d.2.2.1).trans h), trivial⟩) (fun x => ef_I_ChurnOf x.1)
noncomputable def sh_L_eqIntS_4 : List Sh := mkSh 26 [(0, .val S_int .b), (1, .val S_int .b), (5, .val (.int .i64) .b)]
noncomputable def o_L_eqIntS_4 : List Out := [⟨.exit 0, ⟨[], []⟩, mkSh 26 []⟩, ⟨.ret, ⟨[], [4]⟩, mkSh 26 [(4, .val .bool .b)]⟩]
noncomputable def b_L_eqIntS_4 (t0 : PV S_int) (t1 : PV S_int) (t5 : PV (.int .i64)) : Option ((PV S_int × PV S_int × PV (.int .i64) × Unit) ⊕ ((Unit) ⊕ (PV .bool × Unit))) :=
  bif (decide (t5 < (t0.length : Int))) then
    bif inB t5 t0.length then
      bif inB t5 t1.length then
        bif (!((t0.getD t5.toNat (0 : Int)) == (t1.getD t5.toNat (0 : Int)))) then
          some (.inr (.inr (false, ())))
        else
          some (.inl (t0, t1, (IntKind.wrap .i64 (t5 + 1)), ()))
      else
        none
    else
      none
  else
    some (.inr (.inl ()))
noncomputable def w_L_eqIntS_4 : PV S_int × PV S_int × PV (.int .i64) × Unit → Option ((Unit) ⊕ (PV .bool × Unit)) := fix fun d => b_L_eqIntS_4 d.1 d.2.1 d.2.2.1
noncomputable def lp_L_eqIntS_4 : Lp := ⟨⟨[], [0, 1, 5]⟩, sh_L_eqIntS_4, o_L_eqIntS_4, fun d => b_L_eqIntS_4 d.1 d.2.1 d.2.2.1⟩
noncomputable def pl_L_eqIntS : Plan := ⟨[], [(4, lp_L_eqIntS_4)], 0, 0⟩
noncomputable def f_L_eqIntS (t0 : PV S_int) (t1 : PV S_int) : Option (PVs [.bool] × PVs []) :=
  bif (!((t0.length : Int) == (t1.length : Int))) then
    some ((false, ()), ())
  else
    (w_L_eqIntS_4 (t0, t1, 0, ())).bind fun x5 =>
      match x5 with
      | .inl l3 =>
        some ((true, ()), ())
      | .inr l4 =>
        some ((l4.1, ()), ())
noncomputable def ct_L_eqIntS : Ct := ⟨[(.bor, S_int), (.bor, S_int)], [(.bool, false)], fun x => f_L_eqIntS x.1 x.2.1⟩
noncomputable def cx_L_eqIntS : Cx := ⟨tab, arrs, [], []⟩
theorem eb_L_eqIntS_4 (t0 : PV S_int) (t1 : PV S_int) (t5 : PV (.int .i64)) : denK cx_L_eqIntS (rcN cx_L_eqIntS 0) pl_L_eqIntS 0 ((loopsOf (bodyOf Try.f61)).getD 0 .skip) (fillS sh_L_eqIntS_4 (t0, t1, t5, ())) (roundK 0 lp_L_eqIntS_4) = b_L_eqIntS_4 t0 t1 t5 := by kernel_rfl
theorem ef_L_eqIntS (t0 : PV S_int) (t1 : PV S_int) : denF cx_L_eqIntS 0 pl_L_eqIntS Try.f61.ntmps (bodyOf Try.f61) Try.f61.results.toList [(.bor, S_int), (.bor, S_int)] [(.bool, false)] (t0, t1, ()) = f_L_eqIntS t0 t1 := by kernel_rfl
theorem ok_L_eqIntS : FnOk Try.prog 61 ct_L_eqIntS :=
  fnOk (cx := cx_L_eqIntS) (pl := pl_L_eqIntS) (dp := 0) (ok0_of tabOk (by unfold ArrOk; kernel_rfl) mix trivial trivial) Try.func61 (by kernel_rfl) (by kernel_rfl) (by kernel_rfl)
    (by rw [show loopsOf (bodyOf Try.f61) = [((loopsOf (bodyOf Try.f61)).getD 0 .skip)] from by kernel_rfl]; exact ⟨(by rw [show lookup pl_L_eqIntS.loops (firstId ((loopsOf (bodyOf Try.f61)).getD 0 .skip)) = some lp_L_eqIntS_4 from by kernel_rfl]; exact fun d z h => (eb_L_eqIntS_4 d.1 d.2.1 d.2.2.1).trans h), trivial⟩) (fun x => ef_L_eqIntS x.1 x.2.1)
noncomputable def sh_L_eqIntSS_4 : List Sh := mkSh 27 [(0, .val S_S_int .b), (1, .val S_S_int .b), (5, .val (.int .i64) .b)]
noncomputable def o_L_eqIntSS_4 : List Out := [⟨.exit 0, ⟨[], []⟩, mkSh 27 []⟩, ⟨.ret, ⟨[], [4]⟩, mkSh 27 [(4, .val .bool .b)]⟩]
noncomputable def b_L_eqIntSS_4 (t0 : PV S_S_int) (t1 : PV S_S_int) (t5 : PV (.int .i64)) : Option ((PV S_S_int × PV S_S_int × PV (.int .i64) × Unit) ⊕ ((Unit) ⊕ (PV .bool × Unit))) :=
  bif (decide (t5 < (t0.length : Int))) then
    bif inB t5 t0.length then
      bif inB t5 t1.length then
        (f_L_eqIntS (t0.getD t5.toNat []) (t1.getD t5.toNat [])).bind fun r4 =>
          bif (!r4.1.1) then
            some (.inr (.inr (false, ())))
          else
            some (.inl (t0, t1, (IntKind.wrap .i64 (t5 + 1)), ()))
      else
        none
    else
      none
  else
    some (.inr (.inl ()))
noncomputable def w_L_eqIntSS_4 : PV S_S_int × PV S_S_int × PV (.int .i64) × Unit → Option ((Unit) ⊕ (PV .bool × Unit)) := fix fun d => b_L_eqIntSS_4 d.1 d.2.1 d.2.2.1
noncomputable def lp_L_eqIntSS_4 : Lp := ⟨⟨[], [0, 1, 5]⟩, sh_L_eqIntSS_4, o_L_eqIntSS_4, fun d => b_L_eqIntSS_4 d.1 d.2.1 d.2.2.1⟩
noncomputable def pl_L_eqIntSS : Plan := ⟨[], [(4, lp_L_eqIntSS_4)], 0, 0⟩
noncomputable def f_L_eqIntSS (t0 : PV S_S_int) (t1 : PV S_S_int) : Option (PVs [.bool] × PVs []) :=
  bif (!((t0.length : Int) == (t1.length : Int))) then
    some ((false, ()), ())
  else
    (w_L_eqIntSS_4 (t0, t1, 0, ())).bind fun x9 =>
      match x9 with
      | .inl l7 =>
        some ((true, ()), ())
      | .inr l8 =>
        some ((l8.1, ()), ())
noncomputable def ct_L_eqIntSS : Ct := ⟨[(.bor, S_S_int), (.bor, S_S_int)], [(.bool, false)], fun x => f_L_eqIntSS x.1 x.2.1⟩
noncomputable def cx_L_eqIntSS : Cx := ⟨tab, arrs, [(61, ct_L_eqIntS)], []⟩
theorem eb_L_eqIntSS_4 (t0 : PV S_S_int) (t1 : PV S_S_int) (t5 : PV (.int .i64)) : denK cx_L_eqIntSS (rcN cx_L_eqIntSS 0) pl_L_eqIntSS 0 ((loopsOf (bodyOf Try.f38)).getD 0 .skip) (fillS sh_L_eqIntSS_4 (t0, t1, t5, ())) (roundK 0 lp_L_eqIntSS_4) = b_L_eqIntSS_4 t0 t1 t5 := by kernel_rfl
theorem ef_L_eqIntSS (t0 : PV S_S_int) (t1 : PV S_S_int) : denF cx_L_eqIntSS 0 pl_L_eqIntSS Try.f38.ntmps (bodyOf Try.f38) Try.f38.results.toList [(.bor, S_S_int), (.bor, S_S_int)] [(.bool, false)] (t0, t1, ()) = f_L_eqIntSS t0 t1 := by kernel_rfl
theorem ok_L_eqIntSS : FnOk Try.prog 38 ct_L_eqIntSS :=
  fnOk (cx := cx_L_eqIntSS) (pl := pl_L_eqIntSS) (dp := 0) (ok0_of tabOk (by unfold ArrOk; kernel_rfl) mix ⟨ok_L_eqIntS, trivial⟩ trivial) Try.func38 (by kernel_rfl) (by kernel_rfl) (by kernel_rfl)
    (by rw [show loopsOf (bodyOf Try.f38) = [((loopsOf (bodyOf Try.f38)).getD 0 .skip)] from by kernel_rfl]; exact ⟨(by rw [show lookup pl_L_eqIntSS.loops (firstId ((loopsOf (bodyOf Try.f38)).getD 0 .skip)) = some lp_L_eqIntSS_4 from by kernel_rfl]; exact fun d z h => (eb_L_eqIntSS_4 d.1 d.2.1 d.2.2.1).trans h), trivial⟩) (fun x => ef_L_eqIntSS x.1 x.2.1)
noncomputable def sh_L_eqStringSS_4 : List Sh := mkSh 27 [(0, .val S_S_string .b), (1, .val S_S_string .b), (5, .val (.int .i64) .b)]
noncomputable def o_L_eqStringSS_4 : List Out := [⟨.exit 0, ⟨[], []⟩, mkSh 27 []⟩, ⟨.ret, ⟨[], [4]⟩, mkSh 27 [(4, .val .bool .b)]⟩]
noncomputable def b_L_eqStringSS_4 (t0 : PV S_S_string) (t1 : PV S_S_string) (t5 : PV (.int .i64)) : Option ((PV S_S_string × PV S_S_string × PV (.int .i64) × Unit) ⊕ ((Unit) ⊕ (PV .bool × Unit))) :=
  bif (decide (t5 < (t0.length : Int))) then
    bif inB t5 t0.length then
      bif inB t5 t1.length then
        (f_L_eqStringS (t0.getD t5.toNat []) (t1.getD t5.toNat [])).bind fun r4 =>
          bif (!r4.1.1) then
            some (.inr (.inr (false, ())))
          else
            some (.inl (t0, t1, (IntKind.wrap .i64 (t5 + 1)), ()))
      else
        none
    else
      none
  else
    some (.inr (.inl ()))
noncomputable def w_L_eqStringSS_4 : PV S_S_string × PV S_S_string × PV (.int .i64) × Unit → Option ((Unit) ⊕ (PV .bool × Unit)) := fix fun d => b_L_eqStringSS_4 d.1 d.2.1 d.2.2.1
noncomputable def lp_L_eqStringSS_4 : Lp := ⟨⟨[], [0, 1, 5]⟩, sh_L_eqStringSS_4, o_L_eqStringSS_4, fun d => b_L_eqStringSS_4 d.1 d.2.1 d.2.2.1⟩
noncomputable def pl_L_eqStringSS : Plan := ⟨[], [(4, lp_L_eqStringSS_4)], 0, 0⟩
noncomputable def f_L_eqStringSS (t0 : PV S_S_string) (t1 : PV S_S_string) : Option (PVs [.bool] × PVs []) :=
  bif (!((t0.length : Int) == (t1.length : Int))) then
    some ((false, ()), ())
  else
    (w_L_eqStringSS_4 (t0, t1, 0, ())).bind fun x9 =>
      match x9 with
      | .inl l7 =>
        some ((true, ()), ())
      | .inr l8 =>
        some ((l8.1, ()), ())
noncomputable def ct_L_eqStringSS : Ct := ⟨[(.bor, S_S_string), (.bor, S_S_string)], [(.bool, false)], fun x => f_L_eqStringSS x.1 x.2.1⟩
noncomputable def cx_L_eqStringSS : Cx := ⟨tab, arrs, [(33, ct_L_eqStringS)], []⟩
theorem eb_L_eqStringSS_4 (t0 : PV S_S_string) (t1 : PV S_S_string) (t5 : PV (.int .i64)) : denK cx_L_eqStringSS (rcN cx_L_eqStringSS 0) pl_L_eqStringSS 0 ((loopsOf (bodyOf Try.f39)).getD 0 .skip) (fillS sh_L_eqStringSS_4 (t0, t1, t5, ())) (roundK 0 lp_L_eqStringSS_4) = b_L_eqStringSS_4 t0 t1 t5 := by kernel_rfl
theorem ef_L_eqStringSS (t0 : PV S_S_string) (t1 : PV S_S_string) : denF cx_L_eqStringSS 0 pl_L_eqStringSS Try.f39.ntmps (bodyOf Try.f39) Try.f39.results.toList [(.bor, S_S_string), (.bor, S_S_string)] [(.bool, false)] (t0, t1, ()) = f_L_eqStringSS t0 t1 := by kernel_rfl
theorem ok_L_eqStringSS : FnOk Try.prog 39 ct_L_eqStringSS :=
  fnOk (cx := cx_L_eqStringSS) (pl := pl_L_eqStringSS) (dp := 0) (ok0_of tabOk (by unfold ArrOk; kernel_rfl) mix ⟨ok_L_eqStringS, trivial⟩ trivial) Try.func39 (by kernel_rfl) (by kernel_rfl) (by kernel_rfl)
    (by rw [show loopsOf (bodyOf Try.f39) = [((loopsOf (bodyOf Try.f39)).getD 0 .skip)] from by kernel_rfl]; exact ⟨(by rw [show lookup pl_L_eqStringSS.loops (firstId ((loopsOf (bodyOf Try.f39)).getD 0 .skip)) = some lp_L_eqStringSS_4 from by kernel_rfl]; exact fun d z h => (eb_L_eqStringSS_4 d.1 d.2.1 d.2.2.1).trans h), trivial⟩) (fun x => ef_L_eqStringSS x.1 x.2.1)
noncomputable def sh_L_markStringSS_2 : List Sh := mkSh 20 [(0, .val S_S_string (.row (.row .b))), (1, .sub ⟨0, [], 0, 0⟩), (2, .val (.int .i64) .b), (6, .val (.int .i64) .b)]
noncomputable def o_L_markStringSS_2 : List Out := [⟨.exit 0, ⟨[], [1]⟩, mkSh 20 [(0, .val S_S_string (.row (.row .b))), (2, .val (.int .i64) .b)]⟩]
noncomputable def b_L_markStringSS_2 (t0 : PV S_S_string) (t2 : PV (.int .i64)) (t6 : PV (.int .i64)) : Option ((PV S_S_string × PV (.int .i64) × PV (.int .i64) × Unit) ⊕ ((PV S_S_string × PV (.int .i64) × Unit))) :=
  bif (decide (t6 < (t0.length : Int))) then
    bif inB t6 t0.length then
      (f_L_markStringS (t0.getD t6.toNat []) t2).bind fun r2 =>
        some (.inl ((t0.set t6.toNat r2.2.1), r2.1.1, (IntKind.wrap .i64 (t6 + 1)), ()))
    else
      none
  else
    some (.inr (t0, t2, ()))
noncomputable def w_L_markStringSS_2 : PV S_S_string × PV (.int .i64) × PV (.int .i64) × Unit → Option ((PV S_S_string × PV (.int .i64) × Unit)) := fix fun d => b_L_markStringSS_2 d.1 d.2.1 d.2.2.1
noncomputable def lp_L_markStringSS_2 : Lp := ⟨⟨[], [0, 1, 5]⟩, sh_L_markStringSS_2, o_L_markStringSS_2, fun d => b_L_markStringSS_2 d.1 d.2.1 d.2.2.1⟩
noncomputable def pl_L_markStringSS : Plan := ⟨[], [(2, lp_L_markStringSS_2)], 0, 1⟩
noncomputable def f_L_markStringSS (t0 : PV S_S_string) (t1 : PV (.int .i64)) : Option (PVs [(.int .i64)] × PVs [S_S_string]) :=
  (w_L_markStringSS_2 (t0, t1, 0, ())).bind fun l4 =>
    some ((l4.2.1, ()), (l4.1, ()))
noncomputable def ct_L_markStringSS : Ct := ⟨[(.mut, S_S_string), (.bor, (.int .i64))], [((.int .i64), false)], fun x => f_L_markStringSS x.1 x.2.1⟩
noncomputable def cx_L_markStringSS : Cx := ⟨tab, arrs, [(55, ct_L_markStringS)], []⟩
theorem eb_L_markStringSS_2 (t0 : PV S_S_string) (t2 : PV (.int .i64)) (t6 : PV (.int .i64)) : denK cx_L_markStringSS (rcN cx_L_markStringSS 0) pl_L_markStringSS 1 ((loopsOf (bodyOf Try.f40)).getD 0 .skip) (fillS sh_L_markStringSS_2 (t0, t2, t6, ())) (roundK 1 lp_L_markStringSS_2) = b_L_markStringSS_2 t0 t2 t6 := by kernel_rfl
theorem ef_L_markStringSS (t0 : PV S_S_string) (t1 : PV (.int .i64)) : denF cx_L_markStringSS 0 pl_L_markStringSS Try.f40.ntmps (bodyOf Try.f40) Try.f40.results.toList [(.mut, S_S_string), (.bor, (.int .i64))] [((.int .i64), false)] (t0, t1, ()) = f_L_markStringSS t0 t1 := by kernel_rfl
theorem ok_L_markStringSS : FnOk Try.prog 40 ct_L_markStringSS :=
  fnOk (cx := cx_L_markStringSS) (pl := pl_L_markStringSS) (dp := 0) (ok0_of tabOk (by unfold ArrOk; kernel_rfl) mix ⟨ok_L_markStringS, trivial⟩ trivial) Try.func40 (by kernel_rfl) (by kernel_rfl) (by kernel_rfl)
    (by rw [show loopsOf (bodyOf Try.f40) = [((loopsOf (bodyOf Try.f40)).getD 0 .skip)] from by kernel_rfl]; exact ⟨(by rw [show lookup pl_L_markStringSS.loops (firstId ((loopsOf (bodyOf Try.f40)).getD 0 .skip)) = some lp_L_markStringSS_2 from by kernel_rfl]; exact fun d z h => (eb_L_markStringSS_2 d.1 d.2.1 d.2.2.1).trans h), trivial⟩) (fun x => ef_L_markStringSS x.1 x.2.1)
noncomputable def sh_L_markIntS_2 : List Sh := mkSh 20 [(0, .val S_int (.row .b)), (1, .sub ⟨0, [], 0, 0⟩), (2, .val (.int .i64) .b), (6, .val (.int .i64) .b)]
noncomputable def o_L_markIntS_2 : List Out := [⟨.exit 0, ⟨[], [1]⟩, mkSh 20 [(0, .val S_int (.row .b)), (2, .val (.int .i64) .b)]⟩]
noncomputable def b_L_markIntS_2 (t0 : PV S_int) (t2 : PV (.int .i64)) (t6 : PV (.int .i64)) : Option ((PV S_int × PV (.int .i64) × PV (.int .i64) × Unit) ⊕ ((PV S_int × PV (.int .i64) × Unit))) :=
  bif (decide (t6 < (t0.length : Int))) then
    bif inB t6 t0.length then
      some (.inl ((t0.set t6.toNat t2), (IntKind.wrap .i64 (t2 + 1)), (IntKind.wrap .i64 (t6 + 1)), ()))
    else
      none
  else
    some (.inr (t0, t2, ()))
noncomputable def w_L_markIntS_2 : PV S_int × PV (.int .i64) × PV (.int .i64) × Unit → Option ((PV S_int × PV (.int .i64) × Unit)) := fix fun d => b_L_markIntS_2 d.1 d.2.1 d.2.2.1
noncomputable def lp_L_markIntS_2 : Lp := ⟨⟨[], [0, 1, 5]⟩, sh_L_markIntS_2, o_L_markIntS_2, fun d => b_L_markIntS_2 d.1 d.2.1 d.2.2.1⟩
noncomputable def pl_L_markIntS : Plan := ⟨[], [(2, lp_L_markIntS_2)], 0, 1⟩
noncomputable def f_L_markIntS (t0 : PV S_int) (t1 : PV (.int .i64)) : Option (PVs [(.int .i64)] × PVs [S_int]) :=
  (w_L_markIntS_2 (t0, t1, 0, ())).bind fun l2 =>
    some ((l2.2.1, ()), (l2.1, ()))
noncomputable def ct_L_markIntS : Ct := ⟨[(.mut, S_int), (.bor, (.int .i64))], [((.int .i64), false)], fun x => f_L_markIntS x.1 x.2.1⟩
noncomputable def cx_L_markIntS : Cx := ⟨tab, arrs, [], []⟩
theorem eb_L_markIntS_2 (t0 : PV S_int) (t2 : PV (.int .i64)) (t6 : PV (.int .i64)) : denK cx_L_markIntS (rcN cx_L_markIntS 0) pl_L_markIntS 1 ((loopsOf (bodyOf Try.f62)).getD 0 .skip) (fillS sh_L_markIntS_2 (t0, t2, t6, ())) (roundK 1 lp_L_markIntS_2) = b_L_markIntS_2 t0 t2 t6 := by kernel_rfl
theorem ef_L_markIntS (t0 : PV S_int) (t1 : PV (.int .i64)) : denF cx_L_markIntS 0 pl_L_markIntS Try.f62.ntmps (bodyOf Try.f62) Try.f62.results.toList [(.mut, S_int), (.bor, (.int .i64))] [((.int .i64), false)] (t0, t1, ()) = f_L_markIntS t0 t1 := by kernel_rfl
theorem ok_L_markIntS : FnOk Try.prog 62 ct_L_markIntS :=
  fnOk (cx := cx_L_markIntS) (pl := pl_L_markIntS) (dp := 0) (ok0_of tabOk (by unfold ArrOk; kernel_rfl) mix trivial trivial) Try.func62 (by kernel_rfl) (by kernel_rfl) (by kernel_rfl)
    (by rw [show loopsOf (bodyOf Try.f62) = [((loopsOf (bodyOf Try.f62)).getD 0 .skip)] from by kernel_rfl]; exact ⟨(by rw [show lookup pl_L_markIntS.loops (firstId ((loopsOf (bodyOf Try.f62)).getD 0 .skip)) = some lp_L_markIntS_2 from by kernel_rfl]; exact fun d z h => (eb_L_markIntS_2 d.1 d.2.1 d.2.2.1).trans h), trivial⟩) (fun x => ef_L_markIntS x.1 x.2.1)
noncomputable def sh_L_markIntSS_2 : List Sh := mkSh 20 [(0, .val S_S_int (.row (.row .b))), (1, .sub ⟨0, [], 0, 0⟩), (2, .val (.int .i64) .b), (6, .val (.int .i64) .b)]
noncomputable def o_L_markIntSS_2 : List Out := [⟨.exit 0, ⟨[], [1]⟩, mkSh 20 [(0, .val S_S_int (.row (.row .b))), (2, .val (.int .i64) .b)]⟩]
noncomputable def b_L_markIntSS_2 (t0 : PV S_S_int) (t2 : PV (.int .i64)) (t6 : PV (.int .i64)) : Option ((PV S_S_int × PV (.int .i64) × PV (.int .i64) × Unit) ⊕ ((PV S_S_int × PV (.int .i64) × Unit))) :=
  bif (decide (t6 < (t0.length : Int))) then
    bif inB t6 t0.length then
      (f_L_markIntS (t0.getD t6.toNat []) t2).bind fun r2 =>
        some (.inl ((t0.set t6.toNat r2.2.1), r2.1.1, (IntKind.wrap .i64 (t6 + 1)), ()))
    else
      none
  else
    some (.inr (t0, t2, ()))
noncomputable def w_L_markIntSS_2 : PV S_S_int × PV (.int .i64) × PV (.int .i64) × Unit → Option ((PV S_S_int × PV (.int .i64) × Unit)) := fix fun d => b_L_markIntSS_2 d.1 d.2.1 d.2.2.1
noncomputable def lp_L_markIntSS_2 : Lp := ⟨⟨[], [0, 1, 5]⟩, sh_L_markIntSS_2, o_L_markIntSS_2, fun d => b_L_markIntSS_2 d.1 d.2.1 d.2.2.1⟩
noncomputable def pl_L_markIntSS : Plan := ⟨[], [(2, lp_L_markIntSS_2)], 0, 1⟩
noncomputable def f_L_markIntSS (t0 : PV S_S_int) (t1 : PV (.int .i64)) : Option (PVs [(.int .i64)] × PVs [S_S_int]) :=
  (w_L_markIntSS_2 (t0, t1, 0, ())).bind fun l4 =>
    some ((l4.2.1, ()), (l4.1, ()))
noncomputable def ct_L_markIntSS : Ct := ⟨[(.mut, S_S_int), (.bor, (.int .i64))], [((.int .i64), false)], fun x => f_L_markIntSS x.1 x.2.1⟩
noncomputable def cx_L_markIntSS : Cx := ⟨tab, arrs, [(62, ct_L_markIntS)], []⟩
theorem eb_L_markIntSS_2 (t0 : PV S_S_int) (t2 : PV (.int .i64)) (t6 : PV (.int .i64)) : denK cx_L_markIntSS (rcN cx_L_markIntSS 0) pl_L_markIntSS 1 ((loopsOf (bodyOf Try.f41)).getD 0 .skip) (fillS sh_L_markIntSS_2 (t0, t2, t6, ())) (roundK 1 lp_L_markIntSS_2) = b_L_markIntSS_2 t0 t2 t6 := by kernel_rfl
theorem ef_L_markIntSS (t0 : PV S_S_int) (t1 : PV (.int .i64)) : denF cx_L_markIntSS 0 pl_L_markIntSS Try.f41.ntmps (bodyOf Try.f41) Try.f41.results.toList [(.mut, S_S_int), (.bor, (.int .i64))] [((.int .i64), false)] (t0, t1, ()) = f_L_markIntSS t0 t1 := by kernel_rfl
theorem ok_L_markIntSS : FnOk Try.prog 41 ct_L_markIntSS :=
  fnOk (cx := cx_L_markIntSS) (pl := pl_L_markIntSS) (dp := 0) (ok0_of tabOk (by unfold ArrOk; kernel_rfl) mix ⟨ok_L_markIntS, trivial⟩ trivial) Try.func41 (by kernel_rfl) (by kernel_rfl) (by kernel_rfl)
    (by rw [show loopsOf (bodyOf Try.f41) = [((loopsOf (bodyOf Try.f41)).getD 0 .skip)] from by kernel_rfl]; exact ⟨(by rw [show lookup pl_L_markIntSS.loops (firstId ((loopsOf (bodyOf Try.f41)).getD 0 .skip)) = some lp_L_markIntSS_2 from by kernel_rfl]; exact fun d z h => (eb_L_markIntSS_2 d.1 d.2.1 d.2.2.1).trans h), trivial⟩) (fun x => ef_L_markIntSS x.1 x.2.1)
noncomputable def sh_L_heldIntS_2 : List Sh := mkSh 21 [(0, .val S_int .b), (1, .val (.int .i64) .b), (5, .val (.int .i64) .b)]
noncomputable def o_L_heldIntS_2 : List Out := [⟨.exit 0, ⟨[], [1]⟩, mkSh 21 [(1, .val (.int .i64) .b)]⟩, ⟨.ret, ⟨[], [4]⟩, mkSh 21 [(4, .val (.int .i64) .b)]⟩]
noncomputable def b_L_heldIntS_2 (t0 : PV S_int) (t1 : PV (.int .i64)) (t5 : PV (.int .i64)) : Option ((PV S_int × PV (.int .i64) × PV (.int .i64) × Unit) ⊕ ((PV (.int .i64) × Unit) ⊕ (PV (.int .i64) × Unit))) :=
  bif (decide (t5 < (t0.length : Int))) then
    bif inB t5 t0.length then
      bif (!((t0.getD t5.toNat (0 : Int)) == t1)) then
        some (.inr (.inr ((-1), ())))
      else
        some (.inl (t0, (IntKind.wrap .i64 (t1 + 1)), (IntKind.wrap .i64 (t5 + 1)), ()))
    else
      none
  else
    some (.inr (.inl (t1, ())))
noncomputable def w_L_heldIntS_2 : PV S_int × PV (.int .i64) × PV (.int .i64) × Unit → Option ((PV (.int .i64) × Unit) ⊕ (PV (.int .i64) × Unit)) := fix fun d => b_L_heldIntS_2 d.1 d.2.1 d.2.2.1
noncomputable def lp_L_heldIntS_2 : Lp := ⟨⟨[], [0, 1, 5]⟩, sh_L_heldIntS_2, o_L_heldIntS_2, fun d => b_L_heldIntS_2 d.1 d.2.1 d.2.2.1⟩
noncomputable def pl_L_heldIntS : Plan := ⟨[], [(2, lp_L_heldIntS_2)], 0, 0⟩
noncomputable def f_L_heldIntS (t0 : PV S_int) (t1 : PV (.int .i64)) : Option (PVs [(.int .i64)] × PVs []) :=
  (w_L_heldIntS_2 (t0, t1, 0, ())).bind fun x5 =>
    match x5 with
    | .inl l3 =>
      some ((l3.1, ()), ())
    | .inr l4 =>
      some ((l4.1, ()), ())
noncomputable def ct_L_heldIntS : Ct := ⟨[(.bor, S_int), (.bor, (.int .i64))], [((.int .i64), false)], fun x => f_L_heldIntS x.1 x.2.1⟩
noncomputable def cx_L_heldIntS : Cx := ⟨tab, arrs, [], []⟩
theorem eb_L_heldIntS_2 (t0 : PV S_int) (t1 : PV (.int .i64)) (t5 : PV (.int .i64)) : denK cx_L_heldIntS (rcN cx_L_heldIntS 0) pl_L_heldIntS 0 ((loopsOf (bodyOf Try.f63)).getD 0 .skip) (fillS sh_L_heldIntS_2 (t0, t1, t5, ())) (roundK 0 lp_L_heldIntS_2) = b_L_heldIntS_2 t0 t1 t5 := by kernel_rfl
theorem ef_L_heldIntS (t0 : PV S_int) (t1 : PV (.int .i64)) : denF cx_L_heldIntS 0 pl_L_heldIntS Try.f63.ntmps (bodyOf Try.f63) Try.f63.results.toList [(.bor, S_int), (.bor, (.int .i64))] [((.int .i64), false)] (t0, t1, ()) = f_L_heldIntS t0 t1 := by kernel_rfl
theorem ok_L_heldIntS : FnOk Try.prog 63 ct_L_heldIntS :=
  fnOk (cx := cx_L_heldIntS) (pl := pl_L_heldIntS) (dp := 0) (ok0_of tabOk (by unfold ArrOk; kernel_rfl) mix trivial trivial) Try.func63 (by kernel_rfl) (by kernel_rfl) (by kernel_rfl)
    (by rw [show loopsOf (bodyOf Try.f63) = [((loopsOf (bodyOf Try.f63)).getD 0 .skip)] from by kernel_rfl]; exact ⟨(by rw [show lookup pl_L_heldIntS.loops (firstId ((loopsOf (bodyOf Try.f63)).getD 0 .skip)) = some lp_L_heldIntS_2 from by kernel_rfl]; exact fun d z h => (eb_L_heldIntS_2 d.1 d.2.1 d.2.2.1).trans h), trivial⟩) (fun x => ef_L_heldIntS x.1 x.2.1)
noncomputable def sh_L_heldIntSS_2 : List Sh := mkSh 21 [(0, .val S_S_int .b), (1, .val (.int .i64) .b), (5, .val (.int .i64) .b)]
noncomputable def o_L_heldIntSS_2 : List Out := [⟨.exit 0, ⟨[], [1]⟩, mkSh 21 [(1, .val (.int .i64) .b)]⟩, ⟨.ret, ⟨[], [4]⟩, mkSh 21 [(4, .val (.int .i64) .b)]⟩]
noncomputable def b_L_heldIntSS_2 (t0 : PV S_S_int) (t1 : PV (.int .i64)) (t5 : PV (.int .i64)) : Option ((PV S_S_int × PV (.int .i64) × PV (.int .i64) × Unit) ⊕ ((PV (.int .i64) × Unit) ⊕ (PV (.int .i64) × Unit))) :=
  bif (decide (t5 < (t0.length : Int))) then
    bif inB t5 t0.length then
      (f_L_heldIntS (t0.getD t5.toNat []) t1).bind fun r4 =>
        bif (decide (r4.1.1 < 0)) then
          some (.inr (.inr ((-1), ())))
        else
          some (.inl (t0, r4.1.1, (IntKind.wrap .i64 (t5 + 1)), ()))
    else
      none
  else
    some (.inr (.inl (t1, ())))
noncomputable def w_L_heldIntSS_2 : PV S_S_int × PV (.int .i64) × PV (.int .i64) × Unit → Option ((PV (.int .i64) × Unit) ⊕ (PV (.int .i64) × Unit)) := fix fun d => b_L_heldIntSS_2 d.1 d.2.1 d.2.2.1
noncomputable def lp_L_heldIntSS_2 : Lp := ⟨⟨[], [0, 1, 5]⟩, sh_L_heldIntSS_2, o_L_heldIntSS_2, fun d => b_L_heldIntSS_2 d.1 d.2.1 d.2.2.1⟩
noncomputable def pl_L_heldIntSS : Plan := ⟨[], [(2, lp_L_heldIntSS_2)], 0, 0⟩
noncomputable def f_L_heldIntSS (t0 : PV S_S_int) (t1 : PV (.int .i64)) : Option (PVs [(.int .i64)] × PVs []) :=
  (w_L_heldIntSS_2 (t0, t1, 0, ())).bind fun x9 =>
    match x9 with
    | .inl l7 =>
      some ((l7.1, ()), ())
    | .inr l8 =>
      some ((l8.1, ()), ())
noncomputable def ct_L_heldIntSS : Ct := ⟨[(.bor, S_S_int), (.bor, (.int .i64))], [((.int .i64), false)], fun x => f_L_heldIntSS x.1 x.2.1⟩
noncomputable def cx_L_heldIntSS : Cx := ⟨tab, arrs, [(63, ct_L_heldIntS)], []⟩
theorem eb_L_heldIntSS_2 (t0 : PV S_S_int) (t1 : PV (.int .i64)) (t5 : PV (.int .i64)) : denK cx_L_heldIntSS (rcN cx_L_heldIntSS 0) pl_L_heldIntSS 0 ((loopsOf (bodyOf Try.f42)).getD 0 .skip) (fillS sh_L_heldIntSS_2 (t0, t1, t5, ())) (roundK 0 lp_L_heldIntSS_2) = b_L_heldIntSS_2 t0 t1 t5 := by kernel_rfl
theorem ef_L_heldIntSS (t0 : PV S_S_int) (t1 : PV (.int .i64)) : denF cx_L_heldIntSS 0 pl_L_heldIntSS Try.f42.ntmps (bodyOf Try.f42) Try.f42.results.toList [(.bor, S_S_int), (.bor, (.int .i64))] [((.int .i64), false)] (t0, t1, ()) = f_L_heldIntSS t0 t1 := by kernel_rfl
theorem ok_L_heldIntSS : FnOk Try.prog 42 ct_L_heldIntSS :=
  fnOk (cx := cx_L_heldIntSS) (pl := pl_L_heldIntSS) (dp := 0) (ok0_of tabOk (by unfold ArrOk; kernel_rfl) mix ⟨ok_L_heldIntS, trivial⟩ trivial) Try.func42 (by kernel_rfl) (by kernel_rfl) (by kernel_rfl)
    (by rw [show loopsOf (bodyOf Try.f42) = [((loopsOf (bodyOf Try.f42)).getD 0 .skip)] from by kernel_rfl]; exact ⟨(by rw [show lookup pl_L_heldIntSS.loops (firstId ((loopsOf (bodyOf Try.f42)).getD 0 .skip)) = some lp_L_heldIntSS_2 from by kernel_rfl]; exact fun d z h => (eb_L_heldIntSS_2 d.1 d.2.1 d.2.2.1).trans h), trivial⟩) (fun x => ef_L_heldIntSS x.1 x.2.1)
noncomputable def o_L_FnExactChurnOf_9 : List Out := [⟨.normal, ⟨[], [0, 4, 5, 6, 7, 8, 40, 52, 53, 54, 55, 58, 59, 60, 84, 85, 86]⟩, mkSh 96 [(0, .val S_S_string .b), (4, .val S_S_int (.row (.row .b))), (5, .val .bool .b), (6, .val S_S_string (.row (.row .b))), (7, .val S_S_int (.row (.row .b))), (8, .val .bool .b), (40, .val .bool .b)]⟩]
noncomputable def o_L_FnExactChurnOf_15 : List Out := [⟨.normal, ⟨[], [0, 4, 5, 7, 61, 84, 85, 86]⟩, mkSh 96 [(0, .val S_S_string .b), (4, .val S_S_int (.row (.row .b))), (5, .val .bool .b), (7, .val S_S_int (.row (.row .b))), (61, .val .bool .b)]⟩]
noncomputable def o_L_FnExactChurnOf_26 : List Out := [⟨.normal, ⟨[], [7, 10, 87]⟩, mkSh 96 [(7, .val S_S_int (.row (.row .b))), (10, .val (.int .i64) .b), (87, .val .bool .b)]⟩]
noncomputable def pl_L_FnExactChurnOf : Plan := ⟨[(9, o_L_FnExactChurnOf_9), (15, o_L_FnExactChurnOf_15), (26, o_L_FnExactChurnOf_26)], [], 0, 0⟩
noncomputable def f_L_FnExactChurnOf (t0 : PV S_S_string) : Option (PVs [.bool] × PVs []) :=
  (f_L_szStringSS t0 1048576).bind fun r2 =>
    bif (decide (r2.1.1 < 0)) then
      some ((true, ()), ())
    else
      (f_L_toStringSS t0).bind fun r5 =>
        (f_S_ChurnOf r5.1.1).bind fun r6 =>
          (f_L_toStringSS t0).bind fun r8 =>
            (f_I_ChurnOf r8.1.1).bind fun r10 =>
              ((
                  (f_L_eqIntSS r10.1.1 r6.1.1).bind fun r14 =>
                    bif (!r14.1.1) then
                      some (t0, r6.1.1, r6.1.2.1, r8.1.1, r10.1.1, r10.1.2.1, true, ())
                    else
                      some (t0, r6.1.1, r6.1.2.1, r8.1.1, r10.1.1, r10.1.2.1, (!(r10.1.2.1 == r6.1.2.1)), ()) : Option ((PV S_S_string × PV S_S_int × PV .bool × PV S_S_string × PV S_S_int × PV .bool × PV .bool × Unit)))).bind fun j15 =>
                bif j15.2.2.2.2.2.2.1 then
                  some ((false, ()), ())
                else
                  (f_L_toStringSS j15.1).bind fun r22 =>
                    (f_L_eqStringSS j15.2.2.2.1 r22.1.1).bind fun r23 =>
                      bif (!r23.1.1) then
                        some ((false, ()), ())
                      else
                        (f_L_markStringSS j15.2.2.2.1 1).bind fun r25 =>
                          ((
                              bif (decide (r25.1.1 < 0)) then
                                some (j15.1, j15.2.1, j15.2.2.1, j15.2.2.2.2.1, true, ())
                              else
                                (f_L_eqIntSS j15.2.2.2.2.1 j15.2.1).bind fun r29 =>
                                  bif (!r29.1.1) then
                                    some (j15.1, j15.2.1, j15.2.2.1, j15.2.2.2.2.1, true, ())
                                  else
                                    some (j15.1, j15.2.1, j15.2.2.1, j15.2.2.2.2.1, (!(j15.2.2.2.2.2.1 == j15.2.2.1)), ()) : Option ((PV S_S_string × PV S_S_int × PV .bool × PV S_S_int × PV .bool × Unit)))).bind fun j30 =>
                            bif j30.2.2.2.2.1 then
                              some ((false, ()), ())
                            else
                              (f_L_markIntSS j30.2.2.2.1 1).bind fun r32 =>
                                (f_L_heldIntSS r32.2.1 1).bind fun r34 =>
                                  bif (decide (r34.1.1 < 0)) then
                                    some ((false, ()), ())
                                  else
                                    bif (!(r34.1.1 == r32.1.1)) then
                                      some ((false, ()), ())
                                    else
                                      (f_L_toStringSS j30.1).bind fun r37 =>
                                        (f_I_ChurnOf r37.1.1).bind fun r38 =>
                                          ((
                                              (f_L_eqIntSS r38.1.1 j30.2.1).bind fun r42 =>
                                                bif (!r42.1.1) then
                                                  some (r32.2.1, r32.1.1, true, ())
                                                else
                                                  some (r32.2.1, r32.1.1, (!(r38.1.2.1 == j30.2.2.1)), ()) : Option ((PV S_S_int × PV (.int .i64) × PV .bool × Unit)))).bind fun j43 =>
                                            bif j43.2.2.1 then
                                              some ((false, ()), ())
                                            else
                                              (f_L_heldIntSS j43.1 1).bind fun r45 =>
                                                bif (decide (r45.1.1 < 0)) then
                                                  some ((false, ()), ())
                                                else
                                                  bif (!(r45.1.1 == j43.2.1)) then
                                                    some ((false, ()), ())
                                                  else
                                                    some ((true, ()), ())
noncomputable def ct_L_FnExactChurnOf : Ct := ⟨[(.bor, S_S_string)], [(.bool, false)], fun x => f_L_FnExactChurnOf x.1⟩
noncomputable def cx_L_FnExactChurnOf : Cx := ⟨tab, arrs, [(34, ct_L_szStringSS), (35, ct_S_ChurnOf), (36, ct_L_toStringSS), (37, ct_I_ChurnOf), (38, ct_L_eqIntSS), (39, ct_L_eqStringSS), (40, ct_L_markStringSS), (41, ct_L_markIntSS), (42, ct_L_heldIntSS)], []⟩
theorem ef_L_FnExactChurnOf (t0 : PV S_S_string) : denF cx_L_FnExactChurnOf 0 pl_L_FnExactChurnOf Try.f7.ntmps (bodyOf Try.f7) Try.f7.results.toList [(.bor, S_S_string)] [(.bool, false)] (t0, ()) = f_L_FnExactChurnOf t0 := by kernel_rfl
theorem ok_L_FnExactChurnOf : FnOk Try.prog 7 ct_L_FnExactChurnOf :=
  fnOk (cx := cx_L_FnExactChurnOf) (pl := pl_L_FnExactChurnOf) (dp := 0) (ok0_of tabOk (by unfold ArrOk; kernel_rfl) mix ⟨ok_L_szStringSS, ok_S_ChurnOf, ok_L_toStringSS, ok_I_ChurnOf, ok_L_eqIntSS, ok_L_eqStringSS, ok_L_markStringSS, ok_L_markIntSS, ok_L_heldIntSS, trivial⟩ trivial) Try.func7 (by kernel_rfl) (by kernel_rfl) (by kernel_rfl)
    (by rw [show loopsOf (bodyOf Try.f7) = [] from by kernel_rfl]; exact trivial) (fun x => ef_L_FnExactChurnOf x.1)
end R
