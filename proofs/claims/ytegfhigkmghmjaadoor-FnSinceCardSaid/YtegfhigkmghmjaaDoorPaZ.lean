/- The functions, part 2. -/
import Derived.Test.YtegfhigkmghmjaaDoorPaZ1
open Go Go.Dn Go.Proofs
namespace R
set_option linter.unusedVariables false
set_option maxRecDepth 20000
open Go.Shelf
noncomputable def sh_I_TillOf_9 : List Sh := mkSh 44 [(0, .val S_S_string .b), (4, .val S_S_int (.row (.row .b))), (5, .val (.int .i64) .b), (7, .val S_int (.row .b)), (13, .val S_S_string .b), (14, .val (.int .i64) .b), (15, .val (.int .i64) .b), (22, .val (.int .i64) .b), (23, .val (.int .i64) .b)]
noncomputable def o_I_TillOf_9 : List Out := [⟨.exit 2, ⟨[], [0, 4, 7, 13, 14, 15], []⟩, mkSh 44 [(0, .val S_S_string .b), (4, .val S_S_int (.row (.row .b))), (7, .val S_int (.row .b)), (13, .val S_S_string .b), (14, .val (.int .i64) .b), (15, .val (.int .i64) .b)]⟩]
noncomputable def b_I_TillOf_9 (t0 : PV S_S_string) (t4 : PV S_S_int) (t5 : PV (.int .i64)) (t7 : PV S_int) (t13 : PV S_S_string) (t14 : PV (.int .i64)) (t15 : PV (.int .i64)) (t22 : PV (.int .i64)) (t23 : PV (.int .i64)) : Option ((PV S_S_string × PV S_S_int × PV (.int .i64) × PV S_int × PV S_S_string × PV (.int .i64) × PV (.int .i64) × PV (.int .i64) × PV (.int .i64) × Unit) ⊕ ((PV S_S_string × PV S_S_int × PV S_int × PV S_S_string × PV (.int .i64) × PV (.int .i64) × Unit))) :=
  bif (decide (t23 < t22)) then
    (f_I_trace t0 t5 t23).bind fun r6 =>
      bif roomB (t7.length + [(IntKind.wrap .i64 ((IntKind.wrap .i64 (t5 + (r6.1.1.length : Int))) - 1))].length) then
        some (.inl (t0, t4, t5, (t7 ++ [(IntKind.wrap .i64 ((IntKind.wrap .i64 (t5 + (r6.1.1.length : Int))) - 1))]), t13, t14, t15, t22, (IntKind.wrap .i64 (t23 + 1)), ()))
      else
        none
  else
    some (.inr (t0, t4, t7, t13, t14, t15, ()))
noncomputable def w_I_TillOf_9 : PV S_S_string × PV S_S_int × PV (.int .i64) × PV S_int × PV S_S_string × PV (.int .i64) × PV (.int .i64) × PV (.int .i64) × PV (.int .i64) × Unit → Option ((PV S_S_string × PV S_S_int × PV S_int × PV S_S_string × PV (.int .i64) × PV (.int .i64) × Unit)) := fix fun d => b_I_TillOf_9 d.1 d.2.1 d.2.2.1 d.2.2.2.1 d.2.2.2.2.1 d.2.2.2.2.2.1 d.2.2.2.2.2.2.1 d.2.2.2.2.2.2.2.1 d.2.2.2.2.2.2.2.2.1
noncomputable def lp_I_TillOf_9 : Lp := ⟨⟨[], [0, 4, 5, 7, 13, 14, 15, 22, 23], []⟩, sh_I_TillOf_9, o_I_TillOf_9, fun d => b_I_TillOf_9 d.1 d.2.1 d.2.2.1 d.2.2.2.1 d.2.2.2.2.1 d.2.2.2.2.2.1 d.2.2.2.2.2.2.1 d.2.2.2.2.2.2.2.1 d.2.2.2.2.2.2.2.2.1⟩
noncomputable def sh_I_TillOf_5 : List Sh := mkSh 44 [(0, .val S_S_string .b), (4, .val S_S_int (.row (.row .b))), (13, .val S_S_string .b), (14, .val (.int .i64) .b), (15, .val (.int .i64) .b)]
noncomputable def o_I_TillOf_5 : List Out := [⟨.exit 0, ⟨[], [4], []⟩, mkSh 44 [(4, .val S_S_int (.row (.row .b)))]⟩]
noncomputable def b_I_TillOf_5 (t0 : PV S_S_string) (t4 : PV S_S_int) (t13 : PV S_S_string) (t14 : PV (.int .i64)) (t15 : PV (.int .i64)) : Option ((PV S_S_string × PV S_S_int × PV S_S_string × PV (.int .i64) × PV (.int .i64) × Unit) ⊕ ((PV S_S_int × Unit))) :=
  bif (decide (t15 < t14)) then
    bif inB t15 t13.length then
      (w_I_TillOf_9 (t0, t4, t15, ([] : PV S_int), t13, t14, t15, ((t13.getD t15.toNat []).length : Int), 0, ())).bind fun l8 =>
        bif roomB (l8.2.1.length + [l8.2.2.1].length) then
          some (.inl (l8.1, (l8.2.1 ++ [l8.2.2.1]), l8.2.2.2.1, l8.2.2.2.2.1, (IntKind.wrap .i64 (l8.2.2.2.2.2.1 + 1)), ()))
        else
          none
    else
      none
  else
    some (.inr (t4, ()))
noncomputable def w_I_TillOf_5 : PV S_S_string × PV S_S_int × PV S_S_string × PV (.int .i64) × PV (.int .i64) × Unit → Option ((PV S_S_int × Unit)) := fix fun d => b_I_TillOf_5 d.1 d.2.1 d.2.2.1 d.2.2.2.1 d.2.2.2.2.1
noncomputable def lp_I_TillOf_5 : Lp := ⟨⟨[], [0, 4, 13, 14, 15], []⟩, sh_I_TillOf_5, o_I_TillOf_5, fun d => b_I_TillOf_5 d.1 d.2.1 d.2.2.1 d.2.2.2.1 d.2.2.2.2.1⟩
noncomputable def pl_I_TillOf : Plan := ⟨[], [(9, lp_I_TillOf_9), (5, lp_I_TillOf_5)], 0, 0⟩
noncomputable def f_I_TillOf (t0 : PV S_S_string) : Option (PVs [S_S_int, .bool] × PVs []) :=
  (f_I_areVersions t0).bind fun r4 =>
    bif (!r4.1.1) then
      some (([], false, ()), ())
    else
      (w_I_TillOf_5 (t0, ([] : PV S_S_int), t0, (t0.length : Int), 0, ())).bind fun l10 =>
        some ((l10.1, true, ()), ())
noncomputable def ct_I_TillOf : Ct := ⟨[(.bor, S_S_string)], [(S_S_int, .b), (.bool, .b)], fun x => f_I_TillOf x.1⟩
noncomputable def cx_I_TillOf : Cx := ⟨tab, arrs, [(76, ct_I_areVersions), (78, ct_I_trace)], [], gl, []⟩
theorem eb_I_TillOf_5 (t0 : PV S_S_string) (t4 : PV S_S_int) (t13 : PV S_S_string) (t14 : PV (.int .i64)) (t15 : PV (.int .i64)) : denK cx_I_TillOf (rcN cx_I_TillOf 0) pl_I_TillOf 0 ((loopsOf (bodyOf Tryd.f32)).getD 0 .skip) (fillS sh_I_TillOf_5 (t0, t4, t13, t14, t15, ())) (roundK 0 lp_I_TillOf_5) = b_I_TillOf_5 t0 t4 t13 t14 t15 := by kernel_rfl
theorem eb_I_TillOf_9 (t0 : PV S_S_string) (t4 : PV S_S_int) (t5 : PV (.int .i64)) (t7 : PV S_int) (t13 : PV S_S_string) (t14 : PV (.int .i64)) (t15 : PV (.int .i64)) (t22 : PV (.int .i64)) (t23 : PV (.int .i64)) : denK cx_I_TillOf (rcN cx_I_TillOf 0) pl_I_TillOf 0 ((loopsOf (bodyOf Tryd.f32)).getD 1 .skip) (fillS sh_I_TillOf_9 (t0, t4, t5, t7, t13, t14, t15, t22, t23, ())) (roundK 0 lp_I_TillOf_9) = b_I_TillOf_9 t0 t4 t5 t7 t13 t14 t15 t22 t23 := by kernel_rfl
theorem ef_I_TillOf (t0 : PV S_S_string) : denF cx_I_TillOf 0 pl_I_TillOf Tryd.f32.ntmps (bodyOf Tryd.f32) Tryd.f32.results.toList [(.bor, S_S_string)] [(S_S_int, .b), (.bool, .b)] (t0, ()) = f_I_TillOf t0 := by kernel_rfl
theorem ok_I_TillOf : FnOk gl Tryd.prog 32 ct_I_TillOf :=
  fnOk (cx := cx_I_TillOf) (pl := pl_I_TillOf) (dp := 0) (ok0_of tabOk (by unfold ArrOk; kernel_rfl) mix ⟨ok_I_areVersions, ok_I_trace, trivial⟩ trivial) Tryd.func32 (by kernel_rfl) (by kernel_rfl) (by kernel_rfl)
    (by rw [show loopsOf (bodyOf Tryd.f32) = [((loopsOf (bodyOf Tryd.f32)).getD 0 .skip), ((loopsOf (bodyOf Tryd.f32)).getD 1 .skip)] from by kernel_rfl]; exact ⟨(by rw [show lookup pl_I_TillOf.loops (firstId ((loopsOf (bodyOf Tryd.f32)).getD 0 .skip)) = some lp_I_TillOf_5 from by kernel_rfl]; exact fun d z h => (eb_I_TillOf_5 d.1 d.2.1 d.2.2.1 d.2.2.2.1 d.2.2.2.2.1).trans h), (by rw [show lookup pl_I_TillOf.loops (firstId ((loopsOf (bodyOf Tryd.f32)).getD 1 .skip)) = some lp_I_TillOf_9 from by kernel_rfl]; exact fun d z h => (eb_I_TillOf_9 d.1 d.2.1 d.2.2.1 d.2.2.2.1 d.2.2.2.2.1 d.2.2.2.2.2.1 d.2.2.2.2.2.2.1 d.2.2.2.2.2.2.2.1 d.2.2.2.2.2.2.2.2.1).trans h), trivial⟩) (fun x => ef_I_TillOf x.1)
noncomputable def o_S_TillOf_19 : List Out := [⟨.normal, ⟨[], [0, 4, 5, 61, 62, 63], []⟩, mkSh 86 [(0, .val S_S_string .b), (4, .val S_S_int (.row (.row .b))), (5, .val (.int .i64) .b), (61, .val S_int (.row .b)), (62, .val (.int .i64) .b), (63, .val (.int .i64) .b)]⟩]
noncomputable def o_S_TillOf_6 : List Out := [⟨.normal, ⟨[], [0, 4, 5], []⟩, mkSh 86 [(0, .val S_S_string .b), (4, .val S_S_int (.row (.row .b))), (5, .val (.int .i64) .b)]⟩]
noncomputable def sh_S_TillOf_9 : List Sh := mkSh 86 [(0, .val S_S_string .b), (4, .val S_S_int (.row (.row .b))), (5, .val (.int .i64) .b), (35, .val (.int .i64) .b), (36, .val (.int .i64) .b)]
noncomputable def o_S_TillOf_9 : List Out := [⟨.exit 2, ⟨[], [0, 4, 5], []⟩, mkSh 86 [(0, .val S_S_string .b), (4, .val S_S_int (.row (.row .b))), (5, .val (.int .i64) .b)]⟩]
noncomputable def b_S_TillOf_9 (t0 : PV S_S_string) (t4 : PV S_S_int) (t5 : PV (.int .i64)) (t35 : PV (.int .i64)) (t36 : PV (.int .i64)) : Option ((PV S_S_string × PV S_S_int × PV (.int .i64) × PV (.int .i64) × PV (.int .i64) × Unit) ⊕ ((PV S_S_string × PV S_S_int × PV (.int .i64) × Unit))) :=
  bif (decide (t36 < t35)) then
    bif inB t5 t4.length then
      bif inB t36 (t4.getD t5.toNat []).length then
        some (.inl (t0, (t4.set t5.toNat ((t4.getD t5.toNat []).set t36.toNat t5)), t5, t35, (IntKind.wrap .i64 (t36 + 1)), ()))
      else
        none
    else
      none
  else
    some (.inr (t0, t4, t5, ()))
noncomputable def w_S_TillOf_9 : PV S_S_string × PV S_S_int × PV (.int .i64) × PV (.int .i64) × PV (.int .i64) × Unit → Option ((PV S_S_string × PV S_S_int × PV (.int .i64) × Unit)) := fix fun d => b_S_TillOf_9 d.1 d.2.1 d.2.2.1 d.2.2.2.1 d.2.2.2.2.1
noncomputable def lp_S_TillOf_9 : Lp := ⟨⟨[], [0, 4, 5, 35, 36], []⟩, sh_S_TillOf_9, o_S_TillOf_9, fun d => b_S_TillOf_9 d.1 d.2.1 d.2.2.1 d.2.2.2.1 d.2.2.2.2.1⟩
noncomputable def sh_S_TillOf_15 : List Sh := mkSh 86 [(0, .val S_S_string .b), (4, .val S_S_int (.row (.row .b))), (5, .val (.int .i64) .b), (61, .val S_int (.row .b)), (62, .val (.int .i64) .b), (63, .val (.int .i64) .b)]
noncomputable def o_S_TillOf_15 : List Out := [⟨.exit 4, ⟨[], [0, 4, 5], []⟩, mkSh 86 [(0, .val S_S_string .b), (4, .val S_S_int (.row (.row .b))), (5, .val (.int .i64) .b)]⟩]
noncomputable def b_S_TillOf_15 (t0 : PV S_S_string) (t4 : PV S_S_int) (t5 : PV (.int .i64)) (t61 : PV S_int) (t62 : PV (.int .i64)) (t63 : PV (.int .i64)) : Option ((PV S_S_string × PV S_S_int × PV (.int .i64) × PV S_int × PV (.int .i64) × PV (.int .i64) × Unit) ⊕ ((PV S_S_string × PV S_S_int × PV (.int .i64) × Unit))) :=
  bif (decide (t63 < t62)) then
    ((
        bif inB t63 t61.length then
          bif (decide ((t61.getD t63.toNat (0 : Int)) ≥ 0)) then
            bif inB t5 t4.length then
              bif inB (IntKind.wrap .i64 (t5 + 1)) t4.length then
                bif inB (t61.getD t63.toNat (0 : Int)) (t4.getD ((IntKind.wrap .i64 (t5 + 1)).toNat) []).length then
                  bif inB t63 (t4.getD t5.toNat []).length then
                    some (t0, (t4.set t5.toNat ((t4.getD t5.toNat []).set t63.toNat ((t4.getD ((IntKind.wrap .i64 (t5 + 1)).toNat) []).getD ((t61.getD t63.toNat (0 : Int)).toNat) (0 : Int)))), t5, t61, t62, t63, ())
                  else
                    none
                else
                  none
              else
                none
            else
              none
          else
            some (t0, t4, t5, t61, t62, t63, ())
        else
          none : Option ((PV S_S_string × PV S_S_int × PV (.int .i64) × PV S_int × PV (.int .i64) × PV (.int .i64) × Unit)))).bind fun j9 =>
      some (.inl (j9.1, j9.2.1, j9.2.2.1, j9.2.2.2.1, j9.2.2.2.2.1, (IntKind.wrap .i64 (j9.2.2.2.2.2.1 + 1)), ()))
  else
    some (.inr (t0, t4, t5, ()))
noncomputable def w_S_TillOf_15 : PV S_S_string × PV S_S_int × PV (.int .i64) × PV S_int × PV (.int .i64) × PV (.int .i64) × Unit → Option ((PV S_S_string × PV S_S_int × PV (.int .i64) × Unit)) := fix fun d => b_S_TillOf_15 d.1 d.2.1 d.2.2.1 d.2.2.2.1 d.2.2.2.2.1 d.2.2.2.2.2.1
noncomputable def lp_S_TillOf_15 : Lp := ⟨⟨[], [0, 4, 5, 61, 62, 63], []⟩, sh_S_TillOf_15, o_S_TillOf_15, fun d => b_S_TillOf_15 d.1 d.2.1 d.2.2.1 d.2.2.2.1 d.2.2.2.2.1 d.2.2.2.2.2.1⟩
noncomputable def sh_S_TillOf_5 : List Sh := mkSh 86 [(0, .val S_S_string .b), (4, .val S_S_int (.row (.row .b))), (5, .val (.int .i64) .b)]
noncomputable def o_S_TillOf_5 : List Out := [⟨.exit 0, ⟨[], [4], []⟩, mkSh 86 [(4, .val S_S_int (.row (.row .b)))]⟩]
noncomputable def b_S_TillOf_5 (t0 : PV S_S_string) (t4 : PV S_S_int) (t5 : PV (.int .i64)) : Option ((PV S_S_string × PV S_S_int × PV (.int .i64) × Unit) ⊕ ((PV S_S_int × Unit))) :=
  bif (decide (t5 ≥ 0)) then
    ((
        bif inB t5 t0.length then
          bif decide (0 ≤ ((t0.getD t5.toNat []).length : Int)) && (decide (((t0.getD t5.toNat []).length : Int) ≤ ((t0.getD t5.toNat []).length : Int)) && roomB ((t0.getD t5.toNat []).length : Int).toNat) then
            bif inB t5 t4.length then
              bif inB t5 (t4.set t5.toNat (List.replicate ((t0.getD t5.toNat []).length : Int).toNat (0 : Int))).length then
                (w_S_TillOf_9 (t0, (t4.set t5.toNat (List.replicate ((t0.getD t5.toNat []).length : Int).toNat (0 : Int))), t5, (((t4.set t5.toNat (List.replicate ((t0.getD t5.toNat []).length : Int).toNat (0 : Int))).getD t5.toNat []).length : Int), 0, ())).bind fun l6 =>
                  bif (decide (l6.2.2.1 < (IntKind.wrap .i64 ((l6.1.length : Int) - 1)))) then
                    bif inB l6.2.2.1 l6.1.length then
                      bif inB (IntKind.wrap .i64 (l6.2.2.1 + 1)) l6.1.length then
                        (f_S_l12Next (l6.1.getD l6.2.2.1.toNat []) (l6.1.getD ((IntKind.wrap .i64 (l6.2.2.1 + 1)).toNat) [])).bind fun r8 =>
                          (w_S_TillOf_15 (l6.1, l6.2.1, l6.2.2.1, r8.1.1, (r8.1.1.length : Int), 0, ())).bind fun l9 =>
                            some (l9.1, l9.2.1, l9.2.2.1, ())
                      else
                        none
                    else
                      none
                  else
                    some (l6.1, l6.2.1, l6.2.2.1, ())
              else
                none
            else
              none
          else
            none
        else
          none : Option ((PV S_S_string × PV S_S_int × PV (.int .i64) × Unit)))).bind fun j10 =>
      some (.inl (j10.1, j10.2.1, (IntKind.wrap .i64 (j10.2.2.1 - 1)), ()))
  else
    some (.inr (t4, ()))
noncomputable def w_S_TillOf_5 : PV S_S_string × PV S_S_int × PV (.int .i64) × Unit → Option ((PV S_S_int × Unit)) := fix fun d => b_S_TillOf_5 d.1 d.2.1 d.2.2.1
noncomputable def lp_S_TillOf_5 : Lp := ⟨⟨[], [0, 4, 5], []⟩, sh_S_TillOf_5, o_S_TillOf_5, fun d => b_S_TillOf_5 d.1 d.2.1 d.2.2.1⟩
noncomputable def pl_S_TillOf : Plan := ⟨[(19, o_S_TillOf_19), (6, o_S_TillOf_6)], [(9, lp_S_TillOf_9), (15, lp_S_TillOf_15), (5, lp_S_TillOf_5)], 0, 0⟩
noncomputable def f_S_TillOf (t0 : PV S_S_string) : Option (PVs [S_S_int, .bool] × PVs []) :=
  (f_S_l12Good t0).bind fun r4 =>
    bif (!r4.1.1) then
      some (([], false, ()), ())
    else
      bif decide (0 ≤ (t0.length : Int)) && (decide ((t0.length : Int) ≤ (t0.length : Int)) && roomB (t0.length : Int).toNat) then
        (w_S_TillOf_5 (t0, (List.replicate (t0.length : Int).toNat ([] : PV S_int)), (IntKind.wrap .i64 ((t0.length : Int) - 1)), ())).bind fun l12 =>
          some ((l12.1, true, ()), ())
      else
        none
noncomputable def ct_S_TillOf : Ct := ⟨[(.bor, S_S_string)], [(S_S_int, .b), (.bool, .b)], fun x => f_S_TillOf x.1⟩
noncomputable def cx_S_TillOf : Cx := ⟨tab, arrs, [(67, ct_S_l12Good), (79, ct_S_l12Next)], [], gl, []⟩
theorem eb_S_TillOf_5 (t0 : PV S_S_string) (t4 : PV S_S_int) (t5 : PV (.int .i64)) : denK cx_S_TillOf (rcN cx_S_TillOf 0) pl_S_TillOf 0 ((loopsOf (bodyOf Tryd.f33)).getD 0 .skip) (fillS sh_S_TillOf_5 (t0, t4, t5, ())) (roundK 0 lp_S_TillOf_5) = b_S_TillOf_5 t0 t4 t5 := by kernel_rfl
theorem eb_S_TillOf_9 (t0 : PV S_S_string) (t4 : PV S_S_int) (t5 : PV (.int .i64)) (t35 : PV (.int .i64)) (t36 : PV (.int .i64)) : denK cx_S_TillOf (rcN cx_S_TillOf 0) pl_S_TillOf 0 ((loopsOf (bodyOf Tryd.f33)).getD 1 .skip) (fillS sh_S_TillOf_9 (t0, t4, t5, t35, t36, ())) (roundK 0 lp_S_TillOf_9) = b_S_TillOf_9 t0 t4 t5 t35 t36 := by kernel_rfl
theorem eb_S_TillOf_15 (t0 : PV S_S_string) (t4 : PV S_S_int) (t5 : PV (.int .i64)) (t61 : PV S_int) (t62 : PV (.int .i64)) (t63 : PV (.int .i64)) : denK cx_S_TillOf (rcN cx_S_TillOf 0) pl_S_TillOf 0 ((loopsOf (bodyOf Tryd.f33)).getD 2 .skip) (fillS sh_S_TillOf_15 (t0, t4, t5, t61, t62, t63, ())) (roundK 0 lp_S_TillOf_15) = b_S_TillOf_15 t0 t4 t5 t61 t62 t63 := by kernel_rfl
theorem ef_S_TillOf (t0 : PV S_S_string) : denF cx_S_TillOf 0 pl_S_TillOf Tryd.f33.ntmps (bodyOf Tryd.f33) Tryd.f33.results.toList [(.bor, S_S_string)] [(S_S_int, .b), (.bool, .b)] (t0, ()) = f_S_TillOf t0 := by kernel_rfl
theorem ok_S_TillOf : FnOk gl Tryd.prog 33 ct_S_TillOf :=
  fnOk (cx := cx_S_TillOf) (pl := pl_S_TillOf) (dp := 0) (ok0_of tabOk (by unfold ArrOk; kernel_rfl) mix ⟨ok_S_l12Good, ok_S_l12Next, trivial⟩ trivial) Tryd.func33 (by kernel_rfl) (by kernel_rfl) (by kernel_rfl)
    (by rw [show loopsOf (bodyOf Tryd.f33) = [((loopsOf (bodyOf Tryd.f33)).getD 0 .skip), ((loopsOf (bodyOf Tryd.f33)).getD 1 .skip), ((loopsOf (bodyOf Tryd.f33)).getD 2 .skip)] from by kernel_rfl]; exact ⟨(by rw [show lookup pl_S_TillOf.loops (firstId ((loopsOf (bodyOf Tryd.f33)).getD 0 .skip)) = some lp_S_TillOf_5 from by kernel_rfl]; exact fun d z h => (eb_S_TillOf_5 d.1 d.2.1 d.2.2.1).trans h), (by rw [show lookup pl_S_TillOf.loops (firstId ((loopsOf (bodyOf Tryd.f33)).getD 1 .skip)) = some lp_S_TillOf_9 from by kernel_rfl]; exact fun d z h => (eb_S_TillOf_9 d.1 d.2.1 d.2.2.1 d.2.2.2.1 d.2.2.2.2.1).trans h), (by rw [show lookup pl_S_TillOf.loops (firstId ((loopsOf (bodyOf Tryd.f33)).getD 2 .skip)) = some lp_S_TillOf_15 from by kernel_rfl]; exact fun d z h => (eb_S_TillOf_15 d.1 d.2.1 d.2.2.1 d.2.2.2.1 d.2.2.2.2.1 d.2.2.2.2.2.1).trans h), trivial⟩) (fun x => ef_S_TillOf x.1)
noncomputable def sh_L_sameInts_4 : List Sh := mkSh 26 [(0, .val S_int .b), (1, .val S_int .b), (12, .val (.int .i64) .b), (13, .val (.int .i64) .b)]
noncomputable def o_L_sameInts_4 : List Out := [⟨.exit 0, ⟨[], [], []⟩, mkSh 26 []⟩, ⟨.ret, ⟨[], [4], []⟩, mkSh 26 [(4, .val .bool .b)]⟩]
noncomputable def b_L_sameInts_4 (t0 : PV S_int) (t1 : PV S_int) (t12 : PV (.int .i64)) (t13 : PV (.int .i64)) : Option ((PV S_int × PV S_int × PV (.int .i64) × PV (.int .i64) × Unit) ⊕ ((Unit) ⊕ (PV .bool × Unit))) :=
  bif (decide (t13 < t12)) then
    bif inB t13 t0.length then
      bif inB t13 t1.length then
        bif (!((t0.getD t13.toNat (0 : Int)) == (t1.getD t13.toNat (0 : Int)))) then
          some (.inr (.inr (false, ())))
        else
          some (.inl (t0, t1, t12, (IntKind.wrap .i64 (t13 + 1)), ()))
      else
        none
    else
      none
  else
    some (.inr (.inl ()))
noncomputable def w_L_sameInts_4 : PV S_int × PV S_int × PV (.int .i64) × PV (.int .i64) × Unit → Option ((Unit) ⊕ (PV .bool × Unit)) := fix fun d => b_L_sameInts_4 d.1 d.2.1 d.2.2.1 d.2.2.2.1
noncomputable def lp_L_sameInts_4 : Lp := ⟨⟨[], [0, 1, 12, 13], []⟩, sh_L_sameInts_4, o_L_sameInts_4, fun d => b_L_sameInts_4 d.1 d.2.1 d.2.2.1 d.2.2.2.1⟩
noncomputable def pl_L_sameInts : Plan := ⟨[], [(4, lp_L_sameInts_4)], 0, 0⟩
noncomputable def f_L_sameInts (t0 : PV S_int) (t1 : PV S_int) : Option (PVs [.bool] × PVs []) :=
  bif (!((t0.length : Int) == (t1.length : Int))) then
    some ((false, ()), ())
  else
    (w_L_sameInts_4 (t0, t1, (t0.length : Int), 0, ())).bind fun x5 =>
      match x5 with
      | .inl l3 =>
        some ((true, ()), ())
      | .inr l4 =>
        some ((l4.1, ()), ())
noncomputable def ct_L_sameInts : Ct := ⟨[(.bor, S_int), (.bor, S_int)], [(.bool, .b)], fun x => f_L_sameInts x.1 x.2.1⟩
noncomputable def cx_L_sameInts : Cx := ⟨tab, arrs, [], [], gl, []⟩
theorem eb_L_sameInts_4 (t0 : PV S_int) (t1 : PV S_int) (t12 : PV (.int .i64)) (t13 : PV (.int .i64)) : denK cx_L_sameInts (rcN cx_L_sameInts 0) pl_L_sameInts 0 ((loopsOf (bodyOf Tryd.f34)).getD 0 .skip) (fillS sh_L_sameInts_4 (t0, t1, t12, t13, ())) (roundK 0 lp_L_sameInts_4) = b_L_sameInts_4 t0 t1 t12 t13 := by kernel_rfl
theorem ef_L_sameInts (t0 : PV S_int) (t1 : PV S_int) : denF cx_L_sameInts 0 pl_L_sameInts Tryd.f34.ntmps (bodyOf Tryd.f34) Tryd.f34.results.toList [(.bor, S_int), (.bor, S_int)] [(.bool, .b)] (t0, t1, ()) = f_L_sameInts t0 t1 := by kernel_rfl
theorem ok_L_sameInts : FnOk gl Tryd.prog 34 ct_L_sameInts :=
  fnOk (cx := cx_L_sameInts) (pl := pl_L_sameInts) (dp := 0) (ok0_of tabOk (by unfold ArrOk; kernel_rfl) mix trivial trivial) Tryd.func34 (by kernel_rfl) (by kernel_rfl) (by kernel_rfl)
    (by rw [show loopsOf (bodyOf Tryd.f34) = [((loopsOf (bodyOf Tryd.f34)).getD 0 .skip)] from by kernel_rfl]; exact ⟨(by rw [show lookup pl_L_sameInts.loops (firstId ((loopsOf (bodyOf Tryd.f34)).getD 0 .skip)) = some lp_L_sameInts_4 from by kernel_rfl]; exact fun d z h => (eb_L_sameInts_4 d.1 d.2.1 d.2.2.1 d.2.2.2.1).trans h), trivial⟩) (fun x => ef_L_sameInts x.1 x.2.1)
noncomputable def sh_L_sameLists_4 : List Sh := mkSh 27 [(0, .val S_S_int .b), (1, .val S_S_int .b), (12, .val (.int .i64) .b), (13, .val (.int .i64) .b)]
noncomputable def o_L_sameLists_4 : List Out := [⟨.exit 0, ⟨[], [], []⟩, mkSh 27 []⟩, ⟨.ret, ⟨[], [4], []⟩, mkSh 27 [(4, .val .bool .b)]⟩]
noncomputable def b_L_sameLists_4 (t0 : PV S_S_int) (t1 : PV S_S_int) (t12 : PV (.int .i64)) (t13 : PV (.int .i64)) : Option ((PV S_S_int × PV S_S_int × PV (.int .i64) × PV (.int .i64) × Unit) ⊕ ((Unit) ⊕ (PV .bool × Unit))) :=
  bif (decide (t13 < t12)) then
    bif inB t13 t0.length then
      bif inB t13 t1.length then
        (f_L_sameInts (t0.getD t13.toNat []) (t1.getD t13.toNat [])).bind fun r4 =>
          bif (!r4.1.1) then
            some (.inr (.inr (false, ())))
          else
            some (.inl (t0, t1, t12, (IntKind.wrap .i64 (t13 + 1)), ()))
      else
        none
    else
      none
  else
    some (.inr (.inl ()))
noncomputable def w_L_sameLists_4 : PV S_S_int × PV S_S_int × PV (.int .i64) × PV (.int .i64) × Unit → Option ((Unit) ⊕ (PV .bool × Unit)) := fix fun d => b_L_sameLists_4 d.1 d.2.1 d.2.2.1 d.2.2.2.1
noncomputable def lp_L_sameLists_4 : Lp := ⟨⟨[], [0, 1, 12, 13], []⟩, sh_L_sameLists_4, o_L_sameLists_4, fun d => b_L_sameLists_4 d.1 d.2.1 d.2.2.1 d.2.2.2.1⟩
noncomputable def pl_L_sameLists : Plan := ⟨[], [(4, lp_L_sameLists_4)], 0, 0⟩
noncomputable def f_L_sameLists (t0 : PV S_S_int) (t1 : PV S_S_int) : Option (PVs [.bool] × PVs []) :=
  bif (!((t0.length : Int) == (t1.length : Int))) then
    some ((false, ()), ())
  else
    (w_L_sameLists_4 (t0, t1, (t0.length : Int), 0, ())).bind fun x9 =>
      match x9 with
      | .inl l7 =>
        some ((true, ()), ())
      | .inr l8 =>
        some ((l8.1, ()), ())
noncomputable def ct_L_sameLists : Ct := ⟨[(.bor, S_S_int), (.bor, S_S_int)], [(.bool, .b)], fun x => f_L_sameLists x.1 x.2.1⟩
noncomputable def cx_L_sameLists : Cx := ⟨tab, arrs, [(34, ct_L_sameInts)], [], gl, []⟩
theorem eb_L_sameLists_4 (t0 : PV S_S_int) (t1 : PV S_S_int) (t12 : PV (.int .i64)) (t13 : PV (.int .i64)) : denK cx_L_sameLists (rcN cx_L_sameLists 0) pl_L_sameLists 0 ((loopsOf (bodyOf Tryd.f35)).getD 0 .skip) (fillS sh_L_sameLists_4 (t0, t1, t12, t13, ())) (roundK 0 lp_L_sameLists_4) = b_L_sameLists_4 t0 t1 t12 t13 := by kernel_rfl
theorem ef_L_sameLists (t0 : PV S_S_int) (t1 : PV S_S_int) : denF cx_L_sameLists 0 pl_L_sameLists Tryd.f35.ntmps (bodyOf Tryd.f35) Tryd.f35.results.toList [(.bor, S_S_int), (.bor, S_S_int)] [(.bool, .b)] (t0, t1, ()) = f_L_sameLists t0 t1 := by kernel_rfl
theorem ok_L_sameLists : FnOk gl Tryd.prog 35 ct_L_sameLists :=
  fnOk (cx := cx_L_sameLists) (pl := pl_L_sameLists) (dp := 0) (ok0_of tabOk (by unfold ArrOk; kernel_rfl) mix ⟨ok_L_sameInts, trivial⟩ trivial) Tryd.func35 (by kernel_rfl) (by kernel_rfl) (by kernel_rfl)
    (by rw [show loopsOf (bodyOf Tryd.f35) = [((loopsOf (bodyOf Tryd.f35)).getD 0 .skip)] from by kernel_rfl]; exact ⟨(by rw [show lookup pl_L_sameLists.loops (firstId ((loopsOf (bodyOf Tryd.f35)).getD 0 .skip)) = some lp_L_sameLists_4 from by kernel_rfl]; exact fun d z h => (eb_L_sameLists_4 d.1 d.2.1 d.2.2.1 d.2.2.2.1).trans h), trivial⟩) (fun x => ef_L_sameLists x.1 x.2.1)
noncomputable def o_I_LinesSince_3 : List Out := [⟨.normal, ⟨[], [0, 1, 6, 25], []⟩, mkSh 51 [(0, .val S_S_string .b), (1, .val (.int .i64) .b), (6, .val S_int (.row .b)), (25, .val .bool .b)]⟩]
noncomputable def o_I_LinesSince_10 : List Out := [⟨.normal, ⟨[], [1, 6, 8, 32, 33, 34], []⟩, mkSh 51 [(1, .val (.int .i64) .b), (6, .val S_int (.row .b)), (8, .val S_string (.row .b)), (32, .val S_string .b), (33, .val (.int .i64) .b), (34, .val (.int .i64) .b)]⟩]
noncomputable def sh_I_LinesSince_6 : List Sh := mkSh 51 [(1, .val (.int .i64) .b), (6, .val S_int (.row .b)), (8, .val S_string (.row .b)), (32, .val S_string .b), (33, .val (.int .i64) .b), (34, .val (.int .i64) .b)]
noncomputable def o_I_LinesSince_6 : List Out := [⟨.exit 0, ⟨[], [8], []⟩, mkSh 51 [(8, .val S_string (.row .b))]⟩]
noncomputable def b_I_LinesSince_6 (t1 : PV (.int .i64)) (t6 : PV S_int) (t8 : PV S_string) (t32 : PV S_string) (t33 : PV (.int .i64)) (t34 : PV (.int .i64)) : Option ((PV (.int .i64) × PV S_int × PV S_string × PV S_string × PV (.int .i64) × PV (.int .i64) × Unit) ⊕ ((PV S_string × Unit))) :=
  bif (decide (t34 < t33)) then
    ((
        bif inB t34 t32.length then
          bif inB t34 t6.length then
            bif ((t6.getD t34.toNat (0 : Int)) == t1) then
              bif roomB (t8.length + [(t32.getD t34.toNat [])].length) then
                some (t1, t6, (t8 ++ [(t32.getD t34.toNat [])]), t32, t33, t34, ())
              else
                none
            else
              some (t1, t6, t8, t32, t33, t34, ())
          else
            none
        else
          none : Option ((PV (.int .i64) × PV S_int × PV S_string × PV S_string × PV (.int .i64) × PV (.int .i64) × Unit)))).bind fun j8 =>
      some (.inl (j8.1, j8.2.1, j8.2.2.1, j8.2.2.2.1, j8.2.2.2.2.1, (IntKind.wrap .i64 (j8.2.2.2.2.2.1 + 1)), ()))
  else
    some (.inr (t8, ()))
noncomputable def w_I_LinesSince_6 : PV (.int .i64) × PV S_int × PV S_string × PV S_string × PV (.int .i64) × PV (.int .i64) × Unit → Option ((PV S_string × Unit)) := fix fun d => b_I_LinesSince_6 d.1 d.2.1 d.2.2.1 d.2.2.2.1 d.2.2.2.2.1 d.2.2.2.2.2.1
noncomputable def lp_I_LinesSince_6 : Lp := ⟨⟨[], [1, 6, 8, 32, 33, 34], []⟩, sh_I_LinesSince_6, o_I_LinesSince_6, fun d => b_I_LinesSince_6 d.1 d.2.1 d.2.2.1 d.2.2.2.1 d.2.2.2.2.1 d.2.2.2.2.2.1⟩
noncomputable def pl_I_LinesSince : Plan := ⟨[(3, o_I_LinesSince_3), (10, o_I_LinesSince_10)], [(6, lp_I_LinesSince_6)], 0, 0⟩
noncomputable def f_I_LinesSince (t0 : PV S_S_string) (t1 : PV (.int .i64)) : Option (PVs [S_string, .bool] × PVs []) :=
  (f_I_SinceOf t0).bind fun r2 =>
    ((
        bif (!r2.1.2.1) then
          some (t0, t1, r2.1.1, true, ())
        else
          (f_I_in t1 0 (IntKind.wrap .i64 ((t0.length : Int) - 1))).bind fun r6 =>
            some (t0, t1, r2.1.1, (!r6.1.1), ()) : Option ((PV S_S_string × PV (.int .i64) × PV S_int × PV .bool × Unit)))).bind fun j7 =>
      bif j7.2.2.2.1 then
        some (([], false, ()), ())
      else
        bif inB (IntKind.wrap .i64 ((j7.1.length : Int) - 1)) j7.1.length then
          (w_I_LinesSince_6 (j7.2.1, j7.2.2.1, ([] : PV S_string), (j7.1.getD ((IntKind.wrap .i64 ((j7.1.length : Int) - 1)).toNat) []), ((j7.1.getD ((IntKind.wrap .i64 ((j7.1.length : Int) - 1)).toNat) []).length : Int), 0, ())).bind fun l10 =>
            some ((l10.1, true, ()), ())
        else
          none
noncomputable def ct_I_LinesSince : Ct := ⟨[(.bor, S_S_string), (.bor, (.int .i64))], [(S_string, .b), (.bool, .b)], fun x => f_I_LinesSince x.1 x.2.1⟩
noncomputable def cx_I_LinesSince : Cx := ⟨tab, arrs, [(30, ct_I_SinceOf), (80, ct_I_in)], [], gl, []⟩
theorem eb_I_LinesSince_6 (t1 : PV (.int .i64)) (t6 : PV S_int) (t8 : PV S_string) (t32 : PV S_string) (t33 : PV (.int .i64)) (t34 : PV (.int .i64)) : denK cx_I_LinesSince (rcN cx_I_LinesSince 0) pl_I_LinesSince 0 ((loopsOf (bodyOf Tryd.f36)).getD 0 .skip) (fillS sh_I_LinesSince_6 (t1, t6, t8, t32, t33, t34, ())) (roundK 0 lp_I_LinesSince_6) = b_I_LinesSince_6 t1 t6 t8 t32 t33 t34 := by kernel_rfl
theorem ef_I_LinesSince (t0 : PV S_S_string) (t1 : PV (.int .i64)) : denF cx_I_LinesSince 0 pl_I_LinesSince Tryd.f36.ntmps (bodyOf Tryd.f36) Tryd.f36.results.toList [(.bor, S_S_string), (.bor, (.int .i64))] [(S_string, .b), (.bool, .b)] (t0, t1, ()) = f_I_LinesSince t0 t1 := by kernel_rfl
theorem ok_I_LinesSince : FnOk gl Tryd.prog 36 ct_I_LinesSince :=
  fnOk (cx := cx_I_LinesSince) (pl := pl_I_LinesSince) (dp := 0) (ok0_of tabOk (by unfold ArrOk; kernel_rfl) mix ⟨ok_I_SinceOf, ok_I_in, trivial⟩ trivial) Tryd.func36 (by kernel_rfl) (by kernel_rfl) (by kernel_rfl)
    (by rw [show loopsOf (bodyOf Tryd.f36) = [((loopsOf (bodyOf Tryd.f36)).getD 0 .skip)] from by kernel_rfl]; exact ⟨(by rw [show lookup pl_I_LinesSince.loops (firstId ((loopsOf (bodyOf Tryd.f36)).getD 0 .skip)) = some lp_I_LinesSince_6 from by kernel_rfl]; exact fun d z h => (eb_I_LinesSince_6 d.1 d.2.1 d.2.2.1 d.2.2.2.1 d.2.2.2.2.1 d.2.2.2.2.2.1).trans h), trivial⟩) (fun x => ef_I_LinesSince x.1 x.2.1)
noncomputable def o_I_TraceLine_2 : List Out := [⟨.normal, ⟨[], [0, 1, 2, 29], []⟩, mkSh 34 [(0, .val S_S_string .b), (1, .val (.int .i64) .b), (2, .val (.int .i64) .b), (29, .val .bool .b)]⟩]
noncomputable def pl_I_TraceLine : Plan := ⟨[(2, o_I_TraceLine_2)], [], 0, 0⟩
noncomputable def f_I_TraceLine (t0 : PV S_S_string) (t1 : PV (.int .i64)) (t2 : PV (.int .i64)) : Option (PVs [S_int, .bool] × PVs []) :=
  ((
      (f_I_areVersions t0).bind fun r8 =>
        bif (!r8.1.1) then
          some (t0, t1, t2, true, ())
        else
          (f_I_in t1 0 (IntKind.wrap .i64 ((t0.length : Int) - 1))).bind fun r9 =>
            bif (!r9.1.1) then
              some (t0, t1, t2, true, ())
            else
              bif inB t1 t0.length then
                (f_I_in t2 0 (IntKind.wrap .i64 (((t0.getD t1.toNat []).length : Int) - 1))).bind fun r10 =>
                  some (t0, t1, t2, (!r10.1.1), ())
              else
                none : Option ((PV S_S_string × PV (.int .i64) × PV (.int .i64) × PV .bool × Unit)))).bind fun j11 =>
    bif j11.2.2.2.1 then
      some (([], false, ()), ())
    else
      (f_I_trace j11.1 j11.2.1 j11.2.2.1).bind fun r12 =>
        some ((r12.1.1, true, ()), ())
noncomputable def ct_I_TraceLine : Ct := ⟨[(.bor, S_S_string), (.bor, (.int .i64)), (.bor, (.int .i64))], [(S_int, .b), (.bool, .b)], fun x => f_I_TraceLine x.1 x.2.1 x.2.2.1⟩
noncomputable def cx_I_TraceLine : Cx := ⟨tab, arrs, [(76, ct_I_areVersions), (78, ct_I_trace), (80, ct_I_in)], [], gl, []⟩
theorem ef_I_TraceLine (t0 : PV S_S_string) (t1 : PV (.int .i64)) (t2 : PV (.int .i64)) : denF cx_I_TraceLine 0 pl_I_TraceLine Tryd.f37.ntmps (bodyOf Tryd.f37) Tryd.f37.results.toList [(.bor, S_S_string), (.bor, (.int .i64)), (.bor, (.int .i64))] [(S_int, .b), (.bool, .b)] (t0, t1, t2, ()) = f_I_TraceLine t0 t1 t2 := by kernel_rfl
theorem ok_I_TraceLine : FnOk gl Tryd.prog 37 ct_I_TraceLine :=
  fnOk (cx := cx_I_TraceLine) (pl := pl_I_TraceLine) (dp := 0) (ok0_of tabOk (by unfold ArrOk; kernel_rfl) mix ⟨ok_I_areVersions, ok_I_trace, ok_I_in, trivial⟩ trivial) Tryd.func37 (by kernel_rfl) (by kernel_rfl) (by kernel_rfl)
    (by rw [show loopsOf (bodyOf Tryd.f37) = [] from by kernel_rfl]; exact trivial) (fun x => ef_I_TraceLine x.1 x.2.1 x.2.2.1)
noncomputable def pl_S_DrawSinceText : Plan := ⟨[], [], 0, 0⟩
noncomputable def f_S_DrawSinceText (t0 : PV S_uint8) : Option (PVs [S_S_string] × PVs []) :=
  (f_S_DrawSinceOf t0).bind fun r1 =>
    some ((r1.1.1, ()), ())
noncomputable def ct_S_DrawSinceText : Ct := ⟨[(.bor, S_uint8)], [(S_S_string, .b)], fun x => f_S_DrawSinceText x.1⟩
noncomputable def cx_S_DrawSinceText : Cx := ⟨tab, arrs, [(29, ct_S_DrawSinceOf)], [], gl, []⟩
theorem ef_S_DrawSinceText (t0 : PV S_uint8) : denF cx_S_DrawSinceText 0 pl_S_DrawSinceText Tryd.f38.ntmps (bodyOf Tryd.f38) Tryd.f38.results.toList [(.bor, S_uint8)] [(S_S_string, .b)] (t0, ()) = f_S_DrawSinceText t0 := by kernel_rfl
theorem ok_S_DrawSinceText : FnOk gl Tryd.prog 38 ct_S_DrawSinceText :=
  fnOk (cx := cx_S_DrawSinceText) (pl := pl_S_DrawSinceText) (dp := 0) (ok0_of tabOk (by unfold ArrOk; kernel_rfl) mix ⟨ok_S_DrawSinceOf, trivial⟩ trivial) Tryd.func38 (by kernel_rfl) (by kernel_rfl) (by kernel_rfl)
    (by rw [show loopsOf (bodyOf Tryd.f38) = [] from by kernel_rfl]; exact trivial) (fun x => ef_S_DrawSinceText x.1)
noncomputable def pl_internal_stringslite_TrimSuffix : Plan := ⟨[], [], 0, 0⟩
noncomputable def f_internal_stringslite_TrimSuffix (t0 : PV .str) (t1 : PV .str) : Option (PVs [.str] × PVs []) :=
  (f_internal_stringslite_HasSuffix t0 t1).bind fun r4 =>
    bif r4.1.1 then
      bif cutB 0 (IntKind.wrap .i64 ((t0.length : Int) - (t1.length : Int))) t0.length then
        some (((cutL 0 (IntKind.wrap .i64 ((t0.length : Int) - (t1.length : Int))) t0), ()), ())
      else
        none
    else
      some ((t0, ()), ())
noncomputable def ct_internal_stringslite_TrimSuffix : Ct := ⟨[(.bor, .str), (.bor, .str)], [(.str, .b)], fun x => f_internal_stringslite_TrimSuffix x.1 x.2.1⟩
noncomputable def cx_internal_stringslite_TrimSuffix : Cx := ⟨tab, arrs, [(193, ct_internal_stringslite_HasSuffix)], [], gl, []⟩
theorem ef_internal_stringslite_TrimSuffix (t0 : PV .str) (t1 : PV .str) : denF cx_internal_stringslite_TrimSuffix 0 pl_internal_stringslite_TrimSuffix Tryd.f161.ntmps (bodyOf Tryd.f161) Tryd.f161.results.toList [(.bor, .str), (.bor, .str)] [(.str, .b)] (t0, t1, ()) = f_internal_stringslite_TrimSuffix t0 t1 := by kernel_rfl
theorem ok_internal_stringslite_TrimSuffix : FnOk gl Tryd.prog 161 ct_internal_stringslite_TrimSuffix :=
  fnOk (cx := cx_internal_stringslite_TrimSuffix) (pl := pl_internal_stringslite_TrimSuffix) (dp := 0) (ok0_of tabOk (by unfold ArrOk; kernel_rfl) mix ⟨ok_internal_stringslite_HasSuffix, trivial⟩ trivial) Tryd.func161 (by kernel_rfl) (by kernel_rfl) (by kernel_rfl)
    (by rw [show loopsOf (bodyOf Tryd.f161) = [] from by kernel_rfl]; exact trivial) (fun x => ef_internal_stringslite_TrimSuffix x.1 x.2.1)
noncomputable def pl_strings_TrimSuffix : Plan := ⟨[], [], 0, 0⟩
noncomputable def f_strings_TrimSuffix (t0 : PV .str) (t1 : PV .str) : Option (PVs [.str] × PVs []) :=
  (f_internal_stringslite_TrimSuffix t0 t1).bind fun r1 =>
    some ((r1.1.1, ()), ())
noncomputable def ct_strings_TrimSuffix : Ct := ⟨[(.bor, .str), (.bor, .str)], [(.str, .b)], fun x => f_strings_TrimSuffix x.1 x.2.1⟩
noncomputable def cx_strings_TrimSuffix : Cx := ⟨tab, arrs, [(161, ct_internal_stringslite_TrimSuffix)], [], gl, []⟩
theorem ef_strings_TrimSuffix (t0 : PV .str) (t1 : PV .str) : denF cx_strings_TrimSuffix 0 pl_strings_TrimSuffix Tryd.f117.ntmps (bodyOf Tryd.f117) Tryd.f117.results.toList [(.bor, .str), (.bor, .str)] [(.str, .b)] (t0, t1, ()) = f_strings_TrimSuffix t0 t1 := by kernel_rfl
theorem ok_strings_TrimSuffix : FnOk gl Tryd.prog 117 ct_strings_TrimSuffix :=
  fnOk (cx := cx_strings_TrimSuffix) (pl := pl_strings_TrimSuffix) (dp := 0) (ok0_of tabOk (by unfold ArrOk; kernel_rfl) mix ⟨ok_internal_stringslite_TrimSuffix, trivial⟩ trivial) Tryd.func117 (by kernel_rfl) (by kernel_rfl) (by kernel_rfl)
    (by rw [show loopsOf (bodyOf Tryd.f117) = [] from by kernel_rfl]; exact trivial) (fun x => ef_strings_TrimSuffix x.1 x.2.1)
noncomputable def pl_I_plain : Plan := ⟨[], [], 0, 0⟩
noncomputable def f_I_plain (t0 : PV .str) : Option (PVs [.str] × PVs []) :=
  (f_strings_TrimSuffix t0 [10]).bind fun r1 =>
    some ((r1.1.1, ()), ())
noncomputable def ct_I_plain : Ct := ⟨[(.bor, .str)], [(.str, .b)], fun x => f_I_plain x.1⟩
noncomputable def cx_I_plain : Cx := ⟨tab, arrs, [(117, ct_strings_TrimSuffix)], [], gl, []⟩
theorem ef_I_plain (t0 : PV .str) : denF cx_I_plain 0 pl_I_plain Tryd.f72.ntmps (bodyOf Tryd.f72) Tryd.f72.results.toList [(.bor, .str)] [(.str, .b)] (t0, ()) = f_I_plain t0 := by kernel_rfl
theorem ok_I_plain : FnOk gl Tryd.prog 72 ct_I_plain :=
  fnOk (cx := cx_I_plain) (pl := pl_I_plain) (dp := 0) (ok0_of tabOk (by unfold ArrOk; kernel_rfl) mix ⟨ok_strings_TrimSuffix, trivial⟩ trivial) Tryd.func72 (by kernel_rfl) (by kernel_rfl) (by kernel_rfl)
    (by rw [show loopsOf (bodyOf Tryd.f72) = [] from by kernel_rfl]; exact trivial) (fun x => ef_I_plain x.1)
noncomputable def sh_I_SinceText_6 : List Sh := mkSh 42 [(4, .val S_int (.row .b)), (6, .val .str .b), (21, .val S_string .b), (22, .val (.int .i64) .b), (23, .val (.int .i64) .b)]
noncomputable def o_I_SinceText_6 : List Out := [⟨.exit 0, ⟨[], [6], []⟩, mkSh 42 [(6, .val .str .b)]⟩]
noncomputable def b_I_SinceText_6 (t4 : PV S_int) (t6 : PV .str) (t21 : PV S_string) (t22 : PV (.int .i64)) (t23 : PV (.int .i64)) : Option ((PV S_int × PV .str × PV S_string × PV (.int .i64) × PV (.int .i64) × Unit) ⊕ ((PV .str × Unit))) :=
  bif (decide (t23 < t22)) then
    bif inB t23 t21.length then
      bif inB t23 t4.length then
        (f_strconv_Itoa (t4.getD t23.toNat (0 : Int))).bind fun r5 =>
          bif decide (r5.1.1.length + [32].length ≤ 1099511627776) then
            (f_I_plain (t21.getD t23.toNat [])).bind fun r6 =>
              bif decide ((r5.1.1 ++ [32]).length + r6.1.1.length ≤ 1099511627776) then
                bif decide (((r5.1.1 ++ [32]) ++ r6.1.1).length + [10].length ≤ 1099511627776) then
                  bif decide (t6.length + (((r5.1.1 ++ [32]) ++ r6.1.1) ++ [10]).length ≤ 1099511627776) then
                    some (.inl (t4, (t6 ++ (((r5.1.1 ++ [32]) ++ r6.1.1) ++ [10])), t21, t22, (IntKind.wrap .i64 (t23 + 1)), ()))
                  else
                    none
                else
                  none
              else
                none
          else
            none
      else
        none
    else
      none
  else
    some (.inr (t6, ()))
noncomputable def w_I_SinceText_6 : PV S_int × PV .str × PV S_string × PV (.int .i64) × PV (.int .i64) × Unit → Option ((PV .str × Unit)) := fix fun d => b_I_SinceText_6 d.1 d.2.1 d.2.2.1 d.2.2.2.1 d.2.2.2.2.1
noncomputable def lp_I_SinceText_6 : Lp := ⟨⟨[], [4, 6, 21, 22, 23], []⟩, sh_I_SinceText_6, o_I_SinceText_6, fun d => b_I_SinceText_6 d.1 d.2.1 d.2.2.1 d.2.2.2.1 d.2.2.2.2.1⟩
noncomputable def pl_I_SinceText : Plan := ⟨[], [(6, lp_I_SinceText_6)], 0, 0⟩
noncomputable def f_I_SinceText (t0 : PV S_S_string) : Option (PVs [.str, .bool] × PVs []) :=
  (f_I_SinceOf t0).bind fun r2 =>
    bif (!r2.1.2.1) then
      some (([], false, ()), ())
    else
      bif inB (IntKind.wrap .i64 ((t0.length : Int) - 1)) t0.length then
        (w_I_SinceText_6 (r2.1.1, [], (t0.getD ((IntKind.wrap .i64 ((t0.length : Int) - 1)).toNat) []), ((t0.getD ((IntKind.wrap .i64 ((t0.length : Int) - 1)).toNat) []).length : Int), 0, ())).bind fun l8 =>
          some ((l8.1, true, ()), ())
      else
        none
noncomputable def ct_I_SinceText : Ct := ⟨[(.bor, S_S_string)], [(.str, .b), (.bool, .b)], fun x => f_I_SinceText x.1⟩
noncomputable def cx_I_SinceText : Cx := ⟨tab, arrs, [(30, ct_I_SinceOf), (71, ct_strconv_Itoa), (72, ct_I_plain)], [], gl, []⟩
theorem eb_I_SinceText_6 (t4 : PV S_int) (t6 : PV .str) (t21 : PV S_string) (t22 : PV (.int .i64)) (t23 : PV (.int .i64)) : denK cx_I_SinceText (rcN cx_I_SinceText 0) pl_I_SinceText 0 ((loopsOf (bodyOf Tryd.f24)).getD 0 .skip) (fillS sh_I_SinceText_6 (t4, t6, t21, t22, t23, ())) (roundK 0 lp_I_SinceText_6) = b_I_SinceText_6 t4 t6 t21 t22 t23 := by kernel_rfl
theorem ef_I_SinceText (t0 : PV S_S_string) : denF cx_I_SinceText 0 pl_I_SinceText Tryd.f24.ntmps (bodyOf Tryd.f24) Tryd.f24.results.toList [(.bor, S_S_string)] [(.str, .b), (.bool, .b)] (t0, ()) = f_I_SinceText t0 := by kernel_rfl
theorem ok_I_SinceText : FnOk gl Tryd.prog 24 ct_I_SinceText :=
  fnOk (cx := cx_I_SinceText) (pl := pl_I_SinceText) (dp := 0) (ok0_of tabOk (by unfold ArrOk; kernel_rfl) mix ⟨ok_I_SinceOf, ok_strconv_Itoa, ok_I_plain, trivial⟩ trivial) Tryd.func24 (by kernel_rfl) (by kernel_rfl) (by kernel_rfl)
    (by rw [show loopsOf (bodyOf Tryd.f24) = [((loopsOf (bodyOf Tryd.f24)).getD 0 .skip)] from by kernel_rfl]; exact ⟨(by rw [show lookup pl_I_SinceText.loops (firstId ((loopsOf (bodyOf Tryd.f24)).getD 0 .skip)) = some lp_I_SinceText_6 from by kernel_rfl]; exact fun d z h => (eb_I_SinceText_6 d.1 d.2.1 d.2.2.1 d.2.2.2.1 d.2.2.2.2.1).trans h), trivial⟩) (fun x => ef_I_SinceText x.1)
noncomputable def fr_S_l1Num (ih : PV (.int .i64) → Option (PVs [.str] × PVs [])) (t0 : PV (.int .i64)) : Option (PVs [.str] × PVs []) :=
  bif (decide (t0 < 10)) then
    some (((bytesOfInts [(IntKind.wrap .u8 (IntKind.wrap .i64 (48 + t0)))]), ()), ())
  else
    bif 10 == 0 then
      none
    else
      (ih (IntKind.wrap .i64 (t0.tdiv 10))).bind fun r1 =>
        bif 10 == 0 then
          none
        else
          bif decide (r1.1.1.length + (bytesOfInts [(IntKind.wrap .u8 (IntKind.wrap .i64 (48 + (t0.tmod 10))))]).length ≤ 1099511627776) then
            some (((r1.1.1 ++ (bytesOfInts [(IntKind.wrap .u8 (IntKind.wrap .i64 (48 + (t0.tmod 10))))])), ()), ())
          else
            none
noncomputable def fn_S_l1Num : Nat → PV (.int .i64) → Option (PVs [.str] × PVs []) := fun n => Nat.rec (motive := fun _ => PV (.int .i64) → Option (PVs [.str] × PVs [])) (fun _ => none) (fun _ ih => fr_S_l1Num ih) n
noncomputable def f_S_l1Num (t0 : PV (.int .i64)) : Option (PVs [.str] × PVs []) := fn_S_l1Num (t0.toNat + 1) t0
noncomputable def ct_S_l1Num : Ct := ⟨[(.bor, (.int .i64))], [(.str, .b)], fun x => f_S_l1Num x.1⟩
noncomputable def ctn_S_l1Num (n : Nat) : Ct := ⟨[(.bor, (.int .i64))], [(.str, .b)], fun x => fn_S_l1Num n x.1⟩
noncomputable def cxn_S_l1Num (n : Nat) : Cx := ⟨tab, arrs, [(69, ctn_S_l1Num n)], [], gl, []⟩
noncomputable def pl_S_l1Num : Plan := ⟨[], [], 0, 0⟩
theorem efn_S_l1Num (n : Nat) (t0 : PV (.int .i64)) : denF (cxn_S_l1Num n) 0 pl_S_l1Num Tryd.f69.ntmps (bodyOf Tryd.f69) Tryd.f69.results.toList [(.bor, (.int .i64))] [(.str, .b)] (t0, ()) = fr_S_l1Num (fn_S_l1Num n) t0 := by kernel_rfl
theorem okn_S_l1Num : ∀ n, FnOk gl Tryd.prog 69 (ctn_S_l1Num n)
  | 0 => fnOk_none (by kernel_rfl)
  | n + 1 => fnOk (cx := cxn_S_l1Num n) (pl := pl_S_l1Num) (dp := 0) (ct := ctn_S_l1Num (n + 1)) (ok0_of tabOk (by unfold ArrOk; kernel_rfl) mix ⟨okn_S_l1Num n, trivial⟩ trivial) Tryd.func69 (by kernel_rfl) (by kernel_rfl) (by kernel_rfl)
    (by rw [show loopsOf (bodyOf Tryd.f69) = [] from by kernel_rfl]; exact trivial) (fun x => efn_S_l1Num n x.1)
theorem ok_S_l1Num : FnOk gl Tryd.prog 69 ct_S_l1Num := fnOk_fuel (pars := [(.bor, (.int .i64))]) (rets := [(.str, .b)]) (Fs := fun n x => fn_S_l1Num n x.1) (N := fun x => x.1.toNat + 1) okn_S_l1Num
noncomputable def sh_S_SinceText_5 : List Sh := mkSh 37 [(0, .val S_S_string .b), (4, .val .str .b), (11, .val S_int (.row .b)), (12, .val (.int .i64) .b), (13, .val (.int .i64) .b)]
noncomputable def o_S_SinceText_5 : List Out := [⟨.exit 0, ⟨[], [4], []⟩, mkSh 37 [(4, .val .str .b)]⟩]
noncomputable def b_S_SinceText_5 (t0 : PV S_S_string) (t4 : PV .str) (t11 : PV S_int) (t12 : PV (.int .i64)) (t13 : PV (.int .i64)) : Option ((PV S_S_string × PV .str × PV S_int × PV (.int .i64) × PV (.int .i64) × Unit) ⊕ ((PV .str × Unit))) :=
  bif (decide (t13 < t12)) then
    bif inB t13 t11.length then
      (f_S_l1Num (t11.getD t13.toNat (0 : Int))).bind fun r9 =>
        bif decide (r9.1.1.length + [32].length ≤ 1099511627776) then
          bif inB (IntKind.wrap .i64 ((t0.length : Int) - 1)) t0.length then
            bif inB t13 (t0.getD ((IntKind.wrap .i64 ((t0.length : Int) - 1)).toNat) []).length then
              (f_S_l1Plain ((t0.getD ((IntKind.wrap .i64 ((t0.length : Int) - 1)).toNat) []).getD t13.toNat [])).bind fun r10 =>
                bif decide ((r9.1.1 ++ [32]).length + r10.1.1.length ≤ 1099511627776) then
                  bif decide (((r9.1.1 ++ [32]) ++ r10.1.1).length + [10].length ≤ 1099511627776) then
                    bif decide (t4.length + (((r9.1.1 ++ [32]) ++ r10.1.1) ++ [10]).length ≤ 1099511627776) then
                      some (.inl (t0, (t4 ++ (((r9.1.1 ++ [32]) ++ r10.1.1) ++ [10])), t11, t12, (IntKind.wrap .i64 (t13 + 1)), ()))
                    else
                      none
                  else
                    none
                else
                  none
            else
              none
          else
            none
        else
          none
    else
      none
  else
    some (.inr (t4, ()))
noncomputable def w_S_SinceText_5 : PV S_S_string × PV .str × PV S_int × PV (.int .i64) × PV (.int .i64) × Unit → Option ((PV .str × Unit)) := fix fun d => b_S_SinceText_5 d.1 d.2.1 d.2.2.1 d.2.2.2.1 d.2.2.2.2.1
noncomputable def lp_S_SinceText_5 : Lp := ⟨⟨[], [0, 4, 11, 12, 13], []⟩, sh_S_SinceText_5, o_S_SinceText_5, fun d => b_S_SinceText_5 d.1 d.2.1 d.2.2.1 d.2.2.2.1 d.2.2.2.2.1⟩
noncomputable def pl_S_SinceText : Plan := ⟨[], [(5, lp_S_SinceText_5)], 0, 0⟩
noncomputable def f_S_SinceText (t0 : PV S_S_string) : Option (PVs [.str, .bool] × PVs []) :=
  (f_S_l12Good t0).bind fun r4 =>
    bif (!r4.1.1) then
      some (([], false, ()), ())
    else
      (f_S_l12Since t0).bind fun r13 =>
        (w_S_SinceText_5 (t0, [], r13.1.1, (r13.1.1.length : Int), 0, ())).bind fun l14 =>
          some ((l14.1, true, ()), ())
noncomputable def ct_S_SinceText : Ct := ⟨[(.bor, S_S_string)], [(.str, .b), (.bool, .b)], fun x => f_S_SinceText x.1⟩
noncomputable def cx_S_SinceText : Cx := ⟨tab, arrs, [(67, ct_S_l12Good), (68, ct_S_l12Since), (69, ct_S_l1Num), (70, ct_S_l1Plain)], [], gl, []⟩
theorem eb_S_SinceText_5 (t0 : PV S_S_string) (t4 : PV .str) (t11 : PV S_int) (t12 : PV (.int .i64)) (t13 : PV (.int .i64)) : denK cx_S_SinceText (rcN cx_S_SinceText 0) pl_S_SinceText 0 ((loopsOf (bodyOf Tryd.f22)).getD 0 .skip) (fillS sh_S_SinceText_5 (t0, t4, t11, t12, t13, ())) (roundK 0 lp_S_SinceText_5) = b_S_SinceText_5 t0 t4 t11 t12 t13 := by kernel_rfl
theorem ef_S_SinceText (t0 : PV S_S_string) : denF cx_S_SinceText 0 pl_S_SinceText Tryd.f22.ntmps (bodyOf Tryd.f22) Tryd.f22.results.toList [(.bor, S_S_string)] [(.str, .b), (.bool, .b)] (t0, ()) = f_S_SinceText t0 := by kernel_rfl
theorem ok_S_SinceText : FnOk gl Tryd.prog 22 ct_S_SinceText :=
  fnOk (cx := cx_S_SinceText) (pl := pl_S_SinceText) (dp := 0) (ok0_of tabOk (by unfold ArrOk; kernel_rfl) mix ⟨ok_S_l12Good, ok_S_l12Since, ok_S_l1Num, ok_S_l1Plain, trivial⟩ trivial) Tryd.func22 (by kernel_rfl) (by kernel_rfl) (by kernel_rfl)
    (by rw [show loopsOf (bodyOf Tryd.f22) = [((loopsOf (bodyOf Tryd.f22)).getD 0 .skip)] from by kernel_rfl]; exact ⟨(by rw [show lookup pl_S_SinceText.loops (firstId ((loopsOf (bodyOf Tryd.f22)).getD 0 .skip)) = some lp_S_SinceText_5 from by kernel_rfl]; exact fun d z h => (eb_S_SinceText_5 d.1 d.2.1 d.2.2.1 d.2.2.2.1 d.2.2.2.2.1).trans h), trivial⟩) (fun x => ef_S_SinceText x.1)
noncomputable def o_L_FnSince_9 : List Out := [⟨.normal, ⟨[], [1, 5, 6, 7, 10, 79, 82, 83, 84, 98, 99, 100, 101, 102, 141, 142, 143, 144, 145, 146, 147, 150, 151, 152, 155, 156, 157, 169, 170, 171, 172, 173, 174, 175, 176, 177, 180, 181, 182, 183, 184, 185, 186, 187, 188, 189, 190, 191, 192, 193, 194, 195, 196, 221, 222, 223], []⟩, mkSh 225 [(1, .val S_uint8 .b), (5, .val S_S_string .b), (6, .val S_int (.row .b)), (7, .val .bool .b), (10, .val S_S_int .b), (79, .val .bool .b)]⟩]
noncomputable def o_L_FnSince_11 : List Out := [⟨.normal, ⟨[], [1, 5, 6, 10, 85, 98, 99, 100, 101, 102, 141, 142, 143, 144, 145, 146, 147, 150, 151, 152, 155, 156, 157, 169, 170, 171, 172, 173, 174, 175, 176, 177, 180, 181, 182, 183, 184, 185, 186, 187, 188, 189, 190, 191, 192, 193, 194, 195, 196, 221, 222, 223], []⟩, mkSh 225 [(1, .val S_uint8 .b), (5, .val S_S_string .b), (6, .val S_int (.row .b)), (10, .val S_S_int .b), (85, .val .bool .b)]⟩]
noncomputable def o_L_FnSince_13 : List Out := [⟨.normal, ⟨[], [1, 5, 6, 10, 14, 103, 141, 142, 143, 144, 145, 146, 147, 150, 151, 152, 155, 156, 157, 169, 170, 171, 172, 173, 174, 175, 176, 177, 180, 181, 182, 183, 184, 185, 186, 187, 188, 189, 190, 191, 192, 193, 194, 195, 196, 221, 222, 223], []⟩, mkSh 225 [(1, .val S_uint8 .b), (5, .val S_S_string .b), (6, .val S_int (.row .b)), (10, .val S_S_int .b), (14, .val (.int .i64) .b), (103, .val .bool .b)]⟩]
noncomputable def o_L_FnSince_27 : List Out := [⟨.normal, ⟨[], [1, 5, 6, 10, 14, 15, 16, 19, 21, 105, 106, 124, 125, 126, 158, 169, 170, 171, 172, 173, 174, 175, 176, 177, 180, 181, 182, 183, 184, 185, 186, 187, 188, 189, 190, 191, 192, 193, 194, 195, 196, 221, 222, 223], []⟩, mkSh 225 [(1, .val S_uint8 .b), (5, .val S_S_string .b), (6, .val S_int (.row .b)), (10, .val S_S_int .b), (14, .val (.int .i64) .b), (15, .val (.int .i64) .b), (16, .val (.int .i64) .b), (19, .val (.int .i64) .b), (21, .val S_int .b), (105, .val (.int .i64) .b), (106, .val (.int .i64) .b), (124, .val S_int .b), (125, .val (.int .i64) .b), (126, .val (.int .i64) .b), (158, .val .bool .b)]⟩]
noncomputable def o_L_FnSince_32 : List Out := [⟨.normal, ⟨[], [1, 5, 6, 10, 14, 15, 16, 19, 105, 106, 124, 125, 126, 141, 142, 143, 144, 145, 146, 147, 150, 151, 152, 155, 156, 157, 159, 160, 161, 197, 221, 222, 223], []⟩, mkSh 225 [(1, .val S_uint8 .b), (5, .val S_S_string .b), (6, .val S_int (.row .b)), (10, .val S_S_int .b), (14, .val (.int .i64) .b), (15, .val (.int .i64) .b), (16, .val (.int .i64) .b), (19, .val (.int .i64) .b), (105, .val (.int .i64) .b), (106, .val (.int .i64) .b), (124, .val S_int .b), (125, .val (.int .i64) .b), (126, .val (.int .i64) .b), (159, .val S_int .b), (160, .val (.int .i64) .b), (161, .val (.int .i64) .b), (197, .val .bool .b)]⟩]
noncomputable def o_L_FnSince_38 : List Out := [⟨.normal, ⟨[], [1, 221, 222, 223], []⟩, mkSh 225 [(1, .val S_uint8 .b)]⟩, ⟨.ret, ⟨[], [4], []⟩, mkSh 225 [(4, .val .bool .b)]⟩]
noncomputable def sh_L_FnSince_29 : List Sh := mkSh 225 [(1, .val S_uint8 .b), (5, .val S_S_string .b), (6, .val S_int (.row .b)), (10, .val S_S_int .b), (14, .val (.int .i64) .b), (15, .val (.int .i64) .b), (16, .val (.int .i64) .b), (19, .val (.int .i64) .b), (105, .val (.int .i64) .b), (106, .val (.int .i64) .b), (124, .val S_int .b), (125, .val (.int .i64) .b), (126, .val (.int .i64) .b), (159, .val S_int .b), (160, .val (.int .i64) .b), (161, .val (.int .i64) .b)]
noncomputable def o_L_FnSince_29 : List Out := [⟨.exit 4, ⟨[], [1, 5, 6, 10, 14, 15, 16, 105, 106, 124, 125, 126, 141, 142, 143, 144, 145, 146, 147, 150, 151, 152, 155, 156, 157, 169, 170, 171, 172, 173, 174, 175, 176, 177, 180, 181, 182, 183, 184, 185, 186, 187, 188, 189, 190, 191, 192, 193, 194, 195, 196, 221, 222, 223], []⟩, mkSh 225 [(1, .val S_uint8 .b), (5, .val S_S_string .b), (6, .val S_int (.row .b)), (10, .val S_S_int .b), (14, .val (.int .i64) .b), (15, .val (.int .i64) .b), (16, .val (.int .i64) .b), (105, .val (.int .i64) .b), (106, .val (.int .i64) .b), (124, .val S_int .b), (125, .val (.int .i64) .b), (126, .val (.int .i64) .b)]⟩, ⟨.ret, ⟨[], [4], []⟩, mkSh 225 [(4, .val .bool .b)]⟩]
noncomputable def b_L_FnSince_29 (t1 : PV S_uint8) (t5 : PV S_S_string) (t6 : PV S_int) (t10 : PV S_S_int) (t14 : PV (.int .i64)) (t15 : PV (.int .i64)) (t16 : PV (.int .i64)) (t19 : PV (.int .i64)) (t105 : PV (.int .i64)) (t106 : PV (.int .i64)) (t124 : PV S_int) (t125 : PV (.int .i64)) (t126 : PV (.int .i64)) (t159 : PV S_int) (t160 : PV (.int .i64)) (t161 : PV (.int .i64)) : Option ((PV S_uint8 × PV S_S_string × PV S_int × PV S_S_int × PV (.int .i64) × PV (.int .i64) × PV (.int .i64) × PV (.int .i64) × PV (.int .i64) × PV (.int .i64) × PV S_int × PV (.int .i64) × PV (.int .i64) × PV S_int × PV (.int .i64) × PV (.int .i64) × Unit) ⊕ ((PV S_uint8 × PV S_S_string × PV S_int × PV S_S_int × PV (.int .i64) × PV (.int .i64) × PV (.int .i64) × PV (.int .i64) × PV (.int .i64) × PV S_int × PV (.int .i64) × PV (.int .i64) × Unit) ⊕ (PV .bool × Unit))) :=
  bif (decide (t161 < t160)) then
    bif inB t161 t159.length then
      ((
          bif (decide ((t159.getD t161.toNat (0 : Int)) < 0)) then
            some (t1, t5, t6, t10, t14, t15, t16, t19, t105, t106, t124, t125, t126, t159, t160, t161, true, ())
          else
            bif inB (IntKind.wrap .i64 (t16 + t161)) t5.length then
              bif (decide ((t159.getD t161.toNat (0 : Int)) ≥ ((t5.getD ((IntKind.wrap .i64 (t16 + t161)).toNat) []).length : Int))) then
                some (t1, t5, t6, t10, t14, t15, t16, t19, t105, t106, t124, t125, t126, t159, t160, t161, true, ())
              else
                bif inB (IntKind.wrap .i64 (t16 + t161)) t5.length then
                  bif inB (t159.getD t161.toNat (0 : Int)) (t5.getD ((IntKind.wrap .i64 (t16 + t161)).toNat) []).length then
                    bif inB t16 t5.length then
                      bif inB t19 (t5.getD t16.toNat []).length then
                        some (t1, t5, t6, t10, t14, t15, t16, t19, t105, t106, t124, t125, t126, t159, t160, t161, (!(((t5.getD ((IntKind.wrap .i64 (t16 + t161)).toNat) []).getD ((t159.getD t161.toNat (0 : Int)).toNat) []) == ((t5.getD t16.toNat []).getD t19.toNat []))), ())
                      else
                        none
                    else
                      none
                  else
                    none
                else
                  none
            else
              none : Option ((PV S_uint8 × PV S_S_string × PV S_int × PV S_S_int × PV (.int .i64) × PV (.int .i64) × PV (.int .i64) × PV (.int .i64) × PV (.int .i64) × PV (.int .i64) × PV S_int × PV (.int .i64) × PV (.int .i64) × PV S_int × PV (.int .i64) × PV (.int .i64) × PV .bool × Unit)))).bind fun j33 =>
        bif j33.2.2.2.2.2.2.2.2.2.2.2.2.2.2.2.2.1 then
          some (.inr (.inr (false, ())))
        else
          some (.inl (j33.1, j33.2.1, j33.2.2.1, j33.2.2.2.1, j33.2.2.2.2.1, j33.2.2.2.2.2.1, j33.2.2.2.2.2.2.1, j33.2.2.2.2.2.2.2.1, j33.2.2.2.2.2.2.2.2.1, j33.2.2.2.2.2.2.2.2.2.1, j33.2.2.2.2.2.2.2.2.2.2.1, j33.2.2.2.2.2.2.2.2.2.2.2.1, j33.2.2.2.2.2.2.2.2.2.2.2.2.1, j33.2.2.2.2.2.2.2.2.2.2.2.2.2.1, j33.2.2.2.2.2.2.2.2.2.2.2.2.2.2.1, (IntKind.wrap .i64 (j33.2.2.2.2.2.2.2.2.2.2.2.2.2.2.2.1 + 1)), ()))
    else
      none
  else
    some (.inr (.inl (t1, t5, t6, t10, t14, t15, t16, t105, t106, t124, t125, t126, ())))
noncomputable def w_L_FnSince_29 : PV S_uint8 × PV S_S_string × PV S_int × PV S_S_int × PV (.int .i64) × PV (.int .i64) × PV (.int .i64) × PV (.int .i64) × PV (.int .i64) × PV (.int .i64) × PV S_int × PV (.int .i64) × PV (.int .i64) × PV S_int × PV (.int .i64) × PV (.int .i64) × Unit → Option ((PV S_uint8 × PV S_S_string × PV S_int × PV S_S_int × PV (.int .i64) × PV (.int .i64) × PV (.int .i64) × PV (.int .i64) × PV (.int .i64) × PV S_int × PV (.int .i64) × PV (.int .i64) × Unit) ⊕ (PV .bool × Unit)) := fix fun d => b_L_FnSince_29 d.1 d.2.1 d.2.2.1 d.2.2.2.1 d.2.2.2.2.1 d.2.2.2.2.2.1 d.2.2.2.2.2.2.1 d.2.2.2.2.2.2.2.1 d.2.2.2.2.2.2.2.2.1 d.2.2.2.2.2.2.2.2.2.1 d.2.2.2.2.2.2.2.2.2.2.1 d.2.2.2.2.2.2.2.2.2.2.2.1 d.2.2.2.2.2.2.2.2.2.2.2.2.1 d.2.2.2.2.2.2.2.2.2.2.2.2.2.1 d.2.2.2.2.2.2.2.2.2.2.2.2.2.2.1 d.2.2.2.2.2.2.2.2.2.2.2.2.2.2.2.1
noncomputable def lp_L_FnSince_29 : Lp := ⟨⟨[], [1, 5, 6, 10, 14, 15, 16, 19, 105, 106, 124, 125, 126, 141, 142, 143, 144, 145, 146, 147, 150, 151, 152, 155, 156, 157, 159, 160, 161, 169, 170, 171, 172, 173, 174, 175, 176, 177, 180, 181, 182, 183, 184, 185, 186, 187, 188, 189, 190, 191, 192, 193, 194, 195, 196, 221, 222, 223], []⟩, sh_L_FnSince_29, o_L_FnSince_29, fun d => b_L_FnSince_29 d.1 d.2.1 d.2.2.1 d.2.2.2.1 d.2.2.2.2.1 d.2.2.2.2.2.1 d.2.2.2.2.2.2.1 d.2.2.2.2.2.2.2.1 d.2.2.2.2.2.2.2.2.1 d.2.2.2.2.2.2.2.2.2.1 d.2.2.2.2.2.2.2.2.2.2.1 d.2.2.2.2.2.2.2.2.2.2.2.1 d.2.2.2.2.2.2.2.2.2.2.2.2.1 d.2.2.2.2.2.2.2.2.2.2.2.2.2.1 d.2.2.2.2.2.2.2.2.2.2.2.2.2.2.1 d.2.2.2.2.2.2.2.2.2.2.2.2.2.2.2.1⟩
noncomputable def sh_L_FnSince_23 : List Sh := mkSh 225 [(1, .val S_uint8 .b), (5, .val S_S_string .b), (6, .val S_int (.row .b)), (10, .val S_S_int .b), (14, .val (.int .i64) .b), (15, .val (.int .i64) .b), (16, .val (.int .i64) .b), (105, .val (.int .i64) .b), (106, .val (.int .i64) .b), (124, .val S_int .b), (125, .val (.int .i64) .b), (126, .val (.int .i64) .b)]
noncomputable def o_L_FnSince_23 : List Out := [⟨.exit 2, ⟨[], [1, 5, 6, 10, 14, 15, 105, 106, 141, 142, 143, 144, 145, 146, 147, 150, 151, 152, 155, 156, 157, 169, 170, 171, 172, 173, 174, 175, 176, 177, 180, 181, 182, 183, 184, 185, 186, 187, 188, 189, 190, 191, 192, 193, 194, 195, 196, 221, 222, 223], []⟩, mkSh 225 [(1, .val S_uint8 .b), (5, .val S_S_string .b), (6, .val S_int (.row .b)), (10, .val S_S_int .b), (14, .val (.int .i64) .b), (15, .val (.int .i64) .b), (105, .val (.int .i64) .b), (106, .val (.int .i64) .b)]⟩, ⟨.ret, ⟨[], [4], []⟩, mkSh 225 [(4, .val .bool .b)]⟩]
noncomputable def b_L_FnSince_23 (t1 : PV S_uint8) (t5 : PV S_S_string) (t6 : PV S_int) (t10 : PV S_S_int) (t14 : PV (.int .i64)) (t15 : PV (.int .i64)) (t16 : PV (.int .i64)) (t105 : PV (.int .i64)) (t106 : PV (.int .i64)) (t124 : PV S_int) (t125 : PV (.int .i64)) (t126 : PV (.int .i64)) : Option ((PV S_uint8 × PV S_S_string × PV S_int × PV S_S_int × PV (.int .i64) × PV (.int .i64) × PV (.int .i64) × PV (.int .i64) × PV (.int .i64) × PV S_int × PV (.int .i64) × PV (.int .i64) × Unit) ⊕ ((PV S_uint8 × PV S_S_string × PV S_int × PV S_S_int × PV (.int .i64) × PV (.int .i64) × PV (.int .i64) × PV (.int .i64) × Unit) ⊕ (PV .bool × Unit))) :=
  bif (decide (t126 < t125)) then
    bif inB t126 t124.length then
      (f_I_TraceLine t5 t16 t126).bind fun r35 =>
        ((
            bif (!r35.1.2.1) then
              some (t1, t5, t6, t10, t14, t15, t16, t126, r35.1.1, t105, t106, t124, t125, t126, true, ())
            else
              bif (!((r35.1.1.length : Int) == (IntKind.wrap .i64 ((IntKind.wrap .i64 ((t124.getD t126.toNat (0 : Int)) - t16)) + 1)))) then
                some (t1, t5, t6, t10, t14, t15, t16, t126, r35.1.1, t105, t106, t124, t125, t126, true, ())
              else
                bif (decide ((t124.getD t126.toNat (0 : Int)) < t16)) then
                  some (t1, t5, t6, t10, t14, t15, t16, t126, r35.1.1, t105, t106, t124, t125, t126, true, ())
                else
                  some (t1, t5, t6, t10, t14, t15, t16, t126, r35.1.1, t105, t106, t124, t125, t126, (decide ((t124.getD t126.toNat (0 : Int)) > t14)), ()) : Option ((PV S_uint8 × PV S_S_string × PV S_int × PV S_S_int × PV (.int .i64) × PV (.int .i64) × PV (.int .i64) × PV (.int .i64) × PV S_int × PV (.int .i64) × PV (.int .i64) × PV S_int × PV (.int .i64) × PV (.int .i64) × PV .bool × Unit)))).bind fun j37 =>
          bif j37.2.2.2.2.2.2.2.2.2.2.2.2.2.2.1 then
            some (.inr (.inr (false, ())))
          else
            (w_L_FnSince_29 (j37.1, j37.2.1, j37.2.2.1, j37.2.2.2.1, j37.2.2.2.2.1, j37.2.2.2.2.2.1, j37.2.2.2.2.2.2.1, j37.2.2.2.2.2.2.2.1, j37.2.2.2.2.2.2.2.2.2.1, j37.2.2.2.2.2.2.2.2.2.2.1, j37.2.2.2.2.2.2.2.2.2.2.2.1, j37.2.2.2.2.2.2.2.2.2.2.2.2.1, j37.2.2.2.2.2.2.2.2.2.2.2.2.2.1, j37.2.2.2.2.2.2.2.2.1, (j37.2.2.2.2.2.2.2.2.1.length : Int), 0, ())).bind fun x53 =>
              match x53 with
              | .inl l38 =>
                some (.inl (l38.1, l38.2.1, l38.2.2.1, l38.2.2.2.1, l38.2.2.2.2.1, l38.2.2.2.2.2.1, l38.2.2.2.2.2.2.1, l38.2.2.2.2.2.2.2.1, l38.2.2.2.2.2.2.2.2.1, l38.2.2.2.2.2.2.2.2.2.1, l38.2.2.2.2.2.2.2.2.2.2.1, (IntKind.wrap .i64 (l38.2.2.2.2.2.2.2.2.2.2.2.1 + 1)), ()))
              | .inr l39 =>
                some (.inr (.inr (l39.1, ())))
    else
      none
  else
    some (.inr (.inl (t1, t5, t6, t10, t14, t15, t105, t106, ())))
noncomputable def w_L_FnSince_23 : PV S_uint8 × PV S_S_string × PV S_int × PV S_S_int × PV (.int .i64) × PV (.int .i64) × PV (.int .i64) × PV (.int .i64) × PV (.int .i64) × PV S_int × PV (.int .i64) × PV (.int .i64) × Unit → Option ((PV S_uint8 × PV S_S_string × PV S_int × PV S_S_int × PV (.int .i64) × PV (.int .i64) × PV (.int .i64) × PV (.int .i64) × Unit) ⊕ (PV .bool × Unit)) := fix fun d => b_L_FnSince_23 d.1 d.2.1 d.2.2.1 d.2.2.2.1 d.2.2.2.2.1 d.2.2.2.2.2.1 d.2.2.2.2.2.2.1 d.2.2.2.2.2.2.2.1 d.2.2.2.2.2.2.2.2.1 d.2.2.2.2.2.2.2.2.2.1 d.2.2.2.2.2.2.2.2.2.2.1 d.2.2.2.2.2.2.2.2.2.2.2.1
noncomputable def lp_L_FnSince_23 : Lp := ⟨⟨[], [1, 5, 6, 10, 14, 15, 16, 105, 106, 124, 125, 126, 141, 142, 143, 144, 145, 146, 147, 150, 151, 152, 155, 156, 157, 169, 170, 171, 172, 173, 174, 175, 176, 177, 180, 181, 182, 183, 184, 185, 186, 187, 188, 189, 190, 191, 192, 193, 194, 195, 196, 221, 222, 223], []⟩, sh_L_FnSince_23, o_L_FnSince_23, fun d => b_L_FnSince_23 d.1 d.2.1 d.2.2.1 d.2.2.2.1 d.2.2.2.2.1 d.2.2.2.2.2.1 d.2.2.2.2.2.2.1 d.2.2.2.2.2.2.2.1 d.2.2.2.2.2.2.2.2.1 d.2.2.2.2.2.2.2.2.2.1 d.2.2.2.2.2.2.2.2.2.2.1 d.2.2.2.2.2.2.2.2.2.2.2.1⟩
noncomputable def sh_L_FnSince_16 : List Sh := mkSh 225 [(1, .val S_uint8 .b), (5, .val S_S_string .b), (6, .val S_int (.row .b)), (10, .val S_S_int .b), (14, .val (.int .i64) .b), (15, .val (.int .i64) .b), (105, .val (.int .i64) .b), (106, .val (.int .i64) .b)]
noncomputable def o_L_FnSince_16 : List Out := [⟨.exit 0, ⟨[], [1, 6, 15, 221, 222, 223], []⟩, mkSh 225 [(1, .val S_uint8 .b), (6, .val S_int (.row .b)), (15, .val (.int .i64) .b)]⟩, ⟨.ret, ⟨[], [4], []⟩, mkSh 225 [(4, .val .bool .b)]⟩]
noncomputable def b_L_FnSince_16 (t1 : PV S_uint8) (t5 : PV S_S_string) (t6 : PV S_int) (t10 : PV S_S_int) (t14 : PV (.int .i64)) (t15 : PV (.int .i64)) (t105 : PV (.int .i64)) (t106 : PV (.int .i64)) : Option ((PV S_uint8 × PV S_S_string × PV S_int × PV S_S_int × PV (.int .i64) × PV (.int .i64) × PV (.int .i64) × PV (.int .i64) × Unit) ⊕ ((PV S_uint8 × PV S_int × PV (.int .i64) × Unit) ⊕ (PV .bool × Unit))) :=
  bif (decide (t106 < t105)) then
    (f_I_LinesSince t5 t106).bind fun r31 =>
      bif (!r31.1.2.1) then
        some (.inr (.inr (false, ())))
      else
        bif inB t106 t10.length then
          (w_L_FnSince_23 (t1, t5, t6, t10, t14, (IntKind.wrap .i64 (t15 + (r31.1.1.length : Int))), t106, t105, t106, (t10.getD t106.toNat []), ((t10.getD t106.toNat []).length : Int), 0, ())).bind fun x54 =>
            match x54 with
            | .inl l32 =>
              some (.inl (l32.1, l32.2.1, l32.2.2.1, l32.2.2.2.1, l32.2.2.2.2.1, l32.2.2.2.2.2.1, l32.2.2.2.2.2.2.1, (IntKind.wrap .i64 (l32.2.2.2.2.2.2.2.1 + 1)), ()))
            | .inr l33 =>
              some (.inr (.inr (l33.1, ())))
        else
          none
  else
    some (.inr (.inl (t1, t6, t15, ())))
noncomputable def w_L_FnSince_16 : PV S_uint8 × PV S_S_string × PV S_int × PV S_S_int × PV (.int .i64) × PV (.int .i64) × PV (.int .i64) × PV (.int .i64) × Unit → Option ((PV S_uint8 × PV S_int × PV (.int .i64) × Unit) ⊕ (PV .bool × Unit)) := fix fun d => b_L_FnSince_16 d.1 d.2.1 d.2.2.1 d.2.2.2.1 d.2.2.2.2.1 d.2.2.2.2.2.1 d.2.2.2.2.2.2.1 d.2.2.2.2.2.2.2.1
noncomputable def lp_L_FnSince_16 : Lp := ⟨⟨[], [1, 5, 6, 10, 14, 15, 105, 106, 141, 142, 143, 144, 145, 146, 147, 150, 151, 152, 155, 156, 157, 169, 170, 171, 172, 173, 174, 175, 176, 177, 180, 181, 182, 183, 184, 185, 186, 187, 188, 189, 190, 191, 192, 193, 194, 195, 196, 221, 222, 223], []⟩, sh_L_FnSince_16, o_L_FnSince_16, fun d => b_L_FnSince_16 d.1 d.2.1 d.2.2.1 d.2.2.2.1 d.2.2.2.2.1 d.2.2.2.2.2.1 d.2.2.2.2.2.2.1 d.2.2.2.2.2.2.2.1⟩
noncomputable def pl_L_FnSince : Plan := ⟨[(9, o_L_FnSince_9), (11, o_L_FnSince_11), (13, o_L_FnSince_13), (27, o_L_FnSince_27), (32, o_L_FnSince_32), (38, o_L_FnSince_38)], [(29, lp_L_FnSince_29), (23, lp_L_FnSince_23), (16, lp_L_FnSince_16)], 0, 0⟩
noncomputable def f_L_FnSince (t0 : PV S_uint8) (t1 : PV S_uint8) : Option (PVs [.bool] × PVs []) :=
  (f_L_big t0 t1).bind fun r4 =>
    bif r4.1.1 then
      some ((true, ()), ())
    else
      (f_S_DrawSinceOf t0).bind fun r6 =>
        (f_I_SinceOf r6.1.1).bind fun r8 =>
          (f_S_SinceOf r6.1.1).bind fun r10 =>
            (f_I_TillOf r6.1.1).bind fun r12 =>
              (f_S_TillOf r6.1.1).bind fun r14 =>
                ((
                    bif (!(r8.1.2.1 == r10.1.2.1)) then
                      some (t1, r6.1.1, r8.1.1, r8.1.2.1, r12.1.1, true, ())
                    else
                      (f_L_sameInts r8.1.1 r10.1.1).bind fun r20 =>
                        bif (!r20.1.1) then
                          some (t1, r6.1.1, r8.1.1, r8.1.2.1, r12.1.1, true, ())
                        else
                          bif (!(r12.1.2.1 == r14.1.2.1)) then
                            some (t1, r6.1.1, r8.1.1, r8.1.2.1, r12.1.1, true, ())
                          else
                            (f_L_sameLists r12.1.1 r14.1.1).bind fun r21 =>
                              bif (!r21.1.1) then
                                some (t1, r6.1.1, r8.1.1, r8.1.2.1, r12.1.1, true, ())
                              else
                                some (t1, r6.1.1, r8.1.1, r8.1.2.1, r12.1.1, (!(r8.1.2.1 == r12.1.2.1)), ()) : Option ((PV S_uint8 × PV S_S_string × PV S_int × PV .bool × PV S_S_int × PV .bool × Unit)))).bind fun j22 =>
                  bif j22.2.2.2.2.2.1 then
                    some ((false, ()), ())
                  else
                    ((
                        ((
                            bif j22.2.2.2.1 then
                              some (j22.1, j22.2.1, j22.2.2.1, j22.2.2.2.2.1, (decide ((j22.2.1.length : Int) > 0)), ())
                            else
                              some (j22.1, j22.2.1, j22.2.2.1, j22.2.2.2.2.1, false, ()) : Option ((PV S_uint8 × PV S_S_string × PV S_int × PV S_S_int × PV .bool × Unit)))).bind fun j38 =>
                          bif j38.2.2.2.2.1 then
                            ((
                                bif inB (IntKind.wrap .i64 ((j38.2.1.length : Int) - 1)) j38.2.1.length then
                                  bif (!((j38.2.2.1.length : Int) == ((j38.2.1.getD ((IntKind.wrap .i64 ((j38.2.1.length : Int) - 1)).toNat) []).length : Int))) then
                                    some (j38.1, j38.2.1, j38.2.2.1, j38.2.2.2.1, (IntKind.wrap .i64 ((j38.2.1.length : Int) - 1)), true, ())
                                  else
                                    some (j38.1, j38.2.1, j38.2.2.1, j38.2.2.2.1, (IntKind.wrap .i64 ((j38.2.1.length : Int) - 1)), (!((j38.2.2.2.1.length : Int) == (j38.2.1.length : Int))), ())
                                else
                                  none : Option ((PV S_uint8 × PV S_S_string × PV S_int × PV S_S_int × PV (.int .i64) × PV .bool × Unit)))).bind fun j40 =>
                              bif j40.2.2.2.2.2.1 then
                                some (.inr (false, ()))
                              else
                                (w_L_FnSince_16 (j40.1, j40.2.1, j40.2.2.1, j40.2.2.2.1, j40.2.2.2.2.1, 0, (j40.2.1.length : Int), 0, ())).bind fun x55 =>
                                  match x55 with
                                  | .inl l43 =>
                                    bif (!(l43.2.2.1 == (l43.2.1.length : Int))) then
                                      some (.inr (false, ()))
                                    else
                                      some (.inl (l43.1, ()))
                                  | .inr l44 =>
                                    some (.inr (l44.1, ()))
                          else
                            some (.inl (j38.1, ())) : Option ((PV S_uint8 × Unit) ⊕ (PV .bool × Unit)))).bind fun x56 =>
                      match x56 with
                      | .inl j45 =>
                        (f_S_DrawSinceText j45.1).bind fun r47 =>
                          (f_I_SinceText r47.1.1).bind fun r49 =>
                            (f_S_SinceText r47.1.1).bind fun r51 =>
                              bif (r49.1.2.1 == r51.1.2.1) then
                                some (((r49.1.1 == r51.1.1), ()), ())
                              else
                                some ((false, ()), ())
                      | .inr j52 =>
                        some ((j52.1, ()), ())
noncomputable def ct_L_FnSince : Ct := ⟨[(.bor, S_uint8), (.bor, S_uint8)], [(.bool, .b)], fun x => f_L_FnSince x.1 x.2.1⟩
noncomputable def cx_L_FnSince : Cx := ⟨tab, arrs, [(22, ct_S_SinceText), (24, ct_I_SinceText), (28, ct_L_big), (29, ct_S_DrawSinceOf), (30, ct_I_SinceOf), (31, ct_S_SinceOf), (32, ct_I_TillOf), (33, ct_S_TillOf), (34, ct_L_sameInts), (35, ct_L_sameLists), (36, ct_I_LinesSince), (37, ct_I_TraceLine), (38, ct_S_DrawSinceText)], [], gl, []⟩
theorem eb_L_FnSince_16 (t1 : PV S_uint8) (t5 : PV S_S_string) (t6 : PV S_int) (t10 : PV S_S_int) (t14 : PV (.int .i64)) (t15 : PV (.int .i64)) (t105 : PV (.int .i64)) (t106 : PV (.int .i64)) : denK cx_L_FnSince (rcN cx_L_FnSince 0) pl_L_FnSince 0 ((loopsOf (bodyOf Tryd.f7)).getD 0 .skip) (fillS sh_L_FnSince_16 (t1, t5, t6, t10, t14, t15, t105, t106, ())) (roundK 0 lp_L_FnSince_16) = b_L_FnSince_16 t1 t5 t6 t10 t14 t15 t105 t106 := by kernel_rfl
theorem eb_L_FnSince_23 (t1 : PV S_uint8) (t5 : PV S_S_string) (t6 : PV S_int) (t10 : PV S_S_int) (t14 : PV (.int .i64)) (t15 : PV (.int .i64)) (t16 : PV (.int .i64)) (t105 : PV (.int .i64)) (t106 : PV (.int .i64)) (t124 : PV S_int) (t125 : PV (.int .i64)) (t126 : PV (.int .i64)) : denK cx_L_FnSince (rcN cx_L_FnSince 0) pl_L_FnSince 0 ((loopsOf (bodyOf Tryd.f7)).getD 1 .skip) (fillS sh_L_FnSince_23 (t1, t5, t6, t10, t14, t15, t16, t105, t106, t124, t125, t126, ())) (roundK 0 lp_L_FnSince_23) = b_L_FnSince_23 t1 t5 t6 t10 t14 t15 t16 t105 t106 t124 t125 t126 := by kernel_rfl
theorem eb_L_FnSince_29 (t1 : PV S_uint8) (t5 : PV S_S_string) (t6 : PV S_int) (t10 : PV S_S_int) (t14 : PV (.int .i64)) (t15 : PV (.int .i64)) (t16 : PV (.int .i64)) (t19 : PV (.int .i64)) (t105 : PV (.int .i64)) (t106 : PV (.int .i64)) (t124 : PV S_int) (t125 : PV (.int .i64)) (t126 : PV (.int .i64)) (t159 : PV S_int) (t160 : PV (.int .i64)) (t161 : PV (.int .i64)) : denK cx_L_FnSince (rcN cx_L_FnSince 0) pl_L_FnSince 0 ((loopsOf (bodyOf Tryd.f7)).getD 2 .skip) (fillS sh_L_FnSince_29 (t1, t5, t6, t10, t14, t15, t16, t19, t105, t106, t124, t125, t126, t159, t160, t161, ())) (roundK 0 lp_L_FnSince_29) = b_L_FnSince_29 t1 t5 t6 t10 t14 t15 t16 t19 t105 t106 t124 t125 t126 t159 t160 t161 := by kernel_rfl
theorem ef_L_FnSince (t0 : PV S_uint8) (t1 : PV S_uint8) : denF cx_L_FnSince 0 pl_L_FnSince Tryd.f7.ntmps (bodyOf Tryd.f7) Tryd.f7.results.toList [(.bor, S_uint8), (.bor, S_uint8)] [(.bool, .b)] (t0, t1, ()) = f_L_FnSince t0 t1 := by kernel_rfl
theorem ok_L_FnSince : FnOk gl Tryd.prog 7 ct_L_FnSince :=
  fnOk (cx := cx_L_FnSince) (pl := pl_L_FnSince) (dp := 0) (ok0_of tabOk (by unfold ArrOk; kernel_rfl) mix ⟨ok_S_SinceText, ok_I_SinceText, ok_L_big, ok_S_DrawSinceOf, ok_I_SinceOf, ok_S_SinceOf, ok_I_TillOf, ok_S_TillOf, ok_L_sameInts, ok_L_sameLists, ok_I_LinesSince, ok_I_TraceLine, ok_S_DrawSinceText, trivial⟩ trivial) Tryd.func7 (by kernel_rfl) (by kernel_rfl) (by kernel_rfl)
    (by rw [show loopsOf (bodyOf Tryd.f7) = [((loopsOf (bodyOf Tryd.f7)).getD 0 .skip), ((loopsOf (bodyOf Tryd.f7)).getD 1 .skip), ((loopsOf (bodyOf Tryd.f7)).getD 2 .skip)] from by kernel_rfl]; exact ⟨(by rw [show lookup pl_L_FnSince.loops (firstId ((loopsOf (bodyOf Tryd.f7)).getD 0 .skip)) = some lp_L_FnSince_16 from by kernel_rfl]; exact fun d z h => (eb_L_FnSince_16 d.1 d.2.1 d.2.2.1 d.2.2.2.1 d.2.2.2.2.1 d.2.2.2.2.2.1 d.2.2.2.2.2.2.1 d.2.2.2.2.2.2.2.1).trans h), (by rw [show lookup pl_L_FnSince.loops (firstId ((loopsOf (bodyOf Tryd.f7)).getD 1 .skip)) = some lp_L_FnSince_23 from by kernel_rfl]; exact fun d z h => (eb_L_FnSince_23 d.1 d.2.1 d.2.2.1 d.2.2.2.1 d.2.2.2.2.1 d.2.2.2.2.2.1 d.2.2.2.2.2.2.1 d.2.2.2.2.2.2.2.1 d.2.2.2.2.2.2.2.2.1 d.2.2.2.2.2.2.2.2.2.1 d.2.2.2.2.2.2.2.2.2.2.1 d.2.2.2.2.2.2.2.2.2.2.2.1).trans h), (by rw [show lookup pl_L_FnSince.loops (firstId ((loopsOf (bodyOf Tryd.f7)).getD 2 .skip)) = some lp_L_FnSince_29 from by kernel_rfl]; exact fun d z h => (eb_L_FnSince_29 d.1 d.2.1 d.2.2.1 d.2.2.2.1 d.2.2.2.2.1 d.2.2.2.2.2.1 d.2.2.2.2.2.2.1 d.2.2.2.2.2.2.2.1 d.2.2.2.2.2.2.2.2.1 d.2.2.2.2.2.2.2.2.2.1 d.2.2.2.2.2.2.2.2.2.2.1 d.2.2.2.2.2.2.2.2.2.2.2.1 d.2.2.2.2.2.2.2.2.2.2.2.2.1 d.2.2.2.2.2.2.2.2.2.2.2.2.2.1 d.2.2.2.2.2.2.2.2.2.2.2.2.2.2.1 d.2.2.2.2.2.2.2.2.2.2.2.2.2.2.2.1).trans h), trivial⟩) (fun x => ef_L_FnSince x.1 x.2.1)
end R
