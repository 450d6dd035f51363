/- The functions, part 2. -/
import Derived.Test.YtegfhigkmghmjaaPaX1
open Go Go.Dn Go.Proofs
namespace R
set_option linter.unusedVariables false
set_option maxRecDepth 20000
open Go.Shelf
noncomputable def o_I_since_12 : List Out := [⟨.normal, ⟨[], [0, 3, 4, 6, 10, 11, 12, 30, 31, 32], []⟩, mkSh 57 [(0, .val S_S_string .b), (3, .val S_S_int (.row (.row .b))), (4, .val (.int .i64) .b), (6, .val S_int (.row .b)), (10, .val S_S_string .b), (11, .val (.int .i64) .b), (12, .val (.int .i64) .b), (30, .val S_int (.row .b)), (31, .val (.int .i64) .b), (32, .val (.int .i64) .b)]⟩]
noncomputable def o_I_since_13 : List Out := [⟨.normal, ⟨[], [0, 3, 6, 10, 11, 12], []⟩, mkSh 57 [(0, .val S_S_string .b), (3, .val S_S_int (.row (.row .b))), (6, .val S_int (.row .b)), (10, .val S_S_string .b), (11, .val (.int .i64) .b), (12, .val (.int .i64) .b)]⟩]
noncomputable def sh_I_since_8 : List Sh := mkSh 57 [(0, .val S_S_string .b), (3, .val S_S_int (.row (.row .b))), (4, .val (.int .i64) .b), (6, .val S_int (.row .b)), (10, .val S_S_string .b), (11, .val (.int .i64) .b), (12, .val (.int .i64) .b), (30, .val S_int (.row .b)), (31, .val (.int .i64) .b), (32, .val (.int .i64) .b)]
noncomputable def o_I_since_8 : List Out := [⟨.exit 2, ⟨[], [0, 3, 6, 10, 11, 12], []⟩, mkSh 57 [(0, .val S_S_string .b), (3, .val S_S_int (.row (.row .b))), (6, .val S_int (.row .b)), (10, .val S_S_string .b), (11, .val (.int .i64) .b), (12, .val (.int .i64) .b)]⟩]
noncomputable def b_I_since_8 (t0 : PV S_S_string) (t3 : PV S_S_int) (t4 : PV (.int .i64)) (t6 : PV S_int) (t10 : PV S_S_string) (t11 : PV (.int .i64)) (t12 : PV (.int .i64)) (t30 : PV S_int) (t31 : PV (.int .i64)) (t32 : PV (.int .i64)) : Option ((PV S_S_string × PV S_S_int × PV (.int .i64) × PV S_int × PV S_S_string × PV (.int .i64) × PV (.int .i64) × PV S_int × PV (.int .i64) × PV (.int .i64) × Unit) ⊕ ((PV S_S_string × PV S_S_int × PV S_int × PV S_S_string × PV (.int .i64) × PV (.int .i64) × Unit))) :=
  bif (decide (t32 < t31)) then
    ((
        bif inB t32 t30.length then
          bif (decide ((t30.getD t32.toNat (0 : Int)) ≥ 0)) then
            bif inB (IntKind.wrap .i64 (t4 - 1)) t3.length then
              bif inB t32 (t3.getD ((IntKind.wrap .i64 (t4 - 1)).toNat) []).length then
                bif inB (t30.getD t32.toNat (0 : Int)) t6.length then
                  some (t0, t3, t4, (t6.set ((t30.getD t32.toNat (0 : Int)).toNat) ((t3.getD ((IntKind.wrap .i64 (t4 - 1)).toNat) []).getD t32.toNat (0 : Int))), t10, t11, t12, t30, t31, t32, ())
                else
                  none
              else
                none
            else
              none
          else
            some (t0, t3, t4, t6, t10, t11, t12, t30, t31, t32, ())
        else
          none : Option ((PV S_S_string × PV S_S_int × PV (.int .i64) × PV S_int × PV S_S_string × PV (.int .i64) × PV (.int .i64) × PV S_int × PV (.int .i64) × PV (.int .i64) × Unit)))).bind fun j5 =>
      some (.inl (j5.1, j5.2.1, j5.2.2.1, j5.2.2.2.1, j5.2.2.2.2.1, j5.2.2.2.2.2.1, j5.2.2.2.2.2.2.1, j5.2.2.2.2.2.2.2.1, j5.2.2.2.2.2.2.2.2.1, (IntKind.wrap .i64 (j5.2.2.2.2.2.2.2.2.2.1 + 1)), ()))
  else
    some (.inr (t0, t3, t6, t10, t11, t12, ()))
noncomputable def w_I_since_8 : PV S_S_string × PV S_S_int × PV (.int .i64) × PV S_int × PV S_S_string × PV (.int .i64) × PV (.int .i64) × PV S_int × PV (.int .i64) × PV (.int .i64) × Unit → Option ((PV S_S_string × PV S_S_int × PV S_int × PV S_S_string × PV (.int .i64) × PV (.int .i64) × Unit)) := fix fun d => b_I_since_8 d.1 d.2.1 d.2.2.1 d.2.2.2.1 d.2.2.2.2.1 d.2.2.2.2.2.1 d.2.2.2.2.2.2.1 d.2.2.2.2.2.2.2.1 d.2.2.2.2.2.2.2.2.1 d.2.2.2.2.2.2.2.2.2.1
noncomputable def lp_I_since_8 : Lp := ⟨⟨[], [0, 3, 4, 6, 10, 11, 12, 30, 31, 32], []⟩, sh_I_since_8, o_I_since_8, fun d => b_I_since_8 d.1 d.2.1 d.2.2.1 d.2.2.2.1 d.2.2.2.2.1 d.2.2.2.2.2.1 d.2.2.2.2.2.2.1 d.2.2.2.2.2.2.2.1 d.2.2.2.2.2.2.2.2.1 d.2.2.2.2.2.2.2.2.2.1⟩
noncomputable def sh_I_since_3 : List Sh := mkSh 57 [(0, .val S_S_string .b), (3, .val S_S_int (.row (.row .b))), (10, .val S_S_string .b), (11, .val (.int .i64) .b), (12, .val (.int .i64) .b)]
noncomputable def o_I_since_3 : List Out := [⟨.exit 0, ⟨[], [3], []⟩, mkSh 57 [(3, .val S_S_int (.row (.row .b)))]⟩]
noncomputable def b_I_since_3 (t0 : PV S_S_string) (t3 : PV S_S_int) (t10 : PV S_S_string) (t11 : PV (.int .i64)) (t12 : PV (.int .i64)) : Option ((PV S_S_string × PV S_S_int × PV S_S_string × PV (.int .i64) × PV (.int .i64) × Unit) ⊕ ((PV S_S_int × Unit))) :=
  bif (decide (t12 < t11)) then
    bif inB t12 t10.length then
      (f_slices_Repeat_int [t12] ((t10.getD t12.toNat []).length : Int)).bind fun r8 =>
        ((
            bif (decide (t12 > 0)) then
              bif inB (IntKind.wrap .i64 (t12 - 1)) t0.length then
                (f_I_mates (t0.getD ((IntKind.wrap .i64 (t12 - 1)).toNat) []) (t10.getD t12.toNat [])).bind fun r10 =>
                  (w_I_since_8 (t0, t3, t12, r8.1.1, t10, t11, t12, r10.1.1, (r10.1.1.length : Int), 0, ())).bind fun l11 =>
                    some (l11.1, l11.2.1, l11.2.2.1, l11.2.2.2.1, l11.2.2.2.2.1, l11.2.2.2.2.2.1, ())
              else
                none
            else
              some (t0, t3, r8.1.1, t10, t11, t12, ()) : Option ((PV S_S_string × PV S_S_int × PV S_int × PV S_S_string × PV (.int .i64) × PV (.int .i64) × Unit)))).bind fun j12 =>
          bif roomB (j12.2.1.length + [j12.2.2.1].length) then
            some (.inl (j12.1, (j12.2.1 ++ [j12.2.2.1]), j12.2.2.2.1, j12.2.2.2.2.1, (IntKind.wrap .i64 (j12.2.2.2.2.2.1 + 1)), ()))
          else
            none
    else
      none
  else
    some (.inr (t3, ()))
noncomputable def w_I_since_3 : PV S_S_string × PV S_S_int × PV S_S_string × PV (.int .i64) × PV (.int .i64) × Unit → Option ((PV S_S_int × Unit)) := fix fun d => b_I_since_3 d.1 d.2.1 d.2.2.1 d.2.2.2.1 d.2.2.2.2.1
noncomputable def lp_I_since_3 : Lp := ⟨⟨[], [0, 3, 10, 11, 12], []⟩, sh_I_since_3, o_I_since_3, fun d => b_I_since_3 d.1 d.2.1 d.2.2.1 d.2.2.2.1 d.2.2.2.2.1⟩
noncomputable def pl_I_since : Plan := ⟨[(12, o_I_since_12), (13, o_I_since_13)], [(8, lp_I_since_8), (3, lp_I_since_3)], 0, 0⟩
noncomputable def f_I_since (t0 : PV S_S_string) : Option (PVs [S_S_int] × PVs []) :=
  (w_I_since_3 (t0, ([] : PV S_S_int), t0, (t0.length : Int), 0, ())).bind fun l14 =>
    some ((l14.1, ()), ())
noncomputable def ct_I_since : Ct := ⟨[(.bor, S_S_string)], [(S_S_int, (.row (.row .b)))], fun x => f_I_since x.1⟩
noncomputable def cx_I_since : Cx := ⟨tab, arrs, [(99, ct_I_mates), (129, ct_slices_Repeat_int)], [], gl, []⟩
theorem eb_I_since_3 (t0 : PV S_S_string) (t3 : PV S_S_int) (t10 : PV S_S_string) (t11 : PV (.int .i64)) (t12 : PV (.int .i64)) : denK cx_I_since (rcN cx_I_since 0) pl_I_since 0 ((loopsOf (bodyOf Try.f100)).getD 0 .skip) (fillS sh_I_since_3 (t0, t3, t10, t11, t12, ())) (roundK 0 lp_I_since_3) = b_I_since_3 t0 t3 t10 t11 t12 := by kernel_rfl
theorem eb_I_since_8 (t0 : PV S_S_string) (t3 : PV S_S_int) (t4 : PV (.int .i64)) (t6 : PV S_int) (t10 : PV S_S_string) (t11 : PV (.int .i64)) (t12 : PV (.int .i64)) (t30 : PV S_int) (t31 : PV (.int .i64)) (t32 : PV (.int .i64)) : denK cx_I_since (rcN cx_I_since 0) pl_I_since 0 ((loopsOf (bodyOf Try.f100)).getD 1 .skip) (fillS sh_I_since_8 (t0, t3, t4, t6, t10, t11, t12, t30, t31, t32, ())) (roundK 0 lp_I_since_8) = b_I_since_8 t0 t3 t4 t6 t10 t11 t12 t30 t31 t32 := by kernel_rfl
theorem ef_I_since (t0 : PV S_S_string) : denF cx_I_since 0 pl_I_since Try.f100.ntmps (bodyOf Try.f100) Try.f100.results.toList [(.bor, S_S_string)] [(S_S_int, (.row (.row .b)))] (t0, ()) = f_I_since t0 := by kernel_rfl
theorem ok_I_since : FnOk gl Try.prog 100 ct_I_since :=
  fnOk (cx := cx_I_since) (pl := pl_I_since) (dp := 0) (ok0_of tabOk (by unfold ArrOk; kernel_rfl) mix ⟨ok_I_mates, ok_slices_Repeat_int, trivial⟩ trivial) Try.func100 (by kernel_rfl) (by kernel_rfl) (by kernel_rfl)
    (by rw [show loopsOf (bodyOf Try.f100) = [((loopsOf (bodyOf Try.f100)).getD 0 .skip), ((loopsOf (bodyOf Try.f100)).getD 1 .skip)] from by kernel_rfl]; exact ⟨(by rw [show lookup pl_I_since.loops (firstId ((loopsOf (bodyOf Try.f100)).getD 0 .skip)) = some lp_I_since_3 from by kernel_rfl]; exact fun d z h => (eb_I_since_3 d.1 d.2.1 d.2.2.1 d.2.2.2.1 d.2.2.2.2.1).trans h), (by rw [show lookup pl_I_since.loops (firstId ((loopsOf (bodyOf Try.f100)).getD 1 .skip)) = some lp_I_since_8 from by kernel_rfl]; exact fun d z h => (eb_I_since_8 d.1 d.2.1 d.2.2.1 d.2.2.2.1 d.2.2.2.2.1 d.2.2.2.2.2.1 d.2.2.2.2.2.2.1 d.2.2.2.2.2.2.2.1 d.2.2.2.2.2.2.2.2.1 d.2.2.2.2.2.2.2.2.2.1).trans h), trivial⟩) (fun x => ef_I_since x.1)
noncomputable def pl_I_SinceOf : Plan := ⟨[], [], 0, 0⟩
noncomputable def f_I_SinceOf (t0 : PV S_S_string) : Option (PVs [S_int, .bool] × PVs []) :=
  (f_I_areVersions t0).bind fun r4 =>
    bif (!r4.1.1) then
      some (([], false, ()), ())
    else
      (f_I_since t0).bind fun r5 =>
        bif inB (IntKind.wrap .i64 ((t0.length : Int) - 1)) r5.1.1.length then
          some (((r5.1.1.getD ((IntKind.wrap .i64 ((t0.length : Int) - 1)).toNat) []), true, ()), ())
        else
          none
noncomputable def ct_I_SinceOf : Ct := ⟨[(.bor, S_S_string)], [(S_int, (.row .b)), (.bool, .b)], fun x => f_I_SinceOf x.1⟩
noncomputable def cx_I_SinceOf : Cx := ⟨tab, arrs, [(49, ct_I_areVersions), (100, ct_I_since)], [], gl, []⟩
theorem ef_I_SinceOf (t0 : PV S_S_string) : denF cx_I_SinceOf 0 pl_I_SinceOf Try.f60.ntmps (bodyOf Try.f60) Try.f60.results.toList [(.bor, S_S_string)] [(S_int, (.row .b)), (.bool, .b)] (t0, ()) = f_I_SinceOf t0 := by kernel_rfl
theorem ok_I_SinceOf : FnOk gl Try.prog 60 ct_I_SinceOf :=
  fnOk (cx := cx_I_SinceOf) (pl := pl_I_SinceOf) (dp := 0) (ok0_of tabOk (by unfold ArrOk; kernel_rfl) mix ⟨ok_I_areVersions, ok_I_since, trivial⟩ trivial) Try.func60 (by kernel_rfl) (by kernel_rfl) (by kernel_rfl)
    (by rw [show loopsOf (bodyOf Try.f60) = [] from by kernel_rfl]; exact trivial) (fun x => ef_I_SinceOf x.1)
noncomputable def o_I_LinesSince_3 : List Out := [⟨.normal, ⟨[], [0, 1, 6, 25], []⟩, mkSh 51 [(0, .val S_S_string .b), (1, .val (.int .i64) .b), (6, .val S_int (.row .b)), (25, .val .bool .b)]⟩]
noncomputable def o_I_LinesSince_10 : List Out := [⟨.normal, ⟨[], [1, 6, 8, 32, 33, 34], []⟩, mkSh 51 [(1, .val (.int .i64) .b), (6, .val S_int (.row .b)), (8, .val S_string (.row .b)), (32, .val S_string .b), (33, .val (.int .i64) .b), (34, .val (.int .i64) .b)]⟩]
noncomputable def sh_I_LinesSince_6 : List Sh := mkSh 51 [(1, .val (.int .i64) .b), (6, .val S_int (.row .b)), (8, .val S_string (.row .b)), (32, .val S_string .b), (33, .val (.int .i64) .b), (34, .val (.int .i64) .b)]
noncomputable def o_I_LinesSince_6 : List Out := [⟨.exit 0, ⟨[], [8], []⟩, mkSh 51 [(8, .val S_string (.row .b))]⟩]
noncomputable def b_I_LinesSince_6 (t1 : PV (.int .i64)) (t6 : PV S_int) (t8 : PV S_string) (t32 : PV S_string) (t33 : PV (.int .i64)) (t34 : PV (.int .i64)) : Option ((PV (.int .i64) × PV S_int × PV S_string × PV S_string × PV (.int .i64) × PV (.int .i64) × Unit) ⊕ ((PV S_string × Unit))) :=
  bif (decide (t34 < t33)) then
    ((
        bif inB t34 t32.length then
          bif inB t34 t6.length then
            bif ((t6.getD t34.toNat (0 : Int)) == t1) then
              bif roomB (t8.length + [(t32.getD t34.toNat [])].length) then
                some (t1, t6, (t8 ++ [(t32.getD t34.toNat [])]), t32, t33, t34, ())
              else
                none
            else
              some (t1, t6, t8, t32, t33, t34, ())
          else
            none
        else
          none : Option ((PV (.int .i64) × PV S_int × PV S_string × PV S_string × PV (.int .i64) × PV (.int .i64) × Unit)))).bind fun j8 =>
      some (.inl (j8.1, j8.2.1, j8.2.2.1, j8.2.2.2.1, j8.2.2.2.2.1, (IntKind.wrap .i64 (j8.2.2.2.2.2.1 + 1)), ()))
  else
    some (.inr (t8, ()))
noncomputable def w_I_LinesSince_6 : PV (.int .i64) × PV S_int × PV S_string × PV S_string × PV (.int .i64) × PV (.int .i64) × Unit → Option ((PV S_string × Unit)) := fix fun d => b_I_LinesSince_6 d.1 d.2.1 d.2.2.1 d.2.2.2.1 d.2.2.2.2.1 d.2.2.2.2.2.1
noncomputable def lp_I_LinesSince_6 : Lp := ⟨⟨[], [1, 6, 8, 32, 33, 34], []⟩, sh_I_LinesSince_6, o_I_LinesSince_6, fun d => b_I_LinesSince_6 d.1 d.2.1 d.2.2.1 d.2.2.2.1 d.2.2.2.2.1 d.2.2.2.2.2.1⟩
noncomputable def pl_I_LinesSince : Plan := ⟨[(3, o_I_LinesSince_3), (10, o_I_LinesSince_10)], [(6, lp_I_LinesSince_6)], 0, 0⟩
noncomputable def f_I_LinesSince (t0 : PV S_S_string) (t1 : PV (.int .i64)) : Option (PVs [S_string, .bool] × PVs []) :=
  (f_I_SinceOf t0).bind fun r2 =>
    ((
        bif (!r2.1.2.1) then
          some (t0, t1, r2.1.1, true, ())
        else
          (f_I_in t1 0 (IntKind.wrap .i64 ((t0.length : Int) - 1))).bind fun r6 =>
            some (t0, t1, r2.1.1, (!r6.1.1), ()) : Option ((PV S_S_string × PV (.int .i64) × PV S_int × PV .bool × Unit)))).bind fun j7 =>
      bif j7.2.2.2.1 then
        some (([], false, ()), ())
      else
        bif inB (IntKind.wrap .i64 ((j7.1.length : Int) - 1)) j7.1.length then
          (w_I_LinesSince_6 (j7.2.1, j7.2.2.1, ([] : PV S_string), (j7.1.getD ((IntKind.wrap .i64 ((j7.1.length : Int) - 1)).toNat) []), ((j7.1.getD ((IntKind.wrap .i64 ((j7.1.length : Int) - 1)).toNat) []).length : Int), 0, ())).bind fun l10 =>
            some ((l10.1, true, ()), ())
        else
          none
noncomputable def ct_I_LinesSince : Ct := ⟨[(.bor, S_S_string), (.bor, (.int .i64))], [(S_string, .b), (.bool, .b)], fun x => f_I_LinesSince x.1 x.2.1⟩
noncomputable def cx_I_LinesSince : Cx := ⟨tab, arrs, [(56, ct_I_in), (60, ct_I_SinceOf)], [], gl, []⟩
theorem eb_I_LinesSince_6 (t1 : PV (.int .i64)) (t6 : PV S_int) (t8 : PV S_string) (t32 : PV S_string) (t33 : PV (.int .i64)) (t34 : PV (.int .i64)) : denK cx_I_LinesSince (rcN cx_I_LinesSince 0) pl_I_LinesSince 0 ((loopsOf (bodyOf Try.f22)).getD 0 .skip) (fillS sh_I_LinesSince_6 (t1, t6, t8, t32, t33, t34, ())) (roundK 0 lp_I_LinesSince_6) = b_I_LinesSince_6 t1 t6 t8 t32 t33 t34 := by kernel_rfl
theorem ef_I_LinesSince (t0 : PV S_S_string) (t1 : PV (.int .i64)) : denF cx_I_LinesSince 0 pl_I_LinesSince Try.f22.ntmps (bodyOf Try.f22) Try.f22.results.toList [(.bor, S_S_string), (.bor, (.int .i64))] [(S_string, .b), (.bool, .b)] (t0, t1, ()) = f_I_LinesSince t0 t1 := by kernel_rfl
theorem ok_I_LinesSince : FnOk gl Try.prog 22 ct_I_LinesSince :=
  fnOk (cx := cx_I_LinesSince) (pl := pl_I_LinesSince) (dp := 0) (ok0_of tabOk (by unfold ArrOk; kernel_rfl) mix ⟨ok_I_in, ok_I_SinceOf, trivial⟩ trivial) Try.func22 (by kernel_rfl) (by kernel_rfl) (by kernel_rfl)
    (by rw [show loopsOf (bodyOf Try.f22) = [((loopsOf (bodyOf Try.f22)).getD 0 .skip)] from by kernel_rfl]; exact ⟨(by rw [show lookup pl_I_LinesSince.loops (firstId ((loopsOf (bodyOf Try.f22)).getD 0 .skip)) = some lp_I_LinesSince_6 from by kernel_rfl]; exact fun d z h => (eb_I_LinesSince_6 d.1 d.2.1 d.2.2.1 d.2.2.2.1 d.2.2.2.2.1 d.2.2.2.2.2.1).trans h), trivial⟩) (fun x => ef_I_LinesSince x.1 x.2.1)
noncomputable def o_S_l12Since_16 : List Out := [⟨.normal, ⟨[], [0, 3, 4, 5, 45, 46, 47], []⟩, mkSh 64 [(0, .val S_S_string .b), (3, .val S_int (.row .b)), (4, .val (.int .i64) .b), (5, .val S_int (.row .b)), (45, .val S_int (.row .b)), (46, .val (.int .i64) .b), (47, .val (.int .i64) .b)]⟩]
noncomputable def sh_S_l12Since_7 : List Sh := mkSh 64 [(0, .val S_S_string .b), (3, .val S_int (.row .b)), (4, .val (.int .i64) .b), (5, .val S_int (.row .b)), (27, .val (.int .i64) .b), (28, .val (.int .i64) .b)]
noncomputable def o_S_l12Since_7 : List Out := [⟨.exit 2, ⟨[], [0, 3, 4, 5], []⟩, mkSh 64 [(0, .val S_S_string .b), (3, .val S_int (.row .b)), (4, .val (.int .i64) .b), (5, .val S_int (.row .b))]⟩]
noncomputable def b_S_l12Since_7 (t0 : PV S_S_string) (t3 : PV S_int) (t4 : PV (.int .i64)) (t5 : PV S_int) (t27 : PV (.int .i64)) (t28 : PV (.int .i64)) : Option ((PV S_S_string × PV S_int × PV (.int .i64) × PV S_int × PV (.int .i64) × PV (.int .i64) × Unit) ⊕ ((PV S_S_string × PV S_int × PV (.int .i64) × PV S_int × Unit))) :=
  bif (decide (t28 < t27)) then
    bif inB t28 t5.length then
      some (.inl (t0, t3, t4, (t5.set t28.toNat t4), t27, (IntKind.wrap .i64 (t28 + 1)), ()))
    else
      none
  else
    some (.inr (t0, t3, t4, t5, ()))
noncomputable def w_S_l12Since_7 : PV S_S_string × PV S_int × PV (.int .i64) × PV S_int × PV (.int .i64) × PV (.int .i64) × Unit → Option ((PV S_S_string × PV S_int × PV (.int .i64) × PV S_int × Unit)) := fix fun d => b_S_l12Since_7 d.1 d.2.1 d.2.2.1 d.2.2.2.1 d.2.2.2.2.1 d.2.2.2.2.2.1
noncomputable def lp_S_l12Since_7 : Lp := ⟨⟨[], [0, 3, 4, 5, 27, 28], []⟩, sh_S_l12Since_7, o_S_l12Since_7, fun d => b_S_l12Since_7 d.1 d.2.1 d.2.2.1 d.2.2.2.1 d.2.2.2.2.1 d.2.2.2.2.2.1⟩
noncomputable def sh_S_l12Since_12 : List Sh := mkSh 64 [(0, .val S_S_string .b), (3, .val S_int (.row .b)), (4, .val (.int .i64) .b), (5, .val S_int (.row .b)), (45, .val S_int (.row .b)), (46, .val (.int .i64) .b), (47, .val (.int .i64) .b)]
noncomputable def o_S_l12Since_12 : List Out := [⟨.exit 4, ⟨[], [0, 4, 5], []⟩, mkSh 64 [(0, .val S_S_string .b), (4, .val (.int .i64) .b), (5, .val S_int (.row .b))]⟩]
noncomputable def b_S_l12Since_12 (t0 : PV S_S_string) (t3 : PV S_int) (t4 : PV (.int .i64)) (t5 : PV S_int) (t45 : PV S_int) (t46 : PV (.int .i64)) (t47 : PV (.int .i64)) : Option ((PV S_S_string × PV S_int × PV (.int .i64) × PV S_int × PV S_int × PV (.int .i64) × PV (.int .i64) × Unit) ⊕ ((PV S_S_string × PV (.int .i64) × PV S_int × Unit))) :=
  bif (decide (t47 < t46)) then
    ((
        bif inB t47 t45.length then
          bif (decide ((t45.getD t47.toNat (0 : Int)) ≥ 0)) then
            bif inB t47 t3.length then
              bif inB (t45.getD t47.toNat (0 : Int)) t5.length then
                some (t0, t3, t4, (t5.set ((t45.getD t47.toNat (0 : Int)).toNat) (t3.getD t47.toNat (0 : Int))), t45, t46, t47, ())
              else
                none
            else
              none
          else
            some (t0, t3, t4, t5, t45, t46, t47, ())
        else
          none : Option ((PV S_S_string × PV S_int × PV (.int .i64) × PV S_int × PV S_int × PV (.int .i64) × PV (.int .i64) × Unit)))).bind fun j5 =>
      some (.inl (j5.1, j5.2.1, j5.2.2.1, j5.2.2.2.1, j5.2.2.2.2.1, j5.2.2.2.2.2.1, (IntKind.wrap .i64 (j5.2.2.2.2.2.2.1 + 1)), ()))
  else
    some (.inr (t0, t4, t5, ()))
noncomputable def w_S_l12Since_12 : PV S_S_string × PV S_int × PV (.int .i64) × PV S_int × PV S_int × PV (.int .i64) × PV (.int .i64) × Unit → Option ((PV S_S_string × PV (.int .i64) × PV S_int × Unit)) := fix fun d => b_S_l12Since_12 d.1 d.2.1 d.2.2.1 d.2.2.2.1 d.2.2.2.2.1 d.2.2.2.2.2.1 d.2.2.2.2.2.2.1
noncomputable def lp_S_l12Since_12 : Lp := ⟨⟨[], [0, 3, 4, 5, 45, 46, 47], []⟩, sh_S_l12Since_12, o_S_l12Since_12, fun d => b_S_l12Since_12 d.1 d.2.1 d.2.2.1 d.2.2.2.1 d.2.2.2.2.1 d.2.2.2.2.2.1 d.2.2.2.2.2.2.1⟩
noncomputable def sh_S_l12Since_3 : List Sh := mkSh 64 [(0, .val S_S_string .b), (3, .val S_int (.row .b)), (4, .val (.int .i64) .b)]
noncomputable def o_S_l12Since_3 : List Out := [⟨.exit 0, ⟨[], [3], []⟩, mkSh 64 [(3, .val S_int (.row .b))]⟩]
noncomputable def b_S_l12Since_3 (t0 : PV S_S_string) (t3 : PV S_int) (t4 : PV (.int .i64)) : Option ((PV S_S_string × PV S_int × PV (.int .i64) × Unit) ⊕ ((PV S_int × Unit))) :=
  bif (decide (t4 < (t0.length : Int))) then
    bif inB t4 t0.length then
      bif decide (0 ≤ ((t0.getD t4.toNat []).length : Int)) && (decide (((t0.getD t4.toNat []).length : Int) ≤ ((t0.getD t4.toNat []).length : Int)) && roomB ((t0.getD t4.toNat []).length : Int).toNat) then
        (w_S_l12Since_7 (t0, t3, t4, (List.replicate ((t0.getD t4.toNat []).length : Int).toNat (0 : Int)), ((List.replicate ((t0.getD t4.toNat []).length : Int).toNat (0 : Int)).length : Int), 0, ())).bind fun l10 =>
          bif inB (IntKind.wrap .i64 (l10.2.2.1 - 1)) l10.1.length then
            bif inB l10.2.2.1 l10.1.length then
              (f_S_l12Next (l10.1.getD ((IntKind.wrap .i64 (l10.2.2.1 - 1)).toNat) []) (l10.1.getD l10.2.2.1.toNat [])).bind fun r15 =>
                (w_S_l12Since_12 (l10.1, l10.2.1, l10.2.2.1, l10.2.2.2.1, r15.1.1, (r15.1.1.length : Int), 0, ())).bind fun l16 =>
                  some (.inl (l16.1, l16.2.2.1, (IntKind.wrap .i64 (l16.2.1 + 1)), ()))
            else
              none
          else
            none
      else
        none
    else
      none
  else
    some (.inr (t3, ()))
noncomputable def w_S_l12Since_3 : PV S_S_string × PV S_int × PV (.int .i64) × Unit → Option ((PV S_int × Unit)) := fix fun d => b_S_l12Since_3 d.1 d.2.1 d.2.2.1
noncomputable def lp_S_l12Since_3 : Lp := ⟨⟨[], [0, 3, 4], []⟩, sh_S_l12Since_3, o_S_l12Since_3, fun d => b_S_l12Since_3 d.1 d.2.1 d.2.2.1⟩
noncomputable def pl_S_l12Since : Plan := ⟨[(16, o_S_l12Since_16)], [(7, lp_S_l12Since_7), (12, lp_S_l12Since_12), (3, lp_S_l12Since_3)], 0, 0⟩
noncomputable def f_S_l12Since (t0 : PV S_S_string) : Option (PVs [S_int] × PVs []) :=
  bif inB 0 t0.length then
    bif decide (0 ≤ ((t0.getD ((0 : Int).toNat) []).length : Int)) && (decide (((t0.getD ((0 : Int).toNat) []).length : Int) ≤ ((t0.getD ((0 : Int).toNat) []).length : Int)) && roomB ((t0.getD ((0 : Int).toNat) []).length : Int).toNat) then
      (w_S_l12Since_3 (t0, (List.replicate ((t0.getD ((0 : Int).toNat) []).length : Int).toNat (0 : Int)), 1, ())).bind fun l18 =>
        some ((l18.1, ()), ())
    else
      none
  else
    none
noncomputable def ct_S_l12Since : Ct := ⟨[(.bor, S_S_string)], [(S_int, (.row .b))], fun x => f_S_l12Since x.1⟩
noncomputable def cx_S_l12Since : Cx := ⟨tab, arrs, [(59, ct_S_l12Next)], [], gl, []⟩
theorem eb_S_l12Since_3 (t0 : PV S_S_string) (t3 : PV S_int) (t4 : PV (.int .i64)) : denK cx_S_l12Since (rcN cx_S_l12Since 0) pl_S_l12Since 0 ((loopsOf (bodyOf Try.f61)).getD 0 .skip) (fillS sh_S_l12Since_3 (t0, t3, t4, ())) (roundK 0 lp_S_l12Since_3) = b_S_l12Since_3 t0 t3 t4 := by kernel_rfl
theorem eb_S_l12Since_7 (t0 : PV S_S_string) (t3 : PV S_int) (t4 : PV (.int .i64)) (t5 : PV S_int) (t27 : PV (.int .i64)) (t28 : PV (.int .i64)) : denK cx_S_l12Since (rcN cx_S_l12Since 0) pl_S_l12Since 0 ((loopsOf (bodyOf Try.f61)).getD 1 .skip) (fillS sh_S_l12Since_7 (t0, t3, t4, t5, t27, t28, ())) (roundK 0 lp_S_l12Since_7) = b_S_l12Since_7 t0 t3 t4 t5 t27 t28 := by kernel_rfl
theorem eb_S_l12Since_12 (t0 : PV S_S_string) (t3 : PV S_int) (t4 : PV (.int .i64)) (t5 : PV S_int) (t45 : PV S_int) (t46 : PV (.int .i64)) (t47 : PV (.int .i64)) : denK cx_S_l12Since (rcN cx_S_l12Since 0) pl_S_l12Since 0 ((loopsOf (bodyOf Try.f61)).getD 2 .skip) (fillS sh_S_l12Since_12 (t0, t3, t4, t5, t45, t46, t47, ())) (roundK 0 lp_S_l12Since_12) = b_S_l12Since_12 t0 t3 t4 t5 t45 t46 t47 := by kernel_rfl
theorem ef_S_l12Since (t0 : PV S_S_string) : denF cx_S_l12Since 0 pl_S_l12Since Try.f61.ntmps (bodyOf Try.f61) Try.f61.results.toList [(.bor, S_S_string)] [(S_int, (.row .b))] (t0, ()) = f_S_l12Since t0 := by kernel_rfl
theorem ok_S_l12Since : FnOk gl Try.prog 61 ct_S_l12Since :=
  fnOk (cx := cx_S_l12Since) (pl := pl_S_l12Since) (dp := 0) (ok0_of tabOk (by unfold ArrOk; kernel_rfl) mix ⟨ok_S_l12Next, trivial⟩ trivial) Try.func61 (by kernel_rfl) (by kernel_rfl) (by kernel_rfl)
    (by rw [show loopsOf (bodyOf Try.f61) = [((loopsOf (bodyOf Try.f61)).getD 0 .skip), ((loopsOf (bodyOf Try.f61)).getD 1 .skip), ((loopsOf (bodyOf Try.f61)).getD 2 .skip)] from by kernel_rfl]; exact ⟨(by rw [show lookup pl_S_l12Since.loops (firstId ((loopsOf (bodyOf Try.f61)).getD 0 .skip)) = some lp_S_l12Since_3 from by kernel_rfl]; exact fun d z h => (eb_S_l12Since_3 d.1 d.2.1 d.2.2.1).trans h), (by rw [show lookup pl_S_l12Since.loops (firstId ((loopsOf (bodyOf Try.f61)).getD 1 .skip)) = some lp_S_l12Since_7 from by kernel_rfl]; exact fun d z h => (eb_S_l12Since_7 d.1 d.2.1 d.2.2.1 d.2.2.2.1 d.2.2.2.2.1 d.2.2.2.2.2.1).trans h), (by rw [show lookup pl_S_l12Since.loops (firstId ((loopsOf (bodyOf Try.f61)).getD 2 .skip)) = some lp_S_l12Since_12 from by kernel_rfl]; exact fun d z h => (eb_S_l12Since_12 d.1 d.2.1 d.2.2.1 d.2.2.2.1 d.2.2.2.2.1 d.2.2.2.2.2.1 d.2.2.2.2.2.2.1).trans h), trivial⟩) (fun x => ef_S_l12Since x.1)
noncomputable def o_S_LinesSince_2 : List Out := [⟨.normal, ⟨[], [0, 1, 19], []⟩, mkSh 45 [(0, .val S_S_string .b), (1, .val (.int .i64) .b), (19, .val .bool .b)]⟩]
noncomputable def o_S_LinesSince_9 : List Out := [⟨.normal, ⟨[], [0, 1, 6, 21, 22, 23], []⟩, mkSh 45 [(0, .val S_S_string .b), (1, .val (.int .i64) .b), (6, .val S_string (.row .b)), (21, .val S_int (.row .b)), (22, .val (.int .i64) .b), (23, .val (.int .i64) .b)]⟩]
noncomputable def sh_S_LinesSince_5 : List Sh := mkSh 45 [(0, .val S_S_string .b), (1, .val (.int .i64) .b), (6, .val S_string (.row .b)), (21, .val S_int (.row .b)), (22, .val (.int .i64) .b), (23, .val (.int .i64) .b)]
noncomputable def o_S_LinesSince_5 : List Out := [⟨.exit 0, ⟨[], [6], []⟩, mkSh 45 [(6, .val S_string (.row .b))]⟩]
noncomputable def b_S_LinesSince_5 (t0 : PV S_S_string) (t1 : PV (.int .i64)) (t6 : PV S_string) (t21 : PV S_int) (t22 : PV (.int .i64)) (t23 : PV (.int .i64)) : Option ((PV S_S_string × PV (.int .i64) × PV S_string × PV S_int × PV (.int .i64) × PV (.int .i64) × Unit) ⊕ ((PV S_string × Unit))) :=
  bif (decide (t23 < t22)) then
    ((
        bif inB t23 t21.length then
          bif ((t21.getD t23.toNat (0 : Int)) == t1) then
            bif inB (IntKind.wrap .i64 ((t0.length : Int) - 1)) t0.length then
              bif inB t23 (t0.getD ((IntKind.wrap .i64 ((t0.length : Int) - 1)).toNat) []).length then
                bif roomB (t6.length + [((t0.getD ((IntKind.wrap .i64 ((t0.length : Int) - 1)).toNat) []).getD t23.toNat [])].length) then
                  some (t0, t1, (t6 ++ [((t0.getD ((IntKind.wrap .i64 ((t0.length : Int) - 1)).toNat) []).getD t23.toNat [])]), t21, t22, t23, ())
                else
                  none
              else
                none
            else
              none
          else
            some (t0, t1, t6, t21, t22, t23, ())
        else
          none : Option ((PV S_S_string × PV (.int .i64) × PV S_string × PV S_int × PV (.int .i64) × PV (.int .i64) × Unit)))).bind fun j11 =>
      some (.inl (j11.1, j11.2.1, j11.2.2.1, j11.2.2.2.1, j11.2.2.2.2.1, (IntKind.wrap .i64 (j11.2.2.2.2.2.1 + 1)), ()))
  else
    some (.inr (t6, ()))
noncomputable def w_S_LinesSince_5 : PV S_S_string × PV (.int .i64) × PV S_string × PV S_int × PV (.int .i64) × PV (.int .i64) × Unit → Option ((PV S_string × Unit)) := fix fun d => b_S_LinesSince_5 d.1 d.2.1 d.2.2.1 d.2.2.2.1 d.2.2.2.2.1 d.2.2.2.2.2.1
noncomputable def lp_S_LinesSince_5 : Lp := ⟨⟨[], [0, 1, 6, 21, 22, 23], []⟩, sh_S_LinesSince_5, o_S_LinesSince_5, fun d => b_S_LinesSince_5 d.1 d.2.1 d.2.2.1 d.2.2.2.1 d.2.2.2.2.1 d.2.2.2.2.2.1⟩
noncomputable def pl_S_LinesSince : Plan := ⟨[(2, o_S_LinesSince_2), (9, o_S_LinesSince_9)], [(5, lp_S_LinesSince_5)], 0, 0⟩
noncomputable def f_S_LinesSince (t0 : PV S_S_string) (t1 : PV (.int .i64)) : Option (PVs [S_string, .bool] × PVs []) :=
  ((
      (f_S_l12Good t0).bind fun r6 =>
        bif (!r6.1.1) then
          some (t0, t1, true, ())
        else
          (f_S_l1In t1 0 (IntKind.wrap .i64 ((t0.length : Int) - 1))).bind fun r7 =>
            some (t0, t1, (!r7.1.1), ()) : Option ((PV S_S_string × PV (.int .i64) × PV .bool × Unit)))).bind fun j8 =>
    bif j8.2.2.1 then
      some (([], false, ()), ())
    else
      (f_S_l12Since j8.1).bind fun r14 =>
        (w_S_LinesSince_5 (j8.1, j8.2.1, [], r14.1.1, (r14.1.1.length : Int), 0, ())).bind fun l15 =>
          some ((l15.1, true, ()), ())
noncomputable def ct_S_LinesSince : Ct := ⟨[(.bor, S_S_string), (.bor, (.int .i64))], [(S_string, .b), (.bool, .b)], fun x => f_S_LinesSince x.1 x.2.1⟩
noncomputable def cx_S_LinesSince : Cx := ⟨tab, arrs, [(51, ct_S_l12Good), (58, ct_S_l1In), (61, ct_S_l12Since)], [], gl, []⟩
theorem eb_S_LinesSince_5 (t0 : PV S_S_string) (t1 : PV (.int .i64)) (t6 : PV S_string) (t21 : PV S_int) (t22 : PV (.int .i64)) (t23 : PV (.int .i64)) : denK cx_S_LinesSince (rcN cx_S_LinesSince 0) pl_S_LinesSince 0 ((loopsOf (bodyOf Try.f23)).getD 0 .skip) (fillS sh_S_LinesSince_5 (t0, t1, t6, t21, t22, t23, ())) (roundK 0 lp_S_LinesSince_5) = b_S_LinesSince_5 t0 t1 t6 t21 t22 t23 := by kernel_rfl
theorem ef_S_LinesSince (t0 : PV S_S_string) (t1 : PV (.int .i64)) : denF cx_S_LinesSince 0 pl_S_LinesSince Try.f23.ntmps (bodyOf Try.f23) Try.f23.results.toList [(.bor, S_S_string), (.bor, (.int .i64))] [(S_string, .b), (.bool, .b)] (t0, t1, ()) = f_S_LinesSince t0 t1 := by kernel_rfl
theorem ok_S_LinesSince : FnOk gl Try.prog 23 ct_S_LinesSince :=
  fnOk (cx := cx_S_LinesSince) (pl := pl_S_LinesSince) (dp := 0) (ok0_of tabOk (by unfold ArrOk; kernel_rfl) mix ⟨ok_S_l12Good, ok_S_l1In, ok_S_l12Since, trivial⟩ trivial) Try.func23 (by kernel_rfl) (by kernel_rfl) (by kernel_rfl)
    (by rw [show loopsOf (bodyOf Try.f23) = [((loopsOf (bodyOf Try.f23)).getD 0 .skip)] from by kernel_rfl]; exact ⟨(by rw [show lookup pl_S_LinesSince.loops (firstId ((loopsOf (bodyOf Try.f23)).getD 0 .skip)) = some lp_S_LinesSince_5 from by kernel_rfl]; exact fun d z h => (eb_S_LinesSince_5 d.1 d.2.1 d.2.2.1 d.2.2.2.1 d.2.2.2.2.1 d.2.2.2.2.2.1).trans h), trivial⟩) (fun x => ef_S_LinesSince x.1 x.2.1)
noncomputable def sh_L_sameTexts_4 : List Sh := mkSh 26 [(0, .val S_string .b), (1, .val S_string .b), (12, .val (.int .i64) .b), (13, .val (.int .i64) .b)]
noncomputable def o_L_sameTexts_4 : List Out := [⟨.exit 0, ⟨[], [], []⟩, mkSh 26 []⟩, ⟨.ret, ⟨[], [4], []⟩, mkSh 26 [(4, .val .bool .b)]⟩]
noncomputable def b_L_sameTexts_4 (t0 : PV S_string) (t1 : PV S_string) (t12 : PV (.int .i64)) (t13 : PV (.int .i64)) : Option ((PV S_string × PV S_string × PV (.int .i64) × PV (.int .i64) × Unit) ⊕ ((Unit) ⊕ (PV .bool × Unit))) :=
  bif (decide (t13 < t12)) then
    bif inB t13 t0.length then
      bif inB t13 t1.length then
        bif (!((t0.getD t13.toNat []) == (t1.getD t13.toNat []))) then
          some (.inr (.inr (false, ())))
        else
          some (.inl (t0, t1, t12, (IntKind.wrap .i64 (t13 + 1)), ()))
      else
        none
    else
      none
  else
    some (.inr (.inl ()))
noncomputable def w_L_sameTexts_4 : PV S_string × PV S_string × PV (.int .i64) × PV (.int .i64) × Unit → Option ((Unit) ⊕ (PV .bool × Unit)) := fix fun d => b_L_sameTexts_4 d.1 d.2.1 d.2.2.1 d.2.2.2.1
noncomputable def lp_L_sameTexts_4 : Lp := ⟨⟨[], [0, 1, 12, 13], []⟩, sh_L_sameTexts_4, o_L_sameTexts_4, fun d => b_L_sameTexts_4 d.1 d.2.1 d.2.2.1 d.2.2.2.1⟩
noncomputable def pl_L_sameTexts : Plan := ⟨[], [(4, lp_L_sameTexts_4)], 0, 0⟩
noncomputable def f_L_sameTexts (t0 : PV S_string) (t1 : PV S_string) : Option (PVs [.bool] × PVs []) :=
  bif (!((t0.length : Int) == (t1.length : Int))) then
    some ((false, ()), ())
  else
    (w_L_sameTexts_4 (t0, t1, (t0.length : Int), 0, ())).bind fun x5 =>
      match x5 with
      | .inl l3 =>
        some ((true, ()), ())
      | .inr l4 =>
        some ((l4.1, ()), ())
noncomputable def ct_L_sameTexts : Ct := ⟨[(.bor, S_string), (.bor, S_string)], [(.bool, .b)], fun x => f_L_sameTexts x.1 x.2.1⟩
noncomputable def cx_L_sameTexts : Cx := ⟨tab, arrs, [], [], gl, []⟩
theorem eb_L_sameTexts_4 (t0 : PV S_string) (t1 : PV S_string) (t12 : PV (.int .i64)) (t13 : PV (.int .i64)) : denK cx_L_sameTexts (rcN cx_L_sameTexts 0) pl_L_sameTexts 0 ((loopsOf (bodyOf Try.f12)).getD 0 .skip) (fillS sh_L_sameTexts_4 (t0, t1, t12, t13, ())) (roundK 0 lp_L_sameTexts_4) = b_L_sameTexts_4 t0 t1 t12 t13 := by kernel_rfl
theorem ef_L_sameTexts (t0 : PV S_string) (t1 : PV S_string) : denF cx_L_sameTexts 0 pl_L_sameTexts Try.f12.ntmps (bodyOf Try.f12) Try.f12.results.toList [(.bor, S_string), (.bor, S_string)] [(.bool, .b)] (t0, t1, ()) = f_L_sameTexts t0 t1 := by kernel_rfl
theorem ok_L_sameTexts : FnOk gl Try.prog 12 ct_L_sameTexts :=
  fnOk (cx := cx_L_sameTexts) (pl := pl_L_sameTexts) (dp := 0) (ok0_of tabOk (by unfold ArrOk; kernel_rfl) mix trivial trivial) Try.func12 (by kernel_rfl) (by kernel_rfl) (by kernel_rfl)
    (by rw [show loopsOf (bodyOf Try.f12) = [((loopsOf (bodyOf Try.f12)).getD 0 .skip)] from by kernel_rfl]; exact ⟨(by rw [show lookup pl_L_sameTexts.loops (firstId ((loopsOf (bodyOf Try.f12)).getD 0 .skip)) = some lp_L_sameTexts_4 from by kernel_rfl]; exact fun d z h => (eb_L_sameTexts_4 d.1 d.2.1 d.2.2.1 d.2.2.2.1).trans h), trivial⟩) (fun x => ef_L_sameTexts x.1 x.2.1)
noncomputable def o_L_FnChurn_7 : List Out := [⟨.normal, ⟨[], [1, 5, 6, 7, 50, 82, 83, 86, 87, 88, 89, 90, 91, 92, 93, 94, 97, 98, 99, 100, 103, 104, 105, 106, 150, 151, 152, 155, 156, 157, 160, 161, 162], []⟩, mkSh 164 [(1, .val S_uint8 .b), (5, .val S_S_string .b), (6, .val S_S_int .b), (7, .val .bool .b), (50, .val .bool .b)]⟩]
noncomputable def o_L_FnChurn_16 : List Out := [⟨.normal, ⟨[], [1, 5, 58, 59, 60, 107, 150, 151, 152, 155, 156, 157, 160, 161, 162], []⟩, mkSh 164 [(1, .val S_uint8 .b), (5, .val S_S_string .b), (58, .val S_S_int .b), (59, .val (.int .i64) .b), (60, .val (.int .i64) .b), (107, .val .bool .b)]⟩]
noncomputable def o_L_FnChurn_18 : List Out := [⟨.normal, ⟨[], [1, 150, 151, 152, 155, 156, 157, 160, 161, 162], []⟩, mkSh 164 [(1, .val S_uint8 .b)]⟩, ⟨.ret, ⟨[], [4], []⟩, mkSh 164 [(4, .val .bool .b)]⟩]
noncomputable def sh_L_FnChurn_12 : List Sh := mkSh 164 [(1, .val S_uint8 .b), (5, .val S_S_string .b), (58, .val S_S_int .b), (59, .val (.int .i64) .b), (60, .val (.int .i64) .b)]
noncomputable def o_L_FnChurn_12 : List Out := [⟨.exit 0, ⟨[], [1, 150, 151, 152, 155, 156, 157, 160, 161, 162], []⟩, mkSh 164 [(1, .val S_uint8 .b)]⟩, ⟨.ret, ⟨[], [4], []⟩, mkSh 164 [(4, .val .bool .b)]⟩]
noncomputable def b_L_FnChurn_12 (t1 : PV S_uint8) (t5 : PV S_S_string) (t58 : PV S_S_int) (t59 : PV (.int .i64)) (t60 : PV (.int .i64)) : Option ((PV S_uint8 × PV S_S_string × PV S_S_int × PV (.int .i64) × PV (.int .i64) × Unit) ⊕ ((PV S_uint8 × Unit) ⊕ (PV .bool × Unit))) :=
  bif (decide (t60 < t59)) then
    bif inB t60 t58.length then
      bif inB t60 t5.length then
        bif inB (IntKind.wrap .i64 (t60 + 1)) t5.length then
          (f_I_FarApart (t5.getD t60.toNat []) (t5.getD ((IntKind.wrap .i64 (t60 + 1)).toNat) [])).bind fun r20 =>
            ((
                bif (!(((t58.getD t60.toNat []).length : Int) == 2)) then
                  some (t1, t5, t58, t59, t60, true, ())
                else
                  bif (!r20.1.2.1) then
                    some (t1, t5, t58, t59, t60, true, ())
                  else
                    bif inB 0 (t58.getD t60.toNat []).length then
                      bif inB 1 (t58.getD t60.toNat []).length then
                        bif (!((IntKind.wrap .i64 (((t58.getD t60.toNat []).getD ((0 : Int).toNat) (0 : Int)) + ((t58.getD t60.toNat []).getD ((1 : Int).toNat) (0 : Int)))) == r20.1.1)) then
                          some (t1, t5, t58, t59, t60, true, ())
                        else
                          bif inB 0 (t58.getD t60.toNat []).length then
                            bif (decide (((t58.getD t60.toNat []).getD ((0 : Int).toNat) (0 : Int)) < 0)) then
                              some (t1, t5, t58, t59, t60, true, ())
                            else
                              bif inB 1 (t58.getD t60.toNat []).length then
                                some (t1, t5, t58, t59, t60, (decide (((t58.getD t60.toNat []).getD ((1 : Int).toNat) (0 : Int)) < 0)), ())
                              else
                                none
                          else
                            none
                      else
                        none
                    else
                      none : Option ((PV S_uint8 × PV S_S_string × PV S_S_int × PV (.int .i64) × PV (.int .i64) × PV .bool × Unit)))).bind fun j21 =>
              bif j21.2.2.2.2.2.1 then
                some (.inr (.inr (false, ())))
              else
                some (.inl (j21.1, j21.2.1, j21.2.2.1, j21.2.2.2.1, (IntKind.wrap .i64 (j21.2.2.2.2.1 + 1)), ()))
        else
          none
      else
        none
    else
      none
  else
    some (.inr (.inl (t1, ())))
noncomputable def w_L_FnChurn_12 : PV S_uint8 × PV S_S_string × PV S_S_int × PV (.int .i64) × PV (.int .i64) × Unit → Option ((PV S_uint8 × Unit) ⊕ (PV .bool × Unit)) := fix fun d => b_L_FnChurn_12 d.1 d.2.1 d.2.2.1 d.2.2.2.1 d.2.2.2.2.1
noncomputable def lp_L_FnChurn_12 : Lp := ⟨⟨[], [1, 5, 58, 59, 60, 82, 83, 86, 87, 88, 89, 90, 91, 92, 93, 94, 97, 98, 99, 100, 103, 104, 105, 106, 150, 151, 152, 155, 156, 157, 160, 161, 162], []⟩, sh_L_FnChurn_12, o_L_FnChurn_12, fun d => b_L_FnChurn_12 d.1 d.2.1 d.2.2.1 d.2.2.2.1 d.2.2.2.2.1⟩
noncomputable def pl_L_FnChurn : Plan := ⟨[(7, o_L_FnChurn_7), (16, o_L_FnChurn_16), (18, o_L_FnChurn_18)], [(12, lp_L_FnChurn_12)], 0, 0⟩
noncomputable def f_L_FnChurn (t0 : PV S_uint8) (t1 : PV S_uint8) : Option (PVs [.bool] × PVs []) :=
  (f_L_big t0 t1).bind fun r4 =>
    bif r4.1.1 then
      some ((true, ()), ())
    else
      (f_S_DrawChurnOf t0).bind fun r6 =>
        (f_I_ChurnOf r6.1.1).bind fun r8 =>
          (f_S_ChurnOf r6.1.1).bind fun r10 =>
            ((
                bif (!(r8.1.2.1 == r10.1.2.1)) then
                  some (t1, r6.1.1, r8.1.1, r8.1.2.1, true, ())
                else
                  (f_L_sameLists r8.1.1 r10.1.1).bind fun r14 =>
                    some (t1, r6.1.1, r8.1.1, r8.1.2.1, (!r14.1.1), ()) : Option ((PV S_uint8 × PV S_S_string × PV S_S_int × PV .bool × PV .bool × Unit)))).bind fun j15 =>
              bif j15.2.2.2.2.1 then
                some ((false, ()), ())
              else
                ((
                    bif j15.2.2.2.1 then
                      bif (!((j15.2.2.1.length : Int) == (IntKind.wrap .i64 ((j15.2.1.length : Int) - 1)))) then
                        some (.inr (false, ()))
                      else
                        (w_L_FnChurn_12 (j15.1, j15.2.1, j15.2.2.1, (j15.2.2.1.length : Int), 0, ())).bind fun x42 =>
                          match x42 with
                          | .inl l24 =>
                            some (.inl (l24.1, ()))
                          | .inr l25 =>
                            some (.inr (l25.1, ()))
                    else
                      some (.inl (j15.1, ())) : Option ((PV S_uint8 × Unit) ⊕ (PV .bool × Unit)))).bind fun x43 =>
                  match x43 with
                  | .inl j26 =>
                    (f_S_DrawTraceLine j26.1).bind fun r28 =>
                      (f_I_TraceLine r28.1.1 r28.1.2.1 r28.1.2.2.1).bind fun r30 =>
                        (f_S_TraceLine r28.1.1 r28.1.2.1 r28.1.2.2.1).bind fun r32 =>
                          (f_S_DrawLinesSince j26.1).bind fun r34 =>
                            (f_I_LinesSince r34.1.1 r34.1.2.1).bind fun r36 =>
                              (f_S_LinesSince r34.1.1 r34.1.2.1).bind fun r38 =>
                                bif (r30.1.2.1 == r32.1.2.1) then
                                  (f_L_sameInts r30.1.1 r32.1.1).bind fun r39 =>
                                    bif r39.1.1 then
                                      bif (r36.1.2.1 == r38.1.2.1) then
                                        (f_L_sameTexts r36.1.1 r38.1.1).bind fun r40 =>
                                          some ((r40.1.1, ()), ())
                                      else
                                        some ((false, ()), ())
                                    else
                                      some ((false, ()), ())
                                else
                                  some ((false, ()), ())
                  | .inr j41 =>
                    some ((j41.1, ()), ())
noncomputable def ct_L_FnChurn : Ct := ⟨[(.bor, S_uint8), (.bor, S_uint8)], [(.bool, .b)], fun x => f_L_FnChurn x.1 x.2.1⟩
noncomputable def cx_L_FnChurn : Cx := ⟨tab, arrs, [(6, ct_L_big), (12, ct_L_sameTexts), (13, ct_S_DrawChurnOf), (14, ct_I_ChurnOf), (15, ct_S_ChurnOf), (16, ct_L_sameLists), (17, ct_I_FarApart), (18, ct_S_DrawTraceLine), (19, ct_I_TraceLine), (20, ct_S_TraceLine), (21, ct_S_DrawLinesSince), (22, ct_I_LinesSince), (23, ct_S_LinesSince), (24, ct_L_sameInts)], [], gl, []⟩
theorem eb_L_FnChurn_12 (t1 : PV S_uint8) (t5 : PV S_S_string) (t58 : PV S_S_int) (t59 : PV (.int .i64)) (t60 : PV (.int .i64)) : denK cx_L_FnChurn (rcN cx_L_FnChurn 0) pl_L_FnChurn 0 ((loopsOf (bodyOf Try.f4)).getD 0 .skip) (fillS sh_L_FnChurn_12 (t1, t5, t58, t59, t60, ())) (roundK 0 lp_L_FnChurn_12) = b_L_FnChurn_12 t1 t5 t58 t59 t60 := by kernel_rfl
theorem ef_L_FnChurn (t0 : PV S_uint8) (t1 : PV S_uint8) : denF cx_L_FnChurn 0 pl_L_FnChurn Try.f4.ntmps (bodyOf Try.f4) Try.f4.results.toList [(.bor, S_uint8), (.bor, S_uint8)] [(.bool, .b)] (t0, t1, ()) = f_L_FnChurn t0 t1 := by kernel_rfl
theorem ok_L_FnChurn : FnOk gl Try.prog 4 ct_L_FnChurn :=
  fnOk (cx := cx_L_FnChurn) (pl := pl_L_FnChurn) (dp := 0) (ok0_of tabOk (by unfold ArrOk; kernel_rfl) mix ⟨ok_L_big, ok_L_sameTexts, ok_S_DrawChurnOf, ok_I_ChurnOf, ok_S_ChurnOf, ok_L_sameLists, ok_I_FarApart, ok_S_DrawTraceLine, ok_I_TraceLine, ok_S_TraceLine, ok_S_DrawLinesSince, ok_I_LinesSince, ok_S_LinesSince, ok_L_sameInts, trivial⟩ trivial) Try.func4 (by kernel_rfl) (by kernel_rfl) (by kernel_rfl)
    (by rw [show loopsOf (bodyOf Try.f4) = [((loopsOf (bodyOf Try.f4)).getD 0 .skip)] from by kernel_rfl]; exact ⟨(by rw [show lookup pl_L_FnChurn.loops (firstId ((loopsOf (bodyOf Try.f4)).getD 0 .skip)) = some lp_L_FnChurn_12 from by kernel_rfl]; exact fun d z h => (eb_L_FnChurn_12 d.1 d.2.1 d.2.2.1 d.2.2.2.1 d.2.2.2.2.1).trans h), trivial⟩) (fun x => ef_L_FnChurn x.1 x.2.1)
end R
