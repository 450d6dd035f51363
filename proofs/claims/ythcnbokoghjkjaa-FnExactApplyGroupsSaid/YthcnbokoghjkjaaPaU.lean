/- The functions, part 2. -/
import Derived.Test.YthcnbokoghjkjaaPaU1
open Go Go.Dn Go.Proofs
namespace R
set_option linter.unusedVariables false
set_option maxRecDepth 20000
open Go.Shelf
noncomputable def o_S_l2Hunks_5 : List Out := [⟨.normal, ⟨[], [0, 1, 6, 9, 10, 11, 75, 92, 93]⟩, mkSh 95 [(0, .val (.int .i64) .b), (1, .val S_impl_Hunk .b), (6, .var Y_impl_Hunk .b), (9, .val S_impl_Hunk .b), (10, .val (.int .i64) .b), (11, .val (.int .i64) .b), (75, .val .bool .b)]⟩]
noncomputable def sh_S_l2Hunks_7 : List Sh := mkSh 95 [(0, .val (.int .i64) .b), (1, .val S_impl_Hunk .b), (9, .val S_impl_Hunk .b), (10, .val (.int .i64) .b), (11, .val (.int .i64) .b), (77, .val S_string .b), (78, .val (.int .i64) .b), (79, .val (.int .i64) .b)]
noncomputable def o_S_l2Hunks_7 : List Out := [⟨.exit 2, ⟨[], [0, 1, 9, 10, 11, 20, 21, 22, 25, 26, 27, 28, 31, 32, 33, 34, 35, 36, 37, 40, 41, 42, 43, 44, 45, 46, 49, 50, 51, 52, 55, 56, 57, 58, 59, 60, 61, 62, 63, 64, 65, 66, 67, 68, 69, 70, 71, 72, 73, 74, 92, 93]⟩, mkSh 95 [(0, .val (.int .i64) .b), (1, .val S_impl_Hunk .b), (9, .val S_impl_Hunk .b), (10, .val (.int .i64) .b), (11, .val (.int .i64) .b)]⟩, ⟨.ret, ⟨[], [4]⟩, mkSh 95 [(4, .val .bool .b)]⟩]
noncomputable def b_S_l2Hunks_7 (t0 : PV (.int .i64)) (t1 : PV S_impl_Hunk) (t9 : PV S_impl_Hunk) (t10 : PV (.int .i64)) (t11 : PV (.int .i64)) (t77 : PV S_string) (t78 : PV (.int .i64)) (t79 : PV (.int .i64)) : Option ((PV (.int .i64) × PV S_impl_Hunk × PV S_impl_Hunk × PV (.int .i64) × PV (.int .i64) × PV S_string × PV (.int .i64) × PV (.int .i64) × Unit) ⊕ ((PV (.int .i64) × PV S_impl_Hunk × PV S_impl_Hunk × PV (.int .i64) × PV (.int .i64) × Unit) ⊕ (PV .bool × Unit))) :=
  bif (decide (t79 < t78)) then
    bif inB t79 t77.length then
      (f_S_l1Line (t77.getD t79.toNat [])).bind fun r6 =>
        bif (!r6.1.1) then
          some (.inr (.inr (false, ())))
        else
          some (.inl (t0, t1, t9, t10, t11, t77, t78, (IntKind.wrap .i64 (t79 + 1)), ()))
    else
      none
  else
    some (.inr (.inl (t0, t1, t9, t10, t11, ())))
noncomputable def w_S_l2Hunks_7 : PV (.int .i64) × PV S_impl_Hunk × PV S_impl_Hunk × PV (.int .i64) × PV (.int .i64) × PV S_string × PV (.int .i64) × PV (.int .i64) × Unit → Option ((PV (.int .i64) × PV S_impl_Hunk × PV S_impl_Hunk × PV (.int .i64) × PV (.int .i64) × Unit) ⊕ (PV .bool × Unit)) := fix fun d => b_S_l2Hunks_7 d.1 d.2.1 d.2.2.1 d.2.2.2.1 d.2.2.2.2.1 d.2.2.2.2.2.1 d.2.2.2.2.2.2.1 d.2.2.2.2.2.2.2.1
noncomputable def lp_S_l2Hunks_7 : Lp := ⟨⟨[], [0, 1, 9, 10, 11, 20, 21, 22, 25, 26, 27, 28, 31, 32, 33, 34, 35, 36, 37, 40, 41, 42, 43, 44, 45, 46, 49, 50, 51, 52, 55, 56, 57, 58, 59, 60, 61, 62, 63, 64, 65, 66, 67, 68, 69, 70, 71, 72, 73, 74, 77, 78, 79, 92, 93]⟩, sh_S_l2Hunks_7, o_S_l2Hunks_7, fun d => b_S_l2Hunks_7 d.1 d.2.1 d.2.2.1 d.2.2.2.1 d.2.2.2.2.1 d.2.2.2.2.2.1 d.2.2.2.2.2.2.1 d.2.2.2.2.2.2.2.1⟩
noncomputable def sh_S_l2Hunks_2 : List Sh := mkSh 95 [(0, .val (.int .i64) .b), (1, .val S_impl_Hunk .b), (9, .val S_impl_Hunk .b), (10, .val (.int .i64) .b), (11, .val (.int .i64) .b)]
noncomputable def o_S_l2Hunks_2 : List Out := [⟨.exit 0, ⟨[], [0, 1, 92, 93]⟩, mkSh 95 [(0, .val (.int .i64) .b), (1, .val S_impl_Hunk .b)]⟩, ⟨.ret, ⟨[], [4]⟩, mkSh 95 [(4, .val .bool .b)]⟩]
noncomputable def b_S_l2Hunks_2 (t0 : PV (.int .i64)) (t1 : PV S_impl_Hunk) (t9 : PV S_impl_Hunk) (t10 : PV (.int .i64)) (t11 : PV (.int .i64)) : Option ((PV (.int .i64) × PV S_impl_Hunk × PV S_impl_Hunk × PV (.int .i64) × PV (.int .i64) × Unit) ⊕ ((PV (.int .i64) × PV S_impl_Hunk × Unit) ⊕ (PV .bool × Unit))) :=
  bif (decide (t11 < t10)) then
    bif inB t11 t9.length then
      ((
          bif (decide (((t9.getD t11.toNat (dflt Y_impl_Hunk)).1) < 0)) then
            some (t0, t1, (t9.getD t11.toNat (dflt Y_impl_Hunk)), t9, t10, t11, true, ())
          else
            bif (decide ((((t9.getD t11.toNat (dflt Y_impl_Hunk)).2).1) < 0)) then
              some (t0, t1, (t9.getD t11.toNat (dflt Y_impl_Hunk)), t9, t10, t11, true, ())
            else
              bif (decide ((((t9.getD t11.toNat (dflt Y_impl_Hunk)).2).1) > t0)) then
                some (t0, t1, (t9.getD t11.toNat (dflt Y_impl_Hunk)), t9, t10, t11, true, ())
              else
                bif (decide (((t9.getD t11.toNat (dflt Y_impl_Hunk)).1) > (IntKind.wrap .i64 (t0 - (((t9.getD t11.toNat (dflt Y_impl_Hunk)).2).1))))) then
                  some (t0, t1, (t9.getD t11.toNat (dflt Y_impl_Hunk)), t9, t10, t11, true, ())
                else
                  bif ((IntKind.wrap .i64 ((((t9.getD t11.toNat (dflt Y_impl_Hunk)).2).1) + (((((t9.getD t11.toNat (dflt Y_impl_Hunk)).2).2).1).length : Int))) == 0) then
                    some (t0, t1, (t9.getD t11.toNat (dflt Y_impl_Hunk)), t9, t10, t11, true, ())
                  else
                    bif (decide ((((((t9.getD t11.toNat (dflt Y_impl_Hunk)).2).2).1).length : Int) > 40)) then
                      some (t0, t1, (t9.getD t11.toNat (dflt Y_impl_Hunk)), t9, t10, t11, true, ())
                    else
                      bif (decide (t11 > 0)) then
                        bif inB (IntKind.wrap .i64 (t11 - 1)) t1.length then
                          bif inB (IntKind.wrap .i64 (t11 - 1)) t1.length then
                            some (t0, t1, (t9.getD t11.toNat (dflt Y_impl_Hunk)), t9, t10, t11, (decide (((t9.getD t11.toNat (dflt Y_impl_Hunk)).1) ≤ (IntKind.wrap .i64 (((t1.getD ((IntKind.wrap .i64 (t11 - 1)).toNat) (dflt Y_impl_Hunk)).1) + (((t1.getD ((IntKind.wrap .i64 (t11 - 1)).toNat) (dflt Y_impl_Hunk)).2).1))))), ())
                          else
                            none
                        else
                          none
                      else
                        some (t0, t1, (t9.getD t11.toNat (dflt Y_impl_Hunk)), t9, t10, t11, false, ()) : Option ((PV (.int .i64) × PV S_impl_Hunk × PV Y_impl_Hunk × PV S_impl_Hunk × PV (.int .i64) × PV (.int .i64) × PV .bool × Unit)))).bind fun j6 =>
        bif j6.2.2.2.2.2.2.1 then
          some (.inr (.inr (false, ())))
        else
          (w_S_l2Hunks_7 (j6.1, j6.2.1, j6.2.2.2.1, j6.2.2.2.2.1, j6.2.2.2.2.2.1, j6.2.2.1.2.2.1, (j6.2.2.1.2.2.1.length : Int), 0, ())).bind fun x14 =>
            match x14 with
            | .inl l7 =>
              some (.inl (l7.1, l7.2.1, l7.2.2.1, l7.2.2.2.1, (IntKind.wrap .i64 (l7.2.2.2.2.1 + 1)), ()))
            | .inr l8 =>
              some (.inr (.inr (l8.1, ())))
    else
      none
  else
    some (.inr (.inl (t0, t1, ())))
noncomputable def w_S_l2Hunks_2 : PV (.int .i64) × PV S_impl_Hunk × PV S_impl_Hunk × PV (.int .i64) × PV (.int .i64) × Unit → Option ((PV (.int .i64) × PV S_impl_Hunk × Unit) ⊕ (PV .bool × Unit)) := fix fun d => b_S_l2Hunks_2 d.1 d.2.1 d.2.2.1 d.2.2.2.1 d.2.2.2.2.1
noncomputable def lp_S_l2Hunks_2 : Lp := ⟨⟨[], [0, 1, 9, 10, 11, 20, 21, 22, 25, 26, 27, 28, 31, 32, 33, 34, 35, 36, 37, 40, 41, 42, 43, 44, 45, 46, 49, 50, 51, 52, 55, 56, 57, 58, 59, 60, 61, 62, 63, 64, 65, 66, 67, 68, 69, 70, 71, 72, 73, 74, 92, 93]⟩, sh_S_l2Hunks_2, o_S_l2Hunks_2, fun d => b_S_l2Hunks_2 d.1 d.2.1 d.2.2.1 d.2.2.2.1 d.2.2.2.2.1⟩
noncomputable def pl_S_l2Hunks : Plan := ⟨[(5, o_S_l2Hunks_5)], [(7, lp_S_l2Hunks_7), (2, lp_S_l2Hunks_2)], 0, 0⟩
noncomputable def f_S_l2Hunks (t0 : PV (.int .i64)) (t1 : PV S_impl_Hunk) : Option (PVs [.bool] × PVs []) :=
  (w_S_l2Hunks_2 (t0, t1, t1, (t1.length : Int), 0, ())).bind fun x15 =>
    match x15 with
    | .inl l11 =>
      bif (decide ((l11.2.1.length : Int) ≤ 20)) then
        (f_S_l1In l11.1 0 40).bind fun r12 =>
          some ((r12.1.1, ()), ())
      else
        some ((false, ()), ())
    | .inr l13 =>
      some ((l13.1, ()), ())
noncomputable def ct_S_l2Hunks : Ct := ⟨[(.bor, (.int .i64)), (.bor, S_impl_Hunk)], [(.bool, false)], fun x => f_S_l2Hunks x.1 x.2.1⟩
noncomputable def cx_S_l2Hunks : Cx := ⟨tab, arrs, [(91, ct_S_l1In), (161, ct_S_l1Line)], []⟩
theorem eb_S_l2Hunks_2 (t0 : PV (.int .i64)) (t1 : PV S_impl_Hunk) (t9 : PV S_impl_Hunk) (t10 : PV (.int .i64)) (t11 : PV (.int .i64)) : denK cx_S_l2Hunks (rcN cx_S_l2Hunks 0) pl_S_l2Hunks 0 ((loopsOf (bodyOf Try.f101)).getD 0 .skip) (fillS sh_S_l2Hunks_2 (t0, t1, t9, t10, t11, ())) (roundK 0 lp_S_l2Hunks_2) = b_S_l2Hunks_2 t0 t1 t9 t10 t11 := by kernel_rfl
theorem eb_S_l2Hunks_7 (t0 : PV (.int .i64)) (t1 : PV S_impl_Hunk) (t9 : PV S_impl_Hunk) (t10 : PV (.int .i64)) (t11 : PV (.int .i64)) (t77 : PV S_string) (t78 : PV (.int .i64)) (t79 : PV (.int .i64)) : denK cx_S_l2Hunks (rcN cx_S_l2Hunks 0) pl_S_l2Hunks 0 ((loopsOf (bodyOf Try.f101)).getD 1 .skip) (fillS sh_S_l2Hunks_7 (t0, t1, t9, t10, t11, t77, t78, t79, ())) (roundK 0 lp_S_l2Hunks_7) = b_S_l2Hunks_7 t0 t1 t9 t10 t11 t77 t78 t79 := by kernel_rfl
theorem ef_S_l2Hunks (t0 : PV (.int .i64)) (t1 : PV S_impl_Hunk) : denF cx_S_l2Hunks 0 pl_S_l2Hunks Try.f101.ntmps (bodyOf Try.f101) Try.f101.results.toList [(.bor, (.int .i64)), (.bor, S_impl_Hunk)] [(.bool, false)] (t0, t1, ()) = f_S_l2Hunks t0 t1 := by kernel_rfl
theorem ok_S_l2Hunks : FnOk Try.prog 101 ct_S_l2Hunks :=
  fnOk (cx := cx_S_l2Hunks) (pl := pl_S_l2Hunks) (dp := 0) (ok0_of tabOk (by unfold ArrOk; kernel_rfl) mix ⟨ok_S_l1In, ok_S_l1Line, trivial⟩ trivial) Try.func101 (by kernel_rfl) (by kernel_rfl) (by kernel_rfl)
    (by rw [show loopsOf (bodyOf Try.f101) = [((loopsOf (bodyOf Try.f101)).getD 0 .skip), ((loopsOf (bodyOf Try.f101)).getD 1 .skip)] from by kernel_rfl]; exact ⟨(by rw [show lookup pl_S_l2Hunks.loops (firstId ((loopsOf (bodyOf Try.f101)).getD 0 .skip)) = some lp_S_l2Hunks_2 from by kernel_rfl]; exact fun d z h => (eb_S_l2Hunks_2 d.1 d.2.1 d.2.2.1 d.2.2.2.1 d.2.2.2.2.1).trans h), (by rw [show lookup pl_S_l2Hunks.loops (firstId ((loopsOf (bodyOf Try.f101)).getD 1 .skip)) = some lp_S_l2Hunks_7 from by kernel_rfl]; exact fun d z h => (eb_S_l2Hunks_7 d.1 d.2.1 d.2.2.1 d.2.2.2.1 d.2.2.2.2.1 d.2.2.2.2.2.1 d.2.2.2.2.2.2.1 d.2.2.2.2.2.2.2.1).trans h), trivial⟩) (fun x => ef_S_l2Hunks x.1 x.2.1)
noncomputable def pl_S_l2Asked : Plan := ⟨[], [], 0, 0⟩
noncomputable def f_S_l2Asked (t0 : PV S_string) (t1 : PV S_impl_Hunk) : Option (PVs [.bool] × PVs []) :=
  (f_S_l1Good t0).bind fun r1 =>
    bif r1.1.1 then
      (f_S_l2Hunks (t0.length : Int) t1).bind fun r2 =>
        some ((r2.1.1, ()), ())
    else
      some ((false, ()), ())
noncomputable def ct_S_l2Asked : Ct := ⟨[(.bor, S_string), (.bor, S_impl_Hunk)], [(.bool, false)], fun x => f_S_l2Asked x.1 x.2.1⟩
noncomputable def cx_S_l2Asked : Cx := ⟨tab, arrs, [(101, ct_S_l2Hunks), (126, ct_S_l1Good)], []⟩
theorem ef_S_l2Asked (t0 : PV S_string) (t1 : PV S_impl_Hunk) : denF cx_S_l2Asked 0 pl_S_l2Asked Try.f156.ntmps (bodyOf Try.f156) Try.f156.results.toList [(.bor, S_string), (.bor, S_impl_Hunk)] [(.bool, false)] (t0, t1, ()) = f_S_l2Asked t0 t1 := by kernel_rfl
theorem ok_S_l2Asked : FnOk Try.prog 156 ct_S_l2Asked :=
  fnOk (cx := cx_S_l2Asked) (pl := pl_S_l2Asked) (dp := 0) (ok0_of tabOk (by unfold ArrOk; kernel_rfl) mix ⟨ok_S_l2Hunks, ok_S_l1Good, trivial⟩ trivial) Try.func156 (by kernel_rfl) (by kernel_rfl) (by kernel_rfl)
    (by rw [show loopsOf (bodyOf Try.f156) = [] from by kernel_rfl]; exact trivial) (fun x => ef_S_l2Asked x.1 x.2.1)
noncomputable def sh_S_l2Patch_4 : List Sh := mkSh 37 [(0, .val S_string .b), (5, .val S_string (.row .b)), (6, .val (.int .i64) .b), (9, .val S_impl_Hunk .b), (10, .val (.int .i64) .b), (11, .val (.int .i64) .b)]
noncomputable def o_S_l2Patch_4 : List Out := [⟨.exit 0, ⟨[], [0, 5, 6]⟩, mkSh 37 [(0, .val S_string .b), (5, .val S_string (.row .b)), (6, .val (.int .i64) .b)]⟩]
noncomputable def b_S_l2Patch_4 (t0 : PV S_string) (t5 : PV S_string) (t6 : PV (.int .i64)) (t9 : PV S_impl_Hunk) (t10 : PV (.int .i64)) (t11 : PV (.int .i64)) : Option ((PV S_string × PV S_string × PV (.int .i64) × PV S_impl_Hunk × PV (.int .i64) × PV (.int .i64) × Unit) ⊕ ((PV S_string × PV S_string × PV (.int .i64) × Unit))) :=
  bif (decide (t11 < t10)) then
    bif inB t11 t9.length then
      bif cutB t6 ((t9.getD t11.toNat (dflt Y_impl_Hunk)).1) t0.length then
        bif roomB (t5.length + (cutL t6 ((t9.getD t11.toNat (dflt Y_impl_Hunk)).1) t0).length) then
          bif roomB ((t5 ++ (cutL t6 ((t9.getD t11.toNat (dflt Y_impl_Hunk)).1) t0)).length + ((((t9.getD t11.toNat (dflt Y_impl_Hunk)).2).2).1).length) then
            some (.inl (t0, ((t5 ++ (cutL t6 ((t9.getD t11.toNat (dflt Y_impl_Hunk)).1) t0)) ++ ((((t9.getD t11.toNat (dflt Y_impl_Hunk)).2).2).1)), (IntKind.wrap .i64 (((t9.getD t11.toNat (dflt Y_impl_Hunk)).1) + (((t9.getD t11.toNat (dflt Y_impl_Hunk)).2).1))), t9, t10, (IntKind.wrap .i64 (t11 + 1)), ()))
          else
            none
        else
          none
      else
        none
    else
      none
  else
    some (.inr (t0, t5, t6, ()))
noncomputable def w_S_l2Patch_4 : PV S_string × PV S_string × PV (.int .i64) × PV S_impl_Hunk × PV (.int .i64) × PV (.int .i64) × Unit → Option ((PV S_string × PV S_string × PV (.int .i64) × Unit)) := fix fun d => b_S_l2Patch_4 d.1 d.2.1 d.2.2.1 d.2.2.2.1 d.2.2.2.2.1 d.2.2.2.2.2.1
noncomputable def lp_S_l2Patch_4 : Lp := ⟨⟨[], [0, 5, 6, 9, 10, 11]⟩, sh_S_l2Patch_4, o_S_l2Patch_4, fun d => b_S_l2Patch_4 d.1 d.2.1 d.2.2.1 d.2.2.2.1 d.2.2.2.2.1 d.2.2.2.2.2.1⟩
noncomputable def pl_S_l2Patch : Plan := ⟨[], [(4, lp_S_l2Patch_4)], 0, 0⟩
noncomputable def f_S_l2Patch (t0 : PV S_string) (t1 : PV S_impl_Hunk) : Option (PVs [S_string] × PVs []) :=
  (w_S_l2Patch_4 (t0, [], 0, t1, (t1.length : Int), 0, ())).bind fun l2 =>
    bif cutB l2.2.2.1 (l2.1.length : Int) l2.1.length then
      bif roomB (l2.2.1.length + (cutL l2.2.2.1 (l2.1.length : Int) l2.1).length) then
        some (((l2.2.1 ++ (cutL l2.2.2.1 (l2.1.length : Int) l2.1)), ()), ())
      else
        none
    else
      none
noncomputable def ct_S_l2Patch : Ct := ⟨[(.bor, S_string), (.bor, S_impl_Hunk)], [(S_string, true)], fun x => f_S_l2Patch x.1 x.2.1⟩
noncomputable def cx_S_l2Patch : Cx := ⟨tab, arrs, [], []⟩
theorem eb_S_l2Patch_4 (t0 : PV S_string) (t5 : PV S_string) (t6 : PV (.int .i64)) (t9 : PV S_impl_Hunk) (t10 : PV (.int .i64)) (t11 : PV (.int .i64)) : denK cx_S_l2Patch (rcN cx_S_l2Patch 0) pl_S_l2Patch 0 ((loopsOf (bodyOf Try.f82)).getD 0 .skip) (fillS sh_S_l2Patch_4 (t0, t5, t6, t9, t10, t11, ())) (roundK 0 lp_S_l2Patch_4) = b_S_l2Patch_4 t0 t5 t6 t9 t10 t11 := by kernel_rfl
theorem ef_S_l2Patch (t0 : PV S_string) (t1 : PV S_impl_Hunk) : denF cx_S_l2Patch 0 pl_S_l2Patch Try.f82.ntmps (bodyOf Try.f82) Try.f82.results.toList [(.bor, S_string), (.bor, S_impl_Hunk)] [(S_string, true)] (t0, t1, ()) = f_S_l2Patch t0 t1 := by kernel_rfl
theorem ok_S_l2Patch : FnOk Try.prog 82 ct_S_l2Patch :=
  fnOk (cx := cx_S_l2Patch) (pl := pl_S_l2Patch) (dp := 0) (ok0_of tabOk (by unfold ArrOk; kernel_rfl) mix trivial trivial) Try.func82 (by kernel_rfl) (by kernel_rfl) (by kernel_rfl)
    (by rw [show loopsOf (bodyOf Try.f82) = [((loopsOf (bodyOf Try.f82)).getD 0 .skip)] from by kernel_rfl]; exact ⟨(by rw [show lookup pl_S_l2Patch.loops (firstId ((loopsOf (bodyOf Try.f82)).getD 0 .skip)) = some lp_S_l2Patch_4 from by kernel_rfl]; exact fun d z h => (eb_S_l2Patch_4 d.1 d.2.1 d.2.2.1 d.2.2.2.1 d.2.2.2.2.1 d.2.2.2.2.2.1).trans h), trivial⟩) (fun x => ef_S_l2Patch x.1 x.2.1)
noncomputable def pl_S_Patch : Plan := ⟨[], [], 0, 0⟩
noncomputable def f_S_Patch (t0 : PV S_string) (t1 : PV S_impl_Hunk) : Option (PVs [S_string, .bool] × PVs []) :=
  (f_S_l2Asked t0 t1).bind fun r4 =>
    bif (!r4.1.1) then
      some (([], false, ()), ())
    else
      (f_S_l2Patch t0 t1).bind fun r6 =>
        (f_S_l1Good r6.1.1).bind fun r10 =>
          bif (!r10.1.1) then
            some (([], false, ()), ())
          else
            some ((r6.1.1, true, ()), ())
noncomputable def ct_S_Patch : Ct := ⟨[(.bor, S_string), (.bor, S_impl_Hunk)], [(S_string, true), (.bool, false)], fun x => f_S_Patch x.1 x.2.1⟩
noncomputable def cx_S_Patch : Cx := ⟨tab, arrs, [(82, ct_S_l2Patch), (126, ct_S_l1Good), (156, ct_S_l2Asked)], []⟩
theorem ef_S_Patch (t0 : PV S_string) (t1 : PV S_impl_Hunk) : denF cx_S_Patch 0 pl_S_Patch Try.f81.ntmps (bodyOf Try.f81) Try.f81.results.toList [(.bor, S_string), (.bor, S_impl_Hunk)] [(S_string, true), (.bool, false)] (t0, t1, ()) = f_S_Patch t0 t1 := by kernel_rfl
theorem ok_S_Patch : FnOk Try.prog 81 ct_S_Patch :=
  fnOk (cx := cx_S_Patch) (pl := pl_S_Patch) (dp := 0) (ok0_of tabOk (by unfold ArrOk; kernel_rfl) mix ⟨ok_S_l2Patch, ok_S_l1Good, ok_S_l2Asked, trivial⟩ trivial) Try.func81 (by kernel_rfl) (by kernel_rfl) (by kernel_rfl)
    (by rw [show loopsOf (bodyOf Try.f81) = [] from by kernel_rfl]; exact trivial) (fun x => ef_S_Patch x.1 x.2.1)
noncomputable def o_S_ApplyGroups_3 : List Out := [⟨.normal, ⟨[], [0, 7, 8, 9, 24]⟩, mkSh 36 [(0, .val S_string .b), (7, .val S_impl_Hunk (.row (.pr .b (.pr .b (.pr (.row .b) .b))))), (8, .val (.int .i64) .b), (9, .val .bool .b), (24, .val .bool .b)]⟩]
noncomputable def pl_S_ApplyGroups : Plan := ⟨[(3, o_S_ApplyGroups_3)], [], 0, 0⟩
noncomputable def f_S_ApplyGroups (t0 : PV S_string) (t1 : PV S_impl_Group) : Option (PVs [S_string, (.int .i64), .bool] × PVs []) :=
  (f_S_GroupHunks t0 t1).bind fun r2 =>
    ((
        bif (!r2.1.2.2.1) then
          some (t0, r2.1.1, r2.1.2.1, r2.1.2.2.1, true, ())
        else
          some (t0, r2.1.1, r2.1.2.1, r2.1.2.2.1, (decide (r2.1.2.1 > 0)), ()) : Option ((PV S_string × PV S_impl_Hunk × PV (.int .i64) × PV .bool × PV .bool × Unit)))).bind fun j4 =>
      bif j4.2.2.2.2.1 then
        some (([], j4.2.2.1, j4.2.2.2.1, ()), ())
      else
        (f_S_Patch j4.1 j4.2.1).bind fun r6 =>
          bif (!r6.1.2.1) then
            some (([], 2, true, ()), ())
          else
            some ((r6.1.1, 0, true, ()), ())
noncomputable def ct_S_ApplyGroups : Ct := ⟨[(.bor, S_string), (.bor, S_impl_Group)], [(S_string, true), ((.int .i64), false), (.bool, false)], fun x => f_S_ApplyGroups x.1 x.2.1⟩
noncomputable def cx_S_ApplyGroups : Cx := ⟨tab, arrs, [(81, ct_S_Patch), (138, ct_S_GroupHunks)], []⟩
theorem ef_S_ApplyGroups (t0 : PV S_string) (t1 : PV S_impl_Group) : denF cx_S_ApplyGroups 0 pl_S_ApplyGroups Try.f64.ntmps (bodyOf Try.f64) Try.f64.results.toList [(.bor, S_string), (.bor, S_impl_Group)] [(S_string, true), ((.int .i64), false), (.bool, false)] (t0, t1, ()) = f_S_ApplyGroups t0 t1 := by kernel_rfl
theorem ok_S_ApplyGroups : FnOk Try.prog 64 ct_S_ApplyGroups :=
  fnOk (cx := cx_S_ApplyGroups) (pl := pl_S_ApplyGroups) (dp := 0) (ok0_of tabOk (by unfold ArrOk; kernel_rfl) mix ⟨ok_S_Patch, ok_S_GroupHunks, trivial⟩ trivial) Try.func64 (by kernel_rfl) (by kernel_rfl) (by kernel_rfl)
    (by rw [show loopsOf (bodyOf Try.f64) = [] from by kernel_rfl]; exact trivial) (fun x => ef_S_ApplyGroups x.1 x.2.1)
noncomputable def sh_slices_Equal_string_4 : List Sh := mkSh 26 [(0, .val S_string .b), (1, .val S_string .b), (12, .val (.int .i64) .b), (13, .val (.int .i64) .b)]
noncomputable def o_slices_Equal_string_4 : List Out := [⟨.exit 0, ⟨[], []⟩, mkSh 26 []⟩, ⟨.ret, ⟨[], [4]⟩, mkSh 26 [(4, .val .bool .b)]⟩]
noncomputable def b_slices_Equal_string_4 (t0 : PV S_string) (t1 : PV S_string) (t12 : PV (.int .i64)) (t13 : PV (.int .i64)) : Option ((PV S_string × PV S_string × PV (.int .i64) × PV (.int .i64) × Unit) ⊕ ((Unit) ⊕ (PV .bool × Unit))) :=
  bif (decide (t13 < t12)) then
    bif inB t13 t0.length then
      bif inB t13 t1.length then
        bif (!((t0.getD t13.toNat []) == (t1.getD t13.toNat []))) then
          some (.inr (.inr (false, ())))
        else
          some (.inl (t0, t1, t12, (IntKind.wrap .i64 (t13 + 1)), ()))
      else
        none
    else
      none
  else
    some (.inr (.inl ()))
noncomputable def w_slices_Equal_string_4 : PV S_string × PV S_string × PV (.int .i64) × PV (.int .i64) × Unit → Option ((Unit) ⊕ (PV .bool × Unit)) := fix fun d => b_slices_Equal_string_4 d.1 d.2.1 d.2.2.1 d.2.2.2.1
noncomputable def lp_slices_Equal_string_4 : Lp := ⟨⟨[], [0, 1, 12, 13]⟩, sh_slices_Equal_string_4, o_slices_Equal_string_4, fun d => b_slices_Equal_string_4 d.1 d.2.1 d.2.2.1 d.2.2.2.1⟩
noncomputable def pl_slices_Equal_string : Plan := ⟨[], [(4, lp_slices_Equal_string_4)], 0, 0⟩
noncomputable def f_slices_Equal_string (t0 : PV S_string) (t1 : PV S_string) : Option (PVs [.bool] × PVs []) :=
  bif (!((t0.length : Int) == (t1.length : Int))) then
    some ((false, ()), ())
  else
    (w_slices_Equal_string_4 (t0, t1, (t0.length : Int), 0, ())).bind fun x5 =>
      match x5 with
      | .inl l3 =>
        some ((true, ()), ())
      | .inr l4 =>
        some ((l4.1, ()), ())
noncomputable def ct_slices_Equal_string : Ct := ⟨[(.bor, S_string), (.bor, S_string)], [(.bool, false)], fun x => f_slices_Equal_string x.1 x.2.1⟩
noncomputable def cx_slices_Equal_string : Cx := ⟨tab, arrs, [], []⟩
theorem eb_slices_Equal_string_4 (t0 : PV S_string) (t1 : PV S_string) (t12 : PV (.int .i64)) (t13 : PV (.int .i64)) : denK cx_slices_Equal_string (rcN cx_slices_Equal_string 0) pl_slices_Equal_string 0 ((loopsOf (bodyOf Try.f87)).getD 0 .skip) (fillS sh_slices_Equal_string_4 (t0, t1, t12, t13, ())) (roundK 0 lp_slices_Equal_string_4) = b_slices_Equal_string_4 t0 t1 t12 t13 := by kernel_rfl
theorem ef_slices_Equal_string (t0 : PV S_string) (t1 : PV S_string) : denF cx_slices_Equal_string 0 pl_slices_Equal_string Try.f87.ntmps (bodyOf Try.f87) Try.f87.results.toList [(.bor, S_string), (.bor, S_string)] [(.bool, false)] (t0, t1, ()) = f_slices_Equal_string t0 t1 := by kernel_rfl
theorem ok_slices_Equal_string : FnOk Try.prog 87 ct_slices_Equal_string :=
  fnOk (cx := cx_slices_Equal_string) (pl := pl_slices_Equal_string) (dp := 0) (ok0_of tabOk (by unfold ArrOk; kernel_rfl) mix trivial trivial) Try.func87 (by kernel_rfl) (by kernel_rfl) (by kernel_rfl)
    (by rw [show loopsOf (bodyOf Try.f87) = [((loopsOf (bodyOf Try.f87)).getD 0 .skip)] from by kernel_rfl]; exact ⟨(by rw [show lookup pl_slices_Equal_string.loops (firstId ((loopsOf (bodyOf Try.f87)).getD 0 .skip)) = some lp_slices_Equal_string_4 from by kernel_rfl]; exact fun d z h => (eb_slices_Equal_string_4 d.1 d.2.1 d.2.2.1 d.2.2.2.1).trans h), trivial⟩) (fun x => ef_slices_Equal_string x.1 x.2.1)
noncomputable def o_I_Group_hunks_10 : List Out := [⟨.normal, ⟨[], [1, 5, 6, 8, 12, 13, 14]⟩, mkSh 60 [(1, .val (.int .i64) .b), (5, .val S_impl_Hunk (.row (.pr .b (.pr .b (.pr (.row .b) .b))))), (6, .val .bool .b), (8, .var Y_impl_Row .b), (12, .val S_impl_Row .b), (13, .val (.int .i64) .b), (14, .val (.int .i64) .b)]⟩]
noncomputable def o_I_Group_hunks_15 : List Out := [⟨.normal, ⟨[], [1, 5, 6, 12, 13, 14]⟩, mkSh 60 [(1, .val (.int .i64) .b), (5, .val S_impl_Hunk (.row (.pr .b (.pr .b (.pr (.row .b) .b))))), (6, .val .bool .b), (12, .val S_impl_Row .b), (13, .val (.int .i64) .b), (14, .val (.int .i64) .b)]⟩]
noncomputable def sh_I_Group_hunks_3 : List Sh := mkSh 60 [(1, .val (.int .i64) .b), (5, .val S_impl_Hunk (.row (.pr .b (.pr .b (.pr (.row .b) .b))))), (6, .val .bool .b), (12, .val S_impl_Row .b), (13, .val (.int .i64) .b), (14, .val (.int .i64) .b)]
noncomputable def o_I_Group_hunks_3 : List Out := [⟨.exit 0, ⟨[], [5]⟩, mkSh 60 [(5, .val S_impl_Hunk (.row (.pr .b (.pr .b (.pr (.row .b) .b)))))]⟩]
noncomputable def b_I_Group_hunks_3 (t1 : PV (.int .i64)) (t5 : PV S_impl_Hunk) (t6 : PV .bool) (t12 : PV S_impl_Row) (t13 : PV (.int .i64)) (t14 : PV (.int .i64)) : Option ((PV (.int .i64) × PV S_impl_Hunk × PV .bool × PV S_impl_Row × PV (.int .i64) × PV (.int .i64) × Unit) ⊕ ((PV S_impl_Hunk × Unit))) :=
  bif (decide (t14 < t13)) then
    ((
        bif inB t14 t12.length then
          bif (((t12.getD t14.toNat (dflt Y_impl_Row)).1) == 1) then
            some ((IntKind.wrap .i64 (t1 + 1)), t5, false, t12, t13, t14, ())
          else
            ((
                bif (!t6) then
                  bif roomB (t5.length + [(t1, (0, (([] : PV S_string), ())))].length) then
                    some (t1, (t5 ++ [(t1, (0, (([] : PV S_string), ())))]), true, (t12.getD t14.toNat (dflt Y_impl_Row)), t12, t13, t14, ())
                  else
                    none
                else
                  some (t1, t5, t6, (t12.getD t14.toNat (dflt Y_impl_Row)), t12, t13, t14, ()) : Option ((PV (.int .i64) × PV S_impl_Hunk × PV .bool × PV Y_impl_Row × PV S_impl_Row × PV (.int .i64) × PV (.int .i64) × Unit)))).bind fun j1 =>
              bif inB (IntKind.wrap .i64 ((j1.2.1.length : Int) - 1)) j1.2.1.length then
                bif (j1.2.2.2.1.1 == 2) then
                  some ((IntKind.wrap .i64 (j1.1 + 1)), (j1.2.1.set ((IntKind.wrap .i64 ((j1.2.1.length : Int) - 1)).toNat) ((j1.2.1.getD ((IntKind.wrap .i64 ((j1.2.1.length : Int) - 1)).toNat) (dflt Y_impl_Hunk)).1, ((IntKind.wrap .i64 ((((j1.2.1.getD ((IntKind.wrap .i64 ((j1.2.1.length : Int) - 1)).toNat) (dflt Y_impl_Hunk)).2).1) + 1)), ((j1.2.1.getD ((IntKind.wrap .i64 ((j1.2.1.length : Int) - 1)).toNat) (dflt Y_impl_Hunk)).2).2))), j1.2.2.1, j1.2.2.2.2.1, j1.2.2.2.2.2.1, j1.2.2.2.2.2.2.1, ())
                else
                  bif roomB (((((j1.2.1.getD ((IntKind.wrap .i64 ((j1.2.1.length : Int) - 1)).toNat) (dflt Y_impl_Hunk)).2).2).1).length + [j1.2.2.2.1.2.1].length) then
                    bif (((IntKind.wrap .i64 ((j1.2.1.length : Int) - 1)).toNat == (IntKind.wrap .i64 ((j1.2.1.length : Int) - 1)).toNat) && true) then
                      bif (((IntKind.wrap .i64 ((j1.2.1.length : Int) - 1)).toNat == (IntKind.wrap .i64 ((j1.2.1.length : Int) - 1)).toNat) && true) then
                        bif (((IntKind.wrap .i64 ((j1.2.1.length : Int) - 1)).toNat == (IntKind.wrap .i64 ((j1.2.1.length : Int) - 1)).toNat) && true) then
                          some (j1.1, (j1.2.1.set ((IntKind.wrap .i64 ((j1.2.1.length : Int) - 1)).toNat) ((j1.2.1.getD ((IntKind.wrap .i64 ((j1.2.1.length : Int) - 1)).toNat) (dflt Y_impl_Hunk)).1, (((j1.2.1.getD ((IntKind.wrap .i64 ((j1.2.1.length : Int) - 1)).toNat) (dflt Y_impl_Hunk)).2).1, ((((((j1.2.1.getD ((IntKind.wrap .i64 ((j1.2.1.length : Int) - 1)).toNat) (dflt Y_impl_Hunk)).2).2).1) ++ [j1.2.2.2.1.2.1]), (((j1.2.1.getD ((IntKind.wrap .i64 ((j1.2.1.length : Int) - 1)).toNat) (dflt Y_impl_Hunk)).2).2).2)))), j1.2.2.1, j1.2.2.2.2.1, j1.2.2.2.2.2.1, j1.2.2.2.2.2.2.1, ())
                        else
                          none
                      else
                        none
                    else
                      none
                  else
                    none
              else
                none
        else
          none : Option ((PV (.int .i64) × PV S_impl_Hunk × PV .bool × PV S_impl_Row × PV (.int .i64) × PV (.int .i64) × Unit)))).bind fun j2 =>
      some (.inl (j2.1, j2.2.1, j2.2.2.1, j2.2.2.2.1, j2.2.2.2.2.1, (IntKind.wrap .i64 (j2.2.2.2.2.2.1 + 1)), ()))
  else
    some (.inr (t5, ()))
noncomputable def w_I_Group_hunks_3 : PV (.int .i64) × PV S_impl_Hunk × PV .bool × PV S_impl_Row × PV (.int .i64) × PV (.int .i64) × Unit → Option ((PV S_impl_Hunk × Unit)) := fix fun d => b_I_Group_hunks_3 d.1 d.2.1 d.2.2.1 d.2.2.2.1 d.2.2.2.2.1 d.2.2.2.2.2.1
noncomputable def lp_I_Group_hunks_3 : Lp := ⟨⟨[], [1, 5, 6, 12, 13, 14]⟩, sh_I_Group_hunks_3, o_I_Group_hunks_3, fun d => b_I_Group_hunks_3 d.1 d.2.1 d.2.2.1 d.2.2.2.1 d.2.2.2.2.1 d.2.2.2.2.2.1⟩
noncomputable def pl_I_Group_hunks : Plan := ⟨[(10, o_I_Group_hunks_10), (15, o_I_Group_hunks_15)], [(3, lp_I_Group_hunks_3)], 0, 0⟩
noncomputable def f_I_Group_hunks (t0 : PV Y_impl_Group) (t1 : PV (.int .i64)) : Option (PVs [S_impl_Hunk] × PVs []) :=
  (w_I_Group_hunks_3 (t1, ([] : PV S_impl_Hunk), false, t0.2.2.1, (t0.2.2.1.length : Int), 0, ())).bind fun l4 =>
    some ((l4.1, ()), ())
noncomputable def ct_I_Group_hunks : Ct := ⟨[(.bor, Y_impl_Group), (.bor, (.int .i64))], [(S_impl_Hunk, true)], fun x => f_I_Group_hunks x.1 x.2.1⟩
noncomputable def cx_I_Group_hunks : Cx := ⟨tab, arrs, [], []⟩
theorem eb_I_Group_hunks_3 (t1 : PV (.int .i64)) (t5 : PV S_impl_Hunk) (t6 : PV .bool) (t12 : PV S_impl_Row) (t13 : PV (.int .i64)) (t14 : PV (.int .i64)) : denK cx_I_Group_hunks (rcN cx_I_Group_hunks 0) pl_I_Group_hunks 0 ((loopsOf (bodyOf Try.f188)).getD 0 .skip) (fillS sh_I_Group_hunks_3 (t1, t5, t6, t12, t13, t14, ())) (roundK 0 lp_I_Group_hunks_3) = b_I_Group_hunks_3 t1 t5 t6 t12 t13 t14 := by kernel_rfl
theorem ef_I_Group_hunks (t0 : PV Y_impl_Group) (t1 : PV (.int .i64)) : denF cx_I_Group_hunks 0 pl_I_Group_hunks Try.f188.ntmps (bodyOf Try.f188) Try.f188.results.toList [(.bor, Y_impl_Group), (.bor, (.int .i64))] [(S_impl_Hunk, true)] (t0, t1, ()) = f_I_Group_hunks t0 t1 := by kernel_rfl
theorem ok_I_Group_hunks : FnOk Try.prog 188 ct_I_Group_hunks :=
  fnOk (cx := cx_I_Group_hunks) (pl := pl_I_Group_hunks) (dp := 0) (ok0_of tabOk (by unfold ArrOk; kernel_rfl) mix trivial trivial) Try.func188 (by kernel_rfl) (by kernel_rfl) (by kernel_rfl)
    (by rw [show loopsOf (bodyOf Try.f188) = [((loopsOf (bodyOf Try.f188)).getD 0 .skip)] from by kernel_rfl]; exact ⟨(by rw [show lookup pl_I_Group_hunks.loops (firstId ((loopsOf (bodyOf Try.f188)).getD 0 .skip)) = some lp_I_Group_hunks_3 from by kernel_rfl]; exact fun d z h => (eb_I_Group_hunks_3 d.1 d.2.1 d.2.2.1 d.2.2.2.1 d.2.2.2.2.1 d.2.2.2.2.2.1).trans h), trivial⟩) (fun x => ef_I_Group_hunks x.1 x.2.1)
noncomputable def o_I_GroupHunks_2 : List Out := [⟨.normal, ⟨[], [1, 2, 19, 45, 46, 47, 48, 49, 50, 51]⟩, mkSh 69 [(1, .val S_impl_Group .b), (2, .var S_string .b), (19, .val .bool .b)]⟩]
noncomputable def o_I_GroupHunks_4 : List Out := [⟨.normal, ⟨[], [1, 2, 22, 45, 46, 47, 48, 49, 50, 51]⟩, mkSh 69 [(1, .val S_impl_Group .b), (2, .var S_string .b), (22, .val .bool .b)]⟩]
noncomputable def o_I_GroupHunks_11 : List Out := [⟨.normal, ⟨[], [2, 7, 8, 10, 11, 24, 25, 26, 52]⟩, mkSh 69 [(2, .var S_string .b), (7, .val S_impl_Hunk (.row (.pr .b (.pr .b (.pr (.row .b) .b))))), (8, .val (.int .i64) .b), (10, .var Y_impl_Group .b), (11, .val S_string (.row .b)), (24, .val S_impl_Group .b), (25, .val (.int .i64) .b), (26, .val (.int .i64) .b), (52, .val .bool .b)]⟩]
noncomputable def pl_I_GroupHunks_186 : Plan := ⟨[], [], 2, 69⟩
noncomputable def sh_I_GroupHunks_214_2 : List Sh := mkSh 97 [(1, .val S_impl_Group .b), (2, .var S_string .b), (19, .val .bool .b), (20, .val S_impl_Group .b), (21, .fn 187 [⟨2, [], 0, 0⟩]), (69, .val S_impl_Group .b), (70, .fn 187 [⟨2, [], 0, 0⟩]), (73, .val .bool .b), (74, .val S_impl_Group .b), (75, .fn 187 [⟨2, [], 0, 0⟩]), (78, .val S_impl_Group .b), (79, .fn 187 [⟨2, [], 0, 0⟩]), (85, .val (.int .i64) .b), (86, .val (.int .i64) .b)]
noncomputable def o_I_GroupHunks_214_2 : List Out := [⟨.exit 0, ⟨[], []⟩, mkSh 97 [(1, .val S_impl_Group .b), (2, .var S_string .b), (19, .val .bool .b), (20, .val S_impl_Group .b), (21, .fn 187 [⟨2, [], 0, 0⟩]), (69, .val S_impl_Group .b), (70, .fn 187 [⟨2, [], 0, 0⟩]), (73, .val .bool .b), (74, .val S_impl_Group .b), (75, .fn 187 [⟨2, [], 0, 0⟩])]⟩, ⟨.ret, ⟨[], [4]⟩, mkSh 97 [(1, .val S_impl_Group .b), (2, .var S_string .b), (19, .val .bool .b), (20, .val S_impl_Group .b), (21, .fn 187 [⟨2, [], 0, 0⟩]), (69, .val S_impl_Group .b), (70, .fn 187 [⟨2, [], 0, 0⟩]), (73, .val .bool .b), (74, .val S_impl_Group .b), (75, .fn 187 [⟨2, [], 0, 0⟩]), (82, .val (.int .i64) .b)]⟩]
noncomputable def b_I_GroupHunks_214_2 (t1 : PV S_impl_Group) (t2 : PV S_string) (t19 : PV .bool) (t20 : PV S_impl_Group) (t69 : PV S_impl_Group) (t73 : PV .bool) (t74 : PV S_impl_Group) (t78 : PV S_impl_Group) (t85 : PV (.int .i64)) (t86 : PV (.int .i64)) : Option ((PV S_impl_Group × PV S_string × PV .bool × PV S_impl_Group × PV S_impl_Group × PV .bool × PV S_impl_Group × PV S_impl_Group × PV (.int .i64) × PV (.int .i64) × Unit) ⊕ ((PV S_impl_Group × PV S_string × PV .bool × PV S_impl_Group × PV S_impl_Group × PV .bool × PV S_impl_Group × Unit) ⊕ (PV S_impl_Group × PV S_string × PV .bool × PV S_impl_Group × PV S_impl_Group × PV .bool × PV S_impl_Group × PV (.int .i64) × Unit))) :=
  bif (decide (t86 < t85)) then
    bif inB t86 t78.length then
      (f_I_Group_old (t78.getD t86.toNat (dflt Y_impl_Group))).bind fun r12 =>
        bif (decide ((IntKind.wrap .i64 (((t78.getD t86.toNat (dflt Y_impl_Group)).1) + (r12.1.1.length : Int))) > (t2.length : Int))) then
          some (.inr (.inr (t1, t2, t19, t20, t69, t73, t74, t86, ())))
        else
          some (.inl (t1, t2, t19, t20, t69, t73, t74, t78, t85, (IntKind.wrap .i64 (t86 + 1)), ()))
    else
      none
  else
    some (.inr (.inl (t1, t2, t19, t20, t69, t73, t74, ())))
noncomputable def w_I_GroupHunks_214_2 : PV S_impl_Group × PV S_string × PV .bool × PV S_impl_Group × PV S_impl_Group × PV .bool × PV S_impl_Group × PV S_impl_Group × PV (.int .i64) × PV (.int .i64) × Unit → Option ((PV S_impl_Group × PV S_string × PV .bool × PV S_impl_Group × PV S_impl_Group × PV .bool × PV S_impl_Group × Unit) ⊕ (PV S_impl_Group × PV S_string × PV .bool × PV S_impl_Group × PV S_impl_Group × PV .bool × PV S_impl_Group × PV (.int .i64) × Unit)) := fix fun d => b_I_GroupHunks_214_2 d.1 d.2.1 d.2.2.1 d.2.2.2.1 d.2.2.2.2.1 d.2.2.2.2.2.1 d.2.2.2.2.2.2.1 d.2.2.2.2.2.2.2.1 d.2.2.2.2.2.2.2.2.1 d.2.2.2.2.2.2.2.2.2.1
noncomputable def lp_I_GroupHunks_214_2 : Lp := ⟨⟨[], [0, 1, 7, 8]⟩, sh_I_GroupHunks_214_2, o_I_GroupHunks_214_2, fun d => b_I_GroupHunks_214_2 d.1 d.2.1 d.2.2.1 d.2.2.2.1 d.2.2.2.2.1 d.2.2.2.2.2.1 d.2.2.2.2.2.2.1 d.2.2.2.2.2.2.2.1 d.2.2.2.2.2.2.2.2.1 d.2.2.2.2.2.2.2.2.2.1⟩
noncomputable def pl_I_GroupHunks_214 : Plan := ⟨[], [(2, lp_I_GroupHunks_214_2)], 1, 78⟩
noncomputable def pl_I_GroupHunks_187 : Plan := ⟨[], [], 0, 97⟩
noncomputable def sh_I_GroupHunks_7 : List Sh := mkSh 69 [(2, .var S_string .b), (7, .val S_impl_Hunk (.row (.pr .b (.pr .b (.pr (.row .b) .b))))), (8, .val (.int .i64) .b), (24, .val S_impl_Group .b), (25, .val (.int .i64) .b), (26, .val (.int .i64) .b)]
noncomputable def o_I_GroupHunks_7 : List Out := [⟨.exit 0, ⟨[], [7]⟩, mkSh 69 [(7, .val S_impl_Hunk (.row (.pr .b (.pr .b (.pr (.row .b) .b)))))]⟩, ⟨.ret, ⟨[], [4, 5, 6]⟩, mkSh 69 [(4, .val S_impl_Hunk (.row (.pr .b (.pr .b (.pr (.row .b) .b))))), (5, .val (.int .i64) .b), (6, .val .bool .b)]⟩]
noncomputable def b_I_GroupHunks_7 (t2 : PV S_string) (t7 : PV S_impl_Hunk) (t8 : PV (.int .i64)) (t24 : PV S_impl_Group) (t25 : PV (.int .i64)) (t26 : PV (.int .i64)) : Option ((PV S_string × PV S_impl_Hunk × PV (.int .i64) × PV S_impl_Group × PV (.int .i64) × PV (.int .i64) × Unit) ⊕ ((PV S_impl_Hunk × Unit) ⊕ (PV S_impl_Hunk × PV (.int .i64) × PV .bool × Unit))) :=
  bif (decide (t26 < t25)) then
    bif inB t26 t24.length then
      (f_I_Group_old (t24.getD t26.toNat (dflt Y_impl_Group))).bind fun r37 =>
        ((
            bif cutB ((t24.getD t26.toNat (dflt Y_impl_Group)).1) (IntKind.wrap .i64 (((t24.getD t26.toNat (dflt Y_impl_Group)).1) + (r37.1.1.length : Int))) t2.length then
              (f_slices_Equal_string r37.1.1 (cutL ((t24.getD t26.toNat (dflt Y_impl_Group)).1) (IntKind.wrap .i64 (((t24.getD t26.toNat (dflt Y_impl_Group)).1) + (r37.1.1.length : Int))) t2)).bind fun r40 =>
                bif (!r40.1.1) then
                  some (t2, t7, t8, (t24.getD t26.toNat (dflt Y_impl_Group)), r37.1.1, t24, t25, t26, true, ())
                else
                  some (t2, t7, t8, (t24.getD t26.toNat (dflt Y_impl_Group)), r37.1.1, t24, t25, t26, (!((((t24.getD t26.toNat (dflt Y_impl_Group)).2).1) == (IntKind.wrap .i64 (((t24.getD t26.toNat (dflt Y_impl_Group)).1) + t8)))), ())
            else
              none : Option ((PV S_string × PV S_impl_Hunk × PV (.int .i64) × PV Y_impl_Group × PV S_string × PV S_impl_Group × PV (.int .i64) × PV (.int .i64) × PV .bool × Unit)))).bind fun j41 =>
          bif j41.2.2.2.2.2.2.2.2.1 then
            some (.inr (.inr ([], 2, true, ())))
          else
            (f_I_Group_hunks j41.2.2.2.1 j41.2.2.2.1.1).bind fun r43 =>
              bif roomB (j41.2.1.length + r43.1.1.length) then
                (f_I_Group_fresh j41.2.2.2.1).bind fun r44 =>
                  some (.inl (j41.1, (j41.2.1 ++ r43.1.1), (IntKind.wrap .i64 (j41.2.2.1 + (IntKind.wrap .i64 ((r44.1.1.length : Int) - (j41.2.2.2.2.1.length : Int))))), j41.2.2.2.2.2.1, j41.2.2.2.2.2.2.1, (IntKind.wrap .i64 (j41.2.2.2.2.2.2.2.1 + 1)), ()))
              else
                none
    else
      none
  else
    some (.inr (.inl (t7, ())))
noncomputable def w_I_GroupHunks_7 : PV S_string × PV S_impl_Hunk × PV (.int .i64) × PV S_impl_Group × PV (.int .i64) × PV (.int .i64) × Unit → Option ((PV S_impl_Hunk × Unit) ⊕ (PV S_impl_Hunk × PV (.int .i64) × PV .bool × Unit)) := fix fun d => b_I_GroupHunks_7 d.1 d.2.1 d.2.2.1 d.2.2.2.1 d.2.2.2.2.1 d.2.2.2.2.2.1
noncomputable def lp_I_GroupHunks_7 : Lp := ⟨⟨[], [2, 7, 8, 24, 25, 26, 45, 46, 47, 48, 49, 50, 51]⟩, sh_I_GroupHunks_7, o_I_GroupHunks_7, fun d => b_I_GroupHunks_7 d.1 d.2.1 d.2.2.1 d.2.2.2.1 d.2.2.2.2.1 d.2.2.2.2.2.1⟩
noncomputable def pl_I_GroupHunks : Plan := ⟨[(2, o_I_GroupHunks_2), (4, o_I_GroupHunks_4), (11, o_I_GroupHunks_11)], [(7, lp_I_GroupHunks_7)], 3, 0⟩
noncomputable def f_I_GroupHunks (t0 : PV S_string) (t1 : PV S_impl_Group) : Option (PVs [S_impl_Hunk, (.int .i64), .bool] × PVs []) :=
  ((
      (f_I_goodLines t0).bind fun r6 =>
        bif (!r6.1.1) then
          some (t1, t0, true, ())
        else
          (f_I_goodGroups t1).bind fun r7 =>
            some (t1, t0, (!r7.1.1), ()) : Option ((PV S_impl_Group × PV S_string × PV .bool × Unit)))).bind fun j8 =>
    bif j8.2.2.1 then
      some (([], 0, false, ()), ())
    else
      ((
          (w_I_GroupHunks_214_2 (j8.1, j8.2.1, j8.2.2.1, j8.1, j8.1, false, j8.1, j8.1, (j8.1.length : Int), 0, ())).bind fun x49 =>
            match x49 with
            | .inl l24 =>
              some (l24.1, l24.2.1, (decide ((-1) ≥ 0)), ())
            | .inr l25 =>
              some (l25.1, l25.2.1, (decide (l25.2.2.2.2.2.2.2.1 ≥ 0)), ()) : Option ((PV S_impl_Group × PV S_string × PV .bool × Unit)))).bind fun j26 =>
        bif j26.2.2.1 then
          some (([], 3, true, ()), ())
        else
          (w_I_GroupHunks_7 (j26.2.1, ([] : PV S_impl_Hunk), 0, j26.1, (j26.1.length : Int), 0, ())).bind fun x50 =>
            match x50 with
            | .inl l47 =>
              some ((l47.1, 0, true, ()), ())
            | .inr l48 =>
              some ((l48.1, l48.2.1, l48.2.2.1, ()), ())
noncomputable def ct_I_GroupHunks : Ct := ⟨[(.bor, S_string), (.bor, S_impl_Group)], [(S_impl_Hunk, true), ((.int .i64), false), (.bool, false)], fun x => f_I_GroupHunks x.1 x.2.1⟩
noncomputable def cx_I_GroupHunks : Cx := ⟨tab, arrs, [(74, ct_I_goodGroups), (87, ct_slices_Equal_string), (129, ct_I_goodLines), (152, ct_I_Group_old), (153, ct_I_Group_fresh), (188, ct_I_Group_hunks)], [(186, Try.f186, pl_I_GroupHunks_186), (214, Try.f214, pl_I_GroupHunks_214), (187, Try.f187, pl_I_GroupHunks_187)]⟩
theorem eb_I_GroupHunks_214_2 (t1 : PV S_impl_Group) (t2 : PV S_string) (t19 : PV .bool) (t20 : PV S_impl_Group) (t69 : PV S_impl_Group) (t73 : PV .bool) (t74 : PV S_impl_Group) (t78 : PV S_impl_Group) (t85 : PV (.int .i64)) (t86 : PV (.int .i64)) : denK cx_I_GroupHunks (rcN cx_I_GroupHunks 1) pl_I_GroupHunks_214 78 ((loopsOf (bodyOf Try.f214)).getD 0 .skip) (fillS sh_I_GroupHunks_214_2 (t1, t2, t19, t20, t69, t73, t74, t78, t85, t86, ())) (roundK 78 lp_I_GroupHunks_214_2) = b_I_GroupHunks_214_2 t1 t2 t19 t20 t69 t73 t74 t78 t85 t86 := by kernel_rfl
theorem eb_I_GroupHunks_7 (t2 : PV S_string) (t7 : PV S_impl_Hunk) (t8 : PV (.int .i64)) (t24 : PV S_impl_Group) (t25 : PV (.int .i64)) (t26 : PV (.int .i64)) : denK cx_I_GroupHunks (rcN cx_I_GroupHunks 3) pl_I_GroupHunks 0 ((loopsOf (bodyOf Try.f139)).getD 0 .skip) (fillS sh_I_GroupHunks_7 (t2, t7, t8, t24, t25, t26, ())) (roundK 0 lp_I_GroupHunks_7) = b_I_GroupHunks_7 t2 t7 t8 t24 t25 t26 := by kernel_rfl
theorem ef_I_GroupHunks (t0 : PV S_string) (t1 : PV S_impl_Group) : denF cx_I_GroupHunks 3 pl_I_GroupHunks Try.f139.ntmps (bodyOf Try.f139) Try.f139.results.toList [(.bor, S_string), (.bor, S_impl_Group)] [(S_impl_Hunk, true), ((.int .i64), false), (.bool, false)] (t0, t1, ()) = f_I_GroupHunks t0 t1 := by kernel_rfl
theorem ok_I_GroupHunks : FnOk Try.prog 139 ct_I_GroupHunks :=
  fnOk (cx := cx_I_GroupHunks) (pl := pl_I_GroupHunks) (dp := 3) (ok0_of tabOk (by unfold ArrOk; kernel_rfl) mix ⟨ok_I_goodGroups, ok_slices_Equal_string, ok_I_goodLines, ok_I_Group_old, ok_I_Group_fresh, ok_I_Group_hunks, trivial⟩ ⟨⟨Try.func186, by kernel_rfl, (by rw [show loopsOf (bodyOf Try.f186) = [] from by kernel_rfl]; exact trivial)⟩, ⟨Try.func214, by kernel_rfl, (by rw [show loopsOf (bodyOf Try.f214) = [((loopsOf (bodyOf Try.f214)).getD 0 .skip)] from by kernel_rfl]; exact ⟨(by rw [show lookup pl_I_GroupHunks_214.loops (firstId ((loopsOf (bodyOf Try.f214)).getD 0 .skip)) = some lp_I_GroupHunks_214_2 from by kernel_rfl]; exact fun d z h => (eb_I_GroupHunks_214_2 d.1 d.2.1 d.2.2.1 d.2.2.2.1 d.2.2.2.2.1 d.2.2.2.2.2.1 d.2.2.2.2.2.2.1 d.2.2.2.2.2.2.2.1 d.2.2.2.2.2.2.2.2.1 d.2.2.2.2.2.2.2.2.2.1).trans h), trivial⟩)⟩, ⟨Try.func187, by kernel_rfl, (by rw [show loopsOf (bodyOf Try.f187) = [] from by kernel_rfl]; exact trivial)⟩, trivial⟩) Try.func139 (by kernel_rfl) (by kernel_rfl) (by kernel_rfl)
    (by rw [show loopsOf (bodyOf Try.f139) = [((loopsOf (bodyOf Try.f139)).getD 0 .skip)] from by kernel_rfl]; exact ⟨(by rw [show lookup pl_I_GroupHunks.loops (firstId ((loopsOf (bodyOf Try.f139)).getD 0 .skip)) = some lp_I_GroupHunks_7 from by kernel_rfl]; exact fun d z h => (eb_I_GroupHunks_7 d.1 d.2.1 d.2.2.1 d.2.2.2.1 d.2.2.2.2.1 d.2.2.2.2.2.1).trans h), trivial⟩) (fun x => ef_I_GroupHunks x.1 x.2.1)
noncomputable def o_I_goodHunks_2 : List Out := [⟨.normal, ⟨[], [0, 1, 14, 28, 29, 30, 31, 32, 33, 34, 35, 38, 39, 40, 41, 44, 45, 46, 47, 48, 49, 50, 51, 52, 57, 58, 59, 60, 61, 62, 63, 64, 65, 66, 67, 68, 69, 70, 71, 72]⟩, mkSh 75 [(0, .val (.int .i64) .b), (1, .val S_impl_Hunk .b), (14, .val .bool .b)]⟩]
noncomputable def o_I_goodHunks_7 : List Out := [⟨.normal, ⟨[], [0, 1, 5, 6, 15, 16, 17, 53, 57, 58, 59, 60, 61, 62, 63, 64, 65, 66, 67, 68, 69, 70, 71, 72]⟩, mkSh 75 [(0, .val (.int .i64) .b), (1, .val S_impl_Hunk .b), (5, .val (.int .i64) .b), (6, .var Y_impl_Hunk .b), (15, .val S_impl_Hunk .b), (16, .val (.int .i64) .b), (17, .val (.int .i64) .b), (53, .val .bool .b)]⟩]
noncomputable def o_I_goodHunks_9 : List Out := [⟨.normal, ⟨[], [0, 1, 6, 15, 16, 17, 28, 29, 30, 31, 32, 33, 34, 35, 38, 39, 40, 41, 44, 45, 46, 47, 48, 49, 50, 51, 52, 73]⟩, mkSh 75 [(0, .val (.int .i64) .b), (1, .val S_impl_Hunk .b), (6, .var Y_impl_Hunk .b), (15, .val S_impl_Hunk .b), (16, .val (.int .i64) .b), (17, .val (.int .i64) .b), (73, .val .bool .b)]⟩]
noncomputable def sh_I_goodHunks_4 : List Sh := mkSh 75 [(0, .val (.int .i64) .b), (1, .val S_impl_Hunk .b), (15, .val S_impl_Hunk .b), (16, .val (.int .i64) .b), (17, .val (.int .i64) .b)]
noncomputable def o_I_goodHunks_4 : List Out := [⟨.exit 0, ⟨[], []⟩, mkSh 75 []⟩, ⟨.ret, ⟨[], [4]⟩, mkSh 75 [(4, .val .bool .b)]⟩]
noncomputable def b_I_goodHunks_4 (t0 : PV (.int .i64)) (t1 : PV S_impl_Hunk) (t15 : PV S_impl_Hunk) (t16 : PV (.int .i64)) (t17 : PV (.int .i64)) : Option ((PV (.int .i64) × PV S_impl_Hunk × PV S_impl_Hunk × PV (.int .i64) × PV (.int .i64) × Unit) ⊕ ((Unit) ⊕ (PV .bool × Unit))) :=
  bif (decide (t17 < t16)) then
    bif inB t17 t15.length then
      ((
          (f_I_in ((t15.getD t17.toNat (dflt Y_impl_Hunk)).1) 0 t0).bind fun r19 =>
            bif (!r19.1.1) then
              some (t0, t1, t17, (t15.getD t17.toNat (dflt Y_impl_Hunk)), t15, t16, t17, true, ())
            else
              (f_I_in (((t15.getD t17.toNat (dflt Y_impl_Hunk)).2).1) 0 (IntKind.wrap .i64 (t0 - ((t15.getD t17.toNat (dflt Y_impl_Hunk)).1)))).bind fun r20 =>
                bif (!r20.1.1) then
                  some (t0, t1, t17, (t15.getD t17.toNat (dflt Y_impl_Hunk)), t15, t16, t17, true, ())
                else
                  (f_I_areLines ((((t15.getD t17.toNat (dflt Y_impl_Hunk)).2).2).1)).bind fun r21 =>
                    bif (!r21.1.1) then
                      some (t0, t1, t17, (t15.getD t17.toNat (dflt Y_impl_Hunk)), t15, t16, t17, true, ())
                    else
                      bif ((((t15.getD t17.toNat (dflt Y_impl_Hunk)).2).1) == 0) then
                        some (t0, t1, t17, (t15.getD t17.toNat (dflt Y_impl_Hunk)), t15, t16, t17, ((((((t15.getD t17.toNat (dflt Y_impl_Hunk)).2).2).1).length : Int) == 0), ())
                      else
                        some (t0, t1, t17, (t15.getD t17.toNat (dflt Y_impl_Hunk)), t15, t16, t17, false, ()) : Option ((PV (.int .i64) × PV S_impl_Hunk × PV (.int .i64) × PV Y_impl_Hunk × PV S_impl_Hunk × PV (.int .i64) × PV (.int .i64) × PV .bool × Unit)))).bind fun j22 =>
        bif j22.2.2.2.2.2.2.2.1 then
          some (.inr (.inr (false, ())))
        else
          ((
              bif (decide (j22.2.2.1 > 0)) then
                bif inB (IntKind.wrap .i64 (j22.2.2.1 - 1)) j22.2.1.length then
                  bif inB (IntKind.wrap .i64 (j22.2.2.1 - 1)) j22.2.1.length then
                    some (j22.1, j22.2.1, j22.2.2.2.1, j22.2.2.2.2.1, j22.2.2.2.2.2.1, j22.2.2.2.2.2.2.1, (decide (j22.2.2.2.1.1 ≤ (IntKind.wrap .i64 (((j22.2.1.getD ((IntKind.wrap .i64 (j22.2.2.1 - 1)).toNat) (dflt Y_impl_Hunk)).1) + (((j22.2.1.getD ((IntKind.wrap .i64 (j22.2.2.1 - 1)).toNat) (dflt Y_impl_Hunk)).2).1))))), ())
                  else
                    none
                else
                  none
              else
                some (j22.1, j22.2.1, j22.2.2.2.1, j22.2.2.2.2.1, j22.2.2.2.2.2.1, j22.2.2.2.2.2.2.1, false, ()) : Option ((PV (.int .i64) × PV S_impl_Hunk × PV Y_impl_Hunk × PV S_impl_Hunk × PV (.int .i64) × PV (.int .i64) × PV .bool × Unit)))).bind fun j23 =>
            bif j23.2.2.2.2.2.2.1 then
              some (.inr (.inr (false, ())))
            else
              some (.inl (j23.1, j23.2.1, j23.2.2.2.1, j23.2.2.2.2.1, (IntKind.wrap .i64 (j23.2.2.2.2.2.1 + 1)), ()))
    else
      none
  else
    some (.inr (.inl ()))
noncomputable def w_I_goodHunks_4 : PV (.int .i64) × PV S_impl_Hunk × PV S_impl_Hunk × PV (.int .i64) × PV (.int .i64) × Unit → Option ((Unit) ⊕ (PV .bool × Unit)) := fix fun d => b_I_goodHunks_4 d.1 d.2.1 d.2.2.1 d.2.2.2.1 d.2.2.2.2.1
noncomputable def lp_I_goodHunks_4 : Lp := ⟨⟨[], [0, 1, 15, 16, 17, 28, 29, 30, 31, 32, 33, 34, 35, 38, 39, 40, 41, 44, 45, 46, 47, 48, 49, 50, 51, 52, 57, 58, 59, 60, 61, 62, 63, 64, 65, 66, 67, 68, 69, 70, 71, 72]⟩, sh_I_goodHunks_4, o_I_goodHunks_4, fun d => b_I_goodHunks_4 d.1 d.2.1 d.2.2.1 d.2.2.2.1 d.2.2.2.2.1⟩
noncomputable def pl_I_goodHunks : Plan := ⟨[(2, o_I_goodHunks_2), (7, o_I_goodHunks_7), (9, o_I_goodHunks_9)], [(4, lp_I_goodHunks_4)], 0, 0⟩
noncomputable def f_I_goodHunks (t0 : PV (.int .i64)) (t1 : PV S_impl_Hunk) : Option (PVs [.bool] × PVs []) :=
  ((
      (f_I_in t0 0 40).bind fun r4 =>
        bif (!r4.1.1) then
          some (t0, t1, true, ())
        else
          some (t0, t1, (decide ((t1.length : Int) > 20)), ()) : Option ((PV (.int .i64) × PV S_impl_Hunk × PV .bool × Unit)))).bind fun j5 =>
    bif j5.2.2.1 then
      some ((false, ()), ())
    else
      (w_I_goodHunks_4 (j5.1, j5.2.1, j5.2.1, (j5.2.1.length : Int), 0, ())).bind fun x28 =>
        match x28 with
        | .inl l26 =>
          some ((true, ()), ())
        | .inr l27 =>
          some ((l27.1, ()), ())
noncomputable def ct_I_goodHunks : Ct := ⟨[(.bor, (.int .i64)), (.bor, S_impl_Hunk)], [(.bool, false)], fun x => f_I_goodHunks x.1 x.2.1⟩
noncomputable def cx_I_goodHunks : Cx := ⟨tab, arrs, [(95, ct_I_in), (164, ct_I_areLines)], []⟩
theorem eb_I_goodHunks_4 (t0 : PV (.int .i64)) (t1 : PV S_impl_Hunk) (t15 : PV S_impl_Hunk) (t16 : PV (.int .i64)) (t17 : PV (.int .i64)) : denK cx_I_goodHunks (rcN cx_I_goodHunks 0) pl_I_goodHunks 0 ((loopsOf (bodyOf Try.f107)).getD 0 .skip) (fillS sh_I_goodHunks_4 (t0, t1, t15, t16, t17, ())) (roundK 0 lp_I_goodHunks_4) = b_I_goodHunks_4 t0 t1 t15 t16 t17 := by kernel_rfl
theorem ef_I_goodHunks (t0 : PV (.int .i64)) (t1 : PV S_impl_Hunk) : denF cx_I_goodHunks 0 pl_I_goodHunks Try.f107.ntmps (bodyOf Try.f107) Try.f107.results.toList [(.bor, (.int .i64)), (.bor, S_impl_Hunk)] [(.bool, false)] (t0, t1, ()) = f_I_goodHunks t0 t1 := by kernel_rfl
theorem ok_I_goodHunks : FnOk Try.prog 107 ct_I_goodHunks :=
  fnOk (cx := cx_I_goodHunks) (pl := pl_I_goodHunks) (dp := 0) (ok0_of tabOk (by unfold ArrOk; kernel_rfl) mix ⟨ok_I_in, ok_I_areLines, trivial⟩ trivial) Try.func107 (by kernel_rfl) (by kernel_rfl) (by kernel_rfl)
    (by rw [show loopsOf (bodyOf Try.f107) = [((loopsOf (bodyOf Try.f107)).getD 0 .skip)] from by kernel_rfl]; exact ⟨(by rw [show lookup pl_I_goodHunks.loops (firstId ((loopsOf (bodyOf Try.f107)).getD 0 .skip)) = some lp_I_goodHunks_4 from by kernel_rfl]; exact fun d z h => (eb_I_goodHunks_4 d.1 d.2.1 d.2.2.1 d.2.2.2.1 d.2.2.2.2.1).trans h), trivial⟩) (fun x => ef_I_goodHunks x.1 x.2.1)
noncomputable def sh_I_patched_3 : List Sh := mkSh 37 [(0, .val S_string .b), (5, .val S_string (.row .b)), (6, .val (.int .i64) .b), (10, .val S_impl_Hunk .b), (11, .val (.int .i64) .b), (12, .val (.int .i64) .b)]
noncomputable def o_I_patched_3 : List Out := [⟨.exit 0, ⟨[], [0, 5, 6]⟩, mkSh 37 [(0, .val S_string .b), (5, .val S_string (.row .b)), (6, .val (.int .i64) .b)]⟩]
noncomputable def b_I_patched_3 (t0 : PV S_string) (t5 : PV S_string) (t6 : PV (.int .i64)) (t10 : PV S_impl_Hunk) (t11 : PV (.int .i64)) (t12 : PV (.int .i64)) : Option ((PV S_string × PV S_string × PV (.int .i64) × PV S_impl_Hunk × PV (.int .i64) × PV (.int .i64) × Unit) ⊕ ((PV S_string × PV S_string × PV (.int .i64) × Unit))) :=
  bif (decide (t12 < t11)) then
    bif inB t12 t10.length then
      bif cutB t6 ((t10.getD t12.toNat (dflt Y_impl_Hunk)).1) t0.length then
        bif roomB (t5.length + (cutL t6 ((t10.getD t12.toNat (dflt Y_impl_Hunk)).1) t0).length) then
          bif roomB ((t5 ++ (cutL t6 ((t10.getD t12.toNat (dflt Y_impl_Hunk)).1) t0)).length + ((((t10.getD t12.toNat (dflt Y_impl_Hunk)).2).2).1).length) then
            some (.inl (t0, ((t5 ++ (cutL t6 ((t10.getD t12.toNat (dflt Y_impl_Hunk)).1) t0)) ++ ((((t10.getD t12.toNat (dflt Y_impl_Hunk)).2).2).1)), (IntKind.wrap .i64 (((t10.getD t12.toNat (dflt Y_impl_Hunk)).1) + (((t10.getD t12.toNat (dflt Y_impl_Hunk)).2).1))), t10, t11, (IntKind.wrap .i64 (t12 + 1)), ()))
          else
            none
        else
          none
      else
        none
    else
      none
  else
    some (.inr (t0, t5, t6, ()))
noncomputable def w_I_patched_3 : PV S_string × PV S_string × PV (.int .i64) × PV S_impl_Hunk × PV (.int .i64) × PV (.int .i64) × Unit → Option ((PV S_string × PV S_string × PV (.int .i64) × Unit)) := fix fun d => b_I_patched_3 d.1 d.2.1 d.2.2.1 d.2.2.2.1 d.2.2.2.2.1 d.2.2.2.2.2.1
noncomputable def lp_I_patched_3 : Lp := ⟨⟨[], [0, 5, 6, 10, 11, 12]⟩, sh_I_patched_3, o_I_patched_3, fun d => b_I_patched_3 d.1 d.2.1 d.2.2.1 d.2.2.2.1 d.2.2.2.2.1 d.2.2.2.2.2.1⟩
noncomputable def pl_I_patched : Plan := ⟨[], [(3, lp_I_patched_3)], 0, 0⟩
noncomputable def f_I_patched (t0 : PV S_string) (t1 : PV S_impl_Hunk) : Option (PVs [S_string] × PVs []) :=
  (w_I_patched_3 (t0, ([] : PV S_string), 0, t1, (t1.length : Int), 0, ())).bind fun l2 =>
    bif cutB l2.2.2.1 (l2.1.length : Int) l2.1.length then
      bif roomB (l2.2.1.length + (cutL l2.2.2.1 (l2.1.length : Int) l2.1).length) then
        some (((l2.2.1 ++ (cutL l2.2.2.1 (l2.1.length : Int) l2.1)), ()), ())
      else
        none
    else
      none
noncomputable def ct_I_patched : Ct := ⟨[(.bor, S_string), (.bor, S_impl_Hunk)], [(S_string, true)], fun x => f_I_patched x.1 x.2.1⟩
noncomputable def cx_I_patched : Cx := ⟨tab, arrs, [], []⟩
theorem eb_I_patched_3 (t0 : PV S_string) (t5 : PV S_string) (t6 : PV (.int .i64)) (t10 : PV S_impl_Hunk) (t11 : PV (.int .i64)) (t12 : PV (.int .i64)) : denK cx_I_patched (rcN cx_I_patched 0) pl_I_patched 0 ((loopsOf (bodyOf Try.f157)).getD 0 .skip) (fillS sh_I_patched_3 (t0, t5, t6, t10, t11, t12, ())) (roundK 0 lp_I_patched_3) = b_I_patched_3 t0 t5 t6 t10 t11 t12 := by kernel_rfl
theorem ef_I_patched (t0 : PV S_string) (t1 : PV S_impl_Hunk) : denF cx_I_patched 0 pl_I_patched Try.f157.ntmps (bodyOf Try.f157) Try.f157.results.toList [(.bor, S_string), (.bor, S_impl_Hunk)] [(S_string, true)] (t0, t1, ()) = f_I_patched t0 t1 := by kernel_rfl
theorem ok_I_patched : FnOk Try.prog 157 ct_I_patched :=
  fnOk (cx := cx_I_patched) (pl := pl_I_patched) (dp := 0) (ok0_of tabOk (by unfold ArrOk; kernel_rfl) mix trivial trivial) Try.func157 (by kernel_rfl) (by kernel_rfl) (by kernel_rfl)
    (by rw [show loopsOf (bodyOf Try.f157) = [((loopsOf (bodyOf Try.f157)).getD 0 .skip)] from by kernel_rfl]; exact ⟨(by rw [show lookup pl_I_patched.loops (firstId ((loopsOf (bodyOf Try.f157)).getD 0 .skip)) = some lp_I_patched_3 from by kernel_rfl]; exact fun d z h => (eb_I_patched_3 d.1 d.2.1 d.2.2.1 d.2.2.2.1 d.2.2.2.2.1 d.2.2.2.2.2.1).trans h), trivial⟩) (fun x => ef_I_patched x.1 x.2.1)
noncomputable def o_I_Patch_2 : List Out := [⟨.normal, ⟨[], [0, 1, 16]⟩, mkSh 24 [(0, .val S_string .b), (1, .val S_impl_Hunk .b), (16, .val .bool .b)]⟩]
noncomputable def pl_I_Patch : Plan := ⟨[(2, o_I_Patch_2)], [], 0, 0⟩
noncomputable def f_I_Patch (t0 : PV S_string) (t1 : PV S_impl_Hunk) : Option (PVs [S_string, .bool] × PVs []) :=
  ((
      (f_I_goodLines t0).bind fun r6 =>
        bif (!r6.1.1) then
          some (t0, t1, true, ())
        else
          (f_I_goodHunks (t0.length : Int) t1).bind fun r7 =>
            some (t0, t1, (!r7.1.1), ()) : Option ((PV S_string × PV S_impl_Hunk × PV .bool × Unit)))).bind fun j8 =>
    bif j8.2.2.1 then
      some (([], false, ()), ())
    else
      (f_I_patched j8.1 j8.2.1).bind fun r10 =>
        (f_I_goodLines r10.1.1).bind fun r14 =>
          bif (!r14.1.1) then
            some (([], false, ()), ())
          else
            some ((r10.1.1, true, ()), ())
noncomputable def ct_I_Patch : Ct := ⟨[(.bor, S_string), (.bor, S_impl_Hunk)], [(S_string, true), (.bool, false)], fun x => f_I_Patch x.1 x.2.1⟩
noncomputable def cx_I_Patch : Cx := ⟨tab, arrs, [(107, ct_I_goodHunks), (129, ct_I_goodLines), (157, ct_I_patched)], []⟩
theorem ef_I_Patch (t0 : PV S_string) (t1 : PV S_impl_Hunk) : denF cx_I_Patch 0 pl_I_Patch Try.f85.ntmps (bodyOf Try.f85) Try.f85.results.toList [(.bor, S_string), (.bor, S_impl_Hunk)] [(S_string, true), (.bool, false)] (t0, t1, ()) = f_I_Patch t0 t1 := by kernel_rfl
theorem ok_I_Patch : FnOk Try.prog 85 ct_I_Patch :=
  fnOk (cx := cx_I_Patch) (pl := pl_I_Patch) (dp := 0) (ok0_of tabOk (by unfold ArrOk; kernel_rfl) mix ⟨ok_I_goodHunks, ok_I_goodLines, ok_I_patched, trivial⟩ trivial) Try.func85 (by kernel_rfl) (by kernel_rfl) (by kernel_rfl)
    (by rw [show loopsOf (bodyOf Try.f85) = [] from by kernel_rfl]; exact trivial) (fun x => ef_I_Patch x.1 x.2.1)
noncomputable def o_I_ApplyGroups_3 : List Out := [⟨.normal, ⟨[], [0, 7, 8, 9, 24]⟩, mkSh 36 [(0, .val S_string .b), (7, .val S_impl_Hunk (.row (.pr .b (.pr .b (.pr (.row .b) .b))))), (8, .val (.int .i64) .b), (9, .val .bool .b), (24, .val .bool .b)]⟩]
noncomputable def pl_I_ApplyGroups : Plan := ⟨[(3, o_I_ApplyGroups_3)], [], 0, 0⟩
noncomputable def f_I_ApplyGroups (t0 : PV S_string) (t1 : PV S_impl_Group) : Option (PVs [S_string, (.int .i64), .bool] × PVs []) :=
  (f_I_GroupHunks t0 t1).bind fun r2 =>
    ((
        bif (!r2.1.2.2.1) then
          some (t0, r2.1.1, r2.1.2.1, r2.1.2.2.1, true, ())
        else
          some (t0, r2.1.1, r2.1.2.1, r2.1.2.2.1, (!(r2.1.2.1 == 0)), ()) : Option ((PV S_string × PV S_impl_Hunk × PV (.int .i64) × PV .bool × PV .bool × Unit)))).bind fun j4 =>
      bif j4.2.2.2.2.1 then
        some (([], j4.2.2.1, j4.2.2.2.1, ()), ())
      else
        (f_I_Patch j4.1 j4.2.1).bind fun r6 =>
          bif (!r6.1.2.1) then
            some (([], 2, true, ()), ())
          else
            some ((r6.1.1, 0, true, ()), ())
noncomputable def ct_I_ApplyGroups : Ct := ⟨[(.bor, S_string), (.bor, S_impl_Group)], [(S_string, true), ((.int .i64), false), (.bool, false)], fun x => f_I_ApplyGroups x.1 x.2.1⟩
noncomputable def cx_I_ApplyGroups : Cx := ⟨tab, arrs, [(85, ct_I_Patch), (139, ct_I_GroupHunks)], []⟩
theorem ef_I_ApplyGroups (t0 : PV S_string) (t1 : PV S_impl_Group) : denF cx_I_ApplyGroups 0 pl_I_ApplyGroups Try.f65.ntmps (bodyOf Try.f65) Try.f65.results.toList [(.bor, S_string), (.bor, S_impl_Group)] [(S_string, true), ((.int .i64), false), (.bool, false)] (t0, t1, ()) = f_I_ApplyGroups t0 t1 := by kernel_rfl
theorem ok_I_ApplyGroups : FnOk Try.prog 65 ct_I_ApplyGroups :=
  fnOk (cx := cx_I_ApplyGroups) (pl := pl_I_ApplyGroups) (dp := 0) (ok0_of tabOk (by unfold ArrOk; kernel_rfl) mix ⟨ok_I_Patch, ok_I_GroupHunks, trivial⟩ trivial) Try.func65 (by kernel_rfl) (by kernel_rfl) (by kernel_rfl)
    (by rw [show loopsOf (bodyOf Try.f65) = [] from by kernel_rfl]; exact trivial) (fun x => ef_I_ApplyGroups x.1 x.2.1)
noncomputable def sh_L_eqStringS_4 : List Sh := mkSh 26 [(0, .val S_string .b), (1, .val S_string .b), (5, .val (.int .i64) .b)]
noncomputable def o_L_eqStringS_4 : List Out := [⟨.exit 0, ⟨[], []⟩, mkSh 26 []⟩, ⟨.ret, ⟨[], [4]⟩, mkSh 26 [(4, .val .bool .b)]⟩]
noncomputable def b_L_eqStringS_4 (t0 : PV S_string) (t1 : PV S_string) (t5 : PV (.int .i64)) : Option ((PV S_string × PV S_string × PV (.int .i64) × Unit) ⊕ ((Unit) ⊕ (PV .bool × Unit))) :=
  bif (decide (t5 < (t0.length : Int))) then
    bif inB t5 t0.length then
      bif inB t5 t1.length then
        bif (!((t0.getD t5.toNat []) == (t1.getD t5.toNat []))) then
          some (.inr (.inr (false, ())))
        else
          some (.inl (t0, t1, (IntKind.wrap .i64 (t5 + 1)), ()))
      else
        none
    else
      none
  else
    some (.inr (.inl ()))
noncomputable def w_L_eqStringS_4 : PV S_string × PV S_string × PV (.int .i64) × Unit → Option ((Unit) ⊕ (PV .bool × Unit)) := fix fun d => b_L_eqStringS_4 d.1 d.2.1 d.2.2.1
noncomputable def lp_L_eqStringS_4 : Lp := ⟨⟨[], [0, 1, 5]⟩, sh_L_eqStringS_4, o_L_eqStringS_4, fun d => b_L_eqStringS_4 d.1 d.2.1 d.2.2.1⟩
noncomputable def pl_L_eqStringS : Plan := ⟨[], [(4, lp_L_eqStringS_4)], 0, 0⟩
noncomputable def f_L_eqStringS (t0 : PV S_string) (t1 : PV S_string) : Option (PVs [.bool] × PVs []) :=
  bif (!((t0.length : Int) == (t1.length : Int))) then
    some ((false, ()), ())
  else
    (w_L_eqStringS_4 (t0, t1, 0, ())).bind fun x5 =>
      match x5 with
      | .inl l3 =>
        some ((true, ()), ())
      | .inr l4 =>
        some ((l4.1, ()), ())
noncomputable def ct_L_eqStringS : Ct := ⟨[(.bor, S_string), (.bor, S_string)], [(.bool, false)], fun x => f_L_eqStringS x.1 x.2.1⟩
noncomputable def cx_L_eqStringS : Cx := ⟨tab, arrs, [], []⟩
theorem eb_L_eqStringS_4 (t0 : PV S_string) (t1 : PV S_string) (t5 : PV (.int .i64)) : denK cx_L_eqStringS (rcN cx_L_eqStringS 0) pl_L_eqStringS 0 ((loopsOf (bodyOf Try.f27)).getD 0 .skip) (fillS sh_L_eqStringS_4 (t0, t1, t5, ())) (roundK 0 lp_L_eqStringS_4) = b_L_eqStringS_4 t0 t1 t5 := by kernel_rfl
theorem ef_L_eqStringS (t0 : PV S_string) (t1 : PV S_string) : denF cx_L_eqStringS 0 pl_L_eqStringS Try.f27.ntmps (bodyOf Try.f27) Try.f27.results.toList [(.bor, S_string), (.bor, S_string)] [(.bool, false)] (t0, t1, ()) = f_L_eqStringS t0 t1 := by kernel_rfl
theorem ok_L_eqStringS : FnOk Try.prog 27 ct_L_eqStringS :=
  fnOk (cx := cx_L_eqStringS) (pl := pl_L_eqStringS) (dp := 0) (ok0_of tabOk (by unfold ArrOk; kernel_rfl) mix trivial trivial) Try.func27 (by kernel_rfl) (by kernel_rfl) (by kernel_rfl)
    (by rw [show loopsOf (bodyOf Try.f27) = [((loopsOf (bodyOf Try.f27)).getD 0 .skip)] from by kernel_rfl]; exact ⟨(by rw [show lookup pl_L_eqStringS.loops (firstId ((loopsOf (bodyOf Try.f27)).getD 0 .skip)) = some lp_L_eqStringS_4 from by kernel_rfl]; exact fun d z h => (eb_L_eqStringS_4 d.1 d.2.1 d.2.2.1).trans h), trivial⟩) (fun x => ef_L_eqStringS x.1 x.2.1)
noncomputable def sh_L_markStringS_2 : List Sh := mkSh 21 [(0, .val S_string (.row .b)), (1, .sub ⟨0, [], 0, 0⟩), (2, .val (.int .i64) .b), (6, .val (.int .i64) .b)]
noncomputable def o_L_markStringS_2 : List Out := [⟨.exit 0, ⟨[], [1]⟩, mkSh 21 [(0, .val S_string (.row .b)), (2, .val (.int .i64) .b)]⟩]
noncomputable def b_L_markStringS_2 (t0 : PV S_string) (t2 : PV (.int .i64)) (t6 : PV (.int .i64)) : Option ((PV S_string × PV (.int .i64) × PV (.int .i64) × Unit) ⊕ ((PV S_string × PV (.int .i64) × Unit))) :=
  bif (decide (t6 < (t0.length : Int))) then
    (f_L_markText t2).bind fun r4 =>
      bif inB t6 t0.length then
        some (.inl ((t0.set t6.toNat r4.1.1), (IntKind.wrap .i64 (t2 + 1)), (IntKind.wrap .i64 (t6 + 1)), ()))
      else
        none
  else
    some (.inr (t0, t2, ()))
noncomputable def w_L_markStringS_2 : PV S_string × PV (.int .i64) × PV (.int .i64) × Unit → Option ((PV S_string × PV (.int .i64) × Unit)) := fix fun d => b_L_markStringS_2 d.1 d.2.1 d.2.2.1
noncomputable def lp_L_markStringS_2 : Lp := ⟨⟨[], [0, 1, 5]⟩, sh_L_markStringS_2, o_L_markStringS_2, fun d => b_L_markStringS_2 d.1 d.2.1 d.2.2.1⟩
noncomputable def pl_L_markStringS : Plan := ⟨[], [(2, lp_L_markStringS_2)], 0, 1⟩
noncomputable def f_L_markStringS (t0 : PV S_string) (t1 : PV (.int .i64)) : Option (PVs [(.int .i64)] × PVs [S_string]) :=
  (w_L_markStringS_2 (t0, t1, 0, ())).bind fun l6 =>
    some ((l6.2.1, ()), (l6.1, ()))
noncomputable def ct_L_markStringS : Ct := ⟨[(.mut, S_string), (.bor, (.int .i64))], [((.int .i64), false)], fun x => f_L_markStringS x.1 x.2.1⟩
noncomputable def cx_L_markStringS : Cx := ⟨tab, arrs, [(98, ct_L_markText)], []⟩
theorem eb_L_markStringS_2 (t0 : PV S_string) (t2 : PV (.int .i64)) (t6 : PV (.int .i64)) : denK cx_L_markStringS (rcN cx_L_markStringS 0) pl_L_markStringS 1 ((loopsOf (bodyOf Try.f35)).getD 0 .skip) (fillS sh_L_markStringS_2 (t0, t2, t6, ())) (roundK 1 lp_L_markStringS_2) = b_L_markStringS_2 t0 t2 t6 := by kernel_rfl
theorem ef_L_markStringS (t0 : PV S_string) (t1 : PV (.int .i64)) : denF cx_L_markStringS 0 pl_L_markStringS Try.f35.ntmps (bodyOf Try.f35) Try.f35.results.toList [(.mut, S_string), (.bor, (.int .i64))] [((.int .i64), false)] (t0, t1, ()) = f_L_markStringS t0 t1 := by kernel_rfl
theorem ok_L_markStringS : FnOk Try.prog 35 ct_L_markStringS :=
  fnOk (cx := cx_L_markStringS) (pl := pl_L_markStringS) (dp := 0) (ok0_of tabOk (by unfold ArrOk; kernel_rfl) mix ⟨ok_L_markText, trivial⟩ trivial) Try.func35 (by kernel_rfl) (by kernel_rfl) (by kernel_rfl)
    (by rw [show loopsOf (bodyOf Try.f35) = [((loopsOf (bodyOf Try.f35)).getD 0 .skip)] from by kernel_rfl]; exact ⟨(by rw [show lookup pl_L_markStringS.loops (firstId ((loopsOf (bodyOf Try.f35)).getD 0 .skip)) = some lp_L_markStringS_2 from by kernel_rfl]; exact fun d z h => (eb_L_markStringS_2 d.1 d.2.1 d.2.2.1).trans h), trivial⟩) (fun x => ef_L_markStringS x.1 x.2.1)
noncomputable def sh_L_heldStringS_2 : List Sh := mkSh 22 [(0, .val S_string .b), (1, .val (.int .i64) .b), (5, .val (.int .i64) .b)]
noncomputable def o_L_heldStringS_2 : List Out := [⟨.exit 0, ⟨[], [1]⟩, mkSh 22 [(1, .val (.int .i64) .b)]⟩, ⟨.ret, ⟨[], [4]⟩, mkSh 22 [(4, .val (.int .i64) .b)]⟩]
noncomputable def b_L_heldStringS_2 (t0 : PV S_string) (t1 : PV (.int .i64)) (t5 : PV (.int .i64)) : Option ((PV S_string × PV (.int .i64) × PV (.int .i64) × Unit) ⊕ ((PV (.int .i64) × Unit) ⊕ (PV (.int .i64) × Unit))) :=
  bif (decide (t5 < (t0.length : Int))) then
    bif inB t5 t0.length then
      (f_L_markText t1).bind fun r8 =>
        bif (!((t0.getD t5.toNat []) == r8.1.1)) then
          some (.inr (.inr ((-1), ())))
        else
          some (.inl (t0, (IntKind.wrap .i64 (t1 + 1)), (IntKind.wrap .i64 (t5 + 1)), ()))
    else
      none
  else
    some (.inr (.inl (t1, ())))
noncomputable def w_L_heldStringS_2 : PV S_string × PV (.int .i64) × PV (.int .i64) × Unit → Option ((PV (.int .i64) × Unit) ⊕ (PV (.int .i64) × Unit)) := fix fun d => b_L_heldStringS_2 d.1 d.2.1 d.2.2.1
noncomputable def lp_L_heldStringS_2 : Lp := ⟨⟨[], [0, 1, 5]⟩, sh_L_heldStringS_2, o_L_heldStringS_2, fun d => b_L_heldStringS_2 d.1 d.2.1 d.2.2.1⟩
noncomputable def pl_L_heldStringS : Plan := ⟨[], [(2, lp_L_heldStringS_2)], 0, 0⟩
noncomputable def f_L_heldStringS (t0 : PV S_string) (t1 : PV (.int .i64)) : Option (PVs [(.int .i64)] × PVs []) :=
  (w_L_heldStringS_2 (t0, t1, 0, ())).bind fun x13 =>
    match x13 with
    | .inl l11 =>
      some ((l11.1, ()), ())
    | .inr l12 =>
      some ((l12.1, ()), ())
noncomputable def ct_L_heldStringS : Ct := ⟨[(.bor, S_string), (.bor, (.int .i64))], [((.int .i64), false)], fun x => f_L_heldStringS x.1 x.2.1⟩
noncomputable def cx_L_heldStringS : Cx := ⟨tab, arrs, [(98, ct_L_markText)], []⟩
theorem eb_L_heldStringS_2 (t0 : PV S_string) (t1 : PV (.int .i64)) (t5 : PV (.int .i64)) : denK cx_L_heldStringS (rcN cx_L_heldStringS 0) pl_L_heldStringS 0 ((loopsOf (bodyOf Try.f36)).getD 0 .skip) (fillS sh_L_heldStringS_2 (t0, t1, t5, ())) (roundK 0 lp_L_heldStringS_2) = b_L_heldStringS_2 t0 t1 t5 := by kernel_rfl
theorem ef_L_heldStringS (t0 : PV S_string) (t1 : PV (.int .i64)) : denF cx_L_heldStringS 0 pl_L_heldStringS Try.f36.ntmps (bodyOf Try.f36) Try.f36.results.toList [(.bor, S_string), (.bor, (.int .i64))] [((.int .i64), false)] (t0, t1, ()) = f_L_heldStringS t0 t1 := by kernel_rfl
theorem ok_L_heldStringS : FnOk Try.prog 36 ct_L_heldStringS :=
  fnOk (cx := cx_L_heldStringS) (pl := pl_L_heldStringS) (dp := 0) (ok0_of tabOk (by unfold ArrOk; kernel_rfl) mix ⟨ok_L_markText, trivial⟩ trivial) Try.func36 (by kernel_rfl) (by kernel_rfl) (by kernel_rfl)
    (by rw [show loopsOf (bodyOf Try.f36) = [((loopsOf (bodyOf Try.f36)).getD 0 .skip)] from by kernel_rfl]; exact ⟨(by rw [show lookup pl_L_heldStringS.loops (firstId ((loopsOf (bodyOf Try.f36)).getD 0 .skip)) = some lp_L_heldStringS_2 from by kernel_rfl]; exact fun d z h => (eb_L_heldStringS_2 d.1 d.2.1 d.2.2.1).trans h), trivial⟩) (fun x => ef_L_heldStringS x.1 x.2.1)
noncomputable def o_L_FnExactApplyGroups_13 : List Out := [⟨.normal, ⟨[], [0, 1, 6, 7, 8, 9, 10, 11, 12, 13, 63, 83, 84, 85, 86, 89, 90, 91, 94, 95, 96, 123, 124, 125, 128, 129, 130]⟩, mkSh 140 [(0, .val S_string .b), (1, .val S_laws_Group .b), (6, .val S_string (.row .b)), (7, .val (.int .i64) .b), (8, .val .bool .b), (9, .val S_string (.row .b)), (10, .val S_impl_Group (.row (.pr .b (.pr .b (.pr (.row (.pr .b (.pr .b .b))) .b))))), (11, .val S_string (.row .b)), (12, .val (.int .i64) .b), (13, .val .bool .b), (63, .val .bool .b)]⟩]
noncomputable def o_L_FnExactApplyGroups_22 : List Out := [⟨.normal, ⟨[], [0, 1, 6, 7, 8, 11, 97, 123, 124, 125, 128, 129, 130]⟩, mkSh 140 [(0, .val S_string .b), (1, .val S_laws_Group .b), (6, .val S_string (.row .b)), (7, .val (.int .i64) .b), (8, .val .bool .b), (11, .val S_string (.row .b)), (97, .val .bool .b)]⟩]
noncomputable def o_L_FnExactApplyGroups_33 : List Out := [⟨.normal, ⟨[], [11, 15, 131]⟩, mkSh 140 [(11, .val S_string (.row .b)), (15, .val (.int .i64) .b), (131, .val .bool .b)]⟩]
noncomputable def pl_L_FnExactApplyGroups : Plan := ⟨[(13, o_L_FnExactApplyGroups_13), (22, o_L_FnExactApplyGroups_22), (33, o_L_FnExactApplyGroups_33)], [], 0, 0⟩
noncomputable def f_L_FnExactApplyGroups (t0 : PV S_string) (t1 : PV S_laws_Group) : Option (PVs [.bool] × PVs []) :=
  (f_L_szStringS t0 1048576).bind fun r2 =>
    bif (decide (r2.1.1 < 0)) then
      some ((true, ()), ())
    else
      (f_L_szGroupS t1 r2.1.1).bind fun r4 =>
        bif (decide (r4.1.1 < 0)) then
          some ((true, ()), ())
        else
          (f_L_toStringS t0).bind fun r8 =>
            (f_L_toGroupS t1).bind fun r9 =>
              (f_S_ApplyGroups r8.1.1 r9.1.1).bind fun r10 =>
                (f_L_toStringS t0).bind fun r12 =>
                  (f_L_toGroupS t1).bind fun r14 =>
                    (f_I_ApplyGroups r12.1.1 r14.1.1).bind fun r16 =>
                      ((
                          (f_L_eqStringS r16.1.1 r10.1.1).bind fun r20 =>
                            bif (!r20.1.1) then
                              some (t0, t1, r10.1.1, r10.1.2.1, r10.1.2.2.1, r12.1.1, r14.1.1, r16.1.1, r16.1.2.1, r16.1.2.2.1, true, ())
                            else
                              bif (!(r16.1.2.1 == r10.1.2.1)) then
                                some (t0, t1, r10.1.1, r10.1.2.1, r10.1.2.2.1, r12.1.1, r14.1.1, r16.1.1, r16.1.2.1, r16.1.2.2.1, true, ())
                              else
                                some (t0, t1, r10.1.1, r10.1.2.1, r10.1.2.2.1, r12.1.1, r14.1.1, r16.1.1, r16.1.2.1, r16.1.2.2.1, (!(r16.1.2.2.1 == r10.1.2.2.1)), ()) : Option ((PV S_string × PV S_laws_Group × PV S_string × PV (.int .i64) × PV .bool × PV S_string × PV S_impl_Group × PV S_string × PV (.int .i64) × PV .bool × PV .bool × Unit)))).bind fun j21 =>
                        bif j21.2.2.2.2.2.2.2.2.2.2.1 then
                          some ((false, ()), ())
                        else
                          (f_L_toStringS j21.1).bind fun r28 =>
                            (f_L_eqStringS j21.2.2.2.2.2.1 r28.1.1).bind fun r29 =>
                              bif (!r29.1.1) then
                                some ((false, ()), ())
                              else
                                (f_L_toGroupS j21.2.1).bind fun r36 =>
                                  (f_L_eqGroupS j21.2.2.2.2.2.2.1 r36.1.1).bind fun r37 =>
                                    bif (!r37.1.1) then
                                      some ((false, ()), ())
                                    else
                                      (f_L_markStringS j21.2.2.2.2.2.1 1).bind fun r39 =>
                                        (f_L_markGroupS j21.2.2.2.2.2.2.1 r39.1.1).bind fun r41 =>
                                          ((
                                              bif (decide (r41.1.1 < 0)) then
                                                some (j21.1, j21.2.1, j21.2.2.1, j21.2.2.2.1, j21.2.2.2.2.1, j21.2.2.2.2.2.2.2.1, true, ())
                                              else
                                                (f_L_eqStringS j21.2.2.2.2.2.2.2.1 j21.2.2.1).bind fun r45 =>
                                                  bif (!r45.1.1) then
                                                    some (j21.1, j21.2.1, j21.2.2.1, j21.2.2.2.1, j21.2.2.2.2.1, j21.2.2.2.2.2.2.2.1, true, ())
                                                  else
                                                    bif (!(j21.2.2.2.2.2.2.2.2.1 == j21.2.2.2.1)) then
                                                      some (j21.1, j21.2.1, j21.2.2.1, j21.2.2.2.1, j21.2.2.2.2.1, j21.2.2.2.2.2.2.2.1, true, ())
                                                    else
                                                      some (j21.1, j21.2.1, j21.2.2.1, j21.2.2.2.1, j21.2.2.2.2.1, j21.2.2.2.2.2.2.2.1, (!(j21.2.2.2.2.2.2.2.2.2.1 == j21.2.2.2.2.1)), ()) : Option ((PV S_string × PV S_laws_Group × PV S_string × PV (.int .i64) × PV .bool × PV S_string × PV .bool × Unit)))).bind fun j46 =>
                                            bif j46.2.2.2.2.2.2.1 then
                                              some ((false, ()), ())
                                            else
                                              (f_L_markStringS j46.2.2.2.2.2.1 1).bind fun r48 =>
                                                (f_L_heldStringS r48.2.1 1).bind fun r50 =>
                                                  bif (decide (r50.1.1 < 0)) then
                                                    some ((false, ()), ())
                                                  else
                                                    bif (!(r50.1.1 == r48.1.1)) then
                                                      some ((false, ()), ())
                                                    else
                                                      (f_L_toStringS j46.1).bind fun r54 =>
                                                        (f_L_toGroupS j46.2.1).bind fun r55 =>
                                                          (f_I_ApplyGroups r54.1.1 r55.1.1).bind fun r56 =>
                                                            ((
                                                                (f_L_eqStringS r56.1.1 j46.2.2.1).bind fun r60 =>
                                                                  bif (!r60.1.1) then
                                                                    some (r48.2.1, r48.1.1, true, ())
                                                                  else
                                                                    bif (!(r56.1.2.1 == j46.2.2.2.1)) then
                                                                      some (r48.2.1, r48.1.1, true, ())
                                                                    else
                                                                      some (r48.2.1, r48.1.1, (!(r56.1.2.2.1 == j46.2.2.2.2.1)), ()) : Option ((PV S_string × PV (.int .i64) × PV .bool × Unit)))).bind fun j61 =>
                                                              bif j61.2.2.1 then
                                                                some ((false, ()), ())
                                                              else
                                                                (f_L_heldStringS j61.1 1).bind fun r63 =>
                                                                  bif (decide (r63.1.1 < 0)) then
                                                                    some ((false, ()), ())
                                                                  else
                                                                    bif (!(r63.1.1 == j61.2.1)) then
                                                                      some ((false, ()), ())
                                                                    else
                                                                      some ((true, ()), ())
noncomputable def ct_L_FnExactApplyGroups : Ct := ⟨[(.bor, S_string), (.bor, S_laws_Group)], [(.bool, false)], fun x => f_L_FnExactApplyGroups x.1 x.2.1⟩
noncomputable def cx_L_FnExactApplyGroups : Cx := ⟨tab, arrs, [(14, ct_L_szGroupS), (16, ct_L_toGroupS), (18, ct_L_eqGroupS), (19, ct_L_markGroupS), (21, ct_L_szStringS), (24, ct_L_toStringS), (27, ct_L_eqStringS), (35, ct_L_markStringS), (36, ct_L_heldStringS), (64, ct_S_ApplyGroups), (65, ct_I_ApplyGroups)], []⟩
theorem ef_L_FnExactApplyGroups (t0 : PV S_string) (t1 : PV S_laws_Group) : denF cx_L_FnExactApplyGroups 0 pl_L_FnExactApplyGroups Try.f12.ntmps (bodyOf Try.f12) Try.f12.results.toList [(.bor, S_string), (.bor, S_laws_Group)] [(.bool, false)] (t0, t1, ()) = f_L_FnExactApplyGroups t0 t1 := by kernel_rfl
theorem ok_L_FnExactApplyGroups : FnOk Try.prog 12 ct_L_FnExactApplyGroups :=
  fnOk (cx := cx_L_FnExactApplyGroups) (pl := pl_L_FnExactApplyGroups) (dp := 0) (ok0_of tabOk (by unfold ArrOk; kernel_rfl) mix ⟨ok_L_szGroupS, ok_L_toGroupS, ok_L_eqGroupS, ok_L_markGroupS, ok_L_szStringS, ok_L_toStringS, ok_L_eqStringS, ok_L_markStringS, ok_L_heldStringS, ok_S_ApplyGroups, ok_I_ApplyGroups, trivial⟩ trivial) Try.func12 (by kernel_rfl) (by kernel_rfl) (by kernel_rfl)
    (by rw [show loopsOf (bodyOf Try.f12) = [] from by kernel_rfl]; exact trivial) (fun x => ef_L_FnExactApplyGroups x.1 x.2.1)
end R
