/- The functions, part 2. -/
import Derived.Test.YtmdlfpmkghkakaaPaR1
open Go Go.Dn Go.Proofs
namespace R
set_option linter.unusedVariables false
set_option maxRecDepth 20000
open Go.Shelf
noncomputable def o_I_common_9 : List Out := [⟨.normal, ⟨[], [0, 1, 5, 6, 7]⟩, mkSh 90 [(0, .val S_string .b), (1, .val S_string .b), (5, .val S_S_int (.row (.row .b))), (6, .val (.int .i64) .b), (7, .val (.int .i64) .b)]⟩]
noncomputable def sh_I_common_8 : List Sh := mkSh 90 [(0, .val S_string .b), (1, .val S_string .b), (5, .val S_S_int (.row (.row .b))), (6, .val (.int .i64) .b), (7, .val (.int .i64) .b)]
noncomputable def o_I_common_8 : List Out := [⟨.exit 2, ⟨[], [0, 1, 5, 6]⟩, mkSh 90 [(0, .val S_string .b), (1, .val S_string .b), (5, .val S_S_int (.row (.row .b))), (6, .val (.int .i64) .b)]⟩]
noncomputable def b_I_common_8 (t0 : PV S_string) (t1 : PV S_string) (t5 : PV S_S_int) (t6 : PV (.int .i64)) (t7 : PV (.int .i64)) : Option ((PV S_string × PV S_string × PV S_S_int × PV (.int .i64) × PV (.int .i64) × Unit) ⊕ ((PV S_string × PV S_string × PV S_S_int × PV (.int .i64) × Unit))) :=
  bif (decide (t7 ≥ 0)) then
    ((
        bif inB t6 t0.length then
          bif inB t7 t1.length then
            bif ((t0.getD t6.toNat []) == (t1.getD t7.toNat [])) then
              bif inB t6 t5.length then
                bif inB (IntKind.wrap .i64 (t6 + 1)) t5.length then
                  bif inB (IntKind.wrap .i64 (t7 + 1)) (t5.getD ((IntKind.wrap .i64 (t6 + 1)).toNat) []).length then
                    bif inB t7 (t5.getD t6.toNat []).length then
                      some (t0, t1, (t5.set t6.toNat ((t5.getD t6.toNat []).set t7.toNat (IntKind.wrap .i64 (((t5.getD ((IntKind.wrap .i64 (t6 + 1)).toNat) []).getD ((IntKind.wrap .i64 (t7 + 1)).toNat) (0 : Int)) + 1)))), t6, t7, ())
                    else
                      none
                  else
                    none
                else
                  none
              else
                none
            else
              bif inB t6 t5.length then
                bif inB (IntKind.wrap .i64 (t6 + 1)) t5.length then
                  bif inB t7 (t5.getD ((IntKind.wrap .i64 (t6 + 1)).toNat) []).length then
                    bif inB t6 t5.length then
                      bif inB (IntKind.wrap .i64 (t7 + 1)) (t5.getD t6.toNat []).length then
                        bif inB t7 (t5.getD t6.toNat []).length then
                          some (t0, t1, (t5.set t6.toNat ((t5.getD t6.toNat []).set t7.toNat (bif decide (((t5.getD t6.toNat []).getD ((IntKind.wrap .i64 (t7 + 1)).toNat) (0 : Int)) > ((t5.getD ((IntKind.wrap .i64 (t6 + 1)).toNat) []).getD t7.toNat (0 : Int))) then ((t5.getD t6.toNat []).getD ((IntKind.wrap .i64 (t7 + 1)).toNat) (0 : Int)) else ((t5.getD ((IntKind.wrap .i64 (t6 + 1)).toNat) []).getD t7.toNat (0 : Int))))), t6, t7, ())
                        else
                          none
                      else
                        none
                    else
                      none
                  else
                    none
                else
                  none
              else
                none
          else
            none
        else
          none : Option ((PV S_string × PV S_string × PV S_S_int × PV (.int .i64) × PV (.int .i64) × Unit)))).bind fun j1 =>
      some (.inl (j1.1, j1.2.1, j1.2.2.1, j1.2.2.2.1, (IntKind.wrap .i64 (j1.2.2.2.2.1 - 1)), ()))
  else
    some (.inr (t0, t1, t5, t6, ()))
noncomputable def w_I_common_8 : PV S_string × PV S_string × PV S_S_int × PV (.int .i64) × PV (.int .i64) × Unit → Option ((PV S_string × PV S_string × PV S_S_int × PV (.int .i64) × Unit)) := fix fun d => b_I_common_8 d.1 d.2.1 d.2.2.1 d.2.2.2.1 d.2.2.2.2.1
noncomputable def lp_I_common_8 : Lp := ⟨⟨[], [0, 1, 5, 6, 7]⟩, sh_I_common_8, o_I_common_8, fun d => b_I_common_8 d.1 d.2.1 d.2.2.1 d.2.2.2.1 d.2.2.2.2.1⟩
noncomputable def sh_I_common_4 : List Sh := mkSh 90 [(0, .val S_string .b), (1, .val S_string .b), (5, .val S_S_int (.row (.row .b))), (6, .val (.int .i64) .b)]
noncomputable def o_I_common_4 : List Out := [⟨.exit 0, ⟨[], [5]⟩, mkSh 90 [(5, .val S_S_int (.row (.row .b)))]⟩]
noncomputable def b_I_common_4 (t0 : PV S_string) (t1 : PV S_string) (t5 : PV S_S_int) (t6 : PV (.int .i64)) : Option ((PV S_string × PV S_string × PV S_S_int × PV (.int .i64) × Unit) ⊕ ((PV S_S_int × Unit))) :=
  bif (decide (t6 ≥ 0)) then
    bif decide (0 ≤ (IntKind.wrap .i64 ((t1.length : Int) + 1))) && (decide ((IntKind.wrap .i64 ((t1.length : Int) + 1)) ≤ (IntKind.wrap .i64 ((t1.length : Int) + 1))) && roomB (IntKind.wrap .i64 ((t1.length : Int) + 1)).toNat) then
      bif inB t6 t5.length then
        (w_I_common_8 (t0, t1, (t5.set t6.toNat (List.replicate (IntKind.wrap .i64 ((t1.length : Int) + 1)).toNat (0 : Int))), t6, (IntKind.wrap .i64 ((t1.length : Int) - 1)), ())).bind fun l2 =>
          some (.inl (l2.1, l2.2.1, l2.2.2.1, (IntKind.wrap .i64 (l2.2.2.2.1 - 1)), ()))
      else
        none
    else
      none
  else
    some (.inr (t5, ()))
noncomputable def w_I_common_4 : PV S_string × PV S_string × PV S_S_int × PV (.int .i64) × Unit → Option ((PV S_S_int × Unit)) := fix fun d => b_I_common_4 d.1 d.2.1 d.2.2.1 d.2.2.2.1
noncomputable def lp_I_common_4 : Lp := ⟨⟨[], [0, 1, 5, 6]⟩, sh_I_common_4, o_I_common_4, fun d => b_I_common_4 d.1 d.2.1 d.2.2.1 d.2.2.2.1⟩
noncomputable def pl_I_common : Plan := ⟨[(9, o_I_common_9)], [(8, lp_I_common_8), (4, lp_I_common_4)], 0, 0⟩
noncomputable def f_I_common (t0 : PV S_string) (t1 : PV S_string) : Option (PVs [S_S_int] × PVs []) :=
  bif decide (0 ≤ (IntKind.wrap .i64 ((t0.length : Int) + 1))) && (decide ((IntKind.wrap .i64 ((t0.length : Int) + 1)) ≤ (IntKind.wrap .i64 ((t0.length : Int) + 1))) && roomB (IntKind.wrap .i64 ((t0.length : Int) + 1)).toNat) then
    bif decide (0 ≤ (IntKind.wrap .i64 ((t1.length : Int) + 1))) && (decide ((IntKind.wrap .i64 ((t1.length : Int) + 1)) ≤ (IntKind.wrap .i64 ((t1.length : Int) + 1))) && roomB (IntKind.wrap .i64 ((t1.length : Int) + 1)).toNat) then
      bif inB (t0.length : Int) (List.replicate (IntKind.wrap .i64 ((t0.length : Int) + 1)).toNat ([] : PV S_int)).length then
        (w_I_common_4 (t0, t1, ((List.replicate (IntKind.wrap .i64 ((t0.length : Int) + 1)).toNat ([] : PV S_int)).set ((t0.length : Int).toNat) (List.replicate (IntKind.wrap .i64 ((t1.length : Int) + 1)).toNat (0 : Int))), (IntKind.wrap .i64 ((t0.length : Int) - 1)), ())).bind fun l4 =>
          some ((l4.1, ()), ())
      else
        none
    else
      none
  else
    none
noncomputable def ct_I_common : Ct := ⟨[(.bor, S_string), (.bor, S_string)], [(S_S_int, true)], fun x => f_I_common x.1 x.2.1⟩
noncomputable def cx_I_common : Cx := ⟨tab, arrs, [], []⟩
theorem eb_I_common_4 (t0 : PV S_string) (t1 : PV S_string) (t5 : PV S_S_int) (t6 : PV (.int .i64)) : denK cx_I_common (rcN cx_I_common 0) pl_I_common 0 ((loopsOf (bodyOf Try.f86)).getD 0 .skip) (fillS sh_I_common_4 (t0, t1, t5, t6, ())) (roundK 0 lp_I_common_4) = b_I_common_4 t0 t1 t5 t6 := by kernel_rfl
theorem eb_I_common_8 (t0 : PV S_string) (t1 : PV S_string) (t5 : PV S_S_int) (t6 : PV (.int .i64)) (t7 : PV (.int .i64)) : denK cx_I_common (rcN cx_I_common 0) pl_I_common 0 ((loopsOf (bodyOf Try.f86)).getD 1 .skip) (fillS sh_I_common_8 (t0, t1, t5, t6, t7, ())) (roundK 0 lp_I_common_8) = b_I_common_8 t0 t1 t5 t6 t7 := by kernel_rfl
theorem ef_I_common (t0 : PV S_string) (t1 : PV S_string) : denF cx_I_common 0 pl_I_common Try.f86.ntmps (bodyOf Try.f86) Try.f86.results.toList [(.bor, S_string), (.bor, S_string)] [(S_S_int, true)] (t0, t1, ()) = f_I_common t0 t1 := by kernel_rfl
theorem ok_I_common : FnOk Try.prog 86 ct_I_common :=
  fnOk (cx := cx_I_common) (pl := pl_I_common) (dp := 0) (ok0_of tabOk (by unfold ArrOk; kernel_rfl) mix trivial trivial) Try.func86 (by kernel_rfl) (by kernel_rfl) (by kernel_rfl)
    (by rw [show loopsOf (bodyOf Try.f86) = [((loopsOf (bodyOf Try.f86)).getD 0 .skip), ((loopsOf (bodyOf Try.f86)).getD 1 .skip)] from by kernel_rfl]; exact ⟨(by rw [show lookup pl_I_common.loops (firstId ((loopsOf (bodyOf Try.f86)).getD 0 .skip)) = some lp_I_common_4 from by kernel_rfl]; exact fun d z h => (eb_I_common_4 d.1 d.2.1 d.2.2.1 d.2.2.2.1).trans h), (by rw [show lookup pl_I_common.loops (firstId ((loopsOf (bodyOf Try.f86)).getD 1 .skip)) = some lp_I_common_8 from by kernel_rfl]; exact fun d z h => (eb_I_common_8 d.1 d.2.1 d.2.2.1 d.2.2.2.1 d.2.2.2.2.1).trans h), trivial⟩) (fun x => ef_I_common x.1 x.2.1)
noncomputable def sh_I_ChurnOf_5 : List Sh := mkSh 51 [(0, .val S_S_string .b), (4, .val S_S_int (.row (.row .b))), (5, .val (.int .i64) .b)]
noncomputable def o_I_ChurnOf_5 : List Out := [⟨.exit 0, ⟨[], [4]⟩, mkSh 51 [(4, .val S_S_int (.row (.row .b)))]⟩]
noncomputable def b_I_ChurnOf_5 (t0 : PV S_S_string) (t4 : PV S_S_int) (t5 : PV (.int .i64)) : Option ((PV S_S_string × PV S_S_int × PV (.int .i64) × Unit) ⊕ ((PV S_S_int × Unit))) :=
  bif (decide (t5 < (t0.length : Int))) then
    bif inB (IntKind.wrap .i64 (t5 - 1)) t0.length then
      bif inB t5 t0.length then
        (f_I_common (t0.getD ((IntKind.wrap .i64 (t5 - 1)).toNat) []) (t0.getD t5.toNat [])).bind fun r8 =>
          bif inB 0 r8.1.1.length then
            bif inB 0 (r8.1.1.getD ((0 : Int).toNat) []).length then
              bif inB (IntKind.wrap .i64 (t5 - 1)) t0.length then
                bif inB t5 t0.length then
                  bif roomB (t4.length + [[(IntKind.wrap .i64 (((t0.getD ((IntKind.wrap .i64 (t5 - 1)).toNat) []).length : Int) - ((r8.1.1.getD ((0 : Int).toNat) []).getD ((0 : Int).toNat) (0 : Int)))), (IntKind.wrap .i64 (((t0.getD t5.toNat []).length : Int) - ((r8.1.1.getD ((0 : Int).toNat) []).getD ((0 : Int).toNat) (0 : Int))))]].length) then
                    some (.inl (t0, (t4 ++ [[(IntKind.wrap .i64 (((t0.getD ((IntKind.wrap .i64 (t5 - 1)).toNat) []).length : Int) - ((r8.1.1.getD ((0 : Int).toNat) []).getD ((0 : Int).toNat) (0 : Int)))), (IntKind.wrap .i64 (((t0.getD t5.toNat []).length : Int) - ((r8.1.1.getD ((0 : Int).toNat) []).getD ((0 : Int).toNat) (0 : Int))))]]), (IntKind.wrap .i64 (t5 + 1)), ()))
                  else
                    none
                else
                  none
              else
                none
            else
              none
          else
            none
      else
        none
    else
      none
  else
    some (.inr (t4, ()))
noncomputable def w_I_ChurnOf_5 : PV S_S_string × PV S_S_int × PV (.int .i64) × Unit → Option ((PV S_S_int × Unit)) := fix fun d => b_I_ChurnOf_5 d.1 d.2.1 d.2.2.1
noncomputable def lp_I_ChurnOf_5 : Lp := ⟨⟨[], [0, 4, 5]⟩, sh_I_ChurnOf_5, o_I_ChurnOf_5, fun d => b_I_ChurnOf_5 d.1 d.2.1 d.2.2.1⟩
noncomputable def pl_I_ChurnOf : Plan := ⟨[], [(5, lp_I_ChurnOf_5)], 0, 0⟩
noncomputable def f_I_ChurnOf (t0 : PV S_S_string) : Option (PVs [S_S_int, .bool] × PVs []) :=
  (f_I_areVersions t0).bind fun r4 =>
    bif (!r4.1.1) then
      some (([], false, ()), ())
    else
      (w_I_ChurnOf_5 (t0, ([] : PV S_S_int), 1, ())).bind fun l10 =>
        some ((l10.1, true, ()), ())
noncomputable def ct_I_ChurnOf : Ct := ⟨[(.bor, S_S_string)], [(S_S_int, true), (.bool, false)], fun x => f_I_ChurnOf x.1⟩
noncomputable def cx_I_ChurnOf : Cx := ⟨tab, arrs, [(85, ct_I_areVersions), (86, ct_I_common)], []⟩
theorem eb_I_ChurnOf_5 (t0 : PV S_S_string) (t4 : PV S_S_int) (t5 : PV (.int .i64)) : denK cx_I_ChurnOf (rcN cx_I_ChurnOf 0) pl_I_ChurnOf 0 ((loopsOf (bodyOf Try.f37)).getD 0 .skip) (fillS sh_I_ChurnOf_5 (t0, t4, t5, ())) (roundK 0 lp_I_ChurnOf_5) = b_I_ChurnOf_5 t0 t4 t5 := by kernel_rfl
theorem ef_I_ChurnOf (t0 : PV S_S_string) : denF cx_I_ChurnOf 0 pl_I_ChurnOf Try.f37.ntmps (bodyOf Try.f37) Try.f37.results.toList [(.bor, S_S_string)] [(S_S_int, true), (.bool, false)] (t0, ()) = f_I_ChurnOf t0 := by kernel_rfl
theorem ok_I_ChurnOf : FnOk Try.prog 37 ct_I_ChurnOf :=
  fnOk (cx := cx_I_ChurnOf) (pl := pl_I_ChurnOf) (dp := 0) (ok0_of tabOk (by unfold ArrOk; kernel_rfl) mix ⟨ok_I_areVersions, ok_I_common, trivial⟩ trivial) Try.func37 (by kernel_rfl) (by kernel_rfl) (by kernel_rfl)
    (by rw [show loopsOf (bodyOf Try.f37) = [((loopsOf (bodyOf Try.f37)).getD 0 .skip)] from by kernel_rfl]; exact ⟨(by rw [show lookup pl_I_ChurnOf.loops (firstId ((loopsOf (bodyOf Try.f37)).getD 0 .skip)) = some lp_I_ChurnOf_5 from by kernel_rfl]; exact fun d z h => (eb_I_ChurnOf_5 d.1 d.2.1 d.2.2.1).trans h), trivial⟩) (fun x => ef_I_ChurnOf x.1)
noncomputable def sh_L_eqIntS_4 : List Sh := mkSh 26 [(0, .val S_int .b), (1, .val S_int .b), (5, .val (.int .i64) .b)]
noncomputable def o_L_eqIntS_4 : List Out := [⟨.exit 0, ⟨[], []⟩, mkSh 26 []⟩, ⟨.ret, ⟨[], [4]⟩, mkSh 26 [(4, .val .bool .b)]⟩]
noncomputable def b_L_eqIntS_4 (t0 : PV S_int) (t1 : PV S_int) (t5 : PV (.int .i64)) : Option ((PV S_int × PV S_int × PV (.int .i64) × Unit) ⊕ ((Unit) ⊕ (PV .bool × Unit))) :=
  bif (decide (t5 < (t0.length : Int))) then
    bif inB t5 t0.length then
      bif inB t5 t1.length then
        bif (!((t0.getD t5.toNat (0 : Int)) == (t1.getD t5.toNat (0 : Int)))) then
          some (.inr (.inr (false, ())))
        else
          some (.inl (t0, t1, (IntKind.wrap .i64 (t5 + 1)), ()))
      else
        none
    else
      none
  else
    some (.inr (.inl ()))
noncomputable def w_L_eqIntS_4 : PV S_int × PV S_int × PV (.int .i64) × Unit → Option ((Unit) ⊕ (PV .bool × Unit)) := fix fun d => b_L_eqIntS_4 d.1 d.2.1 d.2.2.1
noncomputable def lp_L_eqIntS_4 : Lp := ⟨⟨[], [0, 1, 5]⟩, sh_L_eqIntS_4, o_L_eqIntS_4, fun d => b_L_eqIntS_4 d.1 d.2.1 d.2.2.1⟩
noncomputable def pl_L_eqIntS : Plan := ⟨[], [(4, lp_L_eqIntS_4)], 0, 0⟩
noncomputable def f_L_eqIntS (t0 : PV S_int) (t1 : PV S_int) : Option (PVs [.bool] × PVs []) :=
  bif (!((t0.length : Int) == (t1.length : Int))) then
    some ((false, ()), ())
  else
    (w_L_eqIntS_4 (t0, t1, 0, ())).bind fun x5 =>
      match x5 with
      | .inl l3 =>
        some ((true, ()), ())
      | .inr l4 =>
        some ((l4.1, ()), ())
noncomputable def ct_L_eqIntS : Ct := ⟨[(.bor, S_int), (.bor, S_int)], [(.bool, false)], fun x => f_L_eqIntS x.1 x.2.1⟩
noncomputable def cx_L_eqIntS : Cx := ⟨tab, arrs, [], []⟩
theorem eb_L_eqIntS_4 (t0 : PV S_int) (t1 : PV S_int) (t5 : PV (.int .i64)) : denK cx_L_eqIntS (rcN cx_L_eqIntS 0) pl_L_eqIntS 0 ((loopsOf (bodyOf Try.f61)).getD 0 .skip) (fillS sh_L_eqIntS_4 (t0, t1, t5, ())) (roundK 0 lp_L_eqIntS_4) = b_L_eqIntS_4 t0 t1 t5 := by kernel_rfl
theorem ef_L_eqIntS (t0 : PV S_int) (t1 : PV S_int) : denF cx_L_eqIntS 0 pl_L_eqIntS Try.f61.ntmps (bodyOf Try.f61) Try.f61.results.toList [(.bor, S_int), (.bor, S_int)] [(.bool, false)] (t0, t1, ()) = f_L_eqIntS t0 t1 := by kernel_rfl
theorem ok_L_eqIntS : FnOk Try.prog 61 ct_L_eqIntS :=
  fnOk (cx := cx_L_eqIntS) (pl := pl_L_eqIntS) (dp := 0) (ok0_of tabOk (by unfold ArrOk; kernel_rfl) mix trivial trivial) Try.func61 (by kernel_rfl) (by kernel_rfl) (by kernel_rfl)
    (by rw [show loopsOf (bodyOf Try.f61) = [((loopsOf (bodyOf Try.f61)).getD 0 .skip)] from by kernel_rfl]; exact ⟨(by rw [show lookup pl_L_eqIntS.loops (firstId ((loopsOf (bodyOf Try.f61)).getD 0 .skip)) = some lp_L_eqIntS_4 from by kernel_rfl]; exact fun d z h => (eb_L_eqIntS_4 d.1 d.2.1 d.2.2.1).trans h), trivial⟩) (fun x => ef_L_eqIntS x.1 x.2.1)
noncomputable def sh_L_eqIntSS_4 : List Sh := mkSh 27 [(0, .val S_S_int .b), (1, .val S_S_int .b), (5, .val (.int .i64) .b)]
noncomputable def o_L_eqIntSS_4 : List Out := [⟨.exit 0, ⟨[], []⟩, mkSh 27 []⟩, ⟨.ret, ⟨[], [4]⟩, mkSh 27 [(4, .val .bool .b)]⟩]
noncomputable def b_L_eqIntSS_4 (t0 : PV S_S_int) (t1 : PV S_S_int) (t5 : PV (.int .i64)) : Option ((PV S_S_int × PV S_S_int × PV (.int .i64) × Unit) ⊕ ((Unit) ⊕ (PV .bool × Unit))) :=
  bif (decide (t5 < (t0.length : Int))) then
    bif inB t5 t0.length then
      bif inB t5 t1.length then
        (f_L_eqIntS (t0.getD t5.toNat []) (t1.getD t5.toNat [])).bind fun r4 =>
          bif (!r4.1.1) then
            some (.inr (.inr (false, ())))
          else
            some (.inl (t0, t1, (IntKind.wrap .i64 (t5 + 1)), ()))
      else
        none
    else
      none
  else
    some (.inr (.inl ()))
noncomputable def w_L_eqIntSS_4 : PV S_S_int × PV S_S_int × PV (.int .i64) × Unit → Option ((Unit) ⊕ (PV .bool × Unit)) := fix fun d => b_L_eqIntSS_4 d.1 d.2.1 d.2.2.1
noncomputable def lp_L_eqIntSS_4 : Lp := ⟨⟨[], [0, 1, 5]⟩, sh_L_eqIntSS_4, o_L_eqIntSS_4, fun d => b_L_eqIntSS_4 d.1 d.2.1 d.2.2.1⟩
noncomputable def pl_L_eqIntSS : Plan := ⟨[], [(4, lp_L_eqIntSS_4)], 0, 0⟩
noncomputable def f_L_eqIntSS (t0 : PV S_S_int) (t1 : PV S_S_int) : Option (PVs [.bool] × PVs []) :=
  bif (!((t0.length : Int) == (t1.length : Int))) then
    some ((false, ()), ())
  else
    (w_L_eqIntSS_4 (t0, t1, 0, ())).bind fun x9 =>
      match x9 with
      | .inl l7 =>
        some ((true, ()), ())
      | .inr l8 =>
        some ((l8.1, ()), ())
noncomputable def ct_L_eqIntSS : Ct := ⟨[(.bor, S_S_int), (.bor, S_S_int)], [(.bool, false)], fun x => f_L_eqIntSS x.1 x.2.1⟩
noncomputable def cx_L_eqIntSS : Cx := ⟨tab, arrs, [(61, ct_L_eqIntS)], []⟩
theorem eb_L_eqIntSS_4 (t0 : PV S_S_int) (t1 : PV S_S_int) (t5 : PV (.int .i64)) : denK cx_L_eqIntSS (rcN cx_L_eqIntSS 0) pl_L_eqIntSS 0 ((loopsOf (bodyOf Try.f38)).getD 0 .skip) (fillS sh_L_eqIntSS_4 (t0, t1, t5, ())) (roundK 0 lp_L_eqIntSS_4) = b_L_eqIntSS_4 t0 t1 t5 := by kernel_rfl
theorem ef_L_eqIntSS (t0 : PV S_S_int) (t1 : PV S_S_int) : denF cx_L_eqIntSS 0 pl_L_eqIntSS Try.f38.ntmps (bodyOf Try.f38) Try.f38.results.toList [(.bor, S_S_int), (.bor, S_S_int)] [(.bool, false)] (t0, t1, ()) = f_L_eqIntSS t0 t1 := by kernel_rfl
theorem ok_L_eqIntSS : FnOk Try.prog 38 ct_L_eqIntSS :=
  fnOk (cx := cx_L_eqIntSS) (pl := pl_L_eqIntSS) (dp := 0) (ok0_of tabOk (by unfold ArrOk; kernel_rfl) mix ⟨ok_L_eqIntS, trivial⟩ trivial) Try.func38 (by kernel_rfl) (by kernel_rfl) (by kernel_rfl)
    (by rw [show loopsOf (bodyOf Try.f38) = [((loopsOf (bodyOf Try.f38)).getD 0 .skip)] from by kernel_rfl]; exact ⟨(by rw [show lookup pl_L_eqIntSS.loops (firstId ((loopsOf (bodyOf Try.f38)).getD 0 .skip)) = some lp_L_eqIntSS_4 from by kernel_rfl]; exact fun d z h => (eb_L_eqIntSS_4 d.1 d.2.1 d.2.2.1).trans h), trivial⟩) (fun x => ef_L_eqIntSS x.1 x.2.1)
noncomputable def sh_L_eqStringSS_4 : List Sh := mkSh 27 [(0, .val S_S_string .b), (1, .val S_S_string .b), (5, .val (.int .i64) .b)]
noncomputable def o_L_eqStringSS_4 : List Out := [⟨.exit 0, ⟨[], []⟩, mkSh 27 []⟩, ⟨.ret, ⟨[], [4]⟩, mkSh 27 [(4, .val .bool .b)]⟩]
noncomputable def b_L_eqStringSS_4 (t0 : PV S_S_string) (t1 : PV S_S_string) (t5 : PV (.int .i64)) : Option ((PV S_S_string × PV S_S_string × PV (.int .i64) × Unit) ⊕ ((Unit) ⊕ (PV .bool × Unit))) :=
  bif (decide (t5 < (t0.length : Int))) then
    bif inB t5 t0.length then
      bif inB t5 t1.length then
        (f_L_eqStringS (t0.getD t5.toNat []) (t1.getD t5.toNat [])).bind fun r4 =>
          bif (!r4.1.1) then
            some (.inr (.inr (false, ())))
          else
            some (.inl (t0, t1, (IntKind.wrap .i64 (t5 + 1)), ()))
      else
        none
    else
      none
  else
    some (.inr (.inl ()))
noncomputable def w_L_eqStringSS_4 : PV S_S_string × PV S_S_string × PV (.int .i64) × Unit → Option ((Unit) ⊕ (PV .bool × Unit)) := fix fun d => b_L_eqStringSS_4 d.1 d.2.1 d.2.2.1
noncomputable def lp_L_eqStringSS_4 : Lp := ⟨⟨[], [0, 1, 5]⟩, sh_L_eqStringSS_4, o_L_eqStringSS_4, fun d => b_L_eqStringSS_4 d.1 d.2.1 d.2.2.1⟩
noncomputable def pl_L_eqStringSS : Plan := ⟨[], [(4, lp_L_eqStringSS_4)], 0, 0⟩
noncomputable def f_L_eqStringSS (t0 : PV S_S_string) (t1 : PV S_S_string) : Option (PVs [.bool] × PVs []) :=
  bif (!((t0.length : Int) == (t1.length : Int))) then
    some ((false, ()), ())
  else
    (w_L_eqStringSS_4 (t0, t1, 0, ())).bind fun x9 =>
      match x9 with
      | .inl l7 =>
        some ((true, ()), ())
      | .inr l8 =>
        some ((l8.1, ()), ())
noncomputable def ct_L_eqStringSS : Ct := ⟨[(.bor, S_S_string), (.bor, S_S_string)], [(.bool, false)], fun x => f_L_eqStringSS x.1 x.2.1⟩
noncomputable def cx_L_eqStringSS : Cx := ⟨tab, arrs, [(33, ct_L_eqStringS)], []⟩
theorem eb_L_eqStringSS_4 (t0 : PV S_S_string) (t1 : PV S_S_string) (t5 : PV (.int .i64)) : denK cx_L_eqStringSS (rcN cx_L_eqStringSS 0) pl_L_eqStringSS 0 ((loopsOf (bodyOf Try.f39)).getD 0 .skip) (fillS sh_L_eqStringSS_4 (t0, t1, t5, ())) (roundK 0 lp_L_eqStringSS_4) = b_L_eqStringSS_4 t0 t1 t5 := by kernel_rfl
theorem ef_L_eqStringSS (t0 : PV S_S_string) (t1 : PV S_S_string) : denF cx_L_eqStringSS 0 pl_L_eqStringSS Try.f39.ntmps (bodyOf Try.f39) Try.f39.results.toList [(.bor, S_S_string), (.bor, S_S_string)] [(.bool, false)] (t0, t1, ()) = f_L_eqStringSS t0 t1 := by kernel_rfl
theorem ok_L_eqStringSS : FnOk Try.prog 39 ct_L_eqStringSS :=
  fnOk (cx := cx_L_eqStringSS) (pl := pl_L_eqStringSS) (dp := 0) (ok0_of tabOk (by unfold ArrOk; kernel_rfl) mix ⟨ok_L_eqStringS, trivial⟩ trivial) Try.func39 (by kernel_rfl) (by kernel_rfl) (by kernel_rfl)
    (by rw [show loopsOf (bodyOf Try.f39) = [((loopsOf (bodyOf Try.f39)).getD 0 .skip)] from by kernel_rfl]; exact ⟨(by rw [show lookup pl_L_eqStringSS.loops (firstId ((loopsOf (bodyOf Try.f39)).getD 0 .skip)) = some lp_L_eqStringSS_4 from by kernel_rfl]; exact fun d z h => (eb_L_eqStringSS_4 d.1 d.2.1 d.2.2.1).trans h), trivial⟩) (fun x => ef_L_eqStringSS x.1 x.2.1)
noncomputable def sh_L_markText_4 : List Sh := mkSh 20 [(0, .val (.int .i64) .b), (3, .val .str .b)]
noncomputable def o_L_markText_4 : List Out := [⟨.exit 0, ⟨[], [3]⟩, mkSh 20 [(3, .val .str .b)]⟩]
noncomputable def b_L_markText_4 (t0 : PV (.int .i64)) (t3 : PV .str) : Option ((PV (.int .i64) × PV .str × Unit) ⊕ ((PV .str × Unit))) :=
  bif (decide (t0 > 0)) then
    bif 10 == 0 then
      none
    else
      bif decide ((bytesOfInts [(IntKind.wrap .u8 (IntKind.wrap .i64 (48 + (t0.tmod 10))))]).length + t3.length ≤ 1099511627776) then
        bif 10 == 0 then
          none
        else
          some (.inl ((IntKind.wrap .i64 (t0.tdiv 10)), ((bytesOfInts [(IntKind.wrap .u8 (IntKind.wrap .i64 (48 + (t0.tmod 10))))]) ++ t3), ()))
      else
        none
  else
    some (.inr (t3, ()))
noncomputable def w_L_markText_4 : PV (.int .i64) × PV .str × Unit → Option ((PV .str × Unit)) := fix fun d => b_L_markText_4 d.1 d.2.1
noncomputable def lp_L_markText_4 : Lp := ⟨⟨[], [0, 3]⟩, sh_L_markText_4, o_L_markText_4, fun d => b_L_markText_4 d.1 d.2.1⟩
noncomputable def pl_L_markText : Plan := ⟨[], [(4, lp_L_markText_4)], 0, 0⟩
noncomputable def f_L_markText (t0 : PV (.int .i64)) : Option (PVs [.str] × PVs []) :=
  bif (decide (t0 ≤ 0)) then
    some (([109, 48], ()), ())
  else
    (w_L_markText_4 (t0, [], ())).bind fun l2 =>
      bif decide ([109].length + l2.1.length ≤ 1099511627776) then
        some ((([109] ++ l2.1), ()), ())
      else
        none
noncomputable def ct_L_markText : Ct := ⟨[(.bor, (.int .i64))], [(.str, false)], fun x => f_L_markText x.1⟩
noncomputable def cx_L_markText : Cx := ⟨tab, arrs, [], []⟩
theorem eb_L_markText_4 (t0 : PV (.int .i64)) (t3 : PV .str) : denK cx_L_markText (rcN cx_L_markText 0) pl_L_markText 0 ((loopsOf (bodyOf Try.f103)).getD 0 .skip) (fillS sh_L_markText_4 (t0, t3, ())) (roundK 0 lp_L_markText_4) = b_L_markText_4 t0 t3 := by kernel_rfl
theorem ef_L_markText (t0 : PV (.int .i64)) : denF cx_L_markText 0 pl_L_markText Try.f103.ntmps (bodyOf Try.f103) Try.f103.results.toList [(.bor, (.int .i64))] [(.str, false)] (t0, ()) = f_L_markText t0 := by kernel_rfl
theorem ok_L_markText : FnOk Try.prog 103 ct_L_markText :=
  fnOk (cx := cx_L_markText) (pl := pl_L_markText) (dp := 0) (ok0_of tabOk (by unfold ArrOk; kernel_rfl) mix trivial trivial) Try.func103 (by kernel_rfl) (by kernel_rfl) (by kernel_rfl)
    (by rw [show loopsOf (bodyOf Try.f103) = [((loopsOf (bodyOf Try.f103)).getD 0 .skip)] from by kernel_rfl]; exact ⟨(by rw [show lookup pl_L_markText.loops (firstId ((loopsOf (bodyOf Try.f103)).getD 0 .skip)) = some lp_L_markText_4 from by kernel_rfl]; exact fun d z h => (eb_L_markText_4 d.1 d.2.1).trans h), trivial⟩) (fun x => ef_L_markText x.1)
noncomputable def sh_L_markStringS_2 : List Sh := mkSh 21 [(0, .val S_string (.row .b)), (1, .sub ⟨0, [], 0, 0⟩), (2, .val (.int .i64) .b), (6, .val (.int .i64) .b)]
noncomputable def o_L_markStringS_2 : List Out := [⟨.exit 0, ⟨[], [1]⟩, mkSh 21 [(0, .val S_string (.row .b)), (2, .val (.int .i64) .b)]⟩]
noncomputable def b_L_markStringS_2 (t0 : PV S_string) (t2 : PV (.int .i64)) (t6 : PV (.int .i64)) : Option ((PV S_string × PV (.int .i64) × PV (.int .i64) × Unit) ⊕ ((PV S_string × PV (.int .i64) × Unit))) :=
  bif (decide (t6 < (t0.length : Int))) then
    (f_L_markText t2).bind fun r4 =>
      bif inB t6 t0.length then
        some (.inl ((t0.set t6.toNat r4.1.1), (IntKind.wrap .i64 (t2 + 1)), (IntKind.wrap .i64 (t6 + 1)), ()))
      else
        none
  else
    some (.inr (t0, t2, ()))
noncomputable def w_L_markStringS_2 : PV S_string × PV (.int .i64) × PV (.int .i64) × Unit → Option ((PV S_string × PV (.int .i64) × Unit)) := fix fun d => b_L_markStringS_2 d.1 d.2.1 d.2.2.1
noncomputable def lp_L_markStringS_2 : Lp := ⟨⟨[], [0, 1, 5]⟩, sh_L_markStringS_2, o_L_markStringS_2, fun d => b_L_markStringS_2 d.1 d.2.1 d.2.2.1⟩
noncomputable def pl_L_markStringS : Plan := ⟨[], [(2, lp_L_markStringS_2)], 0, 1⟩
noncomputable def f_L_markStringS (t0 : PV S_string) (t1 : PV (.int .i64)) : Option (PVs [(.int .i64)] × PVs [S_string]) :=
  (w_L_markStringS_2 (t0, t1, 0, ())).bind fun l6 =>
    some ((l6.2.1, ()), (l6.1, ()))
noncomputable def ct_L_markStringS : Ct := ⟨[(.mut, S_string), (.bor, (.int .i64))], [((.int .i64), false)], fun x => f_L_markStringS x.1 x.2.1⟩
noncomputable def cx_L_markStringS : Cx := ⟨tab, arrs, [(103, ct_L_markText)], []⟩
theorem eb_L_markStringS_2 (t0 : PV S_string) (t2 : PV (.int .i64)) (t6 : PV (.int .i64)) : denK cx_L_markStringS (rcN cx_L_markStringS 0) pl_L_markStringS 1 ((loopsOf (bodyOf Try.f55)).getD 0 .skip) (fillS sh_L_markStringS_2 (t0, t2, t6, ())) (roundK 1 lp_L_markStringS_2) = b_L_markStringS_2 t0 t2 t6 := by kernel_rfl
theorem ef_L_markStringS (t0 : PV S_string) (t1 : PV (.int .i64)) : denF cx_L_markStringS 0 pl_L_markStringS Try.f55.ntmps (bodyOf Try.f55) Try.f55.results.toList [(.mut, S_string), (.bor, (.int .i64))] [((.int .i64), false)] (t0, t1, ()) = f_L_markStringS t0 t1 := by kernel_rfl
theorem ok_L_markStringS : FnOk Try.prog 55 ct_L_markStringS :=
  fnOk (cx := cx_L_markStringS) (pl := pl_L_markStringS) (dp := 0) (ok0_of tabOk (by unfold ArrOk; kernel_rfl) mix ⟨ok_L_markText, trivial⟩ trivial) Try.func55 (by kernel_rfl) (by kernel_rfl) (by kernel_rfl)
    (by rw [show loopsOf (bodyOf Try.f55) = [((loopsOf (bodyOf Try.f55)).getD 0 .skip)] from by kernel_rfl]; exact ⟨(by rw [show lookup pl_L_markStringS.loops (firstId ((loopsOf (bodyOf Try.f55)).getD 0 .skip)) = some lp_L_markStringS_2 from by kernel_rfl]; exact fun d z h => (eb_L_markStringS_2 d.1 d.2.1 d.2.2.1).trans h), trivial⟩) (fun x => ef_L_markStringS x.1 x.2.1)
noncomputable def sh_L_markStringSS_2 : List Sh := mkSh 20 [(0, .val S_S_string (.row (.row .b))), (1, .sub ⟨0, [], 0, 0⟩), (2, .val (.int .i64) .b), (6, .val (.int .i64) .b)]
noncomputable def o_L_markStringSS_2 : List Out := [⟨.exit 0, ⟨[], [1]⟩, mkSh 20 [(0, .val S_S_string (.row (.row .b))), (2, .val (.int .i64) .b)]⟩]
noncomputable def b_L_markStringSS_2 (t0 : PV S_S_string) (t2 : PV (.int .i64)) (t6 : PV (.int .i64)) : Option ((PV S_S_string × PV (.int .i64) × PV (.int .i64) × Unit) ⊕ ((PV S_S_string × PV (.int .i64) × Unit))) :=
  bif (decide (t6 < (t0.length : Int))) then
    bif inB t6 t0.length then
      (f_L_markStringS (t0.getD t6.toNat []) t2).bind fun r2 =>
        some (.inl ((t0.set t6.toNat r2.2.1), r2.1.1, (IntKind.wrap .i64 (t6 + 1)), ()))
    else
      none
  else
    some (.inr (t0, t2, ()))
noncomputable def w_L_markStringSS_2 : PV S_S_string × PV (.int .i64) × PV (.int .i64) × Unit → Option ((PV S_S_string × PV (.int .i64) × Unit)) := fix fun d => b_L_markStringSS_2 d.1 d.2.1 d.2.2.1
noncomputable def lp_L_markStringSS_2 : Lp := ⟨⟨[], [0, 1, 5]⟩, sh_L_markStringSS_2, o_L_markStringSS_2, fun d => b_L_markStringSS_2 d.1 d.2.1 d.2.2.1⟩
noncomputable def pl_L_markStringSS : Plan := ⟨[], [(2, lp_L_markStringSS_2)], 0, 1⟩
noncomputable def f_L_markStringSS (t0 : PV S_S_string) (t1 : PV (.int .i64)) : Option (PVs [(.int .i64)] × PVs [S_S_string]) :=
  (w_L_markStringSS_2 (t0, t1, 0, ())).bind fun l4 =>
    some ((l4.2.1, ()), (l4.1, ()))
noncomputable def ct_L_markStringSS : Ct := ⟨[(.mut, S_S_string), (.bor, (.int .i64))], [((.int .i64), false)], fun x => f_L_markStringSS x.1 x.2.1⟩
noncomputable def cx_L_markStringSS : Cx := ⟨tab, arrs, [(55, ct_L_markStringS)], []⟩
theorem eb_L_markStringSS_2 (t0 : PV S_S_string) (t2 : PV (.int .i64)) (t6 : PV (.int .i64)) : denK cx_L_markStringSS (rcN cx_L_markStringSS 0) pl_L_markStringSS 1 ((loopsOf (bodyOf Try.f40)).getD 0 .skip) (fillS sh_L_markStringSS_2 (t0, t2, t6, ())) (roundK 1 lp_L_markStringSS_2) = b_L_markStringSS_2 t0 t2 t6 := by kernel_rfl
theorem ef_L_markStringSS (t0 : PV S_S_string) (t1 : PV (.int .i64)) : denF cx_L_markStringSS 0 pl_L_markStringSS Try.f40.ntmps (bodyOf Try.f40) Try.f40.results.toList [(.mut, S_S_string), (.bor, (.int .i64))] [((.int .i64), false)] (t0, t1, ()) = f_L_markStringSS t0 t1 := by kernel_rfl
theorem ok_L_markStringSS : FnOk Try.prog 40 ct_L_markStringSS :=
  fnOk (cx := cx_L_markStringSS) (pl := pl_L_markStringSS) (dp := 0) (ok0_of tabOk (by unfold ArrOk; kernel_rfl) mix ⟨ok_L_markStringS, trivial⟩ trivial) Try.func40 (by kernel_rfl) (by kernel_rfl) (by kernel_rfl)
    (by rw [show loopsOf (bodyOf Try.f40) = [((loopsOf (bodyOf Try.f40)).getD 0 .skip)] from by kernel_rfl]; exact ⟨(by rw [show lookup pl_L_markStringSS.loops (firstId ((loopsOf (bodyOf Try.f40)).getD 0 .skip)) = some lp_L_markStringSS_2 from by kernel_rfl]; exact fun d z h => (eb_L_markStringSS_2 d.1 d.2.1 d.2.2.1).trans h), trivial⟩) (fun x => ef_L_markStringSS x.1 x.2.1)
noncomputable def sh_L_markIntS_2 : List Sh := mkSh 20 [(0, .val S_int (.row .b)), (1, .sub ⟨0, [], 0, 0⟩), (2, .val (.int .i64) .b), (6, .val (.int .i64) .b)]
noncomputable def o_L_markIntS_2 : List Out := [⟨.exit 0, ⟨[], [1]⟩, mkSh 20 [(0, .val S_int (.row .b)), (2, .val (.int .i64) .b)]⟩]
noncomputable def b_L_markIntS_2 (t0 : PV S_int) (t2 : PV (.int .i64)) (t6 : PV (.int .i64)) : Option ((PV S_int × PV (.int .i64) × PV (.int .i64) × Unit) ⊕ ((PV S_int × PV (.int .i64) × Unit))) :=
  bif (decide (t6 < (t0.length : Int))) then
    bif inB t6 t0.length then
      some (.inl ((t0.set t6.toNat t2), (IntKind.wrap .i64 (t2 + 1)), (IntKind.wrap .i64 (t6 + 1)), ()))
    else
      none
  else
    some (.inr (t0, t2, ()))
noncomputable def w_L_markIntS_2 : PV S_int × PV (.int .i64) × PV (.int .i64) × Unit → Option ((PV S_int × PV (.int .i64) × Unit)) := fix fun d => b_L_markIntS_2 d.1 d.2.1 d.2.2.1
noncomputable def lp_L_markIntS_2 : Lp := ⟨⟨[], [0, 1, 5]⟩, sh_L_markIntS_2, o_L_markIntS_2, fun d => b_L_markIntS_2 d.1 d.2.1 d.2.2.1⟩
noncomputable def pl_L_markIntS : Plan := ⟨[], [(2, lp_L_markIntS_2)], 0, 1⟩
noncomputable def f_L_markIntS (t0 : PV S_int) (t1 : PV (.int .i64)) : Option (PVs [(.int .i64)] × PVs [S_int]) :=
  (w_L_markIntS_2 (t0, t1, 0, ())).bind fun l2 =>
    some ((l2.2.1, ()), (l2.1, ()))
noncomputable def ct_L_markIntS : Ct := ⟨[(.mut, S_int), (.bor, (.int .i64))], [((.int .i64), false)], fun x => f_L_markIntS x.1 x.2.1⟩
noncomputable def cx_L_markIntS : Cx := ⟨tab, arrs, [], []⟩
theorem eb_L_markIntS_2 (t0 : PV S_int) (t2 : PV (.int .i64)) (t6 : PV (.int .i64)) : denK cx_L_markIntS (rcN cx_L_markIntS 0) pl_L_markIntS 1 ((loopsOf (bodyOf Try.f62)).getD 0 .skip) (fillS sh_L_markIntS_2 (t0, t2, t6, ())) (roundK 1 lp_L_markIntS_2) = b_L_markIntS_2 t0 t2 t6 := by kernel_rfl
theorem ef_L_markIntS (t0 : PV S_int) (t1 : PV (.int .i64)) : denF cx_L_markIntS 0 pl_L_markIntS Try.f62.ntmps (bodyOf Try.f62) Try.f62.results.toList [(.mut, S_int), (.bor, (.int .i64))] [((.int .i64), false)] (t0, t1, ()) = f_L_markIntS t0 t1 := by kernel_rfl
theorem ok_L_markIntS : FnOk Try.prog 62 ct_L_markIntS :=
  fnOk (cx := cx_L_markIntS) (pl := pl_L_markIntS) (dp := 0) (ok0_of tabOk (by unfold ArrOk; kernel_rfl) mix trivial trivial) Try.func62 (by kernel_rfl) (by kernel_rfl) (by kernel_rfl)
    (by rw [show loopsOf (bodyOf Try.f62) = [((loopsOf (bodyOf Try.f62)).getD 0 .skip)] from by kernel_rfl]; exact ⟨(by rw [show lookup pl_L_markIntS.loops (firstId ((loopsOf (bodyOf Try.f62)).getD 0 .skip)) = some lp_L_markIntS_2 from by kernel_rfl]; exact fun d z h => (eb_L_markIntS_2 d.1 d.2.1 d.2.2.1).trans h), trivial⟩) (fun x => ef_L_markIntS x.1 x.2.1)
noncomputable def sh_L_markIntSS_2 : List Sh := mkSh 20 [(0, .val S_S_int (.row (.row .b))), (1, .sub ⟨0, [], 0, 0⟩), (2, .val (.int .i64) .b), (6, .val (.int .i64) .b)]
noncomputable def o_L_markIntSS_2 : List Out := [⟨.exit 0, ⟨[], [1]⟩, mkSh 20 [(0, .val S_S_int (.row (.row .b))), (2, .val (.int .i64) .b)]⟩]
noncomputable def b_L_markIntSS_2 (t0 : PV S_S_int) (t2 : PV (.int .i64)) (t6 : PV (.int .i64)) : Option ((PV S_S_int × PV (.int .i64) × PV (.int .i64) × Unit) ⊕ ((PV S_S_int × PV (.int .i64) × Unit))) :=
  bif (decide (t6 < (t0.length : Int))) then
    bif inB t6 t0.length then
      (f_L_markIntS (t0.getD t6.toNat []) t2).bind fun r2 =>
        some (.inl ((t0.set t6.toNat r2.2.1), r2.1.1, (IntKind.wrap .i64 (t6 + 1)), ()))
    else
      none
  else
    some (.inr (t0, t2, ()))
noncomputable def w_L_markIntSS_2 : PV S_S_int × PV (.int .i64) × PV (.int .i64) × Unit → Option ((PV S_S_int × PV (.int .i64) × Unit)) := fix fun d => b_L_markIntSS_2 d.1 d.2.1 d.2.2.1
noncomputable def lp_L_markIntSS_2 : Lp := ⟨⟨[], [0, 1, 5]⟩, sh_L_markIntSS_2, o_L_markIntSS_2, fun d => b_L_markIntSS_2 d.1 d.2.1 d.2.2.1⟩
noncomputable def pl_L_markIntSS : Plan := ⟨[], [(2, lp_L_markIntSS_2)], 0, 1⟩
noncomputable def f_L_markIntSS (t0 : PV S_S_int) (t1 : PV (.int .i64)) : Option (PVs [(.int .i64)] × PVs [S_S_int]) :=
  (w_L_markIntSS_2 (t0, t1, 0, ())).bind fun l4 =>
    some ((l4.2.1, ()), (l4.1, ()))
noncomputable def ct_L_markIntSS : Ct := ⟨[(.mut, S_S_int), (.bor, (.int .i64))], [((.int .i64), false)], fun x => f_L_markIntSS x.1 x.2.1⟩
noncomputable def cx_L_markIntSS : Cx := ⟨tab, arrs, [(62, ct_L_markIntS)], []⟩
theorem eb_L_markIntSS_2 (t0 : PV S_S_int) (t2 : PV (.int .i64)) (t6 : PV (.int .i64)) : denK cx_L_markIntSS (rcN cx_L_markIntSS 0) pl_L_markIntSS 1 ((loopsOf (bodyOf Try.f41)).getD 0 .skip) (fillS sh_L_markIntSS_2 (t0, t2, t6, ())) (roundK 1 lp_L_markIntSS_2) = b_L_markIntSS_2 t0 t2 t6 := by kernel_rfl
theorem ef_L_markIntSS (t0 : PV S_S_int) (t1 : PV (.int .i64)) : denF cx_L_markIntSS 0 pl_L_markIntSS Try.f41.ntmps (bodyOf Try.f41) Try.f41.results.toList [(.mut, S_S_int), (.bor, (.int .i64))] [((.int .i64), false)] (t0, t1, ()) = f_L_markIntSS t0 t1 := by kernel_rfl
theorem ok_L_markIntSS : FnOk Try.prog 41 ct_L_markIntSS :=
  fnOk (cx := cx_L_markIntSS) (pl := pl_L_markIntSS) (dp := 0) (ok0_of tabOk (by unfold ArrOk; kernel_rfl) mix ⟨ok_L_markIntS, trivial⟩ trivial) Try.func41 (by kernel_rfl) (by kernel_rfl) (by kernel_rfl)
    (by rw [show loopsOf (bodyOf Try.f41) = [((loopsOf (bodyOf Try.f41)).getD 0 .skip)] from by kernel_rfl]; exact ⟨(by rw [show lookup pl_L_markIntSS.loops (firstId ((loopsOf (bodyOf Try.f41)).getD 0 .skip)) = some lp_L_markIntSS_2 from by kernel_rfl]; exact fun d z h => (eb_L_markIntSS_2 d.1 d.2.1 d.2.2.1).trans h), trivial⟩) (fun x => ef_L_markIntSS x.1 x.2.1)
noncomputable def sh_L_heldIntS_2 : List Sh := mkSh 21 [(0, .val S_int .b), (1, .val (.int .i64) .b), (5, .val (.int .i64) .b)]
noncomputable def o_L_heldIntS_2 : List Out := [⟨.exit 0, ⟨[], [1]⟩, mkSh 21 [(1, .val (.int .i64) .b)]⟩, ⟨.ret, ⟨[], [4]⟩, mkSh 21 [(4, .val (.int .i64) .b)]⟩]
noncomputable def b_L_heldIntS_2 (t0 : PV S_int) (t1 : PV (.int .i64)) (t5 : PV (.int .i64)) : Option ((PV S_int × PV (.int .i64) × PV (.int .i64) × Unit) ⊕ ((PV (.int .i64) × Unit) ⊕ (PV (.int .i64) × Unit))) :=
  bif (decide (t5 < (t0.length : Int))) then
    bif inB t5 t0.length then
      bif (!((t0.getD t5.toNat (0 : Int)) == t1)) then
        some (.inr (.inr ((-1), ())))
      else
        some (.inl (t0, (IntKind.wrap .i64 (t1 + 1)), (IntKind.wrap .i64 (t5 + 1)), ()))
    else
      none
  else
    some (.inr (.inl (t1, ())))
noncomputable def w_L_heldIntS_2 : PV S_int × PV (.int .i64) × PV (.int .i64) × Unit → Option ((PV (.int .i64) × Unit) ⊕ (PV (.int .i64) × Unit)) := fix fun d => b_L_heldIntS_2 d.1 d.2.1 d.2.2.1
noncomputable def lp_L_heldIntS_2 : Lp := ⟨⟨[], [0, 1, 5]⟩, sh_L_heldIntS_2, o_L_heldIntS_2, fun d => b_L_heldIntS_2 d.1 d.2.1 d.2.2.1⟩
noncomputable def pl_L_heldIntS : Plan := ⟨[], [(2, lp_L_heldIntS_2)], 0, 0⟩
noncomputable def f_L_heldIntS (t0 : PV S_int) (t1 : PV (.int .i64)) : Option (PVs [(.int .i64)] × PVs []) :=
  (w_L_heldIntS_2 (t0, t1, 0, ())).bind fun x5 =>
    match x5 with
    | .inl l3 =>
      some ((l3.1, ()), ())
    | .inr l4 =>
      some ((l4.1, ()), ())
noncomputable def ct_L_heldIntS : Ct := ⟨[(.bor, S_int), (.bor, (.int .i64))], [((.int .i64), false)], fun x => f_L_heldIntS x.1 x.2.1⟩
noncomputable def cx_L_heldIntS : Cx := ⟨tab, arrs, [], []⟩
theorem eb_L_heldIntS_2 (t0 : PV S_int) (t1 : PV (.int .i64)) (t5 : PV (.int .i64)) : denK cx_L_heldIntS (rcN cx_L_heldIntS 0) pl_L_heldIntS 0 ((loopsOf (bodyOf Try.f63)).getD 0 .skip) (fillS sh_L_heldIntS_2 (t0, t1, t5, ())) (roundK 0 lp_L_heldIntS_2) = b_L_heldIntS_2 t0 t1 t5 := by kernel_rfl
theorem ef_L_heldIntS (t0 : PV S_int) (t1 : PV (.int .i64)) : denF cx_L_heldIntS 0 pl_L_heldIntS Try.f63.ntmps (bodyOf Try.f63) Try.f63.results.toList [(.bor, S_int), (.bor, (.int .i64))] [((.int .i64), false)] (t0, t1, ()) = f_L_heldIntS t0 t1 := by kernel_rfl
theorem ok_L_heldIntS : FnOk Try.prog 63 ct_L_heldIntS :=
  fnOk (cx := cx_L_heldIntS) (pl := pl_L_heldIntS) (dp := 0) (ok0_of tabOk (by unfold ArrOk; kernel_rfl) mix trivial trivial) Try.func63 (by kernel_rfl) (by kernel_rfl) (by kernel_rfl)
    (by rw [show loopsOf (bodyOf Try.f63) = [((loopsOf (bodyOf Try.f63)).getD 0 .skip)] from by kernel_rfl]; exact ⟨(by rw [show lookup pl_L_heldIntS.loops (firstId ((loopsOf (bodyOf Try.f63)).getD 0 .skip)) = some lp_L_heldIntS_2 from by kernel_rfl]; exact fun d z h => (eb_L_heldIntS_2 d.1 d.2.1 d.2.2.1).trans h), trivial⟩) (fun x => ef_L_heldIntS x.1 x.2.1)
noncomputable def sh_L_heldIntSS_2 : List Sh := mkSh 21 [(0, .val S_S_int .b), (1, .val (.int .i64) .b), (5, .val (.int .i64) .b)]
noncomputable def o_L_heldIntSS_2 : List Out := [⟨.exit 0, ⟨[], [1]⟩, mkSh 21 [(1, .val (.int .i64) .b)]⟩, ⟨.ret, ⟨[], [4]⟩, mkSh 21 [(4, .val (.int .i64) .b)]⟩]
noncomputable def b_L_heldIntSS_2 (t0 : PV S_S_int) (t1 : PV (.int .i64)) (t5 : PV (.int .i64)) : Option ((PV S_S_int × PV (.int .i64) × PV (.int .i64) × Unit) ⊕ ((PV (.int .i64) × Unit) ⊕ (PV (.int .i64) × Unit))) :=
  bif (decide (t5 < (t0.length : Int))) then
    bif inB t5 t0.length then
      (f_L_heldIntS (t0.getD t5.toNat []) t1).bind fun r4 =>
        bif (decide (r4.1.1 < 0)) then
          some (.inr (.inr ((-1), ())))
        else
          some (.inl (t0, r4.1.1, (IntKind.wrap .i64 (t5 + 1)), ()))
    else
      none
  else
    some (.inr (.inl (t1, ())))
noncomputable def w_L_heldIntSS_2 : PV S_S_int × PV (.int .i64) × PV (.int .i64) × Unit → Option ((PV (.int .i64) × Unit) ⊕ (PV (.int .i64) × Unit)) := fix fun d => b_L_heldIntSS_2 d.1 d.2.1 d.2.2.1
noncomputable def lp_L_heldIntSS_2 : Lp := ⟨⟨[], [0, 1, 5]⟩, sh_L_heldIntSS_2, o_L_heldIntSS_2, fun d => b_L_heldIntSS_2 d.1 d.2.1 d.2.2.1⟩
noncomputable def pl_L_heldIntSS : Plan := ⟨[], [(2, lp_L_heldIntSS_2)], 0, 0⟩
noncomputable def f_L_heldIntSS (t0 : PV S_S_int) (t1 : PV (.int .i64)) : Option (PVs [(.int .i64)] × PVs []) :=
  (w_L_heldIntSS_2 (t0, t1, 0, ())).bind fun x9 =>
    match x9 with
    | .inl l7 =>
      some ((l7.1, ()), ())
    | .inr l8 =>
      some ((l8.1, ()), ())
noncomputable def ct_L_heldIntSS : Ct := ⟨[(.bor, S_S_int), (.bor, (.int .i64))], [((.int .i64), false)], fun x => f_L_heldIntSS x.1 x.2.1⟩
noncomputable def cx_L_heldIntSS : Cx := ⟨tab, arrs, [(63, ct_L_heldIntS)], []⟩
theorem eb_L_heldIntSS_2 (t0 : PV S_S_int) (t1 : PV (.int .i64)) (t5 : PV (.int .i64)) : denK cx_L_heldIntSS (rcN cx_L_heldIntSS 0) pl_L_heldIntSS 0 ((loopsOf (bodyOf Try.f42)).getD 0 .skip) (fillS sh_L_heldIntSS_2 (t0, t1, t5, ())) (roundK 0 lp_L_heldIntSS_2) = b_L_heldIntSS_2 t0 t1 t5 := by kernel_rfl
theorem ef_L_heldIntSS (t0 : PV S_S_int) (t1 : PV (.int .i64)) : denF cx_L_heldIntSS 0 pl_L_heldIntSS Try.f42.ntmps (bodyOf Try.f42) Try.f42.results.toList [(.bor, S_S_int), (.bor, (.int .i64))] [((.int .i64), false)] (t0, t1, ()) = f_L_heldIntSS t0 t1 := by kernel_rfl
theorem ok_L_heldIntSS : FnOk Try.prog 42 ct_L_heldIntSS :=
  fnOk (cx := cx_L_heldIntSS) (pl := pl_L_heldIntSS) (dp := 0) (ok0_of tabOk (by unfold ArrOk; kernel_rfl) mix ⟨ok_L_heldIntS, trivial⟩ trivial) Try.func42 (by kernel_rfl) (by kernel_rfl) (by kernel_rfl)
    (by rw [show loopsOf (bodyOf Try.f42) = [((loopsOf (bodyOf Try.f42)).getD 0 .skip)] from by kernel_rfl]; exact ⟨(by rw [show lookup pl_L_heldIntSS.loops (firstId ((loopsOf (bodyOf Try.f42)).getD 0 .skip)) = some lp_L_heldIntSS_2 from by kernel_rfl]; exact fun d z h => (eb_L_heldIntSS_2 d.1 d.2.1 d.2.2.1).trans h), trivial⟩) (fun x => ef_L_heldIntSS x.1 x.2.1)
noncomputable def o_L_FnExactChurnOf_9 : List Out := [⟨.normal, ⟨[], [0, 4, 5, 6, 7, 8, 40, 52, 53, 54, 55, 58, 59, 60, 84, 85, 86]⟩, mkSh 96 [(0, .val S_S_string .b), (4, .val S_S_int (.row (.row .b))), (5, .val .bool .b), (6, .val S_S_string (.row (.row .b))), (7, .val S_S_int (.row (.row .b))), (8, .val .bool .b), (40, .val .bool .b)]⟩]
noncomputable def o_L_FnExactChurnOf_15 : List Out := [⟨.normal, ⟨[], [0, 4, 5, 7, 61, 84, 85, 86]⟩, mkSh 96 [(0, .val S_S_string .b), (4, .val S_S_int (.row (.row .b))), (5, .val .bool .b), (7, .val S_S_int (.row (.row .b))), (61, .val .bool .b)]⟩]
noncomputable def o_L_FnExactChurnOf_26 : List Out := [⟨.normal, ⟨[], [7, 10, 87]⟩, mkSh 96 [(7, .val S_S_int (.row (.row .b))), (10, .val (.int .i64) .b), (87, .val .bool .b)]⟩]
noncomputable def pl_L_FnExactChurnOf : Plan := ⟨[(9, o_L_FnExactChurnOf_9), (15, o_L_FnExactChurnOf_15), (26, o_L_FnExactChurnOf_26)], [], 0, 0⟩
noncomputable def f_L_FnExactChurnOf (t0 : PV S_S_string) : Option (PVs [.bool] × PVs []) :=
  (f_L_szStringSS t0 1048576).bind fun r2 =>
    bif (decide (r2.1.1 < 0)) then
      some ((true, ()), ())
    else
      (f_L_toStringSS t0).bind fun r5 =>
        (f_S_ChurnOf r5.1.1).bind fun r6 =>
          (f_L_toStringSS t0).bind fun r8 =>
            (f_I_ChurnOf r8.1.1).bind fun r10 =>
              ((
                  (f_L_eqIntSS r10.1.1 r6.1.1).bind fun r14 =>
                    bif (!r14.1.1) then
                      some (t0, r6.1.1, r6.1.2.1, r8.1.1, r10.1.1, r10.1.2.1, true, ())
                    else
                      some (t0, r6.1.1, r6.1.2.1, r8.1.1, r10.1.1, r10.1.2.1, (!(r10.1.2.1 == r6.1.2.1)), ()) : Option ((PV S_S_string × PV S_S_int × PV .bool × PV S_S_string × PV S_S_int × PV .bool × PV .bool × Unit)))).bind fun j15 =>
                bif j15.2.2.2.2.2.2.1 then
                  some ((false, ()), ())
                else
                  (f_L_toStringSS j15.1).bind fun r22 =>
                    (f_L_eqStringSS j15.2.2.2.1 r22.1.1).bind fun r23 =>
                      bif (!r23.1.1) then
                        some ((false, ()), ())
                      else
                        (f_L_markStringSS j15.2.2.2.1 1).bind fun r25 =>
                          ((
                              bif (decide (r25.1.1 < 0)) then
                                some (j15.1, j15.2.1, j15.2.2.1, j15.2.2.2.2.1, true, ())
                              else
                                (f_L_eqIntSS j15.2.2.2.2.1 j15.2.1).bind fun r29 =>
                                  bif (!r29.1.1) then
                                    some (j15.1, j15.2.1, j15.2.2.1, j15.2.2.2.2.1, true, ())
                                  else
                                    some (j15.1, j15.2.1, j15.2.2.1, j15.2.2.2.2.1, (!(j15.2.2.2.2.2.1 == j15.2.2.1)), ()) : Option ((PV S_S_string × PV S_S_int × PV .bool × PV S_S_int × PV .bool × Unit)))).bind fun j30 =>
                            bif j30.2.2.2.2.1 then
                              some ((false, ()), ())
                            else
                              (f_L_markIntSS j30.2.2.2.1 1).bind fun r32 =>
                                (f_L_heldIntSS r32.2.1 1).bind fun r34 =>
                                  bif (decide (r34.1.1 < 0)) then
                                    some ((false, ()), ())
                                  else
                                    bif (!(r34.1.1 == r32.1.1)) then
                                      some ((false, ()), ())
                                    else
                                      (f_L_toStringSS j30.1).bind fun r37 =>
                                        (f_I_ChurnOf r37.1.1).bind fun r38 =>
                                          ((
                                              (f_L_eqIntSS r38.1.1 j30.2.1).bind fun r42 =>
                                                bif (!r42.1.1) then
                                                  some (r32.2.1, r32.1.1, true, ())
                                                else
                                                  some (r32.2.1, r32.1.1, (!(r38.1.2.1 == j30.2.2.1)), ()) : Option ((PV S_S_int × PV (.int .i64) × PV .bool × Unit)))).bind fun j43 =>
                                            bif j43.2.2.1 then
                                              some ((false, ()), ())
                                            else
                                              (f_L_heldIntSS j43.1 1).bind fun r45 =>
                                                bif (decide (r45.1.1 < 0)) then
                                                  some ((false, ()), ())
                                                else
                                                  bif (!(r45.1.1 == j43.2.1)) then
                                                    some ((false, ()), ())
                                                  else
                                                    some ((true, ()), ())
noncomputable def ct_L_FnExactChurnOf : Ct := ⟨[(.bor, S_S_string)], [(.bool, false)], fun x => f_L_FnExactChurnOf x.1⟩
noncomputable def cx_L_FnExactChurnOf : Cx := ⟨tab, arrs, [(34, ct_L_szStringSS), (35, ct_S_ChurnOf), (36, ct_L_toStringSS), (37, ct_I_ChurnOf), (38, ct_L_eqIntSS), (39, ct_L_eqStringSS), (40, ct_L_markStringSS), (41, ct_L_markIntSS), (42, ct_L_heldIntSS)], []⟩
theorem ef_L_FnExactChurnOf (t0 : PV S_S_string) : denF cx_L_FnExactChurnOf 0 pl_L_FnExactChurnOf Try.f7.ntmps (bodyOf Try.f7) Try.f7.results.toList [(.bor, S_S_string)] [(.bool, false)] (t0, ()) = f_L_FnExactChurnOf t0 := by kernel_rfl
theorem ok_L_FnExactChurnOf : FnOk Try.prog 7 ct_L_FnExactChurnOf :=
  fnOk (cx := cx_L_FnExactChurnOf) (pl := pl_L_FnExactChurnOf) (dp := 0) (ok0_of tabOk (by unfold ArrOk; kernel_rfl) mix ⟨ok_L_szStringSS, ok_S_ChurnOf, ok_L_toStringSS, ok_I_ChurnOf, ok_L_eqIntSS, ok_L_eqStringSS, ok_L_markStringSS, ok_L_markIntSS, ok_L_heldIntSS, trivial⟩ trivial) Try.func7 (by kernel_rfl) (by kernel_rfl) (by kernel_rfl)
    (by rw [show loopsOf (bodyOf Try.f7) = [] from by kernel_rfl]; exact trivial) (fun x => ef_L_FnExactChurnOf x.1)
end R
