/- The functions, part 2. -/
import Derived.Test.YtifjjdpgheoogaaPaN1
open Go Go.Dn Go.Proofs
namespace R
set_option linter.unusedVariables false
set_option maxRecDepth 20000
open Go.Shelf
noncomputable def o_S_l3Table_12 : List Out := [⟨.normal, ⟨[], [0, 1, 5, 7, 8], []⟩, mkSh 97 [(0, .val S_string .b), (1, .val S_string .b), (5, .val S_S_int (.row (.row .b))), (7, .val (.int .i64) .b), (8, .val (.int .i64) .b)]⟩]
noncomputable def sh_S_l3Table_3 : List Sh := mkSh 97 [(0, .val S_string .b), (1, .val S_string .b), (5, .val S_S_int (.row (.row .b))), (14, .val (.int .i64) .b), (15, .val (.int .i64) .b)]
noncomputable def o_S_l3Table_3 : List Out := [⟨.exit 0, ⟨[], [0, 1, 5], []⟩, mkSh 97 [(0, .val S_string .b), (1, .val S_string .b), (5, .val S_S_int (.row (.row .b)))]⟩]
noncomputable def b_S_l3Table_3 (t0 : PV S_string) (t1 : PV S_string) (t5 : PV S_S_int) (t14 : PV (.int .i64)) (t15 : PV (.int .i64)) : Option ((PV S_string × PV S_string × PV S_S_int × PV (.int .i64) × PV (.int .i64) × Unit) ⊕ ((PV S_string × PV S_string × PV S_S_int × Unit))) :=
  bif (decide (t15 < t14)) then
    bif decide (0 ≤ (IntKind.wrap .i64 ((t1.length : Int) + 1))) && (decide ((IntKind.wrap .i64 ((t1.length : Int) + 1)) ≤ (IntKind.wrap .i64 ((t1.length : Int) + 1))) && roomB (IntKind.wrap .i64 ((t1.length : Int) + 1)).toNat) then
      bif inB t15 t5.length then
        some (.inl (t0, t1, (t5.set t15.toNat (List.replicate (IntKind.wrap .i64 ((t1.length : Int) + 1)).toNat (0 : Int))), t14, (IntKind.wrap .i64 (t15 + 1)), ()))
      else
        none
    else
      none
  else
    some (.inr (t0, t1, t5, ()))
noncomputable def w_S_l3Table_3 : PV S_string × PV S_string × PV S_S_int × PV (.int .i64) × PV (.int .i64) × Unit → Option ((PV S_string × PV S_string × PV S_S_int × Unit)) := fix fun d => b_S_l3Table_3 d.1 d.2.1 d.2.2.1 d.2.2.2.1 d.2.2.2.2.1
noncomputable def lp_S_l3Table_3 : Lp := ⟨⟨[], [0, 1, 5, 14, 15], []⟩, sh_S_l3Table_3, o_S_l3Table_3, fun d => b_S_l3Table_3 d.1 d.2.1 d.2.2.1 d.2.2.2.1 d.2.2.2.2.1⟩
noncomputable def sh_S_l3Table_11 : List Sh := mkSh 97 [(0, .val S_string .b), (1, .val S_string .b), (5, .val S_S_int (.row (.row .b))), (7, .val (.int .i64) .b), (8, .val (.int .i64) .b)]
noncomputable def o_S_l3Table_11 : List Out := [⟨.exit 4, ⟨[], [0, 1, 5, 7], []⟩, mkSh 97 [(0, .val S_string .b), (1, .val S_string .b), (5, .val S_S_int (.row (.row .b))), (7, .val (.int .i64) .b)]⟩]
noncomputable def b_S_l3Table_11 (t0 : PV S_string) (t1 : PV S_string) (t5 : PV S_S_int) (t7 : PV (.int .i64)) (t8 : PV (.int .i64)) : Option ((PV S_string × PV S_string × PV S_S_int × PV (.int .i64) × PV (.int .i64) × Unit) ⊕ ((PV S_string × PV S_string × PV S_S_int × PV (.int .i64) × Unit))) :=
  bif (decide (t8 ≥ 0)) then
    ((
        bif inB t7 t5.length then
          bif inB (IntKind.wrap .i64 (t7 + 1)) t5.length then
            bif inB t8 (t5.getD ((IntKind.wrap .i64 (t7 + 1)).toNat) []).length then
              bif inB t7 t5.length then
                bif inB (IntKind.wrap .i64 (t8 + 1)) (t5.getD t7.toNat []).length then
                  (f_S_l1Most ((t5.getD ((IntKind.wrap .i64 (t7 + 1)).toNat) []).getD t8.toNat (0 : Int)) ((t5.getD t7.toNat []).getD ((IntKind.wrap .i64 (t8 + 1)).toNat) (0 : Int))).bind fun r4 =>
                    bif inB t8 (t5.getD t7.toNat []).length then
                      bif inB t7 t0.length then
                        bif inB t8 t1.length then
                          bif ((t0.getD t7.toNat []) == (t1.getD t8.toNat [])) then
                            bif inB t7 (t5.set t7.toNat ((t5.getD t7.toNat []).set t8.toNat r4.1.1)).length then
                              bif inB t7 (t5.set t7.toNat ((t5.getD t7.toNat []).set t8.toNat r4.1.1)).length then
                                bif inB t8 ((t5.set t7.toNat ((t5.getD t7.toNat []).set t8.toNat r4.1.1)).getD t7.toNat []).length then
                                  bif inB (IntKind.wrap .i64 (t7 + 1)) (t5.set t7.toNat ((t5.getD t7.toNat []).set t8.toNat r4.1.1)).length then
                                    bif inB (IntKind.wrap .i64 (t8 + 1)) ((t5.set t7.toNat ((t5.getD t7.toNat []).set t8.toNat r4.1.1)).getD ((IntKind.wrap .i64 (t7 + 1)).toNat) []).length then
                                      (f_S_l1Most (((t5.set t7.toNat ((t5.getD t7.toNat []).set t8.toNat r4.1.1)).getD t7.toNat []).getD t8.toNat (0 : Int)) (IntKind.wrap .i64 ((((t5.set t7.toNat ((t5.getD t7.toNat []).set t8.toNat r4.1.1)).getD ((IntKind.wrap .i64 (t7 + 1)).toNat) []).getD ((IntKind.wrap .i64 (t8 + 1)).toNat) (0 : Int)) + 1))).bind fun r5 =>
                                        bif inB t8 ((t5.set t7.toNat ((t5.getD t7.toNat []).set t8.toNat r4.1.1)).getD t7.toNat []).length then
                                          some (t0, t1, ((t5.set t7.toNat ((t5.getD t7.toNat []).set t8.toNat r4.1.1)).set t7.toNat (((t5.set t7.toNat ((t5.getD t7.toNat []).set t8.toNat r4.1.1)).getD t7.toNat []).set t8.toNat r5.1.1)), t7, t8, ())
                                        else
                                          none
                                    else
                                      none
                                  else
                                    none
                                else
                                  none
                              else
                                none
                            else
                              none
                          else
                            some (t0, t1, (t5.set t7.toNat ((t5.getD t7.toNat []).set t8.toNat r4.1.1)), t7, t8, ())
                        else
                          none
                      else
                        none
                    else
                      none
                else
                  none
              else
                none
            else
              none
          else
            none
        else
          none : Option ((PV S_string × PV S_string × PV S_S_int × PV (.int .i64) × PV (.int .i64) × Unit)))).bind fun j6 =>
      some (.inl (j6.1, j6.2.1, j6.2.2.1, j6.2.2.2.1, (IntKind.wrap .i64 (j6.2.2.2.2.1 - 1)), ()))
  else
    some (.inr (t0, t1, t5, t7, ()))
noncomputable def w_S_l3Table_11 : PV S_string × PV S_string × PV S_S_int × PV (.int .i64) × PV (.int .i64) × Unit → Option ((PV S_string × PV S_string × PV S_S_int × PV (.int .i64) × Unit)) := fix fun d => b_S_l3Table_11 d.1 d.2.1 d.2.2.1 d.2.2.2.1 d.2.2.2.2.1
noncomputable def lp_S_l3Table_11 : Lp := ⟨⟨[], [0, 1, 5, 7, 8], []⟩, sh_S_l3Table_11, o_S_l3Table_11, fun d => b_S_l3Table_11 d.1 d.2.1 d.2.2.1 d.2.2.2.1 d.2.2.2.2.1⟩
noncomputable def sh_S_l3Table_8 : List Sh := mkSh 97 [(0, .val S_string .b), (1, .val S_string .b), (5, .val S_S_int (.row (.row .b))), (7, .val (.int .i64) .b)]
noncomputable def o_S_l3Table_8 : List Out := [⟨.exit 2, ⟨[], [5], []⟩, mkSh 97 [(5, .val S_S_int (.row (.row .b)))]⟩]
noncomputable def b_S_l3Table_8 (t0 : PV S_string) (t1 : PV S_string) (t5 : PV S_S_int) (t7 : PV (.int .i64)) : Option ((PV S_string × PV S_string × PV S_S_int × PV (.int .i64) × Unit) ⊕ ((PV S_S_int × Unit))) :=
  bif (decide (t7 ≥ 0)) then
    (w_S_l3Table_11 (t0, t1, t5, t7, (IntKind.wrap .i64 ((t1.length : Int) - 1)), ())).bind fun l4 =>
      some (.inl (l4.1, l4.2.1, l4.2.2.1, (IntKind.wrap .i64 (l4.2.2.2.1 - 1)), ()))
  else
    some (.inr (t5, ()))
noncomputable def w_S_l3Table_8 : PV S_string × PV S_string × PV S_S_int × PV (.int .i64) × Unit → Option ((PV S_S_int × Unit)) := fix fun d => b_S_l3Table_8 d.1 d.2.1 d.2.2.1 d.2.2.2.1
noncomputable def lp_S_l3Table_8 : Lp := ⟨⟨[], [0, 1, 5, 7], []⟩, sh_S_l3Table_8, o_S_l3Table_8, fun d => b_S_l3Table_8 d.1 d.2.1 d.2.2.1 d.2.2.2.1⟩
noncomputable def pl_S_l3Table : Plan := ⟨[(12, o_S_l3Table_12)], [(3, lp_S_l3Table_3), (11, lp_S_l3Table_11), (8, lp_S_l3Table_8)], 0, 0⟩
noncomputable def f_S_l3Table (t0 : PV S_string) (t1 : PV S_string) : Option (PVs [S_S_int] × PVs []) :=
  bif decide (0 ≤ (IntKind.wrap .i64 ((t0.length : Int) + 1))) && (decide ((IntKind.wrap .i64 ((t0.length : Int) + 1)) ≤ (IntKind.wrap .i64 ((t0.length : Int) + 1))) && roomB (IntKind.wrap .i64 ((t0.length : Int) + 1)).toNat) then
    (w_S_l3Table_3 (t0, t1, (List.replicate (IntKind.wrap .i64 ((t0.length : Int) + 1)).toNat ([] : PV S_int)), ((List.replicate (IntKind.wrap .i64 ((t0.length : Int) + 1)).toNat ([] : PV S_int)).length : Int), 0, ())).bind fun l2 =>
      (w_S_l3Table_8 (l2.1, l2.2.1, l2.2.2.1, (IntKind.wrap .i64 ((l2.1.length : Int) - 1)), ())).bind fun l6 =>
        some ((l6.1, ()), ())
  else
    none
noncomputable def ct_S_l3Table : Ct := ⟨[(.bor, S_string), (.bor, S_string)], [(S_S_int, (.row (.row .b)))], fun x => f_S_l3Table x.1 x.2.1⟩
noncomputable def cx_S_l3Table : Cx := ⟨tab, arrs, [(135, ct_S_l1Most)], [], gl, []⟩
theorem eb_S_l3Table_3 (t0 : PV S_string) (t1 : PV S_string) (t5 : PV S_S_int) (t14 : PV (.int .i64)) (t15 : PV (.int .i64)) : denK cx_S_l3Table (rcN cx_S_l3Table 0) pl_S_l3Table 0 ((loopsOf (bodyOf Try.f221)).getD 0 .skip) (fillS sh_S_l3Table_3 (t0, t1, t5, t14, t15, ())) (roundK 0 lp_S_l3Table_3) = b_S_l3Table_3 t0 t1 t5 t14 t15 := by kernel_rfl
theorem eb_S_l3Table_8 (t0 : PV S_string) (t1 : PV S_string) (t5 : PV S_S_int) (t7 : PV (.int .i64)) : denK cx_S_l3Table (rcN cx_S_l3Table 0) pl_S_l3Table 0 ((loopsOf (bodyOf Try.f221)).getD 1 .skip) (fillS sh_S_l3Table_8 (t0, t1, t5, t7, ())) (roundK 0 lp_S_l3Table_8) = b_S_l3Table_8 t0 t1 t5 t7 := by kernel_rfl
theorem eb_S_l3Table_11 (t0 : PV S_string) (t1 : PV S_string) (t5 : PV S_S_int) (t7 : PV (.int .i64)) (t8 : PV (.int .i64)) : denK cx_S_l3Table (rcN cx_S_l3Table 0) pl_S_l3Table 0 ((loopsOf (bodyOf Try.f221)).getD 2 .skip) (fillS sh_S_l3Table_11 (t0, t1, t5, t7, t8, ())) (roundK 0 lp_S_l3Table_11) = b_S_l3Table_11 t0 t1 t5 t7 t8 := by kernel_rfl
theorem ef_S_l3Table (t0 : PV S_string) (t1 : PV S_string) : denF cx_S_l3Table 0 pl_S_l3Table Try.f221.ntmps (bodyOf Try.f221) Try.f221.results.toList [(.bor, S_string), (.bor, S_string)] [(S_S_int, (.row (.row .b)))] (t0, t1, ()) = f_S_l3Table t0 t1 := by kernel_rfl
theorem ok_S_l3Table : FnOk gl Try.prog 221 ct_S_l3Table :=
  fnOk (cx := cx_S_l3Table) (pl := pl_S_l3Table) (dp := 0) (ok0_of tabOk (by unfold ArrOk; kernel_rfl) mix ⟨ok_S_l1Most, trivial⟩ trivial) Try.func221 (by kernel_rfl) (by kernel_rfl) (by kernel_rfl)
    (by rw [show loopsOf (bodyOf Try.f221) = [((loopsOf (bodyOf Try.f221)).getD 0 .skip), ((loopsOf (bodyOf Try.f221)).getD 1 .skip), ((loopsOf (bodyOf Try.f221)).getD 2 .skip)] from by kernel_rfl]; exact ⟨(by rw [show lookup pl_S_l3Table.loops (firstId ((loopsOf (bodyOf Try.f221)).getD 0 .skip)) = some lp_S_l3Table_3 from by kernel_rfl]; exact fun d z h => (eb_S_l3Table_3 d.1 d.2.1 d.2.2.1 d.2.2.2.1 d.2.2.2.2.1).trans h), (by rw [show lookup pl_S_l3Table.loops (firstId ((loopsOf (bodyOf Try.f221)).getD 1 .skip)) = some lp_S_l3Table_8 from by kernel_rfl]; exact fun d z h => (eb_S_l3Table_8 d.1 d.2.1 d.2.2.1 d.2.2.2.1).trans h), (by rw [show lookup pl_S_l3Table.loops (firstId ((loopsOf (bodyOf Try.f221)).getD 2 .skip)) = some lp_S_l3Table_11 from by kernel_rfl]; exact fun d z h => (eb_S_l3Table_11 d.1 d.2.1 d.2.2.1 d.2.2.2.1 d.2.2.2.2.1).trans h), trivial⟩) (fun x => ef_S_l3Table x.1 x.2.1)
noncomputable def o_S_l3Pairs_13 : List Out := [⟨.normal, ⟨[], [0, 1, 5, 6, 7, 8, 9, 10, 11, 12, 72], []⟩, mkSh 86 [(0, .val S_string .b), (1, .val S_string .b), (5, .val S_S_int (.row (.row .b))), (6, .val S__2_int (.row (.pr .b (.pr .b .b)))), (7, .val (.int .i64) .b), (8, .val (.int .i64) .b), (9, .val (.int .i64) .b), (10, .val (.int .i64) .b), (11, .val (.int .i64) .b), (12, .val (.int .i64) .b), (72, .val .bool .b)]⟩]
noncomputable def o_S_l3Pairs_11 : List Out := [⟨.normal, ⟨[], [0, 1, 5, 6, 7, 8, 9, 10, 11, 12, 54, 55, 56, 57, 58, 59, 60, 61, 62, 63, 64, 65, 66, 67, 68, 69, 70, 71], []⟩, mkSh 86 [(0, .val S_string .b), (1, .val S_string .b), (5, .val S_S_int (.row (.row .b))), (6, .val S__2_int (.row (.pr .b (.pr .b .b)))), (7, .val (.int .i64) .b), (8, .val (.int .i64) .b), (9, .val (.int .i64) .b), (10, .val (.int .i64) .b), (11, .val (.int .i64) .b), (12, .val (.int .i64) .b)]⟩]
noncomputable def sh_S_l3Pairs_10 : List Sh := mkSh 86 [(0, .val S_string .b), (1, .val S_string .b), (5, .val S_S_int (.row (.row .b))), (6, .val S__2_int (.row (.pr .b (.pr .b .b)))), (7, .val (.int .i64) .b), (8, .val (.int .i64) .b), (9, .val (.int .i64) .b), (10, .val (.int .i64) .b), (11, .val (.int .i64) .b), (12, .val (.int .i64) .b)]
noncomputable def o_S_l3Pairs_10 : List Out := [⟨.exit 4, ⟨[], [0, 1, 5, 6, 7, 8, 9, 10, 11, 54, 55, 56, 57, 58, 59, 60, 61, 62, 63, 64, 65, 66, 67, 68, 69, 70, 71], []⟩, mkSh 86 [(0, .val S_string .b), (1, .val S_string .b), (5, .val S_S_int (.row (.row .b))), (6, .val S__2_int (.row (.pr .b (.pr .b .b)))), (7, .val (.int .i64) .b), (8, .val (.int .i64) .b), (9, .val (.int .i64) .b), (10, .val (.int .i64) .b), (11, .val (.int .i64) .b)]⟩]
noncomputable def b_S_l3Pairs_10 (t0 : PV S_string) (t1 : PV S_string) (t5 : PV S_S_int) (t6 : PV S__2_int) (t7 : PV (.int .i64)) (t8 : PV (.int .i64)) (t9 : PV (.int .i64)) (t10 : PV (.int .i64)) (t11 : PV (.int .i64)) (t12 : PV (.int .i64)) : Option ((PV S_string × PV S_string × PV S_S_int × PV S__2_int × PV (.int .i64) × PV (.int .i64) × PV (.int .i64) × PV (.int .i64) × PV (.int .i64) × PV (.int .i64) × Unit) ⊕ ((PV S_string × PV S_string × PV S_S_int × PV S__2_int × PV (.int .i64) × PV (.int .i64) × PV (.int .i64) × PV (.int .i64) × PV (.int .i64) × Unit))) :=
  bif (decide (t12 ≥ t8)) then
    ((
        ((
            bif inB t11 t0.length then
              bif inB t12 t1.length then
                bif ((t0.getD t11.toNat []) == (t1.getD t12.toNat [])) then
                  bif inB (IntKind.wrap .i64 (t11 + 1)) t5.length then
                    bif inB (IntKind.wrap .i64 (t12 + 1)) (t5.getD ((IntKind.wrap .i64 (t11 + 1)).toNat) []).length then
                      bif inB t7 t5.length then
                        bif inB t8 (t5.getD t7.toNat []).length then
                          some (t0, t1, t5, t6, t7, t8, t9, t10, t11, t12, ((IntKind.wrap .i64 (((t5.getD ((IntKind.wrap .i64 (t11 + 1)).toNat) []).getD ((IntKind.wrap .i64 (t12 + 1)).toNat) (0 : Int)) + 1)) == ((t5.getD t7.toNat []).getD t8.toNat (0 : Int))), ())
                        else
                          none
                      else
                        none
                    else
                      none
                  else
                    none
                else
                  some (t0, t1, t5, t6, t7, t8, t9, t10, t11, t12, false, ())
              else
                none
            else
              none : Option ((PV S_string × PV S_string × PV S_S_int × PV S__2_int × PV (.int .i64) × PV (.int .i64) × PV (.int .i64) × PV (.int .i64) × PV (.int .i64) × PV (.int .i64) × PV .bool × Unit)))).bind fun j3 =>
          bif j3.2.2.2.2.2.2.2.2.2.2.1 then
            some (j3.1, j3.2.1, j3.2.2.1, j3.2.2.2.1, j3.2.2.2.2.1, j3.2.2.2.2.2.1, j3.2.2.2.2.2.2.2.2.1, j3.2.2.2.2.2.2.2.2.2.1, j3.2.2.2.2.2.2.2.2.1, j3.2.2.2.2.2.2.2.2.2.1, ())
          else
            some (j3.1, j3.2.1, j3.2.2.1, j3.2.2.2.1, j3.2.2.2.2.1, j3.2.2.2.2.2.1, j3.2.2.2.2.2.2.1, j3.2.2.2.2.2.2.2.1, j3.2.2.2.2.2.2.2.2.1, j3.2.2.2.2.2.2.2.2.2.1, ()) : Option ((PV S_string × PV S_string × PV S_S_int × PV S__2_int × PV (.int .i64) × PV (.int .i64) × PV (.int .i64) × PV (.int .i64) × PV (.int .i64) × PV (.int .i64) × Unit)))).bind fun j4 =>
      some (.inl (j4.1, j4.2.1, j4.2.2.1, j4.2.2.2.1, j4.2.2.2.2.1, j4.2.2.2.2.2.1, j4.2.2.2.2.2.2.1, j4.2.2.2.2.2.2.2.1, j4.2.2.2.2.2.2.2.2.1, (IntKind.wrap .i64 (j4.2.2.2.2.2.2.2.2.2.1 - 1)), ()))
  else
    some (.inr (t0, t1, t5, t6, t7, t8, t9, t10, t11, ()))
noncomputable def w_S_l3Pairs_10 : PV S_string × PV S_string × PV S_S_int × PV S__2_int × PV (.int .i64) × PV (.int .i64) × PV (.int .i64) × PV (.int .i64) × PV (.int .i64) × PV (.int .i64) × Unit → Option ((PV S_string × PV S_string × PV S_S_int × PV S__2_int × PV (.int .i64) × PV (.int .i64) × PV (.int .i64) × PV (.int .i64) × PV (.int .i64) × Unit)) := fix fun d => b_S_l3Pairs_10 d.1 d.2.1 d.2.2.1 d.2.2.2.1 d.2.2.2.2.1 d.2.2.2.2.2.1 d.2.2.2.2.2.2.1 d.2.2.2.2.2.2.2.1 d.2.2.2.2.2.2.2.2.1 d.2.2.2.2.2.2.2.2.2.1
noncomputable def lp_S_l3Pairs_10 : Lp := ⟨⟨[], [0, 1, 5, 6, 7, 8, 9, 10, 11, 12, 54, 55, 56, 57, 58, 59, 60, 61, 62, 63, 64, 65, 66, 67, 68, 69, 70, 71], []⟩, sh_S_l3Pairs_10, o_S_l3Pairs_10, fun d => b_S_l3Pairs_10 d.1 d.2.1 d.2.2.1 d.2.2.2.1 d.2.2.2.2.1 d.2.2.2.2.2.1 d.2.2.2.2.2.2.1 d.2.2.2.2.2.2.2.1 d.2.2.2.2.2.2.2.2.1 d.2.2.2.2.2.2.2.2.2.1⟩
noncomputable def sh_S_l3Pairs_7 : List Sh := mkSh 86 [(0, .val S_string .b), (1, .val S_string .b), (5, .val S_S_int (.row (.row .b))), (6, .val S__2_int (.row (.pr .b (.pr .b .b)))), (7, .val (.int .i64) .b), (8, .val (.int .i64) .b), (9, .val (.int .i64) .b), (10, .val (.int .i64) .b), (11, .val (.int .i64) .b)]
noncomputable def o_S_l3Pairs_7 : List Out := [⟨.exit 2, ⟨[], [0, 1, 5, 6, 9, 10, 54, 55, 56, 57, 58, 59, 60, 61, 62, 63, 64, 65, 66, 67, 68, 69, 70, 71], []⟩, mkSh 86 [(0, .val S_string .b), (1, .val S_string .b), (5, .val S_S_int (.row (.row .b))), (6, .val S__2_int (.row (.pr .b (.pr .b .b)))), (9, .val (.int .i64) .b), (10, .val (.int .i64) .b)]⟩]
noncomputable def b_S_l3Pairs_7 (t0 : PV S_string) (t1 : PV S_string) (t5 : PV S_S_int) (t6 : PV S__2_int) (t7 : PV (.int .i64)) (t8 : PV (.int .i64)) (t9 : PV (.int .i64)) (t10 : PV (.int .i64)) (t11 : PV (.int .i64)) : Option ((PV S_string × PV S_string × PV S_S_int × PV S__2_int × PV (.int .i64) × PV (.int .i64) × PV (.int .i64) × PV (.int .i64) × PV (.int .i64) × Unit) ⊕ ((PV S_string × PV S_string × PV S_S_int × PV S__2_int × PV (.int .i64) × PV (.int .i64) × Unit))) :=
  bif (decide (t11 ≥ t7)) then
    (w_S_l3Pairs_10 (t0, t1, t5, t6, t7, t8, t9, t10, t11, (IntKind.wrap .i64 ((t1.length : Int) - 1)), ())).bind fun l4 =>
      some (.inl (l4.1, l4.2.1, l4.2.2.1, l4.2.2.2.1, l4.2.2.2.2.1, l4.2.2.2.2.2.1, l4.2.2.2.2.2.2.1, l4.2.2.2.2.2.2.2.1, (IntKind.wrap .i64 (l4.2.2.2.2.2.2.2.2.1 - 1)), ()))
  else
    some (.inr (t0, t1, t5, t6, t9, t10, ()))
noncomputable def w_S_l3Pairs_7 : PV S_string × PV S_string × PV S_S_int × PV S__2_int × PV (.int .i64) × PV (.int .i64) × PV (.int .i64) × PV (.int .i64) × PV (.int .i64) × Unit → Option ((PV S_string × PV S_string × PV S_S_int × PV S__2_int × PV (.int .i64) × PV (.int .i64) × Unit)) := fix fun d => b_S_l3Pairs_7 d.1 d.2.1 d.2.2.1 d.2.2.2.1 d.2.2.2.2.1 d.2.2.2.2.2.1 d.2.2.2.2.2.2.1 d.2.2.2.2.2.2.2.1 d.2.2.2.2.2.2.2.2.1
noncomputable def lp_S_l3Pairs_7 : Lp := ⟨⟨[], [0, 1, 5, 6, 7, 8, 9, 10, 11, 54, 55, 56, 57, 58, 59, 60, 61, 62, 63, 64, 65, 66, 67, 68, 69, 70, 71], []⟩, sh_S_l3Pairs_7, o_S_l3Pairs_7, fun d => b_S_l3Pairs_7 d.1 d.2.1 d.2.2.1 d.2.2.2.1 d.2.2.2.2.1 d.2.2.2.2.2.1 d.2.2.2.2.2.2.1 d.2.2.2.2.2.2.2.1 d.2.2.2.2.2.2.2.2.1⟩
noncomputable def sh_S_l3Pairs_4 : List Sh := mkSh 86 [(0, .val S_string .b), (1, .val S_string .b), (5, .val S_S_int (.row (.row .b))), (6, .val S__2_int (.row (.pr .b (.pr .b .b)))), (7, .val (.int .i64) .b), (8, .val (.int .i64) .b)]
noncomputable def o_S_l3Pairs_4 : List Out := [⟨.exit 0, ⟨[], [6], []⟩, mkSh 86 [(6, .val S__2_int (.row (.pr .b (.pr .b .b))))]⟩]
noncomputable def b_S_l3Pairs_4 (t0 : PV S_string) (t1 : PV S_string) (t5 : PV S_S_int) (t6 : PV S__2_int) (t7 : PV (.int .i64)) (t8 : PV (.int .i64)) : Option ((PV S_string × PV S_string × PV S_S_int × PV S__2_int × PV (.int .i64) × PV (.int .i64) × Unit) ⊕ ((PV S__2_int × Unit))) :=
  bif inB t7 t5.length then
    bif inB t8 (t5.getD t7.toNat []).length then
      bif (decide (((t5.getD t7.toNat []).getD t8.toNat (0 : Int)) > 0)) then
        (w_S_l3Pairs_7 (t0, t1, t5, t6, t7, t8, (t0.length : Int), (t1.length : Int), (IntKind.wrap .i64 ((t0.length : Int) - 1)), ())).bind fun l4 =>
          bif roomB (l4.2.2.2.1.length + [(l4.2.2.2.2.1, (l4.2.2.2.2.2.1, ()))].length) then
            some (.inl (l4.1, l4.2.1, l4.2.2.1, (l4.2.2.2.1 ++ [(l4.2.2.2.2.1, (l4.2.2.2.2.2.1, ()))]), (IntKind.wrap .i64 (l4.2.2.2.2.1 + 1)), (IntKind.wrap .i64 (l4.2.2.2.2.2.1 + 1)), ()))
          else
            none
      else
        some (.inr (t6, ()))
    else
      none
  else
    none
noncomputable def w_S_l3Pairs_4 : PV S_string × PV S_string × PV S_S_int × PV S__2_int × PV (.int .i64) × PV (.int .i64) × Unit → Option ((PV S__2_int × Unit)) := fix fun d => b_S_l3Pairs_4 d.1 d.2.1 d.2.2.1 d.2.2.2.1 d.2.2.2.2.1 d.2.2.2.2.2.1
noncomputable def lp_S_l3Pairs_4 : Lp := ⟨⟨[], [0, 1, 5, 6, 7, 8, 54, 55, 56, 57, 58, 59, 60, 61, 62, 63, 64, 65, 66, 67, 68, 69, 70, 71], []⟩, sh_S_l3Pairs_4, o_S_l3Pairs_4, fun d => b_S_l3Pairs_4 d.1 d.2.1 d.2.2.1 d.2.2.2.1 d.2.2.2.2.1 d.2.2.2.2.2.1⟩
noncomputable def pl_S_l3Pairs : Plan := ⟨[(13, o_S_l3Pairs_13), (11, o_S_l3Pairs_11)], [(10, lp_S_l3Pairs_10), (7, lp_S_l3Pairs_7), (4, lp_S_l3Pairs_4)], 0, 0⟩
noncomputable def f_S_l3Pairs (t0 : PV S_string) (t1 : PV S_string) : Option (PVs [S__2_int] × PVs []) :=
  (f_S_l3Table t0 t1).bind fun r2 =>
    (w_S_l3Pairs_4 (t0, t1, r2.1.1, [], 0, 0, ())).bind fun l6 =>
      some ((l6.1, ()), ())
noncomputable def ct_S_l3Pairs : Ct := ⟨[(.bor, S_string), (.bor, S_string)], [(S__2_int, (.row (.pr .b (.pr .b .b))))], fun x => f_S_l3Pairs x.1 x.2.1⟩
noncomputable def cx_S_l3Pairs : Cx := ⟨tab, arrs, [(221, ct_S_l3Table)], [], gl, []⟩
theorem eb_S_l3Pairs_4 (t0 : PV S_string) (t1 : PV S_string) (t5 : PV S_S_int) (t6 : PV S__2_int) (t7 : PV (.int .i64)) (t8 : PV (.int .i64)) : denK cx_S_l3Pairs (rcN cx_S_l3Pairs 0) pl_S_l3Pairs 0 ((loopsOf (bodyOf Try.f204)).getD 0 .skip) (fillS sh_S_l3Pairs_4 (t0, t1, t5, t6, t7, t8, ())) (roundK 0 lp_S_l3Pairs_4) = b_S_l3Pairs_4 t0 t1 t5 t6 t7 t8 := by kernel_rfl
theorem eb_S_l3Pairs_7 (t0 : PV S_string) (t1 : PV S_string) (t5 : PV S_S_int) (t6 : PV S__2_int) (t7 : PV (.int .i64)) (t8 : PV (.int .i64)) (t9 : PV (.int .i64)) (t10 : PV (.int .i64)) (t11 : PV (.int .i64)) : denK cx_S_l3Pairs (rcN cx_S_l3Pairs 0) pl_S_l3Pairs 0 ((loopsOf (bodyOf Try.f204)).getD 1 .skip) (fillS sh_S_l3Pairs_7 (t0, t1, t5, t6, t7, t8, t9, t10, t11, ())) (roundK 0 lp_S_l3Pairs_7) = b_S_l3Pairs_7 t0 t1 t5 t6 t7 t8 t9 t10 t11 := by kernel_rfl
theorem eb_S_l3Pairs_10 (t0 : PV S_string) (t1 : PV S_string) (t5 : PV S_S_int) (t6 : PV S__2_int) (t7 : PV (.int .i64)) (t8 : PV (.int .i64)) (t9 : PV (.int .i64)) (t10 : PV (.int .i64)) (t11 : PV (.int .i64)) (t12 : PV (.int .i64)) : denK cx_S_l3Pairs (rcN cx_S_l3Pairs 0) pl_S_l3Pairs 0 ((loopsOf (bodyOf Try.f204)).getD 2 .skip) (fillS sh_S_l3Pairs_10 (t0, t1, t5, t6, t7, t8, t9, t10, t11, t12, ())) (roundK 0 lp_S_l3Pairs_10) = b_S_l3Pairs_10 t0 t1 t5 t6 t7 t8 t9 t10 t11 t12 := by kernel_rfl
theorem ef_S_l3Pairs (t0 : PV S_string) (t1 : PV S_string) : denF cx_S_l3Pairs 0 pl_S_l3Pairs Try.f204.ntmps (bodyOf Try.f204) Try.f204.results.toList [(.bor, S_string), (.bor, S_string)] [(S__2_int, (.row (.pr .b (.pr .b .b))))] (t0, t1, ()) = f_S_l3Pairs t0 t1 := by kernel_rfl
theorem ok_S_l3Pairs : FnOk gl Try.prog 204 ct_S_l3Pairs :=
  fnOk (cx := cx_S_l3Pairs) (pl := pl_S_l3Pairs) (dp := 0) (ok0_of tabOk (by unfold ArrOk; kernel_rfl) mix ⟨ok_S_l3Table, trivial⟩ trivial) Try.func204 (by kernel_rfl) (by kernel_rfl) (by kernel_rfl)
    (by rw [show loopsOf (bodyOf Try.f204) = [((loopsOf (bodyOf Try.f204)).getD 0 .skip), ((loopsOf (bodyOf Try.f204)).getD 1 .skip), ((loopsOf (bodyOf Try.f204)).getD 2 .skip)] from by kernel_rfl]; exact ⟨(by rw [show lookup pl_S_l3Pairs.loops (firstId ((loopsOf (bodyOf Try.f204)).getD 0 .skip)) = some lp_S_l3Pairs_4 from by kernel_rfl]; exact fun d z h => (eb_S_l3Pairs_4 d.1 d.2.1 d.2.2.1 d.2.2.2.1 d.2.2.2.2.1 d.2.2.2.2.2.1).trans h), (by rw [show lookup pl_S_l3Pairs.loops (firstId ((loopsOf (bodyOf Try.f204)).getD 1 .skip)) = some lp_S_l3Pairs_7 from by kernel_rfl]; exact fun d z h => (eb_S_l3Pairs_7 d.1 d.2.1 d.2.2.1 d.2.2.2.1 d.2.2.2.2.1 d.2.2.2.2.2.1 d.2.2.2.2.2.2.1 d.2.2.2.2.2.2.2.1 d.2.2.2.2.2.2.2.2.1).trans h), (by rw [show lookup pl_S_l3Pairs.loops (firstId ((loopsOf (bodyOf Try.f204)).getD 2 .skip)) = some lp_S_l3Pairs_10 from by kernel_rfl]; exact fun d z h => (eb_S_l3Pairs_10 d.1 d.2.1 d.2.2.1 d.2.2.2.1 d.2.2.2.2.1 d.2.2.2.2.2.1 d.2.2.2.2.2.2.1 d.2.2.2.2.2.2.2.1 d.2.2.2.2.2.2.2.2.1 d.2.2.2.2.2.2.2.2.2.1).trans h), trivial⟩) (fun x => ef_S_l3Pairs x.1 x.2.1)
noncomputable def o_S_l11Stand_21 : List Out := [⟨.normal, ⟨[], [7, 13, 14, 60, 61, 62, 74], []⟩, mkSh 81 [(7, .val S__2_int (.row (.pr .b (.pr .b .b)))), (13, .val (.int .i64) .b), (14, .var Y__2_int .b), (60, .sub ⟨7, [], 0, 0⟩), (61, .val (.int .i64) .b), (62, .val (.int .i64) .b), (74, .val .bool .b)]⟩]
noncomputable def o_S_l11Stand_22 : List Out := [⟨.normal, ⟨[], [7, 60, 61, 62, 71, 72, 73], []⟩, mkSh 81 [(7, .val S__2_int (.row (.pr .b (.pr .b .b)))), (60, .sub ⟨7, [], 0, 0⟩), (61, .val (.int .i64) .b), (62, .val (.int .i64) .b)]⟩]
noncomputable def sh_S_l11Stand_3 : List Sh := mkSh 81 [(0, .val S_string .b), (1, .val S_string .b), (2, .val S_string .b), (7, .val S__2_int (.row (.pr .b (.pr .b .b)))), (19, .val (.int .i64) .b), (20, .val (.int .i64) .b)]
noncomputable def o_S_l11Stand_3 : List Out := [⟨.exit 0, ⟨[], [0, 1, 2, 7, 71, 72, 73], []⟩, mkSh 81 [(0, .val S_string .b), (1, .val S_string .b), (2, .val S_string .b), (7, .val S__2_int (.row (.pr .b (.pr .b .b))))]⟩]
noncomputable def b_S_l11Stand_3 (t0 : PV S_string) (t1 : PV S_string) (t2 : PV S_string) (t7 : PV S__2_int) (t19 : PV (.int .i64)) (t20 : PV (.int .i64)) : Option ((PV S_string × PV S_string × PV S_string × PV S__2_int × PV (.int .i64) × PV (.int .i64) × Unit) ⊕ ((PV S_string × PV S_string × PV S_string × PV S__2_int × Unit))) :=
  bif (decide (t20 < t19)) then
    bif inB t20 t7.length then
      some (.inl (t0, t1, t2, (t7.set t20.toNat ((-1), ((-1), ()))), t19, (IntKind.wrap .i64 (t20 + 1)), ()))
    else
      none
  else
    some (.inr (t0, t1, t2, t7, ()))
noncomputable def w_S_l11Stand_3 : PV S_string × PV S_string × PV S_string × PV S__2_int × PV (.int .i64) × PV (.int .i64) × Unit → Option ((PV S_string × PV S_string × PV S_string × PV S__2_int × Unit)) := fix fun d => b_S_l11Stand_3 d.1 d.2.1 d.2.2.1 d.2.2.2.1 d.2.2.2.2.1 d.2.2.2.2.2.1
noncomputable def lp_S_l11Stand_3 : Lp := ⟨⟨[], [0, 1, 2, 7, 19, 20, 71, 72, 73], []⟩, sh_S_l11Stand_3, o_S_l11Stand_3, fun d => b_S_l11Stand_3 d.1 d.2.1 d.2.2.1 d.2.2.2.1 d.2.2.2.2.1 d.2.2.2.2.2.1⟩
noncomputable def sh_S_l11Stand_8 : List Sh := mkSh 81 [(0, .val S_string .b), (2, .val S_string .b), (7, .val S__2_int (.row (.pr .b (.pr .b .b)))), (30, .val S__2_int (.row (.pr .b (.pr .b .b)))), (31, .val (.int .i64) .b), (32, .val (.int .i64) .b)]
noncomputable def o_S_l11Stand_8 : List Out := [⟨.exit 2, ⟨[], [0, 2, 7, 71, 72, 73], []⟩, mkSh 81 [(0, .val S_string .b), (2, .val S_string .b), (7, .val S__2_int (.row (.pr .b (.pr .b .b))))]⟩]
noncomputable def b_S_l11Stand_8 (t0 : PV S_string) (t2 : PV S_string) (t7 : PV S__2_int) (t30 : PV S__2_int) (t31 : PV (.int .i64)) (t32 : PV (.int .i64)) : Option ((PV S_string × PV S_string × PV S__2_int × PV S__2_int × PV (.int .i64) × PV (.int .i64) × Unit) ⊕ ((PV S_string × PV S_string × PV S__2_int × Unit))) :=
  bif (decide (t32 < t31)) then
    bif inB t32 t30.length then
      bif inB ((t30.getD t32.toNat (dflt Y__2_int)).1) t7.length then
        some (.inl (t0, t2, (t7.set (((t30.getD t32.toNat (dflt Y__2_int)).1).toNat) (((t30.getD t32.toNat (dflt Y__2_int)).2).1, (t7.getD (((t30.getD t32.toNat (dflt Y__2_int)).1).toNat) (dflt Y__2_int)).2)), t30, t31, (IntKind.wrap .i64 (t32 + 1)), ()))
      else
        none
    else
      none
  else
    some (.inr (t0, t2, t7, ()))
noncomputable def w_S_l11Stand_8 : PV S_string × PV S_string × PV S__2_int × PV S__2_int × PV (.int .i64) × PV (.int .i64) × Unit → Option ((PV S_string × PV S_string × PV S__2_int × Unit)) := fix fun d => b_S_l11Stand_8 d.1 d.2.1 d.2.2.1 d.2.2.2.1 d.2.2.2.2.1 d.2.2.2.2.2.1
noncomputable def lp_S_l11Stand_8 : Lp := ⟨⟨[], [0, 2, 7, 30, 31, 32, 71, 72, 73], []⟩, sh_S_l11Stand_8, o_S_l11Stand_8, fun d => b_S_l11Stand_8 d.1 d.2.1 d.2.2.1 d.2.2.2.1 d.2.2.2.2.1 d.2.2.2.2.2.1⟩
noncomputable def sh_S_l11Stand_13 : List Sh := mkSh 81 [(7, .val S__2_int (.row (.pr .b (.pr .b .b)))), (46, .val S__2_int (.row (.pr .b (.pr .b .b)))), (47, .val (.int .i64) .b), (48, .val (.int .i64) .b)]
noncomputable def o_S_l11Stand_13 : List Out := [⟨.exit 4, ⟨[], [7, 71, 72, 73], []⟩, mkSh 81 [(7, .val S__2_int (.row (.pr .b (.pr .b .b))))]⟩]
noncomputable def b_S_l11Stand_13 (t7 : PV S__2_int) (t46 : PV S__2_int) (t47 : PV (.int .i64)) (t48 : PV (.int .i64)) : Option ((PV S__2_int × PV S__2_int × PV (.int .i64) × PV (.int .i64) × Unit) ⊕ ((PV S__2_int × Unit))) :=
  bif (decide (t48 < t47)) then
    bif inB t48 t46.length then
      bif inB ((t46.getD t48.toNat (dflt Y__2_int)).1) t7.length then
        some (.inl ((t7.set (((t46.getD t48.toNat (dflt Y__2_int)).1).toNat) ((t7.getD (((t46.getD t48.toNat (dflt Y__2_int)).1).toNat) (dflt Y__2_int)).1, (((t46.getD t48.toNat (dflt Y__2_int)).2).1, ((t7.getD (((t46.getD t48.toNat (dflt Y__2_int)).1).toNat) (dflt Y__2_int)).2).2))), t46, t47, (IntKind.wrap .i64 (t48 + 1)), ()))
      else
        none
    else
      none
  else
    some (.inr (t7, ()))
noncomputable def w_S_l11Stand_13 : PV S__2_int × PV S__2_int × PV (.int .i64) × PV (.int .i64) × Unit → Option ((PV S__2_int × Unit)) := fix fun d => b_S_l11Stand_13 d.1 d.2.1 d.2.2.1 d.2.2.2.1
noncomputable def lp_S_l11Stand_13 : Lp := ⟨⟨[], [7, 46, 47, 48, 71, 72, 73], []⟩, sh_S_l11Stand_13, o_S_l11Stand_13, fun d => b_S_l11Stand_13 d.1 d.2.1 d.2.2.1 d.2.2.2.1⟩
noncomputable def sh_S_l11Stand_18 : List Sh := mkSh 81 [(7, .val S__2_int (.row (.pr .b (.pr .b .b)))), (60, .sub ⟨7, [], 0, 0⟩), (61, .val (.int .i64) .b), (62, .val (.int .i64) .b)]
noncomputable def o_S_l11Stand_18 : List Out := [⟨.exit 6, ⟨[], [7], []⟩, mkSh 81 [(7, .val S__2_int (.row (.pr .b (.pr .b .b))))]⟩]
noncomputable def b_S_l11Stand_18 (t7 : PV S__2_int) (t61 : PV (.int .i64)) (t62 : PV (.int .i64)) : Option ((PV S__2_int × PV (.int .i64) × PV (.int .i64) × Unit) ⊕ ((PV S__2_int × Unit))) :=
  bif (decide (t62 < t61)) then
    ((
        bif inB t62 t7.length then
          ((
              bif (decide (((t7.getD t62.toNat (dflt Y__2_int)).1) < 0)) then
                some (t7, t62, (t7.getD t62.toNat (dflt Y__2_int)), t61, t62, true, ())
              else
                some (t7, t62, (t7.getD t62.toNat (dflt Y__2_int)), t61, t62, (decide ((((t7.getD t62.toNat (dflt Y__2_int)).2).1) < 0)), ()) : Option ((PV S__2_int × PV (.int .i64) × PV Y__2_int × PV (.int .i64) × PV (.int .i64) × PV .bool × Unit)))).bind fun j15 =>
            bif j15.2.2.2.2.2.1 then
              bif inB j15.2.1 j15.1.length then
                some ((j15.1.set j15.2.1.toNat ((-1), ((-1), ()))), j15.2.2.2.1, j15.2.2.2.2.1, ())
              else
                none
            else
              some (j15.1, j15.2.2.2.1, j15.2.2.2.2.1, ())
        else
          none : Option ((PV S__2_int × PV (.int .i64) × PV (.int .i64) × Unit)))).bind fun j16 =>
      some (.inl (j16.1, j16.2.1, (IntKind.wrap .i64 (j16.2.2.1 + 1)), ()))
  else
    some (.inr (t7, ()))
noncomputable def w_S_l11Stand_18 : PV S__2_int × PV (.int .i64) × PV (.int .i64) × Unit → Option ((PV S__2_int × Unit)) := fix fun d => b_S_l11Stand_18 d.1 d.2.1 d.2.2.1
noncomputable def lp_S_l11Stand_18 : Lp := ⟨⟨[], [7, 60, 61, 62, 71, 72, 73], []⟩, sh_S_l11Stand_18, o_S_l11Stand_18, fun d => b_S_l11Stand_18 d.1 d.2.1 d.2.2.1⟩
noncomputable def pl_S_l11Stand : Plan := ⟨[(21, o_S_l11Stand_21), (22, o_S_l11Stand_22)], [(3, lp_S_l11Stand_3), (8, lp_S_l11Stand_8), (13, lp_S_l11Stand_13), (18, lp_S_l11Stand_18)], 0, 0⟩
noncomputable def f_S_l11Stand (t0 : PV S_string) (t1 : PV S_string) (t2 : PV S_string) : Option (PVs [S__2_int] × PVs []) :=
  bif decide (0 ≤ (t0.length : Int)) && (decide ((t0.length : Int) ≤ (t0.length : Int)) && roomB (t0.length : Int).toNat) then
    (w_S_l11Stand_3 (t0, t1, t2, (List.replicate (t0.length : Int).toNat (dflt Y__2_int)), ((List.replicate (t0.length : Int).toNat (dflt Y__2_int)).length : Int), 0, ())).bind fun l2 =>
      (f_S_l3Pairs l2.1 l2.2.1).bind fun r7 =>
        (w_S_l11Stand_8 (l2.1, l2.2.2.1, l2.2.2.2.1, r7.1.1, (r7.1.1.length : Int), 0, ())).bind fun l8 =>
          (f_S_l3Pairs l8.1 l8.2.1).bind fun r13 =>
            (w_S_l11Stand_13 (l8.2.2.1, r13.1.1, (r13.1.1.length : Int), 0, ())).bind fun l14 =>
              (w_S_l11Stand_18 (l14.1, (l14.1.length : Int), 0, ())).bind fun l18 =>
                some ((l18.1, ()), ())
  else
    none
noncomputable def ct_S_l11Stand : Ct := ⟨[(.bor, S_string), (.bor, S_string), (.bor, S_string)], [(S__2_int, (.row (.pr .b (.pr .b .b))))], fun x => f_S_l11Stand x.1 x.2.1 x.2.2.1⟩
noncomputable def cx_S_l11Stand : Cx := ⟨tab, arrs, [(204, ct_S_l3Pairs)], [], gl, []⟩
theorem eb_S_l11Stand_3 (t0 : PV S_string) (t1 : PV S_string) (t2 : PV S_string) (t7 : PV S__2_int) (t19 : PV (.int .i64)) (t20 : PV (.int .i64)) : denK cx_S_l11Stand (rcN cx_S_l11Stand 0) pl_S_l11Stand 0 ((loopsOf (bodyOf Try.f166)).getD 0 .skip) (fillS sh_S_l11Stand_3 (t0, t1, t2, t7, t19, t20, ())) (roundK 0 lp_S_l11Stand_3) = b_S_l11Stand_3 t0 t1 t2 t7 t19 t20 := by kernel_rfl
theorem eb_S_l11Stand_8 (t0 : PV S_string) (t2 : PV S_string) (t7 : PV S__2_int) (t30 : PV S__2_int) (t31 : PV (.int .i64)) (t32 : PV (.int .i64)) : denK cx_S_l11Stand (rcN cx_S_l11Stand 0) pl_S_l11Stand 0 ((loopsOf (bodyOf Try.f166)).getD 1 .skip) (fillS sh_S_l11Stand_8 (t0, t2, t7, t30, t31, t32, ())) (roundK 0 lp_S_l11Stand_8) = b_S_l11Stand_8 t0 t2 t7 t30 t31 t32 := by kernel_rfl
theorem eb_S_l11Stand_13 (t7 : PV S__2_int) (t46 : PV S__2_int) (t47 : PV (.int .i64)) (t48 : PV (.int .i64)) : denK cx_S_l11Stand (rcN cx_S_l11Stand 0) pl_S_l11Stand 0 ((loopsOf (bodyOf Try.f166)).getD 2 .skip) (fillS sh_S_l11Stand_13 (t7, t46, t47, t48, ())) (roundK 0 lp_S_l11Stand_13) = b_S_l11Stand_13 t7 t46 t47 t48 := by kernel_rfl
theorem eb_S_l11Stand_18 (t7 : PV S__2_int) (t61 : PV (.int .i64)) (t62 : PV (.int .i64)) : denK cx_S_l11Stand (rcN cx_S_l11Stand 0) pl_S_l11Stand 0 ((loopsOf (bodyOf Try.f166)).getD 3 .skip) (fillS sh_S_l11Stand_18 (t7, t61, t62, ())) (roundK 0 lp_S_l11Stand_18) = b_S_l11Stand_18 t7 t61 t62 := by kernel_rfl
theorem ef_S_l11Stand (t0 : PV S_string) (t1 : PV S_string) (t2 : PV S_string) : denF cx_S_l11Stand 0 pl_S_l11Stand Try.f166.ntmps (bodyOf Try.f166) Try.f166.results.toList [(.bor, S_string), (.bor, S_string), (.bor, S_string)] [(S__2_int, (.row (.pr .b (.pr .b .b))))] (t0, t1, t2, ()) = f_S_l11Stand t0 t1 t2 := by kernel_rfl
theorem ok_S_l11Stand : FnOk gl Try.prog 166 ct_S_l11Stand :=
  fnOk (cx := cx_S_l11Stand) (pl := pl_S_l11Stand) (dp := 0) (ok0_of tabOk (by unfold ArrOk; kernel_rfl) mix ⟨ok_S_l3Pairs, trivial⟩ trivial) Try.func166 (by kernel_rfl) (by kernel_rfl) (by kernel_rfl)
    (by rw [show loopsOf (bodyOf Try.f166) = [((loopsOf (bodyOf Try.f166)).getD 0 .skip), ((loopsOf (bodyOf Try.f166)).getD 1 .skip), ((loopsOf (bodyOf Try.f166)).getD 2 .skip), ((loopsOf (bodyOf Try.f166)).getD 3 .skip)] from by kernel_rfl]; exact ⟨(by rw [show lookup pl_S_l11Stand.loops (firstId ((loopsOf (bodyOf Try.f166)).getD 0 .skip)) = some lp_S_l11Stand_3 from by kernel_rfl]; exact fun d z h => (eb_S_l11Stand_3 d.1 d.2.1 d.2.2.1 d.2.2.2.1 d.2.2.2.2.1 d.2.2.2.2.2.1).trans h), (by rw [show lookup pl_S_l11Stand.loops (firstId ((loopsOf (bodyOf Try.f166)).getD 1 .skip)) = some lp_S_l11Stand_8 from by kernel_rfl]; exact fun d z h => (eb_S_l11Stand_8 d.1 d.2.1 d.2.2.1 d.2.2.2.1 d.2.2.2.2.1 d.2.2.2.2.2.1).trans h), (by rw [show lookup pl_S_l11Stand.loops (firstId ((loopsOf (bodyOf Try.f166)).getD 2 .skip)) = some lp_S_l11Stand_13 from by kernel_rfl]; exact fun d z h => (eb_S_l11Stand_13 d.1 d.2.1 d.2.2.1 d.2.2.2.1).trans h), (by rw [show lookup pl_S_l11Stand.loops (firstId ((loopsOf (bodyOf Try.f166)).getD 3 .skip)) = some lp_S_l11Stand_18 from by kernel_rfl]; exact fun d z h => (eb_S_l11Stand_18 d.1 d.2.1 d.2.2.1).trans h), trivial⟩) (fun x => ef_S_l11Stand x.1 x.2.1 x.2.2.1)
noncomputable def sh_S_l1SameT_4 : List Sh := mkSh 26 [(0, .val S_string .b), (1, .val S_string .b), (12, .val (.int .i64) .b), (13, .val (.int .i64) .b)]
noncomputable def o_S_l1SameT_4 : List Out := [⟨.exit 0, ⟨[], [], []⟩, mkSh 26 []⟩, ⟨.ret, ⟨[], [4], []⟩, mkSh 26 [(4, .val .bool .b)]⟩]
noncomputable def b_S_l1SameT_4 (t0 : PV S_string) (t1 : PV S_string) (t12 : PV (.int .i64)) (t13 : PV (.int .i64)) : Option ((PV S_string × PV S_string × PV (.int .i64) × PV (.int .i64) × Unit) ⊕ ((Unit) ⊕ (PV .bool × Unit))) :=
  bif (decide (t13 < t12)) then
    bif inB t13 t0.length then
      bif inB t13 t1.length then
        bif (!((t0.getD t13.toNat []) == (t1.getD t13.toNat []))) then
          some (.inr (.inr (false, ())))
        else
          some (.inl (t0, t1, t12, (IntKind.wrap .i64 (t13 + 1)), ()))
      else
        none
    else
      none
  else
    some (.inr (.inl ()))
noncomputable def w_S_l1SameT_4 : PV S_string × PV S_string × PV (.int .i64) × PV (.int .i64) × Unit → Option ((Unit) ⊕ (PV .bool × Unit)) := fix fun d => b_S_l1SameT_4 d.1 d.2.1 d.2.2.1 d.2.2.2.1
noncomputable def lp_S_l1SameT_4 : Lp := ⟨⟨[], [0, 1, 12, 13], []⟩, sh_S_l1SameT_4, o_S_l1SameT_4, fun d => b_S_l1SameT_4 d.1 d.2.1 d.2.2.1 d.2.2.2.1⟩
noncomputable def pl_S_l1SameT : Plan := ⟨[], [(4, lp_S_l1SameT_4)], 0, 0⟩
noncomputable def f_S_l1SameT (t0 : PV S_string) (t1 : PV S_string) : Option (PVs [.bool] × PVs []) :=
  bif (!((t0.length : Int) == (t1.length : Int))) then
    some ((false, ()), ())
  else
    (w_S_l1SameT_4 (t0, t1, (t0.length : Int), 0, ())).bind fun x5 =>
      match x5 with
      | .inl l3 =>
        some ((true, ()), ())
      | .inr l4 =>
        some ((l4.1, ()), ())
noncomputable def ct_S_l1SameT : Ct := ⟨[(.bor, S_string), (.bor, S_string)], [(.bool, .b)], fun x => f_S_l1SameT x.1 x.2.1⟩
noncomputable def cx_S_l1SameT : Cx := ⟨tab, arrs, [], [], gl, []⟩
theorem eb_S_l1SameT_4 (t0 : PV S_string) (t1 : PV S_string) (t12 : PV (.int .i64)) (t13 : PV (.int .i64)) : denK cx_S_l1SameT (rcN cx_S_l1SameT 0) pl_S_l1SameT 0 ((loopsOf (bodyOf Try.f206)).getD 0 .skip) (fillS sh_S_l1SameT_4 (t0, t1, t12, t13, ())) (roundK 0 lp_S_l1SameT_4) = b_S_l1SameT_4 t0 t1 t12 t13 := by kernel_rfl
theorem ef_S_l1SameT (t0 : PV S_string) (t1 : PV S_string) : denF cx_S_l1SameT 0 pl_S_l1SameT Try.f206.ntmps (bodyOf Try.f206) Try.f206.results.toList [(.bor, S_string), (.bor, S_string)] [(.bool, .b)] (t0, t1, ()) = f_S_l1SameT t0 t1 := by kernel_rfl
theorem ok_S_l1SameT : FnOk gl Try.prog 206 ct_S_l1SameT :=
  fnOk (cx := cx_S_l1SameT) (pl := pl_S_l1SameT) (dp := 0) (ok0_of tabOk (by unfold ArrOk; kernel_rfl) mix trivial trivial) Try.func206 (by kernel_rfl) (by kernel_rfl) (by kernel_rfl)
    (by rw [show loopsOf (bodyOf Try.f206) = [((loopsOf (bodyOf Try.f206)).getD 0 .skip)] from by kernel_rfl]; exact ⟨(by rw [show lookup pl_S_l1SameT.loops (firstId ((loopsOf (bodyOf Try.f206)).getD 0 .skip)) = some lp_S_l1SameT_4 from by kernel_rfl]; exact fun d z h => (eb_S_l1SameT_4 d.1 d.2.1 d.2.2.1 d.2.2.2.1).trans h), trivial⟩) (fun x => ef_S_l1SameT x.1 x.2.1)
noncomputable def o_S_l11Kind_3 : List Out := [⟨.normal, ⟨[], [1, 2, 7, 8, 15], []⟩, mkSh 28 [(1, .val S_string .b), (2, .val S_string .b), (7, .val .bool .b), (8, .val .bool .b), (15, .val .bool .b)]⟩]
noncomputable def pl_S_l11Kind : Plan := ⟨[(3, o_S_l11Kind_3)], [], 0, 0⟩
noncomputable def f_S_l11Kind (t0 : PV S_string) (t1 : PV S_string) (t2 : PV S_string) : Option (PVs [(.int .i64)] × PVs []) :=
  (f_S_l1SameT t0 t1).bind fun r3 =>
    (f_S_l1SameT t0 t2).bind fun r4 =>
      ((
          bif r3.1.1 then
            some (t1, t2, r3.1.1, r4.1.1, r4.1.1, ())
          else
            some (t1, t2, r3.1.1, r4.1.1, false, ()) : Option ((PV S_string × PV S_string × PV .bool × PV .bool × PV .bool × Unit)))).bind fun j8 =>
        bif j8.2.2.2.2.1 then
          some ((1, ()), ())
        else
          bif j8.2.2.2.1 then
            some ((2, ()), ())
          else
            bif j8.2.2.1 then
              some ((3, ()), ())
            else
              (f_S_l1SameT j8.1 j8.2.1).bind fun r10 =>
                bif r10.1.1 then
                  some ((4, ()), ())
                else
                  some ((5, ()), ())
noncomputable def ct_S_l11Kind : Ct := ⟨[(.bor, S_string), (.bor, S_string), (.bor, S_string)], [((.int .i64), .b)], fun x => f_S_l11Kind x.1 x.2.1 x.2.2.1⟩
noncomputable def cx_S_l11Kind : Cx := ⟨tab, arrs, [(206, ct_S_l1SameT)], [], gl, []⟩
theorem ef_S_l11Kind (t0 : PV S_string) (t1 : PV S_string) (t2 : PV S_string) : denF cx_S_l11Kind 0 pl_S_l11Kind Try.f171.ntmps (bodyOf Try.f171) Try.f171.results.toList [(.bor, S_string), (.bor, S_string), (.bor, S_string)] [((.int .i64), .b)] (t0, t1, t2, ()) = f_S_l11Kind t0 t1 t2 := by kernel_rfl
theorem ok_S_l11Kind : FnOk gl Try.prog 171 ct_S_l11Kind :=
  fnOk (cx := cx_S_l11Kind) (pl := pl_S_l11Kind) (dp := 0) (ok0_of tabOk (by unfold ArrOk; kernel_rfl) mix ⟨ok_S_l1SameT, trivial⟩ trivial) Try.func171 (by kernel_rfl) (by kernel_rfl) (by kernel_rfl)
    (by rw [show loopsOf (bodyOf Try.f171) = [] from by kernel_rfl]; exact trivial) (fun x => ef_S_l11Kind x.1 x.2.1 x.2.2.1)
noncomputable def pl_S_l11Part : Plan := ⟨[], [], 0, 0⟩
noncomputable def f_S_l11Part (t0 : PV S_string) (t1 : PV S_string) (t2 : PV S_string) (t3 : PV (.int .i64)) (t4 : PV (.int .i64)) : Option (PVs [Y_impl_Part] × PVs []) :=
  (f_S_l11Kind t0 t1 t2).bind fun r1 =>
    (f_S_l1OwnT t1).bind fun r2 =>
      (f_S_l1OwnT t2).bind fun r3 =>
        some (((r1.1.1, (t3, (t4, (r2.1.1, (r3.1.1, ()))))), ()), ())
noncomputable def ct_S_l11Part : Ct := ⟨[(.bor, S_string), (.bor, S_string), (.bor, S_string), (.bor, (.int .i64)), (.bor, (.int .i64))], [(Y_impl_Part, (.pr .b (.pr .b (.pr .b (.pr (.row .b) (.pr (.row .b) .b))))))], fun x => f_S_l11Part x.1 x.2.1 x.2.2.1 x.2.2.2.1 x.2.2.2.2.1⟩
noncomputable def cx_S_l11Part : Cx := ⟨tab, arrs, [(111, ct_S_l1OwnT), (171, ct_S_l11Kind)], [], gl, []⟩
theorem ef_S_l11Part (t0 : PV S_string) (t1 : PV S_string) (t2 : PV S_string) (t3 : PV (.int .i64)) (t4 : PV (.int .i64)) : denF cx_S_l11Part 0 pl_S_l11Part Try.f167.ntmps (bodyOf Try.f167) Try.f167.results.toList [(.bor, S_string), (.bor, S_string), (.bor, S_string), (.bor, (.int .i64)), (.bor, (.int .i64))] [(Y_impl_Part, (.pr .b (.pr .b (.pr .b (.pr (.row .b) (.pr (.row .b) .b))))))] (t0, t1, t2, t3, t4, ()) = f_S_l11Part t0 t1 t2 t3 t4 := by kernel_rfl
theorem ok_S_l11Part : FnOk gl Try.prog 167 ct_S_l11Part :=
  fnOk (cx := cx_S_l11Part) (pl := pl_S_l11Part) (dp := 0) (ok0_of tabOk (by unfold ArrOk; kernel_rfl) mix ⟨ok_S_l1OwnT, ok_S_l11Kind, trivial⟩ trivial) Try.func167 (by kernel_rfl) (by kernel_rfl) (by kernel_rfl)
    (by rw [show loopsOf (bodyOf Try.f167) = [] from by kernel_rfl]; exact trivial) (fun x => ef_S_l11Part x.1 x.2.1 x.2.2.1 x.2.2.2.1 x.2.2.2.2.1)
noncomputable def o_S_l11Parts_5 : List Out := [⟨.exit 0, ⟨[], [8], []⟩, mkSh 152 [(8, .val S_impl_Part (.row (.pr .b (.pr .b (.pr .b (.pr (.row .b) (.pr (.row .b) .b)))))))]⟩, ⟨.normal, ⟨[], [0, 1, 2, 7, 8, 9, 10, 11, 43, 44, 45, 46, 47, 48, 49, 50, 51, 52, 53, 54, 55, 56, 103, 104, 105, 106, 107, 108], []⟩, mkSh 152 [(0, .val S_string .b), (1, .val S_string .b), (2, .val S_string .b), (7, .val S__2_int (.row (.pr .b (.pr .b .b)))), (8, .val S_impl_Part (.row (.pr .b (.pr .b (.pr .b (.pr (.row .b) (.pr (.row .b) .b))))))), (9, .val (.int .i64) .b), (10, .val (.int .i64) .b), (11, .val (.int .i64) .b)]⟩]
noncomputable def o_S_l11Parts_20 : List Out := [⟨.normal, ⟨[], [0, 1, 2, 7, 8, 9, 10, 11, 13, 14, 15, 25, 26, 27, 28, 31, 32, 33, 34, 43, 44, 45, 46, 47, 48, 49, 50, 51, 52, 53, 54, 55, 56, 103, 104, 105, 106, 107, 108], []⟩, mkSh 152 [(0, .val S_string .b), (1, .val S_string .b), (2, .val S_string .b), (7, .val S__2_int (.row (.pr .b (.pr .b .b)))), (8, .val S_impl_Part (.row (.pr .b (.pr .b (.pr .b (.pr (.row .b) (.pr (.row .b) .b))))))), (9, .val (.int .i64) .b), (10, .val (.int .i64) .b), (11, .val (.int .i64) .b), (13, .val (.int .i64) .b), (14, .val (.int .i64) .b), (15, .val (.int .i64) .b)]⟩]
noncomputable def sh_S_l11Parts_6 : List Sh := mkSh 152 [(0, .val S_string .b), (1, .val S_string .b), (2, .val S_string .b), (7, .val S__2_int (.row (.pr .b (.pr .b .b)))), (8, .val S_impl_Part (.row (.pr .b (.pr .b (.pr .b (.pr (.row .b) (.pr (.row .b) .b))))))), (9, .val (.int .i64) .b), (10, .val (.int .i64) .b), (11, .val (.int .i64) .b), (12, .val (.int .i64) .b)]
noncomputable def o_S_l11Parts_6 : List Out := [⟨.exit 2, ⟨[], [0, 1, 2, 7, 8, 9, 10, 11, 12, 25, 26, 27, 28, 31, 32, 33, 34, 103, 104, 105, 106, 107, 108], []⟩, mkSh 152 [(0, .val S_string .b), (1, .val S_string .b), (2, .val S_string .b), (7, .val S__2_int (.row (.pr .b (.pr .b .b)))), (8, .val S_impl_Part (.row (.pr .b (.pr .b (.pr .b (.pr (.row .b) (.pr (.row .b) .b))))))), (9, .val (.int .i64) .b), (10, .val (.int .i64) .b), (11, .val (.int .i64) .b), (12, .val (.int .i64) .b)]⟩]
noncomputable def b_S_l11Parts_6 (t0 : PV S_string) (t1 : PV S_string) (t2 : PV S_string) (t7 : PV S__2_int) (t8 : PV S_impl_Part) (t9 : PV (.int .i64)) (t10 : PV (.int .i64)) (t11 : PV (.int .i64)) (t12 : PV (.int .i64)) : Option ((PV S_string × PV S_string × PV S_string × PV S__2_int × PV S_impl_Part × PV (.int .i64) × PV (.int .i64) × PV (.int .i64) × PV (.int .i64) × Unit) ⊕ ((PV S_string × PV S_string × PV S_string × PV S__2_int × PV S_impl_Part × PV (.int .i64) × PV (.int .i64) × PV (.int .i64) × PV (.int .i64) × Unit))) :=
  bif (decide ((IntKind.wrap .i64 (t9 + t12)) < (t0.length : Int))) then
    bif inB (IntKind.wrap .i64 (t9 + t12)) t7.length then
      bif (((t7.getD ((IntKind.wrap .i64 (t9 + t12)).toNat) (dflt Y__2_int)).1 == (IntKind.wrap .i64 (t10 + t12))) && (((t7.getD ((IntKind.wrap .i64 (t9 + t12)).toNat) (dflt Y__2_int)).2).1 == (IntKind.wrap .i64 (t11 + t12)))) then
        some (.inl (t0, t1, t2, t7, t8, t9, t10, t11, (IntKind.wrap .i64 (t12 + 1)), ()))
      else
        some (.inr (t0, t1, t2, t7, t8, t9, t10, t11, t12, ()))
    else
      none
  else
    some (.inr (t0, t1, t2, t7, t8, t9, t10, t11, t12, ()))
noncomputable def w_S_l11Parts_6 : PV S_string × PV S_string × PV S_string × PV S__2_int × PV S_impl_Part × PV (.int .i64) × PV (.int .i64) × PV (.int .i64) × PV (.int .i64) × Unit → Option ((PV S_string × PV S_string × PV S_string × PV S__2_int × PV S_impl_Part × PV (.int .i64) × PV (.int .i64) × PV (.int .i64) × PV (.int .i64) × Unit)) := fix fun d => b_S_l11Parts_6 d.1 d.2.1 d.2.2.1 d.2.2.2.1 d.2.2.2.2.1 d.2.2.2.2.2.1 d.2.2.2.2.2.2.1 d.2.2.2.2.2.2.2.1 d.2.2.2.2.2.2.2.2.1
noncomputable def lp_S_l11Parts_6 : Lp := ⟨⟨[], [0, 1, 2, 7, 8, 9, 10, 11, 12, 25, 26, 27, 28, 31, 32, 33, 34, 103, 104, 105, 106, 107, 108], []⟩, sh_S_l11Parts_6, o_S_l11Parts_6, fun d => b_S_l11Parts_6 d.1 d.2.1 d.2.2.1 d.2.2.2.1 d.2.2.2.2.1 d.2.2.2.2.2.1 d.2.2.2.2.2.2.1 d.2.2.2.2.2.2.2.1 d.2.2.2.2.2.2.2.2.1⟩
noncomputable def sh_S_l11Parts_14 : List Sh := mkSh 152 [(0, .val S_string .b), (1, .val S_string .b), (2, .val S_string .b), (7, .val S__2_int (.row (.pr .b (.pr .b .b)))), (8, .val S_impl_Part (.row (.pr .b (.pr .b (.pr .b (.pr (.row .b) (.pr (.row .b) .b))))))), (9, .val (.int .i64) .b), (10, .val (.int .i64) .b), (11, .val (.int .i64) .b), (13, .val (.int .i64) .b)]
noncomputable def o_S_l11Parts_14 : List Out := [⟨.exit 4, ⟨[], [0, 1, 2, 7, 8, 9, 10, 11, 13, 25, 26, 27, 28, 31, 32, 33, 34, 43, 44, 45, 46, 47, 48, 49, 50, 51, 52, 53, 54, 55, 56], []⟩, mkSh 152 [(0, .val S_string .b), (1, .val S_string .b), (2, .val S_string .b), (7, .val S__2_int (.row (.pr .b (.pr .b .b)))), (8, .val S_impl_Part (.row (.pr .b (.pr .b (.pr .b (.pr (.row .b) (.pr (.row .b) .b))))))), (9, .val (.int .i64) .b), (10, .val (.int .i64) .b), (11, .val (.int .i64) .b), (13, .val (.int .i64) .b)]⟩]
noncomputable def b_S_l11Parts_14 (t0 : PV S_string) (t1 : PV S_string) (t2 : PV S_string) (t7 : PV S__2_int) (t8 : PV S_impl_Part) (t9 : PV (.int .i64)) (t10 : PV (.int .i64)) (t11 : PV (.int .i64)) (t13 : PV (.int .i64)) : Option ((PV S_string × PV S_string × PV S_string × PV S__2_int × PV S_impl_Part × PV (.int .i64) × PV (.int .i64) × PV (.int .i64) × PV (.int .i64) × Unit) ⊕ ((PV S_string × PV S_string × PV S_string × PV S__2_int × PV S_impl_Part × PV (.int .i64) × PV (.int .i64) × PV (.int .i64) × PV (.int .i64) × Unit))) :=
  bif (decide (t13 < (t0.length : Int))) then
    bif inB t13 t7.length then
      bif (decide (((t7.getD t13.toNat (dflt Y__2_int)).1) < 0)) then
        some (.inl (t0, t1, t2, t7, t8, t9, t10, t11, (IntKind.wrap .i64 (t13 + 1)), ()))
      else
        some (.inr (t0, t1, t2, t7, t8, t9, t10, t11, t13, ()))
    else
      none
  else
    some (.inr (t0, t1, t2, t7, t8, t9, t10, t11, t13, ()))
noncomputable def w_S_l11Parts_14 : PV S_string × PV S_string × PV S_string × PV S__2_int × PV S_impl_Part × PV (.int .i64) × PV (.int .i64) × PV (.int .i64) × PV (.int .i64) × Unit → Option ((PV S_string × PV S_string × PV S_string × PV S__2_int × PV S_impl_Part × PV (.int .i64) × PV (.int .i64) × PV (.int .i64) × PV (.int .i64) × Unit)) := fix fun d => b_S_l11Parts_14 d.1 d.2.1 d.2.2.1 d.2.2.2.1 d.2.2.2.2.1 d.2.2.2.2.2.1 d.2.2.2.2.2.2.1 d.2.2.2.2.2.2.2.1 d.2.2.2.2.2.2.2.2.1
noncomputable def lp_S_l11Parts_14 : Lp := ⟨⟨[], [0, 1, 2, 7, 8, 9, 10, 11, 13, 25, 26, 27, 28, 31, 32, 33, 34, 43, 44, 45, 46, 47, 48, 49, 50, 51, 52, 53, 54, 55, 56], []⟩, sh_S_l11Parts_14, o_S_l11Parts_14, fun d => b_S_l11Parts_14 d.1 d.2.1 d.2.2.1 d.2.2.2.1 d.2.2.2.2.1 d.2.2.2.2.2.1 d.2.2.2.2.2.2.1 d.2.2.2.2.2.2.2.1 d.2.2.2.2.2.2.2.2.1⟩
noncomputable def sh_S_l11Parts_4 : List Sh := mkSh 152 [(0, .val S_string .b), (1, .val S_string .b), (2, .val S_string .b), (7, .val S__2_int (.row (.pr .b (.pr .b .b)))), (8, .val S_impl_Part (.row (.pr .b (.pr .b (.pr .b (.pr (.row .b) (.pr (.row .b) .b))))))), (9, .val (.int .i64) .b), (10, .val (.int .i64) .b), (11, .val (.int .i64) .b)]
noncomputable def o_S_l11Parts_4 : List Out := [⟨.exit 0, ⟨[], [8], []⟩, mkSh 152 [(8, .val S_impl_Part (.row (.pr .b (.pr .b (.pr .b (.pr (.row .b) (.pr (.row .b) .b)))))))]⟩]
noncomputable def b_S_l11Parts_4 (t0 : PV S_string) (t1 : PV S_string) (t2 : PV S_string) (t7 : PV S__2_int) (t8 : PV S_impl_Part) (t9 : PV (.int .i64)) (t10 : PV (.int .i64)) (t11 : PV (.int .i64)) : Option ((PV S_string × PV S_string × PV S_string × PV S__2_int × PV S_impl_Part × PV (.int .i64) × PV (.int .i64) × PV (.int .i64) × Unit) ⊕ ((PV S_impl_Part × Unit))) :=
  ((
      bif (decide (t9 < (t0.length : Int))) then
        some (.inr (t0, t1, t2, t7, t8, t9, t10, t11, ()))
      else
        bif (decide (t10 < (t1.length : Int))) then
          some (.inr (t0, t1, t2, t7, t8, t9, t10, t11, ()))
        else
          bif (decide (t11 < (t2.length : Int))) then
            some (.inr (t0, t1, t2, t7, t8, t9, t10, t11, ()))
          else
            some (.inl (t8, ())) : Option ((PV S_impl_Part × Unit) ⊕ (PV S_string × PV S_string × PV S_string × PV S__2_int × PV S_impl_Part × PV (.int .i64) × PV (.int .i64) × PV (.int .i64) × Unit)))).bind fun x18 =>
    match x18 with
    | .inl j3 =>
      some (.inr (j3.1, ()))
    | .inr j4 =>
      (w_S_l11Parts_6 (j4.1, j4.2.1, j4.2.2.1, j4.2.2.2.1, j4.2.2.2.2.1, j4.2.2.2.2.2.1, j4.2.2.2.2.2.2.1, j4.2.2.2.2.2.2.2.1, 0, ())).bind fun l6 =>
        bif (decide (l6.2.2.2.2.2.2.2.2.1 > 0)) then
          bif cutB l6.2.2.2.2.2.1 (IntKind.wrap .i64 (l6.2.2.2.2.2.1 + l6.2.2.2.2.2.2.2.2.1)) l6.1.length then
            bif cutB l6.2.2.2.2.2.2.1 (IntKind.wrap .i64 (l6.2.2.2.2.2.2.1 + l6.2.2.2.2.2.2.2.2.1)) l6.2.1.length then
              bif cutB l6.2.2.2.2.2.2.2.1 (IntKind.wrap .i64 (l6.2.2.2.2.2.2.2.1 + l6.2.2.2.2.2.2.2.2.1)) l6.2.2.1.length then
                (f_S_l11Part (cutL l6.2.2.2.2.2.1 (IntKind.wrap .i64 (l6.2.2.2.2.2.1 + l6.2.2.2.2.2.2.2.2.1)) l6.1) (cutL l6.2.2.2.2.2.2.1 (IntKind.wrap .i64 (l6.2.2.2.2.2.2.1 + l6.2.2.2.2.2.2.2.2.1)) l6.2.1) (cutL l6.2.2.2.2.2.2.2.1 (IntKind.wrap .i64 (l6.2.2.2.2.2.2.2.1 + l6.2.2.2.2.2.2.2.2.1)) l6.2.2.1) l6.2.2.2.2.2.1 (IntKind.wrap .i64 (l6.2.2.2.2.2.1 + l6.2.2.2.2.2.2.2.2.1))).bind fun r10 =>
                  bif roomB (l6.2.2.2.2.1.length + [r10.1.1].length) then
                    some (.inl (l6.1, l6.2.1, l6.2.2.1, l6.2.2.2.1, (l6.2.2.2.2.1 ++ [r10.1.1]), (IntKind.wrap .i64 (l6.2.2.2.2.2.1 + l6.2.2.2.2.2.2.2.2.1)), (IntKind.wrap .i64 (l6.2.2.2.2.2.2.1 + l6.2.2.2.2.2.2.2.2.1)), (IntKind.wrap .i64 (l6.2.2.2.2.2.2.2.1 + l6.2.2.2.2.2.2.2.2.1)), ()))
                  else
                    none
              else
                none
            else
              none
          else
            none
        else
          (w_S_l11Parts_14 (l6.1, l6.2.1, l6.2.2.1, l6.2.2.2.1, l6.2.2.2.2.1, l6.2.2.2.2.2.1, l6.2.2.2.2.2.2.1, l6.2.2.2.2.2.2.2.1, l6.2.2.2.2.2.1, ())).bind fun l12 =>
            ((
                bif (decide (l12.2.2.2.2.2.2.2.2.1 < (l12.1.length : Int))) then
                  bif inB l12.2.2.2.2.2.2.2.2.1 l12.2.2.2.1.length then
                    bif inB l12.2.2.2.2.2.2.2.2.1 l12.2.2.2.1.length then
                      some (l12.1, l12.2.1, l12.2.2.1, l12.2.2.2.1, l12.2.2.2.2.1, l12.2.2.2.2.2.1, l12.2.2.2.2.2.2.1, l12.2.2.2.2.2.2.2.1, l12.2.2.2.2.2.2.2.2.1, (l12.2.2.2.1.getD l12.2.2.2.2.2.2.2.2.1.toNat (dflt Y__2_int)).1, ((l12.2.2.2.1.getD l12.2.2.2.2.2.2.2.2.1.toNat (dflt Y__2_int)).2).1, ())
                    else
                      none
                  else
                    none
                else
                  some (l12.1, l12.2.1, l12.2.2.1, l12.2.2.2.1, l12.2.2.2.2.1, l12.2.2.2.2.2.1, l12.2.2.2.2.2.2.1, l12.2.2.2.2.2.2.2.1, l12.2.2.2.2.2.2.2.2.1, (l12.2.1.length : Int), (l12.2.2.1.length : Int), ()) : Option ((PV S_string × PV S_string × PV S_string × PV S__2_int × PV S_impl_Part × PV (.int .i64) × PV (.int .i64) × PV (.int .i64) × PV (.int .i64) × PV (.int .i64) × PV (.int .i64) × Unit)))).bind fun j13 =>
              bif cutB j13.2.2.2.2.2.1 j13.2.2.2.2.2.2.2.2.1 j13.1.length then
                bif cutB j13.2.2.2.2.2.2.1 j13.2.2.2.2.2.2.2.2.2.1 j13.2.1.length then
                  bif cutB j13.2.2.2.2.2.2.2.1 j13.2.2.2.2.2.2.2.2.2.2.1 j13.2.2.1.length then
                    (f_S_l11Part (cutL j13.2.2.2.2.2.1 j13.2.2.2.2.2.2.2.2.1 j13.1) (cutL j13.2.2.2.2.2.2.1 j13.2.2.2.2.2.2.2.2.2.1 j13.2.1) (cutL j13.2.2.2.2.2.2.2.1 j13.2.2.2.2.2.2.2.2.2.2.1 j13.2.2.1) j13.2.2.2.2.2.1 j13.2.2.2.2.2.2.2.2.1).bind fun r15 =>
                      bif roomB (j13.2.2.2.2.1.length + [r15.1.1].length) then
                        some (.inl (j13.1, j13.2.1, j13.2.2.1, j13.2.2.2.1, (j13.2.2.2.2.1 ++ [r15.1.1]), j13.2.2.2.2.2.2.2.2.1, j13.2.2.2.2.2.2.2.2.2.1, j13.2.2.2.2.2.2.2.2.2.2.1, ()))
                      else
                        none
                  else
                    none
                else
                  none
              else
                none
noncomputable def w_S_l11Parts_4 : PV S_string × PV S_string × PV S_string × PV S__2_int × PV S_impl_Part × PV (.int .i64) × PV (.int .i64) × PV (.int .i64) × Unit → Option ((PV S_impl_Part × Unit)) := fix fun d => b_S_l11Parts_4 d.1 d.2.1 d.2.2.1 d.2.2.2.1 d.2.2.2.2.1 d.2.2.2.2.2.1 d.2.2.2.2.2.2.1 d.2.2.2.2.2.2.2.1
noncomputable def lp_S_l11Parts_4 : Lp := ⟨⟨[], [0, 1, 2, 7, 8, 9, 10, 11, 25, 26, 27, 28, 31, 32, 33, 34, 43, 44, 45, 46, 47, 48, 49, 50, 51, 52, 53, 54, 55, 56, 103, 104, 105, 106, 107, 108], []⟩, sh_S_l11Parts_4, o_S_l11Parts_4, fun d => b_S_l11Parts_4 d.1 d.2.1 d.2.2.1 d.2.2.2.1 d.2.2.2.2.1 d.2.2.2.2.2.1 d.2.2.2.2.2.2.1 d.2.2.2.2.2.2.2.1⟩
noncomputable def pl_S_l11Parts : Plan := ⟨[(5, o_S_l11Parts_5), (20, o_S_l11Parts_20)], [(6, lp_S_l11Parts_6), (14, lp_S_l11Parts_14), (4, lp_S_l11Parts_4)], 0, 0⟩
noncomputable def f_S_l11Parts (t0 : PV S_string) (t1 : PV S_string) (t2 : PV S_string) : Option (PVs [S_impl_Part] × PVs []) :=
  (f_S_l11Stand t0 t1 t2).bind fun r2 =>
    (w_S_l11Parts_4 (t0, t1, t2, r2.1.1, [], 0, 0, 0, ())).bind fun l17 =>
      some ((l17.1, ()), ())
noncomputable def ct_S_l11Parts : Ct := ⟨[(.bor, S_string), (.bor, S_string), (.bor, S_string)], [(S_impl_Part, .b)], fun x => f_S_l11Parts x.1 x.2.1 x.2.2.1⟩
noncomputable def cx_S_l11Parts : Cx := ⟨tab, arrs, [(166, ct_S_l11Stand), (167, ct_S_l11Part)], [], gl, []⟩
theorem eb_S_l11Parts_4 (t0 : PV S_string) (t1 : PV S_string) (t2 : PV S_string) (t7 : PV S__2_int) (t8 : PV S_impl_Part) (t9 : PV (.int .i64)) (t10 : PV (.int .i64)) (t11 : PV (.int .i64)) : denK cx_S_l11Parts (rcN cx_S_l11Parts 0) pl_S_l11Parts 0 ((loopsOf (bodyOf Try.f102)).getD 0 .skip) (fillS sh_S_l11Parts_4 (t0, t1, t2, t7, t8, t9, t10, t11, ())) (roundK 0 lp_S_l11Parts_4) = b_S_l11Parts_4 t0 t1 t2 t7 t8 t9 t10 t11 := by kernel_rfl
theorem eb_S_l11Parts_6 (t0 : PV S_string) (t1 : PV S_string) (t2 : PV S_string) (t7 : PV S__2_int) (t8 : PV S_impl_Part) (t9 : PV (.int .i64)) (t10 : PV (.int .i64)) (t11 : PV (.int .i64)) (t12 : PV (.int .i64)) : denK cx_S_l11Parts (rcN cx_S_l11Parts 0) pl_S_l11Parts 0 ((loopsOf (bodyOf Try.f102)).getD 1 .skip) (fillS sh_S_l11Parts_6 (t0, t1, t2, t7, t8, t9, t10, t11, t12, ())) (roundK 0 lp_S_l11Parts_6) = b_S_l11Parts_6 t0 t1 t2 t7 t8 t9 t10 t11 t12 := by kernel_rfl
theorem eb_S_l11Parts_14 (t0 : PV S_string) (t1 : PV S_string) (t2 : PV S_string) (t7 : PV S__2_int) (t8 : PV S_impl_Part) (t9 : PV (.int .i64)) (t10 : PV (.int .i64)) (t11 : PV (.int .i64)) (t13 : PV (.int .i64)) : denK cx_S_l11Parts (rcN cx_S_l11Parts 0) pl_S_l11Parts 0 ((loopsOf (bodyOf Try.f102)).getD 2 .skip) (fillS sh_S_l11Parts_14 (t0, t1, t2, t7, t8, t9, t10, t11, t13, ())) (roundK 0 lp_S_l11Parts_14) = b_S_l11Parts_14 t0 t1 t2 t7 t8 t9 t10 t11 t13 := by kernel_rfl
theorem ef_S_l11Parts (t0 : PV S_string) (t1 : PV S_string) (t2 : PV S_string) : denF cx_S_l11Parts 0 pl_S_l11Parts Try.f102.ntmps (bodyOf Try.f102) Try.f102.results.toList [(.bor, S_string), (.bor, S_string), (.bor, S_string)] [(S_impl_Part, .b)] (t0, t1, t2, ()) = f_S_l11Parts t0 t1 t2 := by kernel_rfl
theorem ok_S_l11Parts : FnOk gl Try.prog 102 ct_S_l11Parts :=
  fnOk (cx := cx_S_l11Parts) (pl := pl_S_l11Parts) (dp := 0) (ok0_of tabOk (by unfold ArrOk; kernel_rfl) mix ⟨ok_S_l11Stand, ok_S_l11Part, trivial⟩ trivial) Try.func102 (by kernel_rfl) (by kernel_rfl) (by kernel_rfl)
    (by rw [show loopsOf (bodyOf Try.f102) = [((loopsOf (bodyOf Try.f102)).getD 0 .skip), ((loopsOf (bodyOf Try.f102)).getD 1 .skip), ((loopsOf (bodyOf Try.f102)).getD 2 .skip)] from by kernel_rfl]; exact ⟨(by rw [show lookup pl_S_l11Parts.loops (firstId ((loopsOf (bodyOf Try.f102)).getD 0 .skip)) = some lp_S_l11Parts_4 from by kernel_rfl]; exact fun d z h => (eb_S_l11Parts_4 d.1 d.2.1 d.2.2.1 d.2.2.2.1 d.2.2.2.2.1 d.2.2.2.2.2.1 d.2.2.2.2.2.2.1 d.2.2.2.2.2.2.2.1).trans h), (by rw [show lookup pl_S_l11Parts.loops (firstId ((loopsOf (bodyOf Try.f102)).getD 1 .skip)) = some lp_S_l11Parts_6 from by kernel_rfl]; exact fun d z h => (eb_S_l11Parts_6 d.1 d.2.1 d.2.2.1 d.2.2.2.1 d.2.2.2.2.1 d.2.2.2.2.2.1 d.2.2.2.2.2.2.1 d.2.2.2.2.2.2.2.1 d.2.2.2.2.2.2.2.2.1).trans h), (by rw [show lookup pl_S_l11Parts.loops (firstId ((loopsOf (bodyOf Try.f102)).getD 2 .skip)) = some lp_S_l11Parts_14 from by kernel_rfl]; exact fun d z h => (eb_S_l11Parts_14 d.1 d.2.1 d.2.2.1 d.2.2.2.1 d.2.2.2.2.1 d.2.2.2.2.2.1 d.2.2.2.2.2.2.1 d.2.2.2.2.2.2.2.1 d.2.2.2.2.2.2.2.2.1).trans h), trivial⟩) (fun x => ef_S_l11Parts x.1 x.2.1 x.2.2.1)
noncomputable def pl_S_l11Taken : Plan := ⟨[], [], 0, 0⟩
noncomputable def f_S_l11Taken (t0 : PV Y_impl_Part) : Option (PVs [S_string] × PVs []) :=
  bif (t0.1 == 3) then
    some ((t0.2.2.2.2.1, ()), ())
  else
    some ((t0.2.2.2.1, ()), ())
noncomputable def ct_S_l11Taken : Ct := ⟨[(.bor, Y_impl_Part)], [(S_string, .b)], fun x => f_S_l11Taken x.1⟩
noncomputable def cx_S_l11Taken : Cx := ⟨tab, arrs, [], [], gl, []⟩
theorem ef_S_l11Taken (t0 : PV Y_impl_Part) : denF cx_S_l11Taken 0 pl_S_l11Taken Try.f114.ntmps (bodyOf Try.f114) Try.f114.results.toList [(.bor, Y_impl_Part)] [(S_string, .b)] (t0, ()) = f_S_l11Taken t0 := by kernel_rfl
theorem ok_S_l11Taken : FnOk gl Try.prog 114 ct_S_l11Taken :=
  fnOk (cx := cx_S_l11Taken) (pl := pl_S_l11Taken) (dp := 0) (ok0_of tabOk (by unfold ArrOk; kernel_rfl) mix trivial trivial) Try.func114 (by kernel_rfl) (by kernel_rfl) (by kernel_rfl)
    (by rw [show loopsOf (bodyOf Try.f114) = [] from by kernel_rfl]; exact trivial) (fun x => ef_S_l11Taken x.1)
noncomputable def sh_S_Merge_5 : List Sh := mkSh 37 [(8, .val S_string (.row .b)), (19, .val S_impl_Part .b), (20, .val (.int .i64) .b), (21, .val (.int .i64) .b)]
noncomputable def o_S_Merge_5 : List Out := [⟨.exit 0, ⟨[], [8], []⟩, mkSh 37 [(8, .val S_string (.row .b))]⟩, ⟨.ret, ⟨[], [6, 7], []⟩, mkSh 37 [(6, .val S_string (.row .b)), (7, .val .bool .b)]⟩]
noncomputable def b_S_Merge_5 (t8 : PV S_string) (t19 : PV S_impl_Part) (t20 : PV (.int .i64)) (t21 : PV (.int .i64)) : Option ((PV S_string × PV S_impl_Part × PV (.int .i64) × PV (.int .i64) × Unit) ⊕ ((PV S_string × Unit) ⊕ (PV S_string × PV .bool × Unit))) :=
  bif (decide (t21 < t20)) then
    bif inB t21 t19.length then
      bif (((t19.getD t21.toNat (dflt Y_impl_Part)).1) == 5) then
        some (.inr (.inr ([], false, ())))
      else
        (f_S_l11Taken (t19.getD t21.toNat (dflt Y_impl_Part))).bind fun r8 =>
          bif roomB (t8.length + r8.1.1.length) then
            some (.inl ((t8 ++ r8.1.1), t19, t20, (IntKind.wrap .i64 (t21 + 1)), ()))
          else
            none
    else
      none
  else
    some (.inr (.inl (t8, ())))
noncomputable def w_S_Merge_5 : PV S_string × PV S_impl_Part × PV (.int .i64) × PV (.int .i64) × Unit → Option ((PV S_string × Unit) ⊕ (PV S_string × PV .bool × Unit)) := fix fun d => b_S_Merge_5 d.1 d.2.1 d.2.2.1 d.2.2.2.1
noncomputable def lp_S_Merge_5 : Lp := ⟨⟨[], [8, 19, 20, 21], []⟩, sh_S_Merge_5, o_S_Merge_5, fun d => b_S_Merge_5 d.1 d.2.1 d.2.2.1 d.2.2.2.1⟩
noncomputable def pl_S_Merge : Plan := ⟨[], [(5, lp_S_Merge_5)], 0, 0⟩
noncomputable def f_S_Merge (t0 : PV S_string) (t1 : PV S_string) (t2 : PV S_string) : Option (PVs [S_string, .bool] × PVs []) :=
  (f_S_l11Three t0 t1 t2).bind fun r4 =>
    bif (!r4.1.1) then
      some (([], false, ()), ())
    else
      (f_S_l11Parts t0 t1 t2).bind fun r12 =>
        (w_S_Merge_5 ([], r12.1.1, (r12.1.1.length : Int), 0, ())).bind fun x19 =>
          match x19 with
          | .inl l13 =>
            (f_S_l1Good l13.1).bind fun r17 =>
              bif (!r17.1.1) then
                some (([], false, ()), ())
              else
                some ((l13.1, true, ()), ())
          | .inr l18 =>
            some ((l18.1, l18.2.1, ()), ())
noncomputable def ct_S_Merge : Ct := ⟨[(.bor, S_string), (.bor, S_string), (.bor, S_string)], [(S_string, (.row .b)), (.bool, .b)], fun x => f_S_Merge x.1 x.2.1 x.2.2.1⟩
noncomputable def cx_S_Merge : Cx := ⟨tab, arrs, [(92, ct_S_l1Good), (101, ct_S_l11Three), (102, ct_S_l11Parts), (114, ct_S_l11Taken)], [], gl, []⟩
theorem eb_S_Merge_5 (t8 : PV S_string) (t19 : PV S_impl_Part) (t20 : PV (.int .i64)) (t21 : PV (.int .i64)) : denK cx_S_Merge (rcN cx_S_Merge 0) pl_S_Merge 0 ((loopsOf (bodyOf Try.f49)).getD 0 .skip) (fillS sh_S_Merge_5 (t8, t19, t20, t21, ())) (roundK 0 lp_S_Merge_5) = b_S_Merge_5 t8 t19 t20 t21 := by kernel_rfl
theorem ef_S_Merge (t0 : PV S_string) (t1 : PV S_string) (t2 : PV S_string) : denF cx_S_Merge 0 pl_S_Merge Try.f49.ntmps (bodyOf Try.f49) Try.f49.results.toList [(.bor, S_string), (.bor, S_string), (.bor, S_string)] [(S_string, (.row .b)), (.bool, .b)] (t0, t1, t2, ()) = f_S_Merge t0 t1 t2 := by kernel_rfl
theorem ok_S_Merge : FnOk gl Try.prog 49 ct_S_Merge :=
  fnOk (cx := cx_S_Merge) (pl := pl_S_Merge) (dp := 0) (ok0_of tabOk (by unfold ArrOk; kernel_rfl) mix ⟨ok_S_l1Good, ok_S_l11Three, ok_S_l11Parts, ok_S_l11Taken, trivial⟩ trivial) Try.func49 (by kernel_rfl) (by kernel_rfl) (by kernel_rfl)
    (by rw [show loopsOf (bodyOf Try.f49) = [((loopsOf (bodyOf Try.f49)).getD 0 .skip)] from by kernel_rfl]; exact ⟨(by rw [show lookup pl_S_Merge.loops (firstId ((loopsOf (bodyOf Try.f49)).getD 0 .skip)) = some lp_S_Merge_5 from by kernel_rfl]; exact fun d z h => (eb_S_Merge_5 d.1 d.2.1 d.2.2.1 d.2.2.2.1).trans h), trivial⟩) (fun x => ef_S_Merge x.1 x.2.1 x.2.2.1)
noncomputable def sh_L_sameTexts_4 : List Sh := mkSh 26 [(0, .val S_string .b), (1, .val S_string .b), (12, .val (.int .i64) .b), (13, .val (.int .i64) .b)]
noncomputable def o_L_sameTexts_4 : List Out := [⟨.exit 0, ⟨[], [], []⟩, mkSh 26 []⟩, ⟨.ret, ⟨[], [4], []⟩, mkSh 26 [(4, .val .bool .b)]⟩]
noncomputable def b_L_sameTexts_4 (t0 : PV S_string) (t1 : PV S_string) (t12 : PV (.int .i64)) (t13 : PV (.int .i64)) : Option ((PV S_string × PV S_string × PV (.int .i64) × PV (.int .i64) × Unit) ⊕ ((Unit) ⊕ (PV .bool × Unit))) :=
  bif (decide (t13 < t12)) then
    bif inB t13 t0.length then
      bif inB t13 t1.length then
        bif (!((t0.getD t13.toNat []) == (t1.getD t13.toNat []))) then
          some (.inr (.inr (false, ())))
        else
          some (.inl (t0, t1, t12, (IntKind.wrap .i64 (t13 + 1)), ()))
      else
        none
    else
      none
  else
    some (.inr (.inl ()))
noncomputable def w_L_sameTexts_4 : PV S_string × PV S_string × PV (.int .i64) × PV (.int .i64) × Unit → Option ((Unit) ⊕ (PV .bool × Unit)) := fix fun d => b_L_sameTexts_4 d.1 d.2.1 d.2.2.1 d.2.2.2.1
noncomputable def lp_L_sameTexts_4 : Lp := ⟨⟨[], [0, 1, 12, 13], []⟩, sh_L_sameTexts_4, o_L_sameTexts_4, fun d => b_L_sameTexts_4 d.1 d.2.1 d.2.2.1 d.2.2.2.1⟩
noncomputable def pl_L_sameTexts : Plan := ⟨[], [(4, lp_L_sameTexts_4)], 0, 0⟩
noncomputable def f_L_sameTexts (t0 : PV S_string) (t1 : PV S_string) : Option (PVs [.bool] × PVs []) :=
  bif (!((t0.length : Int) == (t1.length : Int))) then
    some ((false, ()), ())
  else
    (w_L_sameTexts_4 (t0, t1, (t0.length : Int), 0, ())).bind fun x5 =>
      match x5 with
      | .inl l3 =>
        some ((true, ()), ())
      | .inr l4 =>
        some ((l4.1, ()), ())
noncomputable def ct_L_sameTexts : Ct := ⟨[(.bor, S_string), (.bor, S_string)], [(.bool, .b)], fun x => f_L_sameTexts x.1 x.2.1⟩
noncomputable def cx_L_sameTexts : Cx := ⟨tab, arrs, [], [], gl, []⟩
theorem eb_L_sameTexts_4 (t0 : PV S_string) (t1 : PV S_string) (t12 : PV (.int .i64)) (t13 : PV (.int .i64)) : denK cx_L_sameTexts (rcN cx_L_sameTexts 0) pl_L_sameTexts 0 ((loopsOf (bodyOf Try.f39)).getD 0 .skip) (fillS sh_L_sameTexts_4 (t0, t1, t12, t13, ())) (roundK 0 lp_L_sameTexts_4) = b_L_sameTexts_4 t0 t1 t12 t13 := by kernel_rfl
theorem ef_L_sameTexts (t0 : PV S_string) (t1 : PV S_string) : denF cx_L_sameTexts 0 pl_L_sameTexts Try.f39.ntmps (bodyOf Try.f39) Try.f39.results.toList [(.bor, S_string), (.bor, S_string)] [(.bool, .b)] (t0, t1, ()) = f_L_sameTexts t0 t1 := by kernel_rfl
theorem ok_L_sameTexts : FnOk gl Try.prog 39 ct_L_sameTexts :=
  fnOk (cx := cx_L_sameTexts) (pl := pl_L_sameTexts) (dp := 0) (ok0_of tabOk (by unfold ArrOk; kernel_rfl) mix trivial trivial) Try.func39 (by kernel_rfl) (by kernel_rfl) (by kernel_rfl)
    (by rw [show loopsOf (bodyOf Try.f39) = [((loopsOf (bodyOf Try.f39)).getD 0 .skip)] from by kernel_rfl]; exact ⟨(by rw [show lookup pl_L_sameTexts.loops (firstId ((loopsOf (bodyOf Try.f39)).getD 0 .skip)) = some lp_L_sameTexts_4 from by kernel_rfl]; exact fun d z h => (eb_L_sameTexts_4 d.1 d.2.1 d.2.2.1 d.2.2.2.1).trans h), trivial⟩) (fun x => ef_L_sameTexts x.1 x.2.1)
noncomputable def pl_I_areParts_1 : Plan := ⟨[], [], 0, 0⟩
noncomputable def f_I_areParts_1 (t0 : PV Y_impl_Part) : Option (PVs [.bool] × PVs []) :=
  (f_I_in t0.1 1 5).bind fun r1 =>
    some (((!r1.1.1), ()), ())
noncomputable def ct_I_areParts_1 : Ct := ⟨[(.bor, Y_impl_Part)], [(.bool, .b)], fun x => f_I_areParts_1 x.1⟩
noncomputable def cx_I_areParts_1 : Cx := ⟨tab, arrs, [(104, ct_I_in)], [], gl, []⟩
theorem ef_I_areParts_1 (t0 : PV Y_impl_Part) : denF cx_I_areParts_1 0 pl_I_areParts_1 Try.f169.ntmps (bodyOf Try.f169) Try.f169.results.toList [(.bor, Y_impl_Part)] [(.bool, .b)] (t0, ()) = f_I_areParts_1 t0 := by kernel_rfl
theorem ok_I_areParts_1 : FnOk gl Try.prog 169 ct_I_areParts_1 :=
  fnOk (cx := cx_I_areParts_1) (pl := pl_I_areParts_1) (dp := 0) (ok0_of tabOk (by unfold ArrOk; kernel_rfl) mix ⟨ok_I_in, trivial⟩ trivial) Try.func169 (by kernel_rfl) (by kernel_rfl) (by kernel_rfl)
    (by rw [show loopsOf (bodyOf Try.f169) = [] from by kernel_rfl]; exact trivial) (fun x => ef_I_areParts_1 x.1)
noncomputable def pl_I_areParts_168 : Plan := ⟨[], [], 1, 11⟩
noncomputable def sh_I_areParts_205_2 : List Sh := mkSh 39 [(0, .val S_impl_Part .b), (2, .val .bool .b), (3, .val S_impl_Part .b), (4, .val (.int .i64) .b), (5, .val .bool .b), (6, .val .bool .b), (7, .val S_impl_Part .b), (11, .val S_impl_Part .b), (12, .fn 169 []), (15, .val .bool .b), (16, .val S_impl_Part .b), (17, .fn 169 []), (20, .val S_impl_Part .b), (21, .fn 169 []), (27, .val (.int .i64) .b), (28, .val (.int .i64) .b)]
noncomputable def o_I_areParts_205_2 : List Out := [⟨.exit 0, ⟨[], [], []⟩, mkSh 39 [(0, .val S_impl_Part .b), (2, .val .bool .b), (3, .val S_impl_Part .b), (4, .val (.int .i64) .b), (5, .val .bool .b), (6, .val .bool .b), (7, .val S_impl_Part .b), (11, .val S_impl_Part .b), (12, .fn 169 []), (15, .val .bool .b), (16, .val S_impl_Part .b), (17, .fn 169 [])]⟩, ⟨.ret, ⟨[], [4], []⟩, mkSh 39 [(0, .val S_impl_Part .b), (2, .val .bool .b), (3, .val S_impl_Part .b), (4, .val (.int .i64) .b), (5, .val .bool .b), (6, .val .bool .b), (7, .val S_impl_Part .b), (11, .val S_impl_Part .b), (12, .fn 169 []), (15, .val .bool .b), (16, .val S_impl_Part .b), (17, .fn 169 []), (24, .val (.int .i64) .b)]⟩]
noncomputable def b_I_areParts_205_2 (t0 : PV S_impl_Part) (t2 : PV .bool) (t3 : PV S_impl_Part) (t4 : PV (.int .i64)) (t5 : PV .bool) (t6 : PV .bool) (t7 : PV S_impl_Part) (t11 : PV S_impl_Part) (t15 : PV .bool) (t16 : PV S_impl_Part) (t20 : PV S_impl_Part) (t27 : PV (.int .i64)) (t28 : PV (.int .i64)) : Option ((PV S_impl_Part × PV .bool × PV S_impl_Part × PV (.int .i64) × PV .bool × PV .bool × PV S_impl_Part × PV S_impl_Part × PV .bool × PV S_impl_Part × PV S_impl_Part × PV (.int .i64) × PV (.int .i64) × Unit) ⊕ ((PV S_impl_Part × PV .bool × PV S_impl_Part × PV (.int .i64) × PV .bool × PV .bool × PV S_impl_Part × PV S_impl_Part × PV .bool × PV S_impl_Part × Unit) ⊕ (PV S_impl_Part × PV .bool × PV S_impl_Part × PV (.int .i64) × PV .bool × PV .bool × PV S_impl_Part × PV S_impl_Part × PV .bool × PV S_impl_Part × PV (.int .i64) × Unit))) :=
  bif (decide (t28 < t27)) then
    bif inB t28 t20.length then
      (f_I_areParts_1 (t20.getD t28.toNat (dflt Y_impl_Part))).bind fun r4 =>
        bif r4.1.1 then
          some (.inr (.inr (t0, t2, t3, t4, t5, t6, t7, t11, t15, t16, t28, ())))
        else
          some (.inl (t0, t2, t3, t4, t5, t6, t7, t11, t15, t16, t20, t27, (IntKind.wrap .i64 (t28 + 1)), ()))
    else
      none
  else
    some (.inr (.inl (t0, t2, t3, t4, t5, t6, t7, t11, t15, t16, ())))
noncomputable def w_I_areParts_205_2 : PV S_impl_Part × PV .bool × PV S_impl_Part × PV (.int .i64) × PV .bool × PV .bool × PV S_impl_Part × PV S_impl_Part × PV .bool × PV S_impl_Part × PV S_impl_Part × PV (.int .i64) × PV (.int .i64) × Unit → Option ((PV S_impl_Part × PV .bool × PV S_impl_Part × PV (.int .i64) × PV .bool × PV .bool × PV S_impl_Part × PV S_impl_Part × PV .bool × PV S_impl_Part × Unit) ⊕ (PV S_impl_Part × PV .bool × PV S_impl_Part × PV (.int .i64) × PV .bool × PV .bool × PV S_impl_Part × PV S_impl_Part × PV .bool × PV S_impl_Part × PV (.int .i64) × Unit)) := fix fun d => b_I_areParts_205_2 d.1 d.2.1 d.2.2.1 d.2.2.2.1 d.2.2.2.2.1 d.2.2.2.2.2.1 d.2.2.2.2.2.2.1 d.2.2.2.2.2.2.2.1 d.2.2.2.2.2.2.2.2.1 d.2.2.2.2.2.2.2.2.2.1 d.2.2.2.2.2.2.2.2.2.2.1 d.2.2.2.2.2.2.2.2.2.2.2.1 d.2.2.2.2.2.2.2.2.2.2.2.2.1
noncomputable def lp_I_areParts_205_2 : Lp := ⟨⟨[], [0, 1, 7, 8], []⟩, sh_I_areParts_205_2, o_I_areParts_205_2, fun d => b_I_areParts_205_2 d.1 d.2.1 d.2.2.1 d.2.2.2.1 d.2.2.2.2.1 d.2.2.2.2.2.1 d.2.2.2.2.2.2.1 d.2.2.2.2.2.2.2.1 d.2.2.2.2.2.2.2.2.1 d.2.2.2.2.2.2.2.2.2.1 d.2.2.2.2.2.2.2.2.2.2.1 d.2.2.2.2.2.2.2.2.2.2.2.1 d.2.2.2.2.2.2.2.2.2.2.2.2.1⟩
noncomputable def pl_I_areParts_205 : Plan := ⟨[], [(2, lp_I_areParts_205_2)], 0, 20⟩
noncomputable def pl_I_areParts : Plan := ⟨[], [], 2, 0⟩
noncomputable def f_I_areParts (t0 : PV S_impl_Part) : Option (PVs [.bool] × PVs []) :=
  bif (decide ((t0.length : Int) ≤ 120)) then
    (w_I_areParts_205_2 (t0, false, t0, (t0.length : Int), (decide ((t0.length : Int) ≤ 120)), true, t0, t0, false, t0, t0, (t0.length : Int), 0, ())).bind fun x9 =>
      match x9 with
      | .inl l7 =>
        bif l7.2.2.2.2.2.1 then
          some (((!(decide ((-1) ≥ 0))), ()), ())
        else
          some ((false, ()), ())
      | .inr l8 =>
        bif l8.2.2.2.2.2.1 then
          some (((!(decide (l8.2.2.2.2.2.2.2.2.2.2.1 ≥ 0))), ()), ())
        else
          some ((false, ()), ())
  else
    some ((false, ()), ())
noncomputable def ct_I_areParts : Ct := ⟨[(.bor, S_impl_Part)], [(.bool, .b)], fun x => f_I_areParts x.1⟩
noncomputable def cx_I_areParts : Cx := ⟨tab, arrs, [(169, ct_I_areParts_1)], [(168, Try.f168, pl_I_areParts_168), (205, Try.f205, pl_I_areParts_205)], gl, []⟩
theorem eb_I_areParts_205_2 (t0 : PV S_impl_Part) (t2 : PV .bool) (t3 : PV S_impl_Part) (t4 : PV (.int .i64)) (t5 : PV .bool) (t6 : PV .bool) (t7 : PV S_impl_Part) (t11 : PV S_impl_Part) (t15 : PV .bool) (t16 : PV S_impl_Part) (t20 : PV S_impl_Part) (t27 : PV (.int .i64)) (t28 : PV (.int .i64)) : denK cx_I_areParts (rcN cx_I_areParts 0) pl_I_areParts_205 20 ((loopsOf (bodyOf Try.f205)).getD 0 .skip) (fillS sh_I_areParts_205_2 (t0, t2, t3, t4, t5, t6, t7, t11, t15, t16, t20, t27, t28, ())) (roundK 20 lp_I_areParts_205_2) = b_I_areParts_205_2 t0 t2 t3 t4 t5 t6 t7 t11 t15 t16 t20 t27 t28 := by kernel_rfl
theorem ef_I_areParts (t0 : PV S_impl_Part) : denF cx_I_areParts 2 pl_I_areParts Try.f105.ntmps (bodyOf Try.f105) Try.f105.results.toList [(.bor, S_impl_Part)] [(.bool, .b)] (t0, ()) = f_I_areParts t0 := by kernel_rfl
theorem ok_I_areParts : FnOk gl Try.prog 105 ct_I_areParts :=
  fnOk (cx := cx_I_areParts) (pl := pl_I_areParts) (dp := 2) (ok0_of tabOk (by unfold ArrOk; kernel_rfl) mix ⟨ok_I_areParts_1, trivial⟩ ⟨⟨Try.func168, by kernel_rfl, (by rw [show loopsOf (bodyOf Try.f168) = [] from by kernel_rfl]; exact trivial)⟩, ⟨Try.func205, by kernel_rfl, (by rw [show loopsOf (bodyOf Try.f205) = [((loopsOf (bodyOf Try.f205)).getD 0 .skip)] from by kernel_rfl]; exact ⟨(by rw [show lookup pl_I_areParts_205.loops (firstId ((loopsOf (bodyOf Try.f205)).getD 0 .skip)) = some lp_I_areParts_205_2 from by kernel_rfl]; exact fun d z h => (eb_I_areParts_205_2 d.1 d.2.1 d.2.2.1 d.2.2.2.1 d.2.2.2.2.1 d.2.2.2.2.2.1 d.2.2.2.2.2.2.1 d.2.2.2.2.2.2.2.1 d.2.2.2.2.2.2.2.2.1 d.2.2.2.2.2.2.2.2.2.1 d.2.2.2.2.2.2.2.2.2.2.1 d.2.2.2.2.2.2.2.2.2.2.2.1 d.2.2.2.2.2.2.2.2.2.2.2.2.1).trans h), trivial⟩)⟩, trivial⟩) Try.func105 (by kernel_rfl) (by kernel_rfl) (by kernel_rfl)
    (by rw [show loopsOf (bodyOf Try.f105) = [] from by kernel_rfl]; exact trivial) (fun x => ef_I_areParts x.1)
noncomputable def pl_I_ClashesIn : Plan := ⟨[], [], 0, 0⟩
noncomputable def f_I_ClashesIn (t0 : PV S_impl_Part) : Option (PVs [(.int .i64), .bool] × PVs []) :=
  (f_I_areParts t0).bind fun r4 =>
    bif (!r4.1.1) then
      some ((0, false, ()), ())
    else
      (f_I_clashes t0).bind fun r5 =>
        some ((r5.1.1, true, ()), ())
noncomputable def ct_I_ClashesIn : Ct := ⟨[(.bor, S_impl_Part)], [((.int .i64), .b), (.bool, .b)], fun x => f_I_ClashesIn x.1⟩
noncomputable def cx_I_ClashesIn : Cx := ⟨tab, arrs, [(105, ct_I_areParts), (112, ct_I_clashes)], [], gl, []⟩
theorem ef_I_ClashesIn (t0 : PV S_impl_Part) : denF cx_I_ClashesIn 0 pl_I_ClashesIn Try.f44.ntmps (bodyOf Try.f44) Try.f44.results.toList [(.bor, S_impl_Part)] [((.int .i64), .b), (.bool, .b)] (t0, ()) = f_I_ClashesIn t0 := by kernel_rfl
theorem ok_I_ClashesIn : FnOk gl Try.prog 44 ct_I_ClashesIn :=
  fnOk (cx := cx_I_ClashesIn) (pl := pl_I_ClashesIn) (dp := 0) (ok0_of tabOk (by unfold ArrOk; kernel_rfl) mix ⟨ok_I_areParts, ok_I_clashes, trivial⟩ trivial) Try.func44 (by kernel_rfl) (by kernel_rfl) (by kernel_rfl)
    (by rw [show loopsOf (bodyOf Try.f44) = [] from by kernel_rfl]; exact trivial) (fun x => ef_I_ClashesIn x.1)
noncomputable def pl_internal_stringslite_TrimSuffix : Plan := ⟨[], [], 0, 0⟩
noncomputable def f_internal_stringslite_TrimSuffix (t0 : PV .str) (t1 : PV .str) : Option (PVs [.str] × PVs []) :=
  (f_internal_stringslite_HasSuffix t0 t1).bind fun r4 =>
    bif r4.1.1 then
      bif cutB 0 (IntKind.wrap .i64 ((t0.length : Int) - (t1.length : Int))) t0.length then
        some (((cutL 0 (IntKind.wrap .i64 ((t0.length : Int) - (t1.length : Int))) t0), ()), ())
      else
        none
    else
      some ((t0, ()), ())
noncomputable def ct_internal_stringslite_TrimSuffix : Ct := ⟨[(.bor, .str), (.bor, .str)], [(.str, .b)], fun x => f_internal_stringslite_TrimSuffix x.1 x.2.1⟩
noncomputable def cx_internal_stringslite_TrimSuffix : Cx := ⟨tab, arrs, [(216, ct_internal_stringslite_HasSuffix)], [], gl, []⟩
theorem ef_internal_stringslite_TrimSuffix (t0 : PV .str) (t1 : PV .str) : denF cx_internal_stringslite_TrimSuffix 0 pl_internal_stringslite_TrimSuffix Try.f218.ntmps (bodyOf Try.f218) Try.f218.results.toList [(.bor, .str), (.bor, .str)] [(.str, .b)] (t0, t1, ()) = f_internal_stringslite_TrimSuffix t0 t1 := by kernel_rfl
theorem ok_internal_stringslite_TrimSuffix : FnOk gl Try.prog 218 ct_internal_stringslite_TrimSuffix :=
  fnOk (cx := cx_internal_stringslite_TrimSuffix) (pl := pl_internal_stringslite_TrimSuffix) (dp := 0) (ok0_of tabOk (by unfold ArrOk; kernel_rfl) mix ⟨ok_internal_stringslite_HasSuffix, trivial⟩ trivial) Try.func218 (by kernel_rfl) (by kernel_rfl) (by kernel_rfl)
    (by rw [show loopsOf (bodyOf Try.f218) = [] from by kernel_rfl]; exact trivial) (fun x => ef_internal_stringslite_TrimSuffix x.1 x.2.1)
noncomputable def pl_strings_TrimSuffix : Plan := ⟨[], [], 0, 0⟩
noncomputable def f_strings_TrimSuffix (t0 : PV .str) (t1 : PV .str) : Option (PVs [.str] × PVs []) :=
  (f_internal_stringslite_TrimSuffix t0 t1).bind fun r1 =>
    some ((r1.1.1, ()), ())
noncomputable def ct_strings_TrimSuffix : Ct := ⟨[(.bor, .str), (.bor, .str)], [(.str, .b)], fun x => f_strings_TrimSuffix x.1 x.2.1⟩
noncomputable def cx_strings_TrimSuffix : Cx := ⟨tab, arrs, [(218, ct_internal_stringslite_TrimSuffix)], [], gl, []⟩
theorem ef_strings_TrimSuffix (t0 : PV .str) (t1 : PV .str) : denF cx_strings_TrimSuffix 0 pl_strings_TrimSuffix Try.f199.ntmps (bodyOf Try.f199) Try.f199.results.toList [(.bor, .str), (.bor, .str)] [(.str, .b)] (t0, t1, ()) = f_strings_TrimSuffix t0 t1 := by kernel_rfl
theorem ok_strings_TrimSuffix : FnOk gl Try.prog 199 ct_strings_TrimSuffix :=
  fnOk (cx := cx_strings_TrimSuffix) (pl := pl_strings_TrimSuffix) (dp := 0) (ok0_of tabOk (by unfold ArrOk; kernel_rfl) mix ⟨ok_internal_stringslite_TrimSuffix, trivial⟩ trivial) Try.func199 (by kernel_rfl) (by kernel_rfl) (by kernel_rfl)
    (by rw [show loopsOf (bodyOf Try.f199) = [] from by kernel_rfl]; exact trivial) (fun x => ef_strings_TrimSuffix x.1 x.2.1)
noncomputable def pl_I_plain : Plan := ⟨[], [], 0, 0⟩
noncomputable def f_I_plain (t0 : PV .str) : Option (PVs [.str] × PVs []) :=
  (f_strings_TrimSuffix t0 [10]).bind fun r1 =>
    some ((r1.1.1, ()), ())
noncomputable def ct_I_plain : Ct := ⟨[(.bor, .str)], [(.str, .b)], fun x => f_I_plain x.1⟩
noncomputable def cx_I_plain : Cx := ⟨tab, arrs, [(199, ct_strings_TrimSuffix)], [], gl, []⟩
theorem ef_I_plain (t0 : PV .str) : denF cx_I_plain 0 pl_I_plain Try.f160.ntmps (bodyOf Try.f160) Try.f160.results.toList [(.bor, .str)] [(.str, .b)] (t0, ()) = f_I_plain t0 := by kernel_rfl
theorem ok_I_plain : FnOk gl Try.prog 160 ct_I_plain :=
  fnOk (cx := cx_I_plain) (pl := pl_I_plain) (dp := 0) (ok0_of tabOk (by unfold ArrOk; kernel_rfl) mix ⟨ok_strings_TrimSuffix, trivial⟩ trivial) Try.func160 (by kernel_rfl) (by kernel_rfl) (by kernel_rfl)
    (by rw [show loopsOf (bodyOf Try.f160) = [] from by kernel_rfl]; exact trivial) (fun x => ef_I_plain x.1)
noncomputable def sh_I_endedAll_3 : List Sh := mkSh 21 [(3, .val S_string (.row .b)), (7, .val S_string .b), (8, .val (.int .i64) .b), (9, .val (.int .i64) .b)]
noncomputable def o_I_endedAll_3 : List Out := [⟨.exit 0, ⟨[], [3], []⟩, mkSh 21 [(3, .val S_string (.row .b))]⟩]
noncomputable def b_I_endedAll_3 (t3 : PV S_string) (t7 : PV S_string) (t8 : PV (.int .i64)) (t9 : PV (.int .i64)) : Option ((PV S_string × PV S_string × PV (.int .i64) × PV (.int .i64) × Unit) ⊕ ((PV S_string × Unit))) :=
  bif (decide (t9 < t8)) then
    bif inB t9 t7.length then
      (f_I_plain (t7.getD t9.toNat [])).bind fun r2 =>
        bif decide (r2.1.1.length + [10].length ≤ 1099511627776) then
          bif roomB (t3.length + [(r2.1.1 ++ [10])].length) then
            some (.inl ((t3 ++ [(r2.1.1 ++ [10])]), t7, t8, (IntKind.wrap .i64 (t9 + 1)), ()))
          else
            none
        else
          none
    else
      none
  else
    some (.inr (t3, ()))
noncomputable def w_I_endedAll_3 : PV S_string × PV S_string × PV (.int .i64) × PV (.int .i64) × Unit → Option ((PV S_string × Unit)) := fix fun d => b_I_endedAll_3 d.1 d.2.1 d.2.2.1 d.2.2.2.1
noncomputable def lp_I_endedAll_3 : Lp := ⟨⟨[], [3, 7, 8, 9], []⟩, sh_I_endedAll_3, o_I_endedAll_3, fun d => b_I_endedAll_3 d.1 d.2.1 d.2.2.1 d.2.2.2.1⟩
noncomputable def pl_I_endedAll : Plan := ⟨[], [(3, lp_I_endedAll_3)], 0, 0⟩
noncomputable def f_I_endedAll (t0 : PV S_string) : Option (PVs [S_string] × PVs []) :=
  (w_I_endedAll_3 (([] : PV S_string), t0, (t0.length : Int), 0, ())).bind fun l4 =>
    some ((l4.1, ()), ())
noncomputable def ct_I_endedAll : Ct := ⟨[(.bor, S_string)], [(S_string, (.row .b))], fun x => f_I_endedAll x.1⟩
noncomputable def cx_I_endedAll : Cx := ⟨tab, arrs, [(160, ct_I_plain)], [], gl, []⟩
theorem eb_I_endedAll_3 (t3 : PV S_string) (t7 : PV S_string) (t8 : PV (.int .i64)) (t9 : PV (.int .i64)) : denK cx_I_endedAll (rcN cx_I_endedAll 0) pl_I_endedAll 0 ((loopsOf (bodyOf Try.f118)).getD 0 .skip) (fillS sh_I_endedAll_3 (t3, t7, t8, t9, ())) (roundK 0 lp_I_endedAll_3) = b_I_endedAll_3 t3 t7 t8 t9 := by kernel_rfl
theorem ef_I_endedAll (t0 : PV S_string) : denF cx_I_endedAll 0 pl_I_endedAll Try.f118.ntmps (bodyOf Try.f118) Try.f118.results.toList [(.bor, S_string)] [(S_string, (.row .b))] (t0, ()) = f_I_endedAll t0 := by kernel_rfl
theorem ok_I_endedAll : FnOk gl Try.prog 118 ct_I_endedAll :=
  fnOk (cx := cx_I_endedAll) (pl := pl_I_endedAll) (dp := 0) (ok0_of tabOk (by unfold ArrOk; kernel_rfl) mix ⟨ok_I_plain, trivial⟩ trivial) Try.func118 (by kernel_rfl) (by kernel_rfl) (by kernel_rfl)
    (by rw [show loopsOf (bodyOf Try.f118) = [((loopsOf (bodyOf Try.f118)).getD 0 .skip)] from by kernel_rfl]; exact ⟨(by rw [show lookup pl_I_endedAll.loops (firstId ((loopsOf (bodyOf Try.f118)).getD 0 .skip)) = some lp_I_endedAll_3 from by kernel_rfl]; exact fun d z h => (eb_I_endedAll_3 d.1 d.2.1 d.2.2.1 d.2.2.2.1).trans h), trivial⟩) (fun x => ef_I_endedAll x.1)
noncomputable def sh_slices_Concat_string_3 : List Sh := mkSh 36 [(0, .val S_S_string .b), (3, .val (.int .i64) .b), (9, .val S_S_string .b), (10, .val (.int .i64) .b), (11, .val (.int .i64) .b)]
noncomputable def o_slices_Concat_string_3 : List Out := [⟨.exit 0, ⟨[], [0, 3], []⟩, mkSh 36 [(0, .val S_S_string .b), (3, .val (.int .i64) .b)]⟩]
noncomputable def b_slices_Concat_string_3 (t0 : PV S_S_string) (t3 : PV (.int .i64)) (t9 : PV S_S_string) (t10 : PV (.int .i64)) (t11 : PV (.int .i64)) : Option ((PV S_S_string × PV (.int .i64) × PV S_S_string × PV (.int .i64) × PV (.int .i64) × Unit) ⊕ ((PV S_S_string × PV (.int .i64) × Unit))) :=
  bif (decide (t11 < t10)) then
    bif inB t11 t9.length then
      bif (decide ((IntKind.wrap .i64 (t3 + ((t9.getD t11.toNat []).length : Int))) < 0)) then
        none
      else
        some (.inl (t0, (IntKind.wrap .i64 (t3 + ((t9.getD t11.toNat []).length : Int))), t9, t10, (IntKind.wrap .i64 (t11 + 1)), ()))
    else
      none
  else
    some (.inr (t0, t3, ()))
noncomputable def w_slices_Concat_string_3 : PV S_S_string × PV (.int .i64) × PV S_S_string × PV (.int .i64) × PV (.int .i64) × Unit → Option ((PV S_S_string × PV (.int .i64) × Unit)) := fix fun d => b_slices_Concat_string_3 d.1 d.2.1 d.2.2.1 d.2.2.2.1 d.2.2.2.2.1
noncomputable def lp_slices_Concat_string_3 : Lp := ⟨⟨[], [0, 3, 9, 10, 11], []⟩, sh_slices_Concat_string_3, o_slices_Concat_string_3, fun d => b_slices_Concat_string_3 d.1 d.2.1 d.2.2.1 d.2.2.2.1 d.2.2.2.2.1⟩
noncomputable def sh_slices_Concat_string_11 : List Sh := mkSh 36 [(6, .val S_string (.row .b)), (25, .val S_S_string .b), (26, .val (.int .i64) .b), (27, .val (.int .i64) .b)]
noncomputable def o_slices_Concat_string_11 : List Out := [⟨.exit 2, ⟨[], [6], []⟩, mkSh 36 [(6, .val S_string (.row .b))]⟩]
noncomputable def b_slices_Concat_string_11 (t6 : PV S_string) (t25 : PV S_S_string) (t26 : PV (.int .i64)) (t27 : PV (.int .i64)) : Option ((PV S_string × PV S_S_string × PV (.int .i64) × PV (.int .i64) × Unit) ⊕ ((PV S_string × Unit))) :=
  bif (decide (t27 < t26)) then
    bif inB t27 t25.length then
      bif roomB (t6.length + (t25.getD t27.toNat []).length) then
        some (.inl ((t6 ++ (t25.getD t27.toNat [])), t25, t26, (IntKind.wrap .i64 (t27 + 1)), ()))
      else
        none
    else
      none
  else
    some (.inr (t6, ()))
noncomputable def w_slices_Concat_string_11 : PV S_string × PV S_S_string × PV (.int .i64) × PV (.int .i64) × Unit → Option ((PV S_string × Unit)) := fix fun d => b_slices_Concat_string_11 d.1 d.2.1 d.2.2.1 d.2.2.2.1
noncomputable def lp_slices_Concat_string_11 : Lp := ⟨⟨[], [6, 25, 26, 27], []⟩, sh_slices_Concat_string_11, o_slices_Concat_string_11, fun d => b_slices_Concat_string_11 d.1 d.2.1 d.2.2.1 d.2.2.2.1⟩
noncomputable def pl_slices_Concat_string : Plan := ⟨[], [(3, lp_slices_Concat_string_3), (11, lp_slices_Concat_string_11)], 0, 0⟩
noncomputable def f_slices_Concat_string (t0 : PV S_S_string) : Option (PVs [S_string] × PVs []) :=
  (w_slices_Concat_string_3 (t0, 0, t0, (t0.length : Int), 0, ())).bind fun l2 =>
    (f_slices_Grow_string [] l2.2.1).bind fun r4 =>
      (w_slices_Concat_string_11 (r4.1.1, l2.1, (l2.1.length : Int), 0, ())).bind fun l6 =>
        some ((l6.1, ()), ())
noncomputable def ct_slices_Concat_string : Ct := ⟨[(.bor, S_S_string)], [(S_string, (.row .b))], fun x => f_slices_Concat_string x.1⟩
noncomputable def cx_slices_Concat_string : Cx := ⟨tab, arrs, [(175, ct_slices_Grow_string)], [], gl, []⟩
theorem eb_slices_Concat_string_3 (t0 : PV S_S_string) (t3 : PV (.int .i64)) (t9 : PV S_S_string) (t10 : PV (.int .i64)) (t11 : PV (.int .i64)) : denK cx_slices_Concat_string (rcN cx_slices_Concat_string 0) pl_slices_Concat_string 0 ((loopsOf (bodyOf Try.f117)).getD 0 .skip) (fillS sh_slices_Concat_string_3 (t0, t3, t9, t10, t11, ())) (roundK 0 lp_slices_Concat_string_3) = b_slices_Concat_string_3 t0 t3 t9 t10 t11 := by kernel_rfl
theorem eb_slices_Concat_string_11 (t6 : PV S_string) (t25 : PV S_S_string) (t26 : PV (.int .i64)) (t27 : PV (.int .i64)) : denK cx_slices_Concat_string (rcN cx_slices_Concat_string 0) pl_slices_Concat_string 0 ((loopsOf (bodyOf Try.f117)).getD 1 .skip) (fillS sh_slices_Concat_string_11 (t6, t25, t26, t27, ())) (roundK 0 lp_slices_Concat_string_11) = b_slices_Concat_string_11 t6 t25 t26 t27 := by kernel_rfl
theorem ef_slices_Concat_string (t0 : PV S_S_string) : denF cx_slices_Concat_string 0 pl_slices_Concat_string Try.f117.ntmps (bodyOf Try.f117) Try.f117.results.toList [(.bor, S_S_string)] [(S_string, (.row .b))] (t0, ()) = f_slices_Concat_string t0 := by kernel_rfl
theorem ok_slices_Concat_string : FnOk gl Try.prog 117 ct_slices_Concat_string :=
  fnOk (cx := cx_slices_Concat_string) (pl := pl_slices_Concat_string) (dp := 0) (ok0_of tabOk (by unfold ArrOk; kernel_rfl) mix ⟨ok_slices_Grow_string, trivial⟩ trivial) Try.func117 (by kernel_rfl) (by kernel_rfl) (by kernel_rfl)
    (by rw [show loopsOf (bodyOf Try.f117) = [((loopsOf (bodyOf Try.f117)).getD 0 .skip), ((loopsOf (bodyOf Try.f117)).getD 1 .skip)] from by kernel_rfl]; exact ⟨(by rw [show lookup pl_slices_Concat_string.loops (firstId ((loopsOf (bodyOf Try.f117)).getD 0 .skip)) = some lp_slices_Concat_string_3 from by kernel_rfl]; exact fun d z h => (eb_slices_Concat_string_3 d.1 d.2.1 d.2.2.1 d.2.2.2.1 d.2.2.2.2.1).trans h), (by rw [show lookup pl_slices_Concat_string.loops (firstId ((loopsOf (bodyOf Try.f117)).getD 1 .skip)) = some lp_slices_Concat_string_11 from by kernel_rfl]; exact fun d z h => (eb_slices_Concat_string_11 d.1 d.2.1 d.2.2.1 d.2.2.2.1).trans h), trivial⟩) (fun x => ef_slices_Concat_string x.1)
noncomputable def pl_I_MarkedText_1 : Plan := ⟨[], [], 0, 0⟩
noncomputable def f_I_MarkedText_1 (t0 : PV Y_impl_Part) : Option (PVs [S_string] × PVs []) :=
  (f_I_endedAll t0.2.2.2.1).bind fun r1 =>
    (f_I_endedAll t0.2.2.2.2.1).bind fun r2 =>
      (f_slices_Concat_string [[[60, 60, 60, 10]], r1.1.1, [[61, 61, 61, 10]], r2.1.1, [[62, 62, 62, 10]]]).bind fun r3 =>
        some ((r3.1.1, ()), ())
noncomputable def ct_I_MarkedText_1 : Ct := ⟨[(.bor, Y_impl_Part)], [(S_string, (.row .b))], fun x => f_I_MarkedText_1 x.1⟩
noncomputable def cx_I_MarkedText_1 : Cx := ⟨tab, arrs, [(117, ct_slices_Concat_string), (118, ct_I_endedAll)], [], gl, []⟩
theorem ef_I_MarkedText_1 (t0 : PV Y_impl_Part) : denF cx_I_MarkedText_1 0 pl_I_MarkedText_1 Try.f116.ntmps (bodyOf Try.f116) Try.f116.results.toList [(.bor, Y_impl_Part)] [(S_string, (.row .b))] (t0, ()) = f_I_MarkedText_1 t0 := by kernel_rfl
theorem ok_I_MarkedText_1 : FnOk gl Try.prog 116 ct_I_MarkedText_1 :=
  fnOk (cx := cx_I_MarkedText_1) (pl := pl_I_MarkedText_1) (dp := 0) (ok0_of tabOk (by unfold ArrOk; kernel_rfl) mix ⟨ok_slices_Concat_string, ok_I_endedAll, trivial⟩ trivial) Try.func116 (by kernel_rfl) (by kernel_rfl) (by kernel_rfl)
    (by rw [show loopsOf (bodyOf Try.f116) = [] from by kernel_rfl]; exact trivial) (fun x => ef_I_MarkedText_1 x.1)
noncomputable def o_I_MarkedText_113_11 : List Out := [⟨.normal, ⟨[], [1, 5, 9, 10, 11], []⟩, mkSh 58 [(0, .val S_string .b), (1, .val S_string .b), (2, .val S_string .b), (6, .val .str .b), (7, .val .bool .b), (8, .val S_impl_Part .b), (9, .val .bool .b), (11, .val S_string .b), (12, .val S_string .b), (13, .val S_string .b), (15, .val S_impl_Part .b), (16, .val .bool .b), (17, .val .bool .b), (18, .val .bool .b), (19, .val S_impl_Part .b), (23, .fn 116 []), (27, .val S_string (.row .b)), (31, .val S_impl_Part .b), (32, .val (.int .i64) .b), (33, .val (.int .i64) .b)]⟩]
noncomputable def sh_I_MarkedText_113_3 : List Sh := mkSh 58 [(0, .val S_string .b), (1, .val S_string .b), (2, .val S_string .b), (6, .val .str .b), (7, .val .bool .b), (8, .val S_impl_Part .b), (9, .val .bool .b), (11, .val S_string .b), (12, .val S_string .b), (13, .val S_string .b), (15, .val S_impl_Part .b), (16, .val .bool .b), (17, .val .bool .b), (18, .val .bool .b), (19, .val S_impl_Part .b), (23, .fn 116 []), (27, .val S_string (.row .b)), (31, .val S_impl_Part .b), (32, .val (.int .i64) .b), (33, .val (.int .i64) .b)]
noncomputable def o_I_MarkedText_113_3 : List Out := [⟨.exit 0, ⟨[], [5], [10]⟩, mkSh 58 [(0, .val S_string .b), (1, .val S_string .b), (2, .val S_string .b), (6, .val .str .b), (7, .val .bool .b), (8, .val S_impl_Part .b), (9, .val .bool .b), (11, .val S_string .b), (12, .val S_string .b), (13, .val S_string .b), (15, .val S_impl_Part .b), (16, .val .bool .b), (17, .val .bool .b), (18, .val .bool .b), (19, .val S_impl_Part .b), (27, .val S_string (.row .b))]⟩]
noncomputable def b_I_MarkedText_113_3 (t0 : PV S_string) (t1 : PV S_string) (t2 : PV S_string) (t6 : PV .str) (t7 : PV .bool) (t8 : PV S_impl_Part) (t9 : PV .bool) (t11 : PV S_string) (t12 : PV S_string) (t13 : PV S_string) (t15 : PV S_impl_Part) (t16 : PV .bool) (t17 : PV .bool) (t18 : PV .bool) (t19 : PV S_impl_Part) (t27 : PV S_string) (t31 : PV S_impl_Part) (t32 : PV (.int .i64)) (t33 : PV (.int .i64)) : Option ((PV S_string × PV S_string × PV S_string × PV .str × PV .bool × PV S_impl_Part × PV .bool × PV S_string × PV S_string × PV S_string × PV S_impl_Part × PV .bool × PV .bool × PV .bool × PV S_impl_Part × PV S_string × PV S_impl_Part × PV (.int .i64) × PV (.int .i64) × Unit) ⊕ ((PV S_string × PV S_string × PV S_string × PV .str × PV .bool × PV S_impl_Part × PV .bool × PV S_string × PV S_string × PV S_string × PV S_impl_Part × PV .bool × PV .bool × PV .bool × PV S_impl_Part × PV S_string × Unit))) :=
  bif (decide (t33 < t32)) then
    ((
        bif inB t33 t31.length then
          bif (((t31.getD t33.toNat (dflt Y_impl_Part)).1) == 5) then
            (f_I_MarkedText_1 (t31.getD t33.toNat (dflt Y_impl_Part))).bind fun r3 =>
              bif roomB (t27.length + r3.1.1.length) then
                some (t0, t1, t2, t6, t7, t8, t9, t11, t12, t13, t15, t16, t17, t18, t19, (t27 ++ r3.1.1), t31, t32, t33, ())
              else
                none
          else
            bif (((t31.getD t33.toNat (dflt Y_impl_Part)).1) == 3) then
              bif roomB (t27.length + ((((((t31.getD t33.toNat (dflt Y_impl_Part)).2).2).2).2).1).length) then
                some (t0, t1, t2, t6, t7, t8, t9, t11, t12, t13, t15, t16, t17, t18, t19, (t27 ++ ((((((t31.getD t33.toNat (dflt Y_impl_Part)).2).2).2).2).1)), t31, t32, t33, ())
              else
                none
            else
              bif roomB (t27.length + (((((t31.getD t33.toNat (dflt Y_impl_Part)).2).2).2).1).length) then
                some (t0, t1, t2, t6, t7, t8, t9, t11, t12, t13, t15, t16, t17, t18, t19, (t27 ++ (((((t31.getD t33.toNat (dflt Y_impl_Part)).2).2).2).1)), t31, t32, t33, ())
              else
                none
        else
          none : Option ((PV S_string × PV S_string × PV S_string × PV .str × PV .bool × PV S_impl_Part × PV .bool × PV S_string × PV S_string × PV S_string × PV S_impl_Part × PV .bool × PV .bool × PV .bool × PV S_impl_Part × PV S_string × PV S_impl_Part × PV (.int .i64) × PV (.int .i64) × Unit)))).bind fun j4 =>
      some (.inl (j4.1, j4.2.1, j4.2.2.1, j4.2.2.2.1, j4.2.2.2.2.1, j4.2.2.2.2.2.1, j4.2.2.2.2.2.2.1, j4.2.2.2.2.2.2.2.1, j4.2.2.2.2.2.2.2.2.1, j4.2.2.2.2.2.2.2.2.2.1, j4.2.2.2.2.2.2.2.2.2.2.1, j4.2.2.2.2.2.2.2.2.2.2.2.1, j4.2.2.2.2.2.2.2.2.2.2.2.2.1, j4.2.2.2.2.2.2.2.2.2.2.2.2.2.1, j4.2.2.2.2.2.2.2.2.2.2.2.2.2.2.1, j4.2.2.2.2.2.2.2.2.2.2.2.2.2.2.2.1, j4.2.2.2.2.2.2.2.2.2.2.2.2.2.2.2.2.1, j4.2.2.2.2.2.2.2.2.2.2.2.2.2.2.2.2.2.1, (IntKind.wrap .i64 (j4.2.2.2.2.2.2.2.2.2.2.2.2.2.2.2.2.2.2.1 + 1)), ()))
  else
    some (.inr (t0, t1, t2, t6, t7, t8, t9, t11, t12, t13, t15, t16, t17, t18, t19, t27, ()))
noncomputable def w_I_MarkedText_113_3 : PV S_string × PV S_string × PV S_string × PV .str × PV .bool × PV S_impl_Part × PV .bool × PV S_string × PV S_string × PV S_string × PV S_impl_Part × PV .bool × PV .bool × PV .bool × PV S_impl_Part × PV S_string × PV S_impl_Part × PV (.int .i64) × PV (.int .i64) × Unit → Option ((PV S_string × PV S_string × PV S_string × PV .str × PV .bool × PV S_impl_Part × PV .bool × PV S_string × PV S_string × PV S_string × PV S_impl_Part × PV .bool × PV .bool × PV .bool × PV S_impl_Part × PV S_string × Unit)) := fix fun d => b_I_MarkedText_113_3 d.1 d.2.1 d.2.2.1 d.2.2.2.1 d.2.2.2.2.1 d.2.2.2.2.2.1 d.2.2.2.2.2.2.1 d.2.2.2.2.2.2.2.1 d.2.2.2.2.2.2.2.2.1 d.2.2.2.2.2.2.2.2.2.1 d.2.2.2.2.2.2.2.2.2.2.1 d.2.2.2.2.2.2.2.2.2.2.2.1 d.2.2.2.2.2.2.2.2.2.2.2.2.1 d.2.2.2.2.2.2.2.2.2.2.2.2.2.1 d.2.2.2.2.2.2.2.2.2.2.2.2.2.2.1 d.2.2.2.2.2.2.2.2.2.2.2.2.2.2.2.1 d.2.2.2.2.2.2.2.2.2.2.2.2.2.2.2.2.1 d.2.2.2.2.2.2.2.2.2.2.2.2.2.2.2.2.2.1 d.2.2.2.2.2.2.2.2.2.2.2.2.2.2.2.2.2.2.1
noncomputable def lp_I_MarkedText_113_3 : Lp := ⟨⟨[], [1, 5, 9, 10, 11], [10]⟩, sh_I_MarkedText_113_3, o_I_MarkedText_113_3, fun d => b_I_MarkedText_113_3 d.1 d.2.1 d.2.2.1 d.2.2.2.1 d.2.2.2.2.1 d.2.2.2.2.2.1 d.2.2.2.2.2.2.1 d.2.2.2.2.2.2.2.1 d.2.2.2.2.2.2.2.2.1 d.2.2.2.2.2.2.2.2.2.1 d.2.2.2.2.2.2.2.2.2.2.1 d.2.2.2.2.2.2.2.2.2.2.2.1 d.2.2.2.2.2.2.2.2.2.2.2.2.1 d.2.2.2.2.2.2.2.2.2.2.2.2.2.1 d.2.2.2.2.2.2.2.2.2.2.2.2.2.2.1 d.2.2.2.2.2.2.2.2.2.2.2.2.2.2.2.1 d.2.2.2.2.2.2.2.2.2.2.2.2.2.2.2.2.1 d.2.2.2.2.2.2.2.2.2.2.2.2.2.2.2.2.2.1 d.2.2.2.2.2.2.2.2.2.2.2.2.2.2.2.2.2.2.1⟩
noncomputable def pl_I_MarkedText_113 : Plan := ⟨[(11, o_I_MarkedText_113_11)], [(3, lp_I_MarkedText_113_3)], 0, 22⟩
noncomputable def pl_I_MarkedText : Plan := ⟨[], [], 1, 0⟩
noncomputable def f_I_MarkedText (t0 : PV S_string) (t1 : PV S_string) (t2 : PV S_string) : Option (PVs [.str, .bool] × PVs []) :=
  (f_I_PartsOf t0 t1 t2).bind fun r2 =>
    bif (!r2.1.2.1) then
      some (([], false, ()), ())
    else
      (w_I_MarkedText_113_3 (t0, t1, t2, [], false, r2.1.1, r2.1.2.1, t0, t1, t2, r2.1.1, r2.1.2.1, r2.1.2.1, (!r2.1.2.1), r2.1.1, ([] : PV S_string), r2.1.1, (r2.1.1.length : Int), 0, ())).bind fun l6 =>
        (f_strings_Join l6.2.2.2.2.2.2.2.2.2.2.2.2.2.2.2.1 []).bind fun r7 =>
          some ((r7.1.1, true, ()), ())
noncomputable def ct_I_MarkedText : Ct := ⟨[(.bor, S_string), (.bor, S_string), (.bor, S_string)], [(.str, .b), (.bool, .b)], fun x => f_I_MarkedText x.1 x.2.1 x.2.2.1⟩
noncomputable def cx_I_MarkedText : Cx := ⟨tab, arrs, [(33, ct_I_PartsOf), (115, ct_strings_Join), (116, ct_I_MarkedText_1)], [(113, Try.f113, pl_I_MarkedText_113)], gl, []⟩
theorem eb_I_MarkedText_113_3 (t0 : PV S_string) (t1 : PV S_string) (t2 : PV S_string) (t6 : PV .str) (t7 : PV .bool) (t8 : PV S_impl_Part) (t9 : PV .bool) (t11 : PV S_string) (t12 : PV S_string) (t13 : PV S_string) (t15 : PV S_impl_Part) (t16 : PV .bool) (t17 : PV .bool) (t18 : PV .bool) (t19 : PV S_impl_Part) (t27 : PV S_string) (t31 : PV S_impl_Part) (t32 : PV (.int .i64)) (t33 : PV (.int .i64)) : denK cx_I_MarkedText (rcN cx_I_MarkedText 0) pl_I_MarkedText_113 22 ((loopsOf (bodyOf Try.f113)).getD 0 .skip) (fillS sh_I_MarkedText_113_3 (t0, t1, t2, t6, t7, t8, t9, t11, t12, t13, t15, t16, t17, t18, t19, t27, t31, t32, t33, ())) (roundK 22 lp_I_MarkedText_113_3) = b_I_MarkedText_113_3 t0 t1 t2 t6 t7 t8 t9 t11 t12 t13 t15 t16 t17 t18 t19 t27 t31 t32 t33 := by kernel_rfl
theorem ef_I_MarkedText (t0 : PV S_string) (t1 : PV S_string) (t2 : PV S_string) : denF cx_I_MarkedText 1 pl_I_MarkedText Try.f50.ntmps (bodyOf Try.f50) Try.f50.results.toList [(.bor, S_string), (.bor, S_string), (.bor, S_string)] [(.str, .b), (.bool, .b)] (t0, t1, t2, ()) = f_I_MarkedText t0 t1 t2 := by kernel_rfl
theorem ok_I_MarkedText : FnOk gl Try.prog 50 ct_I_MarkedText :=
  fnOk (cx := cx_I_MarkedText) (pl := pl_I_MarkedText) (dp := 1) (ok0_of tabOk (by unfold ArrOk; kernel_rfl) mix ⟨ok_I_PartsOf, ok_strings_Join, ok_I_MarkedText_1, trivial⟩ ⟨⟨Try.func113, by kernel_rfl, (by rw [show loopsOf (bodyOf Try.f113) = [((loopsOf (bodyOf Try.f113)).getD 0 .skip)] from by kernel_rfl]; exact ⟨(by rw [show lookup pl_I_MarkedText_113.loops (firstId ((loopsOf (bodyOf Try.f113)).getD 0 .skip)) = some lp_I_MarkedText_113_3 from by kernel_rfl]; exact fun d z h => (eb_I_MarkedText_113_3 d.1 d.2.1 d.2.2.1 d.2.2.2.1 d.2.2.2.2.1 d.2.2.2.2.2.1 d.2.2.2.2.2.2.1 d.2.2.2.2.2.2.2.1 d.2.2.2.2.2.2.2.2.1 d.2.2.2.2.2.2.2.2.2.1 d.2.2.2.2.2.2.2.2.2.2.1 d.2.2.2.2.2.2.2.2.2.2.2.1 d.2.2.2.2.2.2.2.2.2.2.2.2.1 d.2.2.2.2.2.2.2.2.2.2.2.2.2.1 d.2.2.2.2.2.2.2.2.2.2.2.2.2.2.1 d.2.2.2.2.2.2.2.2.2.2.2.2.2.2.2.1 d.2.2.2.2.2.2.2.2.2.2.2.2.2.2.2.2.1 d.2.2.2.2.2.2.2.2.2.2.2.2.2.2.2.2.2.1 d.2.2.2.2.2.2.2.2.2.2.2.2.2.2.2.2.2.2.1).trans h), trivial⟩)⟩, trivial⟩) Try.func50 (by kernel_rfl) (by kernel_rfl) (by kernel_rfl)
    (by rw [show loopsOf (bodyOf Try.f50) = [] from by kernel_rfl]; exact trivial) (fun x => ef_I_MarkedText x.1 x.2.1 x.2.2.1)
noncomputable def pl_I_TextOf : Plan := ⟨[], [], 0, 0⟩
noncomputable def f_I_TextOf (t0 : PV S_string) : Option (PVs [.str, .bool] × PVs []) :=
  (f_I_goodLines t0).bind fun r4 =>
    bif (!r4.1.1) then
      some (([], false, ()), ())
    else
      (f_strings_Join t0 []).bind fun r5 =>
        some ((r5.1.1, true, ()), ())
noncomputable def ct_I_TextOf : Ct := ⟨[(.bor, S_string)], [(.str, .b), (.bool, .b)], fun x => f_I_TextOf x.1⟩
noncomputable def cx_I_TextOf : Cx := ⟨tab, arrs, [(96, ct_I_goodLines), (115, ct_strings_Join)], [], gl, []⟩
theorem ef_I_TextOf (t0 : PV S_string) : denF cx_I_TextOf 0 pl_I_TextOf Try.f51.ntmps (bodyOf Try.f51) Try.f51.results.toList [(.bor, S_string)] [(.str, .b), (.bool, .b)] (t0, ()) = f_I_TextOf t0 := by kernel_rfl
theorem ok_I_TextOf : FnOk gl Try.prog 51 ct_I_TextOf :=
  fnOk (cx := cx_I_TextOf) (pl := pl_I_TextOf) (dp := 0) (ok0_of tabOk (by unfold ArrOk; kernel_rfl) mix ⟨ok_I_goodLines, ok_strings_Join, trivial⟩ trivial) Try.func51 (by kernel_rfl) (by kernel_rfl) (by kernel_rfl)
    (by rw [show loopsOf (bodyOf Try.f51) = [] from by kernel_rfl]; exact trivial) (fun x => ef_I_TextOf x.1)
noncomputable def pl_S_DrawMarkedText : Plan := ⟨[], [], 0, 0⟩
noncomputable def f_S_DrawMarkedText (t0 : PV S_uint8) : Option (PVs [S_string, S_string, S_string] × PVs []) :=
  (f_S_DrawPartsOf t0).bind fun r1 =>
    some ((r1.1.1, r1.1.2.1, r1.1.2.2.1, ()), ())
noncomputable def ct_S_DrawMarkedText : Ct := ⟨[(.bor, S_uint8)], [(S_string, .b), (S_string, .b), (S_string, .b)], fun x => f_S_DrawMarkedText x.1⟩
noncomputable def cx_S_DrawMarkedText : Cx := ⟨tab, arrs, [(32, ct_S_DrawPartsOf)], [], gl, []⟩
theorem ef_S_DrawMarkedText (t0 : PV S_uint8) : denF cx_S_DrawMarkedText 0 pl_S_DrawMarkedText Try.f52.ntmps (bodyOf Try.f52) Try.f52.results.toList [(.bor, S_uint8)] [(S_string, .b), (S_string, .b), (S_string, .b)] (t0, ()) = f_S_DrawMarkedText t0 := by kernel_rfl
theorem ok_S_DrawMarkedText : FnOk gl Try.prog 52 ct_S_DrawMarkedText :=
  fnOk (cx := cx_S_DrawMarkedText) (pl := pl_S_DrawMarkedText) (dp := 0) (ok0_of tabOk (by unfold ArrOk; kernel_rfl) mix ⟨ok_S_DrawPartsOf, trivial⟩ trivial) Try.func52 (by kernel_rfl) (by kernel_rfl) (by kernel_rfl)
    (by rw [show loopsOf (bodyOf Try.f52) = [] from by kernel_rfl]; exact trivial) (fun x => ef_S_DrawMarkedText x.1)
noncomputable def sh_S_l1Text_3 : List Sh := mkSh 17 [(3, .val .str .b), (6, .val S_string .b), (7, .val (.int .i64) .b), (8, .val (.int .i64) .b)]
noncomputable def o_S_l1Text_3 : List Out := [⟨.exit 0, ⟨[], [3], []⟩, mkSh 17 [(3, .val .str .b)]⟩]
noncomputable def b_S_l1Text_3 (t3 : PV .str) (t6 : PV S_string) (t7 : PV (.int .i64)) (t8 : PV (.int .i64)) : Option ((PV .str × PV S_string × PV (.int .i64) × PV (.int .i64) × Unit) ⊕ ((PV .str × Unit))) :=
  bif (decide (t8 < t7)) then
    bif inB t8 t6.length then
      bif decide (t3.length + (t6.getD t8.toNat []).length ≤ 1099511627776) then
        some (.inl ((t3 ++ (t6.getD t8.toNat [])), t6, t7, (IntKind.wrap .i64 (t8 + 1)), ()))
      else
        none
    else
      none
  else
    some (.inr (t3, ()))
noncomputable def w_S_l1Text_3 : PV .str × PV S_string × PV (.int .i64) × PV (.int .i64) × Unit → Option ((PV .str × Unit)) := fix fun d => b_S_l1Text_3 d.1 d.2.1 d.2.2.1 d.2.2.2.1
noncomputable def lp_S_l1Text_3 : Lp := ⟨⟨[], [3, 6, 7, 8], []⟩, sh_S_l1Text_3, o_S_l1Text_3, fun d => b_S_l1Text_3 d.1 d.2.1 d.2.2.1 d.2.2.2.1⟩
noncomputable def pl_S_l1Text : Plan := ⟨[], [(3, lp_S_l1Text_3)], 0, 0⟩
noncomputable def f_S_l1Text (t0 : PV S_string) : Option (PVs [.str] × PVs []) :=
  (w_S_l1Text_3 ([], t0, (t0.length : Int), 0, ())).bind fun l2 =>
    some ((l2.1, ()), ())
noncomputable def ct_S_l1Text : Ct := ⟨[(.bor, S_string)], [(.str, .b)], fun x => f_S_l1Text x.1⟩
noncomputable def cx_S_l1Text : Cx := ⟨tab, arrs, [], [], gl, []⟩
theorem eb_S_l1Text_3 (t3 : PV .str) (t6 : PV S_string) (t7 : PV (.int .i64)) (t8 : PV (.int .i64)) : denK cx_S_l1Text (rcN cx_S_l1Text 0) pl_S_l1Text 0 ((loopsOf (bodyOf Try.f120)).getD 0 .skip) (fillS sh_S_l1Text_3 (t3, t6, t7, t8, ())) (roundK 0 lp_S_l1Text_3) = b_S_l1Text_3 t3 t6 t7 t8 := by kernel_rfl
theorem ef_S_l1Text (t0 : PV S_string) : denF cx_S_l1Text 0 pl_S_l1Text Try.f120.ntmps (bodyOf Try.f120) Try.f120.results.toList [(.bor, S_string)] [(.str, .b)] (t0, ()) = f_S_l1Text t0 := by kernel_rfl
theorem ok_S_l1Text : FnOk gl Try.prog 120 ct_S_l1Text :=
  fnOk (cx := cx_S_l1Text) (pl := pl_S_l1Text) (dp := 0) (ok0_of tabOk (by unfold ArrOk; kernel_rfl) mix trivial trivial) Try.func120 (by kernel_rfl) (by kernel_rfl) (by kernel_rfl)
    (by rw [show loopsOf (bodyOf Try.f120) = [((loopsOf (bodyOf Try.f120)).getD 0 .skip)] from by kernel_rfl]; exact ⟨(by rw [show lookup pl_S_l1Text.loops (firstId ((loopsOf (bodyOf Try.f120)).getD 0 .skip)) = some lp_S_l1Text_3 from by kernel_rfl]; exact fun d z h => (eb_S_l1Text_3 d.1 d.2.1 d.2.2.1 d.2.2.2.1).trans h), trivial⟩) (fun x => ef_S_l1Text x.1)
noncomputable def o_S_l11Full_3 : List Out := [⟨.normal, ⟨[], [3, 12], []⟩, mkSh 16 [(3, .val .str .b), (12, .val .bool .b)]⟩]
noncomputable def o_S_l11Full_4 : List Out := [⟨.normal, ⟨[], [3], []⟩, mkSh 16 [(3, .val .str .b)]⟩]
noncomputable def pl_S_l11Full : Plan := ⟨[(3, o_S_l11Full_3), (4, o_S_l11Full_4)], [], 0, 0⟩
noncomputable def f_S_l11Full (t0 : PV S_string) : Option (PVs [.str] × PVs []) :=
  (f_S_l1Text t0).bind fun r2 =>
    ((
        ((
            bif (!(r2.1.1 == [])) then
              (f_S_l1Ends r2.1.1).bind fun r6 =>
                some (r2.1.1, (!r6.1.1), ())
            else
              some (r2.1.1, false, ()) : Option ((PV .str × PV .bool × Unit)))).bind fun j7 =>
          bif j7.2.1 then
            bif decide (j7.1.length + [10].length ≤ 1099511627776) then
              some ((j7.1 ++ [10]), ())
            else
              none
          else
            some (j7.1, ()) : Option ((PV .str × Unit)))).bind fun j8 =>
      some ((j8.1, ()), ())
noncomputable def ct_S_l11Full : Ct := ⟨[(.bor, S_string)], [(.str, .b)], fun x => f_S_l11Full x.1⟩
noncomputable def cx_S_l11Full : Cx := ⟨tab, arrs, [(120, ct_S_l1Text), (154, ct_S_l1Ends)], [], gl, []⟩
theorem ef_S_l11Full (t0 : PV S_string) : denF cx_S_l11Full 0 pl_S_l11Full Try.f119.ntmps (bodyOf Try.f119) Try.f119.results.toList [(.bor, S_string)] [(.str, .b)] (t0, ()) = f_S_l11Full t0 := by kernel_rfl
theorem ok_S_l11Full : FnOk gl Try.prog 119 ct_S_l11Full :=
  fnOk (cx := cx_S_l11Full) (pl := pl_S_l11Full) (dp := 0) (ok0_of tabOk (by unfold ArrOk; kernel_rfl) mix ⟨ok_S_l1Text, ok_S_l1Ends, trivial⟩ trivial) Try.func119 (by kernel_rfl) (by kernel_rfl) (by kernel_rfl)
    (by rw [show loopsOf (bodyOf Try.f119) = [] from by kernel_rfl]; exact trivial) (fun x => ef_S_l11Full x.1)
noncomputable def o_S_MarkedText_10 : List Out := [⟨.normal, ⟨[], [8, 19, 20, 21], []⟩, mkSh 47 [(8, .val .str .b), (19, .val S_impl_Part .b), (20, .val (.int .i64) .b), (21, .val (.int .i64) .b)]⟩]
noncomputable def sh_S_MarkedText_5 : List Sh := mkSh 47 [(8, .val .str .b), (19, .val S_impl_Part .b), (20, .val (.int .i64) .b), (21, .val (.int .i64) .b)]
noncomputable def o_S_MarkedText_5 : List Out := [⟨.exit 0, ⟨[], [8], []⟩, mkSh 47 [(8, .val .str .b)]⟩]
noncomputable def b_S_MarkedText_5 (t8 : PV .str) (t19 : PV S_impl_Part) (t20 : PV (.int .i64)) (t21 : PV (.int .i64)) : Option ((PV .str × PV S_impl_Part × PV (.int .i64) × PV (.int .i64) × Unit) ⊕ ((PV .str × Unit))) :=
  bif (decide (t21 < t20)) then
    ((
        bif inB t21 t19.length then
          bif (((t19.getD t21.toNat (dflt Y_impl_Part)).1) == 5) then
            (f_S_l11Full (((((t19.getD t21.toNat (dflt Y_impl_Part)).2).2).2).1)).bind fun r7 =>
              bif decide ([60, 60, 60, 10].length + r7.1.1.length ≤ 1099511627776) then
                bif decide (([60, 60, 60, 10] ++ r7.1.1).length + [61, 61, 61, 10].length ≤ 1099511627776) then
                  (f_S_l11Full ((((((t19.getD t21.toNat (dflt Y_impl_Part)).2).2).2).2).1)).bind fun r8 =>
                    bif decide ((([60, 60, 60, 10] ++ r7.1.1) ++ [61, 61, 61, 10]).length + r8.1.1.length ≤ 1099511627776) then
                      bif decide (((([60, 60, 60, 10] ++ r7.1.1) ++ [61, 61, 61, 10]) ++ r8.1.1).length + [62, 62, 62, 10].length ≤ 1099511627776) then
                        bif decide (t8.length + (((([60, 60, 60, 10] ++ r7.1.1) ++ [61, 61, 61, 10]) ++ r8.1.1) ++ [62, 62, 62, 10]).length ≤ 1099511627776) then
                          some ((t8 ++ (((([60, 60, 60, 10] ++ r7.1.1) ++ [61, 61, 61, 10]) ++ r8.1.1) ++ [62, 62, 62, 10])), t19, t20, t21, ())
                        else
                          none
                      else
                        none
                    else
                      none
                else
                  none
              else
                none
          else
            (f_S_l11Taken (t19.getD t21.toNat (dflt Y_impl_Part))).bind fun r9 =>
              (f_S_l1Text r9.1.1).bind fun r10 =>
                bif decide (t8.length + r10.1.1.length ≤ 1099511627776) then
                  some ((t8 ++ r10.1.1), t19, t20, t21, ())
                else
                  none
        else
          none : Option ((PV .str × PV S_impl_Part × PV (.int .i64) × PV (.int .i64) × Unit)))).bind fun j11 =>
      some (.inl (j11.1, j11.2.1, j11.2.2.1, (IntKind.wrap .i64 (j11.2.2.2.1 + 1)), ()))
  else
    some (.inr (t8, ()))
noncomputable def w_S_MarkedText_5 : PV .str × PV S_impl_Part × PV (.int .i64) × PV (.int .i64) × Unit → Option ((PV .str × Unit)) := fix fun d => b_S_MarkedText_5 d.1 d.2.1 d.2.2.1 d.2.2.2.1
noncomputable def lp_S_MarkedText_5 : Lp := ⟨⟨[], [8, 19, 20, 21], []⟩, sh_S_MarkedText_5, o_S_MarkedText_5, fun d => b_S_MarkedText_5 d.1 d.2.1 d.2.2.1 d.2.2.2.1⟩
noncomputable def pl_S_MarkedText : Plan := ⟨[(10, o_S_MarkedText_10)], [(5, lp_S_MarkedText_5)], 0, 0⟩
noncomputable def f_S_MarkedText (t0 : PV S_string) (t1 : PV S_string) (t2 : PV S_string) : Option (PVs [.str, .bool] × PVs []) :=
  (f_S_l11Three t0 t1 t2).bind fun r4 =>
    bif (!r4.1.1) then
      some (([], false, ()), ())
    else
      (f_S_l11Parts t0 t1 t2).bind fun r14 =>
        (w_S_MarkedText_5 ([], r14.1.1, (r14.1.1.length : Int), 0, ())).bind fun l15 =>
          some ((l15.1, true, ()), ())
noncomputable def ct_S_MarkedText : Ct := ⟨[(.bor, S_string), (.bor, S_string), (.bor, S_string)], [(.str, .b), (.bool, .b)], fun x => f_S_MarkedText x.1 x.2.1 x.2.2.1⟩
noncomputable def cx_S_MarkedText : Cx := ⟨tab, arrs, [(101, ct_S_l11Three), (102, ct_S_l11Parts), (114, ct_S_l11Taken), (119, ct_S_l11Full), (120, ct_S_l1Text)], [], gl, []⟩
theorem eb_S_MarkedText_5 (t8 : PV .str) (t19 : PV S_impl_Part) (t20 : PV (.int .i64)) (t21 : PV (.int .i64)) : denK cx_S_MarkedText (rcN cx_S_MarkedText 0) pl_S_MarkedText 0 ((loopsOf (bodyOf Try.f53)).getD 0 .skip) (fillS sh_S_MarkedText_5 (t8, t19, t20, t21, ())) (roundK 0 lp_S_MarkedText_5) = b_S_MarkedText_5 t8 t19 t20 t21 := by kernel_rfl
theorem ef_S_MarkedText (t0 : PV S_string) (t1 : PV S_string) (t2 : PV S_string) : denF cx_S_MarkedText 0 pl_S_MarkedText Try.f53.ntmps (bodyOf Try.f53) Try.f53.results.toList [(.bor, S_string), (.bor, S_string), (.bor, S_string)] [(.str, .b), (.bool, .b)] (t0, t1, t2, ()) = f_S_MarkedText t0 t1 t2 := by kernel_rfl
theorem ok_S_MarkedText : FnOk gl Try.prog 53 ct_S_MarkedText :=
  fnOk (cx := cx_S_MarkedText) (pl := pl_S_MarkedText) (dp := 0) (ok0_of tabOk (by unfold ArrOk; kernel_rfl) mix ⟨ok_S_l11Three, ok_S_l11Parts, ok_S_l11Taken, ok_S_l11Full, ok_S_l1Text, trivial⟩ trivial) Try.func53 (by kernel_rfl) (by kernel_rfl) (by kernel_rfl)
    (by rw [show loopsOf (bodyOf Try.f53) = [((loopsOf (bodyOf Try.f53)).getD 0 .skip)] from by kernel_rfl]; exact ⟨(by rw [show lookup pl_S_MarkedText.loops (firstId ((loopsOf (bodyOf Try.f53)).getD 0 .skip)) = some lp_S_MarkedText_5 from by kernel_rfl]; exact fun d z h => (eb_S_MarkedText_5 d.1 d.2.1 d.2.2.1 d.2.2.2.1).trans h), trivial⟩) (fun x => ef_S_MarkedText x.1 x.2.1 x.2.2.1)
noncomputable def o_L_FnMerged_8 : List Out := [⟨.normal, ⟨[], [1, 5, 6, 7, 8, 9, 82, 120, 121, 122, 123, 126, 127, 130, 131, 132, 133, 136, 137, 140, 141, 142, 143, 144, 147, 148, 159, 160, 161, 187, 188, 189], []⟩, mkSh 191 [(1, .val S_uint8 .b), (5, .val S_string .b), (6, .val S_string .b), (7, .val S_string .b), (8, .val S_string (.row .b)), (9, .val .bool .b), (82, .val .bool .b)]⟩]
noncomputable def o_L_FnMerged_16 : List Out := [⟨.normal, ⟨[], [1, 8, 9, 22, 149, 159, 160, 161, 187, 188, 189], []⟩, mkSh 191 [(1, .val S_uint8 .b), (8, .val S_string (.row .b)), (9, .val .bool .b), (22, .val .str .b), (149, .val .bool .b)]⟩]
noncomputable def o_L_FnMerged_20 : List Out := [⟨.normal, ⟨[], [1, 162, 187, 188, 189], []⟩, mkSh 191 [(1, .val S_uint8 .b), (162, .val .bool .b)]⟩]
noncomputable def o_L_FnMerged_21 : List Out := [⟨.normal, ⟨[], [1, 187, 188, 189], []⟩, mkSh 191 [(1, .val S_uint8 .b)]⟩, ⟨.ret, ⟨[], [4], []⟩, mkSh 191 [(4, .val .bool .b)]⟩]
noncomputable def pl_L_FnMerged : Plan := ⟨[(8, o_L_FnMerged_8), (16, o_L_FnMerged_16), (20, o_L_FnMerged_20), (21, o_L_FnMerged_21)], [], 0, 0⟩
noncomputable def f_L_FnMerged (t0 : PV S_uint8) (t1 : PV S_uint8) : Option (PVs [.bool] × PVs []) :=
  (f_L_big t0 t1).bind fun r4 =>
    bif r4.1.1 then
      some ((true, ()), ())
    else
      (f_S_DrawMerge t0).bind fun r6 =>
        (f_I_Merge r6.1.1 r6.1.2.1 r6.1.2.2.1).bind fun r8 =>
          (f_S_Merge r6.1.1 r6.1.2.1 r6.1.2.2.1).bind fun r10 =>
            (f_I_Merge r6.1.1 r6.1.2.2.1 r6.1.2.1).bind fun r12 =>
              ((
                  bif (!(r8.1.2.1 == r10.1.2.1)) then
                    some (t1, r6.1.1, r6.1.2.1, r6.1.2.2.1, r8.1.1, r8.1.2.1, true, ())
                  else
                    (f_L_sameTexts r8.1.1 r10.1.1).bind fun r18 =>
                      bif (!r18.1.1) then
                        some (t1, r6.1.1, r6.1.2.1, r6.1.2.2.1, r8.1.1, r8.1.2.1, true, ())
                      else
                        bif (!(r12.1.2.1 == r8.1.2.1)) then
                          some (t1, r6.1.1, r6.1.2.1, r6.1.2.2.1, r8.1.1, r8.1.2.1, true, ())
                        else
                          (f_L_sameTexts r12.1.1 r8.1.1).bind fun r19 =>
                            some (t1, r6.1.1, r6.1.2.1, r6.1.2.2.1, r8.1.1, r8.1.2.1, (!r19.1.1), ()) : Option ((PV S_uint8 × PV S_string × PV S_string × PV S_string × PV S_string × PV .bool × PV .bool × Unit)))).bind fun j20 =>
                bif j20.2.2.2.2.2.2.1 then
                  some ((false, ()), ())
                else
                  (f_I_PartsOf j20.2.1 j20.2.2.1 j20.2.2.2.1).bind fun r22 =>
                    ((
                        bif r22.1.2.1 then
                          (f_I_Merge j20.2.1 j20.2.2.1 j20.2.1).bind fun r43 =>
                            (f_I_Merge j20.2.1 j20.2.2.1 j20.2.2.1).bind fun r45 =>
                              (f_I_ClashesIn r22.1.1).bind fun r47 =>
                                (f_I_MarkedText j20.2.1 j20.2.2.1 j20.2.2.2.1).bind fun r49 =>
                                  ((
                                      bif (!r43.1.2.1) then
                                        some (j20.1, j20.2.2.2.2.1, j20.2.2.2.2.2.1, r49.1.1, true, ())
                                      else
                                        (f_L_sameTexts r43.1.1 j20.2.2.1).bind fun r53 =>
                                          bif (!r53.1.1) then
                                            some (j20.1, j20.2.2.2.2.1, j20.2.2.2.2.2.1, r49.1.1, true, ())
                                          else
                                            bif (!r45.1.2.1) then
                                              some (j20.1, j20.2.2.2.2.1, j20.2.2.2.2.2.1, r49.1.1, true, ())
                                            else
                                              (f_L_sameTexts r45.1.1 j20.2.2.1).bind fun r54 =>
                                                bif (!r54.1.1) then
                                                  some (j20.1, j20.2.2.2.2.1, j20.2.2.2.2.2.1, r49.1.1, true, ())
                                                else
                                                  bif (!r47.1.2.1) then
                                                    some (j20.1, j20.2.2.2.2.1, j20.2.2.2.2.2.1, r49.1.1, true, ())
                                                  else
                                                    bif j20.2.2.2.2.2.1 then
                                                      bif (decide (r47.1.1 > 0)) then
                                                        some (j20.1, j20.2.2.2.2.1, j20.2.2.2.2.2.1, r49.1.1, true, ())
                                                      else
                                                        some (j20.1, j20.2.2.2.2.1, j20.2.2.2.2.2.1, r49.1.1, (!r49.1.2.1), ())
                                                    else
                                                      some (j20.1, j20.2.2.2.2.1, j20.2.2.2.2.2.1, r49.1.1, (!r49.1.2.1), ()) : Option ((PV S_uint8 × PV S_string × PV .bool × PV .str × PV .bool × Unit)))).bind fun j55 =>
                                    bif j55.2.2.2.2.1 then
                                      some (.inr (false, ()))
                                    else
                                      bif j55.2.2.1 then
                                        (f_I_TextOf j55.2.1).bind fun r57 =>
                                          ((
                                              bif (!r57.1.2.1) then
                                                some (j55.1, true, ())
                                              else
                                                some (j55.1, (!(r57.1.1 == j55.2.2.2.1)), ()) : Option ((PV S_uint8 × PV .bool × Unit)))).bind fun j58 =>
                                            bif j58.2.1 then
                                              some (.inr (false, ()))
                                            else
                                              some (.inl (j58.1, ()))
                                      else
                                        some (.inl (j55.1, ()))
                        else
                          some (.inl (j20.1, ())) : Option ((PV S_uint8 × Unit) ⊕ (PV .bool × Unit)))).bind fun x67 =>
                      match x67 with
                      | .inl j59 =>
                        (f_S_DrawMarkedText j59.1).bind fun r61 =>
                          (f_I_MarkedText r61.1.1 r61.1.2.1 r61.1.2.2.1).bind fun r63 =>
                            (f_S_MarkedText r61.1.1 r61.1.2.1 r61.1.2.2.1).bind fun r65 =>
                              bif (r63.1.2.1 == r65.1.2.1) then
                                some (((r63.1.1 == r65.1.1), ()), ())
                              else
                                some ((false, ()), ())
                      | .inr j66 =>
                        some ((j66.1, ()), ())
noncomputable def ct_L_FnMerged : Ct := ⟨[(.bor, S_uint8), (.bor, S_uint8)], [(.bool, .b)], fun x => f_L_FnMerged x.1 x.2.1⟩
noncomputable def cx_L_FnMerged : Cx := ⟨tab, arrs, [(31, ct_L_big), (33, ct_I_PartsOf), (39, ct_L_sameTexts), (44, ct_I_ClashesIn), (47, ct_S_DrawMerge), (48, ct_I_Merge), (49, ct_S_Merge), (50, ct_I_MarkedText), (51, ct_I_TextOf), (52, ct_S_DrawMarkedText), (53, ct_S_MarkedText)], [], gl, []⟩
theorem ef_L_FnMerged (t0 : PV S_uint8) (t1 : PV S_uint8) : denF cx_L_FnMerged 0 pl_L_FnMerged Try.f7.ntmps (bodyOf Try.f7) Try.f7.results.toList [(.bor, S_uint8), (.bor, S_uint8)] [(.bool, .b)] (t0, t1, ()) = f_L_FnMerged t0 t1 := by kernel_rfl
theorem ok_L_FnMerged : FnOk gl Try.prog 7 ct_L_FnMerged :=
  fnOk (cx := cx_L_FnMerged) (pl := pl_L_FnMerged) (dp := 0) (ok0_of tabOk (by unfold ArrOk; kernel_rfl) mix ⟨ok_L_big, ok_I_PartsOf, ok_L_sameTexts, ok_I_ClashesIn, ok_S_DrawMerge, ok_I_Merge, ok_S_Merge, ok_I_MarkedText, ok_I_TextOf, ok_S_DrawMarkedText, ok_S_MarkedText, trivial⟩ trivial) Try.func7 (by kernel_rfl) (by kernel_rfl) (by kernel_rfl)
    (by rw [show loopsOf (bodyOf Try.f7) = [] from by kernel_rfl]; exact trivial) (fun x => ef_L_FnMerged x.1 x.2.1)
end R
