/- The functions, part 2. -/
import Derived.Test.YtifjjdpgheoogaaPaQ1
open Go Go.Dn Go.Proofs
namespace R
set_option linter.unusedVariables false
set_option maxRecDepth 20000
open Go.Shelf
noncomputable def o_S_l3Pairs_13 : List Out := [⟨.normal, ⟨[], [0, 1, 5, 6, 7, 8, 9, 10, 11, 12, 72], []⟩, mkSh 86 [(0, .val S_string .b), (1, .val S_string .b), (5, .val S_S_int (.row (.row .b))), (6, .val S__2_int (.row (.pr .b (.pr .b .b)))), (7, .val (.int .i64) .b), (8, .val (.int .i64) .b), (9, .val (.int .i64) .b), (10, .val (.int .i64) .b), (11, .val (.int .i64) .b), (12, .val (.int .i64) .b), (72, .val .bool .b)]⟩]
noncomputable def o_S_l3Pairs_11 : List Out := [⟨.normal, ⟨[], [0, 1, 5, 6, 7, 8, 9, 10, 11, 12, 54, 55, 56, 57, 58, 59, 60, 61, 62, 63, 64, 65, 66, 67, 68, 69, 70, 71], []⟩, mkSh 86 [(0, .val S_string .b), (1, .val S_string .b), (5, .val S_S_int (.row (.row .b))), (6, .val S__2_int (.row (.pr .b (.pr .b .b)))), (7, .val (.int .i64) .b), (8, .val (.int .i64) .b), (9, .val (.int .i64) .b), (10, .val (.int .i64) .b), (11, .val (.int .i64) .b), (12, .val (.int .i64) .b)]⟩]
noncomputable def sh_S_l3Pairs_10 : List Sh := mkSh 86 [(0, .val S_string .b), (1, .val S_string .b), (5, .val S_S_int (.row (.row .b))), (6, .val S__2_int (.row (.pr .b (.pr .b .b)))), (7, .val (.int .i64) .b), (8, .val (.int .i64) .b), (9, .val (.int .i64) .b), (10, .val (.int .i64) .b), (11, .val (.int .i64) .b), (12, .val (.int .i64) .b)]
noncomputable def o_S_l3Pairs_10 : List Out := [⟨.exit 4, ⟨[], [0, 1, 5, 6, 7, 8, 9, 10, 11, 54, 55, 56, 57, 58, 59, 60, 61, 62, 63, 64, 65, 66, 67, 68, 69, 70, 71], []⟩, mkSh 86 [(0, .val S_string .b), (1, .val S_string .b), (5, .val S_S_int (.row (.row .b))), (6, .val S__2_int (.row (.pr .b (.pr .b .b)))), (7, .val (.int .i64) .b), (8, .val (.int .i64) .b), (9, .val (.int .i64) .b), (10, .val (.int .i64) .b), (11, .val (.int .i64) .b)]⟩]
noncomputable def b_S_l3Pairs_10 (t0 : PV S_string) (t1 : PV S_string) (t5 : PV S_S_int) (t6 : PV S__2_int) (t7 : PV (.int .i64)) (t8 : PV (.int .i64)) (t9 : PV (.int .i64)) (t10 : PV (.int .i64)) (t11 : PV (.int .i64)) (t12 : PV (.int .i64)) : Option ((PV S_string × PV S_string × PV S_S_int × PV S__2_int × PV (.int .i64) × PV (.int .i64) × PV (.int .i64) × PV (.int .i64) × PV (.int .i64) × PV (.int .i64) × Unit) ⊕ ((PV S_string × PV S_string × PV S_S_int × PV S__2_int × PV (.int .i64) × PV (.int .i64) × PV (.int .i64) × PV (.int .i64) × PV (.int .i64) × Unit))) :=
  bif (decide (t12 ≥ t8)) then
    ((
        ((
            bif inB t11 t0.length then
              bif inB t12 t1.length then
                bif ((t0.getD t11.toNat []) == (t1.getD t12.toNat [])) then
                  bif inB (IntKind.wrap .i64 (t11 + 1)) t5.length then
                    bif inB (IntKind.wrap .i64 (t12 + 1)) (t5.getD ((IntKind.wrap .i64 (t11 + 1)).toNat) []).length then
                      bif inB t7 t5.length then
                        bif inB t8 (t5.getD t7.toNat []).length then
                          some (t0, t1, t5, t6, t7, t8, t9, t10, t11, t12, ((IntKind.wrap .i64 (((t5.getD ((IntKind.wrap .i64 (t11 + 1)).toNat) []).getD ((IntKind.wrap .i64 (t12 + 1)).toNat) (0 : Int)) + 1)) == ((t5.getD t7.toNat []).getD t8.toNat (0 : Int))), ())
                        else
                          none
                      else
                        none
                    else
                      none
                  else
                    none
                else
                  some (t0, t1, t5, t6, t7, t8, t9, t10, t11, t12, false, ())
              else
                none
            else
              none : Option ((PV S_string × PV S_string × PV S_S_int × PV S__2_int × PV (.int .i64) × PV (.int .i64) × PV (.int .i64) × PV (.int .i64) × PV (.int .i64) × PV (.int .i64) × PV .bool × Unit)))).bind fun j3 =>
          bif j3.2.2.2.2.2.2.2.2.2.2.1 then
            some (j3.1, j3.2.1, j3.2.2.1, j3.2.2.2.1, j3.2.2.2.2.1, j3.2.2.2.2.2.1, j3.2.2.2.2.2.2.2.2.1, j3.2.2.2.2.2.2.2.2.2.1, j3.2.2.2.2.2.2.2.2.1, j3.2.2.2.2.2.2.2.2.2.1, ())
          else
            some (j3.1, j3.2.1, j3.2.2.1, j3.2.2.2.1, j3.2.2.2.2.1, j3.2.2.2.2.2.1, j3.2.2.2.2.2.2.1, j3.2.2.2.2.2.2.2.1, j3.2.2.2.2.2.2.2.2.1, j3.2.2.2.2.2.2.2.2.2.1, ()) : Option ((PV S_string × PV S_string × PV S_S_int × PV S__2_int × PV (.int .i64) × PV (.int .i64) × PV (.int .i64) × PV (.int .i64) × PV (.int .i64) × PV (.int .i64) × Unit)))).bind fun j4 =>
      some (.inl (j4.1, j4.2.1, j4.2.2.1, j4.2.2.2.1, j4.2.2.2.2.1, j4.2.2.2.2.2.1, j4.2.2.2.2.2.2.1, j4.2.2.2.2.2.2.2.1, j4.2.2.2.2.2.2.2.2.1, (IntKind.wrap .i64 (j4.2.2.2.2.2.2.2.2.2.1 - 1)), ()))
  else
    some (.inr (t0, t1, t5, t6, t7, t8, t9, t10, t11, ()))
noncomputable def w_S_l3Pairs_10 : PV S_string × PV S_string × PV S_S_int × PV S__2_int × PV (.int .i64) × PV (.int .i64) × PV (.int .i64) × PV (.int .i64) × PV (.int .i64) × PV (.int .i64) × Unit → Option ((PV S_string × PV S_string × PV S_S_int × PV S__2_int × PV (.int .i64) × PV (.int .i64) × PV (.int .i64) × PV (.int .i64) × PV (.int .i64) × Unit)) := fix fun d => b_S_l3Pairs_10 d.1 d.2.1 d.2.2.1 d.2.2.2.1 d.2.2.2.2.1 d.2.2.2.2.2.1 d.2.2.2.2.2.2.1 d.2.2.2.2.2.2.2.1 d.2.2.2.2.2.2.2.2.1 d.2.2.2.2.2.2.2.2.2.1
noncomputable def lp_S_l3Pairs_10 : Lp := ⟨⟨[], [0, 1, 5, 6, 7, 8, 9, 10, 11, 12, 54, 55, 56, 57, 58, 59, 60, 61, 62, 63, 64, 65, 66, 67, 68, 69, 70, 71], []⟩, sh_S_l3Pairs_10, o_S_l3Pairs_10, fun d => b_S_l3Pairs_10 d.1 d.2.1 d.2.2.1 d.2.2.2.1 d.2.2.2.2.1 d.2.2.2.2.2.1 d.2.2.2.2.2.2.1 d.2.2.2.2.2.2.2.1 d.2.2.2.2.2.2.2.2.1 d.2.2.2.2.2.2.2.2.2.1⟩
noncomputable def sh_S_l3Pairs_7 : List Sh := mkSh 86 [(0, .val S_string .b), (1, .val S_string .b), (5, .val S_S_int (.row (.row .b))), (6, .val S__2_int (.row (.pr .b (.pr .b .b)))), (7, .val (.int .i64) .b), (8, .val (.int .i64) .b), (9, .val (.int .i64) .b), (10, .val (.int .i64) .b), (11, .val (.int .i64) .b)]
noncomputable def o_S_l3Pairs_7 : List Out := [⟨.exit 2, ⟨[], [0, 1, 5, 6, 9, 10, 54, 55, 56, 57, 58, 59, 60, 61, 62, 63, 64, 65, 66, 67, 68, 69, 70, 71], []⟩, mkSh 86 [(0, .val S_string .b), (1, .val S_string .b), (5, .val S_S_int (.row (.row .b))), (6, .val S__2_int (.row (.pr .b (.pr .b .b)))), (9, .val (.int .i64) .b), (10, .val (.int .i64) .b)]⟩]
noncomputable def b_S_l3Pairs_7 (t0 : PV S_string) (t1 : PV S_string) (t5 : PV S_S_int) (t6 : PV S__2_int) (t7 : PV (.int .i64)) (t8 : PV (.int .i64)) (t9 : PV (.int .i64)) (t10 : PV (.int .i64)) (t11 : PV (.int .i64)) : Option ((PV S_string × PV S_string × PV S_S_int × PV S__2_int × PV (.int .i64) × PV (.int .i64) × PV (.int .i64) × PV (.int .i64) × PV (.int .i64) × Unit) ⊕ ((PV S_string × PV S_string × PV S_S_int × PV S__2_int × PV (.int .i64) × PV (.int .i64) × Unit))) :=
  bif (decide (t11 ≥ t7)) then
    (w_S_l3Pairs_10 (t0, t1, t5, t6, t7, t8, t9, t10, t11, (IntKind.wrap .i64 ((t1.length : Int) - 1)), ())).bind fun l4 =>
      some (.inl (l4.1, l4.2.1, l4.2.2.1, l4.2.2.2.1, l4.2.2.2.2.1, l4.2.2.2.2.2.1, l4.2.2.2.2.2.2.1, l4.2.2.2.2.2.2.2.1, (IntKind.wrap .i64 (l4.2.2.2.2.2.2.2.2.1 - 1)), ()))
  else
    some (.inr (t0, t1, t5, t6, t9, t10, ()))
noncomputable def w_S_l3Pairs_7 : PV S_string × PV S_string × PV S_S_int × PV S__2_int × PV (.int .i64) × PV (.int .i64) × PV (.int .i64) × PV (.int .i64) × PV (.int .i64) × Unit → Option ((PV S_string × PV S_string × PV S_S_int × PV S__2_int × PV (.int .i64) × PV (.int .i64) × Unit)) := fix fun d => b_S_l3Pairs_7 d.1 d.2.1 d.2.2.1 d.2.2.2.1 d.2.2.2.2.1 d.2.2.2.2.2.1 d.2.2.2.2.2.2.1 d.2.2.2.2.2.2.2.1 d.2.2.2.2.2.2.2.2.1
noncomputable def lp_S_l3Pairs_7 : Lp := ⟨⟨[], [0, 1, 5, 6, 7, 8, 9, 10, 11, 54, 55, 56, 57, 58, 59, 60, 61, 62, 63, 64, 65, 66, 67, 68, 69, 70, 71], []⟩, sh_S_l3Pairs_7, o_S_l3Pairs_7, fun d => b_S_l3Pairs_7 d.1 d.2.1 d.2.2.1 d.2.2.2.1 d.2.2.2.2.1 d.2.2.2.2.2.1 d.2.2.2.2.2.2.1 d.2.2.2.2.2.2.2.1 d.2.2.2.2.2.2.2.2.1⟩
noncomputable def sh_S_l3Pairs_4 : List Sh := mkSh 86 [(0, .val S_string .b), (1, .val S_string .b), (5, .val S_S_int (.row (.row .b))), (6, .val S__2_int (.row (.pr .b (.pr .b .b)))), (7, .val (.int .i64) .b), (8, .val (.int .i64) .b)]
noncomputable def o_S_l3Pairs_4 : List Out := [⟨.exit 0, ⟨[], [6], []⟩, mkSh 86 [(6, .val S__2_int (.row (.pr .b (.pr .b .b))))]⟩]
noncomputable def b_S_l3Pairs_4 (t0 : PV S_string) (t1 : PV S_string) (t5 : PV S_S_int) (t6 : PV S__2_int) (t7 : PV (.int .i64)) (t8 : PV (.int .i64)) : Option ((PV S_string × PV S_string × PV S_S_int × PV S__2_int × PV (.int .i64) × PV (.int .i64) × Unit) ⊕ ((PV S__2_int × Unit))) :=
  bif inB t7 t5.length then
    bif inB t8 (t5.getD t7.toNat []).length then
      bif (decide (((t5.getD t7.toNat []).getD t8.toNat (0 : Int)) > 0)) then
        (w_S_l3Pairs_7 (t0, t1, t5, t6, t7, t8, (t0.length : Int), (t1.length : Int), (IntKind.wrap .i64 ((t0.length : Int) - 1)), ())).bind fun l4 =>
          bif roomB (l4.2.2.2.1.length + [(l4.2.2.2.2.1, (l4.2.2.2.2.2.1, ()))].length) then
            some (.inl (l4.1, l4.2.1, l4.2.2.1, (l4.2.2.2.1 ++ [(l4.2.2.2.2.1, (l4.2.2.2.2.2.1, ()))]), (IntKind.wrap .i64 (l4.2.2.2.2.1 + 1)), (IntKind.wrap .i64 (l4.2.2.2.2.2.1 + 1)), ()))
          else
            none
      else
        some (.inr (t6, ()))
    else
      none
  else
    none
noncomputable def w_S_l3Pairs_4 : PV S_string × PV S_string × PV S_S_int × PV S__2_int × PV (.int .i64) × PV (.int .i64) × Unit → Option ((PV S__2_int × Unit)) := fix fun d => b_S_l3Pairs_4 d.1 d.2.1 d.2.2.1 d.2.2.2.1 d.2.2.2.2.1 d.2.2.2.2.2.1
noncomputable def lp_S_l3Pairs_4 : Lp := ⟨⟨[], [0, 1, 5, 6, 7, 8, 54, 55, 56, 57, 58, 59, 60, 61, 62, 63, 64, 65, 66, 67, 68, 69, 70, 71], []⟩, sh_S_l3Pairs_4, o_S_l3Pairs_4, fun d => b_S_l3Pairs_4 d.1 d.2.1 d.2.2.1 d.2.2.2.1 d.2.2.2.2.1 d.2.2.2.2.2.1⟩
noncomputable def pl_S_l3Pairs : Plan := ⟨[(13, o_S_l3Pairs_13), (11, o_S_l3Pairs_11)], [(10, lp_S_l3Pairs_10), (7, lp_S_l3Pairs_7), (4, lp_S_l3Pairs_4)], 0, 0⟩
noncomputable def f_S_l3Pairs (t0 : PV S_string) (t1 : PV S_string) : Option (PVs [S__2_int] × PVs []) :=
  (f_S_l3Table t0 t1).bind fun r2 =>
    (w_S_l3Pairs_4 (t0, t1, r2.1.1, [], 0, 0, ())).bind fun l6 =>
      some ((l6.1, ()), ())
noncomputable def ct_S_l3Pairs : Ct := ⟨[(.bor, S_string), (.bor, S_string)], [(S__2_int, (.row (.pr .b (.pr .b .b))))], fun x => f_S_l3Pairs x.1 x.2.1⟩
noncomputable def cx_S_l3Pairs : Cx := ⟨tab, arrs, [(221, ct_S_l3Table)], [], gl, []⟩
theorem eb_S_l3Pairs_4 (t0 : PV S_string) (t1 : PV S_string) (t5 : PV S_S_int) (t6 : PV S__2_int) (t7 : PV (.int .i64)) (t8 : PV (.int .i64)) : denK cx_S_l3Pairs (rcN cx_S_l3Pairs 0) pl_S_l3Pairs 0 ((loopsOf (bodyOf Try.f204)).getD 0 .skip) (fillS sh_S_l3Pairs_4 (t0, t1, t5, t6, t7, t8, ())) (roundK 0 lp_S_l3Pairs_4) = b_S_l3Pairs_4 t0 t1 t5 t6 t7 t8 := by kernel_rfl
theorem eb_S_l3Pairs_7 (t0 : PV S_string) (t1 : PV S_string) (t5 : PV S_S_int) (t6 : PV S__2_int) (t7 : PV (.int .i64)) (t8 : PV (.int .i64)) (t9 : PV (.int .i64)) (t10 : PV (.int .i64)) (t11 : PV (.int .i64)) : denK cx_S_l3Pairs (rcN cx_S_l3Pairs 0) pl_S_l3Pairs 0 ((loopsOf (bodyOf Try.f204)).getD 1 .skip) (fillS sh_S_l3Pairs_7 (t0, t1, t5, t6, t7, t8, t9, t10, t11, ())) (roundK 0 lp_S_l3Pairs_7) = b_S_l3Pairs_7 t0 t1 t5 t6 t7 t8 t9 t10 t11 := by kernel_rfl
theorem eb_S_l3Pairs_10 (t0 : PV S_string) (t1 : PV S_string) (t5 : PV S_S_int) (t6 : PV S__2_int) (t7 : PV (.int .i64)) (t8 : PV (.int .i64)) (t9 : PV (.int .i64)) (t10 : PV (.int .i64)) (t11 : PV (.int .i64)) (t12 : PV (.int .i64)) : denK cx_S_l3Pairs (rcN cx_S_l3Pairs 0) pl_S_l3Pairs 0 ((loopsOf (bodyOf Try.f204)).getD 2 .skip) (fillS sh_S_l3Pairs_10 (t0, t1, t5, t6, t7, t8, t9, t10, t11, t12, ())) (roundK 0 lp_S_l3Pairs_10) = b_S_l3Pairs_10 t0 t1 t5 t6 t7 t8 t9 t10 t11 t12 := by kernel_rfl
theorem ef_S_l3Pairs (t0 : PV S_string) (t1 : PV S_string) : denF cx_S_l3Pairs 0 pl_S_l3Pairs Try.f204.ntmps (bodyOf Try.f204) Try.f204.results.toList [(.bor, S_string), (.bor, S_string)] [(S__2_int, (.row (.pr .b (.pr .b .b))))] (t0, t1, ()) = f_S_l3Pairs t0 t1 := by kernel_rfl
theorem ok_S_l3Pairs : FnOk gl Try.prog 204 ct_S_l3Pairs :=
  fnOk (cx := cx_S_l3Pairs) (pl := pl_S_l3Pairs) (dp := 0) (ok0_of tabOk (by unfold ArrOk; kernel_rfl) mix ⟨ok_S_l3Table, trivial⟩ trivial) Try.func204 (by kernel_rfl) (by kernel_rfl) (by kernel_rfl)
    (by rw [show loopsOf (bodyOf Try.f204) = [((loopsOf (bodyOf Try.f204)).getD 0 .skip), ((loopsOf (bodyOf Try.f204)).getD 1 .skip), ((loopsOf (bodyOf Try.f204)).getD 2 .skip)] from by kernel_rfl]; exact ⟨(by rw [show lookup pl_S_l3Pairs.loops (firstId ((loopsOf (bodyOf Try.f204)).getD 0 .skip)) = some lp_S_l3Pairs_4 from by kernel_rfl]; exact fun d z h => (eb_S_l3Pairs_4 d.1 d.2.1 d.2.2.1 d.2.2.2.1 d.2.2.2.2.1 d.2.2.2.2.2.1).trans h), (by rw [show lookup pl_S_l3Pairs.loops (firstId ((loopsOf (bodyOf Try.f204)).getD 1 .skip)) = some lp_S_l3Pairs_7 from by kernel_rfl]; exact fun d z h => (eb_S_l3Pairs_7 d.1 d.2.1 d.2.2.1 d.2.2.2.1 d.2.2.2.2.1 d.2.2.2.2.2.1 d.2.2.2.2.2.2.1 d.2.2.2.2.2.2.2.1 d.2.2.2.2.2.2.2.2.1).trans h), (by rw [show lookup pl_S_l3Pairs.loops (firstId ((loopsOf (bodyOf Try.f204)).getD 2 .skip)) = some lp_S_l3Pairs_10 from by kernel_rfl]; exact fun d z h => (eb_S_l3Pairs_10 d.1 d.2.1 d.2.2.1 d.2.2.2.1 d.2.2.2.2.1 d.2.2.2.2.2.1 d.2.2.2.2.2.2.1 d.2.2.2.2.2.2.2.1 d.2.2.2.2.2.2.2.2.1 d.2.2.2.2.2.2.2.2.2.1).trans h), trivial⟩) (fun x => ef_S_l3Pairs x.1 x.2.1)
noncomputable def o_S_l11Stand_21 : List Out := [⟨.normal, ⟨[], [7, 13, 14, 60, 61, 62, 74], []⟩, mkSh 81 [(7, .val S__2_int (.row (.pr .b (.pr .b .b)))), (13, .val (.int .i64) .b), (14, .var Y__2_int .b), (60, .sub ⟨7, [], 0, 0⟩), (61, .val (.int .i64) .b), (62, .val (.int .i64) .b), (74, .val .bool .b)]⟩]
noncomputable def o_S_l11Stand_22 : List Out := [⟨.normal, ⟨[], [7, 60, 61, 62, 71, 72, 73], []⟩, mkSh 81 [(7, .val S__2_int (.row (.pr .b (.pr .b .b)))), (60, .sub ⟨7, [], 0, 0⟩), (61, .val (.int .i64) .b), (62, .val (.int .i64) .b)]⟩]
noncomputable def sh_S_l11Stand_3 : List Sh := mkSh 81 [(0, .val S_string .b), (1, .val S_string .b), (2, .val S_string .b), (7, .val S__2_int (.row (.pr .b (.pr .b .b)))), (19, .val (.int .i64) .b), (20, .val (.int .i64) .b)]
noncomputable def o_S_l11Stand_3 : List Out := [⟨.exit 0, ⟨[], [0, 1, 2, 7, 71, 72, 73], []⟩, mkSh 81 [(0, .val S_string .b), (1, .val S_string .b), (2, .val S_string .b), (7, .val S__2_int (.row (.pr .b (.pr .b .b))))]⟩]
noncomputable def b_S_l11Stand_3 (t0 : PV S_string) (t1 : PV S_string) (t2 : PV S_string) (t7 : PV S__2_int) (t19 : PV (.int .i64)) (t20 : PV (.int .i64)) : Option ((PV S_string × PV S_string × PV S_string × PV S__2_int × PV (.int .i64) × PV (.int .i64) × Unit) ⊕ ((PV S_string × PV S_string × PV S_string × PV S__2_int × Unit))) :=
  bif (decide (t20 < t19)) then
    bif inB t20 t7.length then
      some (.inl (t0, t1, t2, (t7.set t20.toNat ((-1), ((-1), ()))), t19, (IntKind.wrap .i64 (t20 + 1)), ()))
    else
      none
  else
    some (.inr (t0, t1, t2, t7, ()))
noncomputable def w_S_l11Stand_3 : PV S_string × PV S_string × PV S_string × PV S__2_int × PV (.int .i64) × PV (.int .i64) × Unit → Option ((PV S_string × PV S_string × PV S_string × PV S__2_int × Unit)) := fix fun d => b_S_l11Stand_3 d.1 d.2.1 d.2.2.1 d.2.2.2.1 d.2.2.2.2.1 d.2.2.2.2.2.1
noncomputable def lp_S_l11Stand_3 : Lp := ⟨⟨[], [0, 1, 2, 7, 19, 20, 71, 72, 73], []⟩, sh_S_l11Stand_3, o_S_l11Stand_3, fun d => b_S_l11Stand_3 d.1 d.2.1 d.2.2.1 d.2.2.2.1 d.2.2.2.2.1 d.2.2.2.2.2.1⟩
noncomputable def sh_S_l11Stand_8 : List Sh := mkSh 81 [(0, .val S_string .b), (2, .val S_string .b), (7, .val S__2_int (.row (.pr .b (.pr .b .b)))), (30, .val S__2_int (.row (.pr .b (.pr .b .b)))), (31, .val (.int .i64) .b), (32, .val (.int .i64) .b)]
noncomputable def o_S_l11Stand_8 : List Out := [⟨.exit 2, ⟨[], [0, 2, 7, 71, 72, 73], []⟩, mkSh 81 [(0, .val S_string .b), (2, .val S_string .b), (7, .val S__2_int (.row (.pr .b (.pr .b .b))))]⟩]
noncomputable def b_S_l11Stand_8 (t0 : PV S_string) (t2 : PV S_string) (t7 : PV S__2_int) (t30 : PV S__2_int) (t31 : PV (.int .i64)) (t32 : PV (.int .i64)) : Option ((PV S_string × PV S_string × PV S__2_int × PV S__2_int × PV (.int .i64) × PV (.int .i64) × Unit) ⊕ ((PV S_string × PV S_string × PV S__2_int × Unit))) :=
  bif (decide (t32 < t31)) then
    bif inB t32 t30.length then
      bif inB ((t30.getD t32.toNat (dflt Y__2_int)).1) t7.length then
        some (.inl (t0, t2, (t7.set (((t30.getD t32.toNat (dflt Y__2_int)).1).toNat) (((t30.getD t32.toNat (dflt Y__2_int)).2).1, (t7.getD (((t30.getD t32.toNat (dflt Y__2_int)).1).toNat) (dflt Y__2_int)).2)), t30, t31, (IntKind.wrap .i64 (t32 + 1)), ()))
      else
        none
    else
      none
  else
    some (.inr (t0, t2, t7, ()))
noncomputable def w_S_l11Stand_8 : PV S_string × PV S_string × PV S__2_int × PV S__2_int × PV (.int .i64) × PV (.int .i64) × Unit → Option ((PV S_string × PV S_string × PV S__2_int × Unit)) := fix fun d => b_S_l11Stand_8 d.1 d.2.1 d.2.2.1 d.2.2.2.1 d.2.2.2.2.1 d.2.2.2.2.2.1
noncomputable def lp_S_l11Stand_8 : Lp := ⟨⟨[], [0, 2, 7, 30, 31, 32, 71, 72, 73], []⟩, sh_S_l11Stand_8, o_S_l11Stand_8, fun d => b_S_l11Stand_8 d.1 d.2.1 d.2.2.1 d.2.2.2.1 d.2.2.2.2.1 d.2.2.2.2.2.1⟩
noncomputable def sh_S_l11Stand_13 : List Sh := mkSh 81 [(7, .val S__2_int (.row (.pr .b (.pr .b .b)))), (46, .val S__2_int (.row (.pr .b (.pr .b .b)))), (47, .val (.int .i64) .b), (48, .val (.int .i64) .b)]
noncomputable def o_S_l11Stand_13 : List Out := [⟨.exit 4, ⟨[], [7, 71, 72, 73], []⟩, mkSh 81 [(7, .val S__2_int (.row (.pr .b (.pr .b .b))))]⟩]
noncomputable def b_S_l11Stand_13 (t7 : PV S__2_int) (t46 : PV S__2_int) (t47 : PV (.int .i64)) (t48 : PV (.int .i64)) : Option ((PV S__2_int × PV S__2_int × PV (.int .i64) × PV (.int .i64) × Unit) ⊕ ((PV S__2_int × Unit))) :=
  bif (decide (t48 < t47)) then
    bif inB t48 t46.length then
      bif inB ((t46.getD t48.toNat (dflt Y__2_int)).1) t7.length then
        some (.inl ((t7.set (((t46.getD t48.toNat (dflt Y__2_int)).1).toNat) ((t7.getD (((t46.getD t48.toNat (dflt Y__2_int)).1).toNat) (dflt Y__2_int)).1, (((t46.getD t48.toNat (dflt Y__2_int)).2).1, ((t7.getD (((t46.getD t48.toNat (dflt Y__2_int)).1).toNat) (dflt Y__2_int)).2).2))), t46, t47, (IntKind.wrap .i64 (t48 + 1)), ()))
      else
        none
    else
      none
  else
    some (.inr (t7, ()))
noncomputable def w_S_l11Stand_13 : PV S__2_int × PV S__2_int × PV (.int .i64) × PV (.int .i64) × Unit → Option ((PV S__2_int × Unit)) := fix fun d => b_S_l11Stand_13 d.1 d.2.1 d.2.2.1 d.2.2.2.1
noncomputable def lp_S_l11Stand_13 : Lp := ⟨⟨[], [7, 46, 47, 48, 71, 72, 73], []⟩, sh_S_l11Stand_13, o_S_l11Stand_13, fun d => b_S_l11Stand_13 d.1 d.2.1 d.2.2.1 d.2.2.2.1⟩
noncomputable def sh_S_l11Stand_18 : List Sh := mkSh 81 [(7, .val S__2_int (.row (.pr .b (.pr .b .b)))), (60, .sub ⟨7, [], 0, 0⟩), (61, .val (.int .i64) .b), (62, .val (.int .i64) .b)]
noncomputable def o_S_l11Stand_18 : List Out := [⟨.exit 6, ⟨[], [7], []⟩, mkSh 81 [(7, .val S__2_int (.row (.pr .b (.pr .b .b))))]⟩]
noncomputable def b_S_l11Stand_18 (t7 : PV S__2_int) (t61 : PV (.int .i64)) (t62 : PV (.int .i64)) : Option ((PV S__2_int × PV (.int .i64) × PV (.int .i64) × Unit) ⊕ ((PV S__2_int × Unit))) :=
  bif (decide (t62 < t61)) then
    ((
        bif inB t62 t7.length then
          ((
              bif (decide (((t7.getD t62.toNat (dflt Y__2_int)).1) < 0)) then
                some (t7, t62, (t7.getD t62.toNat (dflt Y__2_int)), t61, t62, true, ())
              else
                some (t7, t62, (t7.getD t62.toNat (dflt Y__2_int)), t61, t62, (decide ((((t7.getD t62.toNat (dflt Y__2_int)).2).1) < 0)), ()) : Option ((PV S__2_int × PV (.int .i64) × PV Y__2_int × PV (.int .i64) × PV (.int .i64) × PV .bool × Unit)))).bind fun j15 =>
            bif j15.2.2.2.2.2.1 then
              bif inB j15.2.1 j15.1.length then
                some ((j15.1.set j15.2.1.toNat ((-1), ((-1), ()))), j15.2.2.2.1, j15.2.2.2.2.1, ())
              else
                none
            else
              some (j15.1, j15.2.2.2.1, j15.2.2.2.2.1, ())
        else
          none : Option ((PV S__2_int × PV (.int .i64) × PV (.int .i64) × Unit)))).bind fun j16 =>
      some (.inl (j16.1, j16.2.1, (IntKind.wrap .i64 (j16.2.2.1 + 1)), ()))
  else
    some (.inr (t7, ()))
noncomputable def w_S_l11Stand_18 : PV S__2_int × PV (.int .i64) × PV (.int .i64) × Unit → Option ((PV S__2_int × Unit)) := fix fun d => b_S_l11Stand_18 d.1 d.2.1 d.2.2.1
noncomputable def lp_S_l11Stand_18 : Lp := ⟨⟨[], [7, 60, 61, 62, 71, 72, 73], []⟩, sh_S_l11Stand_18, o_S_l11Stand_18, fun d => b_S_l11Stand_18 d.1 d.2.1 d.2.2.1⟩
noncomputable def pl_S_l11Stand : Plan := ⟨[(21, o_S_l11Stand_21), (22, o_S_l11Stand_22)], [(3, lp_S_l11Stand_3), (8, lp_S_l11Stand_8), (13, lp_S_l11Stand_13), (18, lp_S_l11Stand_18)], 0, 0⟩
noncomputable def f_S_l11Stand (t0 : PV S_string) (t1 : PV S_string) (t2 : PV S_string) : Option (PVs [S__2_int] × PVs []) :=
  bif decide (0 ≤ (t0.length : Int)) && (decide ((t0.length : Int) ≤ (t0.length : Int)) && roomB (t0.length : Int).toNat) then
    (w_S_l11Stand_3 (t0, t1, t2, (List.replicate (t0.length : Int).toNat (dflt Y__2_int)), ((List.replicate (t0.length : Int).toNat (dflt Y__2_int)).length : Int), 0, ())).bind fun l2 =>
      (f_S_l3Pairs l2.1 l2.2.1).bind fun r7 =>
        (w_S_l11Stand_8 (l2.1, l2.2.2.1, l2.2.2.2.1, r7.1.1, (r7.1.1.length : Int), 0, ())).bind fun l8 =>
          (f_S_l3Pairs l8.1 l8.2.1).bind fun r13 =>
            (w_S_l11Stand_13 (l8.2.2.1, r13.1.1, (r13.1.1.length : Int), 0, ())).bind fun l14 =>
              (w_S_l11Stand_18 (l14.1, (l14.1.length : Int), 0, ())).bind fun l18 =>
                some ((l18.1, ()), ())
  else
    none
noncomputable def ct_S_l11Stand : Ct := ⟨[(.bor, S_string), (.bor, S_string), (.bor, S_string)], [(S__2_int, (.row (.pr .b (.pr .b .b))))], fun x => f_S_l11Stand x.1 x.2.1 x.2.2.1⟩
noncomputable def cx_S_l11Stand : Cx := ⟨tab, arrs, [(204, ct_S_l3Pairs)], [], gl, []⟩
theorem eb_S_l11Stand_3 (t0 : PV S_string) (t1 : PV S_string) (t2 : PV S_string) (t7 : PV S__2_int) (t19 : PV (.int .i64)) (t20 : PV (.int .i64)) : denK cx_S_l11Stand (rcN cx_S_l11Stand 0) pl_S_l11Stand 0 ((loopsOf (bodyOf Try.f166)).getD 0 .skip) (fillS sh_S_l11Stand_3 (t0, t1, t2, t7, t19, t20, ())) (roundK 0 lp_S_l11Stand_3) = b_S_l11Stand_3 t0 t1 t2 t7 t19 t20 := by kernel_rfl
theorem eb_S_l11Stand_8 (t0 : PV S_string) (t2 : PV S_string) (t7 : PV S__2_int) (t30 : PV S__2_int) (t31 : PV (.int .i64)) (t32 : PV (.int .i64)) : denK cx_S_l11Stand (rcN cx_S_l11Stand 0) pl_S_l11Stand 0 ((loopsOf (bodyOf Try.f166)).getD 1 .skip) (fillS sh_S_l11Stand_8 (t0, t2, t7, t30, t31, t32, ())) (roundK 0 lp_S_l11Stand_8) = b_S_l11Stand_8 t0 t2 t7 t30 t31 t32 := by kernel_rfl
theorem eb_S_l11Stand_13 (t7 : PV S__2_int) (t46 : PV S__2_int) (t47 : PV (.int .i64)) (t48 : PV (.int .i64)) : denK cx_S_l11Stand (rcN cx_S_l11Stand 0) pl_S_l11Stand 0 ((loopsOf (bodyOf Try.f166)).getD 2 .skip) (fillS sh_S_l11Stand_13 (t7, t46, t47, t48, ())) (roundK 0 lp_S_l11Stand_13) = b_S_l11Stand_13 t7 t46 t47 t48 := by kernel_rfl
theorem eb_S_l11Stand_18 (t7 : PV S__2_int) (t61 : PV (.int .i64)) (t62 : PV (.int .i64)) : denK cx_S_l11Stand (rcN cx_S_l11Stand 0) pl_S_l11Stand 0 ((loopsOf (bodyOf Try.f166)).getD 3 .skip) (fillS sh_S_l11Stand_18 (t7, t61, t62, ())) (roundK 0 lp_S_l11Stand_18) = b_S_l11Stand_18 t7 t61 t62 := by kernel_rfl
theorem ef_S_l11Stand (t0 : PV S_string) (t1 : PV S_string) (t2 : PV S_string) : denF cx_S_l11Stand 0 pl_S_l11Stand Try.f166.ntmps (bodyOf Try.f166) Try.f166.results.toList [(.bor, S_string), (.bor, S_string), (.bor, S_string)] [(S__2_int, (.row (.pr .b (.pr .b .b))))] (t0, t1, t2, ()) = f_S_l11Stand t0 t1 t2 := by kernel_rfl
theorem ok_S_l11Stand : FnOk gl Try.prog 166 ct_S_l11Stand :=
  fnOk (cx := cx_S_l11Stand) (pl := pl_S_l11Stand) (dp := 0) (ok0_of tabOk (by unfold ArrOk; kernel_rfl) mix ⟨ok_S_l3Pairs, trivial⟩ trivial) Try.func166 (by kernel_rfl) (by kernel_rfl) (by kernel_rfl)
    (by rw [show loopsOf (bodyOf Try.f166) = [((loopsOf (bodyOf Try.f166)).getD 0 .skip), ((loopsOf (bodyOf Try.f166)).getD 1 .skip), ((loopsOf (bodyOf Try.f166)).getD 2 .skip), ((loopsOf (bodyOf Try.f166)).getD 3 .skip)] from by kernel_rfl]; exact ⟨(by rw [show lookup pl_S_l11Stand.loops (firstId ((loopsOf (bodyOf Try.f166)).getD 0 .skip)) = some lp_S_l11Stand_3 from by kernel_rfl]; exact fun d z h => (eb_S_l11Stand_3 d.1 d.2.1 d.2.2.1 d.2.2.2.1 d.2.2.2.2.1 d.2.2.2.2.2.1).trans h), (by rw [show lookup pl_S_l11Stand.loops (firstId ((loopsOf (bodyOf Try.f166)).getD 1 .skip)) = some lp_S_l11Stand_8 from by kernel_rfl]; exact fun d z h => (eb_S_l11Stand_8 d.1 d.2.1 d.2.2.1 d.2.2.2.1 d.2.2.2.2.1 d.2.2.2.2.2.1).trans h), (by rw [show lookup pl_S_l11Stand.loops (firstId ((loopsOf (bodyOf Try.f166)).getD 2 .skip)) = some lp_S_l11Stand_13 from by kernel_rfl]; exact fun d z h => (eb_S_l11Stand_13 d.1 d.2.1 d.2.2.1 d.2.2.2.1).trans h), (by rw [show lookup pl_S_l11Stand.loops (firstId ((loopsOf (bodyOf Try.f166)).getD 3 .skip)) = some lp_S_l11Stand_18 from by kernel_rfl]; exact fun d z h => (eb_S_l11Stand_18 d.1 d.2.1 d.2.2.1).trans h), trivial⟩) (fun x => ef_S_l11Stand x.1 x.2.1 x.2.2.1)
noncomputable def sh_S_l1SameT_4 : List Sh := mkSh 26 [(0, .val S_string .b), (1, .val S_string .b), (12, .val (.int .i64) .b), (13, .val (.int .i64) .b)]
noncomputable def o_S_l1SameT_4 : List Out := [⟨.exit 0, ⟨[], [], []⟩, mkSh 26 []⟩, ⟨.ret, ⟨[], [4], []⟩, mkSh 26 [(4, .val .bool .b)]⟩]
noncomputable def b_S_l1SameT_4 (t0 : PV S_string) (t1 : PV S_string) (t12 : PV (.int .i64)) (t13 : PV (.int .i64)) : Option ((PV S_string × PV S_string × PV (.int .i64) × PV (.int .i64) × Unit) ⊕ ((Unit) ⊕ (PV .bool × Unit))) :=
  bif (decide (t13 < t12)) then
    bif inB t13 t0.length then
      bif inB t13 t1.length then
        bif (!((t0.getD t13.toNat []) == (t1.getD t13.toNat []))) then
          some (.inr (.inr (false, ())))
        else
          some (.inl (t0, t1, t12, (IntKind.wrap .i64 (t13 + 1)), ()))
      else
        none
    else
      none
  else
    some (.inr (.inl ()))
noncomputable def w_S_l1SameT_4 : PV S_string × PV S_string × PV (.int .i64) × PV (.int .i64) × Unit → Option ((Unit) ⊕ (PV .bool × Unit)) := fix fun d => b_S_l1SameT_4 d.1 d.2.1 d.2.2.1 d.2.2.2.1
noncomputable def lp_S_l1SameT_4 : Lp := ⟨⟨[], [0, 1, 12, 13], []⟩, sh_S_l1SameT_4, o_S_l1SameT_4, fun d => b_S_l1SameT_4 d.1 d.2.1 d.2.2.1 d.2.2.2.1⟩
noncomputable def pl_S_l1SameT : Plan := ⟨[], [(4, lp_S_l1SameT_4)], 0, 0⟩
noncomputable def f_S_l1SameT (t0 : PV S_string) (t1 : PV S_string) : Option (PVs [.bool] × PVs []) :=
  bif (!((t0.length : Int) == (t1.length : Int))) then
    some ((false, ()), ())
  else
    (w_S_l1SameT_4 (t0, t1, (t0.length : Int), 0, ())).bind fun x5 =>
      match x5 with
      | .inl l3 =>
        some ((true, ()), ())
      | .inr l4 =>
        some ((l4.1, ()), ())
noncomputable def ct_S_l1SameT : Ct := ⟨[(.bor, S_string), (.bor, S_string)], [(.bool, .b)], fun x => f_S_l1SameT x.1 x.2.1⟩
noncomputable def cx_S_l1SameT : Cx := ⟨tab, arrs, [], [], gl, []⟩
theorem eb_S_l1SameT_4 (t0 : PV S_string) (t1 : PV S_string) (t12 : PV (.int .i64)) (t13 : PV (.int .i64)) : denK cx_S_l1SameT (rcN cx_S_l1SameT 0) pl_S_l1SameT 0 ((loopsOf (bodyOf Try.f206)).getD 0 .skip) (fillS sh_S_l1SameT_4 (t0, t1, t12, t13, ())) (roundK 0 lp_S_l1SameT_4) = b_S_l1SameT_4 t0 t1 t12 t13 := by kernel_rfl
theorem ef_S_l1SameT (t0 : PV S_string) (t1 : PV S_string) : denF cx_S_l1SameT 0 pl_S_l1SameT Try.f206.ntmps (bodyOf Try.f206) Try.f206.results.toList [(.bor, S_string), (.bor, S_string)] [(.bool, .b)] (t0, t1, ()) = f_S_l1SameT t0 t1 := by kernel_rfl
theorem ok_S_l1SameT : FnOk gl Try.prog 206 ct_S_l1SameT :=
  fnOk (cx := cx_S_l1SameT) (pl := pl_S_l1SameT) (dp := 0) (ok0_of tabOk (by unfold ArrOk; kernel_rfl) mix trivial trivial) Try.func206 (by kernel_rfl) (by kernel_rfl) (by kernel_rfl)
    (by rw [show loopsOf (bodyOf Try.f206) = [((loopsOf (bodyOf Try.f206)).getD 0 .skip)] from by kernel_rfl]; exact ⟨(by rw [show lookup pl_S_l1SameT.loops (firstId ((loopsOf (bodyOf Try.f206)).getD 0 .skip)) = some lp_S_l1SameT_4 from by kernel_rfl]; exact fun d z h => (eb_S_l1SameT_4 d.1 d.2.1 d.2.2.1 d.2.2.2.1).trans h), trivial⟩) (fun x => ef_S_l1SameT x.1 x.2.1)
noncomputable def o_S_l11Kind_3 : List Out := [⟨.normal, ⟨[], [1, 2, 7, 8, 15], []⟩, mkSh 28 [(1, .val S_string .b), (2, .val S_string .b), (7, .val .bool .b), (8, .val .bool .b), (15, .val .bool .b)]⟩]
noncomputable def pl_S_l11Kind : Plan := ⟨[(3, o_S_l11Kind_3)], [], 0, 0⟩
noncomputable def f_S_l11Kind (t0 : PV S_string) (t1 : PV S_string) (t2 : PV S_string) : Option (PVs [(.int .i64)] × PVs []) :=
  (f_S_l1SameT t0 t1).bind fun r3 =>
    (f_S_l1SameT t0 t2).bind fun r4 =>
      ((
          bif r3.1.1 then
            some (t1, t2, r3.1.1, r4.1.1, r4.1.1, ())
          else
            some (t1, t2, r3.1.1, r4.1.1, false, ()) : Option ((PV S_string × PV S_string × PV .bool × PV .bool × PV .bool × Unit)))).bind fun j8 =>
        bif j8.2.2.2.2.1 then
          some ((1, ()), ())
        else
          bif j8.2.2.2.1 then
            some ((2, ()), ())
          else
            bif j8.2.2.1 then
              some ((3, ()), ())
            else
              (f_S_l1SameT j8.1 j8.2.1).bind fun r10 =>
                bif r10.1.1 then
                  some ((4, ()), ())
                else
                  some ((5, ()), ())
noncomputable def ct_S_l11Kind : Ct := ⟨[(.bor, S_string), (.bor, S_string), (.bor, S_string)], [((.int .i64), .b)], fun x => f_S_l11Kind x.1 x.2.1 x.2.2.1⟩
noncomputable def cx_S_l11Kind : Cx := ⟨tab, arrs, [(206, ct_S_l1SameT)], [], gl, []⟩
theorem ef_S_l11Kind (t0 : PV S_string) (t1 : PV S_string) (t2 : PV S_string) : denF cx_S_l11Kind 0 pl_S_l11Kind Try.f171.ntmps (bodyOf Try.f171) Try.f171.results.toList [(.bor, S_string), (.bor, S_string), (.bor, S_string)] [((.int .i64), .b)] (t0, t1, t2, ()) = f_S_l11Kind t0 t1 t2 := by kernel_rfl
theorem ok_S_l11Kind : FnOk gl Try.prog 171 ct_S_l11Kind :=
  fnOk (cx := cx_S_l11Kind) (pl := pl_S_l11Kind) (dp := 0) (ok0_of tabOk (by unfold ArrOk; kernel_rfl) mix ⟨ok_S_l1SameT, trivial⟩ trivial) Try.func171 (by kernel_rfl) (by kernel_rfl) (by kernel_rfl)
    (by rw [show loopsOf (bodyOf Try.f171) = [] from by kernel_rfl]; exact trivial) (fun x => ef_S_l11Kind x.1 x.2.1 x.2.2.1)
noncomputable def pl_S_l11Part : Plan := ⟨[], [], 0, 0⟩
noncomputable def f_S_l11Part (t0 : PV S_string) (t1 : PV S_string) (t2 : PV S_string) (t3 : PV (.int .i64)) (t4 : PV (.int .i64)) : Option (PVs [Y_impl_Part] × PVs []) :=
  (f_S_l11Kind t0 t1 t2).bind fun r1 =>
    (f_S_l1OwnT t1).bind fun r2 =>
      (f_S_l1OwnT t2).bind fun r3 =>
        some (((r1.1.1, (t3, (t4, (r2.1.1, (r3.1.1, ()))))), ()), ())
noncomputable def ct_S_l11Part : Ct := ⟨[(.bor, S_string), (.bor, S_string), (.bor, S_string), (.bor, (.int .i64)), (.bor, (.int .i64))], [(Y_impl_Part, (.pr .b (.pr .b (.pr .b (.pr (.row .b) (.pr (.row .b) .b))))))], fun x => f_S_l11Part x.1 x.2.1 x.2.2.1 x.2.2.2.1 x.2.2.2.2.1⟩
noncomputable def cx_S_l11Part : Cx := ⟨tab, arrs, [(111, ct_S_l1OwnT), (171, ct_S_l11Kind)], [], gl, []⟩
theorem ef_S_l11Part (t0 : PV S_string) (t1 : PV S_string) (t2 : PV S_string) (t3 : PV (.int .i64)) (t4 : PV (.int .i64)) : denF cx_S_l11Part 0 pl_S_l11Part Try.f167.ntmps (bodyOf Try.f167) Try.f167.results.toList [(.bor, S_string), (.bor, S_string), (.bor, S_string), (.bor, (.int .i64)), (.bor, (.int .i64))] [(Y_impl_Part, (.pr .b (.pr .b (.pr .b (.pr (.row .b) (.pr (.row .b) .b))))))] (t0, t1, t2, t3, t4, ()) = f_S_l11Part t0 t1 t2 t3 t4 := by kernel_rfl
theorem ok_S_l11Part : FnOk gl Try.prog 167 ct_S_l11Part :=
  fnOk (cx := cx_S_l11Part) (pl := pl_S_l11Part) (dp := 0) (ok0_of tabOk (by unfold ArrOk; kernel_rfl) mix ⟨ok_S_l1OwnT, ok_S_l11Kind, trivial⟩ trivial) Try.func167 (by kernel_rfl) (by kernel_rfl) (by kernel_rfl)
    (by rw [show loopsOf (bodyOf Try.f167) = [] from by kernel_rfl]; exact trivial) (fun x => ef_S_l11Part x.1 x.2.1 x.2.2.1 x.2.2.2.1 x.2.2.2.2.1)
noncomputable def o_S_l11Parts_5 : List Out := [⟨.exit 0, ⟨[], [8], []⟩, mkSh 152 [(8, .val S_impl_Part (.row (.pr .b (.pr .b (.pr .b (.pr (.row .b) (.pr (.row .b) .b)))))))]⟩, ⟨.normal, ⟨[], [0, 1, 2, 7, 8, 9, 10, 11, 43, 44, 45, 46, 47, 48, 49, 50, 51, 52, 53, 54, 55, 56, 103, 104, 105, 106, 107, 108], []⟩, mkSh 152 [(0, .val S_string .b), (1, .val S_string .b), (2, .val S_string .b), (7, .val S__2_int (.row (.pr .b (.pr .b .b)))), (8, .val S_impl_Part (.row (.pr .b (.pr .b (.pr .b (.pr (.row .b) (.pr (.row .b) .b))))))), (9, .val (.int .i64) .b), (10, .val (.int .i64) .b), (11, .val (.int .i64) .b)]⟩]
noncomputable def o_S_l11Parts_20 : List Out := [⟨.normal, ⟨[], [0, 1, 2, 7, 8, 9, 10, 11, 13, 14, 15, 25, 26, 27, 28, 31, 32, 33, 34, 43, 44, 45, 46, 47, 48, 49, 50, 51, 52, 53, 54, 55, 56, 103, 104, 105, 106, 107, 108], []⟩, mkSh 152 [(0, .val S_string .b), (1, .val S_string .b), (2, .val S_string .b), (7, .val S__2_int (.row (.pr .b (.pr .b .b)))), (8, .val S_impl_Part (.row (.pr .b (.pr .b (.pr .b (.pr (.row .b) (.pr (.row .b) .b))))))), (9, .val (.int .i64) .b), (10, .val (.int .i64) .b), (11, .val (.int .i64) .b), (13, .val (.int .i64) .b), (14, .val (.int .i64) .b), (15, .val (.int .i64) .b)]⟩]
noncomputable def sh_S_l11Parts_6 : List Sh := mkSh 152 [(0, .val S_string .b), (1, .val S_string .b), (2, .val S_string .b), (7, .val S__2_int (.row (.pr .b (.pr .b .b)))), (8, .val S_impl_Part (.row (.pr .b (.pr .b (.pr .b (.pr (.row .b) (.pr (.row .b) .b))))))), (9, .val (.int .i64) .b), (10, .val (.int .i64) .b), (11, .val (.int .i64) .b), (12, .val (.int .i64) .b)]
noncomputable def o_S_l11Parts_6 : List Out := [⟨.exit 2, ⟨[], [0, 1, 2, 7, 8, 9, 10, 11, 12, 25, 26, 27, 28, 31, 32, 33, 34, 103, 104, 105, 106, 107, 108], []⟩, mkSh 152 [(0, .val S_string .b), (1, .val S_string .b), (2, .val S_string .b), (7, .val S__2_int (.row (.pr .b (.pr .b .b)))), (8, .val S_impl_Part (.row (.pr .b (.pr .b (.pr .b (.pr (.row .b) (.pr (.row .b) .b))))))), (9, .val (.int .i64) .b), (10, .val (.int .i64) .b), (11, .val (.int .i64) .b), (12, .val (.int .i64) .b)]⟩]
noncomputable def b_S_l11Parts_6 (t0 : PV S_string) (t1 : PV S_string) (t2 : PV S_string) (t7 : PV S__2_int) (t8 : PV S_impl_Part) (t9 : PV (.int .i64)) (t10 : PV (.int .i64)) (t11 : PV (.int .i64)) (t12 : PV (.int .i64)) : Option ((PV S_string × PV S_string × PV S_string × PV S__2_int × PV S_impl_Part × PV (.int .i64) × PV (.int .i64) × PV (.int .i64) × PV (.int .i64) × Unit) ⊕ ((PV S_string × PV S_string × PV S_string × PV S__2_int × PV S_impl_Part × PV (.int .i64) × PV (.int .i64) × PV (.int .i64) × PV (.int .i64) × Unit))) :=
  bif (decide ((IntKind.wrap .i64 (t9 + t12)) < (t0.length : Int))) then
    bif inB (IntKind.wrap .i64 (t9 + t12)) t7.length then
      bif (((t7.getD ((IntKind.wrap .i64 (t9 + t12)).toNat) (dflt Y__2_int)).1 == (IntKind.wrap .i64 (t10 + t12))) && (((t7.getD ((IntKind.wrap .i64 (t9 + t12)).toNat) (dflt Y__2_int)).2).1 == (IntKind.wrap .i64 (t11 + t12)))) then
        some (.inl (t0, t1, t2, t7, t8, t9, t10, t11, (IntKind.wrap .i64 (t12 + 1)), ()))
      else
        some (.inr (t0, t1, t2, t7, t8, t9, t10, t11, t12, ()))
    else
      none
  else
    some (.inr (t0, t1, t2, t7, t8, t9, t10, t11, t12, ()))
noncomputable def w_S_l11Parts_6 : PV S_string × PV S_string × PV S_string × PV S__2_int × PV S_impl_Part × PV (.int .i64) × PV (.int .i64) × PV (.int .i64) × PV (.int .i64) × Unit → Option ((PV S_string × PV S_string × PV S_string × PV S__2_int × PV S_impl_Part × PV (.int .i64) × PV (.int .i64) × PV (.int .i64) × PV (.int .i64) × Unit)) := fix fun d => b_S_l11Parts_6 d.1 d.2.1 d.2.2.1 d.2.2.2.1 d.2.2.2.2.1 d.2.2.2.2.2.1 d.2.2.2.2.2.2.1 d.2.2.2.2.2.2.2.1 d.2.2.2.2.2.2.2.2.1
noncomputable def lp_S_l11Parts_6 : Lp := ⟨⟨[], [0, 1, 2, 7, 8, 9, 10, 11, 12, 25, 26, 27, 28, 31, 32, 33, 34, 103, 104, 105, 106, 107, 108], []⟩, sh_S_l11Parts_6, o_S_l11Parts_6, fun d => b_S_l11Parts_6 d.1 d.2.1 d.2.2.1 d.2.2.2.1 d.2.2.2.2.1 d.2.2.2.2.2.1 d.2.2.2.2.2.2.1 d.2.2.2.2.2.2.2.1 d.2.2.2.2.2.2.2.2.1⟩
noncomputable def sh_S_l11Parts_14 : List Sh := mkSh 152 [(0, .val S_string .b), (1, .val S_string .b), (2, .val S_string .b), (7, .val S__2_int (.row (.pr .b (.pr .b .b)))), (8, .val S_impl_Part (.row (.pr .b (.pr .b (.pr .b (.pr (.row .b) (.pr (.row .b) .b))))))), (9, .val (.int .i64) .b), (10, .val (.int .i64) .b), (11, .val (.int .i64) .b), (13, .val (.int .i64) .b)]
noncomputable def o_S_l11Parts_14 : List Out := [⟨.exit 4, ⟨[], [0, 1, 2, 7, 8, 9, 10, 11, 13, 25, 26, 27, 28, 31, 32, 33, 34, 43, 44, 45, 46, 47, 48, 49, 50, 51, 52, 53, 54, 55, 56], []⟩, mkSh 152 [(0, .val S_string .b), (1, .val S_string .b), (2, .val S_string .b), (7, .val S__2_int (.row (.pr .b (.pr .b .b)))), (8, .val S_impl_Part (.row (.pr .b (.pr .b (.pr .b (.pr (.row .b) (.pr (.row .b) .b))))))), (9, .val (.int .i64) .b), (10, .val (.int .i64) .b), (11, .val (.int .i64) .b), (13, .val (.int .i64) .b)]⟩]
noncomputable def b_S_l11Parts_14 (t0 : PV S_string) (t1 : PV S_string) (t2 : PV S_string) (t7 : PV S__2_int) (t8 : PV S_impl_Part) (t9 : PV (.int .i64)) (t10 : PV (.int .i64)) (t11 : PV (.int .i64)) (t13 : PV (.int .i64)) : Option ((PV S_string × PV S_string × PV S_string × PV S__2_int × PV S_impl_Part × PV (.int .i64) × PV (.int .i64) × PV (.int .i64) × PV (.int .i64) × Unit) ⊕ ((PV S_string × PV S_string × PV S_string × PV S__2_int × PV S_impl_Part × PV (.int .i64) × PV (.int .i64) × PV (.int .i64) × PV (.int .i64) × Unit))) :=
  bif (decide (t13 < (t0.length : Int))) then
    bif inB t13 t7.length then
      bif (decide (((t7.getD t13.toNat (dflt Y__2_int)).1) < 0)) then
        some (.inl (t0, t1, t2, t7, t8, t9, t10, t11, (IntKind.wrap .i64 (t13 + 1)), ()))
      else
        some (.inr (t0, t1, t2, t7, t8, t9, t10, t11, t13, ()))
    else
      none
  else
    some (.inr (t0, t1, t2, t7, t8, t9, t10, t11, t13, ()))
noncomputable def w_S_l11Parts_14 : PV S_string × PV S_string × PV S_string × PV S__2_int × PV S_impl_Part × PV (.int .i64) × PV (.int .i64) × PV (.int .i64) × PV (.int .i64) × Unit → Option ((PV S_string × PV S_string × PV S_string × PV S__2_int × PV S_impl_Part × PV (.int .i64) × PV (.int .i64) × PV (.int .i64) × PV (.int .i64) × Unit)) := fix fun d => b_S_l11Parts_14 d.1 d.2.1 d.2.2.1 d.2.2.2.1 d.2.2.2.2.1 d.2.2.2.2.2.1 d.2.2.2.2.2.2.1 d.2.2.2.2.2.2.2.1 d.2.2.2.2.2.2.2.2.1
noncomputable def lp_S_l11Parts_14 : Lp := ⟨⟨[], [0, 1, 2, 7, 8, 9, 10, 11, 13, 25, 26, 27, 28, 31, 32, 33, 34, 43, 44, 45, 46, 47, 48, 49, 50, 51, 52, 53, 54, 55, 56], []⟩, sh_S_l11Parts_14, o_S_l11Parts_14, fun d => b_S_l11Parts_14 d.1 d.2.1 d.2.2.1 d.2.2.2.1 d.2.2.2.2.1 d.2.2.2.2.2.1 d.2.2.2.2.2.2.1 d.2.2.2.2.2.2.2.1 d.2.2.2.2.2.2.2.2.1⟩
noncomputable def sh_S_l11Parts_4 : List Sh := mkSh 152 [(0, .val S_string .b), (1, .val S_string .b), (2, .val S_string .b), (7, .val S__2_int (.row (.pr .b (.pr .b .b)))), (8, .val S_impl_Part (.row (.pr .b (.pr .b (.pr .b (.pr (.row .b) (.pr (.row .b) .b))))))), (9, .val (.int .i64) .b), (10, .val (.int .i64) .b), (11, .val (.int .i64) .b)]
noncomputable def o_S_l11Parts_4 : List Out := [⟨.exit 0, ⟨[], [8], []⟩, mkSh 152 [(8, .val S_impl_Part (.row (.pr .b (.pr .b (.pr .b (.pr (.row .b) (.pr (.row .b) .b)))))))]⟩]
noncomputable def b_S_l11Parts_4 (t0 : PV S_string) (t1 : PV S_string) (t2 : PV S_string) (t7 : PV S__2_int) (t8 : PV S_impl_Part) (t9 : PV (.int .i64)) (t10 : PV (.int .i64)) (t11 : PV (.int .i64)) : Option ((PV S_string × PV S_string × PV S_string × PV S__2_int × PV S_impl_Part × PV (.int .i64) × PV (.int .i64) × PV (.int .i64) × Unit) ⊕ ((PV S_impl_Part × Unit))) :=
  ((
      bif (decide (t9 < (t0.length : Int))) then
        some (.inr (t0, t1, t2, t7, t8, t9, t10, t11, ()))
      else
        bif (decide (t10 < (t1.length : Int))) then
          some (.inr (t0, t1, t2, t7, t8, t9, t10, t11, ()))
        else
          bif (decide (t11 < (t2.length : Int))) then
            some (.inr (t0, t1, t2, t7, t8, t9, t10, t11, ()))
          else
            some (.inl (t8, ())) : Option ((PV S_impl_Part × Unit) ⊕ (PV S_string × PV S_string × PV S_string × PV S__2_int × PV S_impl_Part × PV (.int .i64) × PV (.int .i64) × PV (.int .i64) × Unit)))).bind fun x18 =>
    match x18 with
    | .inl j3 =>
      some (.inr (j3.1, ()))
    | .inr j4 =>
      (w_S_l11Parts_6 (j4.1, j4.2.1, j4.2.2.1, j4.2.2.2.1, j4.2.2.2.2.1, j4.2.2.2.2.2.1, j4.2.2.2.2.2.2.1, j4.2.2.2.2.2.2.2.1, 0, ())).bind fun l6 =>
        bif (decide (l6.2.2.2.2.2.2.2.2.1 > 0)) then
          bif cutB l6.2.2.2.2.2.1 (IntKind.wrap .i64 (l6.2.2.2.2.2.1 + l6.2.2.2.2.2.2.2.2.1)) l6.1.length then
            bif cutB l6.2.2.2.2.2.2.1 (IntKind.wrap .i64 (l6.2.2.2.2.2.2.1 + l6.2.2.2.2.2.2.2.2.1)) l6.2.1.length then
              bif cutB l6.2.2.2.2.2.2.2.1 (IntKind.wrap .i64 (l6.2.2.2.2.2.2.2.1 + l6.2.2.2.2.2.2.2.2.1)) l6.2.2.1.length then
                (f_S_l11Part (cutL l6.2.2.2.2.2.1 (IntKind.wrap .i64 (l6.2.2.2.2.2.1 + l6.2.2.2.2.2.2.2.2.1)) l6.1) (cutL l6.2.2.2.2.2.2.1 (IntKind.wrap .i64 (l6.2.2.2.2.2.2.1 + l6.2.2.2.2.2.2.2.2.1)) l6.2.1) (cutL l6.2.2.2.2.2.2.2.1 (IntKind.wrap .i64 (l6.2.2.2.2.2.2.2.1 + l6.2.2.2.2.2.2.2.2.1)) l6.2.2.1) l6.2.2.2.2.2.1 (IntKind.wrap .i64 (l6.2.2.2.2.2.1 + l6.2.2.2.2.2.2.2.2.1))).bind fun r10 =>
                  bif roomB (l6.2.2.2.2.1.length + [r10.1.1].length) then
                    some (.inl (l6.1, l6.2.1, l6.2.2.1, l6.2.2.2.1, (l6.2.2.2.2.1 ++ [r10.1.1]), (IntKind.wrap .i64 (l6.2.2.2.2.2.1 + l6.2.2.2.2.2.2.2.2.1)), (IntKind.wrap .i64 (l6.2.2.2.2.2.2.1 + l6.2.2.2.2.2.2.2.2.1)), (IntKind.wrap .i64 (l6.2.2.2.2.2.2.2.1 + l6.2.2.2.2.2.2.2.2.1)), ()))
                  else
                    none
              else
                none
            else
              none
          else
            none
        else
          (w_S_l11Parts_14 (l6.1, l6.2.1, l6.2.2.1, l6.2.2.2.1, l6.2.2.2.2.1, l6.2.2.2.2.2.1, l6.2.2.2.2.2.2.1, l6.2.2.2.2.2.2.2.1, l6.2.2.2.2.2.1, ())).bind fun l12 =>
            ((
                bif (decide (l12.2.2.2.2.2.2.2.2.1 < (l12.1.length : Int))) then
                  bif inB l12.2.2.2.2.2.2.2.2.1 l12.2.2.2.1.length then
                    bif inB l12.2.2.2.2.2.2.2.2.1 l12.2.2.2.1.length then
                      some (l12.1, l12.2.1, l12.2.2.1, l12.2.2.2.1, l12.2.2.2.2.1, l12.2.2.2.2.2.1, l12.2.2.2.2.2.2.1, l12.2.2.2.2.2.2.2.1, l12.2.2.2.2.2.2.2.2.1, (l12.2.2.2.1.getD l12.2.2.2.2.2.2.2.2.1.toNat (dflt Y__2_int)).1, ((l12.2.2.2.1.getD l12.2.2.2.2.2.2.2.2.1.toNat (dflt Y__2_int)).2).1, ())
                    else
                      none
                  else
                    none
                else
                  some (l12.1, l12.2.1, l12.2.2.1, l12.2.2.2.1, l12.2.2.2.2.1, l12.2.2.2.2.2.1, l12.2.2.2.2.2.2.1, l12.2.2.2.2.2.2.2.1, l12.2.2.2.2.2.2.2.2.1, (l12.2.1.length : Int), (l12.2.2.1.length : Int), ()) : Option ((PV S_string × PV S_string × PV S_string × PV S__2_int × PV S_impl_Part × PV (.int .i64) × PV (.int .i64) × PV (.int .i64) × PV (.int .i64) × PV (.int .i64) × PV (.int .i64) × Unit)))).bind fun j13 =>
              bif cutB j13.2.2.2.2.2.1 j13.2.2.2.2.2.2.2.2.1 j13.1.length then
                bif cutB j13.2.2.2.2.2.2.1 j13.2.2.2.2.2.2.2.2.2.1 j13.2.1.length then
                  bif cutB j13.2.2.2.2.2.2.2.1 j13.2.2.2.2.2.2.2.2.2.2.1 j13.2.2.1.length then
                    (f_S_l11Part (cutL j13.2.2.2.2.2.1 j13.2.2.2.2.2.2.2.2.1 j13.1) (cutL j13.2.2.2.2.2.2.1 j13.2.2.2.2.2.2.2.2.2.1 j13.2.1) (cutL j13.2.2.2.2.2.2.2.1 j13.2.2.2.2.2.2.2.2.2.2.1 j13.2.2.1) j13.2.2.2.2.2.1 j13.2.2.2.2.2.2.2.2.1).bind fun r15 =>
                      bif roomB (j13.2.2.2.2.1.length + [r15.1.1].length) then
                        some (.inl (j13.1, j13.2.1, j13.2.2.1, j13.2.2.2.1, (j13.2.2.2.2.1 ++ [r15.1.1]), j13.2.2.2.2.2.2.2.2.1, j13.2.2.2.2.2.2.2.2.2.1, j13.2.2.2.2.2.2.2.2.2.2.1, ()))
                      else
                        none
                  else
                    none
                else
                  none
              else
                none
noncomputable def w_S_l11Parts_4 : PV S_string × PV S_string × PV S_string × PV S__2_int × PV S_impl_Part × PV (.int .i64) × PV (.int .i64) × PV (.int .i64) × Unit → Option ((PV S_impl_Part × Unit)) := fix fun d => b_S_l11Parts_4 d.1 d.2.1 d.2.2.1 d.2.2.2.1 d.2.2.2.2.1 d.2.2.2.2.2.1 d.2.2.2.2.2.2.1 d.2.2.2.2.2.2.2.1
noncomputable def lp_S_l11Parts_4 : Lp := ⟨⟨[], [0, 1, 2, 7, 8, 9, 10, 11, 25, 26, 27, 28, 31, 32, 33, 34, 43, 44, 45, 46, 47, 48, 49, 50, 51, 52, 53, 54, 55, 56, 103, 104, 105, 106, 107, 108], []⟩, sh_S_l11Parts_4, o_S_l11Parts_4, fun d => b_S_l11Parts_4 d.1 d.2.1 d.2.2.1 d.2.2.2.1 d.2.2.2.2.1 d.2.2.2.2.2.1 d.2.2.2.2.2.2.1 d.2.2.2.2.2.2.2.1⟩
noncomputable def pl_S_l11Parts : Plan := ⟨[(5, o_S_l11Parts_5), (20, o_S_l11Parts_20)], [(6, lp_S_l11Parts_6), (14, lp_S_l11Parts_14), (4, lp_S_l11Parts_4)], 0, 0⟩
noncomputable def f_S_l11Parts (t0 : PV S_string) (t1 : PV S_string) (t2 : PV S_string) : Option (PVs [S_impl_Part] × PVs []) :=
  (f_S_l11Stand t0 t1 t2).bind fun r2 =>
    (w_S_l11Parts_4 (t0, t1, t2, r2.1.1, [], 0, 0, 0, ())).bind fun l17 =>
      some ((l17.1, ()), ())
noncomputable def ct_S_l11Parts : Ct := ⟨[(.bor, S_string), (.bor, S_string), (.bor, S_string)], [(S_impl_Part, (.row (.pr .b (.pr .b (.pr .b (.pr (.row .b) (.pr (.row .b) .b)))))))], fun x => f_S_l11Parts x.1 x.2.1 x.2.2.1⟩
noncomputable def cx_S_l11Parts : Cx := ⟨tab, arrs, [(166, ct_S_l11Stand), (167, ct_S_l11Part)], [], gl, []⟩
theorem eb_S_l11Parts_4 (t0 : PV S_string) (t1 : PV S_string) (t2 : PV S_string) (t7 : PV S__2_int) (t8 : PV S_impl_Part) (t9 : PV (.int .i64)) (t10 : PV (.int .i64)) (t11 : PV (.int .i64)) : denK cx_S_l11Parts (rcN cx_S_l11Parts 0) pl_S_l11Parts 0 ((loopsOf (bodyOf Try.f102)).getD 0 .skip) (fillS sh_S_l11Parts_4 (t0, t1, t2, t7, t8, t9, t10, t11, ())) (roundK 0 lp_S_l11Parts_4) = b_S_l11Parts_4 t0 t1 t2 t7 t8 t9 t10 t11 := by kernel_rfl
theorem eb_S_l11Parts_6 (t0 : PV S_string) (t1 : PV S_string) (t2 : PV S_string) (t7 : PV S__2_int) (t8 : PV S_impl_Part) (t9 : PV (.int .i64)) (t10 : PV (.int .i64)) (t11 : PV (.int .i64)) (t12 : PV (.int .i64)) : denK cx_S_l11Parts (rcN cx_S_l11Parts 0) pl_S_l11Parts 0 ((loopsOf (bodyOf Try.f102)).getD 1 .skip) (fillS sh_S_l11Parts_6 (t0, t1, t2, t7, t8, t9, t10, t11, t12, ())) (roundK 0 lp_S_l11Parts_6) = b_S_l11Parts_6 t0 t1 t2 t7 t8 t9 t10 t11 t12 := by kernel_rfl
theorem eb_S_l11Parts_14 (t0 : PV S_string) (t1 : PV S_string) (t2 : PV S_string) (t7 : PV S__2_int) (t8 : PV S_impl_Part) (t9 : PV (.int .i64)) (t10 : PV (.int .i64)) (t11 : PV (.int .i64)) (t13 : PV (.int .i64)) : denK cx_S_l11Parts (rcN cx_S_l11Parts 0) pl_S_l11Parts 0 ((loopsOf (bodyOf Try.f102)).getD 2 .skip) (fillS sh_S_l11Parts_14 (t0, t1, t2, t7, t8, t9, t10, t11, t13, ())) (roundK 0 lp_S_l11Parts_14) = b_S_l11Parts_14 t0 t1 t2 t7 t8 t9 t10 t11 t13 := by kernel_rfl
theorem ef_S_l11Parts (t0 : PV S_string) (t1 : PV S_string) (t2 : PV S_string) : denF cx_S_l11Parts 0 pl_S_l11Parts Try.f102.ntmps (bodyOf Try.f102) Try.f102.results.toList [(.bor, S_string), (.bor, S_string), (.bor, S_string)] [(S_impl_Part, (.row (.pr .b (.pr .b (.pr .b (.pr (.row .b) (.pr (.row .b) .b)))))))] (t0, t1, t2, ()) = f_S_l11Parts t0 t1 t2 := by kernel_rfl
theorem ok_S_l11Parts : FnOk gl Try.prog 102 ct_S_l11Parts :=
  fnOk (cx := cx_S_l11Parts) (pl := pl_S_l11Parts) (dp := 0) (ok0_of tabOk (by unfold ArrOk; kernel_rfl) mix ⟨ok_S_l11Stand, ok_S_l11Part, trivial⟩ trivial) Try.func102 (by kernel_rfl) (by kernel_rfl) (by kernel_rfl)
    (by rw [show loopsOf (bodyOf Try.f102) = [((loopsOf (bodyOf Try.f102)).getD 0 .skip), ((loopsOf (bodyOf Try.f102)).getD 1 .skip), ((loopsOf (bodyOf Try.f102)).getD 2 .skip)] from by kernel_rfl]; exact ⟨(by rw [show lookup pl_S_l11Parts.loops (firstId ((loopsOf (bodyOf Try.f102)).getD 0 .skip)) = some lp_S_l11Parts_4 from by kernel_rfl]; exact fun d z h => (eb_S_l11Parts_4 d.1 d.2.1 d.2.2.1 d.2.2.2.1 d.2.2.2.2.1 d.2.2.2.2.2.1 d.2.2.2.2.2.2.1 d.2.2.2.2.2.2.2.1).trans h), (by rw [show lookup pl_S_l11Parts.loops (firstId ((loopsOf (bodyOf Try.f102)).getD 1 .skip)) = some lp_S_l11Parts_6 from by kernel_rfl]; exact fun d z h => (eb_S_l11Parts_6 d.1 d.2.1 d.2.2.1 d.2.2.2.1 d.2.2.2.2.1 d.2.2.2.2.2.1 d.2.2.2.2.2.2.1 d.2.2.2.2.2.2.2.1 d.2.2.2.2.2.2.2.2.1).trans h), (by rw [show lookup pl_S_l11Parts.loops (firstId ((loopsOf (bodyOf Try.f102)).getD 2 .skip)) = some lp_S_l11Parts_14 from by kernel_rfl]; exact fun d z h => (eb_S_l11Parts_14 d.1 d.2.1 d.2.2.1 d.2.2.2.1 d.2.2.2.2.1 d.2.2.2.2.2.1 d.2.2.2.2.2.2.1 d.2.2.2.2.2.2.2.1 d.2.2.2.2.2.2.2.2.1).trans h), trivial⟩) (fun x => ef_S_l11Parts x.1 x.2.1 x.2.2.1)
noncomputable def pl_S_PartsOf : Plan := ⟨[], [], 0, 0⟩
noncomputable def f_S_PartsOf (t0 : PV S_string) (t1 : PV S_string) (t2 : PV S_string) : Option (PVs [S_impl_Part, .bool] × PVs []) :=
  (f_S_l11Three t0 t1 t2).bind fun r4 =>
    bif (!r4.1.1) then
      some (([], false, ()), ())
    else
      (f_S_l11Parts t0 t1 t2).bind fun r5 =>
        some ((r5.1.1, true, ()), ())
noncomputable def ct_S_PartsOf : Ct := ⟨[(.bor, S_string), (.bor, S_string), (.bor, S_string)], [(S_impl_Part, (.row (.pr .b (.pr .b (.pr .b (.pr (.row .b) (.pr (.row .b) .b))))))), (.bool, .b)], fun x => f_S_PartsOf x.1 x.2.1 x.2.2.1⟩
noncomputable def cx_S_PartsOf : Cx := ⟨tab, arrs, [(101, ct_S_l11Three), (102, ct_S_l11Parts)], [], gl, []⟩
theorem ef_S_PartsOf (t0 : PV S_string) (t1 : PV S_string) (t2 : PV S_string) : denF cx_S_PartsOf 0 pl_S_PartsOf Try.f34.ntmps (bodyOf Try.f34) Try.f34.results.toList [(.bor, S_string), (.bor, S_string), (.bor, S_string)] [(S_impl_Part, (.row (.pr .b (.pr .b (.pr .b (.pr (.row .b) (.pr (.row .b) .b))))))), (.bool, .b)] (t0, t1, t2, ()) = f_S_PartsOf t0 t1 t2 := by kernel_rfl
theorem ok_S_PartsOf : FnOk gl Try.prog 34 ct_S_PartsOf :=
  fnOk (cx := cx_S_PartsOf) (pl := pl_S_PartsOf) (dp := 0) (ok0_of tabOk (by unfold ArrOk; kernel_rfl) mix ⟨ok_S_l11Three, ok_S_l11Parts, trivial⟩ trivial) Try.func34 (by kernel_rfl) (by kernel_rfl) (by kernel_rfl)
    (by rw [show loopsOf (bodyOf Try.f34) = [] from by kernel_rfl]; exact trivial) (fun x => ef_S_PartsOf x.1 x.2.1 x.2.2.1)
noncomputable def sh_L_sameTexts_4 : List Sh := mkSh 26 [(0, .val S_string .b), (1, .val S_string .b), (12, .val (.int .i64) .b), (13, .val (.int .i64) .b)]
noncomputable def o_L_sameTexts_4 : List Out := [⟨.exit 0, ⟨[], [], []⟩, mkSh 26 []⟩, ⟨.ret, ⟨[], [4], []⟩, mkSh 26 [(4, .val .bool .b)]⟩]
noncomputable def b_L_sameTexts_4 (t0 : PV S_string) (t1 : PV S_string) (t12 : PV (.int .i64)) (t13 : PV (.int .i64)) : Option ((PV S_string × PV S_string × PV (.int .i64) × PV (.int .i64) × Unit) ⊕ ((Unit) ⊕ (PV .bool × Unit))) :=
  bif (decide (t13 < t12)) then
    bif inB t13 t0.length then
      bif inB t13 t1.length then
        bif (!((t0.getD t13.toNat []) == (t1.getD t13.toNat []))) then
          some (.inr (.inr (false, ())))
        else
          some (.inl (t0, t1, t12, (IntKind.wrap .i64 (t13 + 1)), ()))
      else
        none
    else
      none
  else
    some (.inr (.inl ()))
noncomputable def w_L_sameTexts_4 : PV S_string × PV S_string × PV (.int .i64) × PV (.int .i64) × Unit → Option ((Unit) ⊕ (PV .bool × Unit)) := fix fun d => b_L_sameTexts_4 d.1 d.2.1 d.2.2.1 d.2.2.2.1
noncomputable def lp_L_sameTexts_4 : Lp := ⟨⟨[], [0, 1, 12, 13], []⟩, sh_L_sameTexts_4, o_L_sameTexts_4, fun d => b_L_sameTexts_4 d.1 d.2.1 d.2.2.1 d.2.2.2.1⟩
noncomputable def pl_L_sameTexts : Plan := ⟨[], [(4, lp_L_sameTexts_4)], 0, 0⟩
noncomputable def f_L_sameTexts (t0 : PV S_string) (t1 : PV S_string) : Option (PVs [.bool] × PVs []) :=
  bif (!((t0.length : Int) == (t1.length : Int))) then
    some ((false, ()), ())
  else
    (w_L_sameTexts_4 (t0, t1, (t0.length : Int), 0, ())).bind fun x5 =>
      match x5 with
      | .inl l3 =>
        some ((true, ()), ())
      | .inr l4 =>
        some ((l4.1, ()), ())
noncomputable def ct_L_sameTexts : Ct := ⟨[(.bor, S_string), (.bor, S_string)], [(.bool, .b)], fun x => f_L_sameTexts x.1 x.2.1⟩
noncomputable def cx_L_sameTexts : Cx := ⟨tab, arrs, [], [], gl, []⟩
theorem eb_L_sameTexts_4 (t0 : PV S_string) (t1 : PV S_string) (t12 : PV (.int .i64)) (t13 : PV (.int .i64)) : denK cx_L_sameTexts (rcN cx_L_sameTexts 0) pl_L_sameTexts 0 ((loopsOf (bodyOf Try.f39)).getD 0 .skip) (fillS sh_L_sameTexts_4 (t0, t1, t12, t13, ())) (roundK 0 lp_L_sameTexts_4) = b_L_sameTexts_4 t0 t1 t12 t13 := by kernel_rfl
theorem ef_L_sameTexts (t0 : PV S_string) (t1 : PV S_string) : denF cx_L_sameTexts 0 pl_L_sameTexts Try.f39.ntmps (bodyOf Try.f39) Try.f39.results.toList [(.bor, S_string), (.bor, S_string)] [(.bool, .b)] (t0, t1, ()) = f_L_sameTexts t0 t1 := by kernel_rfl
theorem ok_L_sameTexts : FnOk gl Try.prog 39 ct_L_sameTexts :=
  fnOk (cx := cx_L_sameTexts) (pl := pl_L_sameTexts) (dp := 0) (ok0_of tabOk (by unfold ArrOk; kernel_rfl) mix trivial trivial) Try.func39 (by kernel_rfl) (by kernel_rfl) (by kernel_rfl)
    (by rw [show loopsOf (bodyOf Try.f39) = [((loopsOf (bodyOf Try.f39)).getD 0 .skip)] from by kernel_rfl]; exact ⟨(by rw [show lookup pl_L_sameTexts.loops (firstId ((loopsOf (bodyOf Try.f39)).getD 0 .skip)) = some lp_L_sameTexts_4 from by kernel_rfl]; exact fun d z h => (eb_L_sameTexts_4 d.1 d.2.1 d.2.2.1 d.2.2.2.1).trans h), trivial⟩) (fun x => ef_L_sameTexts x.1 x.2.1)
noncomputable def o_L_sameParts_8 : List Out := [⟨.normal, ⟨[], [1, 6, 7, 13, 14, 15, 58], []⟩, mkSh 60 [(1, .val S_impl_Part .b), (6, .var Y_impl_Part .b), (7, .var Y_impl_Part .b), (13, .val S_impl_Part .b), (14, .val (.int .i64) .b), (15, .val (.int .i64) .b), (58, .val .bool .b)]⟩]
noncomputable def sh_L_sameParts_4 : List Sh := mkSh 60 [(1, .val S_impl_Part .b), (13, .val S_impl_Part .b), (14, .val (.int .i64) .b), (15, .val (.int .i64) .b)]
noncomputable def o_L_sameParts_4 : List Out := [⟨.exit 0, ⟨[], [], []⟩, mkSh 60 []⟩, ⟨.ret, ⟨[], [4], []⟩, mkSh 60 [(4, .val .bool .b)]⟩]
noncomputable def b_L_sameParts_4 (t1 : PV S_impl_Part) (t13 : PV S_impl_Part) (t14 : PV (.int .i64)) (t15 : PV (.int .i64)) : Option ((PV S_impl_Part × PV S_impl_Part × PV (.int .i64) × PV (.int .i64) × Unit) ⊕ ((Unit) ⊕ (PV .bool × Unit))) :=
  bif (decide (t15 < t14)) then
    bif inB t15 t13.length then
      bif inB t15 t1.length then
        ((
            bif (!(((t13.getD t15.toNat (dflt Y_impl_Part)).1) == ((t1.getD t15.toNat (dflt Y_impl_Part)).1))) then
              some (t1, (t13.getD t15.toNat (dflt Y_impl_Part)), (t1.getD t15.toNat (dflt Y_impl_Part)), t13, t14, t15, true, ())
            else
              bif (!((((t13.getD t15.toNat (dflt Y_impl_Part)).2).1) == (((t1.getD t15.toNat (dflt Y_impl_Part)).2).1))) then
                some (t1, (t13.getD t15.toNat (dflt Y_impl_Part)), (t1.getD t15.toNat (dflt Y_impl_Part)), t13, t14, t15, true, ())
              else
                bif (!(((((t13.getD t15.toNat (dflt Y_impl_Part)).2).2).1) == ((((t1.getD t15.toNat (dflt Y_impl_Part)).2).2).1))) then
                  some (t1, (t13.getD t15.toNat (dflt Y_impl_Part)), (t1.getD t15.toNat (dflt Y_impl_Part)), t13, t14, t15, true, ())
                else
                  (f_L_sameTexts (((((t13.getD t15.toNat (dflt Y_impl_Part)).2).2).2).1) (((((t1.getD t15.toNat (dflt Y_impl_Part)).2).2).2).1)).bind fun r4 =>
                    bif (!r4.1.1) then
                      some (t1, (t13.getD t15.toNat (dflt Y_impl_Part)), (t1.getD t15.toNat (dflt Y_impl_Part)), t13, t14, t15, true, ())
                    else
                      (f_L_sameTexts ((((((t13.getD t15.toNat (dflt Y_impl_Part)).2).2).2).2).1) ((((((t1.getD t15.toNat (dflt Y_impl_Part)).2).2).2).2).1)).bind fun r5 =>
                        some (t1, (t13.getD t15.toNat (dflt Y_impl_Part)), (t1.getD t15.toNat (dflt Y_impl_Part)), t13, t14, t15, (!r5.1.1), ()) : Option ((PV S_impl_Part × PV Y_impl_Part × PV Y_impl_Part × PV S_impl_Part × PV (.int .i64) × PV (.int .i64) × PV .bool × Unit)))).bind fun j6 =>
          bif j6.2.2.2.2.2.2.1 then
            some (.inr (.inr (false, ())))
          else
            some (.inl (j6.1, j6.2.2.2.1, j6.2.2.2.2.1, (IntKind.wrap .i64 (j6.2.2.2.2.2.1 + 1)), ()))
      else
        none
    else
      none
  else
    some (.inr (.inl ()))
noncomputable def w_L_sameParts_4 : PV S_impl_Part × PV S_impl_Part × PV (.int .i64) × PV (.int .i64) × Unit → Option ((Unit) ⊕ (PV .bool × Unit)) := fix fun d => b_L_sameParts_4 d.1 d.2.1 d.2.2.1 d.2.2.2.1
noncomputable def lp_L_sameParts_4 : Lp := ⟨⟨[], [1, 13, 14, 15, 30, 31, 32, 33, 34, 37, 38, 39, 40, 41, 44, 45, 46, 47, 48, 49, 52, 53, 54, 55, 56, 57], []⟩, sh_L_sameParts_4, o_L_sameParts_4, fun d => b_L_sameParts_4 d.1 d.2.1 d.2.2.1 d.2.2.2.1⟩
noncomputable def pl_L_sameParts : Plan := ⟨[(8, o_L_sameParts_8)], [(4, lp_L_sameParts_4)], 0, 0⟩
noncomputable def f_L_sameParts (t0 : PV S_impl_Part) (t1 : PV S_impl_Part) : Option (PVs [.bool] × PVs []) :=
  bif (!((t0.length : Int) == (t1.length : Int))) then
    some ((false, ()), ())
  else
    (w_L_sameParts_4 (t1, t0, (t0.length : Int), 0, ())).bind fun x11 =>
      match x11 with
      | .inl l9 =>
        some ((true, ()), ())
      | .inr l10 =>
        some ((l10.1, ()), ())
noncomputable def ct_L_sameParts : Ct := ⟨[(.bor, S_impl_Part), (.bor, S_impl_Part)], [(.bool, .b)], fun x => f_L_sameParts x.1 x.2.1⟩
noncomputable def cx_L_sameParts : Cx := ⟨tab, arrs, [(39, ct_L_sameTexts)], [], gl, []⟩
theorem eb_L_sameParts_4 (t1 : PV S_impl_Part) (t13 : PV S_impl_Part) (t14 : PV (.int .i64)) (t15 : PV (.int .i64)) : denK cx_L_sameParts (rcN cx_L_sameParts 0) pl_L_sameParts 0 ((loopsOf (bodyOf Try.f35)).getD 0 .skip) (fillS sh_L_sameParts_4 (t1, t13, t14, t15, ())) (roundK 0 lp_L_sameParts_4) = b_L_sameParts_4 t1 t13 t14 t15 := by kernel_rfl
theorem ef_L_sameParts (t0 : PV S_impl_Part) (t1 : PV S_impl_Part) : denF cx_L_sameParts 0 pl_L_sameParts Try.f35.ntmps (bodyOf Try.f35) Try.f35.results.toList [(.bor, S_impl_Part), (.bor, S_impl_Part)] [(.bool, .b)] (t0, t1, ()) = f_L_sameParts t0 t1 := by kernel_rfl
theorem ok_L_sameParts : FnOk gl Try.prog 35 ct_L_sameParts :=
  fnOk (cx := cx_L_sameParts) (pl := pl_L_sameParts) (dp := 0) (ok0_of tabOk (by unfold ArrOk; kernel_rfl) mix ⟨ok_L_sameTexts, trivial⟩ trivial) Try.func35 (by kernel_rfl) (by kernel_rfl) (by kernel_rfl)
    (by rw [show loopsOf (bodyOf Try.f35) = [((loopsOf (bodyOf Try.f35)).getD 0 .skip)] from by kernel_rfl]; exact ⟨(by rw [show lookup pl_L_sameParts.loops (firstId ((loopsOf (bodyOf Try.f35)).getD 0 .skip)) = some lp_L_sameParts_4 from by kernel_rfl]; exact fun d z h => (eb_L_sameParts_4 d.1 d.2.1 d.2.2.1 d.2.2.2.1).trans h), trivial⟩) (fun x => ef_L_sameParts x.1 x.2.1)
noncomputable def pl_I_areParts_1 : Plan := ⟨[], [], 0, 0⟩
noncomputable def f_I_areParts_1 (t0 : PV Y_impl_Part) : Option (PVs [.bool] × PVs []) :=
  (f_I_in t0.1 1 5).bind fun r1 =>
    some (((!r1.1.1), ()), ())
noncomputable def ct_I_areParts_1 : Ct := ⟨[(.bor, Y_impl_Part)], [(.bool, .b)], fun x => f_I_areParts_1 x.1⟩
noncomputable def cx_I_areParts_1 : Cx := ⟨tab, arrs, [(104, ct_I_in)], [], gl, []⟩
theorem ef_I_areParts_1 (t0 : PV Y_impl_Part) : denF cx_I_areParts_1 0 pl_I_areParts_1 Try.f169.ntmps (bodyOf Try.f169) Try.f169.results.toList [(.bor, Y_impl_Part)] [(.bool, .b)] (t0, ()) = f_I_areParts_1 t0 := by kernel_rfl
theorem ok_I_areParts_1 : FnOk gl Try.prog 169 ct_I_areParts_1 :=
  fnOk (cx := cx_I_areParts_1) (pl := pl_I_areParts_1) (dp := 0) (ok0_of tabOk (by unfold ArrOk; kernel_rfl) mix ⟨ok_I_in, trivial⟩ trivial) Try.func169 (by kernel_rfl) (by kernel_rfl) (by kernel_rfl)
    (by rw [show loopsOf (bodyOf Try.f169) = [] from by kernel_rfl]; exact trivial) (fun x => ef_I_areParts_1 x.1)
noncomputable def pl_I_areParts_168 : Plan := ⟨[], [], 1, 11⟩
noncomputable def sh_I_areParts_205_2 : List Sh := mkSh 39 [(0, .val S_impl_Part .b), (2, .val .bool .b), (3, .val S_impl_Part .b), (4, .val (.int .i64) .b), (5, .val .bool .b), (6, .val .bool .b), (7, .val S_impl_Part .b), (11, .val S_impl_Part .b), (12, .fn 169 []), (15, .val .bool .b), (16, .val S_impl_Part .b), (17, .fn 169 []), (20, .val S_impl_Part .b), (21, .fn 169 []), (27, .val (.int .i64) .b), (28, .val (.int .i64) .b)]
noncomputable def o_I_areParts_205_2 : List Out := [⟨.exit 0, ⟨[], [], []⟩, mkSh 39 [(0, .val S_impl_Part .b), (2, .val .bool .b), (3, .val S_impl_Part .b), (4, .val (.int .i64) .b), (5, .val .bool .b), (6, .val .bool .b), (7, .val S_impl_Part .b), (11, .val S_impl_Part .b), (12, .fn 169 []), (15, .val .bool .b), (16, .val S_impl_Part .b), (17, .fn 169 [])]⟩, ⟨.ret, ⟨[], [4], []⟩, mkSh 39 [(0, .val S_impl_Part .b), (2, .val .bool .b), (3, .val S_impl_Part .b), (4, .val (.int .i64) .b), (5, .val .bool .b), (6, .val .bool .b), (7, .val S_impl_Part .b), (11, .val S_impl_Part .b), (12, .fn 169 []), (15, .val .bool .b), (16, .val S_impl_Part .b), (17, .fn 169 []), (24, .val (.int .i64) .b)]⟩]
noncomputable def b_I_areParts_205_2 (t0 : PV S_impl_Part) (t2 : PV .bool) (t3 : PV S_impl_Part) (t4 : PV (.int .i64)) (t5 : PV .bool) (t6 : PV .bool) (t7 : PV S_impl_Part) (t11 : PV S_impl_Part) (t15 : PV .bool) (t16 : PV S_impl_Part) (t20 : PV S_impl_Part) (t27 : PV (.int .i64)) (t28 : PV (.int .i64)) : Option ((PV S_impl_Part × PV .bool × PV S_impl_Part × PV (.int .i64) × PV .bool × PV .bool × PV S_impl_Part × PV S_impl_Part × PV .bool × PV S_impl_Part × PV S_impl_Part × PV (.int .i64) × PV (.int .i64) × Unit) ⊕ ((PV S_impl_Part × PV .bool × PV S_impl_Part × PV (.int .i64) × PV .bool × PV .bool × PV S_impl_Part × PV S_impl_Part × PV .bool × PV S_impl_Part × Unit) ⊕ (PV S_impl_Part × PV .bool × PV S_impl_Part × PV (.int .i64) × PV .bool × PV .bool × PV S_impl_Part × PV S_impl_Part × PV .bool × PV S_impl_Part × PV (.int .i64) × Unit))) :=
  bif (decide (t28 < t27)) then
    bif inB t28 t20.length then
      (f_I_areParts_1 (t20.getD t28.toNat (dflt Y_impl_Part))).bind fun r4 =>
        bif r4.1.1 then
          some (.inr (.inr (t0, t2, t3, t4, t5, t6, t7, t11, t15, t16, t28, ())))
        else
          some (.inl (t0, t2, t3, t4, t5, t6, t7, t11, t15, t16, t20, t27, (IntKind.wrap .i64 (t28 + 1)), ()))
    else
      none
  else
    some (.inr (.inl (t0, t2, t3, t4, t5, t6, t7, t11, t15, t16, ())))
noncomputable def w_I_areParts_205_2 : PV S_impl_Part × PV .bool × PV S_impl_Part × PV (.int .i64) × PV .bool × PV .bool × PV S_impl_Part × PV S_impl_Part × PV .bool × PV S_impl_Part × PV S_impl_Part × PV (.int .i64) × PV (.int .i64) × Unit → Option ((PV S_impl_Part × PV .bool × PV S_impl_Part × PV (.int .i64) × PV .bool × PV .bool × PV S_impl_Part × PV S_impl_Part × PV .bool × PV S_impl_Part × Unit) ⊕ (PV S_impl_Part × PV .bool × PV S_impl_Part × PV (.int .i64) × PV .bool × PV .bool × PV S_impl_Part × PV S_impl_Part × PV .bool × PV S_impl_Part × PV (.int .i64) × Unit)) := fix fun d => b_I_areParts_205_2 d.1 d.2.1 d.2.2.1 d.2.2.2.1 d.2.2.2.2.1 d.2.2.2.2.2.1 d.2.2.2.2.2.2.1 d.2.2.2.2.2.2.2.1 d.2.2.2.2.2.2.2.2.1 d.2.2.2.2.2.2.2.2.2.1 d.2.2.2.2.2.2.2.2.2.2.1 d.2.2.2.2.2.2.2.2.2.2.2.1 d.2.2.2.2.2.2.2.2.2.2.2.2.1
noncomputable def lp_I_areParts_205_2 : Lp := ⟨⟨[], [0, 1, 7, 8], []⟩, sh_I_areParts_205_2, o_I_areParts_205_2, fun d => b_I_areParts_205_2 d.1 d.2.1 d.2.2.1 d.2.2.2.1 d.2.2.2.2.1 d.2.2.2.2.2.1 d.2.2.2.2.2.2.1 d.2.2.2.2.2.2.2.1 d.2.2.2.2.2.2.2.2.1 d.2.2.2.2.2.2.2.2.2.1 d.2.2.2.2.2.2.2.2.2.2.1 d.2.2.2.2.2.2.2.2.2.2.2.1 d.2.2.2.2.2.2.2.2.2.2.2.2.1⟩
noncomputable def pl_I_areParts_205 : Plan := ⟨[], [(2, lp_I_areParts_205_2)], 0, 20⟩
noncomputable def pl_I_areParts : Plan := ⟨[], [], 2, 0⟩
noncomputable def f_I_areParts (t0 : PV S_impl_Part) : Option (PVs [.bool] × PVs []) :=
  bif (decide ((t0.length : Int) ≤ 120)) then
    (w_I_areParts_205_2 (t0, false, t0, (t0.length : Int), (decide ((t0.length : Int) ≤ 120)), true, t0, t0, false, t0, t0, (t0.length : Int), 0, ())).bind fun x9 =>
      match x9 with
      | .inl l7 =>
        bif l7.2.2.2.2.2.1 then
          some (((!(decide ((-1) ≥ 0))), ()), ())
        else
          some ((false, ()), ())
      | .inr l8 =>
        bif l8.2.2.2.2.2.1 then
          some (((!(decide (l8.2.2.2.2.2.2.2.2.2.2.1 ≥ 0))), ()), ())
        else
          some ((false, ()), ())
  else
    some ((false, ()), ())
noncomputable def ct_I_areParts : Ct := ⟨[(.bor, S_impl_Part)], [(.bool, .b)], fun x => f_I_areParts x.1⟩
noncomputable def cx_I_areParts : Cx := ⟨tab, arrs, [(169, ct_I_areParts_1)], [(168, Try.f168, pl_I_areParts_168), (205, Try.f205, pl_I_areParts_205)], gl, []⟩
theorem eb_I_areParts_205_2 (t0 : PV S_impl_Part) (t2 : PV .bool) (t3 : PV S_impl_Part) (t4 : PV (.int .i64)) (t5 : PV .bool) (t6 : PV .bool) (t7 : PV S_impl_Part) (t11 : PV S_impl_Part) (t15 : PV .bool) (t16 : PV S_impl_Part) (t20 : PV S_impl_Part) (t27 : PV (.int .i64)) (t28 : PV (.int .i64)) : denK cx_I_areParts (rcN cx_I_areParts 0) pl_I_areParts_205 20 ((loopsOf (bodyOf Try.f205)).getD 0 .skip) (fillS sh_I_areParts_205_2 (t0, t2, t3, t4, t5, t6, t7, t11, t15, t16, t20, t27, t28, ())) (roundK 20 lp_I_areParts_205_2) = b_I_areParts_205_2 t0 t2 t3 t4 t5 t6 t7 t11 t15 t16 t20 t27 t28 := by kernel_rfl
theorem ef_I_areParts (t0 : PV S_impl_Part) : denF cx_I_areParts 2 pl_I_areParts Try.f105.ntmps (bodyOf Try.f105) Try.f105.results.toList [(.bor, S_impl_Part)] [(.bool, .b)] (t0, ()) = f_I_areParts t0 := by kernel_rfl
theorem ok_I_areParts : FnOk gl Try.prog 105 ct_I_areParts :=
  fnOk (cx := cx_I_areParts) (pl := pl_I_areParts) (dp := 2) (ok0_of tabOk (by unfold ArrOk; kernel_rfl) mix ⟨ok_I_areParts_1, trivial⟩ ⟨⟨Try.func168, by kernel_rfl, (by rw [show loopsOf (bodyOf Try.f168) = [] from by kernel_rfl]; exact trivial)⟩, ⟨Try.func205, by kernel_rfl, (by rw [show loopsOf (bodyOf Try.f205) = [((loopsOf (bodyOf Try.f205)).getD 0 .skip)] from by kernel_rfl]; exact ⟨(by rw [show lookup pl_I_areParts_205.loops (firstId ((loopsOf (bodyOf Try.f205)).getD 0 .skip)) = some lp_I_areParts_205_2 from by kernel_rfl]; exact fun d z h => (eb_I_areParts_205_2 d.1 d.2.1 d.2.2.1 d.2.2.2.1 d.2.2.2.2.1 d.2.2.2.2.2.1 d.2.2.2.2.2.2.1 d.2.2.2.2.2.2.2.1 d.2.2.2.2.2.2.2.2.1 d.2.2.2.2.2.2.2.2.2.1 d.2.2.2.2.2.2.2.2.2.2.1 d.2.2.2.2.2.2.2.2.2.2.2.1 d.2.2.2.2.2.2.2.2.2.2.2.2.1).trans h), trivial⟩)⟩, trivial⟩) Try.func105 (by kernel_rfl) (by kernel_rfl) (by kernel_rfl)
    (by rw [show loopsOf (bodyOf Try.f105) = [] from by kernel_rfl]; exact trivial) (fun x => ef_I_areParts x.1)
noncomputable def o_I_goodParts_2 : List Out := [⟨.normal, ⟨[], [0, 1, 15, 28, 29, 30, 31, 32, 33, 34, 37, 38, 39, 40, 43, 44, 45, 46, 63, 64, 65, 66, 67, 68, 69, 70, 71, 72, 73, 74, 75, 76, 77, 78], []⟩, mkSh 87 [(0, .val S_string .b), (1, .val S_impl_Part .b), (15, .val .bool .b)]⟩]
noncomputable def o_I_goodParts_8 : List Out := [⟨.normal, ⟨[], [0, 1, 6, 7, 16, 17, 18, 47, 63, 64, 65, 66, 67, 68, 69, 70, 71, 72, 73, 74, 75, 76, 77, 78], []⟩, mkSh 87 [(0, .val S_string .b), (1, .val S_impl_Part .b), (6, .val (.int .i64) .b), (7, .var Y_impl_Part .b), (16, .val S_impl_Part .b), (17, .val (.int .i64) .b), (18, .val (.int .i64) .b), (47, .val .bool .b)]⟩]
noncomputable def o_I_goodParts_10 : List Out := [⟨.normal, ⟨[], [0, 1, 7, 16, 17, 18, 28, 29, 30, 31, 32, 33, 34, 37, 38, 39, 40, 43, 44, 45, 46, 79], []⟩, mkSh 87 [(0, .val S_string .b), (1, .val S_impl_Part .b), (7, .var Y_impl_Part .b), (16, .val S_impl_Part .b), (17, .val (.int .i64) .b), (18, .val (.int .i64) .b), (79, .val .bool .b)]⟩]
noncomputable def sh_I_goodParts_5 : List Sh := mkSh 87 [(0, .val S_string .b), (1, .val S_impl_Part .b), (5, .val (.int .i64) .b), (16, .val S_impl_Part .b), (17, .val (.int .i64) .b), (18, .val (.int .i64) .b)]
noncomputable def o_I_goodParts_5 : List Out := [⟨.exit 0, ⟨[], [0, 5], []⟩, mkSh 87 [(0, .val S_string .b), (5, .val (.int .i64) .b)]⟩, ⟨.ret, ⟨[], [4], []⟩, mkSh 87 [(4, .val .bool .b)]⟩]
noncomputable def b_I_goodParts_5 (t0 : PV S_string) (t1 : PV S_impl_Part) (t5 : PV (.int .i64)) (t16 : PV S_impl_Part) (t17 : PV (.int .i64)) (t18 : PV (.int .i64)) : Option ((PV S_string × PV S_impl_Part × PV (.int .i64) × PV S_impl_Part × PV (.int .i64) × PV (.int .i64) × Unit) ⊕ ((PV S_string × PV (.int .i64) × Unit) ⊕ (PV .bool × Unit))) :=
  bif (decide (t18 < t17)) then
    bif inB t18 t16.length then
      ((
          bif (!((((t16.getD t18.toNat (dflt Y_impl_Part)).2).1) == t5)) then
            some (t0, t1, t18, (t16.getD t18.toNat (dflt Y_impl_Part)), t16, t17, t18, true, ())
          else
            (f_I_in ((((t16.getD t18.toNat (dflt Y_impl_Part)).2).2).1) t5 (t0.length : Int)).bind fun r25 =>
              bif (!r25.1.1) then
                some (t0, t1, t18, (t16.getD t18.toNat (dflt Y_impl_Part)), t16, t17, t18, true, ())
              else
                (f_I_areLines (((((t16.getD t18.toNat (dflt Y_impl_Part)).2).2).2).1)).bind fun r26 =>
                  bif (!r26.1.1) then
                    some (t0, t1, t18, (t16.getD t18.toNat (dflt Y_impl_Part)), t16, t17, t18, true, ())
                  else
                    (f_I_areLines ((((((t16.getD t18.toNat (dflt Y_impl_Part)).2).2).2).2).1)).bind fun r27 =>
                      some (t0, t1, t18, (t16.getD t18.toNat (dflt Y_impl_Part)), t16, t17, t18, (!r27.1.1), ()) : Option ((PV S_string × PV S_impl_Part × PV (.int .i64) × PV Y_impl_Part × PV S_impl_Part × PV (.int .i64) × PV (.int .i64) × PV .bool × Unit)))).bind fun j28 =>
        bif j28.2.2.2.2.2.2.2.1 then
          some (.inr (.inr (false, ())))
        else
          ((
              bif cutB j28.2.2.2.1.2.1 j28.2.2.2.1.2.2.1 j28.1.length then
                (f_I_kindOf (cutL j28.2.2.2.1.2.1 j28.2.2.2.1.2.2.1 j28.1) j28.2.2.2.1.2.2.2.1 j28.2.2.2.1.2.2.2.2.1).bind fun r31 =>
                  bif (!(j28.2.2.2.1.1 == r31.1.1)) then
                    some (j28.1, j28.2.1, j28.2.2.2.1, j28.2.2.2.2.1, j28.2.2.2.2.2.1, j28.2.2.2.2.2.2.1, true, ())
                  else
                    bif (decide (j28.2.2.1 > 0)) then
                      bif (j28.2.2.2.1.1 == 1) then
                        bif inB (IntKind.wrap .i64 (j28.2.2.1 - 1)) j28.2.1.length then
                          some (j28.1, j28.2.1, j28.2.2.2.1, j28.2.2.2.2.1, j28.2.2.2.2.2.1, j28.2.2.2.2.2.2.1, (((j28.2.1.getD ((IntKind.wrap .i64 (j28.2.2.1 - 1)).toNat) (dflt Y_impl_Part)).1) == 1), ())
                        else
                          none
                      else
                        some (j28.1, j28.2.1, j28.2.2.2.1, j28.2.2.2.2.1, j28.2.2.2.2.2.1, j28.2.2.2.2.2.2.1, false, ())
                    else
                      some (j28.1, j28.2.1, j28.2.2.2.1, j28.2.2.2.2.1, j28.2.2.2.2.2.1, j28.2.2.2.2.2.2.1, false, ())
              else
                none : Option ((PV S_string × PV S_impl_Part × PV Y_impl_Part × PV S_impl_Part × PV (.int .i64) × PV (.int .i64) × PV .bool × Unit)))).bind fun j32 =>
            bif j32.2.2.2.2.2.2.1 then
              some (.inr (.inr (false, ())))
            else
              some (.inl (j32.1, j32.2.1, j32.2.2.1.2.2.1, j32.2.2.2.1, j32.2.2.2.2.1, (IntKind.wrap .i64 (j32.2.2.2.2.2.1 + 1)), ()))
    else
      none
  else
    some (.inr (.inl (t0, t5, ())))
noncomputable def w_I_goodParts_5 : PV S_string × PV S_impl_Part × PV (.int .i64) × PV S_impl_Part × PV (.int .i64) × PV (.int .i64) × Unit → Option ((PV S_string × PV (.int .i64) × Unit) ⊕ (PV .bool × Unit)) := fix fun d => b_I_goodParts_5 d.1 d.2.1 d.2.2.1 d.2.2.2.1 d.2.2.2.2.1 d.2.2.2.2.2.1
noncomputable def lp_I_goodParts_5 : Lp := ⟨⟨[], [0, 1, 5, 16, 17, 18, 28, 29, 30, 31, 32, 33, 34, 37, 38, 39, 40, 43, 44, 45, 46, 63, 64, 65, 66, 67, 68, 69, 70, 71, 72, 73, 74, 75, 76, 77, 78], []⟩, sh_I_goodParts_5, o_I_goodParts_5, fun d => b_I_goodParts_5 d.1 d.2.1 d.2.2.1 d.2.2.2.1 d.2.2.2.2.1 d.2.2.2.2.2.1⟩
noncomputable def pl_I_goodParts : Plan := ⟨[(2, o_I_goodParts_2), (8, o_I_goodParts_8), (10, o_I_goodParts_10)], [(5, lp_I_goodParts_5)], 0, 0⟩
noncomputable def f_I_goodParts (t0 : PV S_string) (t1 : PV S_impl_Part) : Option (PVs [.bool] × PVs []) :=
  ((
      (f_I_goodLines t0).bind fun r6 =>
        bif (!r6.1.1) then
          some (t0, t1, true, ())
        else
          (f_I_areParts t1).bind fun r7 =>
            some (t0, t1, (!r7.1.1), ()) : Option ((PV S_string × PV S_impl_Part × PV .bool × Unit)))).bind fun j8 =>
    bif j8.2.2.1 then
      some ((false, ()), ())
    else
      (w_I_goodParts_5 (j8.1, j8.2.1, 0, j8.2.1, (j8.2.1.length : Int), 0, ())).bind fun x37 =>
        match x37 with
        | .inl l35 =>
          some (((l35.2.1 == (l35.1.length : Int)), ()), ())
        | .inr l36 =>
          some ((l36.1, ()), ())
noncomputable def ct_I_goodParts : Ct := ⟨[(.bor, S_string), (.bor, S_impl_Part)], [(.bool, .b)], fun x => f_I_goodParts x.1 x.2.1⟩
noncomputable def cx_I_goodParts : Cx := ⟨tab, arrs, [(96, ct_I_goodLines), (104, ct_I_in), (105, ct_I_areParts), (147, ct_I_areLines), (165, ct_I_kindOf)], [], gl, []⟩
theorem eb_I_goodParts_5 (t0 : PV S_string) (t1 : PV S_impl_Part) (t5 : PV (.int .i64)) (t16 : PV S_impl_Part) (t17 : PV (.int .i64)) (t18 : PV (.int .i64)) : denK cx_I_goodParts (rcN cx_I_goodParts 0) pl_I_goodParts 0 ((loopsOf (bodyOf Try.f103)).getD 0 .skip) (fillS sh_I_goodParts_5 (t0, t1, t5, t16, t17, t18, ())) (roundK 0 lp_I_goodParts_5) = b_I_goodParts_5 t0 t1 t5 t16 t17 t18 := by kernel_rfl
theorem ef_I_goodParts (t0 : PV S_string) (t1 : PV S_impl_Part) : denF cx_I_goodParts 0 pl_I_goodParts Try.f103.ntmps (bodyOf Try.f103) Try.f103.results.toList [(.bor, S_string), (.bor, S_impl_Part)] [(.bool, .b)] (t0, t1, ()) = f_I_goodParts t0 t1 := by kernel_rfl
theorem ok_I_goodParts : FnOk gl Try.prog 103 ct_I_goodParts :=
  fnOk (cx := cx_I_goodParts) (pl := pl_I_goodParts) (dp := 0) (ok0_of tabOk (by unfold ArrOk; kernel_rfl) mix ⟨ok_I_goodLines, ok_I_in, ok_I_areParts, ok_I_areLines, ok_I_kindOf, trivial⟩ trivial) Try.func103 (by kernel_rfl) (by kernel_rfl) (by kernel_rfl)
    (by rw [show loopsOf (bodyOf Try.f103) = [((loopsOf (bodyOf Try.f103)).getD 0 .skip)] from by kernel_rfl]; exact ⟨(by rw [show lookup pl_I_goodParts.loops (firstId ((loopsOf (bodyOf Try.f103)).getD 0 .skip)) = some lp_I_goodParts_5 from by kernel_rfl]; exact fun d z h => (eb_I_goodParts_5 d.1 d.2.1 d.2.2.1 d.2.2.2.1 d.2.2.2.2.1 d.2.2.2.2.2.1).trans h), trivial⟩) (fun x => ef_I_goodParts x.1 x.2.1)
noncomputable def o_I_TakeSide_2 : List Out := [⟨.normal, ⟨[], [0, 1, 2, 19], []⟩, mkSh 48 [(0, .val S_string .b), (1, .val S_impl_Part .b), (2, .val (.int .i64) .b), (19, .val .bool .b)]⟩]
noncomputable def sh_I_TakeSide_5 : List Sh := mkSh 48 [(0, .val S_string .b), (2, .val (.int .i64) .b), (8, .val S_string (.row .b)), (21, .val S_impl_Part .b), (22, .val (.int .i64) .b), (23, .val (.int .i64) .b)]
noncomputable def o_I_TakeSide_5 : List Out := [⟨.exit 0, ⟨[], [8], []⟩, mkSh 48 [(8, .val S_string (.row .b))]⟩]
noncomputable def b_I_TakeSide_5 (t0 : PV S_string) (t2 : PV (.int .i64)) (t8 : PV S_string) (t21 : PV S_impl_Part) (t22 : PV (.int .i64)) (t23 : PV (.int .i64)) : Option ((PV S_string × PV (.int .i64) × PV S_string × PV S_impl_Part × PV (.int .i64) × PV (.int .i64) × Unit) ⊕ ((PV S_string × Unit))) :=
  bif (decide (t23 < t22)) then
    bif inB t23 t21.length then
      bif cutB (((t21.getD t23.toNat (dflt Y_impl_Part)).2).1) ((((t21.getD t23.toNat (dflt Y_impl_Part)).2).2).1) t0.length then
        bif inB t2 [(cutL (((t21.getD t23.toNat (dflt Y_impl_Part)).2).1) ((((t21.getD t23.toNat (dflt Y_impl_Part)).2).2).1) t0), ((((t21.getD t23.toNat (dflt Y_impl_Part)).2).2).2).1, (((((t21.getD t23.toNat (dflt Y_impl_Part)).2).2).2).2).1].length then
          bif roomB (t8.length + ([(cutL (((t21.getD t23.toNat (dflt Y_impl_Part)).2).1) ((((t21.getD t23.toNat (dflt Y_impl_Part)).2).2).1) t0), ((((t21.getD t23.toNat (dflt Y_impl_Part)).2).2).2).1, (((((t21.getD t23.toNat (dflt Y_impl_Part)).2).2).2).2).1].getD t2.toNat []).length) then
            some (.inl (t0, t2, (t8 ++ ([(cutL (((t21.getD t23.toNat (dflt Y_impl_Part)).2).1) ((((t21.getD t23.toNat (dflt Y_impl_Part)).2).2).1) t0), ((((t21.getD t23.toNat (dflt Y_impl_Part)).2).2).2).1, (((((t21.getD t23.toNat (dflt Y_impl_Part)).2).2).2).2).1].getD t2.toNat [])), t21, t22, (IntKind.wrap .i64 (t23 + 1)), ()))
          else
            none
        else
          none
      else
        none
    else
      none
  else
    some (.inr (t8, ()))
noncomputable def w_I_TakeSide_5 : PV S_string × PV (.int .i64) × PV S_string × PV S_impl_Part × PV (.int .i64) × PV (.int .i64) × Unit → Option ((PV S_string × Unit)) := fix fun d => b_I_TakeSide_5 d.1 d.2.1 d.2.2.1 d.2.2.2.1 d.2.2.2.2.1 d.2.2.2.2.2.1
noncomputable def lp_I_TakeSide_5 : Lp := ⟨⟨[], [0, 2, 8, 21, 22, 23], []⟩, sh_I_TakeSide_5, o_I_TakeSide_5, fun d => b_I_TakeSide_5 d.1 d.2.1 d.2.2.1 d.2.2.2.1 d.2.2.2.2.1 d.2.2.2.2.2.1⟩
noncomputable def pl_I_TakeSide : Plan := ⟨[(2, o_I_TakeSide_2)], [(5, lp_I_TakeSide_5)], 0, 0⟩
noncomputable def f_I_TakeSide (t0 : PV S_string) (t1 : PV S_impl_Part) (t2 : PV (.int .i64)) : Option (PVs [S_string, .bool] × PVs []) :=
  ((
      (f_I_goodParts t0 t1).bind fun r6 =>
        bif (!r6.1.1) then
          some (t0, t1, t2, true, ())
        else
          (f_I_in t2 0 2).bind fun r7 =>
            some (t0, t1, t2, (!r7.1.1), ()) : Option ((PV S_string × PV S_impl_Part × PV (.int .i64) × PV .bool × Unit)))).bind fun j8 =>
    bif j8.2.2.2.1 then
      some (([], false, ()), ())
    else
      (w_I_TakeSide_5 (j8.1, j8.2.2.1, ([] : PV S_string), j8.2.1, (j8.2.1.length : Int), 0, ())).bind fun l10 =>
        (f_I_goodLines l10.1).bind fun r14 =>
          bif (!r14.1.1) then
            some (([], false, ()), ())
          else
            some ((l10.1, true, ()), ())
noncomputable def ct_I_TakeSide : Ct := ⟨[(.bor, S_string), (.bor, S_impl_Part), (.bor, (.int .i64))], [(S_string, (.row .b)), (.bool, .b)], fun x => f_I_TakeSide x.1 x.2.1 x.2.2.1⟩
noncomputable def cx_I_TakeSide : Cx := ⟨tab, arrs, [(96, ct_I_goodLines), (103, ct_I_goodParts), (104, ct_I_in)], [], gl, []⟩
theorem eb_I_TakeSide_5 (t0 : PV S_string) (t2 : PV (.int .i64)) (t8 : PV S_string) (t21 : PV S_impl_Part) (t22 : PV (.int .i64)) (t23 : PV (.int .i64)) : denK cx_I_TakeSide (rcN cx_I_TakeSide 0) pl_I_TakeSide 0 ((loopsOf (bodyOf Try.f36)).getD 0 .skip) (fillS sh_I_TakeSide_5 (t0, t2, t8, t21, t22, t23, ())) (roundK 0 lp_I_TakeSide_5) = b_I_TakeSide_5 t0 t2 t8 t21 t22 t23 := by kernel_rfl
theorem ef_I_TakeSide (t0 : PV S_string) (t1 : PV S_impl_Part) (t2 : PV (.int .i64)) : denF cx_I_TakeSide 0 pl_I_TakeSide Try.f36.ntmps (bodyOf Try.f36) Try.f36.results.toList [(.bor, S_string), (.bor, S_impl_Part), (.bor, (.int .i64))] [(S_string, (.row .b)), (.bool, .b)] (t0, t1, t2, ()) = f_I_TakeSide t0 t1 t2 := by kernel_rfl
theorem ok_I_TakeSide : FnOk gl Try.prog 36 ct_I_TakeSide :=
  fnOk (cx := cx_I_TakeSide) (pl := pl_I_TakeSide) (dp := 0) (ok0_of tabOk (by unfold ArrOk; kernel_rfl) mix ⟨ok_I_goodLines, ok_I_goodParts, ok_I_in, trivial⟩ trivial) Try.func36 (by kernel_rfl) (by kernel_rfl) (by kernel_rfl)
    (by rw [show loopsOf (bodyOf Try.f36) = [((loopsOf (bodyOf Try.f36)).getD 0 .skip)] from by kernel_rfl]; exact ⟨(by rw [show lookup pl_I_TakeSide.loops (firstId ((loopsOf (bodyOf Try.f36)).getD 0 .skip)) = some lp_I_TakeSide_5 from by kernel_rfl]; exact fun d z h => (eb_I_TakeSide_5 d.1 d.2.1 d.2.2.1 d.2.2.2.1 d.2.2.2.2.1 d.2.2.2.2.2.1).trans h), trivial⟩) (fun x => ef_I_TakeSide x.1 x.2.1 x.2.2.1)
noncomputable def o_I_SwapSides_12 : List Out := [⟨.normal, ⟨[(6, .b)], [4, 6, 11, 12, 13], []⟩, mkSh 39 [(4, .val S_impl_Part (.row (.pr .b (.pr .b (.pr .b (.pr (.row .b) (.pr (.row .b) .b))))))), (6, .var Y_impl_Part .b), (11, .val S_impl_Part .b), (12, .val (.int .i64) .b), (13, .val (.int .i64) .b)]⟩]
noncomputable def sh_I_SwapSides_5 : List Sh := mkSh 39 [(4, .val S_impl_Part (.row (.pr .b (.pr .b (.pr .b (.pr (.row .b) (.pr (.row .b) .b))))))), (11, .val S_impl_Part .b), (12, .val (.int .i64) .b), (13, .val (.int .i64) .b)]
noncomputable def o_I_SwapSides_5 : List Out := [⟨.exit 0, ⟨[], [4], []⟩, mkSh 39 [(4, .val S_impl_Part (.row (.pr .b (.pr .b (.pr .b (.pr (.row .b) (.pr (.row .b) .b)))))))]⟩]
noncomputable def b_I_SwapSides_5 (t4 : PV S_impl_Part) (t11 : PV S_impl_Part) (t12 : PV (.int .i64)) (t13 : PV (.int .i64)) : Option ((PV S_impl_Part × PV S_impl_Part × PV (.int .i64) × PV (.int .i64) × Unit) ⊕ ((PV S_impl_Part × Unit))) :=
  bif (decide (t13 < t12)) then
    bif inB t13 t11.length then
      ((
          bif (((t11.getD t13.toNat (dflt Y_impl_Part)).1) == 2) then
            some (t4, (3, (t11.getD t13.toNat (dflt Y_impl_Part)).2), t11, t12, t13, ())
          else
            bif (((t11.getD t13.toNat (dflt Y_impl_Part)).1) == 3) then
              some (t4, (2, (t11.getD t13.toNat (dflt Y_impl_Part)).2), t11, t12, t13, ())
            else
              some (t4, (t11.getD t13.toNat (dflt Y_impl_Part)), t11, t12, t13, ()) : Option ((PV S_impl_Part × PV Y_impl_Part × PV S_impl_Part × PV (.int .i64) × PV (.int .i64) × Unit)))).bind fun j10 =>
        (f_slices_Clone_string j10.2.1.2.2.2.2.1).bind fun r13 =>
          (f_slices_Clone_string j10.2.1.2.2.2.1).bind fun r14 =>
            bif roomB (j10.1.length + [(j10.2.1.1, (j10.2.1.2.1, (j10.2.1.2.2.1, (r13.1.1, (r14.1.1, j10.2.1.2.2.2.2.2)))))].length) then
              some (.inl ((j10.1 ++ [(j10.2.1.1, (j10.2.1.2.1, (j10.2.1.2.2.1, (r13.1.1, (r14.1.1, j10.2.1.2.2.2.2.2)))))]), j10.2.2.1, j10.2.2.2.1, (IntKind.wrap .i64 (j10.2.2.2.2.1 + 1)), ()))
            else
              none
    else
      none
  else
    some (.inr (t4, ()))
noncomputable def w_I_SwapSides_5 : PV S_impl_Part × PV S_impl_Part × PV (.int .i64) × PV (.int .i64) × Unit → Option ((PV S_impl_Part × Unit)) := fix fun d => b_I_SwapSides_5 d.1 d.2.1 d.2.2.1 d.2.2.2.1
noncomputable def lp_I_SwapSides_5 : Lp := ⟨⟨[], [4, 11, 12, 13], []⟩, sh_I_SwapSides_5, o_I_SwapSides_5, fun d => b_I_SwapSides_5 d.1 d.2.1 d.2.2.1 d.2.2.2.1⟩
noncomputable def pl_I_SwapSides : Plan := ⟨[(12, o_I_SwapSides_12)], [(5, lp_I_SwapSides_5)], 0, 0⟩
noncomputable def f_I_SwapSides (t0 : PV S_impl_Part) : Option (PVs [S_impl_Part, .bool] × PVs []) :=
  (f_I_areParts t0).bind fun r4 =>
    bif (!r4.1.1) then
      some (([], false, ()), ())
    else
      (w_I_SwapSides_5 (([] : PV S_impl_Part), t0, (t0.length : Int), 0, ())).bind fun l16 =>
        some ((l16.1, true, ()), ())
noncomputable def ct_I_SwapSides : Ct := ⟨[(.bor, S_impl_Part)], [(S_impl_Part, (.row (.pr .b (.pr .b (.pr .b (.pr (.row .b) (.pr (.row .b) .b))))))), (.bool, .b)], fun x => f_I_SwapSides x.1⟩
noncomputable def cx_I_SwapSides : Cx := ⟨tab, arrs, [(97, ct_slices_Clone_string), (105, ct_I_areParts)], [], gl, []⟩
theorem eb_I_SwapSides_5 (t4 : PV S_impl_Part) (t11 : PV S_impl_Part) (t12 : PV (.int .i64)) (t13 : PV (.int .i64)) : denK cx_I_SwapSides (rcN cx_I_SwapSides 0) pl_I_SwapSides 0 ((loopsOf (bodyOf Try.f37)).getD 0 .skip) (fillS sh_I_SwapSides_5 (t4, t11, t12, t13, ())) (roundK 0 lp_I_SwapSides_5) = b_I_SwapSides_5 t4 t11 t12 t13 := by kernel_rfl
theorem ef_I_SwapSides (t0 : PV S_impl_Part) : denF cx_I_SwapSides 0 pl_I_SwapSides Try.f37.ntmps (bodyOf Try.f37) Try.f37.results.toList [(.bor, S_impl_Part)] [(S_impl_Part, (.row (.pr .b (.pr .b (.pr .b (.pr (.row .b) (.pr (.row .b) .b))))))), (.bool, .b)] (t0, ()) = f_I_SwapSides t0 := by kernel_rfl
theorem ok_I_SwapSides : FnOk gl Try.prog 37 ct_I_SwapSides :=
  fnOk (cx := cx_I_SwapSides) (pl := pl_I_SwapSides) (dp := 0) (ok0_of tabOk (by unfold ArrOk; kernel_rfl) mix ⟨ok_slices_Clone_string, ok_I_areParts, trivial⟩ trivial) Try.func37 (by kernel_rfl) (by kernel_rfl) (by kernel_rfl)
    (by rw [show loopsOf (bodyOf Try.f37) = [((loopsOf (bodyOf Try.f37)).getD 0 .skip)] from by kernel_rfl]; exact ⟨(by rw [show lookup pl_I_SwapSides.loops (firstId ((loopsOf (bodyOf Try.f37)).getD 0 .skip)) = some lp_I_SwapSides_5 from by kernel_rfl]; exact fun d z h => (eb_I_SwapSides_5 d.1 d.2.1 d.2.2.1 d.2.2.2.1).trans h), trivial⟩) (fun x => ef_I_SwapSides x.1)
noncomputable def pl_I_GoodParts : Plan := ⟨[], [], 0, 0⟩
noncomputable def f_I_GoodParts (t0 : PV S_string) (t1 : PV S_impl_Part) : Option (PVs [.bool] × PVs []) :=
  (f_I_goodParts t0 t1).bind fun r1 =>
    some ((r1.1.1, ()), ())
noncomputable def ct_I_GoodParts : Ct := ⟨[(.bor, S_string), (.bor, S_impl_Part)], [(.bool, .b)], fun x => f_I_GoodParts x.1 x.2.1⟩
noncomputable def cx_I_GoodParts : Cx := ⟨tab, arrs, [(103, ct_I_goodParts)], [], gl, []⟩
theorem ef_I_GoodParts (t0 : PV S_string) (t1 : PV S_impl_Part) : denF cx_I_GoodParts 0 pl_I_GoodParts Try.f38.ntmps (bodyOf Try.f38) Try.f38.results.toList [(.bor, S_string), (.bor, S_impl_Part)] [(.bool, .b)] (t0, t1, ()) = f_I_GoodParts t0 t1 := by kernel_rfl
theorem ok_I_GoodParts : FnOk gl Try.prog 38 ct_I_GoodParts :=
  fnOk (cx := cx_I_GoodParts) (pl := pl_I_GoodParts) (dp := 0) (ok0_of tabOk (by unfold ArrOk; kernel_rfl) mix ⟨ok_I_goodParts, trivial⟩ trivial) Try.func38 (by kernel_rfl) (by kernel_rfl) (by kernel_rfl)
    (by rw [show loopsOf (bodyOf Try.f38) = [] from by kernel_rfl]; exact trivial) (fun x => ef_I_GoodParts x.1 x.2.1)
noncomputable def o_S_l1Cur_parts_12 : List Out := [⟨.normal, ⟨[], [4, 7], []⟩, mkSh 66 [(0, .var Y_spec_l1Cur .b), (5, .val S_string .b), (8, .val S_impl_Part (.row (.pr .b (.pr .b (.pr .b (.pr (.row .b) (.pr (.row .b) .b)))))))]⟩]
noncomputable def pl_S_l1Cur_parts : Plan := ⟨[(12, o_S_l1Cur_parts_12)], [], 0, 1⟩
noncomputable def f_S_l1Cur_parts (t0 : PV Y_spec_l1Cur) : Option (PVs [S_string, S_impl_Part] × PVs [Y_spec_l1Cur]) :=
  (f_S_l1Cur_three t0).bind fun r2 =>
    (f_S_PartsOf r2.1.1 r2.1.2.1 r2.1.2.2.1).bind fun r4 =>
      ((
          bif (decide ((r4.1.1.length : Int) > 0)) then
            (f_S_l1Cur_pick r2.2.1 (r4.1.1.length : Int)).bind fun r11 =>
              (f_S_l1Cur_pick r11.2.1 15).bind fun r13 =>
                bif (r13.1.1 == 0) then
                  (f_S_l1Cur_pick r13.2.1 7).bind fun r14 =>
                    bif inB r11.1.1 r4.1.1.length then
                      some (r14.2.1, r2.1.1, (r4.1.1.set r11.1.1.toNat (r14.1.1, (r4.1.1.getD r11.1.1.toNat (dflt Y_impl_Part)).2)), ())
                    else
                      none
                else
                  bif (r13.1.1 == 1) then
                    bif inB r11.1.1 r4.1.1.length then
                      bif inB r11.1.1 r4.1.1.length then
                        some (r13.2.1, r2.1.1, (r4.1.1.set r11.1.1.toNat ((r4.1.1.getD r11.1.1.toNat (dflt Y_impl_Part)).1, (((r4.1.1.getD r11.1.1.toNat (dflt Y_impl_Part)).2).1, ((IntKind.wrap .i64 (((((r4.1.1.getD r11.1.1.toNat (dflt Y_impl_Part)).2).2).1) + 1)), (((r4.1.1.getD r11.1.1.toNat (dflt Y_impl_Part)).2).2).2)))), ())
                      else
                        none
                    else
                      none
                  else
                    bif (r13.1.1 == 2) then
                      bif inB r11.1.1 r4.1.1.length then
                        bif roomB ((((((r4.1.1.getD r11.1.1.toNat (dflt Y_impl_Part)).2).2).2).1).length + [[122, 10]].length) then
                          bif decide (0 ≤ r11.1.1) && (r11.1.1.toNat == r11.1.1.toNat) then
                            bif ((r11.1.1.toNat == r11.1.1.toNat) && true) then
                              bif ((r11.1.1.toNat == r11.1.1.toNat) && true) then
                                some (r13.2.1, r2.1.1, (r4.1.1.set r11.1.1.toNat ((r4.1.1.getD r11.1.1.toNat (dflt Y_impl_Part)).1, (((r4.1.1.getD r11.1.1.toNat (dflt Y_impl_Part)).2).1, ((((r4.1.1.getD r11.1.1.toNat (dflt Y_impl_Part)).2).2).1, (((((((r4.1.1.getD r11.1.1.toNat (dflt Y_impl_Part)).2).2).2).1) ++ [[122, 10]]), ((((r4.1.1.getD r11.1.1.toNat (dflt Y_impl_Part)).2).2).2).2))))), ())
                              else
                                none
                            else
                              none
                          else
                            none
                        else
                          none
                      else
                        none
                    else
                      some (r13.2.1, r2.1.1, r4.1.1, ())
          else
            some (r2.2.1, r2.1.1, r4.1.1, ()) : Option ((PV Y_spec_l1Cur × PV S_string × PV S_impl_Part × Unit)))).bind fun j15 =>
        some ((j15.2.1, j15.2.2.1, ()), (j15.1, ()))
noncomputable def ct_S_l1Cur_parts : Ct := ⟨[(.ptr, Y_spec_l1Cur)], [(S_string, .b), (S_impl_Part, (.row (.pr .b (.pr .b (.pr .b (.pr (.row .b) (.pr (.row .b) .b)))))))], fun x => f_S_l1Cur_parts x.1⟩
noncomputable def cx_S_l1Cur_parts : Cx := ⟨tab, arrs, [(34, ct_S_PartsOf), (99, ct_S_l1Cur_three), (107, ct_S_l1Cur_pick)], [], gl, []⟩
theorem ef_S_l1Cur_parts (t0 : PV Y_spec_l1Cur) : denF cx_S_l1Cur_parts 0 pl_S_l1Cur_parts Try.f106.ntmps (bodyOf Try.f106) Try.f106.results.toList [(.ptr, Y_spec_l1Cur)] [(S_string, .b), (S_impl_Part, (.row (.pr .b (.pr .b (.pr .b (.pr (.row .b) (.pr (.row .b) .b)))))))] (t0, ()) = f_S_l1Cur_parts t0 := by kernel_rfl
theorem ok_S_l1Cur_parts : FnOk gl Try.prog 106 ct_S_l1Cur_parts :=
  fnOk (cx := cx_S_l1Cur_parts) (pl := pl_S_l1Cur_parts) (dp := 0) (ok0_of tabOk (by unfold ArrOk; kernel_rfl) mix ⟨ok_S_PartsOf, ok_S_l1Cur_three, ok_S_l1Cur_pick, trivial⟩ trivial) Try.func106 (by kernel_rfl) (by kernel_rfl) (by kernel_rfl)
    (by rw [show loopsOf (bodyOf Try.f106) = [] from by kernel_rfl]; exact trivial) (fun x => ef_S_l1Cur_parts x.1)
noncomputable def pl_S_DrawGoodParts : Plan := ⟨[], [], 0, 0⟩
noncomputable def f_S_DrawGoodParts (t0 : PV S_uint8) : Option (PVs [S_string, S_impl_Part] × PVs []) :=
  (f_S_l1Cur_parts (t0, (0, (0, ())))).bind fun r1 =>
    some ((r1.1.1, r1.1.2.1, ()), ())
noncomputable def ct_S_DrawGoodParts : Ct := ⟨[(.bor, S_uint8)], [(S_string, .b), (S_impl_Part, (.row (.pr .b (.pr .b (.pr .b (.pr (.row .b) (.pr (.row .b) .b)))))))], fun x => f_S_DrawGoodParts x.1⟩
noncomputable def cx_S_DrawGoodParts : Cx := ⟨tab, arrs, [(106, ct_S_l1Cur_parts)], [], gl, []⟩
theorem ef_S_DrawGoodParts (t0 : PV S_uint8) : denF cx_S_DrawGoodParts 0 pl_S_DrawGoodParts Try.f40.ntmps (bodyOf Try.f40) Try.f40.results.toList [(.bor, S_uint8)] [(S_string, .b), (S_impl_Part, (.row (.pr .b (.pr .b (.pr .b (.pr (.row .b) (.pr (.row .b) .b)))))))] (t0, ()) = f_S_DrawGoodParts t0 := by kernel_rfl
theorem ok_S_DrawGoodParts : FnOk gl Try.prog 40 ct_S_DrawGoodParts :=
  fnOk (cx := cx_S_DrawGoodParts) (pl := pl_S_DrawGoodParts) (dp := 0) (ok0_of tabOk (by unfold ArrOk; kernel_rfl) mix ⟨ok_S_l1Cur_parts, trivial⟩ trivial) Try.func40 (by kernel_rfl) (by kernel_rfl) (by kernel_rfl)
    (by rw [show loopsOf (bodyOf Try.f40) = [] from by kernel_rfl]; exact trivial) (fun x => ef_S_DrawGoodParts x.1)
noncomputable def pl_S_DrawTakeSide : Plan := ⟨[], [], 0, 0⟩
noncomputable def f_S_DrawTakeSide (t0 : PV S_uint8) : Option (PVs [S_string, S_impl_Part, (.int .i64)] × PVs []) :=
  (f_S_l1Cur_parts (t0, (0, (0, ())))).bind fun r2 =>
    (f_S_l1Cur_pick r2.2.1 4).bind fun r3 =>
      some ((r2.1.1, r2.1.2.1, r3.1.1, ()), ())
noncomputable def ct_S_DrawTakeSide : Ct := ⟨[(.bor, S_uint8)], [(S_string, .b), (S_impl_Part, (.row (.pr .b (.pr .b (.pr .b (.pr (.row .b) (.pr (.row .b) .b))))))), ((.int .i64), .b)], fun x => f_S_DrawTakeSide x.1⟩
noncomputable def cx_S_DrawTakeSide : Cx := ⟨tab, arrs, [(106, ct_S_l1Cur_parts), (107, ct_S_l1Cur_pick)], [], gl, []⟩
theorem ef_S_DrawTakeSide (t0 : PV S_uint8) : denF cx_S_DrawTakeSide 0 pl_S_DrawTakeSide Try.f41.ntmps (bodyOf Try.f41) Try.f41.results.toList [(.bor, S_uint8)] [(S_string, .b), (S_impl_Part, (.row (.pr .b (.pr .b (.pr .b (.pr (.row .b) (.pr (.row .b) .b))))))), ((.int .i64), .b)] (t0, ()) = f_S_DrawTakeSide t0 := by kernel_rfl
theorem ok_S_DrawTakeSide : FnOk gl Try.prog 41 ct_S_DrawTakeSide :=
  fnOk (cx := cx_S_DrawTakeSide) (pl := pl_S_DrawTakeSide) (dp := 0) (ok0_of tabOk (by unfold ArrOk; kernel_rfl) mix ⟨ok_S_l1Cur_parts, ok_S_l1Cur_pick, trivial⟩ trivial) Try.func41 (by kernel_rfl) (by kernel_rfl) (by kernel_rfl)
    (by rw [show loopsOf (bodyOf Try.f41) = [] from by kernel_rfl]; exact trivial) (fun x => ef_S_DrawTakeSide x.1)
noncomputable def o_S_l11Good_6 : List Out := [⟨.normal, ⟨[], [0, 1, 6, 7, 11, 12, 13, 42, 74, 75, 76, 77, 78, 79, 80, 81, 82, 83, 84, 85, 86, 87, 88, 89, 90, 91, 92, 93, 94, 102, 103, 104, 105, 108, 109, 110], []⟩, mkSh 112 [(0, .val S_string .b), (1, .val S_impl_Part .b), (6, .val (.int .i64) .b), (7, .var Y_impl_Part .b), (11, .val S_impl_Part .b), (12, .val (.int .i64) .b), (13, .val (.int .i64) .b), (42, .val .bool .b)]⟩]
noncomputable def o_S_l11Good_15 : List Out := [⟨.normal, ⟨[], [0, 1, 7, 11, 12, 13, 23, 24, 25, 26, 27, 28, 29, 32, 33, 34, 35, 38, 39, 40, 41, 95, 102, 103, 104, 105, 108, 109, 110], []⟩, mkSh 112 [(0, .val S_string .b), (1, .val S_impl_Part .b), (7, .var Y_impl_Part .b), (11, .val S_impl_Part .b), (12, .val (.int .i64) .b), (13, .val (.int .i64) .b), (95, .val .bool .b)]⟩]
noncomputable def sh_S_l11Good_8 : List Sh := mkSh 112 [(0, .val S_string .b), (1, .val S_impl_Part .b), (6, .val (.int .i64) .b), (7, .var Y_impl_Part .b), (11, .val S_impl_Part .b), (12, .val (.int .i64) .b), (13, .val (.int .i64) .b), (48, .val S_string (.row .b)), (49, .val (.int .i64) .b), (50, .val (.int .i64) .b)]
noncomputable def o_S_l11Good_8 : List Out := [⟨.exit 2, ⟨[], [0, 1, 6, 7, 11, 12, 13, 23, 24, 25, 26, 27, 28, 29, 32, 33, 34, 35, 38, 39, 40, 41, 74, 75, 76, 77, 78, 79, 80, 81, 82, 83, 84, 85, 86, 87, 88, 89, 90, 91, 92, 93, 94, 102, 103, 104, 105, 108, 109, 110], []⟩, mkSh 112 [(0, .val S_string .b), (1, .val S_impl_Part .b), (6, .val (.int .i64) .b), (7, .var Y_impl_Part .b), (11, .val S_impl_Part .b), (12, .val (.int .i64) .b), (13, .val (.int .i64) .b)]⟩, ⟨.ret, ⟨[], [4], []⟩, mkSh 112 [(4, .val .bool .b)]⟩]
noncomputable def b_S_l11Good_8 (t0 : PV S_string) (t1 : PV S_impl_Part) (t6 : PV (.int .i64)) (t7 : PV Y_impl_Part) (t11 : PV S_impl_Part) (t12 : PV (.int .i64)) (t13 : PV (.int .i64)) (t48 : PV S_string) (t49 : PV (.int .i64)) (t50 : PV (.int .i64)) : Option ((PV S_string × PV S_impl_Part × PV (.int .i64) × PV Y_impl_Part × PV S_impl_Part × PV (.int .i64) × PV (.int .i64) × PV S_string × PV (.int .i64) × PV (.int .i64) × Unit) ⊕ ((PV S_string × PV S_impl_Part × PV (.int .i64) × PV Y_impl_Part × PV S_impl_Part × PV (.int .i64) × PV (.int .i64) × Unit) ⊕ (PV .bool × Unit))) :=
  bif (decide (t50 < t49)) then
    bif inB t50 t48.length then
      (f_S_l1Line (t48.getD t50.toNat [])).bind fun r11 =>
        bif (!r11.1.1) then
          some (.inr (.inr (false, ())))
        else
          some (.inl (t0, t1, t6, t7, t11, t12, t13, t48, t49, (IntKind.wrap .i64 (t50 + 1)), ()))
    else
      none
  else
    some (.inr (.inl (t0, t1, t6, t7, t11, t12, t13, ())))
noncomputable def w_S_l11Good_8 : PV S_string × PV S_impl_Part × PV (.int .i64) × PV Y_impl_Part × PV S_impl_Part × PV (.int .i64) × PV (.int .i64) × PV S_string × PV (.int .i64) × PV (.int .i64) × Unit → Option ((PV S_string × PV S_impl_Part × PV (.int .i64) × PV Y_impl_Part × PV S_impl_Part × PV (.int .i64) × PV (.int .i64) × Unit) ⊕ (PV .bool × Unit)) := fix fun d => b_S_l11Good_8 d.1 d.2.1 d.2.2.1 d.2.2.2.1 d.2.2.2.2.1 d.2.2.2.2.2.1 d.2.2.2.2.2.2.1 d.2.2.2.2.2.2.2.1 d.2.2.2.2.2.2.2.2.1 d.2.2.2.2.2.2.2.2.2.1
noncomputable def lp_S_l11Good_8 : Lp := ⟨⟨[], [0, 1, 6, 7, 11, 12, 13, 23, 24, 25, 26, 27, 28, 29, 32, 33, 34, 35, 38, 39, 40, 41, 48, 49, 50, 74, 75, 76, 77, 78, 79, 80, 81, 82, 83, 84, 85, 86, 87, 88, 89, 90, 91, 92, 93, 94, 102, 103, 104, 105, 108, 109, 110], []⟩, sh_S_l11Good_8, o_S_l11Good_8, fun d => b_S_l11Good_8 d.1 d.2.1 d.2.2.1 d.2.2.2.1 d.2.2.2.2.1 d.2.2.2.2.2.1 d.2.2.2.2.2.2.1 d.2.2.2.2.2.2.2.1 d.2.2.2.2.2.2.2.2.1 d.2.2.2.2.2.2.2.2.2.1⟩
noncomputable def sh_S_l11Good_3 : List Sh := mkSh 112 [(0, .val S_string .b), (1, .val S_impl_Part .b), (5, .val (.int .i64) .b), (11, .val S_impl_Part .b), (12, .val (.int .i64) .b), (13, .val (.int .i64) .b)]
noncomputable def o_S_l11Good_3 : List Out := [⟨.exit 0, ⟨[], [0, 1, 5, 102, 103, 104, 105, 108, 109, 110], []⟩, mkSh 112 [(0, .val S_string .b), (1, .val S_impl_Part .b), (5, .val (.int .i64) .b)]⟩, ⟨.ret, ⟨[], [4], []⟩, mkSh 112 [(4, .val .bool .b)]⟩]
noncomputable def b_S_l11Good_3 (t0 : PV S_string) (t1 : PV S_impl_Part) (t5 : PV (.int .i64)) (t11 : PV S_impl_Part) (t12 : PV (.int .i64)) (t13 : PV (.int .i64)) : Option ((PV S_string × PV S_impl_Part × PV (.int .i64) × PV S_impl_Part × PV (.int .i64) × PV (.int .i64) × Unit) ⊕ ((PV S_string × PV S_impl_Part × PV (.int .i64) × Unit) ⊕ (PV .bool × Unit))) :=
  bif (decide (t13 < t12)) then
    bif inB t13 t11.length then
      ((
          bif (!((((t11.getD t13.toNat (dflt Y_impl_Part)).2).1) == t5)) then
            some (t0, t1, t13, (t11.getD t13.toNat (dflt Y_impl_Part)), t11, t12, t13, true, ())
          else
            (f_S_l1In ((((t11.getD t13.toNat (dflt Y_impl_Part)).2).2).1) t5 (t0.length : Int)).bind fun r19 =>
              bif (!r19.1.1) then
                some (t0, t1, t13, (t11.getD t13.toNat (dflt Y_impl_Part)), t11, t12, t13, true, ())
              else
                bif (decide (((((((t11.getD t13.toNat (dflt Y_impl_Part)).2).2).2).1).length : Int) > 40)) then
                  some (t0, t1, t13, (t11.getD t13.toNat (dflt Y_impl_Part)), t11, t12, t13, true, ())
                else
                  some (t0, t1, t13, (t11.getD t13.toNat (dflt Y_impl_Part)), t11, t12, t13, (decide ((((((((t11.getD t13.toNat (dflt Y_impl_Part)).2).2).2).2).1).length : Int) > 40)), ()) : Option ((PV S_string × PV S_impl_Part × PV (.int .i64) × PV Y_impl_Part × PV S_impl_Part × PV (.int .i64) × PV (.int .i64) × PV .bool × Unit)))).bind fun j20 =>
        bif j20.2.2.2.2.2.2.2.1 then
          some (.inr (.inr (false, ())))
        else
          (f_S_l1OwnT j20.2.2.2.1.2.2.2.1).bind fun r26 =>
            bif roomB (r26.1.1.length + j20.2.2.2.1.2.2.2.2.1.length) then
              (w_S_l11Good_8 (j20.1, j20.2.1, j20.2.2.1, j20.2.2.2.1, j20.2.2.2.2.1, j20.2.2.2.2.2.1, j20.2.2.2.2.2.2.1, (r26.1.1 ++ j20.2.2.2.1.2.2.2.2.1), ((r26.1.1 ++ j20.2.2.2.1.2.2.2.2.1).length : Int), 0, ())).bind fun x38 =>
                match x38 with
                | .inl l27 =>
                  bif cutB l27.2.2.2.1.2.1 l27.2.2.2.1.2.2.1 l27.1.length then
                    ((
                        (f_S_l11Kind (cutL l27.2.2.2.1.2.1 l27.2.2.2.1.2.2.1 l27.1) l27.2.2.2.1.2.2.2.1 l27.2.2.2.1.2.2.2.2.1).bind fun r30 =>
                          bif (!(l27.2.2.2.1.1 == r30.1.1)) then
                            some (l27.1, l27.2.1, l27.2.2.2.1, l27.2.2.2.2.1, l27.2.2.2.2.2.1, l27.2.2.2.2.2.2.1, true, ())
                          else
                            bif (l27.2.2.2.1.1 == 1) then
                              bif (((cutL l27.2.2.2.1.2.1 l27.2.2.2.1.2.2.1 l27.1).length : Int) == 0) then
                                some (l27.1, l27.2.1, l27.2.2.2.1, l27.2.2.2.2.1, l27.2.2.2.2.2.1, l27.2.2.2.2.2.2.1, true, ())
                              else
                                bif (decide (l27.2.2.1 > 0)) then
                                  bif inB (IntKind.wrap .i64 (l27.2.2.1 - 1)) l27.2.1.length then
                                    some (l27.1, l27.2.1, l27.2.2.2.1, l27.2.2.2.2.1, l27.2.2.2.2.2.1, l27.2.2.2.2.2.2.1, (((l27.2.1.getD ((IntKind.wrap .i64 (l27.2.2.1 - 1)).toNat) (dflt Y_impl_Part)).1) == 1), ())
                                  else
                                    none
                                else
                                  some (l27.1, l27.2.1, l27.2.2.2.1, l27.2.2.2.2.1, l27.2.2.2.2.2.1, l27.2.2.2.2.2.2.1, false, ())
                            else
                              some (l27.1, l27.2.1, l27.2.2.2.1, l27.2.2.2.2.1, l27.2.2.2.2.2.1, l27.2.2.2.2.2.2.1, false, ()) : Option ((PV S_string × PV S_impl_Part × PV Y_impl_Part × PV S_impl_Part × PV (.int .i64) × PV (.int .i64) × PV .bool × Unit)))).bind fun j31 =>
                      bif j31.2.2.2.2.2.2.1 then
                        some (.inr (.inr (false, ())))
                      else
                        some (.inl (j31.1, j31.2.1, j31.2.2.1.2.2.1, j31.2.2.2.1, j31.2.2.2.2.1, (IntKind.wrap .i64 (j31.2.2.2.2.2.1 + 1)), ()))
                  else
                    none
                | .inr l32 =>
                  some (.inr (.inr (l32.1, ())))
            else
              none
    else
      none
  else
    some (.inr (.inl (t0, t1, t5, ())))
noncomputable def w_S_l11Good_3 : PV S_string × PV S_impl_Part × PV (.int .i64) × PV S_impl_Part × PV (.int .i64) × PV (.int .i64) × Unit → Option ((PV S_string × PV S_impl_Part × PV (.int .i64) × Unit) ⊕ (PV .bool × Unit)) := fix fun d => b_S_l11Good_3 d.1 d.2.1 d.2.2.1 d.2.2.2.1 d.2.2.2.2.1 d.2.2.2.2.2.1
noncomputable def lp_S_l11Good_3 : Lp := ⟨⟨[], [0, 1, 5, 11, 12, 13, 23, 24, 25, 26, 27, 28, 29, 32, 33, 34, 35, 38, 39, 40, 41, 74, 75, 76, 77, 78, 79, 80, 81, 82, 83, 84, 85, 86, 87, 88, 89, 90, 91, 92, 93, 94, 102, 103, 104, 105, 108, 109, 110], []⟩, sh_S_l11Good_3, o_S_l11Good_3, fun d => b_S_l11Good_3 d.1 d.2.1 d.2.2.1 d.2.2.2.1 d.2.2.2.2.1 d.2.2.2.2.2.1⟩
noncomputable def pl_S_l11Good : Plan := ⟨[(6, o_S_l11Good_6), (15, o_S_l11Good_15)], [(8, lp_S_l11Good_8), (3, lp_S_l11Good_3)], 0, 0⟩
noncomputable def f_S_l11Good (t0 : PV S_string) (t1 : PV S_impl_Part) : Option (PVs [.bool] × PVs []) :=
  (w_S_l11Good_3 (t0, t1, 0, t1, (t1.length : Int), 0, ())).bind fun x39 =>
    match x39 with
    | .inl l35 =>
      (f_S_l1Good l35.1).bind fun r36 =>
        bif r36.1.1 then
          bif (l35.2.2.1 == (l35.1.length : Int)) then
            some (((decide ((l35.2.1.length : Int) ≤ 120)), ()), ())
          else
            some ((false, ()), ())
        else
          some ((false, ()), ())
    | .inr l37 =>
      some ((l37.1, ()), ())
noncomputable def ct_S_l11Good : Ct := ⟨[(.bor, S_string), (.bor, S_impl_Part)], [(.bool, .b)], fun x => f_S_l11Good x.1 x.2.1⟩
noncomputable def cx_S_l11Good : Cx := ⟨tab, arrs, [(92, ct_S_l1Good), (109, ct_S_l1In), (111, ct_S_l1OwnT), (143, ct_S_l1Line), (171, ct_S_l11Kind)], [], gl, []⟩
theorem eb_S_l11Good_3 (t0 : PV S_string) (t1 : PV S_impl_Part) (t5 : PV (.int .i64)) (t11 : PV S_impl_Part) (t12 : PV (.int .i64)) (t13 : PV (.int .i64)) : denK cx_S_l11Good (rcN cx_S_l11Good 0) pl_S_l11Good 0 ((loopsOf (bodyOf Try.f108)).getD 0 .skip) (fillS sh_S_l11Good_3 (t0, t1, t5, t11, t12, t13, ())) (roundK 0 lp_S_l11Good_3) = b_S_l11Good_3 t0 t1 t5 t11 t12 t13 := by kernel_rfl
theorem eb_S_l11Good_8 (t0 : PV S_string) (t1 : PV S_impl_Part) (t6 : PV (.int .i64)) (t7 : PV Y_impl_Part) (t11 : PV S_impl_Part) (t12 : PV (.int .i64)) (t13 : PV (.int .i64)) (t48 : PV S_string) (t49 : PV (.int .i64)) (t50 : PV (.int .i64)) : denK cx_S_l11Good (rcN cx_S_l11Good 0) pl_S_l11Good 0 ((loopsOf (bodyOf Try.f108)).getD 1 .skip) (fillS sh_S_l11Good_8 (t0, t1, t6, t7, t11, t12, t13, t48, t49, t50, ())) (roundK 0 lp_S_l11Good_8) = b_S_l11Good_8 t0 t1 t6 t7 t11 t12 t13 t48 t49 t50 := by kernel_rfl
theorem ef_S_l11Good (t0 : PV S_string) (t1 : PV S_impl_Part) : denF cx_S_l11Good 0 pl_S_l11Good Try.f108.ntmps (bodyOf Try.f108) Try.f108.results.toList [(.bor, S_string), (.bor, S_impl_Part)] [(.bool, .b)] (t0, t1, ()) = f_S_l11Good t0 t1 := by kernel_rfl
theorem ok_S_l11Good : FnOk gl Try.prog 108 ct_S_l11Good :=
  fnOk (cx := cx_S_l11Good) (pl := pl_S_l11Good) (dp := 0) (ok0_of tabOk (by unfold ArrOk; kernel_rfl) mix ⟨ok_S_l1Good, ok_S_l1In, ok_S_l1OwnT, ok_S_l1Line, ok_S_l11Kind, trivial⟩ trivial) Try.func108 (by kernel_rfl) (by kernel_rfl) (by kernel_rfl)
    (by rw [show loopsOf (bodyOf Try.f108) = [((loopsOf (bodyOf Try.f108)).getD 0 .skip), ((loopsOf (bodyOf Try.f108)).getD 1 .skip)] from by kernel_rfl]; exact ⟨(by rw [show lookup pl_S_l11Good.loops (firstId ((loopsOf (bodyOf Try.f108)).getD 0 .skip)) = some lp_S_l11Good_3 from by kernel_rfl]; exact fun d z h => (eb_S_l11Good_3 d.1 d.2.1 d.2.2.1 d.2.2.2.1 d.2.2.2.2.1 d.2.2.2.2.2.1).trans h), (by rw [show lookup pl_S_l11Good.loops (firstId ((loopsOf (bodyOf Try.f108)).getD 1 .skip)) = some lp_S_l11Good_8 from by kernel_rfl]; exact fun d z h => (eb_S_l11Good_8 d.1 d.2.1 d.2.2.1 d.2.2.2.1 d.2.2.2.2.1 d.2.2.2.2.2.1 d.2.2.2.2.2.2.1 d.2.2.2.2.2.2.2.1 d.2.2.2.2.2.2.2.2.1 d.2.2.2.2.2.2.2.2.2.1).trans h), trivial⟩) (fun x => ef_S_l11Good x.1 x.2.1)
noncomputable def o_S_TakeSide_2 : List Out := [⟨.normal, ⟨[], [0, 1, 2, 19], []⟩, mkSh 52 [(0, .val S_string .b), (1, .val S_impl_Part .b), (2, .val (.int .i64) .b), (19, .val .bool .b)]⟩]
noncomputable def o_S_TakeSide_13 : List Out := [⟨.normal, ⟨[], [0, 2, 8, 20, 21, 22], []⟩, mkSh 52 [(0, .val S_string .b), (2, .val (.int .i64) .b), (8, .val S_string (.row .b)), (20, .val S_impl_Part .b), (21, .val (.int .i64) .b), (22, .val (.int .i64) .b)]⟩]
noncomputable def sh_S_TakeSide_5 : List Sh := mkSh 52 [(0, .val S_string .b), (2, .val (.int .i64) .b), (8, .val S_string (.row .b)), (20, .val S_impl_Part .b), (21, .val (.int .i64) .b), (22, .val (.int .i64) .b)]
noncomputable def o_S_TakeSide_5 : List Out := [⟨.exit 0, ⟨[], [8], []⟩, mkSh 52 [(8, .val S_string (.row .b))]⟩]
noncomputable def b_S_TakeSide_5 (t0 : PV S_string) (t2 : PV (.int .i64)) (t8 : PV S_string) (t20 : PV S_impl_Part) (t21 : PV (.int .i64)) (t22 : PV (.int .i64)) : Option ((PV S_string × PV (.int .i64) × PV S_string × PV S_impl_Part × PV (.int .i64) × PV (.int .i64) × Unit) ⊕ ((PV S_string × Unit))) :=
  bif (decide (t22 < t21)) then
    ((
        bif inB t22 t20.length then
          bif (t2 == 0) then
            bif cutB (((t20.getD t22.toNat (dflt Y_impl_Part)).2).1) ((((t20.getD t22.toNat (dflt Y_impl_Part)).2).2).1) t0.length then
              bif roomB (t8.length + (cutL (((t20.getD t22.toNat (dflt Y_impl_Part)).2).1) ((((t20.getD t22.toNat (dflt Y_impl_Part)).2).2).1) t0).length) then
                some (t0, t2, (t8 ++ (cutL (((t20.getD t22.toNat (dflt Y_impl_Part)).2).1) ((((t20.getD t22.toNat (dflt Y_impl_Part)).2).2).1) t0)), t20, t21, t22, ())
              else
                none
            else
              none
          else
            bif (t2 == 1) then
              bif roomB (t8.length + (((((t20.getD t22.toNat (dflt Y_impl_Part)).2).2).2).1).length) then
                some (t0, t2, (t8 ++ (((((t20.getD t22.toNat (dflt Y_impl_Part)).2).2).2).1)), t20, t21, t22, ())
              else
                none
            else
              bif roomB (t8.length + ((((((t20.getD t22.toNat (dflt Y_impl_Part)).2).2).2).2).1).length) then
                some (t0, t2, (t8 ++ ((((((t20.getD t22.toNat (dflt Y_impl_Part)).2).2).2).2).1)), t20, t21, t22, ())
              else
                none
        else
          none : Option ((PV S_string × PV (.int .i64) × PV S_string × PV S_impl_Part × PV (.int .i64) × PV (.int .i64) × Unit)))).bind fun j9 =>
      some (.inl (j9.1, j9.2.1, j9.2.2.1, j9.2.2.2.1, j9.2.2.2.2.1, (IntKind.wrap .i64 (j9.2.2.2.2.2.1 + 1)), ()))
  else
    some (.inr (t8, ()))
noncomputable def w_S_TakeSide_5 : PV S_string × PV (.int .i64) × PV S_string × PV S_impl_Part × PV (.int .i64) × PV (.int .i64) × Unit → Option ((PV S_string × Unit)) := fix fun d => b_S_TakeSide_5 d.1 d.2.1 d.2.2.1 d.2.2.2.1 d.2.2.2.2.1 d.2.2.2.2.2.1
noncomputable def lp_S_TakeSide_5 : Lp := ⟨⟨[], [0, 2, 8, 20, 21, 22], []⟩, sh_S_TakeSide_5, o_S_TakeSide_5, fun d => b_S_TakeSide_5 d.1 d.2.1 d.2.2.1 d.2.2.2.1 d.2.2.2.2.1 d.2.2.2.2.2.1⟩
noncomputable def pl_S_TakeSide : Plan := ⟨[(2, o_S_TakeSide_2), (13, o_S_TakeSide_13)], [(5, lp_S_TakeSide_5)], 0, 0⟩
noncomputable def f_S_TakeSide (t0 : PV S_string) (t1 : PV S_impl_Part) (t2 : PV (.int .i64)) : Option (PVs [S_string, .bool] × PVs []) :=
  ((
      (f_S_l11Good t0 t1).bind fun r6 =>
        bif (!r6.1.1) then
          some (t0, t1, t2, true, ())
        else
          (f_S_l1In t2 0 2).bind fun r7 =>
            some (t0, t1, t2, (!r7.1.1), ()) : Option ((PV S_string × PV S_impl_Part × PV (.int .i64) × PV .bool × Unit)))).bind fun j8 =>
    bif j8.2.2.2.1 then
      some (([], false, ()), ())
    else
      (w_S_TakeSide_5 (j8.1, j8.2.2.1, [], j8.2.1, (j8.2.1.length : Int), 0, ())).bind fun l11 =>
        (f_S_l1Good l11.1).bind fun r15 =>
          bif (!r15.1.1) then
            some (([], false, ()), ())
          else
            some ((l11.1, true, ()), ())
noncomputable def ct_S_TakeSide : Ct := ⟨[(.bor, S_string), (.bor, S_impl_Part), (.bor, (.int .i64))], [(S_string, (.row .b)), (.bool, .b)], fun x => f_S_TakeSide x.1 x.2.1 x.2.2.1⟩
noncomputable def cx_S_TakeSide : Cx := ⟨tab, arrs, [(92, ct_S_l1Good), (108, ct_S_l11Good), (109, ct_S_l1In)], [], gl, []⟩
theorem eb_S_TakeSide_5 (t0 : PV S_string) (t2 : PV (.int .i64)) (t8 : PV S_string) (t20 : PV S_impl_Part) (t21 : PV (.int .i64)) (t22 : PV (.int .i64)) : denK cx_S_TakeSide (rcN cx_S_TakeSide 0) pl_S_TakeSide 0 ((loopsOf (bodyOf Try.f42)).getD 0 .skip) (fillS sh_S_TakeSide_5 (t0, t2, t8, t20, t21, t22, ())) (roundK 0 lp_S_TakeSide_5) = b_S_TakeSide_5 t0 t2 t8 t20 t21 t22 := by kernel_rfl
theorem ef_S_TakeSide (t0 : PV S_string) (t1 : PV S_impl_Part) (t2 : PV (.int .i64)) : denF cx_S_TakeSide 0 pl_S_TakeSide Try.f42.ntmps (bodyOf Try.f42) Try.f42.results.toList [(.bor, S_string), (.bor, S_impl_Part), (.bor, (.int .i64))] [(S_string, (.row .b)), (.bool, .b)] (t0, t1, t2, ()) = f_S_TakeSide t0 t1 t2 := by kernel_rfl
theorem ok_S_TakeSide : FnOk gl Try.prog 42 ct_S_TakeSide :=
  fnOk (cx := cx_S_TakeSide) (pl := pl_S_TakeSide) (dp := 0) (ok0_of tabOk (by unfold ArrOk; kernel_rfl) mix ⟨ok_S_l1Good, ok_S_l11Good, ok_S_l1In, trivial⟩ trivial) Try.func42 (by kernel_rfl) (by kernel_rfl) (by kernel_rfl)
    (by rw [show loopsOf (bodyOf Try.f42) = [((loopsOf (bodyOf Try.f42)).getD 0 .skip)] from by kernel_rfl]; exact ⟨(by rw [show lookup pl_S_TakeSide.loops (firstId ((loopsOf (bodyOf Try.f42)).getD 0 .skip)) = some lp_S_TakeSide_5 from by kernel_rfl]; exact fun d z h => (eb_S_TakeSide_5 d.1 d.2.1 d.2.2.1 d.2.2.2.1 d.2.2.2.2.1 d.2.2.2.2.2.1).trans h), trivial⟩) (fun x => ef_S_TakeSide x.1 x.2.1 x.2.2.1)
noncomputable def sh_S_l11Few_2 : List Sh := mkSh 19 [(0, .val S_impl_Part .b), (5, .val S_impl_Part .b), (6, .val (.int .i64) .b), (7, .val (.int .i64) .b)]
noncomputable def o_S_l11Few_2 : List Out := [⟨.exit 0, ⟨[], [0], []⟩, mkSh 19 [(0, .val S_impl_Part .b)]⟩, ⟨.ret, ⟨[], [2], []⟩, mkSh 19 [(2, .val .bool .b)]⟩]
noncomputable def b_S_l11Few_2 (t0 : PV S_impl_Part) (t5 : PV S_impl_Part) (t6 : PV (.int .i64)) (t7 : PV (.int .i64)) : Option ((PV S_impl_Part × PV S_impl_Part × PV (.int .i64) × PV (.int .i64) × Unit) ⊕ ((PV S_impl_Part × Unit) ⊕ (PV .bool × Unit))) :=
  bif (decide (t7 < t6)) then
    bif inB t7 t5.length then
      (f_S_l1In ((t5.getD t7.toNat (dflt Y_impl_Part)).1) 1 5).bind fun r4 =>
        bif (!r4.1.1) then
          some (.inr (.inr (false, ())))
        else
          some (.inl (t0, t5, t6, (IntKind.wrap .i64 (t7 + 1)), ()))
    else
      none
  else
    some (.inr (.inl (t0, ())))
noncomputable def w_S_l11Few_2 : PV S_impl_Part × PV S_impl_Part × PV (.int .i64) × PV (.int .i64) × Unit → Option ((PV S_impl_Part × Unit) ⊕ (PV .bool × Unit)) := fix fun d => b_S_l11Few_2 d.1 d.2.1 d.2.2.1 d.2.2.2.1
noncomputable def lp_S_l11Few_2 : Lp := ⟨⟨[], [0, 5, 6, 7], []⟩, sh_S_l11Few_2, o_S_l11Few_2, fun d => b_S_l11Few_2 d.1 d.2.1 d.2.2.1 d.2.2.2.1⟩
noncomputable def pl_S_l11Few : Plan := ⟨[], [(2, lp_S_l11Few_2)], 0, 0⟩
noncomputable def f_S_l11Few (t0 : PV S_impl_Part) : Option (PVs [.bool] × PVs []) :=
  (w_S_l11Few_2 (t0, t0, (t0.length : Int), 0, ())).bind fun x9 =>
    match x9 with
    | .inl l7 =>
      some (((decide ((l7.1.length : Int) ≤ 120)), ()), ())
    | .inr l8 =>
      some ((l8.1, ()), ())
noncomputable def ct_S_l11Few : Ct := ⟨[(.bor, S_impl_Part)], [(.bool, .b)], fun x => f_S_l11Few x.1⟩
noncomputable def cx_S_l11Few : Cx := ⟨tab, arrs, [(109, ct_S_l1In)], [], gl, []⟩
theorem eb_S_l11Few_2 (t0 : PV S_impl_Part) (t5 : PV S_impl_Part) (t6 : PV (.int .i64)) (t7 : PV (.int .i64)) : denK cx_S_l11Few (rcN cx_S_l11Few 0) pl_S_l11Few 0 ((loopsOf (bodyOf Try.f110)).getD 0 .skip) (fillS sh_S_l11Few_2 (t0, t5, t6, t7, ())) (roundK 0 lp_S_l11Few_2) = b_S_l11Few_2 t0 t5 t6 t7 := by kernel_rfl
theorem ef_S_l11Few (t0 : PV S_impl_Part) : denF cx_S_l11Few 0 pl_S_l11Few Try.f110.ntmps (bodyOf Try.f110) Try.f110.results.toList [(.bor, S_impl_Part)] [(.bool, .b)] (t0, ()) = f_S_l11Few t0 := by kernel_rfl
theorem ok_S_l11Few : FnOk gl Try.prog 110 ct_S_l11Few :=
  fnOk (cx := cx_S_l11Few) (pl := pl_S_l11Few) (dp := 0) (ok0_of tabOk (by unfold ArrOk; kernel_rfl) mix ⟨ok_S_l1In, trivial⟩ trivial) Try.func110 (by kernel_rfl) (by kernel_rfl) (by kernel_rfl)
    (by rw [show loopsOf (bodyOf Try.f110) = [((loopsOf (bodyOf Try.f110)).getD 0 .skip)] from by kernel_rfl]; exact ⟨(by rw [show lookup pl_S_l11Few.loops (firstId ((loopsOf (bodyOf Try.f110)).getD 0 .skip)) = some lp_S_l11Few_2 from by kernel_rfl]; exact fun d z h => (eb_S_l11Few_2 d.1 d.2.1 d.2.2.1 d.2.2.2.1).trans h), trivial⟩) (fun x => ef_S_l11Few x.1)
noncomputable def o_S_SwapSides_13 : List Out := [⟨.normal, ⟨[], [4, 7, 11, 12, 13], []⟩, mkSh 44 [(4, .val S_impl_Part (.row (.pr .b (.pr .b (.pr .b (.pr (.row .b) (.pr (.row .b) .b))))))), (7, .var Y_impl_Part (.pr .b (.pr .b (.pr .b (.pr (.row .b) (.pr (.row .b) .b)))))), (11, .val S_impl_Part .b), (12, .val (.int .i64) .b), (13, .val (.int .i64) .b)]⟩]
noncomputable def sh_S_SwapSides_5 : List Sh := mkSh 44 [(4, .val S_impl_Part (.row (.pr .b (.pr .b (.pr .b (.pr (.row .b) (.pr (.row .b) .b))))))), (11, .val S_impl_Part .b), (12, .val (.int .i64) .b), (13, .val (.int .i64) .b)]
noncomputable def o_S_SwapSides_5 : List Out := [⟨.exit 0, ⟨[], [4], []⟩, mkSh 44 [(4, .val S_impl_Part (.row (.pr .b (.pr .b (.pr .b (.pr (.row .b) (.pr (.row .b) .b)))))))]⟩]
noncomputable def b_S_SwapSides_5 (t4 : PV S_impl_Part) (t11 : PV S_impl_Part) (t12 : PV (.int .i64)) (t13 : PV (.int .i64)) : Option ((PV S_impl_Part × PV S_impl_Part × PV (.int .i64) × PV (.int .i64) × Unit) ⊕ ((PV S_impl_Part × Unit))) :=
  bif (decide (t13 < t12)) then
    bif inB t13 t11.length then
      (f_S_l1OwnT ((((((t11.getD t13.toNat (dflt Y_impl_Part)).2).2).2).2).1)).bind fun r12 =>
        (f_S_l1OwnT (((((t11.getD t13.toNat (dflt Y_impl_Part)).2).2).2).1)).bind fun r13 =>
          ((
              bif (((t11.getD t13.toNat (dflt Y_impl_Part)).1) == 2) then
                some (t4, (3, (((t11.getD t13.toNat (dflt Y_impl_Part)).2).1, ((((t11.getD t13.toNat (dflt Y_impl_Part)).2).2).1, (r12.1.1, (r13.1.1, ()))))), t11, t12, t13, ())
              else
                bif (((t11.getD t13.toNat (dflt Y_impl_Part)).1) == 3) then
                  some (t4, (2, (((t11.getD t13.toNat (dflt Y_impl_Part)).2).1, ((((t11.getD t13.toNat (dflt Y_impl_Part)).2).2).1, (r12.1.1, (r13.1.1, ()))))), t11, t12, t13, ())
                else
                  some (t4, ((t11.getD t13.toNat (dflt Y_impl_Part)).1, (((t11.getD t13.toNat (dflt Y_impl_Part)).2).1, ((((t11.getD t13.toNat (dflt Y_impl_Part)).2).2).1, (r12.1.1, (r13.1.1, ()))))), t11, t12, t13, ()) : Option ((PV S_impl_Part × PV Y_impl_Part × PV S_impl_Part × PV (.int .i64) × PV (.int .i64) × Unit)))).bind fun j14 =>
            bif roomB (j14.1.length + [j14.2.1].length) then
              some (.inl ((j14.1 ++ [j14.2.1]), j14.2.2.1, j14.2.2.2.1, (IntKind.wrap .i64 (j14.2.2.2.2.1 + 1)), ()))
            else
              none
    else
      none
  else
    some (.inr (t4, ()))
noncomputable def w_S_SwapSides_5 : PV S_impl_Part × PV S_impl_Part × PV (.int .i64) × PV (.int .i64) × Unit → Option ((PV S_impl_Part × Unit)) := fix fun d => b_S_SwapSides_5 d.1 d.2.1 d.2.2.1 d.2.2.2.1
noncomputable def lp_S_SwapSides_5 : Lp := ⟨⟨[], [4, 11, 12, 13], []⟩, sh_S_SwapSides_5, o_S_SwapSides_5, fun d => b_S_SwapSides_5 d.1 d.2.1 d.2.2.1 d.2.2.2.1⟩
noncomputable def pl_S_SwapSides : Plan := ⟨[(13, o_S_SwapSides_13)], [(5, lp_S_SwapSides_5)], 0, 0⟩
noncomputable def f_S_SwapSides (t0 : PV S_impl_Part) : Option (PVs [S_impl_Part, .bool] × PVs []) :=
  (f_S_l11Few t0).bind fun r4 =>
    bif (!r4.1.1) then
      some (([], false, ()), ())
    else
      (w_S_SwapSides_5 ([], t0, (t0.length : Int), 0, ())).bind fun l16 =>
        some ((l16.1, true, ()), ())
noncomputable def ct_S_SwapSides : Ct := ⟨[(.bor, S_impl_Part)], [(S_impl_Part, (.row (.pr .b (.pr .b (.pr .b (.pr (.row .b) (.pr (.row .b) .b))))))), (.bool, .b)], fun x => f_S_SwapSides x.1⟩
noncomputable def cx_S_SwapSides : Cx := ⟨tab, arrs, [(110, ct_S_l11Few), (111, ct_S_l1OwnT)], [], gl, []⟩
theorem eb_S_SwapSides_5 (t4 : PV S_impl_Part) (t11 : PV S_impl_Part) (t12 : PV (.int .i64)) (t13 : PV (.int .i64)) : denK cx_S_SwapSides (rcN cx_S_SwapSides 0) pl_S_SwapSides 0 ((loopsOf (bodyOf Try.f43)).getD 0 .skip) (fillS sh_S_SwapSides_5 (t4, t11, t12, t13, ())) (roundK 0 lp_S_SwapSides_5) = b_S_SwapSides_5 t4 t11 t12 t13 := by kernel_rfl
theorem ef_S_SwapSides (t0 : PV S_impl_Part) : denF cx_S_SwapSides 0 pl_S_SwapSides Try.f43.ntmps (bodyOf Try.f43) Try.f43.results.toList [(.bor, S_impl_Part)] [(S_impl_Part, (.row (.pr .b (.pr .b (.pr .b (.pr (.row .b) (.pr (.row .b) .b))))))), (.bool, .b)] (t0, ()) = f_S_SwapSides t0 := by kernel_rfl
theorem ok_S_SwapSides : FnOk gl Try.prog 43 ct_S_SwapSides :=
  fnOk (cx := cx_S_SwapSides) (pl := pl_S_SwapSides) (dp := 0) (ok0_of tabOk (by unfold ArrOk; kernel_rfl) mix ⟨ok_S_l11Few, ok_S_l1OwnT, trivial⟩ trivial) Try.func43 (by kernel_rfl) (by kernel_rfl) (by kernel_rfl)
    (by rw [show loopsOf (bodyOf Try.f43) = [((loopsOf (bodyOf Try.f43)).getD 0 .skip)] from by kernel_rfl]; exact ⟨(by rw [show lookup pl_S_SwapSides.loops (firstId ((loopsOf (bodyOf Try.f43)).getD 0 .skip)) = some lp_S_SwapSides_5 from by kernel_rfl]; exact fun d z h => (eb_S_SwapSides_5 d.1 d.2.1 d.2.2.1 d.2.2.2.1).trans h), trivial⟩) (fun x => ef_S_SwapSides x.1)
noncomputable def o_I_clashes_7 : List Out := [⟨.normal, ⟨[], [3, 6, 7, 8], []⟩, mkSh 19 [(3, .val (.int .i64) .b), (6, .val S_impl_Part .b), (7, .val (.int .i64) .b), (8, .val (.int .i64) .b)]⟩]
noncomputable def sh_I_clashes_3 : List Sh := mkSh 19 [(3, .val (.int .i64) .b), (6, .val S_impl_Part .b), (7, .val (.int .i64) .b), (8, .val (.int .i64) .b)]
noncomputable def o_I_clashes_3 : List Out := [⟨.exit 0, ⟨[], [3], []⟩, mkSh 19 [(3, .val (.int .i64) .b)]⟩]
noncomputable def b_I_clashes_3 (t3 : PV (.int .i64)) (t6 : PV S_impl_Part) (t7 : PV (.int .i64)) (t8 : PV (.int .i64)) : Option ((PV (.int .i64) × PV S_impl_Part × PV (.int .i64) × PV (.int .i64) × Unit) ⊕ ((PV (.int .i64) × Unit))) :=
  bif (decide (t8 < t7)) then
    ((
        bif inB t8 t6.length then
          bif (((t6.getD t8.toNat (dflt Y_impl_Part)).1) == 5) then
            some ((IntKind.wrap .i64 (t3 + 1)), t6, t7, t8, ())
          else
            some (t3, t6, t7, t8, ())
        else
          none : Option ((PV (.int .i64) × PV S_impl_Part × PV (.int .i64) × PV (.int .i64) × Unit)))).bind fun j1 =>
      some (.inl (j1.1, j1.2.1, j1.2.2.1, (IntKind.wrap .i64 (j1.2.2.2.1 + 1)), ()))
  else
    some (.inr (t3, ()))
noncomputable def w_I_clashes_3 : PV (.int .i64) × PV S_impl_Part × PV (.int .i64) × PV (.int .i64) × Unit → Option ((PV (.int .i64) × Unit)) := fix fun d => b_I_clashes_3 d.1 d.2.1 d.2.2.1 d.2.2.2.1
noncomputable def lp_I_clashes_3 : Lp := ⟨⟨[], [3, 6, 7, 8], []⟩, sh_I_clashes_3, o_I_clashes_3, fun d => b_I_clashes_3 d.1 d.2.1 d.2.2.1 d.2.2.2.1⟩
noncomputable def pl_I_clashes : Plan := ⟨[(7, o_I_clashes_7)], [(3, lp_I_clashes_3)], 0, 0⟩
noncomputable def f_I_clashes (t0 : PV S_impl_Part) : Option (PVs [(.int .i64)] × PVs []) :=
  (w_I_clashes_3 (0, t0, (t0.length : Int), 0, ())).bind fun l3 =>
    some ((l3.1, ()), ())
noncomputable def ct_I_clashes : Ct := ⟨[(.bor, S_impl_Part)], [((.int .i64), .b)], fun x => f_I_clashes x.1⟩
noncomputable def cx_I_clashes : Cx := ⟨tab, arrs, [], [], gl, []⟩
theorem eb_I_clashes_3 (t3 : PV (.int .i64)) (t6 : PV S_impl_Part) (t7 : PV (.int .i64)) (t8 : PV (.int .i64)) : denK cx_I_clashes (rcN cx_I_clashes 0) pl_I_clashes 0 ((loopsOf (bodyOf Try.f112)).getD 0 .skip) (fillS sh_I_clashes_3 (t3, t6, t7, t8, ())) (roundK 0 lp_I_clashes_3) = b_I_clashes_3 t3 t6 t7 t8 := by kernel_rfl
theorem ef_I_clashes (t0 : PV S_impl_Part) : denF cx_I_clashes 0 pl_I_clashes Try.f112.ntmps (bodyOf Try.f112) Try.f112.results.toList [(.bor, S_impl_Part)] [((.int .i64), .b)] (t0, ()) = f_I_clashes t0 := by kernel_rfl
theorem ok_I_clashes : FnOk gl Try.prog 112 ct_I_clashes :=
  fnOk (cx := cx_I_clashes) (pl := pl_I_clashes) (dp := 0) (ok0_of tabOk (by unfold ArrOk; kernel_rfl) mix trivial trivial) Try.func112 (by kernel_rfl) (by kernel_rfl) (by kernel_rfl)
    (by rw [show loopsOf (bodyOf Try.f112) = [((loopsOf (bodyOf Try.f112)).getD 0 .skip)] from by kernel_rfl]; exact ⟨(by rw [show lookup pl_I_clashes.loops (firstId ((loopsOf (bodyOf Try.f112)).getD 0 .skip)) = some lp_I_clashes_3 from by kernel_rfl]; exact fun d z h => (eb_I_clashes_3 d.1 d.2.1 d.2.2.1 d.2.2.2.1).trans h), trivial⟩) (fun x => ef_I_clashes x.1)
noncomputable def pl_I_ClashesIn : Plan := ⟨[], [], 0, 0⟩
noncomputable def f_I_ClashesIn (t0 : PV S_impl_Part) : Option (PVs [(.int .i64), .bool] × PVs []) :=
  (f_I_areParts t0).bind fun r4 =>
    bif (!r4.1.1) then
      some ((0, false, ()), ())
    else
      (f_I_clashes t0).bind fun r5 =>
        some ((r5.1.1, true, ()), ())
noncomputable def ct_I_ClashesIn : Ct := ⟨[(.bor, S_impl_Part)], [((.int .i64), .b), (.bool, .b)], fun x => f_I_ClashesIn x.1⟩
noncomputable def cx_I_ClashesIn : Cx := ⟨tab, arrs, [(105, ct_I_areParts), (112, ct_I_clashes)], [], gl, []⟩
theorem ef_I_ClashesIn (t0 : PV S_impl_Part) : denF cx_I_ClashesIn 0 pl_I_ClashesIn Try.f44.ntmps (bodyOf Try.f44) Try.f44.results.toList [(.bor, S_impl_Part)] [((.int .i64), .b), (.bool, .b)] (t0, ()) = f_I_ClashesIn t0 := by kernel_rfl
theorem ok_I_ClashesIn : FnOk gl Try.prog 44 ct_I_ClashesIn :=
  fnOk (cx := cx_I_ClashesIn) (pl := pl_I_ClashesIn) (dp := 0) (ok0_of tabOk (by unfold ArrOk; kernel_rfl) mix ⟨ok_I_areParts, ok_I_clashes, trivial⟩ trivial) Try.func44 (by kernel_rfl) (by kernel_rfl) (by kernel_rfl)
    (by rw [show loopsOf (bodyOf Try.f44) = [] from by kernel_rfl]; exact trivial) (fun x => ef_I_ClashesIn x.1)
noncomputable def o_S_ClashesIn_9 : List Out := [⟨.normal, ⟨[], [4, 10, 11, 12], []⟩, mkSh 23 [(4, .val (.int .i64) .b), (10, .val S_impl_Part .b), (11, .val (.int .i64) .b), (12, .val (.int .i64) .b)]⟩]
noncomputable def sh_S_ClashesIn_5 : List Sh := mkSh 23 [(4, .val (.int .i64) .b), (10, .val S_impl_Part .b), (11, .val (.int .i64) .b), (12, .val (.int .i64) .b)]
noncomputable def o_S_ClashesIn_5 : List Out := [⟨.exit 0, ⟨[], [4], []⟩, mkSh 23 [(4, .val (.int .i64) .b)]⟩]
noncomputable def b_S_ClashesIn_5 (t4 : PV (.int .i64)) (t10 : PV S_impl_Part) (t11 : PV (.int .i64)) (t12 : PV (.int .i64)) : Option ((PV (.int .i64) × PV S_impl_Part × PV (.int .i64) × PV (.int .i64) × Unit) ⊕ ((PV (.int .i64) × Unit))) :=
  bif (decide (t12 < t11)) then
    ((
        bif inB t12 t10.length then
          bif (((t10.getD t12.toNat (dflt Y_impl_Part)).1) == 5) then
            some ((IntKind.wrap .i64 (t4 + 1)), t10, t11, t12, ())
          else
            some (t4, t10, t11, t12, ())
        else
          none : Option ((PV (.int .i64) × PV S_impl_Part × PV (.int .i64) × PV (.int .i64) × Unit)))).bind fun j5 =>
      some (.inl (j5.1, j5.2.1, j5.2.2.1, (IntKind.wrap .i64 (j5.2.2.2.1 + 1)), ()))
  else
    some (.inr (t4, ()))
noncomputable def w_S_ClashesIn_5 : PV (.int .i64) × PV S_impl_Part × PV (.int .i64) × PV (.int .i64) × Unit → Option ((PV (.int .i64) × Unit)) := fix fun d => b_S_ClashesIn_5 d.1 d.2.1 d.2.2.1 d.2.2.2.1
noncomputable def lp_S_ClashesIn_5 : Lp := ⟨⟨[], [4, 10, 11, 12], []⟩, sh_S_ClashesIn_5, o_S_ClashesIn_5, fun d => b_S_ClashesIn_5 d.1 d.2.1 d.2.2.1 d.2.2.2.1⟩
noncomputable def pl_S_ClashesIn : Plan := ⟨[(9, o_S_ClashesIn_9)], [(5, lp_S_ClashesIn_5)], 0, 0⟩
noncomputable def f_S_ClashesIn (t0 : PV S_impl_Part) : Option (PVs [(.int .i64), .bool] × PVs []) :=
  (f_S_l11Few t0).bind fun r4 =>
    bif (!r4.1.1) then
      some ((0, false, ()), ())
    else
      (w_S_ClashesIn_5 (0, t0, (t0.length : Int), 0, ())).bind fun l7 =>
        some ((l7.1, true, ()), ())
noncomputable def ct_S_ClashesIn : Ct := ⟨[(.bor, S_impl_Part)], [((.int .i64), .b), (.bool, .b)], fun x => f_S_ClashesIn x.1⟩
noncomputable def cx_S_ClashesIn : Cx := ⟨tab, arrs, [(110, ct_S_l11Few)], [], gl, []⟩
theorem eb_S_ClashesIn_5 (t4 : PV (.int .i64)) (t10 : PV S_impl_Part) (t11 : PV (.int .i64)) (t12 : PV (.int .i64)) : denK cx_S_ClashesIn (rcN cx_S_ClashesIn 0) pl_S_ClashesIn 0 ((loopsOf (bodyOf Try.f45)).getD 0 .skip) (fillS sh_S_ClashesIn_5 (t4, t10, t11, t12, ())) (roundK 0 lp_S_ClashesIn_5) = b_S_ClashesIn_5 t4 t10 t11 t12 := by kernel_rfl
theorem ef_S_ClashesIn (t0 : PV S_impl_Part) : denF cx_S_ClashesIn 0 pl_S_ClashesIn Try.f45.ntmps (bodyOf Try.f45) Try.f45.results.toList [(.bor, S_impl_Part)] [((.int .i64), .b), (.bool, .b)] (t0, ()) = f_S_ClashesIn t0 := by kernel_rfl
theorem ok_S_ClashesIn : FnOk gl Try.prog 45 ct_S_ClashesIn :=
  fnOk (cx := cx_S_ClashesIn) (pl := pl_S_ClashesIn) (dp := 0) (ok0_of tabOk (by unfold ArrOk; kernel_rfl) mix ⟨ok_S_l11Few, trivial⟩ trivial) Try.func45 (by kernel_rfl) (by kernel_rfl) (by kernel_rfl)
    (by rw [show loopsOf (bodyOf Try.f45) = [((loopsOf (bodyOf Try.f45)).getD 0 .skip)] from by kernel_rfl]; exact ⟨(by rw [show lookup pl_S_ClashesIn.loops (firstId ((loopsOf (bodyOf Try.f45)).getD 0 .skip)) = some lp_S_ClashesIn_5 from by kernel_rfl]; exact fun d z h => (eb_S_ClashesIn_5 d.1 d.2.1 d.2.2.1 d.2.2.2.1).trans h), trivial⟩) (fun x => ef_S_ClashesIn x.1)
noncomputable def pl_S_GoodParts : Plan := ⟨[], [], 0, 0⟩
noncomputable def f_S_GoodParts (t0 : PV S_string) (t1 : PV S_impl_Part) : Option (PVs [.bool] × PVs []) :=
  (f_S_l11Good t0 t1).bind fun r1 =>
    some ((r1.1.1, ()), ())
noncomputable def ct_S_GoodParts : Ct := ⟨[(.bor, S_string), (.bor, S_impl_Part)], [(.bool, .b)], fun x => f_S_GoodParts x.1 x.2.1⟩
noncomputable def cx_S_GoodParts : Cx := ⟨tab, arrs, [(108, ct_S_l11Good)], [], gl, []⟩
theorem ef_S_GoodParts (t0 : PV S_string) (t1 : PV S_impl_Part) : denF cx_S_GoodParts 0 pl_S_GoodParts Try.f46.ntmps (bodyOf Try.f46) Try.f46.results.toList [(.bor, S_string), (.bor, S_impl_Part)] [(.bool, .b)] (t0, t1, ()) = f_S_GoodParts t0 t1 := by kernel_rfl
theorem ok_S_GoodParts : FnOk gl Try.prog 46 ct_S_GoodParts :=
  fnOk (cx := cx_S_GoodParts) (pl := pl_S_GoodParts) (dp := 0) (ok0_of tabOk (by unfold ArrOk; kernel_rfl) mix ⟨ok_S_l11Good, trivial⟩ trivial) Try.func46 (by kernel_rfl) (by kernel_rfl) (by kernel_rfl)
    (by rw [show loopsOf (bodyOf Try.f46) = [] from by kernel_rfl]; exact trivial) (fun x => ef_S_GoodParts x.1 x.2.1)
noncomputable def o_L_FnParts_7 : List Out := [⟨.normal, ⟨[], [1, 5, 6, 7, 8, 9, 70, 107, 108, 111, 112, 113, 114, 117, 118, 121, 122, 123, 124, 127, 128, 131, 132, 133, 134, 137, 138, 141, 142, 145, 146, 147, 148, 203, 204, 205, 208, 209, 210, 213, 214, 215, 218, 219, 220, 223, 224, 225, 228, 229, 230], []⟩, mkSh 232 [(1, .val S_uint8 .b), (5, .val S_string .b), (6, .val S_string .b), (7, .val S_string .b), (8, .val S_impl_Part (.row (.pr .b (.pr .b (.pr .b (.pr (.row .b) (.pr (.row .b) .b))))))), (9, .val .bool .b), (70, .val .bool .b)]⟩]
noncomputable def o_L_FnParts_15 : List Out := [⟨.normal, ⟨[], [1, 149, 203, 204, 205, 208, 209, 210, 213, 214, 215, 218, 219, 220, 223, 224, 225, 228, 229, 230], []⟩, mkSh 232 [(1, .val S_uint8 .b), (149, .val .bool .b)]⟩]
noncomputable def o_L_FnParts_16 : List Out := [⟨.normal, ⟨[], [1, 203, 204, 205, 208, 209, 210, 213, 214, 215, 218, 219, 220, 223, 224, 225, 228, 229, 230], []⟩, mkSh 232 [(1, .val S_uint8 .b)]⟩, ⟨.ret, ⟨[], [4], []⟩, mkSh 232 [(4, .val .bool .b)]⟩]
noncomputable def pl_L_FnParts : Plan := ⟨[(7, o_L_FnParts_7), (15, o_L_FnParts_15), (16, o_L_FnParts_16)], [], 0, 0⟩
noncomputable def f_L_FnParts (t0 : PV S_uint8) (t1 : PV S_uint8) : Option (PVs [.bool] × PVs []) :=
  (f_L_big t0 t1).bind fun r4 =>
    bif r4.1.1 then
      some ((true, ()), ())
    else
      (f_S_DrawPartsOf t0).bind fun r6 =>
        (f_I_PartsOf r6.1.1 r6.1.2.1 r6.1.2.2.1).bind fun r8 =>
          (f_S_PartsOf r6.1.1 r6.1.2.1 r6.1.2.2.1).bind fun r10 =>
            ((
                bif (!(r8.1.2.1 == r10.1.2.1)) then
                  some (t1, r6.1.1, r6.1.2.1, r6.1.2.2.1, r8.1.1, r8.1.2.1, true, ())
                else
                  (f_L_sameParts r8.1.1 r10.1.1).bind fun r14 =>
                    some (t1, r6.1.1, r6.1.2.1, r6.1.2.2.1, r8.1.1, r8.1.2.1, (!r14.1.1), ()) : Option ((PV S_uint8 × PV S_string × PV S_string × PV S_string × PV S_impl_Part × PV .bool × PV .bool × Unit)))).bind fun j15 =>
              bif j15.2.2.2.2.2.2.1 then
                some ((false, ()), ())
              else
                ((
                    bif j15.2.2.2.2.2.1 then
                      (f_I_TakeSide j15.2.1 j15.2.2.2.2.1 0).bind fun r38 =>
                        (f_I_TakeSide j15.2.1 j15.2.2.2.2.1 1).bind fun r40 =>
                          (f_I_TakeSide j15.2.1 j15.2.2.2.2.1 2).bind fun r42 =>
                            (f_I_SwapSides j15.2.2.2.2.1).bind fun r44 =>
                              (f_I_PartsOf j15.2.1 j15.2.2.2.1 j15.2.2.1).bind fun r46 =>
                                ((
                                    (f_I_GoodParts j15.2.1 j15.2.2.2.2.1).bind fun r47 =>
                                      bif (!r47.1.1) then
                                        some (j15.1, true, ())
                                      else
                                        bif (!r38.1.2.1) then
                                          some (j15.1, true, ())
                                        else
                                          (f_L_sameTexts r38.1.1 j15.2.1).bind fun r48 =>
                                            bif (!r48.1.1) then
                                              some (j15.1, true, ())
                                            else
                                              bif (!r40.1.2.1) then
                                                some (j15.1, true, ())
                                              else
                                                (f_L_sameTexts r40.1.1 j15.2.2.1).bind fun r49 =>
                                                  bif (!r49.1.1) then
                                                    some (j15.1, true, ())
                                                  else
                                                    bif (!r42.1.2.1) then
                                                      some (j15.1, true, ())
                                                    else
                                                      (f_L_sameTexts r42.1.1 j15.2.2.2.1).bind fun r50 =>
                                                        bif (!r50.1.1) then
                                                          some (j15.1, true, ())
                                                        else
                                                          bif (!r44.1.2.1) then
                                                            some (j15.1, true, ())
                                                          else
                                                            bif (!r46.1.2.1) then
                                                              some (j15.1, true, ())
                                                            else
                                                              (f_L_sameParts r44.1.1 r46.1.1).bind fun r51 =>
                                                                some (j15.1, (!r51.1.1), ()) : Option ((PV S_uint8 × PV .bool × Unit)))).bind fun j52 =>
                                  bif j52.2.1 then
                                    some (.inr (false, ()))
                                  else
                                    some (.inl (j52.1, ()))
                    else
                      some (.inl (j15.1, ())) : Option ((PV S_uint8 × Unit) ⊕ (PV .bool × Unit)))).bind fun x75 =>
                  match x75 with
                  | .inl j53 =>
                    (f_S_DrawGoodParts j53.1).bind fun r55 =>
                      (f_S_DrawTakeSide j53.1).bind fun r57 =>
                        (f_I_TakeSide r57.1.1 r57.1.2.1 r57.1.2.2.1).bind fun r59 =>
                          (f_S_TakeSide r57.1.1 r57.1.2.1 r57.1.2.2.1).bind fun r61 =>
                            (f_I_SwapSides r55.1.2.1).bind fun r63 =>
                              (f_S_SwapSides r55.1.2.1).bind fun r65 =>
                                (f_I_ClashesIn r55.1.2.1).bind fun r67 =>
                                  (f_S_ClashesIn r55.1.2.1).bind fun r69 =>
                                    (f_I_GoodParts r55.1.1 r55.1.2.1).bind fun r70 =>
                                      (f_S_GoodParts r55.1.1 r55.1.2.1).bind fun r71 =>
                                        bif (r70.1.1 == r71.1.1) then
                                          bif (r59.1.2.1 == r61.1.2.1) then
                                            (f_L_sameTexts r59.1.1 r61.1.1).bind fun r72 =>
                                              bif r72.1.1 then
                                                bif (r63.1.2.1 == r65.1.2.1) then
                                                  (f_L_sameParts r63.1.1 r65.1.1).bind fun r73 =>
                                                    bif r73.1.1 then
                                                      bif (r67.1.2.1 == r69.1.2.1) then
                                                        some (((r67.1.1 == r69.1.1), ()), ())
                                                      else
                                                        some ((false, ()), ())
                                                    else
                                                      some ((false, ()), ())
                                                else
                                                  some ((false, ()), ())
                                              else
                                                some ((false, ()), ())
                                          else
                                            some ((false, ()), ())
                                        else
                                          some ((false, ()), ())
                  | .inr j74 =>
                    some ((j74.1, ()), ())
noncomputable def ct_L_FnParts : Ct := ⟨[(.bor, S_uint8), (.bor, S_uint8)], [(.bool, .b)], fun x => f_L_FnParts x.1 x.2.1⟩
noncomputable def cx_L_FnParts : Cx := ⟨tab, arrs, [(31, ct_L_big), (32, ct_S_DrawPartsOf), (33, ct_I_PartsOf), (34, ct_S_PartsOf), (35, ct_L_sameParts), (36, ct_I_TakeSide), (37, ct_I_SwapSides), (38, ct_I_GoodParts), (39, ct_L_sameTexts), (40, ct_S_DrawGoodParts), (41, ct_S_DrawTakeSide), (42, ct_S_TakeSide), (43, ct_S_SwapSides), (44, ct_I_ClashesIn), (45, ct_S_ClashesIn), (46, ct_S_GoodParts)], [], gl, []⟩
theorem ef_L_FnParts (t0 : PV S_uint8) (t1 : PV S_uint8) : denF cx_L_FnParts 0 pl_L_FnParts Try.f6.ntmps (bodyOf Try.f6) Try.f6.results.toList [(.bor, S_uint8), (.bor, S_uint8)] [(.bool, .b)] (t0, t1, ()) = f_L_FnParts t0 t1 := by kernel_rfl
theorem ok_L_FnParts : FnOk gl Try.prog 6 ct_L_FnParts :=
  fnOk (cx := cx_L_FnParts) (pl := pl_L_FnParts) (dp := 0) (ok0_of tabOk (by unfold ArrOk; kernel_rfl) mix ⟨ok_L_big, ok_S_DrawPartsOf, ok_I_PartsOf, ok_S_PartsOf, ok_L_sameParts, ok_I_TakeSide, ok_I_SwapSides, ok_I_GoodParts, ok_L_sameTexts, ok_S_DrawGoodParts, ok_S_DrawTakeSide, ok_S_TakeSide, ok_S_SwapSides, ok_I_ClashesIn, ok_S_ClashesIn, ok_S_GoodParts, trivial⟩ trivial) Try.func6 (by kernel_rfl) (by kernel_rfl) (by kernel_rfl)
    (by rw [show loopsOf (bodyOf Try.f6) = [] from by kernel_rfl]; exact trivial) (fun x => ef_L_FnParts x.1 x.2.1)
end R
