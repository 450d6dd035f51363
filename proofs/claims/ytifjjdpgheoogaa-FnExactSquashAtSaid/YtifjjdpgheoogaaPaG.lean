/- The functions, part 2. -/
import Derived.Test.YtifjjdpgheoogaaPaG1
open Go Go.Dn Go.Proofs
namespace R
set_option linter.unusedVariables false
set_option maxRecDepth 20000
open Go.Shelf
noncomputable def o_I_between_6 : List Out := [⟨.normal, ⟨[], [1, 7, 8, 9, 11, 21, 22, 23, 38], []⟩, mkSh 66 [(1, .val S_string .b), (7, .val S_impl_Hunk (.row (.pr .b (.pr .b (.pr (.row .b) .b))))), (8, .val (.int .i64) .b), (9, .val (.int .i64) .b), (11, .val S_int .b), (21, .val S_S_int (.row .b)), (22, .val (.int .i64) .b), (23, .val (.int .i64) .b), (38, .val .bool .b)]⟩]
noncomputable def o_I_between_7 : List Out := [⟨.normal, ⟨[], [1, 7, 11, 21, 22, 23, 33, 34, 35, 36, 37], []⟩, mkSh 66 [(1, .val S_string .b), (7, .val S_impl_Hunk (.row (.pr .b (.pr .b (.pr (.row .b) .b))))), (11, .val S_int .b), (21, .val S_S_int (.row .b)), (22, .val (.int .i64) .b), (23, .val (.int .i64) .b)]⟩]
noncomputable def sh_I_between_3 : List Sh := mkSh 66 [(1, .val S_string .b), (7, .val S_impl_Hunk (.row (.pr .b (.pr .b (.pr (.row .b) .b))))), (8, .val (.int .i64) .b), (9, .val (.int .i64) .b), (21, .val S_S_int (.row .b)), (22, .val (.int .i64) .b), (23, .val (.int .i64) .b)]
noncomputable def o_I_between_3 : List Out := [⟨.exit 0, ⟨[], [7], []⟩, mkSh 66 [(7, .val S_impl_Hunk (.row (.pr .b (.pr .b (.pr (.row .b) .b)))))]⟩]
noncomputable def b_I_between_3 (t1 : PV S_string) (t7 : PV S_impl_Hunk) (t8 : PV (.int .i64)) (t9 : PV (.int .i64)) (t21 : PV S_S_int) (t22 : PV (.int .i64)) (t23 : PV (.int .i64)) : Option ((PV S_string × PV S_impl_Hunk × PV (.int .i64) × PV (.int .i64) × PV S_S_int × PV (.int .i64) × PV (.int .i64) × Unit) ⊕ ((PV S_impl_Hunk × Unit))) :=
  bif (decide (t23 < t22)) then
    bif inB t23 t21.length then
      ((
          ((
              bif inB 0 (t21.getD t23.toNat []).length then
                bif (decide (((t21.getD t23.toNat []).getD ((0 : Int).toNat) (0 : Int)) > t8)) then
                  some (t1, t7, t8, t9, (t21.getD t23.toNat []), t21, t22, t23, true, ())
                else
                  bif inB 1 (t21.getD t23.toNat []).length then
                    some (t1, t7, t8, t9, (t21.getD t23.toNat []), t21, t22, t23, (decide (((t21.getD t23.toNat []).getD ((1 : Int).toNat) (0 : Int)) > t9)), ())
                  else
                    none
              else
                none : Option ((PV S_string × PV S_impl_Hunk × PV (.int .i64) × PV (.int .i64) × PV S_int × PV S_S_int × PV (.int .i64) × PV (.int .i64) × PV .bool × Unit)))).bind fun j6 =>
            bif j6.2.2.2.2.2.2.2.2.1 then
              bif inB 0 j6.2.2.2.2.1.length then
                bif inB 1 j6.2.2.2.2.1.length then
                  bif cutB j6.2.2.2.1 (j6.2.2.2.2.1.getD ((1 : Int).toNat) (0 : Int)) j6.1.length then
                    (f_slices_Clone_string (cutL j6.2.2.2.1 (j6.2.2.2.2.1.getD ((1 : Int).toNat) (0 : Int)) j6.1)).bind fun r7 =>
                      bif roomB (j6.2.1.length + [(j6.2.2.1, ((IntKind.wrap .i64 ((j6.2.2.2.2.1.getD ((0 : Int).toNat) (0 : Int)) - j6.2.2.1)), (r7.1.1, ())))].length) then
                        some (j6.1, (j6.2.1 ++ [(j6.2.2.1, ((IntKind.wrap .i64 ((j6.2.2.2.2.1.getD ((0 : Int).toNat) (0 : Int)) - j6.2.2.1)), (r7.1.1, ())))]), j6.2.2.2.2.1, j6.2.2.2.2.2.1, j6.2.2.2.2.2.2.1, j6.2.2.2.2.2.2.2.1, ())
                      else
                        none
                  else
                    none
                else
                  none
              else
                none
            else
              some (j6.1, j6.2.1, j6.2.2.2.2.1, j6.2.2.2.2.2.1, j6.2.2.2.2.2.2.1, j6.2.2.2.2.2.2.2.1, ()) : Option ((PV S_string × PV S_impl_Hunk × PV S_int × PV S_S_int × PV (.int .i64) × PV (.int .i64) × Unit)))).bind fun j8 =>
        bif inB 0 j8.2.2.1.length then
          bif inB 1 j8.2.2.1.length then
            some (.inl (j8.1, j8.2.1, (IntKind.wrap .i64 ((j8.2.2.1.getD ((0 : Int).toNat) (0 : Int)) + 1)), (IntKind.wrap .i64 ((j8.2.2.1.getD ((1 : Int).toNat) (0 : Int)) + 1)), j8.2.2.2.1, j8.2.2.2.2.1, (IntKind.wrap .i64 (j8.2.2.2.2.2.1 + 1)), ()))
          else
            none
        else
          none
    else
      none
  else
    some (.inr (t7, ()))
noncomputable def w_I_between_3 : PV S_string × PV S_impl_Hunk × PV (.int .i64) × PV (.int .i64) × PV S_S_int × PV (.int .i64) × PV (.int .i64) × Unit → Option ((PV S_impl_Hunk × Unit)) := fix fun d => b_I_between_3 d.1 d.2.1 d.2.2.1 d.2.2.2.1 d.2.2.2.2.1 d.2.2.2.2.2.1 d.2.2.2.2.2.2.1
noncomputable def lp_I_between_3 : Lp := ⟨⟨[], [1, 7, 8, 9, 21, 22, 23, 33, 34, 35, 36, 37], []⟩, sh_I_between_3, o_I_between_3, fun d => b_I_between_3 d.1 d.2.1 d.2.2.1 d.2.2.2.1 d.2.2.2.2.1 d.2.2.2.2.2.1 d.2.2.2.2.2.2.1⟩
noncomputable def pl_I_between : Plan := ⟨[(6, o_I_between_6), (7, o_I_between_7)], [(3, lp_I_between_3)], 0, 0⟩
noncomputable def f_I_between (t0 : PV S_string) (t1 : PV S_string) (t2 : PV S_S_int) : Option (PVs [S_impl_Hunk] × PVs []) :=
  (f_slices_Clone_sint t2).bind fun r11 =>
    bif roomB (r11.1.1.length + [[(t0.length : Int), (t1.length : Int)]].length) then
      (w_I_between_3 (t1, ([] : PV S_impl_Hunk), 0, 0, (r11.1.1 ++ [[(t0.length : Int), (t1.length : Int)]]), ((r11.1.1 ++ [[(t0.length : Int), (t1.length : Int)]]).length : Int), 0, ())).bind fun l12 =>
        some ((l12.1, ()), ())
    else
      none
noncomputable def ct_I_between : Ct := ⟨[(.bor, S_string), (.bor, S_string), (.bor, S_S_int)], [(S_impl_Hunk, (.row (.pr .b (.pr .b (.pr (.row .b) .b)))))], fun x => f_I_between x.1 x.2.1 x.2.2.1⟩
noncomputable def cx_I_between : Cx := ⟨tab, arrs, [(97, ct_slices_Clone_string), (210, ct_slices_Clone_sint)], [], gl, []⟩
theorem eb_I_between_3 (t1 : PV S_string) (t7 : PV S_impl_Hunk) (t8 : PV (.int .i64)) (t9 : PV (.int .i64)) (t21 : PV S_S_int) (t22 : PV (.int .i64)) (t23 : PV (.int .i64)) : denK cx_I_between (rcN cx_I_between 0) pl_I_between 0 ((loopsOf (bodyOf Try.f178)).getD 0 .skip) (fillS sh_I_between_3 (t1, t7, t8, t9, t21, t22, t23, ())) (roundK 0 lp_I_between_3) = b_I_between_3 t1 t7 t8 t9 t21 t22 t23 := by kernel_rfl
theorem ef_I_between (t0 : PV S_string) (t1 : PV S_string) (t2 : PV S_S_int) : denF cx_I_between 0 pl_I_between Try.f178.ntmps (bodyOf Try.f178) Try.f178.results.toList [(.bor, S_string), (.bor, S_string), (.bor, S_S_int)] [(S_impl_Hunk, (.row (.pr .b (.pr .b (.pr (.row .b) .b)))))] (t0, t1, t2, ()) = f_I_between t0 t1 t2 := by kernel_rfl
theorem ok_I_between : FnOk gl Try.prog 178 ct_I_between :=
  fnOk (cx := cx_I_between) (pl := pl_I_between) (dp := 0) (ok0_of tabOk (by unfold ArrOk; kernel_rfl) mix ⟨ok_slices_Clone_string, ok_slices_Clone_sint, trivial⟩ trivial) Try.func178 (by kernel_rfl) (by kernel_rfl) (by kernel_rfl)
    (by rw [show loopsOf (bodyOf Try.f178) = [((loopsOf (bodyOf Try.f178)).getD 0 .skip)] from by kernel_rfl]; exact ⟨(by rw [show lookup pl_I_between.loops (firstId ((loopsOf (bodyOf Try.f178)).getD 0 .skip)) = some lp_I_between_3 from by kernel_rfl]; exact fun d z h => (eb_I_between_3 d.1 d.2.1 d.2.2.1 d.2.2.2.1 d.2.2.2.2.1 d.2.2.2.2.2.1 d.2.2.2.2.2.2.1).trans h), trivial⟩) (fun x => ef_I_between x.1 x.2.1 x.2.2.1)
noncomputable def o_I_JoinHunks_4 : List Out := [⟨.normal, ⟨[], [0, 1, 2, 8, 10, 34, 53, 54, 55, 56, 57], []⟩, mkSh 79 [(0, .val S_string .b), (1, .val S_impl_Hunk .b), (2, .val S_impl_Hunk .b), (8, .val S_string (.row .b)), (10, .val S_string (.row .b)), (34, .val .bool .b)]⟩]
noncomputable def o_I_JoinHunks_10 : List Out := [⟨.normal, ⟨[], [0, 10, 12, 13, 14, 15, 43, 44, 45, 58], []⟩, mkSh 79 [(0, .val S_string .b), (10, .val S_string (.row .b)), (12, .val S_int (.row .b)), (13, .val S_S_int (.row (.row .b))), (14, .val (.int .i64) .b), (15, .val (.int .i64) .b), (43, .val S_int (.row .b)), (44, .val (.int .i64) .b), (45, .val (.int .i64) .b), (58, .val .bool .b)]⟩]
noncomputable def o_I_JoinHunks_11 : List Out := [⟨.normal, ⟨[], [0, 10, 12, 13, 43, 44, 45, 53, 54, 55, 56, 57], []⟩, mkSh 79 [(0, .val S_string .b), (10, .val S_string (.row .b)), (12, .val S_int (.row .b)), (13, .val S_S_int (.row (.row .b))), (43, .val S_int (.row .b)), (44, .val (.int .i64) .b), (45, .val (.int .i64) .b)]⟩]
noncomputable def sh_I_JoinHunks_7 : List Sh := mkSh 79 [(0, .val S_string .b), (10, .val S_string (.row .b)), (12, .val S_int (.row .b)), (13, .val S_S_int (.row (.row .b))), (43, .val S_int (.row .b)), (44, .val (.int .i64) .b), (45, .val (.int .i64) .b)]
noncomputable def o_I_JoinHunks_7 : List Out := [⟨.exit 0, ⟨[], [0, 10, 13], []⟩, mkSh 79 [(0, .val S_string .b), (10, .val S_string (.row .b)), (13, .val S_S_int (.row (.row .b)))]⟩]
noncomputable def b_I_JoinHunks_7 (t0 : PV S_string) (t10 : PV S_string) (t12 : PV S_int) (t13 : PV S_S_int) (t43 : PV S_int) (t44 : PV (.int .i64)) (t45 : PV (.int .i64)) : Option ((PV S_string × PV S_string × PV S_int × PV S_S_int × PV S_int × PV (.int .i64) × PV (.int .i64) × Unit) ⊕ ((PV S_string × PV S_string × PV S_S_int × Unit))) :=
  bif (decide (t45 < t44)) then
    ((
        bif inB t45 t43.length then
          ((
              bif (decide ((t43.getD t45.toNat (0 : Int)) ≥ 0)) then
                bif inB (t43.getD t45.toNat (0 : Int)) t12.length then
                  some (t0, t10, t12, t13, t45, (t43.getD t45.toNat (0 : Int)), t43, t44, t45, (decide ((t12.getD ((t43.getD t45.toNat (0 : Int)).toNat) (0 : Int)) ≥ 0)), ())
                else
                  none
              else
                some (t0, t10, t12, t13, t45, (t43.getD t45.toNat (0 : Int)), t43, t44, t45, false, ()) : Option ((PV S_string × PV S_string × PV S_int × PV S_S_int × PV (.int .i64) × PV (.int .i64) × PV S_int × PV (.int .i64) × PV (.int .i64) × PV .bool × Unit)))).bind fun j11 =>
            bif j11.2.2.2.2.2.2.2.2.2.1 then
              bif inB j11.2.2.2.2.2.1 j11.2.2.1.length then
                bif roomB (j11.2.2.2.1.length + [[(j11.2.2.1.getD j11.2.2.2.2.2.1.toNat (0 : Int)), j11.2.2.2.2.1]].length) then
                  some (j11.1, j11.2.1, j11.2.2.1, (j11.2.2.2.1 ++ [[(j11.2.2.1.getD j11.2.2.2.2.2.1.toNat (0 : Int)), j11.2.2.2.2.1]]), j11.2.2.2.2.2.2.1, j11.2.2.2.2.2.2.2.1, j11.2.2.2.2.2.2.2.2.1, ())
                else
                  none
              else
                none
            else
              some (j11.1, j11.2.1, j11.2.2.1, j11.2.2.2.1, j11.2.2.2.2.2.2.1, j11.2.2.2.2.2.2.2.1, j11.2.2.2.2.2.2.2.2.1, ())
        else
          none : Option ((PV S_string × PV S_string × PV S_int × PV S_S_int × PV S_int × PV (.int .i64) × PV (.int .i64) × Unit)))).bind fun j12 =>
      some (.inl (j12.1, j12.2.1, j12.2.2.1, j12.2.2.2.1, j12.2.2.2.2.1, j12.2.2.2.2.2.1, (IntKind.wrap .i64 (j12.2.2.2.2.2.2.1 + 1)), ()))
  else
    some (.inr (t0, t10, t13, ()))
noncomputable def w_I_JoinHunks_7 : PV S_string × PV S_string × PV S_int × PV S_S_int × PV S_int × PV (.int .i64) × PV (.int .i64) × Unit → Option ((PV S_string × PV S_string × PV S_S_int × Unit)) := fix fun d => b_I_JoinHunks_7 d.1 d.2.1 d.2.2.1 d.2.2.2.1 d.2.2.2.2.1 d.2.2.2.2.2.1 d.2.2.2.2.2.2.1
noncomputable def lp_I_JoinHunks_7 : Lp := ⟨⟨[], [0, 10, 12, 13, 43, 44, 45, 53, 54, 55, 56, 57], []⟩, sh_I_JoinHunks_7, o_I_JoinHunks_7, fun d => b_I_JoinHunks_7 d.1 d.2.1 d.2.2.1 d.2.2.2.1 d.2.2.2.2.1 d.2.2.2.2.2.1 d.2.2.2.2.2.2.1⟩
noncomputable def pl_I_JoinHunks : Plan := ⟨[(4, o_I_JoinHunks_4), (10, o_I_JoinHunks_10), (11, o_I_JoinHunks_11)], [(7, lp_I_JoinHunks_7)], 0, 0⟩
noncomputable def f_I_JoinHunks (t0 : PV S_string) (t1 : PV S_impl_Hunk) (t2 : PV S_impl_Hunk) : Option (PVs [S_impl_Hunk, .bool] × PVs []) :=
  (f_I_Patch t0 t1).bind fun r2 =>
    (f_I_Patch r2.1.1 t2).bind fun r4 =>
      ((
          bif (!r2.1.2.1) then
            some (t0, t1, t2, r2.1.1, r4.1.1, true, ())
          else
            some (t0, t1, t2, r2.1.1, r4.1.1, (!r4.1.2.1), ()) : Option ((PV S_string × PV S_impl_Hunk × PV S_impl_Hunk × PV S_string × PV S_string × PV .bool × Unit)))).bind fun j6 =>
        bif j6.2.2.2.2.2.1 then
          some (([], false, ()), ())
        else
          (f_I_kept (j6.1.length : Int) j6.2.1).bind fun r8 =>
            (f_I_kept (j6.2.2.2.1.length : Int) j6.2.2.1).bind fun r15 =>
              (w_I_JoinHunks_7 (j6.1, j6.2.2.2.2.1, r8.1.1, ([] : PV S_S_int), r15.1.1, (r15.1.1.length : Int), 0, ())).bind fun l16 =>
                (f_I_between l16.1 l16.2.1 l16.2.2.1).bind fun r18 =>
                  (f_I_goodHunks (l16.1.length : Int) r18.1.1).bind fun r22 =>
                    bif (!r22.1.1) then
                      some (([], false, ()), ())
                    else
                      some ((r18.1.1, true, ()), ())
noncomputable def ct_I_JoinHunks : Ct := ⟨[(.bor, S_string), (.bor, S_impl_Hunk), (.bor, S_impl_Hunk)], [(S_impl_Hunk, (.row (.pr .b (.pr .b (.pr (.row .b) .b))))), (.bool, .b)], fun x => f_I_JoinHunks x.1 x.2.1 x.2.2.1⟩
noncomputable def cx_I_JoinHunks : Cx := ⟨tab, arrs, [(74, ct_I_Patch), (80, ct_I_goodHunks), (177, ct_I_kept), (178, ct_I_between)], [], gl, []⟩
theorem eb_I_JoinHunks_7 (t0 : PV S_string) (t10 : PV S_string) (t12 : PV S_int) (t13 : PV S_S_int) (t43 : PV S_int) (t44 : PV (.int .i64)) (t45 : PV (.int .i64)) : denK cx_I_JoinHunks (rcN cx_I_JoinHunks 0) pl_I_JoinHunks 0 ((loopsOf (bodyOf Try.f128)).getD 0 .skip) (fillS sh_I_JoinHunks_7 (t0, t10, t12, t13, t43, t44, t45, ())) (roundK 0 lp_I_JoinHunks_7) = b_I_JoinHunks_7 t0 t10 t12 t13 t43 t44 t45 := by kernel_rfl
theorem ef_I_JoinHunks (t0 : PV S_string) (t1 : PV S_impl_Hunk) (t2 : PV S_impl_Hunk) : denF cx_I_JoinHunks 0 pl_I_JoinHunks Try.f128.ntmps (bodyOf Try.f128) Try.f128.results.toList [(.bor, S_string), (.bor, S_impl_Hunk), (.bor, S_impl_Hunk)] [(S_impl_Hunk, (.row (.pr .b (.pr .b (.pr (.row .b) .b))))), (.bool, .b)] (t0, t1, t2, ()) = f_I_JoinHunks t0 t1 t2 := by kernel_rfl
theorem ok_I_JoinHunks : FnOk gl Try.prog 128 ct_I_JoinHunks :=
  fnOk (cx := cx_I_JoinHunks) (pl := pl_I_JoinHunks) (dp := 0) (ok0_of tabOk (by unfold ArrOk; kernel_rfl) mix ⟨ok_I_Patch, ok_I_goodHunks, ok_I_kept, ok_I_between, trivial⟩ trivial) Try.func128 (by kernel_rfl) (by kernel_rfl) (by kernel_rfl)
    (by rw [show loopsOf (bodyOf Try.f128) = [((loopsOf (bodyOf Try.f128)).getD 0 .skip)] from by kernel_rfl]; exact ⟨(by rw [show lookup pl_I_JoinHunks.loops (firstId ((loopsOf (bodyOf Try.f128)).getD 0 .skip)) = some lp_I_JoinHunks_7 from by kernel_rfl]; exact fun d z h => (eb_I_JoinHunks_7 d.1 d.2.1 d.2.2.1 d.2.2.2.1 d.2.2.2.2.1 d.2.2.2.2.2.1 d.2.2.2.2.2.2.1).trans h), trivial⟩) (fun x => ef_I_JoinHunks x.1 x.2.1 x.2.2.1)
noncomputable def sh_I_Series_copied_3 : List Sh := mkSh 26 [(2, .var Y_impl_Series (.pr (.row .b) (.pr (.row (.row (.pr .b (.pr .b (.pr (.row .b) .b))))) .b))), (3, .var Y_impl_Series (.pr (.row .b) (.pr (.row (.row (.pr .b (.pr .b (.pr (.row .b) .b))))) .b))), (11, .val S_S_impl_Hunk .b), (12, .val (.int .i64) .b), (13, .val (.int .i64) .b)]
noncomputable def o_I_Series_copied_3 : List Out := [⟨.exit 0, ⟨[], [2, 3], []⟩, mkSh 26 [(2, .var Y_impl_Series (.pr (.row .b) (.pr (.row (.row (.pr .b (.pr .b (.pr (.row .b) .b))))) .b))), (3, .var Y_impl_Series (.pr (.row .b) (.pr (.row (.row (.pr .b (.pr .b (.pr (.row .b) .b))))) .b)))]⟩]
noncomputable def b_I_Series_copied_3 (t2 : PV Y_impl_Series) (t3 : PV Y_impl_Series) (t11 : PV S_S_impl_Hunk) (t12 : PV (.int .i64)) (t13 : PV (.int .i64)) : Option ((PV Y_impl_Series × PV Y_impl_Series × PV S_S_impl_Hunk × PV (.int .i64) × PV (.int .i64) × Unit) ⊕ ((PV Y_impl_Series × PV Y_impl_Series × Unit))) :=
  bif (decide (t13 < t12)) then
    bif inB t13 t11.length then
      (f_I_copiedHunks (t11.getD t13.toNat [])).bind fun r4 =>
        bif roomB (t3.2.1.length + [r4.1.1].length) then
          some (.inl (t2, (t3.1, ((t3.2.1 ++ [r4.1.1]), t3.2.2)), t11, t12, (IntKind.wrap .i64 (t13 + 1)), ()))
        else
          none
    else
      none
  else
    some (.inr (t2, t3, ()))
noncomputable def w_I_Series_copied_3 : PV Y_impl_Series × PV Y_impl_Series × PV S_S_impl_Hunk × PV (.int .i64) × PV (.int .i64) × Unit → Option ((PV Y_impl_Series × PV Y_impl_Series × Unit)) := fix fun d => b_I_Series_copied_3 d.1 d.2.1 d.2.2.1 d.2.2.2.1 d.2.2.2.2.1
noncomputable def lp_I_Series_copied_3 : Lp := ⟨⟨[], [2, 3, 11, 12, 13], []⟩, sh_I_Series_copied_3, o_I_Series_copied_3, fun d => b_I_Series_copied_3 d.1 d.2.1 d.2.2.1 d.2.2.2.1 d.2.2.2.2.1⟩
noncomputable def pl_I_Series_copied : Plan := ⟨[], [(3, lp_I_Series_copied_3)], 0, 0⟩
noncomputable def f_I_Series_copied (t0 : PV Y_impl_Series) : Option (PVs [Y_impl_Series] × PVs []) :=
  (f_slices_Clone_string t0.1).bind fun r2 =>
    (w_I_Series_copied_3 ((([] : PV S_string), (([] : PV S_S_impl_Hunk), ())), (r2.1.1, (([] : PV S_S_impl_Hunk), ())), t0.2.1, (t0.2.1.length : Int), 0, ())).bind fun l6 =>
      some ((l6.2.1, ()), ())
noncomputable def ct_I_Series_copied : Ct := ⟨[(.bor, Y_impl_Series)], [(Y_impl_Series, (.pr (.row .b) (.pr (.row (.row (.pr .b (.pr .b (.pr (.row .b) .b))))) .b)))], fun x => f_I_Series_copied x.1⟩
noncomputable def cx_I_Series_copied : Cx := ⟨tab, arrs, [(75, ct_I_copiedHunks), (97, ct_slices_Clone_string)], [], gl, []⟩
theorem eb_I_Series_copied_3 (t2 : PV Y_impl_Series) (t3 : PV Y_impl_Series) (t11 : PV S_S_impl_Hunk) (t12 : PV (.int .i64)) (t13 : PV (.int .i64)) : denK cx_I_Series_copied (rcN cx_I_Series_copied 0) pl_I_Series_copied 0 ((loopsOf (bodyOf Try.f129)).getD 0 .skip) (fillS sh_I_Series_copied_3 (t2, t3, t11, t12, t13, ())) (roundK 0 lp_I_Series_copied_3) = b_I_Series_copied_3 t2 t3 t11 t12 t13 := by kernel_rfl
theorem ef_I_Series_copied (t0 : PV Y_impl_Series) : denF cx_I_Series_copied 0 pl_I_Series_copied Try.f129.ntmps (bodyOf Try.f129) Try.f129.results.toList [(.bor, Y_impl_Series)] [(Y_impl_Series, (.pr (.row .b) (.pr (.row (.row (.pr .b (.pr .b (.pr (.row .b) .b))))) .b)))] (t0, ()) = f_I_Series_copied t0 := by kernel_rfl
theorem ok_I_Series_copied : FnOk gl Try.prog 129 ct_I_Series_copied :=
  fnOk (cx := cx_I_Series_copied) (pl := pl_I_Series_copied) (dp := 0) (ok0_of tabOk (by unfold ArrOk; kernel_rfl) mix ⟨ok_I_copiedHunks, ok_slices_Clone_string, trivial⟩ trivial) Try.func129 (by kernel_rfl) (by kernel_rfl) (by kernel_rfl)
    (by rw [show loopsOf (bodyOf Try.f129) = [((loopsOf (bodyOf Try.f129)).getD 0 .skip)] from by kernel_rfl]; exact ⟨(by rw [show lookup pl_I_Series_copied.loops (firstId ((loopsOf (bodyOf Try.f129)).getD 0 .skip)) = some lp_I_Series_copied_3 from by kernel_rfl]; exact fun d z h => (eb_I_Series_copied_3 d.1 d.2.1 d.2.2.1 d.2.2.2.1 d.2.2.2.2.1).trans h), trivial⟩) (fun x => ef_I_Series_copied x.1)
noncomputable def o_I_SquashAt_3 : List Out := [⟨.normal, ⟨[], [1, 2, 4, 6, 25], []⟩, mkSh 61 [(1, .val (.int .i64) .b), (2, .var Y_impl_Series .b), (4, .var Y_impl_Series (.pr (.row .b) (.pr (.row (.row (.pr .b (.pr .b (.pr (.row .b) .b))))) .b))), (6, .val S_S_string (.row (.row .b))), (25, .val .bool .b)]⟩]
noncomputable def pl_I_SquashAt : Plan := ⟨[(3, o_I_SquashAt_3)], [], 0, 0⟩
noncomputable def f_I_SquashAt (t0 : PV Y_impl_Series) (t1 : PV (.int .i64)) : Option (PVs [Y_impl_Series, .bool] × PVs []) :=
  (f_I_Series_texts t0).bind fun r2 =>
    ((
        bif (!r2.1.2.1) then
          some (t1, t0, (([] : PV S_string), (([] : PV S_S_impl_Hunk), ())), r2.1.1, true, ())
        else
          (f_I_in t1 0 (IntKind.wrap .i64 ((t0.2.1.length : Int) - 2))).bind fun r6 =>
            some (t1, t0, (([] : PV S_string), (([] : PV S_S_impl_Hunk), ())), r2.1.1, (!r6.1.1), ()) : Option ((PV (.int .i64) × PV Y_impl_Series × PV Y_impl_Series × PV S_S_string × PV .bool × Unit)))).bind fun j7 =>
      bif j7.2.2.2.2.1 then
        some (((([] : PV S_string), (([] : PV S_S_impl_Hunk), ())), false, ()), ())
      else
        bif inB j7.1 j7.2.2.2.1.length then
          bif inB j7.1 j7.2.1.2.1.length then
            bif inB (IntKind.wrap .i64 (j7.1 + 1)) j7.2.1.2.1.length then
              (f_I_JoinHunks (j7.2.2.2.1.getD j7.1.toNat []) (j7.2.1.2.1.getD j7.1.toNat []) (j7.2.1.2.1.getD ((IntKind.wrap .i64 (j7.1 + 1)).toNat) [])).bind fun r9 =>
                bif (!r9.1.2.1) then
                  some (((([] : PV S_string), (([] : PV S_S_impl_Hunk), ())), false, ()), ())
                else
                  (f_I_Series_copied j7.2.1).bind fun r11 =>
                    (f_slices_Replace_Hunk r11.1.1.2.1 j7.1 (IntKind.wrap .i64 (j7.1 + 2)) [r9.1.1]).bind fun r13 =>
                      some (((r11.1.1.1, (r13.1.1, r11.1.1.2.2)), true, ()), ())
            else
              none
          else
            none
        else
          none
noncomputable def ct_I_SquashAt : Ct := ⟨[(.bor, Y_impl_Series), (.bor, (.int .i64))], [(Y_impl_Series, (.pr (.row .b) (.pr (.row (.row (.pr .b (.pr .b (.pr (.row .b) .b))))) .b))), (.bool, .b)], fun x => f_I_SquashAt x.1 x.2.1⟩
noncomputable def cx_I_SquashAt : Cx := ⟨tab, arrs, [(104, ct_I_in), (127, ct_I_Series_texts), (128, ct_I_JoinHunks), (129, ct_I_Series_copied), (130, ct_slices_Replace_Hunk)], [], gl, []⟩
theorem ef_I_SquashAt (t0 : PV Y_impl_Series) (t1 : PV (.int .i64)) : denF cx_I_SquashAt 0 pl_I_SquashAt Try.f57.ntmps (bodyOf Try.f57) Try.f57.results.toList [(.bor, Y_impl_Series), (.bor, (.int .i64))] [(Y_impl_Series, (.pr (.row .b) (.pr (.row (.row (.pr .b (.pr .b (.pr (.row .b) .b))))) .b))), (.bool, .b)] (t0, t1, ()) = f_I_SquashAt t0 t1 := by kernel_rfl
theorem ok_I_SquashAt : FnOk gl Try.prog 57 ct_I_SquashAt :=
  fnOk (cx := cx_I_SquashAt) (pl := pl_I_SquashAt) (dp := 0) (ok0_of tabOk (by unfold ArrOk; kernel_rfl) mix ⟨ok_I_in, ok_I_Series_texts, ok_I_JoinHunks, ok_I_Series_copied, ok_slices_Replace_Hunk, trivial⟩ trivial) Try.func57 (by kernel_rfl) (by kernel_rfl) (by kernel_rfl)
    (by rw [show loopsOf (bodyOf Try.f57) = [] from by kernel_rfl]; exact trivial) (fun x => ef_I_SquashAt x.1 x.2.1)
noncomputable def sh_L_eqStringS_4 : List Sh := mkSh 26 [(0, .val S_string .b), (1, .val S_string .b), (5, .val (.int .i64) .b)]
noncomputable def o_L_eqStringS_4 : List Out := [⟨.exit 0, ⟨[], [], []⟩, mkSh 26 []⟩, ⟨.ret, ⟨[], [4], []⟩, mkSh 26 [(4, .val .bool .b)]⟩]
noncomputable def b_L_eqStringS_4 (t0 : PV S_string) (t1 : PV S_string) (t5 : PV (.int .i64)) : Option ((PV S_string × PV S_string × PV (.int .i64) × Unit) ⊕ ((Unit) ⊕ (PV .bool × Unit))) :=
  bif (decide (t5 < (t0.length : Int))) then
    bif inB t5 t0.length then
      bif inB t5 t1.length then
        bif (!((t0.getD t5.toNat []) == (t1.getD t5.toNat []))) then
          some (.inr (.inr (false, ())))
        else
          some (.inl (t0, t1, (IntKind.wrap .i64 (t5 + 1)), ()))
      else
        none
    else
      none
  else
    some (.inr (.inl ()))
noncomputable def w_L_eqStringS_4 : PV S_string × PV S_string × PV (.int .i64) × Unit → Option ((Unit) ⊕ (PV .bool × Unit)) := fix fun d => b_L_eqStringS_4 d.1 d.2.1 d.2.2.1
noncomputable def lp_L_eqStringS_4 : Lp := ⟨⟨[], [0, 1, 5], []⟩, sh_L_eqStringS_4, o_L_eqStringS_4, fun d => b_L_eqStringS_4 d.1 d.2.1 d.2.2.1⟩
noncomputable def pl_L_eqStringS : Plan := ⟨[], [(4, lp_L_eqStringS_4)], 0, 0⟩
noncomputable def f_L_eqStringS (t0 : PV S_string) (t1 : PV S_string) : Option (PVs [.bool] × PVs []) :=
  bif (!((t0.length : Int) == (t1.length : Int))) then
    some ((false, ()), ())
  else
    (w_L_eqStringS_4 (t0, t1, 0, ())).bind fun x5 =>
      match x5 with
      | .inl l3 =>
        some ((true, ()), ())
      | .inr l4 =>
        some ((l4.1, ()), ())
noncomputable def ct_L_eqStringS : Ct := ⟨[(.bor, S_string), (.bor, S_string)], [(.bool, .b)], fun x => f_L_eqStringS x.1 x.2.1⟩
noncomputable def cx_L_eqStringS : Cx := ⟨tab, arrs, [], [], gl, []⟩
theorem eb_L_eqStringS_4 (t0 : PV S_string) (t1 : PV S_string) (t5 : PV (.int .i64)) : denK cx_L_eqStringS (rcN cx_L_eqStringS 0) pl_L_eqStringS 0 ((loopsOf (bodyOf Try.f17)).getD 0 .skip) (fillS sh_L_eqStringS_4 (t0, t1, t5, ())) (roundK 0 lp_L_eqStringS_4) = b_L_eqStringS_4 t0 t1 t5 := by kernel_rfl
theorem ef_L_eqStringS (t0 : PV S_string) (t1 : PV S_string) : denF cx_L_eqStringS 0 pl_L_eqStringS Try.f17.ntmps (bodyOf Try.f17) Try.f17.results.toList [(.bor, S_string), (.bor, S_string)] [(.bool, .b)] (t0, t1, ()) = f_L_eqStringS t0 t1 := by kernel_rfl
theorem ok_L_eqStringS : FnOk gl Try.prog 17 ct_L_eqStringS :=
  fnOk (cx := cx_L_eqStringS) (pl := pl_L_eqStringS) (dp := 0) (ok0_of tabOk (by unfold ArrOk; kernel_rfl) mix trivial trivial) Try.func17 (by kernel_rfl) (by kernel_rfl) (by kernel_rfl)
    (by rw [show loopsOf (bodyOf Try.f17) = [((loopsOf (bodyOf Try.f17)).getD 0 .skip)] from by kernel_rfl]; exact ⟨(by rw [show lookup pl_L_eqStringS.loops (firstId ((loopsOf (bodyOf Try.f17)).getD 0 .skip)) = some lp_L_eqStringS_4 from by kernel_rfl]; exact fun d z h => (eb_L_eqStringS_4 d.1 d.2.1 d.2.2.1).trans h), trivial⟩) (fun x => ef_L_eqStringS x.1 x.2.1)
noncomputable def pl_L_eqHunk : Plan := ⟨[], [], 0, 0⟩
noncomputable def f_L_eqHunk (t0 : PV Y_impl_Hunk) (t1 : PV Y_impl_Hunk) : Option (PVs [.bool] × PVs []) :=
  bif (!(t0.1 == t1.1)) then
    some ((false, ()), ())
  else
    bif (!(t0.2.1 == t1.2.1)) then
      some ((false, ()), ())
    else
      (f_L_eqStringS t0.2.2.1 t1.2.2.1).bind fun r4 =>
        bif (!r4.1.1) then
          some ((false, ()), ())
        else
          some ((true, ()), ())
noncomputable def ct_L_eqHunk : Ct := ⟨[(.bor, Y_impl_Hunk), (.bor, Y_impl_Hunk)], [(.bool, .b)], fun x => f_L_eqHunk x.1 x.2.1⟩
noncomputable def cx_L_eqHunk : Cx := ⟨tab, arrs, [(17, ct_L_eqStringS)], [], gl, []⟩
theorem ef_L_eqHunk (t0 : PV Y_impl_Hunk) (t1 : PV Y_impl_Hunk) : denF cx_L_eqHunk 0 pl_L_eqHunk Try.f81.ntmps (bodyOf Try.f81) Try.f81.results.toList [(.bor, Y_impl_Hunk), (.bor, Y_impl_Hunk)] [(.bool, .b)] (t0, t1, ()) = f_L_eqHunk t0 t1 := by kernel_rfl
theorem ok_L_eqHunk : FnOk gl Try.prog 81 ct_L_eqHunk :=
  fnOk (cx := cx_L_eqHunk) (pl := pl_L_eqHunk) (dp := 0) (ok0_of tabOk (by unfold ArrOk; kernel_rfl) mix ⟨ok_L_eqStringS, trivial⟩ trivial) Try.func81 (by kernel_rfl) (by kernel_rfl) (by kernel_rfl)
    (by rw [show loopsOf (bodyOf Try.f81) = [] from by kernel_rfl]; exact trivial) (fun x => ef_L_eqHunk x.1 x.2.1)
noncomputable def sh_L_eqHunkS_4 : List Sh := mkSh 27 [(0, .val S_impl_Hunk .b), (1, .val S_impl_Hunk .b), (5, .val (.int .i64) .b)]
noncomputable def o_L_eqHunkS_4 : List Out := [⟨.exit 0, ⟨[], [], []⟩, mkSh 27 []⟩, ⟨.ret, ⟨[], [4], []⟩, mkSh 27 [(4, .val .bool .b)]⟩]
noncomputable def b_L_eqHunkS_4 (t0 : PV S_impl_Hunk) (t1 : PV S_impl_Hunk) (t5 : PV (.int .i64)) : Option ((PV S_impl_Hunk × PV S_impl_Hunk × PV (.int .i64) × Unit) ⊕ ((Unit) ⊕ (PV .bool × Unit))) :=
  bif (decide (t5 < (t0.length : Int))) then
    bif inB t5 t0.length then
      bif inB t5 t1.length then
        (f_L_eqHunk (t0.getD t5.toNat (dflt Y_impl_Hunk)) (t1.getD t5.toNat (dflt Y_impl_Hunk))).bind fun r4 =>
          bif (!r4.1.1) then
            some (.inr (.inr (false, ())))
          else
            some (.inl (t0, t1, (IntKind.wrap .i64 (t5 + 1)), ()))
      else
        none
    else
      none
  else
    some (.inr (.inl ()))
noncomputable def w_L_eqHunkS_4 : PV S_impl_Hunk × PV S_impl_Hunk × PV (.int .i64) × Unit → Option ((Unit) ⊕ (PV .bool × Unit)) := fix fun d => b_L_eqHunkS_4 d.1 d.2.1 d.2.2.1
noncomputable def lp_L_eqHunkS_4 : Lp := ⟨⟨[], [0, 1, 5], []⟩, sh_L_eqHunkS_4, o_L_eqHunkS_4, fun d => b_L_eqHunkS_4 d.1 d.2.1 d.2.2.1⟩
noncomputable def pl_L_eqHunkS : Plan := ⟨[], [(4, lp_L_eqHunkS_4)], 0, 0⟩
noncomputable def f_L_eqHunkS (t0 : PV S_impl_Hunk) (t1 : PV S_impl_Hunk) : Option (PVs [.bool] × PVs []) :=
  bif (!((t0.length : Int) == (t1.length : Int))) then
    some ((false, ()), ())
  else
    (w_L_eqHunkS_4 (t0, t1, 0, ())).bind fun x9 =>
      match x9 with
      | .inl l7 =>
        some ((true, ()), ())
      | .inr l8 =>
        some ((l8.1, ()), ())
noncomputable def ct_L_eqHunkS : Ct := ⟨[(.bor, S_impl_Hunk), (.bor, S_impl_Hunk)], [(.bool, .b)], fun x => f_L_eqHunkS x.1 x.2.1⟩
noncomputable def cx_L_eqHunkS : Cx := ⟨tab, arrs, [(81, ct_L_eqHunk)], [], gl, []⟩
theorem eb_L_eqHunkS_4 (t0 : PV S_impl_Hunk) (t1 : PV S_impl_Hunk) (t5 : PV (.int .i64)) : denK cx_L_eqHunkS (rcN cx_L_eqHunkS 0) pl_L_eqHunkS 0 ((loopsOf (bodyOf Try.f16)).getD 0 .skip) (fillS sh_L_eqHunkS_4 (t0, t1, t5, ())) (roundK 0 lp_L_eqHunkS_4) = b_L_eqHunkS_4 t0 t1 t5 := by kernel_rfl
theorem ef_L_eqHunkS (t0 : PV S_impl_Hunk) (t1 : PV S_impl_Hunk) : denF cx_L_eqHunkS 0 pl_L_eqHunkS Try.f16.ntmps (bodyOf Try.f16) Try.f16.results.toList [(.bor, S_impl_Hunk), (.bor, S_impl_Hunk)] [(.bool, .b)] (t0, t1, ()) = f_L_eqHunkS t0 t1 := by kernel_rfl
theorem ok_L_eqHunkS : FnOk gl Try.prog 16 ct_L_eqHunkS :=
  fnOk (cx := cx_L_eqHunkS) (pl := pl_L_eqHunkS) (dp := 0) (ok0_of tabOk (by unfold ArrOk; kernel_rfl) mix ⟨ok_L_eqHunk, trivial⟩ trivial) Try.func16 (by kernel_rfl) (by kernel_rfl) (by kernel_rfl)
    (by rw [show loopsOf (bodyOf Try.f16) = [((loopsOf (bodyOf Try.f16)).getD 0 .skip)] from by kernel_rfl]; exact ⟨(by rw [show lookup pl_L_eqHunkS.loops (firstId ((loopsOf (bodyOf Try.f16)).getD 0 .skip)) = some lp_L_eqHunkS_4 from by kernel_rfl]; exact fun d z h => (eb_L_eqHunkS_4 d.1 d.2.1 d.2.2.1).trans h), trivial⟩) (fun x => ef_L_eqHunkS x.1 x.2.1)
noncomputable def sh_L_eqHunkSS_4 : List Sh := mkSh 27 [(0, .val S_S_impl_Hunk .b), (1, .val S_S_impl_Hunk .b), (5, .val (.int .i64) .b)]
noncomputable def o_L_eqHunkSS_4 : List Out := [⟨.exit 0, ⟨[], [], []⟩, mkSh 27 []⟩, ⟨.ret, ⟨[], [4], []⟩, mkSh 27 [(4, .val .bool .b)]⟩]
noncomputable def b_L_eqHunkSS_4 (t0 : PV S_S_impl_Hunk) (t1 : PV S_S_impl_Hunk) (t5 : PV (.int .i64)) : Option ((PV S_S_impl_Hunk × PV S_S_impl_Hunk × PV (.int .i64) × Unit) ⊕ ((Unit) ⊕ (PV .bool × Unit))) :=
  bif (decide (t5 < (t0.length : Int))) then
    bif inB t5 t0.length then
      bif inB t5 t1.length then
        (f_L_eqHunkS (t0.getD t5.toNat []) (t1.getD t5.toNat [])).bind fun r4 =>
          bif (!r4.1.1) then
            some (.inr (.inr (false, ())))
          else
            some (.inl (t0, t1, (IntKind.wrap .i64 (t5 + 1)), ()))
      else
        none
    else
      none
  else
    some (.inr (.inl ()))
noncomputable def w_L_eqHunkSS_4 : PV S_S_impl_Hunk × PV S_S_impl_Hunk × PV (.int .i64) × Unit → Option ((Unit) ⊕ (PV .bool × Unit)) := fix fun d => b_L_eqHunkSS_4 d.1 d.2.1 d.2.2.1
noncomputable def lp_L_eqHunkSS_4 : Lp := ⟨⟨[], [0, 1, 5], []⟩, sh_L_eqHunkSS_4, o_L_eqHunkSS_4, fun d => b_L_eqHunkSS_4 d.1 d.2.1 d.2.2.1⟩
noncomputable def pl_L_eqHunkSS : Plan := ⟨[], [(4, lp_L_eqHunkSS_4)], 0, 0⟩
noncomputable def f_L_eqHunkSS (t0 : PV S_S_impl_Hunk) (t1 : PV S_S_impl_Hunk) : Option (PVs [.bool] × PVs []) :=
  bif (!((t0.length : Int) == (t1.length : Int))) then
    some ((false, ()), ())
  else
    (w_L_eqHunkSS_4 (t0, t1, 0, ())).bind fun x9 =>
      match x9 with
      | .inl l7 =>
        some ((true, ()), ())
      | .inr l8 =>
        some ((l8.1, ()), ())
noncomputable def ct_L_eqHunkSS : Ct := ⟨[(.bor, S_S_impl_Hunk), (.bor, S_S_impl_Hunk)], [(.bool, .b)], fun x => f_L_eqHunkSS x.1 x.2.1⟩
noncomputable def cx_L_eqHunkSS : Cx := ⟨tab, arrs, [(16, ct_L_eqHunkS)], [], gl, []⟩
theorem eb_L_eqHunkSS_4 (t0 : PV S_S_impl_Hunk) (t1 : PV S_S_impl_Hunk) (t5 : PV (.int .i64)) : denK cx_L_eqHunkSS (rcN cx_L_eqHunkSS 0) pl_L_eqHunkSS 0 ((loopsOf (bodyOf Try.f131)).getD 0 .skip) (fillS sh_L_eqHunkSS_4 (t0, t1, t5, ())) (roundK 0 lp_L_eqHunkSS_4) = b_L_eqHunkSS_4 t0 t1 t5 := by kernel_rfl
theorem ef_L_eqHunkSS (t0 : PV S_S_impl_Hunk) (t1 : PV S_S_impl_Hunk) : denF cx_L_eqHunkSS 0 pl_L_eqHunkSS Try.f131.ntmps (bodyOf Try.f131) Try.f131.results.toList [(.bor, S_S_impl_Hunk), (.bor, S_S_impl_Hunk)] [(.bool, .b)] (t0, t1, ()) = f_L_eqHunkSS t0 t1 := by kernel_rfl
theorem ok_L_eqHunkSS : FnOk gl Try.prog 131 ct_L_eqHunkSS :=
  fnOk (cx := cx_L_eqHunkSS) (pl := pl_L_eqHunkSS) (dp := 0) (ok0_of tabOk (by unfold ArrOk; kernel_rfl) mix ⟨ok_L_eqHunkS, trivial⟩ trivial) Try.func131 (by kernel_rfl) (by kernel_rfl) (by kernel_rfl)
    (by rw [show loopsOf (bodyOf Try.f131) = [((loopsOf (bodyOf Try.f131)).getD 0 .skip)] from by kernel_rfl]; exact ⟨(by rw [show lookup pl_L_eqHunkSS.loops (firstId ((loopsOf (bodyOf Try.f131)).getD 0 .skip)) = some lp_L_eqHunkSS_4 from by kernel_rfl]; exact fun d z h => (eb_L_eqHunkSS_4 d.1 d.2.1 d.2.2.1).trans h), trivial⟩) (fun x => ef_L_eqHunkSS x.1 x.2.1)
noncomputable def pl_L_eqSeries : Plan := ⟨[], [], 0, 0⟩
noncomputable def f_L_eqSeries (t0 : PV Y_impl_Series) (t1 : PV Y_impl_Series) : Option (PVs [.bool] × PVs []) :=
  (f_L_eqStringS t0.1 t1.1).bind fun r4 =>
    bif (!r4.1.1) then
      some ((false, ()), ())
    else
      (f_L_eqHunkSS t0.2.1 t1.2.1).bind fun r8 =>
        bif (!r8.1.1) then
          some ((false, ()), ())
        else
          some ((true, ()), ())
noncomputable def ct_L_eqSeries : Ct := ⟨[(.bor, Y_impl_Series), (.bor, Y_impl_Series)], [(.bool, .b)], fun x => f_L_eqSeries x.1 x.2.1⟩
noncomputable def cx_L_eqSeries : Cx := ⟨tab, arrs, [(17, ct_L_eqStringS), (131, ct_L_eqHunkSS)], [], gl, []⟩
theorem ef_L_eqSeries (t0 : PV Y_impl_Series) (t1 : PV Y_impl_Series) : denF cx_L_eqSeries 0 pl_L_eqSeries Try.f58.ntmps (bodyOf Try.f58) Try.f58.results.toList [(.bor, Y_impl_Series), (.bor, Y_impl_Series)] [(.bool, .b)] (t0, t1, ()) = f_L_eqSeries t0 t1 := by kernel_rfl
theorem ok_L_eqSeries : FnOk gl Try.prog 58 ct_L_eqSeries :=
  fnOk (cx := cx_L_eqSeries) (pl := pl_L_eqSeries) (dp := 0) (ok0_of tabOk (by unfold ArrOk; kernel_rfl) mix ⟨ok_L_eqStringS, ok_L_eqHunkSS, trivial⟩ trivial) Try.func58 (by kernel_rfl) (by kernel_rfl) (by kernel_rfl)
    (by rw [show loopsOf (bodyOf Try.f58) = [] from by kernel_rfl]; exact trivial) (fun x => ef_L_eqSeries x.1 x.2.1)
noncomputable def sh_L_heldStringS_2 : List Sh := mkSh 22 [(0, .val S_string .b), (1, .val (.int .i64) .b), (5, .val (.int .i64) .b)]
noncomputable def o_L_heldStringS_2 : List Out := [⟨.exit 0, ⟨[], [1], []⟩, mkSh 22 [(1, .val (.int .i64) .b)]⟩, ⟨.ret, ⟨[], [4], []⟩, mkSh 22 [(4, .val (.int .i64) .b)]⟩]
noncomputable def b_L_heldStringS_2 (t0 : PV S_string) (t1 : PV (.int .i64)) (t5 : PV (.int .i64)) : Option ((PV S_string × PV (.int .i64) × PV (.int .i64) × Unit) ⊕ ((PV (.int .i64) × Unit) ⊕ (PV (.int .i64) × Unit))) :=
  bif (decide (t5 < (t0.length : Int))) then
    bif inB t5 t0.length then
      (f_L_markText t1).bind fun r8 =>
        bif (!((t0.getD t5.toNat []) == r8.1.1)) then
          some (.inr (.inr ((-1), ())))
        else
          some (.inl (t0, (IntKind.wrap .i64 (t1 + 1)), (IntKind.wrap .i64 (t5 + 1)), ()))
    else
      none
  else
    some (.inr (.inl (t1, ())))
noncomputable def w_L_heldStringS_2 : PV S_string × PV (.int .i64) × PV (.int .i64) × Unit → Option ((PV (.int .i64) × Unit) ⊕ (PV (.int .i64) × Unit)) := fix fun d => b_L_heldStringS_2 d.1 d.2.1 d.2.2.1
noncomputable def lp_L_heldStringS_2 : Lp := ⟨⟨[], [0, 1, 5], []⟩, sh_L_heldStringS_2, o_L_heldStringS_2, fun d => b_L_heldStringS_2 d.1 d.2.1 d.2.2.1⟩
noncomputable def pl_L_heldStringS : Plan := ⟨[], [(2, lp_L_heldStringS_2)], 0, 0⟩
noncomputable def f_L_heldStringS (t0 : PV S_string) (t1 : PV (.int .i64)) : Option (PVs [(.int .i64)] × PVs []) :=
  (w_L_heldStringS_2 (t0, t1, 0, ())).bind fun x13 =>
    match x13 with
    | .inl l11 =>
      some ((l11.1, ()), ())
    | .inr l12 =>
      some ((l12.1, ()), ())
noncomputable def ct_L_heldStringS : Ct := ⟨[(.bor, S_string), (.bor, (.int .i64))], [((.int .i64), .b)], fun x => f_L_heldStringS x.1 x.2.1⟩
noncomputable def cx_L_heldStringS : Cx := ⟨tab, arrs, [(82, ct_L_markText)], [], gl, []⟩
theorem eb_L_heldStringS_2 (t0 : PV S_string) (t1 : PV (.int .i64)) (t5 : PV (.int .i64)) : denK cx_L_heldStringS (rcN cx_L_heldStringS 0) pl_L_heldStringS 0 ((loopsOf (bodyOf Try.f30)).getD 0 .skip) (fillS sh_L_heldStringS_2 (t0, t1, t5, ())) (roundK 0 lp_L_heldStringS_2) = b_L_heldStringS_2 t0 t1 t5 := by kernel_rfl
theorem ef_L_heldStringS (t0 : PV S_string) (t1 : PV (.int .i64)) : denF cx_L_heldStringS 0 pl_L_heldStringS Try.f30.ntmps (bodyOf Try.f30) Try.f30.results.toList [(.bor, S_string), (.bor, (.int .i64))] [((.int .i64), .b)] (t0, t1, ()) = f_L_heldStringS t0 t1 := by kernel_rfl
theorem ok_L_heldStringS : FnOk gl Try.prog 30 ct_L_heldStringS :=
  fnOk (cx := cx_L_heldStringS) (pl := pl_L_heldStringS) (dp := 0) (ok0_of tabOk (by unfold ArrOk; kernel_rfl) mix ⟨ok_L_markText, trivial⟩ trivial) Try.func30 (by kernel_rfl) (by kernel_rfl) (by kernel_rfl)
    (by rw [show loopsOf (bodyOf Try.f30) = [((loopsOf (bodyOf Try.f30)).getD 0 .skip)] from by kernel_rfl]; exact ⟨(by rw [show lookup pl_L_heldStringS.loops (firstId ((loopsOf (bodyOf Try.f30)).getD 0 .skip)) = some lp_L_heldStringS_2 from by kernel_rfl]; exact fun d z h => (eb_L_heldStringS_2 d.1 d.2.1 d.2.2.1).trans h), trivial⟩) (fun x => ef_L_heldStringS x.1 x.2.1)
noncomputable def sh_L_heldHunkS_2 : List Sh := mkSh 40 [(0, .val S_impl_Hunk .b), (1, .val (.int .i64) .b), (5, .val (.int .i64) .b)]
noncomputable def o_L_heldHunkS_2 : List Out := [⟨.exit 0, ⟨[], [1], []⟩, mkSh 40 [(1, .val (.int .i64) .b)]⟩, ⟨.ret, ⟨[], [4], []⟩, mkSh 40 [(4, .val (.int .i64) .b)]⟩]
noncomputable def b_L_heldHunkS_2 (t0 : PV S_impl_Hunk) (t1 : PV (.int .i64)) (t5 : PV (.int .i64)) : Option ((PV S_impl_Hunk × PV (.int .i64) × PV (.int .i64) × Unit) ⊕ ((PV (.int .i64) × Unit) ⊕ (PV (.int .i64) × Unit))) :=
  bif (decide (t5 < (t0.length : Int))) then
    bif inB t5 t0.length then
      bif (!(((t0.getD t5.toNat (dflt Y_impl_Hunk)).1) == t1)) then
        some (.inr (.inr ((-1), ())))
      else
        bif inB t5 t0.length then
          bif (!((((t0.getD t5.toNat (dflt Y_impl_Hunk)).2).1) == (IntKind.wrap .i64 (t1 + 1)))) then
            some (.inr (.inr ((-1), ())))
          else
            bif inB t5 t0.length then
              (f_L_heldStringS ((((t0.getD t5.toNat (dflt Y_impl_Hunk)).2).2).1) (IntKind.wrap .i64 ((IntKind.wrap .i64 (t1 + 1)) + 1))).bind fun r4 =>
                bif (decide (r4.1.1 < 0)) then
                  some (.inr (.inr ((-1), ())))
                else
                  some (.inl (t0, r4.1.1, (IntKind.wrap .i64 (t5 + 1)), ()))
            else
              none
        else
          none
    else
      none
  else
    some (.inr (.inl (t1, ())))
noncomputable def w_L_heldHunkS_2 : PV S_impl_Hunk × PV (.int .i64) × PV (.int .i64) × Unit → Option ((PV (.int .i64) × Unit) ⊕ (PV (.int .i64) × Unit)) := fix fun d => b_L_heldHunkS_2 d.1 d.2.1 d.2.2.1
noncomputable def lp_L_heldHunkS_2 : Lp := ⟨⟨[], [0, 1, 5], []⟩, sh_L_heldHunkS_2, o_L_heldHunkS_2, fun d => b_L_heldHunkS_2 d.1 d.2.1 d.2.2.1⟩
noncomputable def pl_L_heldHunkS : Plan := ⟨[], [(2, lp_L_heldHunkS_2)], 0, 0⟩
noncomputable def f_L_heldHunkS (t0 : PV S_impl_Hunk) (t1 : PV (.int .i64)) : Option (PVs [(.int .i64)] × PVs []) :=
  (w_L_heldHunkS_2 (t0, t1, 0, ())).bind fun x9 =>
    match x9 with
    | .inl l7 =>
      some ((l7.1, ()), ())
    | .inr l8 =>
      some ((l8.1, ()), ())
noncomputable def ct_L_heldHunkS : Ct := ⟨[(.bor, S_impl_Hunk), (.bor, (.int .i64))], [((.int .i64), .b)], fun x => f_L_heldHunkS x.1 x.2.1⟩
noncomputable def cx_L_heldHunkS : Cx := ⟨tab, arrs, [(30, ct_L_heldStringS)], [], gl, []⟩
theorem eb_L_heldHunkS_2 (t0 : PV S_impl_Hunk) (t1 : PV (.int .i64)) (t5 : PV (.int .i64)) : denK cx_L_heldHunkS (rcN cx_L_heldHunkS 0) pl_L_heldHunkS 0 ((loopsOf (bodyOf Try.f20)).getD 0 .skip) (fillS sh_L_heldHunkS_2 (t0, t1, t5, ())) (roundK 0 lp_L_heldHunkS_2) = b_L_heldHunkS_2 t0 t1 t5 := by kernel_rfl
theorem ef_L_heldHunkS (t0 : PV S_impl_Hunk) (t1 : PV (.int .i64)) : denF cx_L_heldHunkS 0 pl_L_heldHunkS Try.f20.ntmps (bodyOf Try.f20) Try.f20.results.toList [(.bor, S_impl_Hunk), (.bor, (.int .i64))] [((.int .i64), .b)] (t0, t1, ()) = f_L_heldHunkS t0 t1 := by kernel_rfl
theorem ok_L_heldHunkS : FnOk gl Try.prog 20 ct_L_heldHunkS :=
  fnOk (cx := cx_L_heldHunkS) (pl := pl_L_heldHunkS) (dp := 0) (ok0_of tabOk (by unfold ArrOk; kernel_rfl) mix ⟨ok_L_heldStringS, trivial⟩ trivial) Try.func20 (by kernel_rfl) (by kernel_rfl) (by kernel_rfl)
    (by rw [show loopsOf (bodyOf Try.f20) = [((loopsOf (bodyOf Try.f20)).getD 0 .skip)] from by kernel_rfl]; exact ⟨(by rw [show lookup pl_L_heldHunkS.loops (firstId ((loopsOf (bodyOf Try.f20)).getD 0 .skip)) = some lp_L_heldHunkS_2 from by kernel_rfl]; exact fun d z h => (eb_L_heldHunkS_2 d.1 d.2.1 d.2.2.1).trans h), trivial⟩) (fun x => ef_L_heldHunkS x.1 x.2.1)
noncomputable def sh_L_heldHunkSS_2 : List Sh := mkSh 21 [(0, .val S_S_impl_Hunk .b), (1, .val (.int .i64) .b), (5, .val (.int .i64) .b)]
noncomputable def o_L_heldHunkSS_2 : List Out := [⟨.exit 0, ⟨[], [1], []⟩, mkSh 21 [(1, .val (.int .i64) .b)]⟩, ⟨.ret, ⟨[], [4], []⟩, mkSh 21 [(4, .val (.int .i64) .b)]⟩]
noncomputable def b_L_heldHunkSS_2 (t0 : PV S_S_impl_Hunk) (t1 : PV (.int .i64)) (t5 : PV (.int .i64)) : Option ((PV S_S_impl_Hunk × PV (.int .i64) × PV (.int .i64) × Unit) ⊕ ((PV (.int .i64) × Unit) ⊕ (PV (.int .i64) × Unit))) :=
  bif (decide (t5 < (t0.length : Int))) then
    bif inB t5 t0.length then
      (f_L_heldHunkS (t0.getD t5.toNat []) t1).bind fun r4 =>
        bif (decide (r4.1.1 < 0)) then
          some (.inr (.inr ((-1), ())))
        else
          some (.inl (t0, r4.1.1, (IntKind.wrap .i64 (t5 + 1)), ()))
    else
      none
  else
    some (.inr (.inl (t1, ())))
noncomputable def w_L_heldHunkSS_2 : PV S_S_impl_Hunk × PV (.int .i64) × PV (.int .i64) × Unit → Option ((PV (.int .i64) × Unit) ⊕ (PV (.int .i64) × Unit)) := fix fun d => b_L_heldHunkSS_2 d.1 d.2.1 d.2.2.1
noncomputable def lp_L_heldHunkSS_2 : Lp := ⟨⟨[], [0, 1, 5], []⟩, sh_L_heldHunkSS_2, o_L_heldHunkSS_2, fun d => b_L_heldHunkSS_2 d.1 d.2.1 d.2.2.1⟩
noncomputable def pl_L_heldHunkSS : Plan := ⟨[], [(2, lp_L_heldHunkSS_2)], 0, 0⟩
noncomputable def f_L_heldHunkSS (t0 : PV S_S_impl_Hunk) (t1 : PV (.int .i64)) : Option (PVs [(.int .i64)] × PVs []) :=
  (w_L_heldHunkSS_2 (t0, t1, 0, ())).bind fun x9 =>
    match x9 with
    | .inl l7 =>
      some ((l7.1, ()), ())
    | .inr l8 =>
      some ((l8.1, ()), ())
noncomputable def ct_L_heldHunkSS : Ct := ⟨[(.bor, S_S_impl_Hunk), (.bor, (.int .i64))], [((.int .i64), .b)], fun x => f_L_heldHunkSS x.1 x.2.1⟩
noncomputable def cx_L_heldHunkSS : Cx := ⟨tab, arrs, [(20, ct_L_heldHunkS)], [], gl, []⟩
theorem eb_L_heldHunkSS_2 (t0 : PV S_S_impl_Hunk) (t1 : PV (.int .i64)) (t5 : PV (.int .i64)) : denK cx_L_heldHunkSS (rcN cx_L_heldHunkSS 0) pl_L_heldHunkSS 0 ((loopsOf (bodyOf Try.f133)).getD 0 .skip) (fillS sh_L_heldHunkSS_2 (t0, t1, t5, ())) (roundK 0 lp_L_heldHunkSS_2) = b_L_heldHunkSS_2 t0 t1 t5 := by kernel_rfl
theorem ef_L_heldHunkSS (t0 : PV S_S_impl_Hunk) (t1 : PV (.int .i64)) : denF cx_L_heldHunkSS 0 pl_L_heldHunkSS Try.f133.ntmps (bodyOf Try.f133) Try.f133.results.toList [(.bor, S_S_impl_Hunk), (.bor, (.int .i64))] [((.int .i64), .b)] (t0, t1, ()) = f_L_heldHunkSS t0 t1 := by kernel_rfl
theorem ok_L_heldHunkSS : FnOk gl Try.prog 133 ct_L_heldHunkSS :=
  fnOk (cx := cx_L_heldHunkSS) (pl := pl_L_heldHunkSS) (dp := 0) (ok0_of tabOk (by unfold ArrOk; kernel_rfl) mix ⟨ok_L_heldHunkS, trivial⟩ trivial) Try.func133 (by kernel_rfl) (by kernel_rfl) (by kernel_rfl)
    (by rw [show loopsOf (bodyOf Try.f133) = [((loopsOf (bodyOf Try.f133)).getD 0 .skip)] from by kernel_rfl]; exact ⟨(by rw [show lookup pl_L_heldHunkSS.loops (firstId ((loopsOf (bodyOf Try.f133)).getD 0 .skip)) = some lp_L_heldHunkSS_2 from by kernel_rfl]; exact fun d z h => (eb_L_heldHunkSS_2 d.1 d.2.1 d.2.2.1).trans h), trivial⟩) (fun x => ef_L_heldHunkSS x.1 x.2.1)
noncomputable def pl_L_heldSeries : Plan := ⟨[], [], 0, 0⟩
noncomputable def f_L_heldSeries (t0 : PV Y_impl_Series) (t1 : PV (.int .i64)) : Option (PVs [(.int .i64)] × PVs []) :=
  (f_L_heldStringS t0.1 t1).bind fun r2 =>
    bif (decide (r2.1.1 < 0)) then
      some (((-1), ()), ())
    else
      (f_L_heldHunkSS t0.2.1 r2.1.1).bind fun r4 =>
        bif (decide (r4.1.1 < 0)) then
          some (((-1), ()), ())
        else
          some ((r4.1.1, ()), ())
noncomputable def ct_L_heldSeries : Ct := ⟨[(.bor, Y_impl_Series), (.bor, (.int .i64))], [((.int .i64), .b)], fun x => f_L_heldSeries x.1 x.2.1⟩
noncomputable def cx_L_heldSeries : Cx := ⟨tab, arrs, [(30, ct_L_heldStringS), (133, ct_L_heldHunkSS)], [], gl, []⟩
theorem ef_L_heldSeries (t0 : PV Y_impl_Series) (t1 : PV (.int .i64)) : denF cx_L_heldSeries 0 pl_L_heldSeries Try.f60.ntmps (bodyOf Try.f60) Try.f60.results.toList [(.bor, Y_impl_Series), (.bor, (.int .i64))] [((.int .i64), .b)] (t0, t1, ()) = f_L_heldSeries t0 t1 := by kernel_rfl
theorem ok_L_heldSeries : FnOk gl Try.prog 60 ct_L_heldSeries :=
  fnOk (cx := cx_L_heldSeries) (pl := pl_L_heldSeries) (dp := 0) (ok0_of tabOk (by unfold ArrOk; kernel_rfl) mix ⟨ok_L_heldStringS, ok_L_heldHunkSS, trivial⟩ trivial) Try.func60 (by kernel_rfl) (by kernel_rfl) (by kernel_rfl)
    (by rw [show loopsOf (bodyOf Try.f60) = [] from by kernel_rfl]; exact trivial) (fun x => ef_L_heldSeries x.1 x.2.1)
noncomputable def o_L_FnExactSquashAt_9 : List Out := [⟨.normal, ⟨[], [1, 2, 6, 7, 8, 9, 10, 44, 56, 57, 58, 59, 62, 63, 64, 89, 90, 91], []⟩, mkSh 101 [(1, .val (.int .i64) .b), (2, .var Y_laws_Series .b), (6, .var Y_impl_Series .b), (7, .val .bool .b), (8, .var Y_impl_Series (.pr (.row .b) (.pr (.row (.row (.pr .b (.pr .b (.pr (.row .b) .b))))) .b))), (9, .var Y_impl_Series (.pr (.row .b) (.pr (.row (.row (.pr .b (.pr .b (.pr (.row .b) .b))))) .b))), (10, .val .bool .b), (44, .val .bool .b)]⟩]
noncomputable def o_L_FnExactSquashAt_15 : List Out := [⟨.normal, ⟨[], [1, 2, 6, 7, 9, 65, 89, 90, 91], []⟩, mkSh 101 [(1, .val (.int .i64) .b), (2, .var Y_laws_Series .b), (6, .var Y_impl_Series .b), (7, .val .bool .b), (9, .var Y_impl_Series (.pr (.row .b) (.pr (.row (.row (.pr .b (.pr .b (.pr (.row .b) .b))))) .b))), (65, .val .bool .b)]⟩]
noncomputable def o_L_FnExactSquashAt_26 : List Out := [⟨.normal, ⟨[], [9, 12, 92], []⟩, mkSh 101 [(9, .var Y_impl_Series (.pr (.row .b) (.pr (.row (.row (.pr .b (.pr .b (.pr (.row .b) .b))))) .b))), (12, .val (.int .i64) .b), (92, .val .bool .b)]⟩]
noncomputable def pl_L_FnExactSquashAt : Plan := ⟨[(9, o_L_FnExactSquashAt_9), (15, o_L_FnExactSquashAt_15), (26, o_L_FnExactSquashAt_26)], [], 0, 0⟩
noncomputable def f_L_FnExactSquashAt (t0 : PV Y_laws_Series) (t1 : PV (.int .i64)) : Option (PVs [.bool] × PVs []) :=
  (f_L_szSeries t0 1048576).bind fun r2 =>
    bif (decide (r2.1.1 < 0)) then
      some ((true, ()), ())
    else
      (f_L_toSeries t0).bind fun r5 =>
        (f_S_SquashAt r5.1.1 t1).bind fun r6 =>
          (f_L_toSeries t0).bind fun r8 =>
            (f_I_SquashAt r8.1.1 t1).bind fun r10 =>
              ((
                  (f_L_eqSeries r10.1.1 r6.1.1).bind fun r14 =>
                    bif (!r14.1.1) then
                      some (t1, t0, r6.1.1, r6.1.2.1, r8.1.1, r10.1.1, r10.1.2.1, true, ())
                    else
                      some (t1, t0, r6.1.1, r6.1.2.1, r8.1.1, r10.1.1, r10.1.2.1, (!(r10.1.2.1 == r6.1.2.1)), ()) : Option ((PV (.int .i64) × PV Y_laws_Series × PV Y_impl_Series × PV .bool × PV Y_impl_Series × PV Y_impl_Series × PV .bool × PV .bool × Unit)))).bind fun j15 =>
                bif j15.2.2.2.2.2.2.2.1 then
                  some ((false, ()), ())
                else
                  (f_L_toSeries j15.2.1).bind fun r22 =>
                    (f_L_eqSeries j15.2.2.2.2.1 r22.1.1).bind fun r23 =>
                      bif (!r23.1.1) then
                        some ((false, ()), ())
                      else
                        (f_L_markSeries j15.2.2.2.2.1 1).bind fun r25 =>
                          ((
                              bif (decide (r25.1.1 < 0)) then
                                some (j15.1, j15.2.1, j15.2.2.1, j15.2.2.2.1, j15.2.2.2.2.2.1, true, ())
                              else
                                (f_L_eqSeries j15.2.2.2.2.2.1 j15.2.2.1).bind fun r29 =>
                                  bif (!r29.1.1) then
                                    some (j15.1, j15.2.1, j15.2.2.1, j15.2.2.2.1, j15.2.2.2.2.2.1, true, ())
                                  else
                                    some (j15.1, j15.2.1, j15.2.2.1, j15.2.2.2.1, j15.2.2.2.2.2.1, (!(j15.2.2.2.2.2.2.1 == j15.2.2.2.1)), ()) : Option ((PV (.int .i64) × PV Y_laws_Series × PV Y_impl_Series × PV .bool × PV Y_impl_Series × PV .bool × Unit)))).bind fun j30 =>
                            bif j30.2.2.2.2.2.1 then
                              some ((false, ()), ())
                            else
                              (f_L_markSeries j30.2.2.2.2.1 1).bind fun r32 =>
                                (f_L_heldSeries r32.2.1 1).bind fun r34 =>
                                  bif (decide (r34.1.1 < 0)) then
                                    some ((false, ()), ())
                                  else
                                    bif (!(r34.1.1 == r32.1.1)) then
                                      some ((false, ()), ())
                                    else
                                      (f_L_toSeries j30.2.1).bind fun r37 =>
                                        (f_I_SquashAt r37.1.1 j30.1).bind fun r38 =>
                                          ((
                                              (f_L_eqSeries r38.1.1 j30.2.2.1).bind fun r42 =>
                                                bif (!r42.1.1) then
                                                  some (r32.2.1, r32.1.1, true, ())
                                                else
                                                  some (r32.2.1, r32.1.1, (!(r38.1.2.1 == j30.2.2.2.1)), ()) : Option ((PV Y_impl_Series × PV (.int .i64) × PV .bool × Unit)))).bind fun j43 =>
                                            bif j43.2.2.1 then
                                              some ((false, ()), ())
                                            else
                                              (f_L_heldSeries j43.1 1).bind fun r45 =>
                                                bif (decide (r45.1.1 < 0)) then
                                                  some ((false, ()), ())
                                                else
                                                  bif (!(r45.1.1 == j43.2.1)) then
                                                    some ((false, ()), ())
                                                  else
                                                    some ((true, ()), ())
noncomputable def ct_L_FnExactSquashAt : Ct := ⟨[(.bor, Y_laws_Series), (.bor, (.int .i64))], [(.bool, .b)], fun x => f_L_FnExactSquashAt x.1 x.2.1⟩
noncomputable def cx_L_FnExactSquashAt : Cx := ⟨tab, arrs, [(54, ct_L_szSeries), (55, ct_S_SquashAt), (56, ct_L_toSeries), (57, ct_I_SquashAt), (58, ct_L_eqSeries), (59, ct_L_markSeries), (60, ct_L_heldSeries)], [], gl, []⟩
theorem ef_L_FnExactSquashAt (t0 : PV Y_laws_Series) (t1 : PV (.int .i64)) : denF cx_L_FnExactSquashAt 0 pl_L_FnExactSquashAt Try.f8.ntmps (bodyOf Try.f8) Try.f8.results.toList [(.bor, Y_laws_Series), (.bor, (.int .i64))] [(.bool, .b)] (t0, t1, ()) = f_L_FnExactSquashAt t0 t1 := by kernel_rfl
theorem ok_L_FnExactSquashAt : FnOk gl Try.prog 8 ct_L_FnExactSquashAt :=
  fnOk (cx := cx_L_FnExactSquashAt) (pl := pl_L_FnExactSquashAt) (dp := 0) (ok0_of tabOk (by unfold ArrOk; kernel_rfl) mix ⟨ok_L_szSeries, ok_S_SquashAt, ok_L_toSeries, ok_I_SquashAt, ok_L_eqSeries, ok_L_markSeries, ok_L_heldSeries, trivial⟩ trivial) Try.func8 (by kernel_rfl) (by kernel_rfl) (by kernel_rfl)
    (by rw [show loopsOf (bodyOf Try.f8) = [] from by kernel_rfl]; exact trivial) (fun x => ef_L_FnExactSquashAt x.1 x.2.1)
end R
