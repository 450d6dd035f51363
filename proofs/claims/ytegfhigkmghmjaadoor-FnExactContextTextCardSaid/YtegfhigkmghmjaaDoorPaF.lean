/- The functions, part 3. -/
import Derived.Test.YtegfhigkmghmjaaDoorPaF2
open Go Go.Dn Go.Proofs
namespace R
set_option linter.unusedVariables false
set_option maxRecDepth 20000
open Go.Shelf
noncomputable def o_I_sidesText_9 : List Out := [⟨.normal, ⟨[], [3, 5, 7, 8, 9, 10], []⟩, mkSh 60 [(3, .val .str .b), (5, .var Y_impl_Group .b), (7, .val (.int .i64) .b), (8, .val S_impl_Group .b), (9, .val (.int .i64) .b), (10, .val (.int .i64) .b)]⟩]
noncomputable def o_I_sidesText_12 : List Out := [⟨.normal, ⟨[], [3, 8, 9, 10], []⟩, mkSh 60 [(3, .val .str .b), (8, .val S_impl_Group .b), (9, .val (.int .i64) .b), (10, .val (.int .i64) .b)]⟩]
noncomputable def sh_I_sidesText_3 : List Sh := mkSh 60 [(3, .val .str .b), (8, .val S_impl_Group .b), (9, .val (.int .i64) .b), (10, .val (.int .i64) .b)]
noncomputable def o_I_sidesText_3 : List Out := [⟨.exit 0, ⟨[], [3], []⟩, mkSh 60 [(3, .val .str .b)]⟩]
noncomputable def b_I_sidesText_3 (t3 : PV .str) (t8 : PV S_impl_Group) (t9 : PV (.int .i64)) (t10 : PV (.int .i64)) : Option ((PV .str × PV S_impl_Group × PV (.int .i64) × PV (.int .i64) × Unit) ⊕ ((PV .str × Unit))) :=
  bif (decide (t10 < t9)) then
    ((
        bif inB t10 t8.length then
          (f_I_Group_old (t8.getD t10.toNat (dflt Y_impl_Group))).bind fun r3 =>
            (f_I_Group_fresh (t8.getD t10.toNat (dflt Y_impl_Group))).bind fun r4 =>
              (f_I_numberOf ((t8.getD t10.toNat (dflt Y_impl_Group)).1) (r3.1.1.length : Int)).bind fun r8 =>
                (f_I_endOf ((t8.getD t10.toNat (dflt Y_impl_Group)).1) (r3.1.1.length : Int)).bind fun r9 =>
                  (f_I_pairOf r8.1.1 r9.1.1).bind fun r10 =>
                    bif decide ([42, 42, 42, 42, 42, 42, 42, 42, 42, 42, 42, 42, 42, 42, 42, 10, 42, 42, 42, 32].length + r10.1.1.length ≤ 1099511627776) then
                      bif decide (([42, 42, 42, 42, 42, 42, 42, 42, 42, 42, 42, 42, 42, 42, 42, 10, 42, 42, 42, 32] ++ r10.1.1).length + [32, 42, 42, 42, 42, 10].length ≤ 1099511627776) then
                        bif decide (t3.length + (([42, 42, 42, 42, 42, 42, 42, 42, 42, 42, 42, 42, 42, 42, 42, 10, 42, 42, 42, 32] ++ r10.1.1) ++ [32, 42, 42, 42, 42, 10]).length ≤ 1099511627776) then
                          ((
                              (f_I_Group_has (t8.getD t10.toNat (dflt Y_impl_Group)) 2).bind fun r12 =>
                                bif r12.1.1 then
                                  (f_I_Group_half (t8.getD t10.toNat (dflt Y_impl_Group)) 3).bind fun r13 =>
                                    bif decide ((t3 ++ (([42, 42, 42, 42, 42, 42, 42, 42, 42, 42, 42, 42, 42, 42, 42, 10, 42, 42, 42, 32] ++ r10.1.1) ++ [32, 42, 42, 42, 42, 10])).length + r13.1.1.length ≤ 1099511627776) then
                                      some (((t3 ++ (([42, 42, 42, 42, 42, 42, 42, 42, 42, 42, 42, 42, 42, 42, 42, 10, 42, 42, 42, 32] ++ r10.1.1) ++ [32, 42, 42, 42, 42, 10])) ++ r13.1.1), (t8.getD t10.toNat (dflt Y_impl_Group)), (r4.1.1.length : Int), t8, t9, t10, ())
                                    else
                                      none
                                else
                                  some ((t3 ++ (([42, 42, 42, 42, 42, 42, 42, 42, 42, 42, 42, 42, 42, 42, 42, 10, 42, 42, 42, 32] ++ r10.1.1) ++ [32, 42, 42, 42, 42, 10])), (t8.getD t10.toNat (dflt Y_impl_Group)), (r4.1.1.length : Int), t8, t9, t10, ()) : Option ((PV .str × PV Y_impl_Group × PV (.int .i64) × PV S_impl_Group × PV (.int .i64) × PV (.int .i64) × Unit)))).bind fun j14 =>
                            (f_I_numberOf j14.2.1.2.1 j14.2.2.1).bind fun r18 =>
                              (f_I_endOf j14.2.1.2.1 j14.2.2.1).bind fun r19 =>
                                (f_I_pairOf r18.1.1 r19.1.1).bind fun r20 =>
                                  bif decide ([45, 45, 45, 32].length + r20.1.1.length ≤ 1099511627776) then
                                    bif decide (([45, 45, 45, 32] ++ r20.1.1).length + [32, 45, 45, 45, 45, 10].length ≤ 1099511627776) then
                                      bif decide (j14.1.length + (([45, 45, 45, 32] ++ r20.1.1) ++ [32, 45, 45, 45, 45, 10]).length ≤ 1099511627776) then
                                        (f_I_Group_has j14.2.1 3).bind fun r22 =>
                                          bif r22.1.1 then
                                            (f_I_Group_half j14.2.1 2).bind fun r23 =>
                                              bif decide ((j14.1 ++ (([45, 45, 45, 32] ++ r20.1.1) ++ [32, 45, 45, 45, 45, 10])).length + r23.1.1.length ≤ 1099511627776) then
                                                some (((j14.1 ++ (([45, 45, 45, 32] ++ r20.1.1) ++ [32, 45, 45, 45, 45, 10])) ++ r23.1.1), j14.2.2.2.1, j14.2.2.2.2.1, j14.2.2.2.2.2.1, ())
                                              else
                                                none
                                          else
                                            some ((j14.1 ++ (([45, 45, 45, 32] ++ r20.1.1) ++ [32, 45, 45, 45, 45, 10])), j14.2.2.2.1, j14.2.2.2.2.1, j14.2.2.2.2.2.1, ())
                                      else
                                        none
                                    else
                                      none
                                  else
                                    none
                        else
                          none
                      else
                        none
                    else
                      none
        else
          none : Option ((PV .str × PV S_impl_Group × PV (.int .i64) × PV (.int .i64) × Unit)))).bind fun j24 =>
      some (.inl (j24.1, j24.2.1, j24.2.2.1, (IntKind.wrap .i64 (j24.2.2.2.1 + 1)), ()))
  else
    some (.inr (t3, ()))
noncomputable def w_I_sidesText_3 : PV .str × PV S_impl_Group × PV (.int .i64) × PV (.int .i64) × Unit → Option ((PV .str × Unit)) := fix fun d => b_I_sidesText_3 d.1 d.2.1 d.2.2.1 d.2.2.2.1
noncomputable def lp_I_sidesText_3 : Lp := ⟨⟨[], [3, 8, 9, 10], []⟩, sh_I_sidesText_3, o_I_sidesText_3, fun d => b_I_sidesText_3 d.1 d.2.1 d.2.2.1 d.2.2.2.1⟩
noncomputable def pl_I_sidesText : Plan := ⟨[(9, o_I_sidesText_9), (12, o_I_sidesText_12)], [(3, lp_I_sidesText_3)], 0, 0⟩
noncomputable def f_I_sidesText (t0 : PV S_impl_Group) : Option (PVs [.str] × PVs []) :=
  (w_I_sidesText_3 ([], t0, (t0.length : Int), 0, ())).bind fun l26 =>
    some ((l26.1, ()), ())
noncomputable def ct_I_sidesText : Ct := ⟨[(.bor, S_impl_Group)], [(.str, false)], fun x => f_I_sidesText x.1⟩
noncomputable def cx_I_sidesText : Cx := ⟨tab, arrs, [(56, ct_I_pairOf), (107, ct_I_Group_old), (108, ct_I_Group_fresh), (121, ct_I_numberOf), (122, ct_I_endOf), (123, ct_I_Group_has), (124, ct_I_Group_half)], [], gl, []⟩
theorem eb_I_sidesText_3 (t3 : PV .str) (t8 : PV S_impl_Group) (t9 : PV (.int .i64)) (t10 : PV (.int .i64)) : denK cx_I_sidesText (rcN cx_I_sidesText 0) pl_I_sidesText 0 ((loopsOf (bodyOf Tryd.f74)).getD 0 .skip) (fillS sh_I_sidesText_3 (t3, t8, t9, t10, ())) (roundK 0 lp_I_sidesText_3) = b_I_sidesText_3 t3 t8 t9 t10 := by kernel_rfl
theorem ef_I_sidesText (t0 : PV S_impl_Group) : denF cx_I_sidesText 0 pl_I_sidesText Tryd.f74.ntmps (bodyOf Tryd.f74) Tryd.f74.results.toList [(.bor, S_impl_Group)] [(.str, false)] (t0, ()) = f_I_sidesText t0 := by kernel_rfl
theorem ok_I_sidesText : FnOk gl Tryd.prog 74 ct_I_sidesText :=
  fnOk (cx := cx_I_sidesText) (pl := pl_I_sidesText) (dp := 0) (ok0_of tabOk (by unfold ArrOk; kernel_rfl) mix ⟨ok_I_pairOf, ok_I_Group_old, ok_I_Group_fresh, ok_I_numberOf, ok_I_endOf, ok_I_Group_has, ok_I_Group_half, trivial⟩ trivial) Tryd.func74 (by kernel_rfl) (by kernel_rfl) (by kernel_rfl)
    (by rw [show loopsOf (bodyOf Tryd.f74) = [((loopsOf (bodyOf Tryd.f74)).getD 0 .skip)] from by kernel_rfl]; exact ⟨(by rw [show lookup pl_I_sidesText.loops (firstId ((loopsOf (bodyOf Tryd.f74)).getD 0 .skip)) = some lp_I_sidesText_3 from by kernel_rfl]; exact fun d z h => (eb_I_sidesText_3 d.1 d.2.1 d.2.2.1 d.2.2.2.1).trans h), trivial⟩) (fun x => ef_I_sidesText x.1)
noncomputable def pl_I_SidesText : Plan := ⟨[], [], 0, 0⟩
noncomputable def f_I_SidesText (t0 : PV S_impl_Group) : Option (PVs [.str, .bool] × PVs []) :=
  (f_I_goodGroups t0).bind fun r4 =>
    bif (!r4.1.1) then
      some (([], false, ()), ())
    else
      (f_I_sidesText t0).bind fun r5 =>
        (f_I_short r5.1.1).bind fun r6 =>
          some ((r6.1.1, r6.1.2.1, ()), ())
noncomputable def ct_I_SidesText : Ct := ⟨[(.bor, S_impl_Group)], [(.str, false), (.bool, false)], fun x => f_I_SidesText x.1⟩
noncomputable def cx_I_SidesText : Cx := ⟨tab, arrs, [(58, ct_I_short), (64, ct_I_goodGroups), (74, ct_I_sidesText)], [], gl, []⟩
theorem ef_I_SidesText (t0 : PV S_impl_Group) : denF cx_I_SidesText 0 pl_I_SidesText Tryd.f27.ntmps (bodyOf Tryd.f27) Tryd.f27.results.toList [(.bor, S_impl_Group)] [(.str, false), (.bool, false)] (t0, ()) = f_I_SidesText t0 := by kernel_rfl
theorem ok_I_SidesText : FnOk gl Tryd.prog 27 ct_I_SidesText :=
  fnOk (cx := cx_I_SidesText) (pl := pl_I_SidesText) (dp := 0) (ok0_of tabOk (by unfold ArrOk; kernel_rfl) mix ⟨ok_I_short, ok_I_goodGroups, ok_I_sidesText, trivial⟩ trivial) Tryd.func27 (by kernel_rfl) (by kernel_rfl) (by kernel_rfl)
    (by rw [show loopsOf (bodyOf Tryd.f27) = [] from by kernel_rfl]; exact trivial) (fun x => ef_I_SidesText x.1)
noncomputable def pl_I_ContextText : Plan := ⟨[], [], 0, 0⟩
noncomputable def f_I_ContextText (t0 : PV S_string) (t1 : PV S_impl_Hunk) (t2 : PV (.int .i64)) : Option (PVs [.str, .bool] × PVs []) :=
  (f_I_GroupsOf t0 t1 t2).bind fun r2 =>
    bif (!r2.1.2.1) then
      some (([], false, ()), ())
    else
      (f_I_SidesText r2.1.1).bind fun r3 =>
        some ((r3.1.1, r3.1.2.1, ()), ())
noncomputable def ct_I_ContextText : Ct := ⟨[(.bor, S_string), (.bor, S_impl_Hunk), (.bor, (.int .i64))], [(.str, false), (.bool, false)], fun x => f_I_ContextText x.1 x.2.1 x.2.2.1⟩
noncomputable def cx_I_ContextText : Cx := ⟨tab, arrs, [(27, ct_I_SidesText), (87, ct_I_GroupsOf)], [], gl, []⟩
theorem ef_I_ContextText (t0 : PV S_string) (t1 : PV S_impl_Hunk) (t2 : PV (.int .i64)) : denF cx_I_ContextText 0 pl_I_ContextText Tryd.f50.ntmps (bodyOf Tryd.f50) Tryd.f50.results.toList [(.bor, S_string), (.bor, S_impl_Hunk), (.bor, (.int .i64))] [(.str, false), (.bool, false)] (t0, t1, t2, ()) = f_I_ContextText t0 t1 t2 := by kernel_rfl
theorem ok_I_ContextText : FnOk gl Tryd.prog 50 ct_I_ContextText :=
  fnOk (cx := cx_I_ContextText) (pl := pl_I_ContextText) (dp := 0) (ok0_of tabOk (by unfold ArrOk; kernel_rfl) mix ⟨ok_I_SidesText, ok_I_GroupsOf, trivial⟩ trivial) Tryd.func50 (by kernel_rfl) (by kernel_rfl) (by kernel_rfl)
    (by rw [show loopsOf (bodyOf Tryd.f50) = [] from by kernel_rfl]; exact trivial) (fun x => ef_I_ContextText x.1 x.2.1 x.2.2.1)
noncomputable def o_L_FnExactContextText_13 : List Out := [⟨.normal, ⟨[], [0, 1, 10, 11, 51], []⟩, mkSh 62 [(0, .val S_string .b), (1, .val S_laws_Hunk .b), (10, .val S_string (.row .b)), (11, .val S_impl_Hunk (.row (.pr .b (.pr .b (.pr (.row .b) .b))))), (51, .val .bool .b)]⟩]
noncomputable def pl_L_FnExactContextText : Plan := ⟨[(13, o_L_FnExactContextText_13)], [], 0, 0⟩
noncomputable def f_L_FnExactContextText (t0 : PV S_string) (t1 : PV S_laws_Hunk) (t2 : PV (.int .i64)) : Option (PVs [.bool] × PVs []) :=
  (f_L_szStringS t0 1048576).bind fun r2 =>
    bif (decide (r2.1.1 < 0)) then
      some ((true, ()), ())
    else
      (f_L_szHunkS t1 r2.1.1).bind fun r4 =>
        bif (decide (r4.1.1 < 0)) then
          some ((true, ()), ())
        else
          (f_L_toStringS t0).bind fun r8 =>
            (f_L_toHunkS t1).bind fun r9 =>
              (f_S_ContextText r8.1.1 r9.1.1 t2).bind fun r10 =>
                (f_L_toStringS t0).bind fun r12 =>
                  (f_L_toHunkS t1).bind fun r14 =>
                    (f_I_ContextText r12.1.1 r14.1.1 t2).bind fun r16 =>
                      ((
                          bif (!(r16.1.1 == r10.1.1)) then
                            some (t0, t1, r12.1.1, r14.1.1, true, ())
                          else
                            some (t0, t1, r12.1.1, r14.1.1, (!(r16.1.2.1 == r10.1.2.1)), ()) : Option ((PV S_string × PV S_laws_Hunk × PV S_string × PV S_impl_Hunk × PV .bool × Unit)))).bind fun j18 =>
                        bif j18.2.2.2.2.1 then
                          some ((false, ()), ())
                        else
                          (f_L_toStringS j18.1).bind fun r25 =>
                            (f_L_eqStringS j18.2.2.1 r25.1.1).bind fun r26 =>
                              bif (!r26.1.1) then
                                some ((false, ()), ())
                              else
                                (f_L_toHunkS j18.2.1).bind fun r33 =>
                                  (f_L_eqHunkS j18.2.2.2.1 r33.1.1).bind fun r34 =>
                                    bif (!r34.1.1) then
                                      some ((false, ()), ())
                                    else
                                      some ((true, ()), ())
noncomputable def ct_L_FnExactContextText : Ct := ⟨[(.bor, S_string), (.bor, S_laws_Hunk), (.bor, (.int .i64))], [(.bool, false)], fun x => f_L_FnExactContextText x.1 x.2.1 x.2.2.1⟩
noncomputable def cx_L_FnExactContextText : Cx := ⟨tab, arrs, [(39, ct_L_szStringS), (40, ct_L_szHunkS), (42, ct_L_toStringS), (43, ct_L_toHunkS), (45, ct_L_eqStringS), (46, ct_L_eqHunkS), (49, ct_S_ContextText), (50, ct_I_ContextText)], [], gl, []⟩
theorem ef_L_FnExactContextText (t0 : PV S_string) (t1 : PV S_laws_Hunk) (t2 : PV (.int .i64)) : denF cx_L_FnExactContextText 0 pl_L_FnExactContextText Tryd.f10.ntmps (bodyOf Tryd.f10) Tryd.f10.results.toList [(.bor, S_string), (.bor, S_laws_Hunk), (.bor, (.int .i64))] [(.bool, false)] (t0, t1, t2, ()) = f_L_FnExactContextText t0 t1 t2 := by kernel_rfl
theorem ok_L_FnExactContextText : FnOk gl Tryd.prog 10 ct_L_FnExactContextText :=
  fnOk (cx := cx_L_FnExactContextText) (pl := pl_L_FnExactContextText) (dp := 0) (ok0_of tabOk (by unfold ArrOk; kernel_rfl) mix ⟨ok_L_szStringS, ok_L_szHunkS, ok_L_toStringS, ok_L_toHunkS, ok_L_eqStringS, ok_L_eqHunkS, ok_S_ContextText, ok_I_ContextText, trivial⟩ trivial) Tryd.func10 (by kernel_rfl) (by kernel_rfl) (by kernel_rfl)
    (by rw [show loopsOf (bodyOf Tryd.f10) = [] from by kernel_rfl]; exact trivial) (fun x => ef_L_FnExactContextText x.1 x.2.1 x.2.2.1)
end R
