/- The functions, part 2. -/
import Derived.Test.YtpefaecojdahfaaGreatDoorPaC1
open Go Go.Dn Go.Proofs
namespace R
set_option linter.unusedVariables false
set_option maxRecDepth 20000
open Go.Shelf
noncomputable def o_S_ReadContext_12 : List Out := [⟨.normal, ⟨[], [6, 39], []⟩, mkSh 41 [(6, .val S_impl_Group (.row (.pr .b (.pr .b (.pr (.row (.pr .b (.pr .b .b))) .b))))), (39, .val .bool .b)]⟩]
noncomputable def sh_S_ReadContext_5 : List Sh := mkSh 41 [(0, .val .str .b), (5, .val S_string .b), (6, .val S_impl_Group (.row (.pr .b (.pr .b (.pr (.row (.pr .b (.pr .b .b))) .b)))))]
noncomputable def o_S_ReadContext_5 : List Out := [⟨.exit 0, ⟨[], [0, 6, 35, 36, 37, 38], []⟩, mkSh 41 [(0, .val .str .b), (6, .val S_impl_Group (.row (.pr .b (.pr .b (.pr (.row (.pr .b (.pr .b .b))) .b)))))]⟩, ⟨.ret, ⟨[], [2, 3, 4], []⟩, mkSh 41 [(2, .val S_impl_Group (.row (.pr .b (.pr .b (.pr (.row (.pr .b (.pr .b .b))) .b))))), (3, .val (.int .i64) .b), (4, .val .bool .b)]⟩]
noncomputable def b_S_ReadContext_5 (t0 : PV .str) (t5 : PV S_string) (t6 : PV S_impl_Group) : Option ((PV .str × PV S_string × PV S_impl_Group × Unit) ⊕ ((PV .str × PV S_impl_Group × Unit) ⊕ (PV S_impl_Group × PV (.int .i64) × PV .bool × Unit))) :=
  bif (decide ((t5.length : Int) > 0)) then
    (f_S_l8One t5).bind fun r4 =>
      bif (r4.1.2.1 == 0) then
        some (.inr (.inr ([], 1, false, ())))
      else
        bif roomB (t6.length + [r4.1.1].length) then
          bif cutB r4.1.2.1 (t5.length : Int) t5.length then
            some (.inl (t0, (cutL r4.1.2.1 (t5.length : Int) t5), (t6 ++ [r4.1.1]), ()))
          else
            none
        else
          none
  else
    some (.inr (.inl (t0, t6, ())))
noncomputable def w_S_ReadContext_5 : PV .str × PV S_string × PV S_impl_Group × Unit → Option ((PV .str × PV S_impl_Group × Unit) ⊕ (PV S_impl_Group × PV (.int .i64) × PV .bool × Unit)) := fix fun d => b_S_ReadContext_5 d.1 d.2.1 d.2.2.1
noncomputable def lp_S_ReadContext_5 : Lp := ⟨⟨[], [0, 5, 6, 35, 36, 37, 38], []⟩, sh_S_ReadContext_5, o_S_ReadContext_5, fun d => b_S_ReadContext_5 d.1 d.2.1 d.2.2.1⟩
noncomputable def pl_S_ReadContext : Plan := ⟨[(12, o_S_ReadContext_12)], [(5, lp_S_ReadContext_5)], 0, 0⟩
noncomputable def f_S_ReadContext (t0 : PV .str) : Option (PVs [S_impl_Group, (.int .i64), .bool] × PVs []) :=
  bif (decide ((t0.length : Int) > 3000)) then
    some (([], 1, false, ()), ())
  else
    (f_S_l1Cut t0).bind fun r2 =>
      (w_S_ReadContext_5 (t0, r2.1.1, [], ())).bind fun x17 =>
        match x17 with
        | .inl l7 =>
          ((
              (f_S_l6Good l7.2.1).bind fun r13 =>
                bif (!r13.1.1) then
                  some (l7.2.1, true, ())
                else
                  (f_S_l8Text l7.2.1).bind fun r14 =>
                    some (l7.2.1, (!(r14.1.1 == l7.1)), ()) : Option ((PV S_impl_Group × PV .bool × Unit)))).bind fun j15 =>
            bif j15.2.1 then
              some (([], 1, false, ()), ())
            else
              some ((j15.1, 0, true, ()), ())
        | .inr l16 =>
          some ((l16.1, l16.2.1, l16.2.2.1, ()), ())
noncomputable def ct_S_ReadContext : Ct := ⟨[(.bor, .str)], [(S_impl_Group, (.row (.pr .b (.pr .b (.pr (.row (.pr .b (.pr .b .b))) .b))))), ((.int .i64), .b), (.bool, .b)], fun x => f_S_ReadContext x.1⟩
noncomputable def cx_S_ReadContext : Cx := ⟨tab, arrs, [(40, ct_S_l1Cut), (41, ct_S_l8One), (42, ct_S_l6Good), (43, ct_S_l8Text)], [], gl, []⟩
theorem eb_S_ReadContext_5 (t0 : PV .str) (t5 : PV S_string) (t6 : PV S_impl_Group) : denK cx_S_ReadContext (rcN cx_S_ReadContext 0) pl_S_ReadContext 0 ((loopsOf (bodyOf Tryz.f15)).getD 0 .skip) (fillS sh_S_ReadContext_5 (t0, t5, t6, ())) (roundK 0 lp_S_ReadContext_5) = b_S_ReadContext_5 t0 t5 t6 := by kernel_rfl
theorem ef_S_ReadContext (t0 : PV .str) : denF cx_S_ReadContext 0 pl_S_ReadContext Tryz.f15.ntmps (bodyOf Tryz.f15) Tryz.f15.results.toList [(.bor, .str)] [(S_impl_Group, (.row (.pr .b (.pr .b (.pr (.row (.pr .b (.pr .b .b))) .b))))), ((.int .i64), .b), (.bool, .b)] (t0, ()) = f_S_ReadContext t0 := by kernel_rfl
theorem ok_S_ReadContext : FnOk gl Tryz.prog 15 ct_S_ReadContext :=
  fnOk (cx := cx_S_ReadContext) (pl := pl_S_ReadContext) (dp := 0) (ok0_of tabOk (by unfold ArrOk; kernel_rfl) mix ⟨ok_S_l1Cut, ok_S_l8One, ok_S_l6Good, ok_S_l8Text, trivial⟩ trivial) Tryz.func15 (by kernel_rfl) (by kernel_rfl) (by kernel_rfl)
    (by rw [show loopsOf (bodyOf Tryz.f15) = [((loopsOf (bodyOf Tryz.f15)).getD 0 .skip)] from by kernel_rfl]; exact ⟨(by rw [show lookup pl_S_ReadContext.loops (firstId ((loopsOf (bodyOf Tryz.f15)).getD 0 .skip)) = some lp_S_ReadContext_5 from by kernel_rfl]; exact fun d z h => (eb_S_ReadContext_5 d.1 d.2.1 d.2.2.1).trans h), trivial⟩) (fun x => ef_S_ReadContext x.1)
noncomputable def pl_strings_SplitAfter : Plan := ⟨[], [], 0, 0⟩
noncomputable def f_strings_SplitAfter (t0 : PV .str) (t1 : PV .str) : Option (PVs [S_string] × PVs []) :=
  (f_strings_genSplit t0 t1 (t1.length : Int) (-1)).bind fun r1 =>
    some ((r1.1.1, ()), ())
noncomputable def ct_strings_SplitAfter : Ct := ⟨[(.bor, .str), (.bor, .str)], [(S_string, .b)], fun x => f_strings_SplitAfter x.1 x.2.1⟩
noncomputable def cx_strings_SplitAfter : Cx := ⟨tab, arrs, [(149, ct_strings_genSplit)], [], gl, []⟩
theorem ef_strings_SplitAfter (t0 : PV .str) (t1 : PV .str) : denF cx_strings_SplitAfter 0 pl_strings_SplitAfter Tryz.f100.ntmps (bodyOf Tryz.f100) Tryz.f100.results.toList [(.bor, .str), (.bor, .str)] [(S_string, .b)] (t0, t1, ()) = f_strings_SplitAfter t0 t1 := by kernel_rfl
theorem ok_strings_SplitAfter : FnOk gl Tryz.prog 100 ct_strings_SplitAfter :=
  fnOk (cx := cx_strings_SplitAfter) (pl := pl_strings_SplitAfter) (dp := 0) (ok0_of tabOk (by unfold ArrOk; kernel_rfl) mix ⟨ok_strings_genSplit, trivial⟩ trivial) Tryz.func100 (by kernel_rfl) (by kernel_rfl) (by kernel_rfl)
    (by rw [show loopsOf (bodyOf Tryz.f100) = [] from by kernel_rfl]; exact trivial) (fun x => ef_strings_SplitAfter x.1 x.2.1)
noncomputable def o_I_linesOf_7 : List Out := [⟨.normal, ⟨[], [3], []⟩, mkSh 21 [(3, .val S_string .b)]⟩]
noncomputable def pl_I_linesOf : Plan := ⟨[(7, o_I_linesOf_7)], [], 0, 0⟩
noncomputable def f_I_linesOf (t0 : PV .str) : Option (PVs [S_string] × PVs []) :=
  bif (t0 == []) then
    some (([], ()), ())
  else
    (f_strings_SplitAfter t0 [10]).bind fun r2 =>
      ((
          bif inB (IntKind.wrap .i64 ((r2.1.1.length : Int) - 1)) r2.1.1.length then
            bif ((r2.1.1.getD ((IntKind.wrap .i64 ((r2.1.1.length : Int) - 1)).toNat) []) == []) then
              bif cutB 0 (IntKind.wrap .i64 ((r2.1.1.length : Int) - 1)) r2.1.1.length then
                some ((cutL 0 (IntKind.wrap .i64 ((r2.1.1.length : Int) - 1)) r2.1.1), ())
              else
                none
            else
              some (r2.1.1, ())
          else
            none : Option ((PV S_string × Unit)))).bind fun j3 =>
        some ((j3.1, ()), ())
noncomputable def ct_I_linesOf : Ct := ⟨[(.bor, .str)], [(S_string, .b)], fun x => f_I_linesOf x.1⟩
noncomputable def cx_I_linesOf : Cx := ⟨tab, arrs, [(100, ct_strings_SplitAfter)], [], gl, []⟩
theorem ef_I_linesOf (t0 : PV .str) : denF cx_I_linesOf 0 pl_I_linesOf Tryz.f45.ntmps (bodyOf Tryz.f45) Tryz.f45.results.toList [(.bor, .str)] [(S_string, .b)] (t0, ()) = f_I_linesOf t0 := by kernel_rfl
theorem ok_I_linesOf : FnOk gl Tryz.prog 45 ct_I_linesOf :=
  fnOk (cx := cx_I_linesOf) (pl := pl_I_linesOf) (dp := 0) (ok0_of tabOk (by unfold ArrOk; kernel_rfl) mix ⟨ok_strings_SplitAfter, trivial⟩ trivial) Tryz.func45 (by kernel_rfl) (by kernel_rfl) (by kernel_rfl)
    (by rw [show loopsOf (bodyOf Tryz.f45) = [] from by kernel_rfl]; exact trivial) (fun x => ef_I_linesOf x.1)
noncomputable def pl_internal_stringslite_HasPrefix : Plan := ⟨[], [], 0, 0⟩
noncomputable def f_internal_stringslite_HasPrefix (t0 : PV .str) (t1 : PV .str) : Option (PVs [.bool] × PVs []) :=
  bif (decide ((t0.length : Int) ≥ (t1.length : Int))) then
    bif cutB 0 (t1.length : Int) t0.length then
      some ((((cutL 0 (t1.length : Int) t0) == t1), ()), ())
    else
      none
  else
    some ((false, ()), ())
noncomputable def ct_internal_stringslite_HasPrefix : Ct := ⟨[(.bor, .str), (.bor, .str)], [(.bool, .b)], fun x => f_internal_stringslite_HasPrefix x.1 x.2.1⟩
noncomputable def cx_internal_stringslite_HasPrefix : Cx := ⟨tab, arrs, [], [], gl, []⟩
theorem ef_internal_stringslite_HasPrefix (t0 : PV .str) (t1 : PV .str) : denF cx_internal_stringslite_HasPrefix 0 pl_internal_stringslite_HasPrefix Tryz.f185.ntmps (bodyOf Tryz.f185) Tryz.f185.results.toList [(.bor, .str), (.bor, .str)] [(.bool, .b)] (t0, t1, ()) = f_internal_stringslite_HasPrefix t0 t1 := by kernel_rfl
theorem ok_internal_stringslite_HasPrefix : FnOk gl Tryz.prog 185 ct_internal_stringslite_HasPrefix :=
  fnOk (cx := cx_internal_stringslite_HasPrefix) (pl := pl_internal_stringslite_HasPrefix) (dp := 0) (ok0_of tabOk (by unfold ArrOk; kernel_rfl) mix trivial trivial) Tryz.func185 (by kernel_rfl) (by kernel_rfl) (by kernel_rfl)
    (by rw [show loopsOf (bodyOf Tryz.f185) = [] from by kernel_rfl]; exact trivial) (fun x => ef_internal_stringslite_HasPrefix x.1 x.2.1)
noncomputable def pl_internal_stringslite_CutPrefix : Plan := ⟨[], [], 0, 0⟩
noncomputable def f_internal_stringslite_CutPrefix (t0 : PV .str) (t1 : PV .str) : Option (PVs [.str, .bool] × PVs []) :=
  (f_internal_stringslite_HasPrefix t0 t1).bind fun r4 =>
    bif (!r4.1.1) then
      some ((t0, false, ()), ())
    else
      bif cutB (t1.length : Int) (t0.length : Int) t0.length then
        some (((cutL (t1.length : Int) (t0.length : Int) t0), true, ()), ())
      else
        none
noncomputable def ct_internal_stringslite_CutPrefix : Ct := ⟨[(.bor, .str), (.bor, .str)], [(.str, .b), (.bool, .b)], fun x => f_internal_stringslite_CutPrefix x.1 x.2.1⟩
noncomputable def cx_internal_stringslite_CutPrefix : Cx := ⟨tab, arrs, [(185, ct_internal_stringslite_HasPrefix)], [], gl, []⟩
theorem ef_internal_stringslite_CutPrefix (t0 : PV .str) (t1 : PV .str) : denF cx_internal_stringslite_CutPrefix 0 pl_internal_stringslite_CutPrefix Tryz.f168.ntmps (bodyOf Tryz.f168) Tryz.f168.results.toList [(.bor, .str), (.bor, .str)] [(.str, .b), (.bool, .b)] (t0, t1, ()) = f_internal_stringslite_CutPrefix t0 t1 := by kernel_rfl
theorem ok_internal_stringslite_CutPrefix : FnOk gl Tryz.prog 168 ct_internal_stringslite_CutPrefix :=
  fnOk (cx := cx_internal_stringslite_CutPrefix) (pl := pl_internal_stringslite_CutPrefix) (dp := 0) (ok0_of tabOk (by unfold ArrOk; kernel_rfl) mix ⟨ok_internal_stringslite_HasPrefix, trivial⟩ trivial) Tryz.func168 (by kernel_rfl) (by kernel_rfl) (by kernel_rfl)
    (by rw [show loopsOf (bodyOf Tryz.f168) = [] from by kernel_rfl]; exact trivial) (fun x => ef_internal_stringslite_CutPrefix x.1 x.2.1)
noncomputable def pl_strings_CutPrefix : Plan := ⟨[], [], 0, 0⟩
noncomputable def f_strings_CutPrefix (t0 : PV .str) (t1 : PV .str) : Option (PVs [.str, .bool] × PVs []) :=
  (f_internal_stringslite_CutPrefix t0 t1).bind fun r1 =>
    some ((r1.1.1, r1.1.2.1, ()), ())
noncomputable def ct_strings_CutPrefix : Ct := ⟨[(.bor, .str), (.bor, .str)], [(.str, .b), (.bool, .b)], fun x => f_strings_CutPrefix x.1 x.2.1⟩
noncomputable def cx_strings_CutPrefix : Cx := ⟨tab, arrs, [(168, ct_internal_stringslite_CutPrefix)], [], gl, []⟩
theorem ef_strings_CutPrefix (t0 : PV .str) (t1 : PV .str) : denF cx_strings_CutPrefix 0 pl_strings_CutPrefix Tryz.f141.ntmps (bodyOf Tryz.f141) Tryz.f141.results.toList [(.bor, .str), (.bor, .str)] [(.str, .b), (.bool, .b)] (t0, t1, ()) = f_strings_CutPrefix t0 t1 := by kernel_rfl
theorem ok_strings_CutPrefix : FnOk gl Tryz.prog 141 ct_strings_CutPrefix :=
  fnOk (cx := cx_strings_CutPrefix) (pl := pl_strings_CutPrefix) (dp := 0) (ok0_of tabOk (by unfold ArrOk; kernel_rfl) mix ⟨ok_internal_stringslite_CutPrefix, trivial⟩ trivial) Tryz.func141 (by kernel_rfl) (by kernel_rfl) (by kernel_rfl)
    (by rw [show loopsOf (bodyOf Tryz.f141) = [] from by kernel_rfl]; exact trivial) (fun x => ef_strings_CutPrefix x.1 x.2.1)
noncomputable def pl_internal_stringslite_HasSuffix : Plan := ⟨[], [], 0, 0⟩
noncomputable def f_internal_stringslite_HasSuffix (t0 : PV .str) (t1 : PV .str) : Option (PVs [.bool] × PVs []) :=
  bif (decide ((t0.length : Int) ≥ (t1.length : Int))) then
    bif cutB (IntKind.wrap .i64 ((t0.length : Int) - (t1.length : Int))) (t0.length : Int) t0.length then
      some ((((cutL (IntKind.wrap .i64 ((t0.length : Int) - (t1.length : Int))) (t0.length : Int) t0) == t1), ()), ())
    else
      none
  else
    some ((false, ()), ())
noncomputable def ct_internal_stringslite_HasSuffix : Ct := ⟨[(.bor, .str), (.bor, .str)], [(.bool, .b)], fun x => f_internal_stringslite_HasSuffix x.1 x.2.1⟩
noncomputable def cx_internal_stringslite_HasSuffix : Cx := ⟨tab, arrs, [], [], gl, []⟩
theorem ef_internal_stringslite_HasSuffix (t0 : PV .str) (t1 : PV .str) : denF cx_internal_stringslite_HasSuffix 0 pl_internal_stringslite_HasSuffix Tryz.f186.ntmps (bodyOf Tryz.f186) Tryz.f186.results.toList [(.bor, .str), (.bor, .str)] [(.bool, .b)] (t0, t1, ()) = f_internal_stringslite_HasSuffix t0 t1 := by kernel_rfl
theorem ok_internal_stringslite_HasSuffix : FnOk gl Tryz.prog 186 ct_internal_stringslite_HasSuffix :=
  fnOk (cx := cx_internal_stringslite_HasSuffix) (pl := pl_internal_stringslite_HasSuffix) (dp := 0) (ok0_of tabOk (by unfold ArrOk; kernel_rfl) mix trivial trivial) Tryz.func186 (by kernel_rfl) (by kernel_rfl) (by kernel_rfl)
    (by rw [show loopsOf (bodyOf Tryz.f186) = [] from by kernel_rfl]; exact trivial) (fun x => ef_internal_stringslite_HasSuffix x.1 x.2.1)
noncomputable def pl_internal_stringslite_CutSuffix : Plan := ⟨[], [], 0, 0⟩
noncomputable def f_internal_stringslite_CutSuffix (t0 : PV .str) (t1 : PV .str) : Option (PVs [.str, .bool] × PVs []) :=
  (f_internal_stringslite_HasSuffix t0 t1).bind fun r4 =>
    bif (!r4.1.1) then
      some ((t0, false, ()), ())
    else
      bif cutB 0 (IntKind.wrap .i64 ((t0.length : Int) - (t1.length : Int))) t0.length then
        some (((cutL 0 (IntKind.wrap .i64 ((t0.length : Int) - (t1.length : Int))) t0), true, ()), ())
      else
        none
noncomputable def ct_internal_stringslite_CutSuffix : Ct := ⟨[(.bor, .str), (.bor, .str)], [(.str, .b), (.bool, .b)], fun x => f_internal_stringslite_CutSuffix x.1 x.2.1⟩
noncomputable def cx_internal_stringslite_CutSuffix : Cx := ⟨tab, arrs, [(186, ct_internal_stringslite_HasSuffix)], [], gl, []⟩
theorem ef_internal_stringslite_CutSuffix (t0 : PV .str) (t1 : PV .str) : denF cx_internal_stringslite_CutSuffix 0 pl_internal_stringslite_CutSuffix Tryz.f169.ntmps (bodyOf Tryz.f169) Tryz.f169.results.toList [(.bor, .str), (.bor, .str)] [(.str, .b), (.bool, .b)] (t0, t1, ()) = f_internal_stringslite_CutSuffix t0 t1 := by kernel_rfl
theorem ok_internal_stringslite_CutSuffix : FnOk gl Tryz.prog 169 ct_internal_stringslite_CutSuffix :=
  fnOk (cx := cx_internal_stringslite_CutSuffix) (pl := pl_internal_stringslite_CutSuffix) (dp := 0) (ok0_of tabOk (by unfold ArrOk; kernel_rfl) mix ⟨ok_internal_stringslite_HasSuffix, trivial⟩ trivial) Tryz.func169 (by kernel_rfl) (by kernel_rfl) (by kernel_rfl)
    (by rw [show loopsOf (bodyOf Tryz.f169) = [] from by kernel_rfl]; exact trivial) (fun x => ef_internal_stringslite_CutSuffix x.1 x.2.1)
noncomputable def pl_strings_CutSuffix : Plan := ⟨[], [], 0, 0⟩
noncomputable def f_strings_CutSuffix (t0 : PV .str) (t1 : PV .str) : Option (PVs [.str, .bool] × PVs []) :=
  (f_internal_stringslite_CutSuffix t0 t1).bind fun r1 =>
    some ((r1.1.1, r1.1.2.1, ()), ())
noncomputable def ct_strings_CutSuffix : Ct := ⟨[(.bor, .str), (.bor, .str)], [(.str, .b), (.bool, .b)], fun x => f_strings_CutSuffix x.1 x.2.1⟩
noncomputable def cx_strings_CutSuffix : Cx := ⟨tab, arrs, [(169, ct_internal_stringslite_CutSuffix)], [], gl, []⟩
theorem ef_strings_CutSuffix (t0 : PV .str) (t1 : PV .str) : denF cx_strings_CutSuffix 0 pl_strings_CutSuffix Tryz.f142.ntmps (bodyOf Tryz.f142) Tryz.f142.results.toList [(.bor, .str), (.bor, .str)] [(.str, .b), (.bool, .b)] (t0, t1, ()) = f_strings_CutSuffix t0 t1 := by kernel_rfl
theorem ok_strings_CutSuffix : FnOk gl Tryz.prog 142 ct_strings_CutSuffix :=
  fnOk (cx := cx_strings_CutSuffix) (pl := pl_strings_CutSuffix) (dp := 0) (ok0_of tabOk (by unfold ArrOk; kernel_rfl) mix ⟨ok_internal_stringslite_CutSuffix, trivial⟩ trivial) Tryz.func142 (by kernel_rfl) (by kernel_rfl) (by kernel_rfl)
    (by rw [show loopsOf (bodyOf Tryz.f142) = [] from by kernel_rfl]; exact trivial) (fun x => ef_strings_CutSuffix x.1 x.2.1)
noncomputable def pl_internal_stringslite_Cut : Plan := ⟨[], [], 0, 0⟩
noncomputable def f_internal_stringslite_Cut (t0 : PV .str) (t1 : PV .str) : Option (PVs [.str, .str, .bool] × PVs []) :=
  (f_internal_stringslite_Index t0 t1).bind fun r4 =>
    bif (decide (r4.1.1 ≥ 0)) then
      bif cutB 0 r4.1.1 t0.length then
        bif cutB (IntKind.wrap .i64 (r4.1.1 + (t1.length : Int))) (t0.length : Int) t0.length then
          some (((cutL 0 r4.1.1 t0), (cutL (IntKind.wrap .i64 (r4.1.1 + (t1.length : Int))) (t0.length : Int) t0), true, ()), ())
        else
          none
      else
        none
    else
      some ((t0, [], false, ()), ())
noncomputable def ct_internal_stringslite_Cut : Ct := ⟨[(.bor, .str), (.bor, .str)], [(.str, .b), (.str, .b), (.bool, .b)], fun x => f_internal_stringslite_Cut x.1 x.2.1⟩
noncomputable def cx_internal_stringslite_Cut : Cx := ⟨tab, arrs, [(187, ct_internal_stringslite_Index)], [], gl, []⟩
theorem ef_internal_stringslite_Cut (t0 : PV .str) (t1 : PV .str) : denF cx_internal_stringslite_Cut 0 pl_internal_stringslite_Cut Tryz.f180.ntmps (bodyOf Tryz.f180) Tryz.f180.results.toList [(.bor, .str), (.bor, .str)] [(.str, .b), (.str, .b), (.bool, .b)] (t0, t1, ()) = f_internal_stringslite_Cut t0 t1 := by kernel_rfl
theorem ok_internal_stringslite_Cut : FnOk gl Tryz.prog 180 ct_internal_stringslite_Cut :=
  fnOk (cx := cx_internal_stringslite_Cut) (pl := pl_internal_stringslite_Cut) (dp := 0) (ok0_of tabOk (by unfold ArrOk; kernel_rfl) mix ⟨ok_internal_stringslite_Index, trivial⟩ trivial) Tryz.func180 (by kernel_rfl) (by kernel_rfl) (by kernel_rfl)
    (by rw [show loopsOf (bodyOf Tryz.f180) = [] from by kernel_rfl]; exact trivial) (fun x => ef_internal_stringslite_Cut x.1 x.2.1)
noncomputable def pl_strings_Cut : Plan := ⟨[], [], 0, 0⟩
noncomputable def f_strings_Cut (t0 : PV .str) (t1 : PV .str) : Option (PVs [.str, .str, .bool] × PVs []) :=
  (f_internal_stringslite_Cut t0 t1).bind fun r1 =>
    some ((r1.1.1, r1.1.2.1, r1.1.2.2.1, ()), ())
noncomputable def ct_strings_Cut : Ct := ⟨[(.bor, .str), (.bor, .str)], [(.str, .b), (.str, .b), (.bool, .b)], fun x => f_strings_Cut x.1 x.2.1⟩
noncomputable def cx_strings_Cut : Cx := ⟨tab, arrs, [(180, ct_internal_stringslite_Cut)], [], gl, []⟩
theorem ef_strings_Cut (t0 : PV .str) (t1 : PV .str) : denF cx_strings_Cut 0 pl_strings_Cut Tryz.f162.ntmps (bodyOf Tryz.f162) Tryz.f162.results.toList [(.bor, .str), (.bor, .str)] [(.str, .b), (.str, .b), (.bool, .b)] (t0, t1, ()) = f_strings_Cut t0 t1 := by kernel_rfl
theorem ok_strings_Cut : FnOk gl Tryz.prog 162 ct_strings_Cut :=
  fnOk (cx := cx_strings_Cut) (pl := pl_strings_Cut) (dp := 0) (ok0_of tabOk (by unfold ArrOk; kernel_rfl) mix ⟨ok_internal_stringslite_Cut, trivial⟩ trivial) Tryz.func162 (by kernel_rfl) (by kernel_rfl) (by kernel_rfl)
    (by rw [show loopsOf (bodyOf Tryz.f162) = [] from by kernel_rfl]; exact trivial) (fun x => ef_strings_Cut x.1 x.2.1)
noncomputable def pl_I_readTwo : Plan := ⟨[], [], 0, 0⟩
noncomputable def f_I_readTwo (t0 : PV .str) : Option (PVs [(.int .i64), (.int .i64), .bool, .bool] × PVs []) :=
  (f_strings_Cut t0 [44]).bind fun r2 =>
    (f_I_readNumber r2.1.1).bind fun r4 =>
      bif (!r2.1.2.2.1) then
        some ((r4.1.1, r4.1.1, false, r4.1.2.1, ()), ())
      else
        (f_I_readNumber r2.1.2.1).bind fun r6 =>
          bif r4.1.2.1 then
            some ((r4.1.1, r6.1.1, true, r6.1.2.1, ()), ())
          else
            some ((r4.1.1, r6.1.1, true, false, ()), ())
noncomputable def ct_I_readTwo : Ct := ⟨[(.bor, .str)], [((.int .i64), .b), ((.int .i64), .b), (.bool, .b), (.bool, .b)], fun x => f_I_readTwo x.1⟩
noncomputable def cx_I_readTwo : Cx := ⟨tab, arrs, [(162, ct_strings_Cut), (194, ct_I_readNumber)], [], gl, []⟩
theorem ef_I_readTwo (t0 : PV .str) : denF cx_I_readTwo 0 pl_I_readTwo Tryz.f181.ntmps (bodyOf Tryz.f181) Tryz.f181.results.toList [(.bor, .str)] [((.int .i64), .b), ((.int .i64), .b), (.bool, .b), (.bool, .b)] (t0, ()) = f_I_readTwo t0 := by kernel_rfl
theorem ok_I_readTwo : FnOk gl Tryz.prog 181 ct_I_readTwo :=
  fnOk (cx := cx_I_readTwo) (pl := pl_I_readTwo) (dp := 0) (ok0_of tabOk (by unfold ArrOk; kernel_rfl) mix ⟨ok_strings_Cut, ok_I_readNumber, trivial⟩ trivial) Tryz.func181 (by kernel_rfl) (by kernel_rfl) (by kernel_rfl)
    (by rw [show loopsOf (bodyOf Tryz.f181) = [] from by kernel_rfl]; exact trivial) (fun x => ef_I_readTwo x.1)
noncomputable def o_I_readEnds_3 : List Out := [⟨.normal, ⟨[], [7, 8, 35], []⟩, mkSh 38 [(7, .val (.int .i64) .b), (8, .val (.int .i64) .b), (35, .val .bool .b)]⟩]
noncomputable def pl_I_readEnds : Plan := ⟨[(3, o_I_readEnds_3)], [], 0, 0⟩
noncomputable def f_I_readEnds (t0 : PV .str) (t1 : PV (.int .i64)) : Option (PVs [(.int .i64), (.int .i64), .bool] × PVs []) :=
  (f_I_readTwo t0).bind fun r2 =>
    ((
        bif (!r2.1.2.2.2.1) then
          some (r2.1.1, r2.1.2.1, true, ())
        else
          bif (decide ((bif decide (r2.1.2.1 > r2.1.1) then r2.1.2.1 else r2.1.1) > 1000)) then
            some (r2.1.1, r2.1.2.1, true, ())
          else
            bif r2.1.2.2.1 then
              some (r2.1.1, r2.1.2.1, (decide (r2.1.1 > (IntKind.wrap .i64 (r2.1.2.1 + t1)))), ())
            else
              some (r2.1.1, r2.1.2.1, false, ()) : Option ((PV (.int .i64) × PV (.int .i64) × PV .bool × Unit)))).bind fun j4 =>
      bif j4.2.2.1 then
        some ((0, 0, false, ()), ())
      else
        some ((j4.1, j4.2.1, true, ()), ())
noncomputable def ct_I_readEnds : Ct := ⟨[(.bor, .str), (.bor, (.int .i64))], [((.int .i64), .b), ((.int .i64), .b), (.bool, .b)], fun x => f_I_readEnds x.1 x.2.1⟩
noncomputable def cx_I_readEnds : Cx := ⟨tab, arrs, [(181, ct_I_readTwo)], [], gl, []⟩
theorem ef_I_readEnds (t0 : PV .str) (t1 : PV (.int .i64)) : denF cx_I_readEnds 0 pl_I_readEnds Tryz.f170.ntmps (bodyOf Tryz.f170) Tryz.f170.results.toList [(.bor, .str), (.bor, (.int .i64))] [((.int .i64), .b), ((.int .i64), .b), (.bool, .b)] (t0, t1, ()) = f_I_readEnds t0 t1 := by kernel_rfl
theorem ok_I_readEnds : FnOk gl Tryz.prog 170 ct_I_readEnds :=
  fnOk (cx := cx_I_readEnds) (pl := pl_I_readEnds) (dp := 0) (ok0_of tabOk (by unfold ArrOk; kernel_rfl) mix ⟨ok_I_readTwo, trivial⟩ trivial) Tryz.func170 (by kernel_rfl) (by kernel_rfl) (by kernel_rfl)
    (by rw [show loopsOf (bodyOf Tryz.f170) = [] from by kernel_rfl]; exact trivial) (fun x => ef_I_readEnds x.1 x.2.1)
noncomputable def pl_I_ReadEnd : Plan := ⟨[], [], 0, 0⟩
noncomputable def f_I_ReadEnd (t0 : PV .str) : Option (PVs [(.int .i64), (.int .i64), .bool] × PVs []) :=
  (f_I_readEnds t0 1).bind fun r1 =>
    some ((r1.1.1, r1.1.2.1, r1.1.2.2.1, ()), ())
noncomputable def ct_I_ReadEnd : Ct := ⟨[(.bor, .str)], [((.int .i64), .b), ((.int .i64), .b), (.bool, .b)], fun x => f_I_ReadEnd x.1⟩
noncomputable def cx_I_ReadEnd : Cx := ⟨tab, arrs, [(170, ct_I_readEnds)], [], gl, []⟩
theorem ef_I_ReadEnd (t0 : PV .str) : denF cx_I_ReadEnd 0 pl_I_ReadEnd Tryz.f143.ntmps (bodyOf Tryz.f143) Tryz.f143.results.toList [(.bor, .str)] [((.int .i64), .b), ((.int .i64), .b), (.bool, .b)] (t0, ()) = f_I_ReadEnd t0 := by kernel_rfl
theorem ok_I_ReadEnd : FnOk gl Tryz.prog 143 ct_I_ReadEnd :=
  fnOk (cx := cx_I_ReadEnd) (pl := pl_I_ReadEnd) (dp := 0) (ok0_of tabOk (by unfold ArrOk; kernel_rfl) mix ⟨ok_I_readEnds, trivial⟩ trivial) Tryz.func143 (by kernel_rfl) (by kernel_rfl) (by kernel_rfl)
    (by rw [show loopsOf (bodyOf Tryz.f143) = [] from by kernel_rfl]; exact trivial) (fun x => ef_I_ReadEnd x.1)
noncomputable def pl_I_readHead : Plan := ⟨[], [], 0, 0⟩
noncomputable def f_I_readHead (t0 : PV S_string) (t1 : PV .str) (t2 : PV .str) : Option (PVs [(.int .i64), S_string, .bool] × PVs []) :=
  bif ((t0.length : Int) == 0) then
    some ((0, [], false, ()), ())
  else
    bif inB 0 t0.length then
      (f_strings_CutPrefix (t0.getD ((0 : Int).toNat) []) t1).bind fun r2 =>
        (f_strings_CutSuffix r2.1.1 t2).bind fun r4 =>
          (f_I_ReadEnd r4.1.1).bind fun r6 =>
            bif cutB 1 (t0.length : Int) t0.length then
              bif r2.1.2.1 then
                bif r4.1.2.1 then
                  some ((r6.1.1, (cutL 1 (t0.length : Int) t0), r6.1.2.2.1, ()), ())
                else
                  some ((r6.1.1, (cutL 1 (t0.length : Int) t0), false, ()), ())
              else
                some ((r6.1.1, (cutL 1 (t0.length : Int) t0), false, ()), ())
            else
              none
    else
      none
noncomputable def ct_I_readHead : Ct := ⟨[(.bor, S_string), (.bor, .str), (.bor, .str)], [((.int .i64), .b), (S_string, .b), (.bool, .b)], fun x => f_I_readHead x.1 x.2.1 x.2.2.1⟩
noncomputable def cx_I_readHead : Cx := ⟨tab, arrs, [(141, ct_strings_CutPrefix), (142, ct_strings_CutSuffix), (143, ct_I_ReadEnd)], [], gl, []⟩
theorem ef_I_readHead (t0 : PV S_string) (t1 : PV .str) (t2 : PV .str) : denF cx_I_readHead 0 pl_I_readHead Tryz.f96.ntmps (bodyOf Tryz.f96) Tryz.f96.results.toList [(.bor, S_string), (.bor, .str), (.bor, .str)] [((.int .i64), .b), (S_string, .b), (.bool, .b)] (t0, t1, t2, ()) = f_I_readHead t0 t1 t2 := by kernel_rfl
theorem ok_I_readHead : FnOk gl Tryz.prog 96 ct_I_readHead :=
  fnOk (cx := cx_I_readHead) (pl := pl_I_readHead) (dp := 0) (ok0_of tabOk (by unfold ArrOk; kernel_rfl) mix ⟨ok_strings_CutPrefix, ok_strings_CutSuffix, ok_I_ReadEnd, trivial⟩ trivial) Tryz.func96 (by kernel_rfl) (by kernel_rfl) (by kernel_rfl)
    (by rw [show loopsOf (bodyOf Tryz.f96) = [] from by kernel_rfl]; exact trivial) (fun x => ef_I_readHead x.1 x.2.1 x.2.2.1)
noncomputable def pl_internal_stringslite_TrimSuffix : Plan := ⟨[], [], 0, 0⟩
noncomputable def f_internal_stringslite_TrimSuffix (t0 : PV .str) (t1 : PV .str) : Option (PVs [.str] × PVs []) :=
  (f_internal_stringslite_HasSuffix t0 t1).bind fun r4 =>
    bif r4.1.1 then
      bif cutB 0 (IntKind.wrap .i64 ((t0.length : Int) - (t1.length : Int))) t0.length then
        some (((cutL 0 (IntKind.wrap .i64 ((t0.length : Int) - (t1.length : Int))) t0), ()), ())
      else
        none
    else
      some ((t0, ()), ())
noncomputable def ct_internal_stringslite_TrimSuffix : Ct := ⟨[(.bor, .str), (.bor, .str)], [(.str, .b)], fun x => f_internal_stringslite_TrimSuffix x.1 x.2.1⟩
noncomputable def cx_internal_stringslite_TrimSuffix : Cx := ⟨tab, arrs, [(186, ct_internal_stringslite_HasSuffix)], [], gl, []⟩
theorem ef_internal_stringslite_TrimSuffix (t0 : PV .str) (t1 : PV .str) : denF cx_internal_stringslite_TrimSuffix 0 pl_internal_stringslite_TrimSuffix Tryz.f188.ntmps (bodyOf Tryz.f188) Tryz.f188.results.toList [(.bor, .str), (.bor, .str)] [(.str, .b)] (t0, t1, ()) = f_internal_stringslite_TrimSuffix t0 t1 := by kernel_rfl
theorem ok_internal_stringslite_TrimSuffix : FnOk gl Tryz.prog 188 ct_internal_stringslite_TrimSuffix :=
  fnOk (cx := cx_internal_stringslite_TrimSuffix) (pl := pl_internal_stringslite_TrimSuffix) (dp := 0) (ok0_of tabOk (by unfold ArrOk; kernel_rfl) mix ⟨ok_internal_stringslite_HasSuffix, trivial⟩ trivial) Tryz.func188 (by kernel_rfl) (by kernel_rfl) (by kernel_rfl)
    (by rw [show loopsOf (bodyOf Tryz.f188) = [] from by kernel_rfl]; exact trivial) (fun x => ef_internal_stringslite_TrimSuffix x.1 x.2.1)
noncomputable def pl_strings_TrimSuffix : Plan := ⟨[], [], 0, 0⟩
noncomputable def f_strings_TrimSuffix (t0 : PV .str) (t1 : PV .str) : Option (PVs [.str] × PVs []) :=
  (f_internal_stringslite_TrimSuffix t0 t1).bind fun r1 =>
    some ((r1.1.1, ()), ())
noncomputable def ct_strings_TrimSuffix : Ct := ⟨[(.bor, .str), (.bor, .str)], [(.str, .b)], fun x => f_strings_TrimSuffix x.1 x.2.1⟩
noncomputable def cx_strings_TrimSuffix : Cx := ⟨tab, arrs, [(188, ct_internal_stringslite_TrimSuffix)], [], gl, []⟩
theorem ef_strings_TrimSuffix (t0 : PV .str) (t1 : PV .str) : denF cx_strings_TrimSuffix 0 pl_strings_TrimSuffix Tryz.f172.ntmps (bodyOf Tryz.f172) Tryz.f172.results.toList [(.bor, .str), (.bor, .str)] [(.str, .b)] (t0, t1, ()) = f_strings_TrimSuffix t0 t1 := by kernel_rfl
theorem ok_strings_TrimSuffix : FnOk gl Tryz.prog 172 ct_strings_TrimSuffix :=
  fnOk (cx := cx_strings_TrimSuffix) (pl := pl_strings_TrimSuffix) (dp := 0) (ok0_of tabOk (by unfold ArrOk; kernel_rfl) mix ⟨ok_internal_stringslite_TrimSuffix, trivial⟩ trivial) Tryz.func172 (by kernel_rfl) (by kernel_rfl) (by kernel_rfl)
    (by rw [show loopsOf (bodyOf Tryz.f172) = [] from by kernel_rfl]; exact trivial) (fun x => ef_strings_TrimSuffix x.1 x.2.1)
noncomputable def pl_I_plain : Plan := ⟨[], [], 0, 0⟩
noncomputable def f_I_plain (t0 : PV .str) : Option (PVs [.str] × PVs []) :=
  (f_strings_TrimSuffix t0 [10]).bind fun r1 =>
    some ((r1.1.1, ()), ())
noncomputable def ct_I_plain : Ct := ⟨[(.bor, .str)], [(.str, .b)], fun x => f_I_plain x.1⟩
noncomputable def cx_I_plain : Cx := ⟨tab, arrs, [(172, ct_strings_TrimSuffix)], [], gl, []⟩
theorem ef_I_plain (t0 : PV .str) : denF cx_I_plain 0 pl_I_plain Tryz.f145.ntmps (bodyOf Tryz.f145) Tryz.f145.results.toList [(.bor, .str)] [(.str, .b)] (t0, ()) = f_I_plain t0 := by kernel_rfl
theorem ok_I_plain : FnOk gl Tryz.prog 145 ct_I_plain :=
  fnOk (cx := cx_I_plain) (pl := pl_I_plain) (dp := 0) (ok0_of tabOk (by unfold ArrOk; kernel_rfl) mix ⟨ok_strings_TrimSuffix, trivial⟩ trivial) Tryz.func145 (by kernel_rfl) (by kernel_rfl) (by kernel_rfl)
    (by rw [show loopsOf (bodyOf Tryz.f145) = [] from by kernel_rfl]; exact trivial) (fun x => ef_I_plain x.1)
noncomputable def o_I_takeHalf_6 : List Out := [⟨.normal, ⟨[(9, .b)], [0, 1, 2, 8, 9, 15, 16, 17, 18, 19, 22, 23, 24, 25, 26, 29, 30, 31, 32, 33, 34, 35, 55, 56, 57, 58], []⟩, mkSh 72 [(0, .val S_string .b), (1, .val .str .b), (2, .val (.int .i64) .b), (8, .val S_impl_Row (.row (.pr .b (.pr .b .b)))), (9, .var Y_impl_Row .b), (15, .val S_string .b), (16, .bad .str), (17, .val .str .b), (18, .val (.int .i64) .b), (19, .val .bool .b), (22, .val S_string .b), (23, .bad .str), (24, .val .str .b), (25, .val (.int .u8) .b), (26, .val .bool .b), (29, .val .str .b), (30, .val .str .b), (31, .val S_string .b), (32, .bad .str), (33, .val .str .b), (34, .val .str .b), (35, .val .bool .b)]⟩]
noncomputable def o_I_takeHalf_8 : List Out := [⟨.normal, ⟨[], [0, 1, 2, 8, 9, 15, 16, 17, 18, 19, 22, 23, 24, 25, 26, 29, 30, 31, 32, 33, 34, 35, 59], []⟩, mkSh 72 [(0, .val S_string .b), (1, .val .str .b), (2, .val (.int .i64) .b), (8, .val S_impl_Row (.row (.pr .b (.pr .b .b)))), (9, .var Y_impl_Row .b), (15, .val S_string .b), (16, .bad .str), (17, .val .str .b), (18, .val (.int .i64) .b), (19, .val .bool .b), (22, .val S_string .b), (23, .bad .str), (24, .val .str .b), (25, .val (.int .u8) .b), (26, .val .bool .b), (29, .val .str .b), (30, .val .str .b), (31, .val S_string .b), (32, .bad .str), (33, .val .str .b), (34, .val .str .b), (35, .val .bool .b), (59, .val .bool .b)]⟩]
noncomputable def o_I_takeHalf_9 : List Out := [⟨.normal, ⟨[(9, .b)], [0, 1, 2, 8, 9, 15, 16, 17, 18, 19, 22, 23, 24, 25, 26, 29, 30, 31, 32, 33, 34, 35, 55, 56, 57, 58], []⟩, mkSh 72 [(0, .val S_string .b), (1, .val .str .b), (2, .val (.int .i64) .b), (8, .val S_impl_Row (.row (.pr .b (.pr .b .b)))), (9, .var Y_impl_Row .b), (15, .val S_string .b), (16, .bad .str), (17, .val .str .b), (18, .val (.int .i64) .b), (19, .val .bool .b), (22, .val S_string .b), (23, .bad .str), (24, .val .str .b), (25, .val (.int .u8) .b), (26, .val .bool .b), (29, .val .str .b), (30, .val .str .b), (31, .val S_string .b), (32, .bad .str), (33, .val .str .b), (34, .val .str .b), (35, .val .bool .b)]⟩]
noncomputable def sh_I_takeHalf_2 : List Sh := mkSh 72 [(0, .val S_string .b), (1, .val .str .b), (2, .val (.int .i64) .b), (8, .val S_impl_Row (.row (.pr .b (.pr .b .b))))]
noncomputable def o_I_takeHalf_2 : List Out := [⟨.exit 0, ⟨[], [0, 8], []⟩, mkSh 72 [(0, .val S_string .b), (8, .val S_impl_Row (.row (.pr .b (.pr .b .b))))]⟩]
noncomputable def b_I_takeHalf_2 (t0 : PV S_string) (t1 : PV .str) (t2 : PV (.int .i64)) (t8 : PV S_impl_Row) : Option ((PV S_string × PV .str × PV (.int .i64) × PV S_impl_Row × Unit) ⊕ ((PV S_string × PV S_impl_Row × Unit))) :=
  bif (decide ((t0.length : Int) > 0)) then
    bif inB 0 t0.length then
      bif (decide (((t0.getD ((0 : Int).toNat) []).length : Int) > 1)) then
        bif inB 0 t0.length then
          bif inB 1 (t0.getD ((0 : Int).toNat) []).length then
            bif ((((t0.getD ((0 : Int).toNat) []).getD (1 : Int).toNat 0).toNat : Int) == 32) then
              bif decide ([32, 33].length + t1.length ≤ 1099511627776) then
                bif inB 0 t0.length then
                  bif cutB 0 1 (t0.getD ((0 : Int).toNat) []).length then
                    (f_strings_Contains ([32, 33] ++ t1) (cutL 0 1 (t0.getD ((0 : Int).toNat) []))).bind fun r10 =>
                      bif r10.1.1 then
                        bif inB 0 t0.length then
                          bif cutB 2 ((t0.getD ((0 : Int).toNat) []).length : Int) (t0.getD ((0 : Int).toNat) []).length then
                            ((
                                bif inB 0 t0.length then
                                  bif inB 0 (t0.getD ((0 : Int).toNat) []).length then
                                    bif ((((t0.getD ((0 : Int).toNat) []).getD (0 : Int).toNat 0).toNat : Int) == 32) then
                                      some (t0, t1, t2, t8, (1, ((cutL 2 ((t0.getD ((0 : Int).toNat) []).length : Int) (t0.getD ((0 : Int).toNat) [])), ())), t0, (t0.getD ((0 : Int).toNat) []), (t0.getD ((0 : Int).toNat) []), ((t0.getD ((0 : Int).toNat) []).length : Int), (decide (((t0.getD ((0 : Int).toNat) []).length : Int) > 1)), t0, (t0.getD ((0 : Int).toNat) []), (t0.getD ((0 : Int).toNat) []), (((t0.getD ((0 : Int).toNat) []).getD (1 : Int).toNat 0).toNat : Int), ((((t0.getD ((0 : Int).toNat) []).getD (1 : Int).toNat 0).toNat : Int) == 32), t1, ([32, 33] ++ t1), t0, (t0.getD ((0 : Int).toNat) []), (t0.getD ((0 : Int).toNat) []), (cutL 0 1 (t0.getD ((0 : Int).toNat) [])), r10.1.1, ())
                                    else
                                      some (t0, t1, t2, t8, (t2, ((cutL 2 ((t0.getD ((0 : Int).toNat) []).length : Int) (t0.getD ((0 : Int).toNat) [])), ())), t0, (t0.getD ((0 : Int).toNat) []), (t0.getD ((0 : Int).toNat) []), ((t0.getD ((0 : Int).toNat) []).length : Int), (decide (((t0.getD ((0 : Int).toNat) []).length : Int) > 1)), t0, (t0.getD ((0 : Int).toNat) []), (t0.getD ((0 : Int).toNat) []), (((t0.getD ((0 : Int).toNat) []).getD (1 : Int).toNat 0).toNat : Int), ((((t0.getD ((0 : Int).toNat) []).getD (1 : Int).toNat 0).toNat : Int) == 32), t1, ([32, 33] ++ t1), t0, (t0.getD ((0 : Int).toNat) []), (t0.getD ((0 : Int).toNat) []), (cutL 0 1 (t0.getD ((0 : Int).toNat) [])), r10.1.1, ())
                                  else
                                    none
                                else
                                  none : Option ((PV S_string × PV .str × PV (.int .i64) × PV S_impl_Row × PV Y_impl_Row × PV S_string × PV .str × PV .str × PV (.int .i64) × PV .bool × PV S_string × PV .str × PV .str × PV (.int .u8) × PV .bool × PV .str × PV .str × PV S_string × PV .str × PV .str × PV .str × PV .bool × Unit)))).bind fun j11 =>
                              bif cutB 1 (j11.1.length : Int) j11.1.length then
                                ((
                                    ((
                                        bif (decide (((cutL 1 (j11.1.length : Int) j11.1).length : Int) > 0)) then
                                          bif inB 0 (cutL 1 (j11.1.length : Int) j11.1).length then
                                            some ((cutL 1 (j11.1.length : Int) j11.1), j11.2.1, j11.2.2.1, j11.2.2.2.1, j11.2.2.2.2.1, j11.2.2.2.2.2.1, j11.2.2.2.2.2.2.1, j11.2.2.2.2.2.2.2.1, j11.2.2.2.2.2.2.2.2.1, j11.2.2.2.2.2.2.2.2.2.1, j11.2.2.2.2.2.2.2.2.2.2.1, j11.2.2.2.2.2.2.2.2.2.2.2.1, j11.2.2.2.2.2.2.2.2.2.2.2.2.1, j11.2.2.2.2.2.2.2.2.2.2.2.2.2.1, j11.2.2.2.2.2.2.2.2.2.2.2.2.2.2.1, j11.2.2.2.2.2.2.2.2.2.2.2.2.2.2.2.1, j11.2.2.2.2.2.2.2.2.2.2.2.2.2.2.2.2.1, j11.2.2.2.2.2.2.2.2.2.2.2.2.2.2.2.2.2.1, j11.2.2.2.2.2.2.2.2.2.2.2.2.2.2.2.2.2.2.1, j11.2.2.2.2.2.2.2.2.2.2.2.2.2.2.2.2.2.2.2.1, j11.2.2.2.2.2.2.2.2.2.2.2.2.2.2.2.2.2.2.2.2.1, j11.2.2.2.2.2.2.2.2.2.2.2.2.2.2.2.2.2.2.2.2.2.1, (((cutL 1 (j11.1.length : Int) j11.1).getD ((0 : Int).toNat) []) == [92, 32, 110, 111, 110, 101, 10]), ())
                                          else
                                            none
                                        else
                                          some ((cutL 1 (j11.1.length : Int) j11.1), j11.2.1, j11.2.2.1, j11.2.2.2.1, j11.2.2.2.2.1, j11.2.2.2.2.2.1, j11.2.2.2.2.2.2.1, j11.2.2.2.2.2.2.2.1, j11.2.2.2.2.2.2.2.2.1, j11.2.2.2.2.2.2.2.2.2.1, j11.2.2.2.2.2.2.2.2.2.2.1, j11.2.2.2.2.2.2.2.2.2.2.2.1, j11.2.2.2.2.2.2.2.2.2.2.2.2.1, j11.2.2.2.2.2.2.2.2.2.2.2.2.2.1, j11.2.2.2.2.2.2.2.2.2.2.2.2.2.2.1, j11.2.2.2.2.2.2.2.2.2.2.2.2.2.2.2.1, j11.2.2.2.2.2.2.2.2.2.2.2.2.2.2.2.2.1, j11.2.2.2.2.2.2.2.2.2.2.2.2.2.2.2.2.2.1, j11.2.2.2.2.2.2.2.2.2.2.2.2.2.2.2.2.2.2.1, j11.2.2.2.2.2.2.2.2.2.2.2.2.2.2.2.2.2.2.2.1, j11.2.2.2.2.2.2.2.2.2.2.2.2.2.2.2.2.2.2.2.2.1, j11.2.2.2.2.2.2.2.2.2.2.2.2.2.2.2.2.2.2.2.2.2.1, false, ()) : Option ((PV S_string × PV .str × PV (.int .i64) × PV S_impl_Row × PV Y_impl_Row × PV S_string × PV .str × PV .str × PV (.int .i64) × PV .bool × PV S_string × PV .str × PV .str × PV (.int .u8) × PV .bool × PV .str × PV .str × PV S_string × PV .str × PV .str × PV .str × PV .bool × PV .bool × Unit)))).bind fun j12 =>
                                      bif j12.2.2.2.2.2.2.2.2.2.2.2.2.2.2.2.2.2.2.2.2.2.2.1 then
                                        (f_I_plain j12.2.2.2.2.1.2.1).bind fun r13 =>
                                          bif cutB 1 (j12.1.length : Int) j12.1.length then
                                            some ((cutL 1 (j12.1.length : Int) j12.1), j12.2.1, j12.2.2.1, j12.2.2.2.1, (j12.2.2.2.2.1.1, (r13.1.1, j12.2.2.2.2.1.2.2)), j12.2.2.2.2.2.1, j12.2.2.2.2.2.2.1, j12.2.2.2.2.2.2.2.1, j12.2.2.2.2.2.2.2.2.1, j12.2.2.2.2.2.2.2.2.2.1, j12.2.2.2.2.2.2.2.2.2.2.1, j12.2.2.2.2.2.2.2.2.2.2.2.1, j12.2.2.2.2.2.2.2.2.2.2.2.2.1, j12.2.2.2.2.2.2.2.2.2.2.2.2.2.1, j12.2.2.2.2.2.2.2.2.2.2.2.2.2.2.1, j12.2.2.2.2.2.2.2.2.2.2.2.2.2.2.2.1, j12.2.2.2.2.2.2.2.2.2.2.2.2.2.2.2.2.1, j12.2.2.2.2.2.2.2.2.2.2.2.2.2.2.2.2.2.1, j12.2.2.2.2.2.2.2.2.2.2.2.2.2.2.2.2.2.2.1, j12.2.2.2.2.2.2.2.2.2.2.2.2.2.2.2.2.2.2.2.1, j12.2.2.2.2.2.2.2.2.2.2.2.2.2.2.2.2.2.2.2.2.1, j12.2.2.2.2.2.2.2.2.2.2.2.2.2.2.2.2.2.2.2.2.2.1, ())
                                          else
                                            none
                                      else
                                        some (j12.1, j12.2.1, j12.2.2.1, j12.2.2.2.1, j12.2.2.2.2.1, j12.2.2.2.2.2.1, j12.2.2.2.2.2.2.1, j12.2.2.2.2.2.2.2.1, j12.2.2.2.2.2.2.2.2.1, j12.2.2.2.2.2.2.2.2.2.1, j12.2.2.2.2.2.2.2.2.2.2.1, j12.2.2.2.2.2.2.2.2.2.2.2.1, j12.2.2.2.2.2.2.2.2.2.2.2.2.1, j12.2.2.2.2.2.2.2.2.2.2.2.2.2.1, j12.2.2.2.2.2.2.2.2.2.2.2.2.2.2.1, j12.2.2.2.2.2.2.2.2.2.2.2.2.2.2.2.1, j12.2.2.2.2.2.2.2.2.2.2.2.2.2.2.2.2.1, j12.2.2.2.2.2.2.2.2.2.2.2.2.2.2.2.2.2.1, j12.2.2.2.2.2.2.2.2.2.2.2.2.2.2.2.2.2.2.1, j12.2.2.2.2.2.2.2.2.2.2.2.2.2.2.2.2.2.2.2.1, j12.2.2.2.2.2.2.2.2.2.2.2.2.2.2.2.2.2.2.2.2.1, j12.2.2.2.2.2.2.2.2.2.2.2.2.2.2.2.2.2.2.2.2.2.1, ()) : Option ((PV S_string × PV .str × PV (.int .i64) × PV S_impl_Row × PV Y_impl_Row × PV S_string × PV .str × PV .str × PV (.int .i64) × PV .bool × PV S_string × PV .str × PV .str × PV (.int .u8) × PV .bool × PV .str × PV .str × PV S_string × PV .str × PV .str × PV .str × PV .bool × Unit)))).bind fun j14 =>
                                  bif roomB (j14.2.2.2.1.length + [j14.2.2.2.2.1].length) then
                                    some (.inl (j14.1, j14.2.1, j14.2.2.1, (j14.2.2.2.1 ++ [j14.2.2.2.2.1]), ()))
                                  else
                                    none
                              else
                                none
                          else
                            none
                        else
                          none
                      else
                        some (.inr (t0, t8, ()))
                  else
                    none
                else
                  none
              else
                none
            else
              some (.inr (t0, t8, ()))
          else
            none
        else
          none
      else
        some (.inr (t0, t8, ()))
    else
      none
  else
    some (.inr (t0, t8, ()))
noncomputable def w_I_takeHalf_2 : PV S_string × PV .str × PV (.int .i64) × PV S_impl_Row × Unit → Option ((PV S_string × PV S_impl_Row × Unit)) := fix fun d => b_I_takeHalf_2 d.1 d.2.1 d.2.2.1 d.2.2.2.1
noncomputable def lp_I_takeHalf_2 : Lp := ⟨⟨[], [0, 1, 2, 8, 55, 56, 57, 58], []⟩, sh_I_takeHalf_2, o_I_takeHalf_2, fun d => b_I_takeHalf_2 d.1 d.2.1 d.2.2.1 d.2.2.2.1⟩
noncomputable def pl_I_takeHalf : Plan := ⟨[(6, o_I_takeHalf_6), (8, o_I_takeHalf_8), (9, o_I_takeHalf_9)], [(2, lp_I_takeHalf_2)], 0, 0⟩
noncomputable def f_I_takeHalf (t0 : PV S_string) (t1 : PV .str) (t2 : PV (.int .i64)) : Option (PVs [S_impl_Row, S_string] × PVs []) :=
  (w_I_takeHalf_2 (t0, t1, t2, ([] : PV S_impl_Row), ())).bind fun l16 =>
    some ((l16.2.1, l16.1, ()), ())
noncomputable def ct_I_takeHalf : Ct := ⟨[(.bor, S_string), (.bor, .str), (.bor, (.int .i64))], [(S_impl_Row, (.row (.pr .b (.pr .b .b)))), (S_string, .b)], fun x => f_I_takeHalf x.1 x.2.1 x.2.2.1⟩
noncomputable def cx_I_takeHalf : Cx := ⟨tab, arrs, [(144, ct_strings_Contains), (145, ct_I_plain)], [], gl, []⟩
theorem eb_I_takeHalf_2 (t0 : PV S_string) (t1 : PV .str) (t2 : PV (.int .i64)) (t8 : PV S_impl_Row) : denK cx_I_takeHalf (rcN cx_I_takeHalf 0) pl_I_takeHalf 0 ((loopsOf (bodyOf Tryz.f97)).getD 0 .skip) (fillS sh_I_takeHalf_2 (t0, t1, t2, t8, ())) (roundK 0 lp_I_takeHalf_2) = b_I_takeHalf_2 t0 t1 t2 t8 := by kernel_rfl
theorem ef_I_takeHalf (t0 : PV S_string) (t1 : PV .str) (t2 : PV (.int .i64)) : denF cx_I_takeHalf 0 pl_I_takeHalf Tryz.f97.ntmps (bodyOf Tryz.f97) Tryz.f97.results.toList [(.bor, S_string), (.bor, .str), (.bor, (.int .i64))] [(S_impl_Row, (.row (.pr .b (.pr .b .b)))), (S_string, .b)] (t0, t1, t2, ()) = f_I_takeHalf t0 t1 t2 := by kernel_rfl
theorem ok_I_takeHalf : FnOk gl Tryz.prog 97 ct_I_takeHalf :=
  fnOk (cx := cx_I_takeHalf) (pl := pl_I_takeHalf) (dp := 0) (ok0_of tabOk (by unfold ArrOk; kernel_rfl) mix ⟨ok_strings_Contains, ok_I_plain, trivial⟩ trivial) Tryz.func97 (by kernel_rfl) (by kernel_rfl) (by kernel_rfl)
    (by rw [show loopsOf (bodyOf Tryz.f97) = [((loopsOf (bodyOf Tryz.f97)).getD 0 .skip)] from by kernel_rfl]; exact ⟨(by rw [show lookup pl_I_takeHalf.loops (firstId ((loopsOf (bodyOf Tryz.f97)).getD 0 .skip)) = some lp_I_takeHalf_2 from by kernel_rfl]; exact fun d z h => (eb_I_takeHalf_2 d.1 d.2.1 d.2.2.1 d.2.2.2.1).trans h), trivial⟩) (fun x => ef_I_takeHalf x.1 x.2.1 x.2.2.1)
noncomputable def o_I_merged_5 : List Out := [⟨.normal, ⟨[], [0, 1, 5, 13, 37, 38, 39, 40, 41, 56, 57, 58], []⟩, mkSh 71 [(0, .val S_impl_Row .b), (1, .val S_impl_Row .b), (5, .val S_impl_Row (.row (.pr .b (.pr .b .b)))), (13, .val .bool .b)]⟩]
noncomputable def o_I_merged_7 : List Out := [⟨.normal, ⟨[], [0, 1, 5, 18, 19, 20, 21, 22, 32, 56, 57, 58], []⟩, mkSh 71 [(0, .val S_impl_Row .b), (1, .val S_impl_Row .b), (5, .val S_impl_Row (.row (.pr .b (.pr .b .b)))), (32, .val .bool .b)]⟩]
noncomputable def o_I_merged_9 : List Out := [⟨.normal, ⟨[], [0, 1, 5, 18, 19, 20, 21, 22, 37, 38, 39, 40, 41, 51], []⟩, mkSh 71 [(0, .val S_impl_Row .b), (1, .val S_impl_Row .b), (5, .val S_impl_Row (.row (.pr .b (.pr .b .b)))), (51, .val .bool .b)]⟩]
noncomputable def sh_I_merged_2 : List Sh := mkSh 71 [(0, .val S_impl_Row .b), (1, .val S_impl_Row .b), (5, .val S_impl_Row (.row (.pr .b (.pr .b .b))))]
noncomputable def o_I_merged_2 : List Out := [⟨.exit 0, ⟨[], [5], []⟩, mkSh 71 [(5, .val S_impl_Row (.row (.pr .b (.pr .b .b))))]⟩, ⟨.ret, ⟨[], [4], []⟩, mkSh 71 [(4, .val S_impl_Row (.row (.pr .b (.pr .b .b))))]⟩]
noncomputable def b_I_merged_2 (t0 : PV S_impl_Row) (t1 : PV S_impl_Row) (t5 : PV S_impl_Row) : Option ((PV S_impl_Row × PV S_impl_Row × PV S_impl_Row × Unit) ⊕ ((PV S_impl_Row × Unit) ⊕ (PV S_impl_Row × Unit))) :=
  bif (decide ((IntKind.wrap .i64 ((t0.length : Int) + (t1.length : Int))) > 0)) then
    ((
        bif (decide ((t0.length : Int) > 0)) then
          bif inB 0 t0.length then
            some (t0, t1, t5, (!(((t0.getD ((0 : Int).toNat) (dflt Y_impl_Row)).1) == 1)), ())
          else
            none
        else
          some (t0, t1, t5, false, ()) : Option ((PV S_impl_Row × PV S_impl_Row × PV S_impl_Row × PV .bool × Unit)))).bind fun j1 =>
      bif j1.2.2.2.1 then
        bif inB 0 j1.1.length then
          bif roomB (j1.2.2.1.length + [(j1.1.getD ((0 : Int).toNat) (dflt Y_impl_Row))].length) then
            bif cutB 1 (j1.1.length : Int) j1.1.length then
              some (.inl ((cutL 1 (j1.1.length : Int) j1.1), j1.2.1, (j1.2.2.1 ++ [(j1.1.getD ((0 : Int).toNat) (dflt Y_impl_Row))]), ()))
            else
              none
          else
            none
        else
          none
      else
        ((
            bif (decide ((j1.2.1.length : Int) > 0)) then
              bif inB 0 j1.2.1.length then
                some (j1.1, j1.2.1, j1.2.2.1, (!(((j1.2.1.getD ((0 : Int).toNat) (dflt Y_impl_Row)).1) == 1)), ())
              else
                none
            else
              some (j1.1, j1.2.1, j1.2.2.1, false, ()) : Option ((PV S_impl_Row × PV S_impl_Row × PV S_impl_Row × PV .bool × Unit)))).bind fun j2 =>
          bif j2.2.2.2.1 then
            bif inB 0 j2.2.1.length then
              bif roomB (j2.2.2.1.length + [(j2.2.1.getD ((0 : Int).toNat) (dflt Y_impl_Row))].length) then
                bif cutB 1 (j2.2.1.length : Int) j2.2.1.length then
                  some (.inl (j2.1, (cutL 1 (j2.2.1.length : Int) j2.2.1), (j2.2.2.1 ++ [(j2.2.1.getD ((0 : Int).toNat) (dflt Y_impl_Row))]), ()))
                else
                  none
              else
                none
            else
              none
          else
            ((
                bif (decide ((j2.1.length : Int) > 0)) then
                  some (j2.1, j2.2.1, j2.2.2.1, (decide ((j2.2.1.length : Int) > 0)), ())
                else
                  some (j2.1, j2.2.1, j2.2.2.1, false, ()) : Option ((PV S_impl_Row × PV S_impl_Row × PV S_impl_Row × PV .bool × Unit)))).bind fun j3 =>
              bif j3.2.2.2.1 then
                bif inB 0 j3.1.length then
                  bif roomB (j3.2.2.1.length + [(j3.1.getD ((0 : Int).toNat) (dflt Y_impl_Row))].length) then
                    bif cutB 1 (j3.1.length : Int) j3.1.length then
                      bif cutB 1 (j3.2.1.length : Int) j3.2.1.length then
                        some (.inl ((cutL 1 (j3.1.length : Int) j3.1), (cutL 1 (j3.2.1.length : Int) j3.2.1), (j3.2.2.1 ++ [(j3.1.getD ((0 : Int).toNat) (dflt Y_impl_Row))]), ()))
                      else
                        none
                    else
                      none
                  else
                    none
                else
                  none
              else
                some (.inr (.inr ([], ())))
  else
    some (.inr (.inl (t5, ())))
noncomputable def w_I_merged_2 : PV S_impl_Row × PV S_impl_Row × PV S_impl_Row × Unit → Option ((PV S_impl_Row × Unit) ⊕ (PV S_impl_Row × Unit)) := fix fun d => b_I_merged_2 d.1 d.2.1 d.2.2.1
noncomputable def lp_I_merged_2 : Lp := ⟨⟨[], [0, 1, 5, 18, 19, 20, 21, 22, 37, 38, 39, 40, 41, 56, 57, 58], []⟩, sh_I_merged_2, o_I_merged_2, fun d => b_I_merged_2 d.1 d.2.1 d.2.2.1⟩
noncomputable def pl_I_merged : Plan := ⟨[(5, o_I_merged_5), (7, o_I_merged_7), (9, o_I_merged_9)], [(2, lp_I_merged_2)], 0, 0⟩
noncomputable def f_I_merged (t0 : PV S_impl_Row) (t1 : PV S_impl_Row) : Option (PVs [S_impl_Row] × PVs []) :=
  (w_I_merged_2 (t0, t1, ([] : PV S_impl_Row), ())).bind fun x8 =>
    match x8 with
    | .inl l6 =>
      some ((l6.1, ()), ())
    | .inr l7 =>
      some ((l7.1, ()), ())
noncomputable def ct_I_merged : Ct := ⟨[(.bor, S_impl_Row), (.bor, S_impl_Row)], [(S_impl_Row, (.row (.pr .b (.pr .b .b))))], fun x => f_I_merged x.1 x.2.1⟩
noncomputable def cx_I_merged : Cx := ⟨tab, arrs, [], [], gl, []⟩
theorem eb_I_merged_2 (t0 : PV S_impl_Row) (t1 : PV S_impl_Row) (t5 : PV S_impl_Row) : denK cx_I_merged (rcN cx_I_merged 0) pl_I_merged 0 ((loopsOf (bodyOf Tryz.f99)).getD 0 .skip) (fillS sh_I_merged_2 (t0, t1, t5, ())) (roundK 0 lp_I_merged_2) = b_I_merged_2 t0 t1 t5 := by kernel_rfl
theorem ef_I_merged (t0 : PV S_impl_Row) (t1 : PV S_impl_Row) : denF cx_I_merged 0 pl_I_merged Tryz.f99.ntmps (bodyOf Tryz.f99) Tryz.f99.results.toList [(.bor, S_impl_Row), (.bor, S_impl_Row)] [(S_impl_Row, (.row (.pr .b (.pr .b .b))))] (t0, t1, ()) = f_I_merged t0 t1 := by kernel_rfl
theorem ok_I_merged : FnOk gl Tryz.prog 99 ct_I_merged :=
  fnOk (cx := cx_I_merged) (pl := pl_I_merged) (dp := 0) (ok0_of tabOk (by unfold ArrOk; kernel_rfl) mix trivial trivial) Tryz.func99 (by kernel_rfl) (by kernel_rfl) (by kernel_rfl)
    (by rw [show loopsOf (bodyOf Tryz.f99) = [((loopsOf (bodyOf Tryz.f99)).getD 0 .skip)] from by kernel_rfl]; exact ⟨(by rw [show lookup pl_I_merged.loops (firstId ((loopsOf (bodyOf Tryz.f99)).getD 0 .skip)) = some lp_I_merged_2 from by kernel_rfl]; exact fun d z h => (eb_I_merged_2 d.1 d.2.1 d.2.2.1).trans h), trivial⟩) (fun x => ef_I_merged x.1 x.2.1)
noncomputable def o_I_readSides_4 : List Out := [⟨.normal, ⟨[], [0, 4, 24], []⟩, mkSh 90 [(0, .val S_string .b), (4, .val S_impl_Group (.row (.pr .b (.pr .b (.pr (.row (.pr .b (.pr .b .b))) .b))))), (24, .val .bool .b)]⟩]
noncomputable def o_I_readSides_17 : List Out := [⟨.normal, ⟨[], [4, 5, 6, 8, 9, 10, 21, 22, 23], []⟩, mkSh 90 [(4, .val S_impl_Group (.row (.pr .b (.pr .b (.pr (.row (.pr .b (.pr .b .b))) .b))))), (5, .val (.int .i64) .b), (6, .val S_string .b), (8, .val S_impl_Row (.row (.pr .b (.pr .b .b)))), (9, .val (.int .i64) .b), (10, .val S_impl_Row (.row (.pr .b (.pr .b .b))))]⟩]
noncomputable def o_I_readSides_20 : List Out := [⟨.normal, ⟨[], [4, 6, 10, 11, 21, 22, 23], []⟩, mkSh 90 [(4, .val S_impl_Group (.row (.pr .b (.pr .b (.pr (.row (.pr .b (.pr .b .b))) .b))))), (6, .val S_string .b), (10, .val S_impl_Row (.row (.pr .b (.pr .b .b)))), (11, .var Y_impl_Group (.pr .b (.pr .b (.pr (.row (.pr .b (.pr .b .b))) .b))))]⟩]
noncomputable def o_I_readSides_22 : List Out := [⟨.normal, ⟨[], [4, 6, 11, 21, 22, 23], []⟩, mkSh 90 [(4, .val S_impl_Group (.row (.pr .b (.pr .b (.pr (.row (.pr .b (.pr .b .b))) .b))))), (6, .val S_string .b), (11, .var Y_impl_Group (.pr .b (.pr .b (.pr (.row (.pr .b (.pr .b .b))) .b))))]⟩]
noncomputable def sh_I_readSides_2 : List Sh := mkSh 90 [(0, .val S_string .b), (4, .val S_impl_Group (.row (.pr .b (.pr .b (.pr (.row (.pr .b (.pr .b .b))) .b)))))]
noncomputable def o_I_readSides_2 : List Out := [⟨.exit 0, ⟨[], [4], []⟩, mkSh 90 [(4, .val S_impl_Group (.row (.pr .b (.pr .b (.pr (.row (.pr .b (.pr .b .b))) .b)))))]⟩, ⟨.ret, ⟨[], [2, 3], []⟩, mkSh 90 [(2, .val S_impl_Group (.row (.pr .b (.pr .b (.pr (.row (.pr .b (.pr .b .b))) .b))))), (3, .val .bool .b)]⟩]
noncomputable def b_I_readSides_2 (t0 : PV S_string) (t4 : PV S_impl_Group) : Option ((PV S_string × PV S_impl_Group × Unit) ⊕ ((PV S_impl_Group × Unit) ⊕ (PV S_impl_Group × PV .bool × Unit))) :=
  bif (decide ((t0.length : Int) > 0)) then
    ((
        bif inB 0 t0.length then
          bif (!((t0.getD ((0 : Int).toNat) []) == [42, 42, 42, 42, 42, 42, 42, 42, 42, 42, 42, 42, 42, 42, 42, 10])) then
            some (t0, t4, true, ())
          else
            some (t0, t4, ((t4.length : Int) == 20), ())
        else
          none : Option ((PV S_string × PV S_impl_Group × PV .bool × Unit)))).bind fun j2 =>
      bif j2.2.2.1 then
        some (.inr (.inr ([], false, ())))
      else
        bif cutB 1 (j2.1.length : Int) j2.1.length then
          (f_I_readHead (cutL 1 (j2.1.length : Int) j2.1) [42, 42, 42, 32] [32, 42, 42, 42, 42, 10]).bind fun r4 =>
            bif (!r4.1.2.2.1) then
              some (.inr (.inr ([], false, ())))
            else
              (f_I_takeHalf r4.1.2.1 [45] 2).bind fun r6 =>
                (f_I_readHead r6.1.2.1 [45, 45, 45, 32] [32, 45, 45, 45, 45, 10]).bind fun r8 =>
                  bif (!r8.1.2.2.1) then
                    some (.inr (.inr ([], false, ())))
                  else
                    (f_I_takeHalf r8.1.2.1 [43] 3).bind fun r10 =>
                      ((
                          bif ((r6.1.1.length : Int) == 0) then
                            (f_I_keeps r10.1.1).bind fun r11 =>
                              some (j2.2.1, r4.1.1, r10.1.2.1, r11.1.1, r8.1.1, r10.1.1, ())
                          else
                            bif ((r10.1.1.length : Int) == 0) then
                              (f_I_keeps r6.1.1).bind fun r12 =>
                                some (j2.2.1, r4.1.1, r10.1.2.1, r6.1.1, r8.1.1, r12.1.1, ())
                            else
                              some (j2.2.1, r4.1.1, r10.1.2.1, r6.1.1, r8.1.1, r10.1.1, ()) : Option ((PV S_impl_Group × PV (.int .i64) × PV S_string × PV S_impl_Row × PV (.int .i64) × PV S_impl_Row × Unit)))).bind fun j13 =>
                        (f_I_merged j13.2.2.2.1 j13.2.2.2.2.2.1).bind fun r15 =>
                          ((
                              bif (decide ((j13.2.2.2.1.length : Int) > 0)) then
                                some (j13.1, j13.2.2.1, j13.2.2.2.2.2.1, ((IntKind.wrap .i64 (j13.2.1 - 1)), (j13.2.2.2.2.1, (r15.1.1, ()))), ())
                              else
                                some (j13.1, j13.2.2.1, j13.2.2.2.2.2.1, (j13.2.1, (j13.2.2.2.2.1, (r15.1.1, ()))), ()) : Option ((PV S_impl_Group × PV S_string × PV S_impl_Row × PV Y_impl_Group × Unit)))).bind fun j16 =>
                            ((
                                bif (decide ((j16.2.2.1.length : Int) > 0)) then
                                  some (j16.1, j16.2.1, (j16.2.2.2.1.1, ((IntKind.wrap .i64 (j16.2.2.2.1.2.1 - 1)), j16.2.2.2.1.2.2)), ())
                                else
                                  some (j16.1, j16.2.1, j16.2.2.2.1, ()) : Option ((PV S_impl_Group × PV S_string × PV Y_impl_Group × Unit)))).bind fun j17 =>
                              bif roomB (j17.1.length + [j17.2.2.1].length) then
                                some (.inl (j17.2.1, (j17.1 ++ [j17.2.2.1]), ()))
                              else
                                none
        else
          none
  else
    some (.inr (.inl (t4, ())))
noncomputable def w_I_readSides_2 : PV S_string × PV S_impl_Group × Unit → Option ((PV S_impl_Group × Unit) ⊕ (PV S_impl_Group × PV .bool × Unit)) := fix fun d => b_I_readSides_2 d.1 d.2.1
noncomputable def lp_I_readSides_2 : Lp := ⟨⟨[], [0, 4, 21, 22, 23], []⟩, sh_I_readSides_2, o_I_readSides_2, fun d => b_I_readSides_2 d.1 d.2.1⟩
noncomputable def pl_I_readSides : Plan := ⟨[(4, o_I_readSides_4), (17, o_I_readSides_17), (20, o_I_readSides_20), (22, o_I_readSides_22)], [(2, lp_I_readSides_2)], 0, 0⟩
noncomputable def f_I_readSides (t0 : PV S_string) : Option (PVs [S_impl_Group, .bool] × PVs []) :=
  (w_I_readSides_2 (t0, ([] : PV S_impl_Group), ())).bind fun x22 =>
    match x22 with
    | .inl l20 =>
      some ((l20.1, true, ()), ())
    | .inr l21 =>
      some ((l21.1, l21.2.1, ()), ())
noncomputable def ct_I_readSides : Ct := ⟨[(.bor, S_string)], [(S_impl_Group, (.row (.pr .b (.pr .b (.pr (.row (.pr .b (.pr .b .b))) .b))))), (.bool, .b)], fun x => f_I_readSides x.1⟩
noncomputable def cx_I_readSides : Cx := ⟨tab, arrs, [(96, ct_I_readHead), (97, ct_I_takeHalf), (98, ct_I_keeps), (99, ct_I_merged)], [], gl, []⟩
theorem eb_I_readSides_2 (t0 : PV S_string) (t4 : PV S_impl_Group) : denK cx_I_readSides (rcN cx_I_readSides 0) pl_I_readSides 0 ((loopsOf (bodyOf Tryz.f44)).getD 0 .skip) (fillS sh_I_readSides_2 (t0, t4, ())) (roundK 0 lp_I_readSides_2) = b_I_readSides_2 t0 t4 := by kernel_rfl
theorem ef_I_readSides (t0 : PV S_string) : denF cx_I_readSides 0 pl_I_readSides Tryz.f44.ntmps (bodyOf Tryz.f44) Tryz.f44.results.toList [(.bor, S_string)] [(S_impl_Group, (.row (.pr .b (.pr .b (.pr (.row (.pr .b (.pr .b .b))) .b))))), (.bool, .b)] (t0, ()) = f_I_readSides t0 := by kernel_rfl
theorem ok_I_readSides : FnOk gl Tryz.prog 44 ct_I_readSides :=
  fnOk (cx := cx_I_readSides) (pl := pl_I_readSides) (dp := 0) (ok0_of tabOk (by unfold ArrOk; kernel_rfl) mix ⟨ok_I_readHead, ok_I_takeHalf, ok_I_keeps, ok_I_merged, trivial⟩ trivial) Tryz.func44 (by kernel_rfl) (by kernel_rfl) (by kernel_rfl)
    (by rw [show loopsOf (bodyOf Tryz.f44) = [((loopsOf (bodyOf Tryz.f44)).getD 0 .skip)] from by kernel_rfl]; exact ⟨(by rw [show lookup pl_I_readSides.loops (firstId ((loopsOf (bodyOf Tryz.f44)).getD 0 .skip)) = some lp_I_readSides_2 from by kernel_rfl]; exact fun d z h => (eb_I_readSides_2 d.1 d.2.1).trans h), trivial⟩) (fun x => ef_I_readSides x.1)
noncomputable def pl_I_in : Plan := ⟨[], [], 0, 0⟩
noncomputable def f_I_in (t0 : PV (.int .i64)) (t1 : PV (.int .i64)) (t2 : PV (.int .i64)) : Option (PVs [.bool] × PVs []) :=
  bif (decide (t0 ≥ t1)) then
    some (((decide (t0 ≤ t2)), ()), ())
  else
    some ((false, ()), ())
noncomputable def ct_I_in : Ct := ⟨[(.bor, (.int .i64)), (.bor, (.int .i64)), (.bor, (.int .i64))], [(.bool, .b)], fun x => f_I_in x.1 x.2.1 x.2.2.1⟩
noncomputable def cx_I_in : Cx := ⟨tab, arrs, [], [], gl, []⟩
theorem ef_I_in (t0 : PV (.int .i64)) (t1 : PV (.int .i64)) (t2 : PV (.int .i64)) : denF cx_I_in 0 pl_I_in Tryz.f111.ntmps (bodyOf Tryz.f111) Tryz.f111.results.toList [(.bor, (.int .i64)), (.bor, (.int .i64)), (.bor, (.int .i64))] [(.bool, .b)] (t0, t1, t2, ()) = f_I_in t0 t1 t2 := by kernel_rfl
theorem ok_I_in : FnOk gl Tryz.prog 111 ct_I_in :=
  fnOk (cx := cx_I_in) (pl := pl_I_in) (dp := 0) (ok0_of tabOk (by unfold ArrOk; kernel_rfl) mix trivial trivial) Tryz.func111 (by kernel_rfl) (by kernel_rfl) (by kernel_rfl)
    (by rw [show loopsOf (bodyOf Tryz.f111) = [] from by kernel_rfl]; exact trivial) (fun x => ef_I_in x.1 x.2.1 x.2.2.1)
noncomputable def pl_I_isLine : Plan := ⟨[], [], 0, 0⟩
noncomputable def f_I_isLine (t0 : PV .str) : Option (PVs [.bool] × PVs []) :=
  (f_I_in (t0.length : Int) 1 30).bind fun r1 =>
    bif r1.1.1 then
      bif cutB 0 (IntKind.wrap .i64 ((t0.length : Int) - 1)) t0.length then
        (f_strings_Contains (cutL 0 (IntKind.wrap .i64 ((t0.length : Int) - 1)) t0) [10]).bind fun r2 =>
          some (((!r2.1.1), ()), ())
      else
        none
    else
      some ((false, ()), ())
noncomputable def ct_I_isLine : Ct := ⟨[(.bor, .str)], [(.bool, .b)], fun x => f_I_isLine x.1⟩
noncomputable def cx_I_isLine : Cx := ⟨tab, arrs, [(111, ct_I_in), (144, ct_strings_Contains)], [], gl, []⟩
theorem ef_I_isLine (t0 : PV .str) : denF cx_I_isLine 0 pl_I_isLine Tryz.f112.ntmps (bodyOf Tryz.f112) Tryz.f112.results.toList [(.bor, .str)] [(.bool, .b)] (t0, ()) = f_I_isLine t0 := by kernel_rfl
theorem ok_I_isLine : FnOk gl Tryz.prog 112 ct_I_isLine :=
  fnOk (cx := cx_I_isLine) (pl := pl_I_isLine) (dp := 0) (ok0_of tabOk (by unfold ArrOk; kernel_rfl) mix ⟨ok_I_in, ok_strings_Contains, trivial⟩ trivial) Tryz.func112 (by kernel_rfl) (by kernel_rfl) (by kernel_rfl)
    (by rw [show loopsOf (bodyOf Tryz.f112) = [] from by kernel_rfl]; exact trivial) (fun x => ef_I_isLine x.1)
noncomputable def o_I_sideOf_7 : List Out := [⟨.normal, ⟨[], [1, 5, 9, 10, 11], []⟩, mkSh 26 [(1, .val (.int .i64) .b), (5, .val S_string (.row .b)), (9, .val S_impl_Row .b), (10, .val (.int .i64) .b), (11, .val (.int .i64) .b)]⟩]
noncomputable def sh_I_sideOf_3 : List Sh := mkSh 26 [(1, .val (.int .i64) .b), (5, .val S_string (.row .b)), (9, .val S_impl_Row .b), (10, .val (.int .i64) .b), (11, .val (.int .i64) .b)]
noncomputable def o_I_sideOf_3 : List Out := [⟨.exit 0, ⟨[], [5], []⟩, mkSh 26 [(5, .val S_string (.row .b))]⟩]
noncomputable def b_I_sideOf_3 (t1 : PV (.int .i64)) (t5 : PV S_string) (t9 : PV S_impl_Row) (t10 : PV (.int .i64)) (t11 : PV (.int .i64)) : Option ((PV (.int .i64) × PV S_string × PV S_impl_Row × PV (.int .i64) × PV (.int .i64) × Unit) ⊕ ((PV S_string × Unit))) :=
  bif (decide (t11 < t10)) then
    ((
        bif inB t11 t9.length then
          bif (!(((t9.getD t11.toNat (dflt Y_impl_Row)).1) == t1)) then
            bif roomB (t5.length + [((t9.getD t11.toNat (dflt Y_impl_Row)).2).1].length) then
              some (t1, (t5 ++ [((t9.getD t11.toNat (dflt Y_impl_Row)).2).1]), t9, t10, t11, ())
            else
              none
          else
            some (t1, t5, t9, t10, t11, ())
        else
          none : Option ((PV (.int .i64) × PV S_string × PV S_impl_Row × PV (.int .i64) × PV (.int .i64) × Unit)))).bind fun j1 =>
      some (.inl (j1.1, j1.2.1, j1.2.2.1, j1.2.2.2.1, (IntKind.wrap .i64 (j1.2.2.2.2.1 + 1)), ()))
  else
    some (.inr (t5, ()))
noncomputable def w_I_sideOf_3 : PV (.int .i64) × PV S_string × PV S_impl_Row × PV (.int .i64) × PV (.int .i64) × Unit → Option ((PV S_string × Unit)) := fix fun d => b_I_sideOf_3 d.1 d.2.1 d.2.2.1 d.2.2.2.1 d.2.2.2.2.1
noncomputable def lp_I_sideOf_3 : Lp := ⟨⟨[], [1, 5, 9, 10, 11], []⟩, sh_I_sideOf_3, o_I_sideOf_3, fun d => b_I_sideOf_3 d.1 d.2.1 d.2.2.1 d.2.2.2.1 d.2.2.2.2.1⟩
noncomputable def pl_I_sideOf : Plan := ⟨[(7, o_I_sideOf_7)], [(3, lp_I_sideOf_3)], 0, 0⟩
noncomputable def f_I_sideOf (t0 : PV S_impl_Row) (t1 : PV (.int .i64)) : Option (PVs [S_string] × PVs []) :=
  (w_I_sideOf_3 (t1, ([] : PV S_string), t0, (t0.length : Int), 0, ())).bind fun l3 =>
    some ((l3.1, ()), ())
noncomputable def ct_I_sideOf : Ct := ⟨[(.bor, S_impl_Row), (.bor, (.int .i64))], [(S_string, (.row .b))], fun x => f_I_sideOf x.1 x.2.1⟩
noncomputable def cx_I_sideOf : Cx := ⟨tab, arrs, [], [], gl, []⟩
theorem eb_I_sideOf_3 (t1 : PV (.int .i64)) (t5 : PV S_string) (t9 : PV S_impl_Row) (t10 : PV (.int .i64)) (t11 : PV (.int .i64)) : denK cx_I_sideOf (rcN cx_I_sideOf 0) pl_I_sideOf 0 ((loopsOf (bodyOf Tryz.f151)).getD 0 .skip) (fillS sh_I_sideOf_3 (t1, t5, t9, t10, t11, ())) (roundK 0 lp_I_sideOf_3) = b_I_sideOf_3 t1 t5 t9 t10 t11 := by kernel_rfl
theorem ef_I_sideOf (t0 : PV S_impl_Row) (t1 : PV (.int .i64)) : denF cx_I_sideOf 0 pl_I_sideOf Tryz.f151.ntmps (bodyOf Tryz.f151) Tryz.f151.results.toList [(.bor, S_impl_Row), (.bor, (.int .i64))] [(S_string, (.row .b))] (t0, t1, ()) = f_I_sideOf t0 t1 := by kernel_rfl
theorem ok_I_sideOf : FnOk gl Tryz.prog 151 ct_I_sideOf :=
  fnOk (cx := cx_I_sideOf) (pl := pl_I_sideOf) (dp := 0) (ok0_of tabOk (by unfold ArrOk; kernel_rfl) mix trivial trivial) Tryz.func151 (by kernel_rfl) (by kernel_rfl) (by kernel_rfl)
    (by rw [show loopsOf (bodyOf Tryz.f151) = [((loopsOf (bodyOf Tryz.f151)).getD 0 .skip)] from by kernel_rfl]; exact ⟨(by rw [show lookup pl_I_sideOf.loops (firstId ((loopsOf (bodyOf Tryz.f151)).getD 0 .skip)) = some lp_I_sideOf_3 from by kernel_rfl]; exact fun d z h => (eb_I_sideOf_3 d.1 d.2.1 d.2.2.1 d.2.2.2.1 d.2.2.2.2.1).trans h), trivial⟩) (fun x => ef_I_sideOf x.1 x.2.1)
noncomputable def pl_I_Group_old : Plan := ⟨[], [], 0, 0⟩
noncomputable def f_I_Group_old (t0 : PV Y_impl_Group) : Option (PVs [S_string] × PVs []) :=
  (f_I_sideOf t0.2.2.1 3).bind fun r1 =>
    some ((r1.1.1, ()), ())
noncomputable def ct_I_Group_old : Ct := ⟨[(.bor, Y_impl_Group)], [(S_string, (.row .b))], fun x => f_I_Group_old x.1⟩
noncomputable def cx_I_Group_old : Cx := ⟨tab, arrs, [(151, ct_I_sideOf)], [], gl, []⟩
theorem ef_I_Group_old (t0 : PV Y_impl_Group) : denF cx_I_Group_old 0 pl_I_Group_old Tryz.f103.ntmps (bodyOf Tryz.f103) Tryz.f103.results.toList [(.bor, Y_impl_Group)] [(S_string, (.row .b))] (t0, ()) = f_I_Group_old t0 := by kernel_rfl
theorem ok_I_Group_old : FnOk gl Tryz.prog 103 ct_I_Group_old :=
  fnOk (cx := cx_I_Group_old) (pl := pl_I_Group_old) (dp := 0) (ok0_of tabOk (by unfold ArrOk; kernel_rfl) mix ⟨ok_I_sideOf, trivial⟩ trivial) Tryz.func103 (by kernel_rfl) (by kernel_rfl) (by kernel_rfl)
    (by rw [show loopsOf (bodyOf Tryz.f103) = [] from by kernel_rfl]; exact trivial) (fun x => ef_I_Group_old x.1)
noncomputable def pl_I_Group_fresh : Plan := ⟨[], [], 0, 0⟩
noncomputable def f_I_Group_fresh (t0 : PV Y_impl_Group) : Option (PVs [S_string] × PVs []) :=
  (f_I_sideOf t0.2.2.1 2).bind fun r1 =>
    some ((r1.1.1, ()), ())
noncomputable def ct_I_Group_fresh : Ct := ⟨[(.bor, Y_impl_Group)], [(S_string, (.row .b))], fun x => f_I_Group_fresh x.1⟩
noncomputable def cx_I_Group_fresh : Cx := ⟨tab, arrs, [(151, ct_I_sideOf)], [], gl, []⟩
theorem ef_I_Group_fresh (t0 : PV Y_impl_Group) : denF cx_I_Group_fresh 0 pl_I_Group_fresh Tryz.f104.ntmps (bodyOf Tryz.f104) Tryz.f104.results.toList [(.bor, Y_impl_Group)] [(S_string, (.row .b))] (t0, ()) = f_I_Group_fresh t0 := by kernel_rfl
theorem ok_I_Group_fresh : FnOk gl Tryz.prog 104 ct_I_Group_fresh :=
  fnOk (cx := cx_I_Group_fresh) (pl := pl_I_Group_fresh) (dp := 0) (ok0_of tabOk (by unfold ArrOk; kernel_rfl) mix ⟨ok_I_sideOf, trivial⟩ trivial) Tryz.func104 (by kernel_rfl) (by kernel_rfl) (by kernel_rfl)
    (by rw [show loopsOf (bodyOf Tryz.f104) = [] from by kernel_rfl]; exact trivial) (fun x => ef_I_Group_fresh x.1)
noncomputable def pl_I_areLines_1 : Plan := ⟨[], [], 0, 0⟩
noncomputable def f_I_areLines_1 (t0 : PV .str) : Option (PVs [.bool] × PVs []) :=
  (f_I_isLine t0).bind fun r1 =>
    some (((!r1.1.1), ()), ())
noncomputable def ct_I_areLines_1 : Ct := ⟨[(.bor, .str)], [(.bool, .b)], fun x => f_I_areLines_1 x.1⟩
noncomputable def cx_I_areLines_1 : Cx := ⟨tab, arrs, [(112, ct_I_isLine)], [], gl, []⟩
theorem ef_I_areLines_1 (t0 : PV .str) : denF cx_I_areLines_1 0 pl_I_areLines_1 Tryz.f178.ntmps (bodyOf Tryz.f178) Tryz.f178.results.toList [(.bor, .str)] [(.bool, .b)] (t0, ()) = f_I_areLines_1 t0 := by kernel_rfl
theorem ok_I_areLines_1 : FnOk gl Tryz.prog 178 ct_I_areLines_1 :=
  fnOk (cx := cx_I_areLines_1) (pl := pl_I_areLines_1) (dp := 0) (ok0_of tabOk (by unfold ArrOk; kernel_rfl) mix ⟨ok_I_isLine, trivial⟩ trivial) Tryz.func178 (by kernel_rfl) (by kernel_rfl) (by kernel_rfl)
    (by rw [show loopsOf (bodyOf Tryz.f178) = [] from by kernel_rfl]; exact trivial) (fun x => ef_I_areLines_1 x.1)
noncomputable def pl_I_areLines_177 : Plan := ⟨[], [], 1, 11⟩
noncomputable def sh_I_areLines_193_2 : List Sh := mkSh 39 [(0, .val S_string .b), (2, .val .bool .b), (3, .val S_string .b), (4, .val (.int .i64) .b), (5, .val .bool .b), (6, .val .bool .b), (7, .val S_string .b), (11, .val S_string .b), (12, .fn 178 []), (15, .val .bool .b), (16, .val S_string .b), (17, .fn 178 []), (20, .val S_string .b), (21, .fn 178 []), (27, .val (.int .i64) .b), (28, .val (.int .i64) .b)]
noncomputable def o_I_areLines_193_2 : List Out := [⟨.exit 0, ⟨[], [], []⟩, mkSh 39 [(0, .val S_string .b), (2, .val .bool .b), (3, .val S_string .b), (4, .val (.int .i64) .b), (5, .val .bool .b), (6, .val .bool .b), (7, .val S_string .b), (11, .val S_string .b), (12, .fn 178 []), (15, .val .bool .b), (16, .val S_string .b), (17, .fn 178 [])]⟩, ⟨.ret, ⟨[], [4], []⟩, mkSh 39 [(0, .val S_string .b), (2, .val .bool .b), (3, .val S_string .b), (4, .val (.int .i64) .b), (5, .val .bool .b), (6, .val .bool .b), (7, .val S_string .b), (11, .val S_string .b), (12, .fn 178 []), (15, .val .bool .b), (16, .val S_string .b), (17, .fn 178 []), (24, .val (.int .i64) .b)]⟩]
noncomputable def b_I_areLines_193_2 (t0 : PV S_string) (t2 : PV .bool) (t3 : PV S_string) (t4 : PV (.int .i64)) (t5 : PV .bool) (t6 : PV .bool) (t7 : PV S_string) (t11 : PV S_string) (t15 : PV .bool) (t16 : PV S_string) (t20 : PV S_string) (t27 : PV (.int .i64)) (t28 : PV (.int .i64)) : Option ((PV S_string × PV .bool × PV S_string × PV (.int .i64) × PV .bool × PV .bool × PV S_string × PV S_string × PV .bool × PV S_string × PV S_string × PV (.int .i64) × PV (.int .i64) × Unit) ⊕ ((PV S_string × PV .bool × PV S_string × PV (.int .i64) × PV .bool × PV .bool × PV S_string × PV S_string × PV .bool × PV S_string × Unit) ⊕ (PV S_string × PV .bool × PV S_string × PV (.int .i64) × PV .bool × PV .bool × PV S_string × PV S_string × PV .bool × PV S_string × PV (.int .i64) × Unit))) :=
  bif (decide (t28 < t27)) then
    bif inB t28 t20.length then
      (f_I_areLines_1 (t20.getD t28.toNat [])).bind fun r4 =>
        bif r4.1.1 then
          some (.inr (.inr (t0, t2, t3, t4, t5, t6, t7, t11, t15, t16, t28, ())))
        else
          some (.inl (t0, t2, t3, t4, t5, t6, t7, t11, t15, t16, t20, t27, (IntKind.wrap .i64 (t28 + 1)), ()))
    else
      none
  else
    some (.inr (.inl (t0, t2, t3, t4, t5, t6, t7, t11, t15, t16, ())))
noncomputable def w_I_areLines_193_2 : PV S_string × PV .bool × PV S_string × PV (.int .i64) × PV .bool × PV .bool × PV S_string × PV S_string × PV .bool × PV S_string × PV S_string × PV (.int .i64) × PV (.int .i64) × Unit → Option ((PV S_string × PV .bool × PV S_string × PV (.int .i64) × PV .bool × PV .bool × PV S_string × PV S_string × PV .bool × PV S_string × Unit) ⊕ (PV S_string × PV .bool × PV S_string × PV (.int .i64) × PV .bool × PV .bool × PV S_string × PV S_string × PV .bool × PV S_string × PV (.int .i64) × Unit)) := fix fun d => b_I_areLines_193_2 d.1 d.2.1 d.2.2.1 d.2.2.2.1 d.2.2.2.2.1 d.2.2.2.2.2.1 d.2.2.2.2.2.2.1 d.2.2.2.2.2.2.2.1 d.2.2.2.2.2.2.2.2.1 d.2.2.2.2.2.2.2.2.2.1 d.2.2.2.2.2.2.2.2.2.2.1 d.2.2.2.2.2.2.2.2.2.2.2.1 d.2.2.2.2.2.2.2.2.2.2.2.2.1
noncomputable def lp_I_areLines_193_2 : Lp := ⟨⟨[], [0, 1, 7, 8], []⟩, sh_I_areLines_193_2, o_I_areLines_193_2, fun d => b_I_areLines_193_2 d.1 d.2.1 d.2.2.1 d.2.2.2.1 d.2.2.2.2.1 d.2.2.2.2.2.1 d.2.2.2.2.2.2.1 d.2.2.2.2.2.2.2.1 d.2.2.2.2.2.2.2.2.1 d.2.2.2.2.2.2.2.2.2.1 d.2.2.2.2.2.2.2.2.2.2.1 d.2.2.2.2.2.2.2.2.2.2.2.1 d.2.2.2.2.2.2.2.2.2.2.2.2.1⟩
noncomputable def pl_I_areLines_193 : Plan := ⟨[], [(2, lp_I_areLines_193_2)], 0, 20⟩
noncomputable def pl_I_areLines : Plan := ⟨[], [], 2, 0⟩
noncomputable def f_I_areLines (t0 : PV S_string) : Option (PVs [.bool] × PVs []) :=
  bif (decide ((t0.length : Int) ≤ 40)) then
    (w_I_areLines_193_2 (t0, false, t0, (t0.length : Int), (decide ((t0.length : Int) ≤ 40)), true, t0, t0, false, t0, t0, (t0.length : Int), 0, ())).bind fun x9 =>
      match x9 with
      | .inl l7 =>
        bif l7.2.2.2.2.2.1 then
          some (((!(decide ((-1) ≥ 0))), ()), ())
        else
          some ((false, ()), ())
      | .inr l8 =>
        bif l8.2.2.2.2.2.1 then
          some (((!(decide (l8.2.2.2.2.2.2.2.2.2.2.1 ≥ 0))), ()), ())
        else
          some ((false, ()), ())
  else
    some ((false, ()), ())
noncomputable def ct_I_areLines : Ct := ⟨[(.bor, S_string)], [(.bool, .b)], fun x => f_I_areLines x.1⟩
noncomputable def cx_I_areLines : Cx := ⟨tab, arrs, [(178, ct_I_areLines_1)], [(177, Tryz.f177, pl_I_areLines_177), (193, Tryz.f193, pl_I_areLines_193)], gl, []⟩
theorem eb_I_areLines_193_2 (t0 : PV S_string) (t2 : PV .bool) (t3 : PV S_string) (t4 : PV (.int .i64)) (t5 : PV .bool) (t6 : PV .bool) (t7 : PV S_string) (t11 : PV S_string) (t15 : PV .bool) (t16 : PV S_string) (t20 : PV S_string) (t27 : PV (.int .i64)) (t28 : PV (.int .i64)) : denK cx_I_areLines (rcN cx_I_areLines 0) pl_I_areLines_193 20 ((loopsOf (bodyOf Tryz.f193)).getD 0 .skip) (fillS sh_I_areLines_193_2 (t0, t2, t3, t4, t5, t6, t7, t11, t15, t16, t20, t27, t28, ())) (roundK 20 lp_I_areLines_193_2) = b_I_areLines_193_2 t0 t2 t3 t4 t5 t6 t7 t11 t15 t16 t20 t27 t28 := by kernel_rfl
theorem ef_I_areLines (t0 : PV S_string) : denF cx_I_areLines 2 pl_I_areLines Tryz.f156.ntmps (bodyOf Tryz.f156) Tryz.f156.results.toList [(.bor, S_string)] [(.bool, .b)] (t0, ()) = f_I_areLines t0 := by kernel_rfl
theorem ok_I_areLines : FnOk gl Tryz.prog 156 ct_I_areLines :=
  fnOk (cx := cx_I_areLines) (pl := pl_I_areLines) (dp := 2) (ok0_of tabOk (by unfold ArrOk; kernel_rfl) mix ⟨ok_I_areLines_1, trivial⟩ ⟨⟨Tryz.func177, by kernel_rfl, (by rw [show loopsOf (bodyOf Tryz.f177) = [] from by kernel_rfl]; exact trivial)⟩, ⟨Tryz.func193, by kernel_rfl, (by rw [show loopsOf (bodyOf Tryz.f193) = [((loopsOf (bodyOf Tryz.f193)).getD 0 .skip)] from by kernel_rfl]; exact ⟨(by rw [show lookup pl_I_areLines_193.loops (firstId ((loopsOf (bodyOf Tryz.f193)).getD 0 .skip)) = some lp_I_areLines_193_2 from by kernel_rfl]; exact fun d z h => (eb_I_areLines_193_2 d.1 d.2.1 d.2.2.1 d.2.2.2.1 d.2.2.2.2.1 d.2.2.2.2.2.1 d.2.2.2.2.2.2.1 d.2.2.2.2.2.2.2.1 d.2.2.2.2.2.2.2.2.1 d.2.2.2.2.2.2.2.2.2.1 d.2.2.2.2.2.2.2.2.2.2.1 d.2.2.2.2.2.2.2.2.2.2.2.1 d.2.2.2.2.2.2.2.2.2.2.2.2.1).trans h), trivial⟩)⟩, trivial⟩) Tryz.func156 (by kernel_rfl) (by kernel_rfl) (by kernel_rfl)
    (by rw [show loopsOf (bodyOf Tryz.f156) = [] from by kernel_rfl]; exact trivial) (fun x => ef_I_areLines x.1)
noncomputable def pl_strings_HasSuffix : Plan := ⟨[], [], 0, 0⟩
noncomputable def f_strings_HasSuffix (t0 : PV .str) (t1 : PV .str) : Option (PVs [.bool] × PVs []) :=
  (f_internal_stringslite_HasSuffix t0 t1).bind fun r1 =>
    some ((r1.1.1, ()), ())
noncomputable def ct_strings_HasSuffix : Ct := ⟨[(.bor, .str), (.bor, .str)], [(.bool, .b)], fun x => f_strings_HasSuffix x.1 x.2.1⟩
noncomputable def cx_strings_HasSuffix : Cx := ⟨tab, arrs, [(186, ct_internal_stringslite_HasSuffix)], [], gl, []⟩
theorem ef_strings_HasSuffix (t0 : PV .str) (t1 : PV .str) : denF cx_strings_HasSuffix 0 pl_strings_HasSuffix Tryz.f179.ntmps (bodyOf Tryz.f179) Tryz.f179.results.toList [(.bor, .str), (.bor, .str)] [(.bool, .b)] (t0, t1, ()) = f_strings_HasSuffix t0 t1 := by kernel_rfl
theorem ok_strings_HasSuffix : FnOk gl Tryz.prog 179 ct_strings_HasSuffix :=
  fnOk (cx := cx_strings_HasSuffix) (pl := pl_strings_HasSuffix) (dp := 0) (ok0_of tabOk (by unfold ArrOk; kernel_rfl) mix ⟨ok_internal_stringslite_HasSuffix, trivial⟩ trivial) Tryz.func179 (by kernel_rfl) (by kernel_rfl) (by kernel_rfl)
    (by rw [show loopsOf (bodyOf Tryz.f179) = [] from by kernel_rfl]; exact trivial) (fun x => ef_strings_HasSuffix x.1 x.2.1)
noncomputable def pl_I_isEnded : Plan := ⟨[], [], 0, 0⟩
noncomputable def f_I_isEnded (t0 : PV .str) : Option (PVs [.bool] × PVs []) :=
  (f_strings_HasSuffix t0 [10]).bind fun r1 =>
    some ((r1.1.1, ()), ())
noncomputable def ct_I_isEnded : Ct := ⟨[(.bor, .str)], [(.bool, .b)], fun x => f_I_isEnded x.1⟩
noncomputable def cx_I_isEnded : Cx := ⟨tab, arrs, [(179, ct_strings_HasSuffix)], [], gl, []⟩
theorem ef_I_isEnded (t0 : PV .str) : denF cx_I_isEnded 0 pl_I_isEnded Tryz.f157.ntmps (bodyOf Tryz.f157) Tryz.f157.results.toList [(.bor, .str)] [(.bool, .b)] (t0, ()) = f_I_isEnded t0 := by kernel_rfl
theorem ok_I_isEnded : FnOk gl Tryz.prog 157 ct_I_isEnded :=
  fnOk (cx := cx_I_isEnded) (pl := pl_I_isEnded) (dp := 0) (ok0_of tabOk (by unfold ArrOk; kernel_rfl) mix ⟨ok_strings_HasSuffix, trivial⟩ trivial) Tryz.func157 (by kernel_rfl) (by kernel_rfl) (by kernel_rfl)
    (by rw [show loopsOf (bodyOf Tryz.f157) = [] from by kernel_rfl]; exact trivial) (fun x => ef_I_isEnded x.1)
noncomputable def o_I_goodLines_7 : List Out := [⟨.normal, ⟨[], [0, 8, 9, 10, 24], []⟩, mkSh 26 [(0, .val S_string .b), (8, .val S_string .b), (9, .val (.int .i64) .b), (10, .val (.int .i64) .b), (24, .val .bool .b)]⟩]
noncomputable def sh_I_goodLines_4 : List Sh := mkSh 26 [(0, .val S_string .b), (8, .val S_string .b), (9, .val (.int .i64) .b), (10, .val (.int .i64) .b)]
noncomputable def o_I_goodLines_4 : List Out := [⟨.exit 0, ⟨[], [], []⟩, mkSh 26 []⟩, ⟨.ret, ⟨[], [2], []⟩, mkSh 26 [(2, .val .bool .b)]⟩]
noncomputable def b_I_goodLines_4 (t0 : PV S_string) (t8 : PV S_string) (t9 : PV (.int .i64)) (t10 : PV (.int .i64)) : Option ((PV S_string × PV S_string × PV (.int .i64) × PV (.int .i64) × Unit) ⊕ ((Unit) ⊕ (PV .bool × Unit))) :=
  bif (decide (t10 < t9)) then
    bif inB t10 t8.length then
      ((
          bif (decide (t10 < (IntKind.wrap .i64 ((t0.length : Int) - 1)))) then
            (f_I_isEnded (t8.getD t10.toNat [])).bind fun r7 =>
              some (t0, t8, t9, t10, (!r7.1.1), ())
          else
            some (t0, t8, t9, t10, false, ()) : Option ((PV S_string × PV S_string × PV (.int .i64) × PV (.int .i64) × PV .bool × Unit)))).bind fun j8 =>
        bif j8.2.2.2.2.1 then
          some (.inr (.inr (false, ())))
        else
          some (.inl (j8.1, j8.2.1, j8.2.2.1, (IntKind.wrap .i64 (j8.2.2.2.1 + 1)), ()))
    else
      none
  else
    some (.inr (.inl ()))
noncomputable def w_I_goodLines_4 : PV S_string × PV S_string × PV (.int .i64) × PV (.int .i64) × Unit → Option ((Unit) ⊕ (PV .bool × Unit)) := fix fun d => b_I_goodLines_4 d.1 d.2.1 d.2.2.1 d.2.2.2.1
noncomputable def lp_I_goodLines_4 : Lp := ⟨⟨[], [0, 8, 9, 10, 21, 22, 23], []⟩, sh_I_goodLines_4, o_I_goodLines_4, fun d => b_I_goodLines_4 d.1 d.2.1 d.2.2.1 d.2.2.2.1⟩
noncomputable def pl_I_goodLines : Plan := ⟨[(7, o_I_goodLines_7)], [(4, lp_I_goodLines_4)], 0, 0⟩
noncomputable def f_I_goodLines (t0 : PV S_string) : Option (PVs [.bool] × PVs []) :=
  (f_I_areLines t0).bind fun r4 =>
    bif (!r4.1.1) then
      some ((false, ()), ())
    else
      (w_I_goodLines_4 (t0, t0, (t0.length : Int), 0, ())).bind fun x13 =>
        match x13 with
        | .inl l11 =>
          some ((true, ()), ())
        | .inr l12 =>
          some ((l12.1, ()), ())
noncomputable def ct_I_goodLines : Ct := ⟨[(.bor, S_string)], [(.bool, .b)], fun x => f_I_goodLines x.1⟩
noncomputable def cx_I_goodLines : Cx := ⟨tab, arrs, [(156, ct_I_areLines), (157, ct_I_isEnded)], [], gl, []⟩
theorem eb_I_goodLines_4 (t0 : PV S_string) (t8 : PV S_string) (t9 : PV (.int .i64)) (t10 : PV (.int .i64)) : denK cx_I_goodLines (rcN cx_I_goodLines 0) pl_I_goodLines 0 ((loopsOf (bodyOf Tryz.f113)).getD 0 .skip) (fillS sh_I_goodLines_4 (t0, t8, t9, t10, ())) (roundK 0 lp_I_goodLines_4) = b_I_goodLines_4 t0 t8 t9 t10 := by kernel_rfl
theorem ef_I_goodLines (t0 : PV S_string) : denF cx_I_goodLines 0 pl_I_goodLines Tryz.f113.ntmps (bodyOf Tryz.f113) Tryz.f113.results.toList [(.bor, S_string)] [(.bool, .b)] (t0, ()) = f_I_goodLines t0 := by kernel_rfl
theorem ok_I_goodLines : FnOk gl Tryz.prog 113 ct_I_goodLines :=
  fnOk (cx := cx_I_goodLines) (pl := pl_I_goodLines) (dp := 0) (ok0_of tabOk (by unfold ArrOk; kernel_rfl) mix ⟨ok_I_areLines, ok_I_isEnded, trivial⟩ trivial) Tryz.func113 (by kernel_rfl) (by kernel_rfl) (by kernel_rfl)
    (by rw [show loopsOf (bodyOf Tryz.f113) = [((loopsOf (bodyOf Tryz.f113)).getD 0 .skip)] from by kernel_rfl]; exact ⟨(by rw [show lookup pl_I_goodLines.loops (firstId ((loopsOf (bodyOf Tryz.f113)).getD 0 .skip)) = some lp_I_goodLines_4 from by kernel_rfl]; exact fun d z h => (eb_I_goodLines_4 d.1 d.2.1 d.2.2.1 d.2.2.2.1).trans h), trivial⟩) (fun x => ef_I_goodLines x.1)
noncomputable def o_I_goodGroup_2 : List Out := [⟨.normal, ⟨[], [1, 24, 38, 39, 40, 41, 44, 45, 46, 47, 48, 49, 50, 51, 52, 53, 54, 55, 56, 57, 58, 59, 60, 64, 65, 66, 75, 76, 79, 80, 83, 84, 85, 86, 87, 88, 91, 92, 93, 94, 95, 96], []⟩, mkSh 98 [(1, .var Y_impl_Group .b), (24, .val .bool .b)]⟩]
noncomputable def o_I_goodGroup_8 : List Out := [⟨.normal, ⟨[], [1, 3, 5, 26, 27, 28, 61, 64, 65, 66, 75, 76, 79, 80, 83, 84, 85, 86, 87, 88, 91, 92, 93, 94, 95, 96], []⟩, mkSh 98 [(1, .var Y_impl_Group .b), (3, .val .bool .b), (5, .var Y_impl_Row .b), (26, .val S_impl_Row .b), (27, .val (.int .i64) .b), (28, .val (.int .i64) .b), (61, .val .bool .b)]⟩]
noncomputable def o_I_goodGroup_10 : List Out := [⟨.normal, ⟨[], [1, 3, 5, 26, 27, 28, 38, 39, 40, 41, 44, 45, 46, 47, 48, 49, 50, 51, 52, 53, 54, 55, 56, 57, 58, 59, 60, 75, 76, 79, 80, 83, 84, 85, 86, 87, 88, 91, 92, 93, 94, 95, 96], []⟩, mkSh 98 [(1, .var Y_impl_Group .b), (3, .val .bool .b), (5, .var Y_impl_Row .b), (26, .val S_impl_Row .b), (27, .val (.int .i64) .b), (28, .val (.int .i64) .b)]⟩, ⟨.ret, ⟨[], [2], []⟩, mkSh 98 [(2, .val .bool .b)]⟩]
noncomputable def sh_I_goodGroup_5 : List Sh := mkSh 98 [(1, .var Y_impl_Group .b), (3, .val .bool .b), (26, .val S_impl_Row .b), (27, .val (.int .i64) .b), (28, .val (.int .i64) .b)]
noncomputable def o_I_goodGroup_5 : List Out := [⟨.exit 0, ⟨[], [1, 3, 75, 76, 79, 80, 83, 84, 85, 86, 87, 88, 91, 92, 93, 94, 95, 96], []⟩, mkSh 98 [(1, .var Y_impl_Group .b), (3, .val .bool .b)]⟩, ⟨.ret, ⟨[], [2], []⟩, mkSh 98 [(2, .val .bool .b)]⟩]
noncomputable def b_I_goodGroup_5 (t1 : PV Y_impl_Group) (t3 : PV .bool) (t26 : PV S_impl_Row) (t27 : PV (.int .i64)) (t28 : PV (.int .i64)) : Option ((PV Y_impl_Group × PV .bool × PV S_impl_Row × PV (.int .i64) × PV (.int .i64) × Unit) ⊕ ((PV Y_impl_Group × PV .bool × Unit) ⊕ (PV .bool × Unit))) :=
  bif (decide (t28 < t27)) then
    ((
        bif inB t28 t26.length then
          ((
              (f_I_in ((t26.getD t28.toNat (dflt Y_impl_Row)).1) 1 3).bind fun r15 =>
                bif (!r15.1.1) then
                  some (t1, t3, (t26.getD t28.toNat (dflt Y_impl_Row)), t26, t27, t28, true, ())
                else
                  (f_I_isLine (((t26.getD t28.toNat (dflt Y_impl_Row)).2).1)).bind fun r16 =>
                    bif (!r16.1.1) then
                      some (t1, t3, (t26.getD t28.toNat (dflt Y_impl_Row)), t26, t27, t28, true, ())
                    else
                      bif (decide (t28 > 0)) then
                        bif (((t26.getD t28.toNat (dflt Y_impl_Row)).1) == 2) then
                          bif inB (IntKind.wrap .i64 (t28 - 1)) t1.2.2.1.length then
                            some (t1, t3, (t26.getD t28.toNat (dflt Y_impl_Row)), t26, t27, t28, (((t1.2.2.1.getD ((IntKind.wrap .i64 (t28 - 1)).toNat) (dflt Y_impl_Row)).1) == 3), ())
                          else
                            none
                        else
                          some (t1, t3, (t26.getD t28.toNat (dflt Y_impl_Row)), t26, t27, t28, false, ())
                      else
                        some (t1, t3, (t26.getD t28.toNat (dflt Y_impl_Row)), t26, t27, t28, false, ()) : Option ((PV Y_impl_Group × PV .bool × PV Y_impl_Row × PV S_impl_Row × PV (.int .i64) × PV (.int .i64) × PV .bool × Unit)))).bind fun j17 =>
            bif j17.2.2.2.2.2.2.1 then
              some (.inr (false, ()))
            else
              bif j17.2.1 then
                some (.inl (j17.1, true, j17.2.2.1, j17.2.2.2.1, j17.2.2.2.2.1, j17.2.2.2.2.2.1, ()))
              else
                some (.inl (j17.1, (!(j17.2.2.1.1 == 1)), j17.2.2.1, j17.2.2.2.1, j17.2.2.2.2.1, j17.2.2.2.2.2.1, ()))
        else
          none : Option ((PV Y_impl_Group × PV .bool × PV Y_impl_Row × PV S_impl_Row × PV (.int .i64) × PV (.int .i64) × Unit) ⊕ (PV .bool × Unit)))).bind fun x30 =>
      match x30 with
      | .inl j18 =>
        some (.inl (j18.1, j18.2.1, j18.2.2.2.1, j18.2.2.2.2.1, (IntKind.wrap .i64 (j18.2.2.2.2.2.1 + 1)), ()))
      | .inr j19 =>
        some (.inr (.inr (j19.1, ())))
  else
    some (.inr (.inl (t1, t3, ())))
noncomputable def w_I_goodGroup_5 : PV Y_impl_Group × PV .bool × PV S_impl_Row × PV (.int .i64) × PV (.int .i64) × Unit → Option ((PV Y_impl_Group × PV .bool × Unit) ⊕ (PV .bool × Unit)) := fix fun d => b_I_goodGroup_5 d.1 d.2.1 d.2.2.1 d.2.2.2.1 d.2.2.2.2.1
noncomputable def lp_I_goodGroup_5 : Lp := ⟨⟨[], [1, 3, 26, 27, 28, 38, 39, 40, 41, 44, 45, 46, 47, 48, 49, 50, 51, 52, 53, 54, 55, 56, 57, 58, 59, 60, 64, 65, 66, 75, 76, 79, 80, 83, 84, 85, 86, 87, 88, 91, 92, 93, 94, 95, 96], []⟩, sh_I_goodGroup_5, o_I_goodGroup_5, fun d => b_I_goodGroup_5 d.1 d.2.1 d.2.2.1 d.2.2.2.1 d.2.2.2.2.1⟩
noncomputable def pl_I_goodGroup : Plan := ⟨[(2, o_I_goodGroup_2), (8, o_I_goodGroup_8), (10, o_I_goodGroup_10)], [(5, lp_I_goodGroup_5)], 0, 0⟩
noncomputable def f_I_goodGroup (t0 : PV Y_impl_Group) : Option (PVs [.bool] × PVs []) :=
  ((
      (f_I_in t0.1 0 999).bind fun r8 =>
        bif (!r8.1.1) then
          some (t0, true, ())
        else
          (f_I_in t0.2.1 0 999).bind fun r9 =>
            bif (!r9.1.1) then
              some (t0, true, ())
            else
              (f_I_in (t0.2.2.1.length : Int) 1 80).bind fun r10 =>
                some (t0, (!r10.1.1), ()) : Option ((PV Y_impl_Group × PV .bool × Unit)))).bind fun j11 =>
    bif j11.2.1 then
      some ((false, ()), ())
    else
      (w_I_goodGroup_5 (j11.1, false, j11.1.2.2.1, (j11.1.2.2.1.length : Int), 0, ())).bind fun x31 =>
        match x31 with
        | .inl l22 =>
          (f_I_Group_old l22.1).bind fun r25 =>
            (f_I_Group_fresh l22.1).bind fun r26 =>
              bif l22.2.1 then
                (f_I_goodLines r25.1.1).bind fun r27 =>
                  bif r27.1.1 then
                    (f_I_goodLines r26.1.1).bind fun r28 =>
                      bif r28.1.1 then
                        bif (decide ((IntKind.wrap .i64 (l22.1.1 + (r25.1.1.length : Int))) ≤ 1000)) then
                          some (((decide ((IntKind.wrap .i64 (l22.1.2.1 + (r26.1.1.length : Int))) ≤ 1000)), ()), ())
                        else
                          some ((false, ()), ())
                      else
                        some ((false, ()), ())
                  else
                    some ((false, ()), ())
              else
                some ((false, ()), ())
        | .inr l29 =>
          some ((l29.1, ()), ())
noncomputable def ct_I_goodGroup : Ct := ⟨[(.bor, Y_impl_Group)], [(.bool, .b)], fun x => f_I_goodGroup x.1⟩
noncomputable def cx_I_goodGroup : Cx := ⟨tab, arrs, [(103, ct_I_Group_old), (104, ct_I_Group_fresh), (111, ct_I_in), (112, ct_I_isLine), (113, ct_I_goodLines)], [], gl, []⟩
theorem eb_I_goodGroup_5 (t1 : PV Y_impl_Group) (t3 : PV .bool) (t26 : PV S_impl_Row) (t27 : PV (.int .i64)) (t28 : PV (.int .i64)) : denK cx_I_goodGroup (rcN cx_I_goodGroup 0) pl_I_goodGroup 0 ((loopsOf (bodyOf Tryz.f59)).getD 0 .skip) (fillS sh_I_goodGroup_5 (t1, t3, t26, t27, t28, ())) (roundK 0 lp_I_goodGroup_5) = b_I_goodGroup_5 t1 t3 t26 t27 t28 := by kernel_rfl
theorem ef_I_goodGroup (t0 : PV Y_impl_Group) : denF cx_I_goodGroup 0 pl_I_goodGroup Tryz.f59.ntmps (bodyOf Tryz.f59) Tryz.f59.results.toList [(.bor, Y_impl_Group)] [(.bool, .b)] (t0, ()) = f_I_goodGroup t0 := by kernel_rfl
theorem ok_I_goodGroup : FnOk gl Tryz.prog 59 ct_I_goodGroup :=
  fnOk (cx := cx_I_goodGroup) (pl := pl_I_goodGroup) (dp := 0) (ok0_of tabOk (by unfold ArrOk; kernel_rfl) mix ⟨ok_I_Group_old, ok_I_Group_fresh, ok_I_in, ok_I_isLine, ok_I_goodLines, trivial⟩ trivial) Tryz.func59 (by kernel_rfl) (by kernel_rfl) (by kernel_rfl)
    (by rw [show loopsOf (bodyOf Tryz.f59) = [((loopsOf (bodyOf Tryz.f59)).getD 0 .skip)] from by kernel_rfl]; exact ⟨(by rw [show lookup pl_I_goodGroup.loops (firstId ((loopsOf (bodyOf Tryz.f59)).getD 0 .skip)) = some lp_I_goodGroup_5 from by kernel_rfl]; exact fun d z h => (eb_I_goodGroup_5 d.1 d.2.1 d.2.2.1 d.2.2.2.1 d.2.2.2.2.1).trans h), trivial⟩) (fun x => ef_I_goodGroup x.1)
noncomputable def o_I_goodGroups_9 : List Out := [⟨.normal, ⟨[], [0, 4, 8, 9, 10, 57], []⟩, mkSh 59 [(0, .val S_impl_Group .b), (4, .var Y_impl_Group .b), (8, .val S_impl_Group .b), (9, .val (.int .i64) .b), (10, .val (.int .i64) .b), (57, .val .bool .b)]⟩]
noncomputable def sh_I_goodGroups_4 : List Sh := mkSh 59 [(0, .val S_impl_Group .b), (8, .val S_impl_Group .b), (9, .val (.int .i64) .b), (10, .val (.int .i64) .b)]
noncomputable def o_I_goodGroups_4 : List Out := [⟨.exit 0, ⟨[], [], []⟩, mkSh 59 []⟩, ⟨.ret, ⟨[], [2], []⟩, mkSh 59 [(2, .val .bool .b)]⟩]
noncomputable def b_I_goodGroups_4 (t0 : PV S_impl_Group) (t8 : PV S_impl_Group) (t9 : PV (.int .i64)) (t10 : PV (.int .i64)) : Option ((PV S_impl_Group × PV S_impl_Group × PV (.int .i64) × PV (.int .i64) × Unit) ⊕ ((Unit) ⊕ (PV .bool × Unit))) :=
  bif (decide (t10 < t9)) then
    bif inB t10 t8.length then
      (f_I_goodGroup (t8.getD t10.toNat (dflt Y_impl_Group))).bind fun r11 =>
        bif (!r11.1.1) then
          some (.inr (.inr (false, ())))
        else
          ((
              bif (decide (t10 > 0)) then
                bif inB (IntKind.wrap .i64 (t10 - 1)) t0.length then
                  bif inB (IntKind.wrap .i64 (t10 - 1)) t0.length then
                    (f_I_Group_old (t0.getD ((IntKind.wrap .i64 (t10 - 1)).toNat) (dflt Y_impl_Group))).bind fun r12 =>
                      bif (decide (((t8.getD t10.toNat (dflt Y_impl_Group)).1) < (IntKind.wrap .i64 (((t0.getD ((IntKind.wrap .i64 (t10 - 1)).toNat) (dflt Y_impl_Group)).1) + (r12.1.1.length : Int))))) then
                        some (t0, (t8.getD t10.toNat (dflt Y_impl_Group)), t8, t9, t10, true, ())
                      else
                        bif inB (IntKind.wrap .i64 (t10 - 1)) t0.length then
                          bif inB (IntKind.wrap .i64 (t10 - 1)) t0.length then
                            (f_I_Group_fresh (t0.getD ((IntKind.wrap .i64 (t10 - 1)).toNat) (dflt Y_impl_Group))).bind fun r13 =>
                              some (t0, (t8.getD t10.toNat (dflt Y_impl_Group)), t8, t9, t10, (decide ((((t8.getD t10.toNat (dflt Y_impl_Group)).2).1) < (IntKind.wrap .i64 ((((t0.getD ((IntKind.wrap .i64 (t10 - 1)).toNat) (dflt Y_impl_Group)).2).1) + (r13.1.1.length : Int))))), ())
                          else
                            none
                        else
                          none
                  else
                    none
                else
                  none
              else
                some (t0, (t8.getD t10.toNat (dflt Y_impl_Group)), t8, t9, t10, false, ()) : Option ((PV S_impl_Group × PV Y_impl_Group × PV S_impl_Group × PV (.int .i64) × PV (.int .i64) × PV .bool × Unit)))).bind fun j14 =>
            bif j14.2.2.2.2.2.1 then
              some (.inr (.inr (false, ())))
            else
              some (.inl (j14.1, j14.2.2.1, j14.2.2.2.1, (IntKind.wrap .i64 (j14.2.2.2.2.1 + 1)), ()))
    else
      none
  else
    some (.inr (.inl ()))
noncomputable def w_I_goodGroups_4 : PV S_impl_Group × PV S_impl_Group × PV (.int .i64) × PV (.int .i64) × Unit → Option ((Unit) ⊕ (PV .bool × Unit)) := fix fun d => b_I_goodGroups_4 d.1 d.2.1 d.2.2.1 d.2.2.2.1
noncomputable def lp_I_goodGroups_4 : Lp := ⟨⟨[], [0, 8, 9, 10, 21, 22, 23, 24, 25, 26, 27, 28, 29, 30, 31, 32, 33, 34, 35, 36, 37, 38, 39, 40, 41, 42, 43, 44, 45, 46, 47, 48, 49, 50, 51, 52, 53, 54, 55, 56], []⟩, sh_I_goodGroups_4, o_I_goodGroups_4, fun d => b_I_goodGroups_4 d.1 d.2.1 d.2.2.1 d.2.2.2.1⟩
noncomputable def pl_I_goodGroups : Plan := ⟨[(9, o_I_goodGroups_9)], [(4, lp_I_goodGroups_4)], 0, 0⟩
noncomputable def f_I_goodGroups (t0 : PV S_impl_Group) : Option (PVs [.bool] × PVs []) :=
  bif (decide ((t0.length : Int) > 20)) then
    some ((false, ()), ())
  else
    (w_I_goodGroups_4 (t0, t0, (t0.length : Int), 0, ())).bind fun x19 =>
      match x19 with
      | .inl l17 =>
        some ((true, ()), ())
      | .inr l18 =>
        some ((l18.1, ()), ())
noncomputable def ct_I_goodGroups : Ct := ⟨[(.bor, S_impl_Group)], [(.bool, .b)], fun x => f_I_goodGroups x.1⟩
noncomputable def cx_I_goodGroups : Cx := ⟨tab, arrs, [(59, ct_I_goodGroup), (103, ct_I_Group_old), (104, ct_I_Group_fresh)], [], gl, []⟩
theorem eb_I_goodGroups_4 (t0 : PV S_impl_Group) (t8 : PV S_impl_Group) (t9 : PV (.int .i64)) (t10 : PV (.int .i64)) : denK cx_I_goodGroups (rcN cx_I_goodGroups 0) pl_I_goodGroups 0 ((loopsOf (bodyOf Tryz.f50)).getD 0 .skip) (fillS sh_I_goodGroups_4 (t0, t8, t9, t10, ())) (roundK 0 lp_I_goodGroups_4) = b_I_goodGroups_4 t0 t8 t9 t10 := by kernel_rfl
theorem ef_I_goodGroups (t0 : PV S_impl_Group) : denF cx_I_goodGroups 0 pl_I_goodGroups Tryz.f50.ntmps (bodyOf Tryz.f50) Tryz.f50.results.toList [(.bor, S_impl_Group)] [(.bool, .b)] (t0, ()) = f_I_goodGroups t0 := by kernel_rfl
theorem ok_I_goodGroups : FnOk gl Tryz.prog 50 ct_I_goodGroups :=
  fnOk (cx := cx_I_goodGroups) (pl := pl_I_goodGroups) (dp := 0) (ok0_of tabOk (by unfold ArrOk; kernel_rfl) mix ⟨ok_I_goodGroup, ok_I_Group_old, ok_I_Group_fresh, trivial⟩ trivial) Tryz.func50 (by kernel_rfl) (by kernel_rfl) (by kernel_rfl)
    (by rw [show loopsOf (bodyOf Tryz.f50) = [((loopsOf (bodyOf Tryz.f50)).getD 0 .skip)] from by kernel_rfl]; exact ⟨(by rw [show lookup pl_I_goodGroups.loops (firstId ((loopsOf (bodyOf Tryz.f50)).getD 0 .skip)) = some lp_I_goodGroups_4 from by kernel_rfl]; exact fun d z h => (eb_I_goodGroups_4 d.1 d.2.1 d.2.2.1 d.2.2.2.1).trans h), trivial⟩) (fun x => ef_I_goodGroups x.1)
noncomputable def pl_I_numberOf : Plan := ⟨[], [], 0, 0⟩
noncomputable def f_I_numberOf (t0 : PV (.int .i64)) (t1 : PV (.int .i64)) : Option (PVs [(.int .i64)] × PVs []) :=
  bif (decide (t1 > 0)) then
    some (((IntKind.wrap .i64 (t0 + 1)), ()), ())
  else
    some ((t0, ()), ())
noncomputable def ct_I_numberOf : Ct := ⟨[(.bor, (.int .i64)), (.bor, (.int .i64))], [((.int .i64), .b)], fun x => f_I_numberOf x.1 x.2.1⟩
noncomputable def cx_I_numberOf : Cx := ⟨tab, arrs, [], [], gl, []⟩
theorem ef_I_numberOf (t0 : PV (.int .i64)) (t1 : PV (.int .i64)) : denF cx_I_numberOf 0 pl_I_numberOf Tryz.f106.ntmps (bodyOf Tryz.f106) Tryz.f106.results.toList [(.bor, (.int .i64)), (.bor, (.int .i64))] [((.int .i64), .b)] (t0, t1, ()) = f_I_numberOf t0 t1 := by kernel_rfl
theorem ok_I_numberOf : FnOk gl Tryz.prog 106 ct_I_numberOf :=
  fnOk (cx := cx_I_numberOf) (pl := pl_I_numberOf) (dp := 0) (ok0_of tabOk (by unfold ArrOk; kernel_rfl) mix trivial trivial) Tryz.func106 (by kernel_rfl) (by kernel_rfl) (by kernel_rfl)
    (by rw [show loopsOf (bodyOf Tryz.f106) = [] from by kernel_rfl]; exact trivial) (fun x => ef_I_numberOf x.1 x.2.1)
noncomputable def pl_I_endOf : Plan := ⟨[], [], 0, 0⟩
noncomputable def f_I_endOf (t0 : PV (.int .i64)) (t1 : PV (.int .i64)) : Option (PVs [(.int .i64)] × PVs []) :=
  some (((IntKind.wrap .i64 (t0 + t1)), ()), ())
noncomputable def ct_I_endOf : Ct := ⟨[(.bor, (.int .i64)), (.bor, (.int .i64))], [((.int .i64), .b)], fun x => f_I_endOf x.1 x.2.1⟩
noncomputable def cx_I_endOf : Cx := ⟨tab, arrs, [], [], gl, []⟩
theorem ef_I_endOf (t0 : PV (.int .i64)) (t1 : PV (.int .i64)) : denF cx_I_endOf 0 pl_I_endOf Tryz.f107.ntmps (bodyOf Tryz.f107) Tryz.f107.results.toList [(.bor, (.int .i64)), (.bor, (.int .i64))] [((.int .i64), .b)] (t0, t1, ()) = f_I_endOf t0 t1 := by kernel_rfl
theorem ok_I_endOf : FnOk gl Tryz.prog 107 ct_I_endOf :=
  fnOk (cx := cx_I_endOf) (pl := pl_I_endOf) (dp := 0) (ok0_of tabOk (by unfold ArrOk; kernel_rfl) mix trivial trivial) Tryz.func107 (by kernel_rfl) (by kernel_rfl) (by kernel_rfl)
    (by rw [show loopsOf (bodyOf Tryz.f107) = [] from by kernel_rfl]; exact trivial) (fun x => ef_I_endOf x.1 x.2.1)
noncomputable def pl_I_pairOf : Plan := ⟨[], [], 0, 0⟩
noncomputable def f_I_pairOf (t0 : PV (.int .i64)) (t1 : PV (.int .i64)) : Option (PVs [.str] × PVs []) :=
  bif (t0 == t1) then
    (f_strconv_Itoa t0).bind fun r2 =>
      some ((r2.1.1, ()), ())
  else
    (f_strconv_Itoa t0).bind fun r3 =>
      bif decide (r3.1.1.length + [44].length ≤ 1099511627776) then
        (f_strconv_Itoa t1).bind fun r4 =>
          bif decide ((r3.1.1 ++ [44]).length + r4.1.1.length ≤ 1099511627776) then
            some ((((r3.1.1 ++ [44]) ++ r4.1.1), ()), ())
          else
            none
      else
        none
noncomputable def ct_I_pairOf : Ct := ⟨[(.bor, (.int .i64)), (.bor, (.int .i64))], [(.str, .b)], fun x => f_I_pairOf x.1 x.2.1⟩
noncomputable def cx_I_pairOf : Cx := ⟨tab, arrs, [(152, ct_strconv_Itoa)], [], gl, []⟩
theorem ef_I_pairOf (t0 : PV (.int .i64)) (t1 : PV (.int .i64)) : denF cx_I_pairOf 0 pl_I_pairOf Tryz.f105.ntmps (bodyOf Tryz.f105) Tryz.f105.results.toList [(.bor, (.int .i64)), (.bor, (.int .i64))] [(.str, .b)] (t0, t1, ()) = f_I_pairOf t0 t1 := by kernel_rfl
theorem ok_I_pairOf : FnOk gl Tryz.prog 105 ct_I_pairOf :=
  fnOk (cx := cx_I_pairOf) (pl := pl_I_pairOf) (dp := 0) (ok0_of tabOk (by unfold ArrOk; kernel_rfl) mix ⟨ok_strconv_Itoa, trivial⟩ trivial) Tryz.func105 (by kernel_rfl) (by kernel_rfl) (by kernel_rfl)
    (by rw [show loopsOf (bodyOf Tryz.f105) = [] from by kernel_rfl]; exact trivial) (fun x => ef_I_pairOf x.1 x.2.1)
noncomputable def pl_I_Group_has_153 : Plan := ⟨[], [], 2, 9⟩
noncomputable def sh_I_Group_has_173_2 : List Sh := mkSh 37 [(0, .val Y_impl_Group .b), (1, .val (.int .i64) .b), (2, .var Y_impl_Group .b), (3, .var (.int .i64) .b), (4, .val .bool .b), (5, .addr ⟨2, [.r, .r, .l], 0, 0⟩), (6, .val S_impl_Row .b), (7, .fn 154 [⟨3, [], 0, 0⟩]), (9, .val S_impl_Row .b), (10, .fn 154 [⟨3, [], 0, 0⟩]), (13, .val .bool .b), (14, .val S_impl_Row .b), (15, .fn 154 [⟨3, [], 0, 0⟩]), (18, .val S_impl_Row .b), (19, .fn 154 [⟨3, [], 0, 0⟩]), (25, .val (.int .i64) .b), (26, .val (.int .i64) .b)]
noncomputable def o_I_Group_has_173_2 : List Out := [⟨.exit 0, ⟨[], [], []⟩, mkSh 37 [(0, .val Y_impl_Group .b), (1, .val (.int .i64) .b), (2, .var Y_impl_Group .b), (3, .var (.int .i64) .b), (4, .val .bool .b), (5, .addr ⟨2, [.r, .r, .l], 0, 0⟩), (6, .val S_impl_Row .b), (7, .fn 154 [⟨3, [], 0, 0⟩]), (9, .val S_impl_Row .b), (10, .fn 154 [⟨3, [], 0, 0⟩]), (13, .val .bool .b), (14, .val S_impl_Row .b), (15, .fn 154 [⟨3, [], 0, 0⟩])]⟩, ⟨.ret, ⟨[], [4], []⟩, mkSh 37 [(0, .val Y_impl_Group .b), (1, .val (.int .i64) .b), (2, .var Y_impl_Group .b), (3, .var (.int .i64) .b), (4, .val .bool .b), (5, .addr ⟨2, [.r, .r, .l], 0, 0⟩), (6, .val S_impl_Row .b), (7, .fn 154 [⟨3, [], 0, 0⟩]), (9, .val S_impl_Row .b), (10, .fn 154 [⟨3, [], 0, 0⟩]), (13, .val .bool .b), (14, .val S_impl_Row .b), (15, .fn 154 [⟨3, [], 0, 0⟩]), (22, .val (.int .i64) .b)]⟩]
noncomputable def b_I_Group_has_173_2 (t0 : PV Y_impl_Group) (t1 : PV (.int .i64)) (t2 : PV Y_impl_Group) (t3 : PV (.int .i64)) (t4 : PV .bool) (t6 : PV S_impl_Row) (t9 : PV S_impl_Row) (t13 : PV .bool) (t14 : PV S_impl_Row) (t18 : PV S_impl_Row) (t25 : PV (.int .i64)) (t26 : PV (.int .i64)) : Option ((PV Y_impl_Group × PV (.int .i64) × PV Y_impl_Group × PV (.int .i64) × PV .bool × PV S_impl_Row × PV S_impl_Row × PV .bool × PV S_impl_Row × PV S_impl_Row × PV (.int .i64) × PV (.int .i64) × Unit) ⊕ ((PV Y_impl_Group × PV (.int .i64) × PV Y_impl_Group × PV (.int .i64) × PV .bool × PV S_impl_Row × PV S_impl_Row × PV .bool × PV S_impl_Row × Unit) ⊕ (PV Y_impl_Group × PV (.int .i64) × PV Y_impl_Group × PV (.int .i64) × PV .bool × PV S_impl_Row × PV S_impl_Row × PV .bool × PV S_impl_Row × PV (.int .i64) × Unit))) :=
  bif (decide (t26 < t25)) then
    bif inB t26 t18.length then
      bif (((t18.getD t26.toNat (dflt Y_impl_Row)).1) == t3) then
        some (.inr (.inr (t0, t1, t2, t3, t4, t6, t9, t13, t14, t26, ())))
      else
        some (.inl (t0, t1, t2, t3, t4, t6, t9, t13, t14, t18, t25, (IntKind.wrap .i64 (t26 + 1)), ()))
    else
      none
  else
    some (.inr (.inl (t0, t1, t2, t3, t4, t6, t9, t13, t14, ())))
noncomputable def w_I_Group_has_173_2 : PV Y_impl_Group × PV (.int .i64) × PV Y_impl_Group × PV (.int .i64) × PV .bool × PV S_impl_Row × PV S_impl_Row × PV .bool × PV S_impl_Row × PV S_impl_Row × PV (.int .i64) × PV (.int .i64) × Unit → Option ((PV Y_impl_Group × PV (.int .i64) × PV Y_impl_Group × PV (.int .i64) × PV .bool × PV S_impl_Row × PV S_impl_Row × PV .bool × PV S_impl_Row × Unit) ⊕ (PV Y_impl_Group × PV (.int .i64) × PV Y_impl_Group × PV (.int .i64) × PV .bool × PV S_impl_Row × PV S_impl_Row × PV .bool × PV S_impl_Row × PV (.int .i64) × Unit)) := fix fun d => b_I_Group_has_173_2 d.1 d.2.1 d.2.2.1 d.2.2.2.1 d.2.2.2.2.1 d.2.2.2.2.2.1 d.2.2.2.2.2.2.1 d.2.2.2.2.2.2.2.1 d.2.2.2.2.2.2.2.2.1 d.2.2.2.2.2.2.2.2.2.1 d.2.2.2.2.2.2.2.2.2.2.1 d.2.2.2.2.2.2.2.2.2.2.2.1
noncomputable def lp_I_Group_has_173_2 : Lp := ⟨⟨[], [0, 1, 7, 8], []⟩, sh_I_Group_has_173_2, o_I_Group_has_173_2, fun d => b_I_Group_has_173_2 d.1 d.2.1 d.2.2.1 d.2.2.2.1 d.2.2.2.2.1 d.2.2.2.2.2.1 d.2.2.2.2.2.2.1 d.2.2.2.2.2.2.2.1 d.2.2.2.2.2.2.2.2.1 d.2.2.2.2.2.2.2.2.2.1 d.2.2.2.2.2.2.2.2.2.2.1 d.2.2.2.2.2.2.2.2.2.2.2.1⟩
noncomputable def pl_I_Group_has_173 : Plan := ⟨[], [(2, lp_I_Group_has_173_2)], 1, 18⟩
noncomputable def pl_I_Group_has_154 : Plan := ⟨[], [], 0, 37⟩
noncomputable def pl_I_Group_has : Plan := ⟨[], [], 3, 0⟩
noncomputable def f_I_Group_has (t0 : PV Y_impl_Group) (t1 : PV (.int .i64)) : Option (PVs [.bool] × PVs []) :=
  (w_I_Group_has_173_2 (t0, t1, t0, t1, false, t0.2.2.1, t0.2.2.1, false, t0.2.2.1, t0.2.2.1, (t0.2.2.1.length : Int), 0, ())).bind fun x5 =>
    match x5 with
    | .inl l3 =>
      some (((decide ((-1) ≥ 0)), ()), ())
    | .inr l4 =>
      some (((decide (l4.2.2.2.2.2.2.2.2.2.1 ≥ 0)), ()), ())
noncomputable def ct_I_Group_has : Ct := ⟨[(.bor, Y_impl_Group), (.bor, (.int .i64))], [(.bool, .b)], fun x => f_I_Group_has x.1 x.2.1⟩
noncomputable def cx_I_Group_has : Cx := ⟨tab, arrs, [], [(153, Tryz.f153, pl_I_Group_has_153), (173, Tryz.f173, pl_I_Group_has_173), (154, Tryz.f154, pl_I_Group_has_154)], gl, []⟩
theorem eb_I_Group_has_173_2 (t0 : PV Y_impl_Group) (t1 : PV (.int .i64)) (t2 : PV Y_impl_Group) (t3 : PV (.int .i64)) (t4 : PV .bool) (t6 : PV S_impl_Row) (t9 : PV S_impl_Row) (t13 : PV .bool) (t14 : PV S_impl_Row) (t18 : PV S_impl_Row) (t25 : PV (.int .i64)) (t26 : PV (.int .i64)) : denK cx_I_Group_has (rcN cx_I_Group_has 1) pl_I_Group_has_173 18 ((loopsOf (bodyOf Tryz.f173)).getD 0 .skip) (fillS sh_I_Group_has_173_2 (t0, t1, t2, t3, t4, t6, t9, t13, t14, t18, t25, t26, ())) (roundK 18 lp_I_Group_has_173_2) = b_I_Group_has_173_2 t0 t1 t2 t3 t4 t6 t9 t13 t14 t18 t25 t26 := by kernel_rfl
theorem ef_I_Group_has (t0 : PV Y_impl_Group) (t1 : PV (.int .i64)) : denF cx_I_Group_has 3 pl_I_Group_has Tryz.f108.ntmps (bodyOf Tryz.f108) Tryz.f108.results.toList [(.bor, Y_impl_Group), (.bor, (.int .i64))] [(.bool, .b)] (t0, t1, ()) = f_I_Group_has t0 t1 := by kernel_rfl
theorem ok_I_Group_has : FnOk gl Tryz.prog 108 ct_I_Group_has :=
  fnOk (cx := cx_I_Group_has) (pl := pl_I_Group_has) (dp := 3) (ok0_of tabOk (by unfold ArrOk; kernel_rfl) mix trivial ⟨⟨Tryz.func153, by kernel_rfl, (by rw [show loopsOf (bodyOf Tryz.f153) = [] from by kernel_rfl]; exact trivial)⟩, ⟨Tryz.func173, by kernel_rfl, (by rw [show loopsOf (bodyOf Tryz.f173) = [((loopsOf (bodyOf Tryz.f173)).getD 0 .skip)] from by kernel_rfl]; exact ⟨(by rw [show lookup pl_I_Group_has_173.loops (firstId ((loopsOf (bodyOf Tryz.f173)).getD 0 .skip)) = some lp_I_Group_has_173_2 from by kernel_rfl]; exact fun d z h => (eb_I_Group_has_173_2 d.1 d.2.1 d.2.2.1 d.2.2.2.1 d.2.2.2.2.1 d.2.2.2.2.2.1 d.2.2.2.2.2.2.1 d.2.2.2.2.2.2.2.1 d.2.2.2.2.2.2.2.2.1 d.2.2.2.2.2.2.2.2.2.1 d.2.2.2.2.2.2.2.2.2.2.1 d.2.2.2.2.2.2.2.2.2.2.2.1).trans h), trivial⟩)⟩, ⟨Tryz.func154, by kernel_rfl, (by rw [show loopsOf (bodyOf Tryz.f154) = [] from by kernel_rfl]; exact trivial)⟩, trivial⟩) Tryz.func108 (by kernel_rfl) (by kernel_rfl) (by kernel_rfl)
    (by rw [show loopsOf (bodyOf Tryz.f108) = [] from by kernel_rfl]; exact trivial) (fun x => ef_I_Group_has x.1 x.2.1)
noncomputable def pl_I_Group_runHas_153 : Plan := ⟨[], [], 2, 48⟩
noncomputable def sh_I_Group_runHas_173_2 : List Sh := mkSh 76 [(3, .var Y_impl_Group .b), (5, .var (.int .i64) .b), (7, .val (.int .i64) .b), (8, .val (.int .i64) .b), (41, .addr ⟨3, [.r, .r, .l], 0, 0⟩), (42, .val S_impl_Row .b), (43, .val (.int .i64) .b), (44, .val (.int .i64) .b), (45, .val S_impl_Row .b), (46, .fn 158 [⟨5, [], 0, 0⟩]), (48, .val S_impl_Row .b), (49, .fn 158 [⟨5, [], 0, 0⟩]), (52, .val .bool .b), (53, .val S_impl_Row .b), (54, .fn 158 [⟨5, [], 0, 0⟩]), (57, .val S_impl_Row .b), (58, .fn 158 [⟨5, [], 0, 0⟩]), (64, .val (.int .i64) .b), (65, .val (.int .i64) .b)]
noncomputable def o_I_Group_runHas_173_2 : List Out := [⟨.exit 0, ⟨[], [], []⟩, mkSh 76 [(3, .var Y_impl_Group .b), (5, .var (.int .i64) .b), (7, .val (.int .i64) .b), (8, .val (.int .i64) .b), (41, .addr ⟨3, [.r, .r, .l], 0, 0⟩), (42, .val S_impl_Row .b), (43, .val (.int .i64) .b), (44, .val (.int .i64) .b), (45, .val S_impl_Row .b), (46, .fn 158 [⟨5, [], 0, 0⟩]), (48, .val S_impl_Row .b), (49, .fn 158 [⟨5, [], 0, 0⟩]), (52, .val .bool .b), (53, .val S_impl_Row .b), (54, .fn 158 [⟨5, [], 0, 0⟩])]⟩, ⟨.ret, ⟨[], [4], []⟩, mkSh 76 [(3, .var Y_impl_Group .b), (5, .var (.int .i64) .b), (7, .val (.int .i64) .b), (8, .val (.int .i64) .b), (41, .addr ⟨3, [.r, .r, .l], 0, 0⟩), (42, .val S_impl_Row .b), (43, .val (.int .i64) .b), (44, .val (.int .i64) .b), (45, .val S_impl_Row .b), (46, .fn 158 [⟨5, [], 0, 0⟩]), (48, .val S_impl_Row .b), (49, .fn 158 [⟨5, [], 0, 0⟩]), (52, .val .bool .b), (53, .val S_impl_Row .b), (54, .fn 158 [⟨5, [], 0, 0⟩]), (61, .val (.int .i64) .b)]⟩]
noncomputable def b_I_Group_runHas_173_2 (t3 : PV Y_impl_Group) (t5 : PV (.int .i64)) (t7 : PV (.int .i64)) (t8 : PV (.int .i64)) (t42 : PV S_impl_Row) (t43 : PV (.int .i64)) (t44 : PV (.int .i64)) (t45 : PV S_impl_Row) (t48 : PV S_impl_Row) (t52 : PV .bool) (t53 : PV S_impl_Row) (t57 : PV S_impl_Row) (t64 : PV (.int .i64)) (t65 : PV (.int .i64)) : Option ((PV Y_impl_Group × PV (.int .i64) × PV (.int .i64) × PV (.int .i64) × PV S_impl_Row × PV (.int .i64) × PV (.int .i64) × PV S_impl_Row × PV S_impl_Row × PV .bool × PV S_impl_Row × PV S_impl_Row × PV (.int .i64) × PV (.int .i64) × Unit) ⊕ ((PV Y_impl_Group × PV (.int .i64) × PV (.int .i64) × PV (.int .i64) × PV S_impl_Row × PV (.int .i64) × PV (.int .i64) × PV S_impl_Row × PV S_impl_Row × PV .bool × PV S_impl_Row × Unit) ⊕ (PV Y_impl_Group × PV (.int .i64) × PV (.int .i64) × PV (.int .i64) × PV S_impl_Row × PV (.int .i64) × PV (.int .i64) × PV S_impl_Row × PV S_impl_Row × PV .bool × PV S_impl_Row × PV (.int .i64) × Unit))) :=
  bif (decide (t65 < t64)) then
    bif inB t65 t57.length then
      bif (((t57.getD t65.toNat (dflt Y_impl_Row)).1) == t5) then
        some (.inr (.inr (t3, t5, t7, t8, t42, t43, t44, t45, t48, t52, t53, t65, ())))
      else
        some (.inl (t3, t5, t7, t8, t42, t43, t44, t45, t48, t52, t53, t57, t64, (IntKind.wrap .i64 (t65 + 1)), ()))
    else
      none
  else
    some (.inr (.inl (t3, t5, t7, t8, t42, t43, t44, t45, t48, t52, t53, ())))
noncomputable def w_I_Group_runHas_173_2 : PV Y_impl_Group × PV (.int .i64) × PV (.int .i64) × PV (.int .i64) × PV S_impl_Row × PV (.int .i64) × PV (.int .i64) × PV S_impl_Row × PV S_impl_Row × PV .bool × PV S_impl_Row × PV S_impl_Row × PV (.int .i64) × PV (.int .i64) × Unit → Option ((PV Y_impl_Group × PV (.int .i64) × PV (.int .i64) × PV (.int .i64) × PV S_impl_Row × PV (.int .i64) × PV (.int .i64) × PV S_impl_Row × PV S_impl_Row × PV .bool × PV S_impl_Row × Unit) ⊕ (PV Y_impl_Group × PV (.int .i64) × PV (.int .i64) × PV (.int .i64) × PV S_impl_Row × PV (.int .i64) × PV (.int .i64) × PV S_impl_Row × PV S_impl_Row × PV .bool × PV S_impl_Row × PV (.int .i64) × Unit)) := fix fun d => b_I_Group_runHas_173_2 d.1 d.2.1 d.2.2.1 d.2.2.2.1 d.2.2.2.2.1 d.2.2.2.2.2.1 d.2.2.2.2.2.2.1 d.2.2.2.2.2.2.2.1 d.2.2.2.2.2.2.2.2.1 d.2.2.2.2.2.2.2.2.2.1 d.2.2.2.2.2.2.2.2.2.2.1 d.2.2.2.2.2.2.2.2.2.2.2.1 d.2.2.2.2.2.2.2.2.2.2.2.2.1 d.2.2.2.2.2.2.2.2.2.2.2.2.2.1
noncomputable def lp_I_Group_runHas_173_2 : Lp := ⟨⟨[], [0, 1, 7, 8], []⟩, sh_I_Group_runHas_173_2, o_I_Group_runHas_173_2, fun d => b_I_Group_runHas_173_2 d.1 d.2.1 d.2.2.1 d.2.2.2.1 d.2.2.2.2.1 d.2.2.2.2.2.1 d.2.2.2.2.2.2.1 d.2.2.2.2.2.2.2.1 d.2.2.2.2.2.2.2.2.1 d.2.2.2.2.2.2.2.2.2.1 d.2.2.2.2.2.2.2.2.2.2.1 d.2.2.2.2.2.2.2.2.2.2.2.1 d.2.2.2.2.2.2.2.2.2.2.2.2.1 d.2.2.2.2.2.2.2.2.2.2.2.2.2.1⟩
noncomputable def pl_I_Group_runHas_173 : Plan := ⟨[], [(2, lp_I_Group_runHas_173_2)], 1, 57⟩
noncomputable def pl_I_Group_runHas_158 : Plan := ⟨[], [], 0, 76⟩
noncomputable def sh_I_Group_runHas_2 : List Sh := mkSh 48 [(3, .var Y_impl_Group .b), (5, .var (.int .i64) .b), (7, .val (.int .i64) .b), (8, .val (.int .i64) .b)]
noncomputable def o_I_Group_runHas_2 : List Out := [⟨.exit 0, ⟨[], [3, 5, 7, 8, 31, 32, 33, 34, 35, 36, 37], []⟩, mkSh 48 [(3, .var Y_impl_Group .b), (5, .var (.int .i64) .b), (7, .val (.int .i64) .b), (8, .val (.int .i64) .b)]⟩]
noncomputable def b_I_Group_runHas_2 (t3 : PV Y_impl_Group) (t5 : PV (.int .i64)) (t7 : PV (.int .i64)) (t8 : PV (.int .i64)) : Option ((PV Y_impl_Group × PV (.int .i64) × PV (.int .i64) × PV (.int .i64) × Unit) ⊕ ((PV Y_impl_Group × PV (.int .i64) × PV (.int .i64) × PV (.int .i64) × Unit))) :=
  bif (decide (t7 > 0)) then
    bif inB (IntKind.wrap .i64 (t7 - 1)) t3.2.2.1.length then
      bif (!(((t3.2.2.1.getD ((IntKind.wrap .i64 (t7 - 1)).toNat) (dflt Y_impl_Row)).1) == 1)) then
        some (.inl (t3, t5, (IntKind.wrap .i64 (t7 - 1)), t8, ()))
      else
        some (.inr (t3, t5, t7, t8, ()))
    else
      none
  else
    some (.inr (t3, t5, t7, t8, ()))
noncomputable def w_I_Group_runHas_2 : PV Y_impl_Group × PV (.int .i64) × PV (.int .i64) × PV (.int .i64) × Unit → Option ((PV Y_impl_Group × PV (.int .i64) × PV (.int .i64) × PV (.int .i64) × Unit)) := fix fun d => b_I_Group_runHas_2 d.1 d.2.1 d.2.2.1 d.2.2.2.1
noncomputable def lp_I_Group_runHas_2 : Lp := ⟨⟨[], [3, 5, 7, 8, 31, 32, 33, 34, 35, 36, 37], []⟩, sh_I_Group_runHas_2, o_I_Group_runHas_2, fun d => b_I_Group_runHas_2 d.1 d.2.1 d.2.2.1 d.2.2.2.1⟩
noncomputable def sh_I_Group_runHas_4 : List Sh := mkSh 48 [(3, .var Y_impl_Group .b), (5, .var (.int .i64) .b), (7, .val (.int .i64) .b), (8, .val (.int .i64) .b)]
noncomputable def o_I_Group_runHas_4 : List Out := [⟨.exit 2, ⟨[], [3, 5, 7, 8], []⟩, mkSh 48 [(3, .var Y_impl_Group .b), (5, .var (.int .i64) .b), (7, .val (.int .i64) .b), (8, .val (.int .i64) .b)]⟩]
noncomputable def b_I_Group_runHas_4 (t3 : PV Y_impl_Group) (t5 : PV (.int .i64)) (t7 : PV (.int .i64)) (t8 : PV (.int .i64)) : Option ((PV Y_impl_Group × PV (.int .i64) × PV (.int .i64) × PV (.int .i64) × Unit) ⊕ ((PV Y_impl_Group × PV (.int .i64) × PV (.int .i64) × PV (.int .i64) × Unit))) :=
  bif (decide (t8 < (t3.2.2.1.length : Int))) then
    bif inB t8 t3.2.2.1.length then
      bif (!(((t3.2.2.1.getD t8.toNat (dflt Y_impl_Row)).1) == 1)) then
        some (.inl (t3, t5, t7, (IntKind.wrap .i64 (t8 + 1)), ()))
      else
        some (.inr (t3, t5, t7, t8, ()))
    else
      none
  else
    some (.inr (t3, t5, t7, t8, ()))
noncomputable def w_I_Group_runHas_4 : PV Y_impl_Group × PV (.int .i64) × PV (.int .i64) × PV (.int .i64) × Unit → Option ((PV Y_impl_Group × PV (.int .i64) × PV (.int .i64) × PV (.int .i64) × Unit)) := fix fun d => b_I_Group_runHas_4 d.1 d.2.1 d.2.2.1 d.2.2.2.1
noncomputable def lp_I_Group_runHas_4 : Lp := ⟨⟨[], [3, 5, 7, 8], []⟩, sh_I_Group_runHas_4, o_I_Group_runHas_4, fun d => b_I_Group_runHas_4 d.1 d.2.1 d.2.2.1 d.2.2.2.1⟩
noncomputable def pl_I_Group_runHas : Plan := ⟨[], [(2, lp_I_Group_runHas_2), (4, lp_I_Group_runHas_4)], 3, 0⟩
noncomputable def f_I_Group_runHas (t0 : PV Y_impl_Group) (t1 : PV (.int .i64)) (t2 : PV (.int .i64)) : Option (PVs [.bool] × PVs []) :=
  (w_I_Group_runHas_2 (t0, t2, t1, t1, ())).bind fun l2 =>
    (w_I_Group_runHas_4 (l2.1, l2.2.1, l2.2.2.1, l2.2.2.2.1, ())).bind fun l4 =>
      bif cutB l4.2.2.1 l4.2.2.2.1 l4.1.2.2.1.length then
        (w_I_Group_runHas_173_2 (l4.1, l4.2.1, l4.2.2.1, l4.2.2.2.1, l4.1.2.2.1, l4.2.2.1, l4.2.2.2.1, (cutL l4.2.2.1 l4.2.2.2.1 l4.1.2.2.1), (cutL l4.2.2.1 l4.2.2.2.1 l4.1.2.2.1), false, (cutL l4.2.2.1 l4.2.2.2.1 l4.1.2.2.1), (cutL l4.2.2.1 l4.2.2.2.1 l4.1.2.2.1), ((cutL l4.2.2.1 l4.2.2.2.1 l4.1.2.2.1).length : Int), 0, ())).bind fun x9 =>
          match x9 with
          | .inl l7 =>
            some (((decide ((-1) ≥ 0)), ()), ())
          | .inr l8 =>
            some (((decide (l8.2.2.2.2.2.2.2.2.2.2.2.1 ≥ 0)), ()), ())
      else
        none
noncomputable def ct_I_Group_runHas : Ct := ⟨[(.bor, Y_impl_Group), (.bor, (.int .i64)), (.bor, (.int .i64))], [(.bool, .b)], fun x => f_I_Group_runHas x.1 x.2.1 x.2.2.1⟩
noncomputable def cx_I_Group_runHas : Cx := ⟨tab, arrs, [], [(153, Tryz.f153, pl_I_Group_runHas_153), (173, Tryz.f173, pl_I_Group_runHas_173), (158, Tryz.f158, pl_I_Group_runHas_158)], gl, []⟩
theorem eb_I_Group_runHas_173_2 (t3 : PV Y_impl_Group) (t5 : PV (.int .i64)) (t7 : PV (.int .i64)) (t8 : PV (.int .i64)) (t42 : PV S_impl_Row) (t43 : PV (.int .i64)) (t44 : PV (.int .i64)) (t45 : PV S_impl_Row) (t48 : PV S_impl_Row) (t52 : PV .bool) (t53 : PV S_impl_Row) (t57 : PV S_impl_Row) (t64 : PV (.int .i64)) (t65 : PV (.int .i64)) : denK cx_I_Group_runHas (rcN cx_I_Group_runHas 1) pl_I_Group_runHas_173 57 ((loopsOf (bodyOf Tryz.f173)).getD 0 .skip) (fillS sh_I_Group_runHas_173_2 (t3, t5, t7, t8, t42, t43, t44, t45, t48, t52, t53, t57, t64, t65, ())) (roundK 57 lp_I_Group_runHas_173_2) = b_I_Group_runHas_173_2 t3 t5 t7 t8 t42 t43 t44 t45 t48 t52 t53 t57 t64 t65 := by kernel_rfl
theorem eb_I_Group_runHas_2 (t3 : PV Y_impl_Group) (t5 : PV (.int .i64)) (t7 : PV (.int .i64)) (t8 : PV (.int .i64)) : denK cx_I_Group_runHas (rcN cx_I_Group_runHas 3) pl_I_Group_runHas 0 ((loopsOf (bodyOf Tryz.f114)).getD 0 .skip) (fillS sh_I_Group_runHas_2 (t3, t5, t7, t8, ())) (roundK 0 lp_I_Group_runHas_2) = b_I_Group_runHas_2 t3 t5 t7 t8 := by kernel_rfl
theorem eb_I_Group_runHas_4 (t3 : PV Y_impl_Group) (t5 : PV (.int .i64)) (t7 : PV (.int .i64)) (t8 : PV (.int .i64)) : denK cx_I_Group_runHas (rcN cx_I_Group_runHas 3) pl_I_Group_runHas 0 ((loopsOf (bodyOf Tryz.f114)).getD 1 .skip) (fillS sh_I_Group_runHas_4 (t3, t5, t7, t8, ())) (roundK 0 lp_I_Group_runHas_4) = b_I_Group_runHas_4 t3 t5 t7 t8 := by kernel_rfl
theorem ef_I_Group_runHas (t0 : PV Y_impl_Group) (t1 : PV (.int .i64)) (t2 : PV (.int .i64)) : denF cx_I_Group_runHas 3 pl_I_Group_runHas Tryz.f114.ntmps (bodyOf Tryz.f114) Tryz.f114.results.toList [(.bor, Y_impl_Group), (.bor, (.int .i64)), (.bor, (.int .i64))] [(.bool, .b)] (t0, t1, t2, ()) = f_I_Group_runHas t0 t1 t2 := by kernel_rfl
theorem ok_I_Group_runHas : FnOk gl Tryz.prog 114 ct_I_Group_runHas :=
  fnOk (cx := cx_I_Group_runHas) (pl := pl_I_Group_runHas) (dp := 3) (ok0_of tabOk (by unfold ArrOk; kernel_rfl) mix trivial ⟨⟨Tryz.func153, by kernel_rfl, (by rw [show loopsOf (bodyOf Tryz.f153) = [] from by kernel_rfl]; exact trivial)⟩, ⟨Tryz.func173, by kernel_rfl, (by rw [show loopsOf (bodyOf Tryz.f173) = [((loopsOf (bodyOf Tryz.f173)).getD 0 .skip)] from by kernel_rfl]; exact ⟨(by rw [show lookup pl_I_Group_runHas_173.loops (firstId ((loopsOf (bodyOf Tryz.f173)).getD 0 .skip)) = some lp_I_Group_runHas_173_2 from by kernel_rfl]; exact fun d z h => (eb_I_Group_runHas_173_2 d.1 d.2.1 d.2.2.1 d.2.2.2.1 d.2.2.2.2.1 d.2.2.2.2.2.1 d.2.2.2.2.2.2.1 d.2.2.2.2.2.2.2.1 d.2.2.2.2.2.2.2.2.1 d.2.2.2.2.2.2.2.2.2.1 d.2.2.2.2.2.2.2.2.2.2.1 d.2.2.2.2.2.2.2.2.2.2.2.1 d.2.2.2.2.2.2.2.2.2.2.2.2.1 d.2.2.2.2.2.2.2.2.2.2.2.2.2.1).trans h), trivial⟩)⟩, ⟨Tryz.func158, by kernel_rfl, (by rw [show loopsOf (bodyOf Tryz.f158) = [] from by kernel_rfl]; exact trivial)⟩, trivial⟩) Tryz.func114 (by kernel_rfl) (by kernel_rfl) (by kernel_rfl)
    (by rw [show loopsOf (bodyOf Tryz.f114) = [((loopsOf (bodyOf Tryz.f114)).getD 0 .skip), ((loopsOf (bodyOf Tryz.f114)).getD 1 .skip)] from by kernel_rfl]; exact ⟨(by rw [show lookup pl_I_Group_runHas.loops (firstId ((loopsOf (bodyOf Tryz.f114)).getD 0 .skip)) = some lp_I_Group_runHas_2 from by kernel_rfl]; exact fun d z h => (eb_I_Group_runHas_2 d.1 d.2.1 d.2.2.1 d.2.2.2.1).trans h), (by rw [show lookup pl_I_Group_runHas.loops (firstId ((loopsOf (bodyOf Tryz.f114)).getD 1 .skip)) = some lp_I_Group_runHas_4 from by kernel_rfl]; exact fun d z h => (eb_I_Group_runHas_4 d.1 d.2.1 d.2.2.1 d.2.2.2.1).trans h), trivial⟩) (fun x => ef_I_Group_runHas x.1 x.2.1 x.2.2.1)
noncomputable def pl_I_shown : Plan := ⟨[], [], 0, 0⟩
noncomputable def f_I_shown (t0 : PV .str) (t1 : PV .str) : Option (PVs [.str] × PVs []) :=
  (f_I_isEnded t1).bind fun r4 =>
    bif r4.1.1 then
      bif decide (t0.length + t1.length ≤ 1099511627776) then
        some (((t0 ++ t1), ()), ())
      else
        none
    else
      bif decide (t0.length + t1.length ≤ 1099511627776) then
        bif decide ((t0 ++ t1).length + [10].length ≤ 1099511627776) then
          bif decide (((t0 ++ t1) ++ [10]).length + [92, 32, 110, 111, 110, 101, 10].length ≤ 1099511627776) then
            some (((((t0 ++ t1) ++ [10]) ++ [92, 32, 110, 111, 110, 101, 10]), ()), ())
          else
            none
        else
          none
      else
        none
noncomputable def ct_I_shown : Ct := ⟨[(.bor, .str), (.bor, .str)], [(.str, .b)], fun x => f_I_shown x.1 x.2.1⟩
noncomputable def cx_I_shown : Cx := ⟨tab, arrs, [(157, ct_I_isEnded)], [], gl, []⟩
theorem ef_I_shown (t0 : PV .str) (t1 : PV .str) : denF cx_I_shown 0 pl_I_shown Tryz.f115.ntmps (bodyOf Tryz.f115) Tryz.f115.results.toList [(.bor, .str), (.bor, .str)] [(.str, .b)] (t0, t1, ()) = f_I_shown t0 t1 := by kernel_rfl
theorem ok_I_shown : FnOk gl Tryz.prog 115 ct_I_shown :=
  fnOk (cx := cx_I_shown) (pl := pl_I_shown) (dp := 0) (ok0_of tabOk (by unfold ArrOk; kernel_rfl) mix ⟨ok_I_isEnded, trivial⟩ trivial) Tryz.func115 (by kernel_rfl) (by kernel_rfl) (by kernel_rfl)
    (by rw [show loopsOf (bodyOf Tryz.f115) = [] from by kernel_rfl]; exact trivial) (fun x => ef_I_shown x.1 x.2.1)
noncomputable def pl_I_Row_sign : Plan := ⟨[], [], 0, 0⟩
noncomputable def f_I_Row_sign (t0 : PV Y_impl_Row) : Option (PVs [.str] × PVs []) :=
  bif cutB t0.1 (IntKind.wrap .i64 (t0.1 + 1)) [63, 32, 45, 43].length then
    some (((cutL t0.1 (IntKind.wrap .i64 (t0.1 + 1)) [63, 32, 45, 43]), ()), ())
  else
    none
noncomputable def ct_I_Row_sign : Ct := ⟨[(.bor, Y_impl_Row)], [(.str, .b)], fun x => f_I_Row_sign x.1⟩
noncomputable def cx_I_Row_sign : Cx := ⟨tab, arrs, [], [], gl, []⟩
theorem ef_I_Row_sign (t0 : PV Y_impl_Row) : denF cx_I_Row_sign 0 pl_I_Row_sign Tryz.f116.ntmps (bodyOf Tryz.f116) Tryz.f116.results.toList [(.bor, Y_impl_Row)] [(.str, .b)] (t0, ()) = f_I_Row_sign t0 := by kernel_rfl
theorem ok_I_Row_sign : FnOk gl Tryz.prog 116 ct_I_Row_sign :=
  fnOk (cx := cx_I_Row_sign) (pl := pl_I_Row_sign) (dp := 0) (ok0_of tabOk (by unfold ArrOk; kernel_rfl) mix trivial trivial) Tryz.func116 (by kernel_rfl) (by kernel_rfl) (by kernel_rfl)
    (by rw [show loopsOf (bodyOf Tryz.f116) = [] from by kernel_rfl]; exact trivial) (fun x => ef_I_Row_sign x.1)
noncomputable def o_I_Group_half_8 : List Out := [⟨.normal, ⟨[], [1, 2, 5, 7, 9, 10, 11, 29], []⟩, mkSh 46 [(1, .val (.int .i64) .b), (2, .var Y_impl_Group .b), (5, .val .str .b), (7, .var Y_impl_Row .b), (9, .val S_impl_Row .b), (10, .val (.int .i64) .b), (11, .val (.int .i64) .b), (29, .val .bool .b)]⟩]
noncomputable def o_I_Group_half_9 : List Out := [⟨.normal, ⟨[], [1, 2, 5, 9, 10, 11, 34, 35, 36, 37], []⟩, mkSh 46 [(1, .val (.int .i64) .b), (2, .var Y_impl_Group .b), (5, .val .str .b), (9, .val S_impl_Row .b), (10, .val (.int .i64) .b), (11, .val (.int .i64) .b)]⟩]
noncomputable def sh_I_Group_half_3 : List Sh := mkSh 46 [(1, .val (.int .i64) .b), (2, .var Y_impl_Group .b), (5, .val .str .b), (9, .val S_impl_Row .b), (10, .val (.int .i64) .b), (11, .val (.int .i64) .b)]
noncomputable def o_I_Group_half_3 : List Out := [⟨.exit 0, ⟨[], [5], []⟩, mkSh 46 [(5, .val .str .b)]⟩]
noncomputable def b_I_Group_half_3 (t1 : PV (.int .i64)) (t2 : PV Y_impl_Group) (t5 : PV .str) (t9 : PV S_impl_Row) (t10 : PV (.int .i64)) (t11 : PV (.int .i64)) : Option ((PV (.int .i64) × PV Y_impl_Group × PV .str × PV S_impl_Row × PV (.int .i64) × PV (.int .i64) × Unit) ⊕ ((PV .str × Unit))) :=
  bif (decide (t11 < t10)) then
    ((
        bif inB t11 t9.length then
          bif (((t9.getD t11.toNat (dflt Y_impl_Row)).1) == t1) then
            some (t1, t2, t5, t9, t10, t11, ())
          else
            ((
                bif (!(((t9.getD t11.toNat (dflt Y_impl_Row)).1) == 1)) then
                  (f_I_Group_runHas t2 t11 t1).bind fun r1 =>
                    some (t1, t2, t5, (t9.getD t11.toNat (dflt Y_impl_Row)), t9, t10, t11, r1.1.1, ())
                else
                  some (t1, t2, t5, (t9.getD t11.toNat (dflt Y_impl_Row)), t9, t10, t11, false, ()) : Option ((PV (.int .i64) × PV Y_impl_Group × PV .str × PV Y_impl_Row × PV S_impl_Row × PV (.int .i64) × PV (.int .i64) × PV .bool × Unit)))).bind fun j2 =>
              bif j2.2.2.2.2.2.2.2.1 then
                (f_I_shown [33, 32] j2.2.2.2.1.2.1).bind fun r3 =>
                  bif decide (j2.2.2.1.length + r3.1.1.length ≤ 1099511627776) then
                    some (j2.1, j2.2.1, (j2.2.2.1 ++ r3.1.1), j2.2.2.2.2.1, j2.2.2.2.2.2.1, j2.2.2.2.2.2.2.1, ())
                  else
                    none
              else
                (f_I_Row_sign j2.2.2.2.1).bind fun r4 =>
                  bif decide (r4.1.1.length + [32].length ≤ 1099511627776) then
                    (f_I_shown (r4.1.1 ++ [32]) j2.2.2.2.1.2.1).bind fun r5 =>
                      bif decide (j2.2.2.1.length + r5.1.1.length ≤ 1099511627776) then
                        some (j2.1, j2.2.1, (j2.2.2.1 ++ r5.1.1), j2.2.2.2.2.1, j2.2.2.2.2.2.1, j2.2.2.2.2.2.2.1, ())
                      else
                        none
                  else
                    none
        else
          none : Option ((PV (.int .i64) × PV Y_impl_Group × PV .str × PV S_impl_Row × PV (.int .i64) × PV (.int .i64) × Unit)))).bind fun j6 =>
      some (.inl (j6.1, j6.2.1, j6.2.2.1, j6.2.2.2.1, j6.2.2.2.2.1, (IntKind.wrap .i64 (j6.2.2.2.2.2.1 + 1)), ()))
  else
    some (.inr (t5, ()))
noncomputable def w_I_Group_half_3 : PV (.int .i64) × PV Y_impl_Group × PV .str × PV S_impl_Row × PV (.int .i64) × PV (.int .i64) × Unit → Option ((PV .str × Unit)) := fix fun d => b_I_Group_half_3 d.1 d.2.1 d.2.2.1 d.2.2.2.1 d.2.2.2.2.1 d.2.2.2.2.2.1
noncomputable def lp_I_Group_half_3 : Lp := ⟨⟨[], [1, 2, 5, 9, 10, 11, 34, 35, 36, 37], []⟩, sh_I_Group_half_3, o_I_Group_half_3, fun d => b_I_Group_half_3 d.1 d.2.1 d.2.2.1 d.2.2.2.1 d.2.2.2.2.1 d.2.2.2.2.2.1⟩
noncomputable def pl_I_Group_half : Plan := ⟨[(8, o_I_Group_half_8), (9, o_I_Group_half_9)], [(3, lp_I_Group_half_3)], 0, 0⟩
noncomputable def f_I_Group_half (t0 : PV Y_impl_Group) (t1 : PV (.int .i64)) : Option (PVs [.str] × PVs []) :=
  (w_I_Group_half_3 (t1, t0, [], t0.2.2.1, (t0.2.2.1.length : Int), 0, ())).bind fun l8 =>
    some ((l8.1, ()), ())
noncomputable def ct_I_Group_half : Ct := ⟨[(.bor, Y_impl_Group), (.bor, (.int .i64))], [(.str, .b)], fun x => f_I_Group_half x.1 x.2.1⟩
noncomputable def cx_I_Group_half : Cx := ⟨tab, arrs, [(114, ct_I_Group_runHas), (115, ct_I_shown), (116, ct_I_Row_sign)], [], gl, []⟩
theorem eb_I_Group_half_3 (t1 : PV (.int .i64)) (t2 : PV Y_impl_Group) (t5 : PV .str) (t9 : PV S_impl_Row) (t10 : PV (.int .i64)) (t11 : PV (.int .i64)) : denK cx_I_Group_half (rcN cx_I_Group_half 0) pl_I_Group_half 0 ((loopsOf (bodyOf Tryz.f60)).getD 0 .skip) (fillS sh_I_Group_half_3 (t1, t2, t5, t9, t10, t11, ())) (roundK 0 lp_I_Group_half_3) = b_I_Group_half_3 t1 t2 t5 t9 t10 t11 := by kernel_rfl
theorem ef_I_Group_half (t0 : PV Y_impl_Group) (t1 : PV (.int .i64)) : denF cx_I_Group_half 0 pl_I_Group_half Tryz.f60.ntmps (bodyOf Tryz.f60) Tryz.f60.results.toList [(.bor, Y_impl_Group), (.bor, (.int .i64))] [(.str, .b)] (t0, t1, ()) = f_I_Group_half t0 t1 := by kernel_rfl
theorem ok_I_Group_half : FnOk gl Tryz.prog 60 ct_I_Group_half :=
  fnOk (cx := cx_I_Group_half) (pl := pl_I_Group_half) (dp := 0) (ok0_of tabOk (by unfold ArrOk; kernel_rfl) mix ⟨ok_I_Group_runHas, ok_I_shown, ok_I_Row_sign, trivial⟩ trivial) Tryz.func60 (by kernel_rfl) (by kernel_rfl) (by kernel_rfl)
    (by rw [show loopsOf (bodyOf Tryz.f60) = [((loopsOf (bodyOf Tryz.f60)).getD 0 .skip)] from by kernel_rfl]; exact ⟨(by rw [show lookup pl_I_Group_half.loops (firstId ((loopsOf (bodyOf Tryz.f60)).getD 0 .skip)) = some lp_I_Group_half_3 from by kernel_rfl]; exact fun d z h => (eb_I_Group_half_3 d.1 d.2.1 d.2.2.1 d.2.2.2.1 d.2.2.2.2.1 d.2.2.2.2.2.1).trans h), trivial⟩) (fun x => ef_I_Group_half x.1 x.2.1)
noncomputable def o_I_sidesText_9 : List Out := [⟨.normal, ⟨[], [3, 5, 7, 8, 9, 10], []⟩, mkSh 60 [(3, .val .str .b), (5, .var Y_impl_Group .b), (7, .val (.int .i64) .b), (8, .val S_impl_Group .b), (9, .val (.int .i64) .b), (10, .val (.int .i64) .b)]⟩]
noncomputable def o_I_sidesText_12 : List Out := [⟨.normal, ⟨[], [3, 8, 9, 10], []⟩, mkSh 60 [(3, .val .str .b), (8, .val S_impl_Group .b), (9, .val (.int .i64) .b), (10, .val (.int .i64) .b)]⟩]
noncomputable def sh_I_sidesText_3 : List Sh := mkSh 60 [(3, .val .str .b), (8, .val S_impl_Group .b), (9, .val (.int .i64) .b), (10, .val (.int .i64) .b)]
noncomputable def o_I_sidesText_3 : List Out := [⟨.exit 0, ⟨[], [3], []⟩, mkSh 60 [(3, .val .str .b)]⟩]
noncomputable def b_I_sidesText_3 (t3 : PV .str) (t8 : PV S_impl_Group) (t9 : PV (.int .i64)) (t10 : PV (.int .i64)) : Option ((PV .str × PV S_impl_Group × PV (.int .i64) × PV (.int .i64) × Unit) ⊕ ((PV .str × Unit))) :=
  bif (decide (t10 < t9)) then
    ((
        bif inB t10 t8.length then
          (f_I_Group_old (t8.getD t10.toNat (dflt Y_impl_Group))).bind fun r3 =>
            (f_I_Group_fresh (t8.getD t10.toNat (dflt Y_impl_Group))).bind fun r4 =>
              (f_I_numberOf ((t8.getD t10.toNat (dflt Y_impl_Group)).1) (r3.1.1.length : Int)).bind fun r8 =>
                (f_I_endOf ((t8.getD t10.toNat (dflt Y_impl_Group)).1) (r3.1.1.length : Int)).bind fun r9 =>
                  (f_I_pairOf r8.1.1 r9.1.1).bind fun r10 =>
                    bif decide ([42, 42, 42, 42, 42, 42, 42, 42, 42, 42, 42, 42, 42, 42, 42, 10, 42, 42, 42, 32].length + r10.1.1.length ≤ 1099511627776) then
                      bif decide (([42, 42, 42, 42, 42, 42, 42, 42, 42, 42, 42, 42, 42, 42, 42, 10, 42, 42, 42, 32] ++ r10.1.1).length + [32, 42, 42, 42, 42, 10].length ≤ 1099511627776) then
                        bif decide (t3.length + (([42, 42, 42, 42, 42, 42, 42, 42, 42, 42, 42, 42, 42, 42, 42, 10, 42, 42, 42, 32] ++ r10.1.1) ++ [32, 42, 42, 42, 42, 10]).length ≤ 1099511627776) then
                          ((
                              (f_I_Group_has (t8.getD t10.toNat (dflt Y_impl_Group)) 2).bind fun r12 =>
                                bif r12.1.1 then
                                  (f_I_Group_half (t8.getD t10.toNat (dflt Y_impl_Group)) 3).bind fun r13 =>
                                    bif decide ((t3 ++ (([42, 42, 42, 42, 42, 42, 42, 42, 42, 42, 42, 42, 42, 42, 42, 10, 42, 42, 42, 32] ++ r10.1.1) ++ [32, 42, 42, 42, 42, 10])).length + r13.1.1.length ≤ 1099511627776) then
                                      some (((t3 ++ (([42, 42, 42, 42, 42, 42, 42, 42, 42, 42, 42, 42, 42, 42, 42, 10, 42, 42, 42, 32] ++ r10.1.1) ++ [32, 42, 42, 42, 42, 10])) ++ r13.1.1), (t8.getD t10.toNat (dflt Y_impl_Group)), (r4.1.1.length : Int), t8, t9, t10, ())
                                    else
                                      none
                                else
                                  some ((t3 ++ (([42, 42, 42, 42, 42, 42, 42, 42, 42, 42, 42, 42, 42, 42, 42, 10, 42, 42, 42, 32] ++ r10.1.1) ++ [32, 42, 42, 42, 42, 10])), (t8.getD t10.toNat (dflt Y_impl_Group)), (r4.1.1.length : Int), t8, t9, t10, ()) : Option ((PV .str × PV Y_impl_Group × PV (.int .i64) × PV S_impl_Group × PV (.int .i64) × PV (.int .i64) × Unit)))).bind fun j14 =>
                            (f_I_numberOf j14.2.1.2.1 j14.2.2.1).bind fun r18 =>
                              (f_I_endOf j14.2.1.2.1 j14.2.2.1).bind fun r19 =>
                                (f_I_pairOf r18.1.1 r19.1.1).bind fun r20 =>
                                  bif decide ([45, 45, 45, 32].length + r20.1.1.length ≤ 1099511627776) then
                                    bif decide (([45, 45, 45, 32] ++ r20.1.1).length + [32, 45, 45, 45, 45, 10].length ≤ 1099511627776) then
                                      bif decide (j14.1.length + (([45, 45, 45, 32] ++ r20.1.1) ++ [32, 45, 45, 45, 45, 10]).length ≤ 1099511627776) then
                                        (f_I_Group_has j14.2.1 3).bind fun r22 =>
                                          bif r22.1.1 then
                                            (f_I_Group_half j14.2.1 2).bind fun r23 =>
                                              bif decide ((j14.1 ++ (([45, 45, 45, 32] ++ r20.1.1) ++ [32, 45, 45, 45, 45, 10])).length + r23.1.1.length ≤ 1099511627776) then
                                                some (((j14.1 ++ (([45, 45, 45, 32] ++ r20.1.1) ++ [32, 45, 45, 45, 45, 10])) ++ r23.1.1), j14.2.2.2.1, j14.2.2.2.2.1, j14.2.2.2.2.2.1, ())
                                              else
                                                none
                                          else
                                            some ((j14.1 ++ (([45, 45, 45, 32] ++ r20.1.1) ++ [32, 45, 45, 45, 45, 10])), j14.2.2.2.1, j14.2.2.2.2.1, j14.2.2.2.2.2.1, ())
                                      else
                                        none
                                    else
                                      none
                                  else
                                    none
                        else
                          none
                      else
                        none
                    else
                      none
        else
          none : Option ((PV .str × PV S_impl_Group × PV (.int .i64) × PV (.int .i64) × Unit)))).bind fun j24 =>
      some (.inl (j24.1, j24.2.1, j24.2.2.1, (IntKind.wrap .i64 (j24.2.2.2.1 + 1)), ()))
  else
    some (.inr (t3, ()))
noncomputable def w_I_sidesText_3 : PV .str × PV S_impl_Group × PV (.int .i64) × PV (.int .i64) × Unit → Option ((PV .str × Unit)) := fix fun d => b_I_sidesText_3 d.1 d.2.1 d.2.2.1 d.2.2.2.1
noncomputable def lp_I_sidesText_3 : Lp := ⟨⟨[], [3, 8, 9, 10], []⟩, sh_I_sidesText_3, o_I_sidesText_3, fun d => b_I_sidesText_3 d.1 d.2.1 d.2.2.1 d.2.2.2.1⟩
noncomputable def pl_I_sidesText : Plan := ⟨[(9, o_I_sidesText_9), (12, o_I_sidesText_12)], [(3, lp_I_sidesText_3)], 0, 0⟩
noncomputable def f_I_sidesText (t0 : PV S_impl_Group) : Option (PVs [.str] × PVs []) :=
  (w_I_sidesText_3 ([], t0, (t0.length : Int), 0, ())).bind fun l26 =>
    some ((l26.1, ()), ())
noncomputable def ct_I_sidesText : Ct := ⟨[(.bor, S_impl_Group)], [(.str, .b)], fun x => f_I_sidesText x.1⟩
noncomputable def cx_I_sidesText : Cx := ⟨tab, arrs, [(60, ct_I_Group_half), (103, ct_I_Group_old), (104, ct_I_Group_fresh), (105, ct_I_pairOf), (106, ct_I_numberOf), (107, ct_I_endOf), (108, ct_I_Group_has)], [], gl, []⟩
theorem eb_I_sidesText_3 (t3 : PV .str) (t8 : PV S_impl_Group) (t9 : PV (.int .i64)) (t10 : PV (.int .i64)) : denK cx_I_sidesText (rcN cx_I_sidesText 0) pl_I_sidesText 0 ((loopsOf (bodyOf Tryz.f52)).getD 0 .skip) (fillS sh_I_sidesText_3 (t3, t8, t9, t10, ())) (roundK 0 lp_I_sidesText_3) = b_I_sidesText_3 t3 t8 t9 t10 := by kernel_rfl
theorem ef_I_sidesText (t0 : PV S_impl_Group) : denF cx_I_sidesText 0 pl_I_sidesText Tryz.f52.ntmps (bodyOf Tryz.f52) Tryz.f52.results.toList [(.bor, S_impl_Group)] [(.str, .b)] (t0, ()) = f_I_sidesText t0 := by kernel_rfl
theorem ok_I_sidesText : FnOk gl Tryz.prog 52 ct_I_sidesText :=
  fnOk (cx := cx_I_sidesText) (pl := pl_I_sidesText) (dp := 0) (ok0_of tabOk (by unfold ArrOk; kernel_rfl) mix ⟨ok_I_Group_half, ok_I_Group_old, ok_I_Group_fresh, ok_I_pairOf, ok_I_numberOf, ok_I_endOf, ok_I_Group_has, trivial⟩ trivial) Tryz.func52 (by kernel_rfl) (by kernel_rfl) (by kernel_rfl)
    (by rw [show loopsOf (bodyOf Tryz.f52) = [((loopsOf (bodyOf Tryz.f52)).getD 0 .skip)] from by kernel_rfl]; exact ⟨(by rw [show lookup pl_I_sidesText.loops (firstId ((loopsOf (bodyOf Tryz.f52)).getD 0 .skip)) = some lp_I_sidesText_3 from by kernel_rfl]; exact fun d z h => (eb_I_sidesText_3 d.1 d.2.1 d.2.2.1 d.2.2.2.1).trans h), trivial⟩) (fun x => ef_I_sidesText x.1)
noncomputable def pl_I_short : Plan := ⟨[], [], 0, 0⟩
noncomputable def f_I_short (t0 : PV .str) : Option (PVs [.str, .bool] × PVs []) :=
  bif (decide ((t0.length : Int) > 3000)) then
    some (([], false, ()), ())
  else
    some ((t0, true, ()), ())
noncomputable def ct_I_short : Ct := ⟨[(.bor, .str)], [(.str, .b), (.bool, .b)], fun x => f_I_short x.1⟩
noncomputable def cx_I_short : Cx := ⟨tab, arrs, [], [], gl, []⟩
theorem ef_I_short (t0 : PV .str) : denF cx_I_short 0 pl_I_short Tryz.f51.ntmps (bodyOf Tryz.f51) Tryz.f51.results.toList [(.bor, .str)] [(.str, .b), (.bool, .b)] (t0, ()) = f_I_short t0 := by kernel_rfl
theorem ok_I_short : FnOk gl Tryz.prog 51 ct_I_short :=
  fnOk (cx := cx_I_short) (pl := pl_I_short) (dp := 0) (ok0_of tabOk (by unfold ArrOk; kernel_rfl) mix trivial trivial) Tryz.func51 (by kernel_rfl) (by kernel_rfl) (by kernel_rfl)
    (by rw [show loopsOf (bodyOf Tryz.f51) = [] from by kernel_rfl]; exact trivial) (fun x => ef_I_short x.1)
noncomputable def pl_I_SidesText : Plan := ⟨[], [], 0, 0⟩
noncomputable def f_I_SidesText (t0 : PV S_impl_Group) : Option (PVs [.str, .bool] × PVs []) :=
  (f_I_goodGroups t0).bind fun r4 =>
    bif (!r4.1.1) then
      some (([], false, ()), ())
    else
      (f_I_sidesText t0).bind fun r5 =>
        (f_I_short r5.1.1).bind fun r6 =>
          some ((r6.1.1, r6.1.2.1, ()), ())
noncomputable def ct_I_SidesText : Ct := ⟨[(.bor, S_impl_Group)], [(.str, .b), (.bool, .b)], fun x => f_I_SidesText x.1⟩
noncomputable def cx_I_SidesText : Cx := ⟨tab, arrs, [(50, ct_I_goodGroups), (51, ct_I_short), (52, ct_I_sidesText)], [], gl, []⟩
theorem ef_I_SidesText (t0 : PV S_impl_Group) : denF cx_I_SidesText 0 pl_I_SidesText Tryz.f21.ntmps (bodyOf Tryz.f21) Tryz.f21.results.toList [(.bor, S_impl_Group)] [(.str, .b), (.bool, .b)] (t0, ()) = f_I_SidesText t0 := by kernel_rfl
theorem ok_I_SidesText : FnOk gl Tryz.prog 21 ct_I_SidesText :=
  fnOk (cx := cx_I_SidesText) (pl := pl_I_SidesText) (dp := 0) (ok0_of tabOk (by unfold ArrOk; kernel_rfl) mix ⟨ok_I_goodGroups, ok_I_short, ok_I_sidesText, trivial⟩ trivial) Tryz.func21 (by kernel_rfl) (by kernel_rfl) (by kernel_rfl)
    (by rw [show loopsOf (bodyOf Tryz.f21) = [] from by kernel_rfl]; exact trivial) (fun x => ef_I_SidesText x.1)
noncomputable def o_I_ReadContext_5 : List Out := [⟨.normal, ⟨[], [5, 31], []⟩, mkSh 33 [(5, .val S_impl_Group (.row (.pr .b (.pr .b (.pr (.row (.pr .b (.pr .b .b))) .b))))), (31, .val .bool .b)]⟩]
noncomputable def o_I_ReadContext_6 : List Out := [⟨.normal, ⟨[], [], []⟩, mkSh 33 []⟩, ⟨.ret, ⟨[], [2, 3, 4], []⟩, mkSh 33 [(2, .val S_impl_Group (.row (.pr .b (.pr .b (.pr (.row (.pr .b (.pr .b .b))) .b))))), (3, .val (.int .i64) .b), (4, .val .bool .b)]⟩]
noncomputable def pl_I_ReadContext : Plan := ⟨[(5, o_I_ReadContext_5), (6, o_I_ReadContext_6)], [], 0, 0⟩
noncomputable def f_I_ReadContext (t0 : PV .str) : Option (PVs [S_impl_Group, (.int .i64), .bool] × PVs []) :=
  ((
      bif (decide ((t0.length : Int) ≤ 3000)) then
        (f_I_linesOf t0).bind fun r10 =>
          (f_I_readSides r10.1.1).bind fun r11 =>
            (f_I_SidesText r11.1.1).bind fun r13 =>
              ((
                  bif r11.1.2.1 then
                    bif r13.1.2.1 then
                      some (r11.1.1, (r13.1.1 == t0), ())
                    else
                      some (r11.1.1, false, ())
                  else
                    some (r11.1.1, false, ()) : Option ((PV S_impl_Group × PV .bool × Unit)))).bind fun j14 =>
                bif j14.2.1 then
                  some (.inr (j14.1, 0, true, ()))
                else
                  some (.inl ())
      else
        some (.inl ()) : Option ((Unit) ⊕ (PV S_impl_Group × PV (.int .i64) × PV .bool × Unit)))).bind fun x17 =>
    match x17 with
    | .inl j15 =>
      some (([], 1, false, ()), ())
    | .inr j16 =>
      some ((j16.1, j16.2.1, j16.2.2.1, ()), ())
noncomputable def ct_I_ReadContext : Ct := ⟨[(.bor, .str)], [(S_impl_Group, (.row (.pr .b (.pr .b (.pr (.row (.pr .b (.pr .b .b))) .b))))), ((.int .i64), .b), (.bool, .b)], fun x => f_I_ReadContext x.1⟩
noncomputable def cx_I_ReadContext : Cx := ⟨tab, arrs, [(21, ct_I_SidesText), (44, ct_I_readSides), (45, ct_I_linesOf)], [], gl, []⟩
theorem ef_I_ReadContext (t0 : PV .str) : denF cx_I_ReadContext 0 pl_I_ReadContext Tryz.f16.ntmps (bodyOf Tryz.f16) Tryz.f16.results.toList [(.bor, .str)] [(S_impl_Group, (.row (.pr .b (.pr .b (.pr (.row (.pr .b (.pr .b .b))) .b))))), ((.int .i64), .b), (.bool, .b)] (t0, ()) = f_I_ReadContext t0 := by kernel_rfl
theorem ok_I_ReadContext : FnOk gl Tryz.prog 16 ct_I_ReadContext :=
  fnOk (cx := cx_I_ReadContext) (pl := pl_I_ReadContext) (dp := 0) (ok0_of tabOk (by unfold ArrOk; kernel_rfl) mix ⟨ok_I_SidesText, ok_I_readSides, ok_I_linesOf, trivial⟩ trivial) Tryz.func16 (by kernel_rfl) (by kernel_rfl) (by kernel_rfl)
    (by rw [show loopsOf (bodyOf Tryz.f16) = [] from by kernel_rfl]; exact trivial) (fun x => ef_I_ReadContext x.1)
noncomputable def pl_L_eqRow : Plan := ⟨[], [], 0, 0⟩
noncomputable def f_L_eqRow (t0 : PV Y_impl_Row) (t1 : PV Y_impl_Row) : Option (PVs [.bool] × PVs []) :=
  bif (!(t0.1 == t1.1)) then
    some ((false, ()), ())
  else
    bif (!(t0.2.1 == t1.2.1)) then
      some ((false, ()), ())
    else
      some ((true, ()), ())
noncomputable def ct_L_eqRow : Ct := ⟨[(.bor, Y_impl_Row), (.bor, Y_impl_Row)], [(.bool, .b)], fun x => f_L_eqRow x.1 x.2.1⟩
noncomputable def cx_L_eqRow : Cx := ⟨tab, arrs, [], [], gl, []⟩
theorem ef_L_eqRow (t0 : PV Y_impl_Row) (t1 : PV Y_impl_Row) : denF cx_L_eqRow 0 pl_L_eqRow Tryz.f150.ntmps (bodyOf Tryz.f150) Tryz.f150.results.toList [(.bor, Y_impl_Row), (.bor, Y_impl_Row)] [(.bool, .b)] (t0, t1, ()) = f_L_eqRow t0 t1 := by kernel_rfl
theorem ok_L_eqRow : FnOk gl Tryz.prog 150 ct_L_eqRow :=
  fnOk (cx := cx_L_eqRow) (pl := pl_L_eqRow) (dp := 0) (ok0_of tabOk (by unfold ArrOk; kernel_rfl) mix trivial trivial) Tryz.func150 (by kernel_rfl) (by kernel_rfl) (by kernel_rfl)
    (by rw [show loopsOf (bodyOf Tryz.f150) = [] from by kernel_rfl]; exact trivial) (fun x => ef_L_eqRow x.1 x.2.1)
noncomputable def sh_L_eqRowS_4 : List Sh := mkSh 27 [(0, .val S_impl_Row .b), (1, .val S_impl_Row .b), (5, .val (.int .i64) .b)]
noncomputable def o_L_eqRowS_4 : List Out := [⟨.exit 0, ⟨[], [], []⟩, mkSh 27 []⟩, ⟨.ret, ⟨[], [4], []⟩, mkSh 27 [(4, .val .bool .b)]⟩]
noncomputable def b_L_eqRowS_4 (t0 : PV S_impl_Row) (t1 : PV S_impl_Row) (t5 : PV (.int .i64)) : Option ((PV S_impl_Row × PV S_impl_Row × PV (.int .i64) × Unit) ⊕ ((Unit) ⊕ (PV .bool × Unit))) :=
  bif (decide (t5 < (t0.length : Int))) then
    bif inB t5 t0.length then
      bif inB t5 t1.length then
        (f_L_eqRow (t0.getD t5.toNat (dflt Y_impl_Row)) (t1.getD t5.toNat (dflt Y_impl_Row))).bind fun r4 =>
          bif (!r4.1.1) then
            some (.inr (.inr (false, ())))
          else
            some (.inl (t0, t1, (IntKind.wrap .i64 (t5 + 1)), ()))
      else
        none
    else
      none
  else
    some (.inr (.inl ()))
noncomputable def w_L_eqRowS_4 : PV S_impl_Row × PV S_impl_Row × PV (.int .i64) × Unit → Option ((Unit) ⊕ (PV .bool × Unit)) := fix fun d => b_L_eqRowS_4 d.1 d.2.1 d.2.2.1
noncomputable def lp_L_eqRowS_4 : Lp := ⟨⟨[], [0, 1, 5], []⟩, sh_L_eqRowS_4, o_L_eqRowS_4, fun d => b_L_eqRowS_4 d.1 d.2.1 d.2.2.1⟩
noncomputable def pl_L_eqRowS : Plan := ⟨[], [(4, lp_L_eqRowS_4)], 0, 0⟩
noncomputable def f_L_eqRowS (t0 : PV S_impl_Row) (t1 : PV S_impl_Row) : Option (PVs [.bool] × PVs []) :=
  bif (!((t0.length : Int) == (t1.length : Int))) then
    some ((false, ()), ())
  else
    (w_L_eqRowS_4 (t0, t1, 0, ())).bind fun x9 =>
      match x9 with
      | .inl l7 =>
        some ((true, ()), ())
      | .inr l8 =>
        some ((l8.1, ()), ())
noncomputable def ct_L_eqRowS : Ct := ⟨[(.bor, S_impl_Row), (.bor, S_impl_Row)], [(.bool, .b)], fun x => f_L_eqRowS x.1 x.2.1⟩
noncomputable def cx_L_eqRowS : Cx := ⟨tab, arrs, [(150, ct_L_eqRow)], [], gl, []⟩
theorem eb_L_eqRowS_4 (t0 : PV S_impl_Row) (t1 : PV S_impl_Row) (t5 : PV (.int .i64)) : denK cx_L_eqRowS (rcN cx_L_eqRowS 0) pl_L_eqRowS 0 ((loopsOf (bodyOf Tryz.f101)).getD 0 .skip) (fillS sh_L_eqRowS_4 (t0, t1, t5, ())) (roundK 0 lp_L_eqRowS_4) = b_L_eqRowS_4 t0 t1 t5 := by kernel_rfl
theorem ef_L_eqRowS (t0 : PV S_impl_Row) (t1 : PV S_impl_Row) : denF cx_L_eqRowS 0 pl_L_eqRowS Tryz.f101.ntmps (bodyOf Tryz.f101) Tryz.f101.results.toList [(.bor, S_impl_Row), (.bor, S_impl_Row)] [(.bool, .b)] (t0, t1, ()) = f_L_eqRowS t0 t1 := by kernel_rfl
theorem ok_L_eqRowS : FnOk gl Tryz.prog 101 ct_L_eqRowS :=
  fnOk (cx := cx_L_eqRowS) (pl := pl_L_eqRowS) (dp := 0) (ok0_of tabOk (by unfold ArrOk; kernel_rfl) mix ⟨ok_L_eqRow, trivial⟩ trivial) Tryz.func101 (by kernel_rfl) (by kernel_rfl) (by kernel_rfl)
    (by rw [show loopsOf (bodyOf Tryz.f101) = [((loopsOf (bodyOf Tryz.f101)).getD 0 .skip)] from by kernel_rfl]; exact ⟨(by rw [show lookup pl_L_eqRowS.loops (firstId ((loopsOf (bodyOf Tryz.f101)).getD 0 .skip)) = some lp_L_eqRowS_4 from by kernel_rfl]; exact fun d z h => (eb_L_eqRowS_4 d.1 d.2.1 d.2.2.1).trans h), trivial⟩) (fun x => ef_L_eqRowS x.1 x.2.1)
noncomputable def pl_L_eqGroup : Plan := ⟨[], [], 0, 0⟩
noncomputable def f_L_eqGroup (t0 : PV Y_impl_Group) (t1 : PV Y_impl_Group) : Option (PVs [.bool] × PVs []) :=
  bif (!(t0.1 == t1.1)) then
    some ((false, ()), ())
  else
    bif (!(t0.2.1 == t1.2.1)) then
      some ((false, ()), ())
    else
      (f_L_eqRowS t0.2.2.1 t1.2.2.1).bind fun r4 =>
        bif (!r4.1.1) then
          some ((false, ()), ())
        else
          some ((true, ()), ())
noncomputable def ct_L_eqGroup : Ct := ⟨[(.bor, Y_impl_Group), (.bor, Y_impl_Group)], [(.bool, .b)], fun x => f_L_eqGroup x.1 x.2.1⟩
noncomputable def cx_L_eqGroup : Cx := ⟨tab, arrs, [(101, ct_L_eqRowS)], [], gl, []⟩
theorem ef_L_eqGroup (t0 : PV Y_impl_Group) (t1 : PV Y_impl_Group) : denF cx_L_eqGroup 0 pl_L_eqGroup Tryz.f46.ntmps (bodyOf Tryz.f46) Tryz.f46.results.toList [(.bor, Y_impl_Group), (.bor, Y_impl_Group)] [(.bool, .b)] (t0, t1, ()) = f_L_eqGroup t0 t1 := by kernel_rfl
theorem ok_L_eqGroup : FnOk gl Tryz.prog 46 ct_L_eqGroup :=
  fnOk (cx := cx_L_eqGroup) (pl := pl_L_eqGroup) (dp := 0) (ok0_of tabOk (by unfold ArrOk; kernel_rfl) mix ⟨ok_L_eqRowS, trivial⟩ trivial) Tryz.func46 (by kernel_rfl) (by kernel_rfl) (by kernel_rfl)
    (by rw [show loopsOf (bodyOf Tryz.f46) = [] from by kernel_rfl]; exact trivial) (fun x => ef_L_eqGroup x.1 x.2.1)
noncomputable def sh_L_eqGroupS_4 : List Sh := mkSh 27 [(0, .val S_impl_Group .b), (1, .val S_impl_Group .b), (5, .val (.int .i64) .b)]
noncomputable def o_L_eqGroupS_4 : List Out := [⟨.exit 0, ⟨[], [], []⟩, mkSh 27 []⟩, ⟨.ret, ⟨[], [4], []⟩, mkSh 27 [(4, .val .bool .b)]⟩]
noncomputable def b_L_eqGroupS_4 (t0 : PV S_impl_Group) (t1 : PV S_impl_Group) (t5 : PV (.int .i64)) : Option ((PV S_impl_Group × PV S_impl_Group × PV (.int .i64) × Unit) ⊕ ((Unit) ⊕ (PV .bool × Unit))) :=
  bif (decide (t5 < (t0.length : Int))) then
    bif inB t5 t0.length then
      bif inB t5 t1.length then
        (f_L_eqGroup (t0.getD t5.toNat (dflt Y_impl_Group)) (t1.getD t5.toNat (dflt Y_impl_Group))).bind fun r4 =>
          bif (!r4.1.1) then
            some (.inr (.inr (false, ())))
          else
            some (.inl (t0, t1, (IntKind.wrap .i64 (t5 + 1)), ()))
      else
        none
    else
      none
  else
    some (.inr (.inl ()))
noncomputable def w_L_eqGroupS_4 : PV S_impl_Group × PV S_impl_Group × PV (.int .i64) × Unit → Option ((Unit) ⊕ (PV .bool × Unit)) := fix fun d => b_L_eqGroupS_4 d.1 d.2.1 d.2.2.1
noncomputable def lp_L_eqGroupS_4 : Lp := ⟨⟨[], [0, 1, 5], []⟩, sh_L_eqGroupS_4, o_L_eqGroupS_4, fun d => b_L_eqGroupS_4 d.1 d.2.1 d.2.2.1⟩
noncomputable def pl_L_eqGroupS : Plan := ⟨[], [(4, lp_L_eqGroupS_4)], 0, 0⟩
noncomputable def f_L_eqGroupS (t0 : PV S_impl_Group) (t1 : PV S_impl_Group) : Option (PVs [.bool] × PVs []) :=
  bif (!((t0.length : Int) == (t1.length : Int))) then
    some ((false, ()), ())
  else
    (w_L_eqGroupS_4 (t0, t1, 0, ())).bind fun x9 =>
      match x9 with
      | .inl l7 =>
        some ((true, ()), ())
      | .inr l8 =>
        some ((l8.1, ()), ())
noncomputable def ct_L_eqGroupS : Ct := ⟨[(.bor, S_impl_Group), (.bor, S_impl_Group)], [(.bool, .b)], fun x => f_L_eqGroupS x.1 x.2.1⟩
noncomputable def cx_L_eqGroupS : Cx := ⟨tab, arrs, [(46, ct_L_eqGroup)], [], gl, []⟩
theorem eb_L_eqGroupS_4 (t0 : PV S_impl_Group) (t1 : PV S_impl_Group) (t5 : PV (.int .i64)) : denK cx_L_eqGroupS (rcN cx_L_eqGroupS 0) pl_L_eqGroupS 0 ((loopsOf (bodyOf Tryz.f17)).getD 0 .skip) (fillS sh_L_eqGroupS_4 (t0, t1, t5, ())) (roundK 0 lp_L_eqGroupS_4) = b_L_eqGroupS_4 t0 t1 t5 := by kernel_rfl
theorem ef_L_eqGroupS (t0 : PV S_impl_Group) (t1 : PV S_impl_Group) : denF cx_L_eqGroupS 0 pl_L_eqGroupS Tryz.f17.ntmps (bodyOf Tryz.f17) Tryz.f17.results.toList [(.bor, S_impl_Group), (.bor, S_impl_Group)] [(.bool, .b)] (t0, t1, ()) = f_L_eqGroupS t0 t1 := by kernel_rfl
theorem ok_L_eqGroupS : FnOk gl Tryz.prog 17 ct_L_eqGroupS :=
  fnOk (cx := cx_L_eqGroupS) (pl := pl_L_eqGroupS) (dp := 0) (ok0_of tabOk (by unfold ArrOk; kernel_rfl) mix ⟨ok_L_eqGroup, trivial⟩ trivial) Tryz.func17 (by kernel_rfl) (by kernel_rfl) (by kernel_rfl)
    (by rw [show loopsOf (bodyOf Tryz.f17) = [((loopsOf (bodyOf Tryz.f17)).getD 0 .skip)] from by kernel_rfl]; exact ⟨(by rw [show lookup pl_L_eqGroupS.loops (firstId ((loopsOf (bodyOf Tryz.f17)).getD 0 .skip)) = some lp_L_eqGroupS_4 from by kernel_rfl]; exact fun d z h => (eb_L_eqGroupS_4 d.1 d.2.1 d.2.2.1).trans h), trivial⟩) (fun x => ef_L_eqGroupS x.1 x.2.1)
noncomputable def sh_L_markText_4 : List Sh := mkSh 20 [(0, .val (.int .i64) .b), (3, .val .str .b)]
noncomputable def o_L_markText_4 : List Out := [⟨.exit 0, ⟨[], [3], []⟩, mkSh 20 [(3, .val .str .b)]⟩]
noncomputable def b_L_markText_4 (t0 : PV (.int .i64)) (t3 : PV .str) : Option ((PV (.int .i64) × PV .str × Unit) ⊕ ((PV .str × Unit))) :=
  bif (decide (t0 > 0)) then
    bif 10 == 0 then
      none
    else
      bif decide ((bytesOfInts [(IntKind.wrap .u8 (IntKind.wrap .i64 (48 + (t0.tmod 10))))]).length + t3.length ≤ 1099511627776) then
        bif 10 == 0 then
          none
        else
          some (.inl ((IntKind.wrap .i64 (t0.tdiv 10)), ((bytesOfInts [(IntKind.wrap .u8 (IntKind.wrap .i64 (48 + (t0.tmod 10))))]) ++ t3), ()))
      else
        none
  else
    some (.inr (t3, ()))
noncomputable def w_L_markText_4 : PV (.int .i64) × PV .str × Unit → Option ((PV .str × Unit)) := fix fun d => b_L_markText_4 d.1 d.2.1
noncomputable def lp_L_markText_4 : Lp := ⟨⟨[], [0, 3], []⟩, sh_L_markText_4, o_L_markText_4, fun d => b_L_markText_4 d.1 d.2.1⟩
noncomputable def pl_L_markText : Plan := ⟨[], [(4, lp_L_markText_4)], 0, 0⟩
noncomputable def f_L_markText (t0 : PV (.int .i64)) : Option (PVs [.str] × PVs []) :=
  bif (decide (t0 ≤ 0)) then
    some (([109, 48], ()), ())
  else
    (w_L_markText_4 (t0, [], ())).bind fun l2 =>
      bif decide ([109].length + l2.1.length ≤ 1099511627776) then
        some ((([109] ++ l2.1), ()), ())
      else
        none
noncomputable def ct_L_markText : Ct := ⟨[(.bor, (.int .i64))], [(.str, .b)], fun x => f_L_markText x.1⟩
noncomputable def cx_L_markText : Cx := ⟨tab, arrs, [], [], gl, []⟩
theorem eb_L_markText_4 (t0 : PV (.int .i64)) (t3 : PV .str) : denK cx_L_markText (rcN cx_L_markText 0) pl_L_markText 0 ((loopsOf (bodyOf Tryz.f102)).getD 0 .skip) (fillS sh_L_markText_4 (t0, t3, ())) (roundK 0 lp_L_markText_4) = b_L_markText_4 t0 t3 := by kernel_rfl
theorem ef_L_markText (t0 : PV (.int .i64)) : denF cx_L_markText 0 pl_L_markText Tryz.f102.ntmps (bodyOf Tryz.f102) Tryz.f102.results.toList [(.bor, (.int .i64))] [(.str, .b)] (t0, ()) = f_L_markText t0 := by kernel_rfl
theorem ok_L_markText : FnOk gl Tryz.prog 102 ct_L_markText :=
  fnOk (cx := cx_L_markText) (pl := pl_L_markText) (dp := 0) (ok0_of tabOk (by unfold ArrOk; kernel_rfl) mix trivial trivial) Tryz.func102 (by kernel_rfl) (by kernel_rfl) (by kernel_rfl)
    (by rw [show loopsOf (bodyOf Tryz.f102) = [((loopsOf (bodyOf Tryz.f102)).getD 0 .skip)] from by kernel_rfl]; exact ⟨(by rw [show lookup pl_L_markText.loops (firstId ((loopsOf (bodyOf Tryz.f102)).getD 0 .skip)) = some lp_L_markText_4 from by kernel_rfl]; exact fun d z h => (eb_L_markText_4 d.1 d.2.1).trans h), trivial⟩) (fun x => ef_L_markText x.1)
noncomputable def sh_L_markRowS_2 : List Sh := mkSh 29 [(0, .val S_impl_Row (.row (.pr .b (.pr .b .b)))), (1, .sub ⟨0, [], 0, 0⟩), (2, .val (.int .i64) .b), (6, .val (.int .i64) .b)]
noncomputable def o_L_markRowS_2 : List Out := [⟨.exit 0, ⟨[], [1], []⟩, mkSh 29 [(0, .val S_impl_Row (.row (.pr .b (.pr .b .b)))), (2, .val (.int .i64) .b)]⟩]
noncomputable def b_L_markRowS_2 (t0 : PV S_impl_Row) (t2 : PV (.int .i64)) (t6 : PV (.int .i64)) : Option ((PV S_impl_Row × PV (.int .i64) × PV (.int .i64) × Unit) ⊕ ((PV S_impl_Row × PV (.int .i64) × Unit))) :=
  bif (decide (t6 < (t0.length : Int))) then
    bif inB t6 t0.length then
      (f_L_markText (IntKind.wrap .i64 (t2 + 1))).bind fun r4 =>
        bif inB t6 (t0.set t6.toNat (t2, (t0.getD t6.toNat (dflt Y_impl_Row)).2)).length then
          some (.inl (((t0.set t6.toNat (t2, (t0.getD t6.toNat (dflt Y_impl_Row)).2)).set t6.toNat (((t0.set t6.toNat (t2, (t0.getD t6.toNat (dflt Y_impl_Row)).2)).getD t6.toNat (dflt Y_impl_Row)).1, (r4.1.1, (((t0.set t6.toNat (t2, (t0.getD t6.toNat (dflt Y_impl_Row)).2)).getD t6.toNat (dflt Y_impl_Row)).2).2))), (IntKind.wrap .i64 ((IntKind.wrap .i64 (t2 + 1)) + 1)), (IntKind.wrap .i64 (t6 + 1)), ()))
        else
          none
    else
      none
  else
    some (.inr (t0, t2, ()))
noncomputable def w_L_markRowS_2 : PV S_impl_Row × PV (.int .i64) × PV (.int .i64) × Unit → Option ((PV S_impl_Row × PV (.int .i64) × Unit)) := fix fun d => b_L_markRowS_2 d.1 d.2.1 d.2.2.1
noncomputable def lp_L_markRowS_2 : Lp := ⟨⟨[], [0, 1, 5], []⟩, sh_L_markRowS_2, o_L_markRowS_2, fun d => b_L_markRowS_2 d.1 d.2.1 d.2.2.1⟩
noncomputable def pl_L_markRowS : Plan := ⟨[], [(2, lp_L_markRowS_2)], 0, 1⟩
noncomputable def f_L_markRowS (t0 : PV S_impl_Row) (t1 : PV (.int .i64)) : Option (PVs [(.int .i64)] × PVs [S_impl_Row]) :=
  (w_L_markRowS_2 (t0, t1, 0, ())).bind fun l6 =>
    some ((l6.2.1, ()), (l6.1, ()))
noncomputable def ct_L_markRowS : Ct := ⟨[(.mut, S_impl_Row), (.bor, (.int .i64))], [((.int .i64), .b)], fun x => f_L_markRowS x.1 x.2.1⟩
noncomputable def cx_L_markRowS : Cx := ⟨tab, arrs, [(102, ct_L_markText)], [], gl, []⟩
theorem eb_L_markRowS_2 (t0 : PV S_impl_Row) (t2 : PV (.int .i64)) (t6 : PV (.int .i64)) : denK cx_L_markRowS (rcN cx_L_markRowS 0) pl_L_markRowS 1 ((loopsOf (bodyOf Tryz.f47)).getD 0 .skip) (fillS sh_L_markRowS_2 (t0, t2, t6, ())) (roundK 1 lp_L_markRowS_2) = b_L_markRowS_2 t0 t2 t6 := by kernel_rfl
theorem ef_L_markRowS (t0 : PV S_impl_Row) (t1 : PV (.int .i64)) : denF cx_L_markRowS 0 pl_L_markRowS Tryz.f47.ntmps (bodyOf Tryz.f47) Tryz.f47.results.toList [(.mut, S_impl_Row), (.bor, (.int .i64))] [((.int .i64), .b)] (t0, t1, ()) = f_L_markRowS t0 t1 := by kernel_rfl
theorem ok_L_markRowS : FnOk gl Tryz.prog 47 ct_L_markRowS :=
  fnOk (cx := cx_L_markRowS) (pl := pl_L_markRowS) (dp := 0) (ok0_of tabOk (by unfold ArrOk; kernel_rfl) mix ⟨ok_L_markText, trivial⟩ trivial) Tryz.func47 (by kernel_rfl) (by kernel_rfl) (by kernel_rfl)
    (by rw [show loopsOf (bodyOf Tryz.f47) = [((loopsOf (bodyOf Tryz.f47)).getD 0 .skip)] from by kernel_rfl]; exact ⟨(by rw [show lookup pl_L_markRowS.loops (firstId ((loopsOf (bodyOf Tryz.f47)).getD 0 .skip)) = some lp_L_markRowS_2 from by kernel_rfl]; exact fun d z h => (eb_L_markRowS_2 d.1 d.2.1 d.2.2.1).trans h), trivial⟩) (fun x => ef_L_markRowS x.1 x.2.1)
noncomputable def sh_L_markGroupS_2 : List Sh := mkSh 35 [(0, .val S_impl_Group (.row (.pr .b (.pr .b (.pr (.row (.pr .b (.pr .b .b))) .b))))), (1, .sub ⟨0, [], 0, 0⟩), (2, .val (.int .i64) .b), (6, .val (.int .i64) .b)]
noncomputable def o_L_markGroupS_2 : List Out := [⟨.exit 0, ⟨[], [1], []⟩, mkSh 35 [(0, .val S_impl_Group (.row (.pr .b (.pr .b (.pr (.row (.pr .b (.pr .b .b))) .b))))), (2, .val (.int .i64) .b)]⟩]
noncomputable def b_L_markGroupS_2 (t0 : PV S_impl_Group) (t2 : PV (.int .i64)) (t6 : PV (.int .i64)) : Option ((PV S_impl_Group × PV (.int .i64) × PV (.int .i64) × Unit) ⊕ ((PV S_impl_Group × PV (.int .i64) × Unit))) :=
  bif (decide (t6 < (t0.length : Int))) then
    bif inB t6 t0.length then
      bif inB t6 (t0.set t6.toNat (t2, (t0.getD t6.toNat (dflt Y_impl_Group)).2)).length then
        bif inB t6 ((t0.set t6.toNat (t2, (t0.getD t6.toNat (dflt Y_impl_Group)).2)).set t6.toNat (((t0.set t6.toNat (t2, (t0.getD t6.toNat (dflt Y_impl_Group)).2)).getD t6.toNat (dflt Y_impl_Group)).1, ((IntKind.wrap .i64 (t2 + 1)), (((t0.set t6.toNat (t2, (t0.getD t6.toNat (dflt Y_impl_Group)).2)).getD t6.toNat (dflt Y_impl_Group)).2).2))).length then
          (f_L_markRowS ((((((t0.set t6.toNat (t2, (t0.getD t6.toNat (dflt Y_impl_Group)).2)).set t6.toNat (((t0.set t6.toNat (t2, (t0.getD t6.toNat (dflt Y_impl_Group)).2)).getD t6.toNat (dflt Y_impl_Group)).1, ((IntKind.wrap .i64 (t2 + 1)), (((t0.set t6.toNat (t2, (t0.getD t6.toNat (dflt Y_impl_Group)).2)).getD t6.toNat (dflt Y_impl_Group)).2).2))).getD t6.toNat (dflt Y_impl_Group)).2).2).1) (IntKind.wrap .i64 ((IntKind.wrap .i64 (t2 + 1)) + 1))).bind fun r2 =>
            some (.inl ((((t0.set t6.toNat (t2, (t0.getD t6.toNat (dflt Y_impl_Group)).2)).set t6.toNat (((t0.set t6.toNat (t2, (t0.getD t6.toNat (dflt Y_impl_Group)).2)).getD t6.toNat (dflt Y_impl_Group)).1, ((IntKind.wrap .i64 (t2 + 1)), (((t0.set t6.toNat (t2, (t0.getD t6.toNat (dflt Y_impl_Group)).2)).getD t6.toNat (dflt Y_impl_Group)).2).2))).set t6.toNat ((((t0.set t6.toNat (t2, (t0.getD t6.toNat (dflt Y_impl_Group)).2)).set t6.toNat (((t0.set t6.toNat (t2, (t0.getD t6.toNat (dflt Y_impl_Group)).2)).getD t6.toNat (dflt Y_impl_Group)).1, ((IntKind.wrap .i64 (t2 + 1)), (((t0.set t6.toNat (t2, (t0.getD t6.toNat (dflt Y_impl_Group)).2)).getD t6.toNat (dflt Y_impl_Group)).2).2))).getD t6.toNat (dflt Y_impl_Group)).1, (((((t0.set t6.toNat (t2, (t0.getD t6.toNat (dflt Y_impl_Group)).2)).set t6.toNat (((t0.set t6.toNat (t2, (t0.getD t6.toNat (dflt Y_impl_Group)).2)).getD t6.toNat (dflt Y_impl_Group)).1, ((IntKind.wrap .i64 (t2 + 1)), (((t0.set t6.toNat (t2, (t0.getD t6.toNat (dflt Y_impl_Group)).2)).getD t6.toNat (dflt Y_impl_Group)).2).2))).getD t6.toNat (dflt Y_impl_Group)).2).1, (r2.2.1, (((((t0.set t6.toNat (t2, (t0.getD t6.toNat (dflt Y_impl_Group)).2)).set t6.toNat (((t0.set t6.toNat (t2, (t0.getD t6.toNat (dflt Y_impl_Group)).2)).getD t6.toNat (dflt Y_impl_Group)).1, ((IntKind.wrap .i64 (t2 + 1)), (((t0.set t6.toNat (t2, (t0.getD t6.toNat (dflt Y_impl_Group)).2)).getD t6.toNat (dflt Y_impl_Group)).2).2))).getD t6.toNat (dflt Y_impl_Group)).2).2).2)))), r2.1.1, (IntKind.wrap .i64 (t6 + 1)), ()))
        else
          none
      else
        none
    else
      none
  else
    some (.inr (t0, t2, ()))
noncomputable def w_L_markGroupS_2 : PV S_impl_Group × PV (.int .i64) × PV (.int .i64) × Unit → Option ((PV S_impl_Group × PV (.int .i64) × Unit)) := fix fun d => b_L_markGroupS_2 d.1 d.2.1 d.2.2.1
noncomputable def lp_L_markGroupS_2 : Lp := ⟨⟨[], [0, 1, 5], []⟩, sh_L_markGroupS_2, o_L_markGroupS_2, fun d => b_L_markGroupS_2 d.1 d.2.1 d.2.2.1⟩
noncomputable def pl_L_markGroupS : Plan := ⟨[], [(2, lp_L_markGroupS_2)], 0, 1⟩
noncomputable def f_L_markGroupS (t0 : PV S_impl_Group) (t1 : PV (.int .i64)) : Option (PVs [(.int .i64)] × PVs [S_impl_Group]) :=
  (w_L_markGroupS_2 (t0, t1, 0, ())).bind fun l4 =>
    some ((l4.2.1, ()), (l4.1, ()))
noncomputable def ct_L_markGroupS : Ct := ⟨[(.mut, S_impl_Group), (.bor, (.int .i64))], [((.int .i64), .b)], fun x => f_L_markGroupS x.1 x.2.1⟩
noncomputable def cx_L_markGroupS : Cx := ⟨tab, arrs, [(47, ct_L_markRowS)], [], gl, []⟩
theorem eb_L_markGroupS_2 (t0 : PV S_impl_Group) (t2 : PV (.int .i64)) (t6 : PV (.int .i64)) : denK cx_L_markGroupS (rcN cx_L_markGroupS 0) pl_L_markGroupS 1 ((loopsOf (bodyOf Tryz.f18)).getD 0 .skip) (fillS sh_L_markGroupS_2 (t0, t2, t6, ())) (roundK 1 lp_L_markGroupS_2) = b_L_markGroupS_2 t0 t2 t6 := by kernel_rfl
theorem ef_L_markGroupS (t0 : PV S_impl_Group) (t1 : PV (.int .i64)) : denF cx_L_markGroupS 0 pl_L_markGroupS Tryz.f18.ntmps (bodyOf Tryz.f18) Tryz.f18.results.toList [(.mut, S_impl_Group), (.bor, (.int .i64))] [((.int .i64), .b)] (t0, t1, ()) = f_L_markGroupS t0 t1 := by kernel_rfl
theorem ok_L_markGroupS : FnOk gl Tryz.prog 18 ct_L_markGroupS :=
  fnOk (cx := cx_L_markGroupS) (pl := pl_L_markGroupS) (dp := 0) (ok0_of tabOk (by unfold ArrOk; kernel_rfl) mix ⟨ok_L_markRowS, trivial⟩ trivial) Tryz.func18 (by kernel_rfl) (by kernel_rfl) (by kernel_rfl)
    (by rw [show loopsOf (bodyOf Tryz.f18) = [((loopsOf (bodyOf Tryz.f18)).getD 0 .skip)] from by kernel_rfl]; exact ⟨(by rw [show lookup pl_L_markGroupS.loops (firstId ((loopsOf (bodyOf Tryz.f18)).getD 0 .skip)) = some lp_L_markGroupS_2 from by kernel_rfl]; exact fun d z h => (eb_L_markGroupS_2 d.1 d.2.1 d.2.2.1).trans h), trivial⟩) (fun x => ef_L_markGroupS x.1 x.2.1)
noncomputable def sh_L_heldRowS_2 : List Sh := mkSh 32 [(0, .val S_impl_Row .b), (1, .val (.int .i64) .b), (5, .val (.int .i64) .b)]
noncomputable def o_L_heldRowS_2 : List Out := [⟨.exit 0, ⟨[], [1], []⟩, mkSh 32 [(1, .val (.int .i64) .b)]⟩, ⟨.ret, ⟨[], [4], []⟩, mkSh 32 [(4, .val (.int .i64) .b)]⟩]
noncomputable def b_L_heldRowS_2 (t0 : PV S_impl_Row) (t1 : PV (.int .i64)) (t5 : PV (.int .i64)) : Option ((PV S_impl_Row × PV (.int .i64) × PV (.int .i64) × Unit) ⊕ ((PV (.int .i64) × Unit) ⊕ (PV (.int .i64) × Unit))) :=
  bif (decide (t5 < (t0.length : Int))) then
    bif inB t5 t0.length then
      bif (!(((t0.getD t5.toNat (dflt Y_impl_Row)).1) == t1)) then
        some (.inr (.inr ((-1), ())))
      else
        bif inB t5 t0.length then
          (f_L_markText (IntKind.wrap .i64 (t1 + 1))).bind fun r8 =>
            bif (!((((t0.getD t5.toNat (dflt Y_impl_Row)).2).1) == r8.1.1)) then
              some (.inr (.inr ((-1), ())))
            else
              some (.inl (t0, (IntKind.wrap .i64 ((IntKind.wrap .i64 (t1 + 1)) + 1)), (IntKind.wrap .i64 (t5 + 1)), ()))
        else
          none
    else
      none
  else
    some (.inr (.inl (t1, ())))
noncomputable def w_L_heldRowS_2 : PV S_impl_Row × PV (.int .i64) × PV (.int .i64) × Unit → Option ((PV (.int .i64) × Unit) ⊕ (PV (.int .i64) × Unit)) := fix fun d => b_L_heldRowS_2 d.1 d.2.1 d.2.2.1
noncomputable def lp_L_heldRowS_2 : Lp := ⟨⟨[], [0, 1, 5], []⟩, sh_L_heldRowS_2, o_L_heldRowS_2, fun d => b_L_heldRowS_2 d.1 d.2.1 d.2.2.1⟩
noncomputable def pl_L_heldRowS : Plan := ⟨[], [(2, lp_L_heldRowS_2)], 0, 0⟩
noncomputable def f_L_heldRowS (t0 : PV S_impl_Row) (t1 : PV (.int .i64)) : Option (PVs [(.int .i64)] × PVs []) :=
  (w_L_heldRowS_2 (t0, t1, 0, ())).bind fun x13 =>
    match x13 with
    | .inl l11 =>
      some ((l11.1, ()), ())
    | .inr l12 =>
      some ((l12.1, ()), ())
noncomputable def ct_L_heldRowS : Ct := ⟨[(.bor, S_impl_Row), (.bor, (.int .i64))], [((.int .i64), .b)], fun x => f_L_heldRowS x.1 x.2.1⟩
noncomputable def cx_L_heldRowS : Cx := ⟨tab, arrs, [(102, ct_L_markText)], [], gl, []⟩
theorem eb_L_heldRowS_2 (t0 : PV S_impl_Row) (t1 : PV (.int .i64)) (t5 : PV (.int .i64)) : denK cx_L_heldRowS (rcN cx_L_heldRowS 0) pl_L_heldRowS 0 ((loopsOf (bodyOf Tryz.f48)).getD 0 .skip) (fillS sh_L_heldRowS_2 (t0, t1, t5, ())) (roundK 0 lp_L_heldRowS_2) = b_L_heldRowS_2 t0 t1 t5 := by kernel_rfl
theorem ef_L_heldRowS (t0 : PV S_impl_Row) (t1 : PV (.int .i64)) : denF cx_L_heldRowS 0 pl_L_heldRowS Tryz.f48.ntmps (bodyOf Tryz.f48) Tryz.f48.results.toList [(.bor, S_impl_Row), (.bor, (.int .i64))] [((.int .i64), .b)] (t0, t1, ()) = f_L_heldRowS t0 t1 := by kernel_rfl
theorem ok_L_heldRowS : FnOk gl Tryz.prog 48 ct_L_heldRowS :=
  fnOk (cx := cx_L_heldRowS) (pl := pl_L_heldRowS) (dp := 0) (ok0_of tabOk (by unfold ArrOk; kernel_rfl) mix ⟨ok_L_markText, trivial⟩ trivial) Tryz.func48 (by kernel_rfl) (by kernel_rfl) (by kernel_rfl)
    (by rw [show loopsOf (bodyOf Tryz.f48) = [((loopsOf (bodyOf Tryz.f48)).getD 0 .skip)] from by kernel_rfl]; exact ⟨(by rw [show lookup pl_L_heldRowS.loops (firstId ((loopsOf (bodyOf Tryz.f48)).getD 0 .skip)) = some lp_L_heldRowS_2 from by kernel_rfl]; exact fun d z h => (eb_L_heldRowS_2 d.1 d.2.1 d.2.2.1).trans h), trivial⟩) (fun x => ef_L_heldRowS x.1 x.2.1)
noncomputable def sh_L_heldGroupS_2 : List Sh := mkSh 40 [(0, .val S_impl_Group .b), (1, .val (.int .i64) .b), (5, .val (.int .i64) .b)]
noncomputable def o_L_heldGroupS_2 : List Out := [⟨.exit 0, ⟨[], [1], []⟩, mkSh 40 [(1, .val (.int .i64) .b)]⟩, ⟨.ret, ⟨[], [4], []⟩, mkSh 40 [(4, .val (.int .i64) .b)]⟩]
noncomputable def b_L_heldGroupS_2 (t0 : PV S_impl_Group) (t1 : PV (.int .i64)) (t5 : PV (.int .i64)) : Option ((PV S_impl_Group × PV (.int .i64) × PV (.int .i64) × Unit) ⊕ ((PV (.int .i64) × Unit) ⊕ (PV (.int .i64) × Unit))) :=
  bif (decide (t5 < (t0.length : Int))) then
    bif inB t5 t0.length then
      bif (!(((t0.getD t5.toNat (dflt Y_impl_Group)).1) == t1)) then
        some (.inr (.inr ((-1), ())))
      else
        bif inB t5 t0.length then
          bif (!((((t0.getD t5.toNat (dflt Y_impl_Group)).2).1) == (IntKind.wrap .i64 (t1 + 1)))) then
            some (.inr (.inr ((-1), ())))
          else
            bif inB t5 t0.length then
              (f_L_heldRowS ((((t0.getD t5.toNat (dflt Y_impl_Group)).2).2).1) (IntKind.wrap .i64 ((IntKind.wrap .i64 (t1 + 1)) + 1))).bind fun r4 =>
                bif (decide (r4.1.1 < 0)) then
                  some (.inr (.inr ((-1), ())))
                else
                  some (.inl (t0, r4.1.1, (IntKind.wrap .i64 (t5 + 1)), ()))
            else
              none
        else
          none
    else
      none
  else
    some (.inr (.inl (t1, ())))
noncomputable def w_L_heldGroupS_2 : PV S_impl_Group × PV (.int .i64) × PV (.int .i64) × Unit → Option ((PV (.int .i64) × Unit) ⊕ (PV (.int .i64) × Unit)) := fix fun d => b_L_heldGroupS_2 d.1 d.2.1 d.2.2.1
noncomputable def lp_L_heldGroupS_2 : Lp := ⟨⟨[], [0, 1, 5], []⟩, sh_L_heldGroupS_2, o_L_heldGroupS_2, fun d => b_L_heldGroupS_2 d.1 d.2.1 d.2.2.1⟩
noncomputable def pl_L_heldGroupS : Plan := ⟨[], [(2, lp_L_heldGroupS_2)], 0, 0⟩
noncomputable def f_L_heldGroupS (t0 : PV S_impl_Group) (t1 : PV (.int .i64)) : Option (PVs [(.int .i64)] × PVs []) :=
  (w_L_heldGroupS_2 (t0, t1, 0, ())).bind fun x9 =>
    match x9 with
    | .inl l7 =>
      some ((l7.1, ()), ())
    | .inr l8 =>
      some ((l8.1, ()), ())
noncomputable def ct_L_heldGroupS : Ct := ⟨[(.bor, S_impl_Group), (.bor, (.int .i64))], [((.int .i64), .b)], fun x => f_L_heldGroupS x.1 x.2.1⟩
noncomputable def cx_L_heldGroupS : Cx := ⟨tab, arrs, [(48, ct_L_heldRowS)], [], gl, []⟩
theorem eb_L_heldGroupS_2 (t0 : PV S_impl_Group) (t1 : PV (.int .i64)) (t5 : PV (.int .i64)) : denK cx_L_heldGroupS (rcN cx_L_heldGroupS 0) pl_L_heldGroupS 0 ((loopsOf (bodyOf Tryz.f19)).getD 0 .skip) (fillS sh_L_heldGroupS_2 (t0, t1, t5, ())) (roundK 0 lp_L_heldGroupS_2) = b_L_heldGroupS_2 t0 t1 t5 := by kernel_rfl
theorem ef_L_heldGroupS (t0 : PV S_impl_Group) (t1 : PV (.int .i64)) : denF cx_L_heldGroupS 0 pl_L_heldGroupS Tryz.f19.ntmps (bodyOf Tryz.f19) Tryz.f19.results.toList [(.bor, S_impl_Group), (.bor, (.int .i64))] [((.int .i64), .b)] (t0, t1, ()) = f_L_heldGroupS t0 t1 := by kernel_rfl
theorem ok_L_heldGroupS : FnOk gl Tryz.prog 19 ct_L_heldGroupS :=
  fnOk (cx := cx_L_heldGroupS) (pl := pl_L_heldGroupS) (dp := 0) (ok0_of tabOk (by unfold ArrOk; kernel_rfl) mix ⟨ok_L_heldRowS, trivial⟩ trivial) Tryz.func19 (by kernel_rfl) (by kernel_rfl) (by kernel_rfl)
    (by rw [show loopsOf (bodyOf Tryz.f19) = [((loopsOf (bodyOf Tryz.f19)).getD 0 .skip)] from by kernel_rfl]; exact ⟨(by rw [show lookup pl_L_heldGroupS.loops (firstId ((loopsOf (bodyOf Tryz.f19)).getD 0 .skip)) = some lp_L_heldGroupS_2 from by kernel_rfl]; exact fun d z h => (eb_L_heldGroupS_2 d.1 d.2.1 d.2.2.1).trans h), trivial⟩) (fun x => ef_L_heldGroupS x.1 x.2.1)
noncomputable def o_L_FnExactReadContext_6 : List Out := [⟨.normal, ⟨[], [0, 3, 4, 5, 6, 42, 65, 66, 67, 70, 71, 72], []⟩, mkSh 82 [(0, .val .str .b), (3, .val S_impl_Group (.row (.pr .b (.pr .b (.pr (.row (.pr .b (.pr .b .b))) .b))))), (4, .val (.int .i64) .b), (5, .val .bool .b), (6, .val S_impl_Group (.row (.pr .b (.pr .b (.pr (.row (.pr .b (.pr .b .b))) .b))))), (42, .val .bool .b)]⟩]
noncomputable def o_L_FnExactReadContext_17 : List Out := [⟨.normal, ⟨[], [6, 9, 73], []⟩, mkSh 82 [(6, .val S_impl_Group (.row (.pr .b (.pr .b (.pr (.row (.pr .b (.pr .b .b))) .b))))), (9, .val (.int .i64) .b), (73, .val .bool .b)]⟩]
noncomputable def pl_L_FnExactReadContext : Plan := ⟨[(6, o_L_FnExactReadContext_6), (17, o_L_FnExactReadContext_17)], [], 0, 0⟩
noncomputable def f_L_FnExactReadContext (t0 : PV .str) : Option (PVs [.bool] × PVs []) :=
  bif (decide ((t0.length : Int) > 1048576)) then
    some ((true, ()), ())
  else
    (f_S_ReadContext t0).bind fun r2 =>
      (f_I_ReadContext t0).bind fun r4 =>
        ((
            (f_L_eqGroupS r4.1.1 r2.1.1).bind fun r8 =>
              bif (!r8.1.1) then
                some (t0, r2.1.1, r2.1.2.1, r2.1.2.2.1, r4.1.1, true, ())
              else
                bif (!(r4.1.2.1 == r2.1.2.1)) then
                  some (t0, r2.1.1, r2.1.2.1, r2.1.2.2.1, r4.1.1, true, ())
                else
                  some (t0, r2.1.1, r2.1.2.1, r2.1.2.2.1, r4.1.1, (!(r4.1.2.2.1 == r2.1.2.2.1)), ()) : Option ((PV .str × PV S_impl_Group × PV (.int .i64) × PV .bool × PV S_impl_Group × PV .bool × Unit)))).bind fun j9 =>
          bif j9.2.2.2.2.2.1 then
            some ((false, ()), ())
          else
            (f_L_markGroupS j9.2.2.2.2.1 1).bind fun r11 =>
              (f_L_heldGroupS r11.2.1 1).bind fun r13 =>
                bif (decide (r13.1.1 < 0)) then
                  some ((false, ()), ())
                else
                  bif (!(r13.1.1 == r11.1.1)) then
                    some ((false, ()), ())
                  else
                    (f_I_ReadContext j9.1).bind fun r15 =>
                      ((
                          (f_L_eqGroupS r15.1.1 j9.2.1).bind fun r19 =>
                            bif (!r19.1.1) then
                              some (r11.2.1, r11.1.1, true, ())
                            else
                              bif (!(r15.1.2.1 == j9.2.2.1)) then
                                some (r11.2.1, r11.1.1, true, ())
                              else
                                some (r11.2.1, r11.1.1, (!(r15.1.2.2.1 == j9.2.2.2.1)), ()) : Option ((PV S_impl_Group × PV (.int .i64) × PV .bool × Unit)))).bind fun j20 =>
                        bif j20.2.2.1 then
                          some ((false, ()), ())
                        else
                          (f_L_heldGroupS j20.1 1).bind fun r22 =>
                            bif (decide (r22.1.1 < 0)) then
                              some ((false, ()), ())
                            else
                              bif (!(r22.1.1 == j20.2.1)) then
                                some ((false, ()), ())
                              else
                                some ((true, ()), ())
noncomputable def ct_L_FnExactReadContext : Ct := ⟨[(.bor, .str)], [(.bool, .b)], fun x => f_L_FnExactReadContext x.1⟩
noncomputable def cx_L_FnExactReadContext : Cx := ⟨tab, arrs, [(15, ct_S_ReadContext), (16, ct_I_ReadContext), (17, ct_L_eqGroupS), (18, ct_L_markGroupS), (19, ct_L_heldGroupS)], [], gl, []⟩
theorem ef_L_FnExactReadContext (t0 : PV .str) : denF cx_L_FnExactReadContext 0 pl_L_FnExactReadContext Tryz.f4.ntmps (bodyOf Tryz.f4) Tryz.f4.results.toList [(.bor, .str)] [(.bool, .b)] (t0, ()) = f_L_FnExactReadContext t0 := by kernel_rfl
theorem ok_L_FnExactReadContext : FnOk gl Tryz.prog 4 ct_L_FnExactReadContext :=
  fnOk (cx := cx_L_FnExactReadContext) (pl := pl_L_FnExactReadContext) (dp := 0) (ok0_of tabOk (by unfold ArrOk; kernel_rfl) mix ⟨ok_S_ReadContext, ok_I_ReadContext, ok_L_eqGroupS, ok_L_markGroupS, ok_L_heldGroupS, trivial⟩ trivial) Tryz.func4 (by kernel_rfl) (by kernel_rfl) (by kernel_rfl)
    (by rw [show loopsOf (bodyOf Tryz.f4) = [] from by kernel_rfl]; exact trivial) (fun x => ef_L_FnExactReadContext x.1)
end R
