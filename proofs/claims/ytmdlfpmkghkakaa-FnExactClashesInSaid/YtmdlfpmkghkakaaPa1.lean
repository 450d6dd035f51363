/- The functions that L_FnExactClashesIn reach, as pure functions, and that the program computes them. -/
import Derived.Test.YtmdlfpmkghkakaaEd
import Derived.Test.YtmdlfpmkghkakaaChecked
import Derived.KernelRfl
open Go Go.Dn Go.Proofs
namespace R1
set_option linter.unusedVariables false
@[reducible] def Y94 : Ty := (.pair (.int .i64) (.pair (.int .i64) (.pair (.int .i64) (.pair (.slice 9 .str) (.pair (.slice 9 .str) .unit)))))
noncomputable def tab : List (TypeId × Ty) := [(3, (.int .i64)), (4, .bool), (9, .str), (22, (.slice 94 Y94)), (26, (.slice 96 Y94)), (40, (.slice 9 .str)), (94, Y94), (96, Y94)]
noncomputable def arrs : List TypeId := []
theorem tabOk : TabOk Try.prog tab := by unfold TabOk; kernel_rfl
theorem mix : Try.prog.follows .mixedOrders = true := by kernel_rfl
noncomputable def sh_L_szStringS_5 : List Sh := mkSh 28 [(0, .val (.slice 9 .str) .b), (1, .val (.int .i64) .b), (5, .val (.int .i64) .b)]
noncomputable def o_L_szStringS_5 : List Out := [⟨.exit 0, ⟨[], [1]⟩, mkSh 28 [(1, .val (.int .i64) .b)]⟩, ⟨.ret, ⟨[], [4]⟩, mkSh 28 [(4, .val (.int .i64) .b)]⟩]
noncomputable def b_L_szStringS_5 (t0 : PV (.slice 9 .str)) (t1 : PV (.int .i64)) (t5 : PV (.int .i64)) : Option ((PV (.slice 9 .str) × PV (.int .i64) × PV (.int .i64) × Unit) ⊕ ((PV (.int .i64) × Unit) ⊕ (PV (.int .i64) × Unit))) :=
  bif (decide (t5 < (t0.length : Int))) then
    bif inB t5 t0.length then
      bif (decide ((IntKind.wrap .i64 (t1 - ((t0.getD t5.toNat []).length : Int))) < 0)) then
        some (.inr (.inr ((-1), ())))
      else
        some (.inl (t0, (IntKind.wrap .i64 (t1 - ((t0.getD t5.toNat []).length : Int))), (IntKind.wrap .i64 (t5 + 1)), ()))
    else
      none
  else
    some (.inr (.inl (t1, ())))
noncomputable def w_L_szStringS_5 : PV (.slice 9 .str) × PV (.int .i64) × PV (.int .i64) × Unit → Option ((PV (.int .i64) × Unit) ⊕ (PV (.int .i64) × Unit)) := fix fun d => b_L_szStringS_5 d.1 d.2.1 d.2.2.1
noncomputable def lp_L_szStringS_5 : Lp := ⟨⟨[], [0, 1, 5]⟩, sh_L_szStringS_5, o_L_szStringS_5, fun d => b_L_szStringS_5 d.1 d.2.1 d.2.2.1⟩
noncomputable def pl_L_szStringS : Plan := ⟨[], [(5, lp_L_szStringS_5)], 0, 0⟩
noncomputable def f_L_szStringS (t0 : PV (.slice 9 .str)) (t1 : PV (.int .i64)) : Option (PVs [(.int .i64)] × PVs []) :=
  bif (decide ((IntKind.wrap .i64 (t1 - (t0.length : Int))) < 0)) then
    some (((-1), ()), ())
  else
    (w_L_szStringS_5 (t0, (IntKind.wrap .i64 (t1 - (t0.length : Int))), 0, ())).bind fun x5 =>
      match x5 with
      | .inl l3 =>
        some ((l3.1, ()), ())
      | .inr l4 =>
        some ((l4.1, ()), ())
noncomputable def ct_L_szStringS : Ct := ⟨[(.bor, (.slice 9 .str)), (.bor, (.int .i64))], [((.int .i64), false)], fun x => f_L_szStringS x.1 x.2.1⟩
noncomputable def cx_L_szStringS : Cx := ⟨tab, arrs, [], []⟩
theorem eb_L_szStringS_5 (t0 : PV (.slice 9 .str)) (t1 : PV (.int .i64)) (t5 : PV (.int .i64)) : denK cx_L_szStringS (rcN cx_L_szStringS 0) pl_L_szStringS 0 ((loopsOf (bodyOf Try.f29)).getD 0 .skip) (fillS sh_L_szStringS_5 (t0, t1, t5, ())) (roundK 0 lp_L_szStringS_5) = b_L_szStringS_5 t0 t1 t5 := by kernel_rfl
theorem ef_L_szStringS (t0 : PV (.slice 9 .str)) (t1 : PV (.int .i64)) : denF cx_L_szStringS 0 pl_L_szStringS Try.f29.ntmps (bodyOf Try.f29) Try.f29.results.toList [(.bor, (.slice 9 .str)), (.bor, (.int .i64))] [((.int .i64), false)] (t0, t1, ()) = f_L_szStringS t0 t1 := by kernel_rfl
theorem ok_L_szStringS : FnOk Try.prog 29 ct_L_szStringS :=
  fnOk (cx := cx_L_szStringS) (pl := pl_L_szStringS) (dp := 0) (ok0_of tabOk (by unfold ArrOk; kernel_rfl) mix trivial trivial) Try.func29 (by kernel_rfl) (by kernel_rfl) (by kernel_rfl)
    (by rw [show loopsOf (bodyOf Try.f29) = [((loopsOf (bodyOf Try.f29)).getD 0 .skip)] from by kernel_rfl]; exact ⟨(by rw [show lookup pl_L_szStringS.loops (firstId ((loopsOf (bodyOf Try.f29)).getD 0 .skip)) = some lp_L_szStringS_5 from by kernel_rfl]; exact fun d z h => (eb_L_szStringS_5 d.1 d.2.1 d.2.2.1).trans h), trivial⟩) (fun x => ef_L_szStringS x.1 x.2.1)
noncomputable def pl_L_szPart : Plan := ⟨[], [], 0, 0⟩
noncomputable def f_L_szPart (t0 : PV Y94) (t1 : PV (.int .i64)) : Option (PVs [(.int .i64)] × PVs []) :=
  (f_L_szStringS t0.2.2.2.1 t1).bind fun r2 =>
    bif (decide (r2.1.1 < 0)) then
      some (((-1), ()), ())
    else
      (f_L_szStringS t0.2.2.2.2.1 r2.1.1).bind fun r4 =>
        bif (decide (r4.1.1 < 0)) then
          some (((-1), ()), ())
        else
          some ((r4.1.1, ()), ())
noncomputable def ct_L_szPart : Ct := ⟨[(.bor, Y94), (.bor, (.int .i64))], [((.int .i64), false)], fun x => f_L_szPart x.1 x.2.1⟩
noncomputable def cx_L_szPart : Cx := ⟨tab, arrs, [(29, ct_L_szStringS)], []⟩
theorem ef_L_szPart (t0 : PV Y94) (t1 : PV (.int .i64)) : denF cx_L_szPart 0 pl_L_szPart Try.f68.ntmps (bodyOf Try.f68) Try.f68.results.toList [(.bor, Y94), (.bor, (.int .i64))] [((.int .i64), false)] (t0, t1, ()) = f_L_szPart t0 t1 := by kernel_rfl
theorem ok_L_szPart : FnOk Try.prog 68 ct_L_szPart :=
  fnOk (cx := cx_L_szPart) (pl := pl_L_szPart) (dp := 0) (ok0_of tabOk (by unfold ArrOk; kernel_rfl) mix ⟨ok_L_szStringS, trivial⟩ trivial) Try.func68 (by kernel_rfl) (by kernel_rfl) (by kernel_rfl)
    (by rw [show loopsOf (bodyOf Try.f68) = [] from by kernel_rfl]; exact trivial) (fun x => ef_L_szPart x.1 x.2.1)
noncomputable def sh_L_szPartS_5 : List Sh := mkSh 27 [(0, .val (.slice 94 Y94) .b), (1, .val (.int .i64) .b), (5, .val (.int .i64) .b)]
noncomputable def o_L_szPartS_5 : List Out := [⟨.exit 0, ⟨[], [1]⟩, mkSh 27 [(1, .val (.int .i64) .b)]⟩, ⟨.ret, ⟨[], [4]⟩, mkSh 27 [(4, .val (.int .i64) .b)]⟩]
noncomputable def b_L_szPartS_5 (t0 : PV (.slice 94 Y94)) (t1 : PV (.int .i64)) (t5 : PV (.int .i64)) : Option ((PV (.slice 94 Y94) × PV (.int .i64) × PV (.int .i64) × Unit) ⊕ ((PV (.int .i64) × Unit) ⊕ (PV (.int .i64) × Unit))) :=
  bif (decide (t5 < (t0.length : Int))) then
    bif inB t5 t0.length then
      (f_L_szPart (t0.getD t5.toNat (dflt Y94)) t1).bind fun r4 =>
        bif (decide (r4.1.1 < 0)) then
          some (.inr (.inr ((-1), ())))
        else
          some (.inl (t0, r4.1.1, (IntKind.wrap .i64 (t5 + 1)), ()))
    else
      none
  else
    some (.inr (.inl (t1, ())))
noncomputable def w_L_szPartS_5 : PV (.slice 94 Y94) × PV (.int .i64) × PV (.int .i64) × Unit → Option ((PV (.int .i64) × Unit) ⊕ (PV (.int .i64) × Unit)) := fix fun d => b_L_szPartS_5 d.1 d.2.1 d.2.2.1
noncomputable def lp_L_szPartS_5 : Lp := ⟨⟨[], [0, 1, 5]⟩, sh_L_szPartS_5, o_L_szPartS_5, fun d => b_L_szPartS_5 d.1 d.2.1 d.2.2.1⟩
noncomputable def pl_L_szPartS : Plan := ⟨[], [(5, lp_L_szPartS_5)], 0, 0⟩
noncomputable def f_L_szPartS (t0 : PV (.slice 94 Y94)) (t1 : PV (.int .i64)) : Option (PVs [(.int .i64)] × PVs []) :=
  bif (decide ((IntKind.wrap .i64 (t1 - (t0.length : Int))) < 0)) then
    some (((-1), ()), ())
  else
    (w_L_szPartS_5 (t0, (IntKind.wrap .i64 (t1 - (t0.length : Int))), 0, ())).bind fun x9 =>
      match x9 with
      | .inl l7 =>
        some ((l7.1, ()), ())
      | .inr l8 =>
        some ((l8.1, ()), ())
noncomputable def ct_L_szPartS : Ct := ⟨[(.bor, (.slice 94 Y94)), (.bor, (.int .i64))], [((.int .i64), false)], fun x => f_L_szPartS x.1 x.2.1⟩
noncomputable def cx_L_szPartS : Cx := ⟨tab, arrs, [(68, ct_L_szPart)], []⟩
theorem eb_L_szPartS_5 (t0 : PV (.slice 94 Y94)) (t1 : PV (.int .i64)) (t5 : PV (.int .i64)) : denK cx_L_szPartS (rcN cx_L_szPartS 0) pl_L_szPartS 0 ((loopsOf (bodyOf Try.f15)).getD 0 .skip) (fillS sh_L_szPartS_5 (t0, t1, t5, ())) (roundK 0 lp_L_szPartS_5) = b_L_szPartS_5 t0 t1 t5 := by kernel_rfl
theorem ef_L_szPartS (t0 : PV (.slice 94 Y94)) (t1 : PV (.int .i64)) : denF cx_L_szPartS 0 pl_L_szPartS Try.f15.ntmps (bodyOf Try.f15) Try.f15.results.toList [(.bor, (.slice 94 Y94)), (.bor, (.int .i64))] [((.int .i64), false)] (t0, t1, ()) = f_L_szPartS t0 t1 := by kernel_rfl
theorem ok_L_szPartS : FnOk Try.prog 15 ct_L_szPartS :=
  fnOk (cx := cx_L_szPartS) (pl := pl_L_szPartS) (dp := 0) (ok0_of tabOk (by unfold ArrOk; kernel_rfl) mix ⟨ok_L_szPart, trivial⟩ trivial) Try.func15 (by kernel_rfl) (by kernel_rfl) (by kernel_rfl)
    (by rw [show loopsOf (bodyOf Try.f15) = [((loopsOf (bodyOf Try.f15)).getD 0 .skip)] from by kernel_rfl]; exact ⟨(by rw [show lookup pl_L_szPartS.loops (firstId ((loopsOf (bodyOf Try.f15)).getD 0 .skip)) = some lp_L_szPartS_5 from by kernel_rfl]; exact fun d z h => (eb_L_szPartS_5 d.1 d.2.1 d.2.2.1).trans h), trivial⟩) (fun x => ef_L_szPartS x.1 x.2.1)
noncomputable def sh_L_toStringS_3 : List Sh := mkSh 22 [(0, .val (.slice 9 .str) .b), (3, .val (.slice 9 .str) (.row .b)), (4, .val (.int .i64) .b)]
noncomputable def o_L_toStringS_3 : List Out := [⟨.exit 0, ⟨[], [3]⟩, mkSh 22 [(3, .val (.slice 9 .str) (.row .b))]⟩]
noncomputable def b_L_toStringS_3 (t0 : PV (.slice 9 .str)) (t3 : PV (.slice 9 .str)) (t4 : PV (.int .i64)) : Option ((PV (.slice 9 .str) × PV (.slice 9 .str) × PV (.int .i64) × Unit) ⊕ ((PV (.slice 9 .str) × Unit))) :=
  bif (decide (t4 < (t0.length : Int))) then
    bif inB t4 t0.length then
      bif inB t4 t3.length then
        some (.inl (t0, (t3.set t4.toNat (t0.getD t4.toNat [])), (IntKind.wrap .i64 (t4 + 1)), ()))
      else
        none
    else
      none
  else
    some (.inr (t3, ()))
noncomputable def w_L_toStringS_3 : PV (.slice 9 .str) × PV (.slice 9 .str) × PV (.int .i64) × Unit → Option ((PV (.slice 9 .str) × Unit)) := fix fun d => b_L_toStringS_3 d.1 d.2.1 d.2.2.1
noncomputable def lp_L_toStringS_3 : Lp := ⟨⟨[], [0, 3, 4]⟩, sh_L_toStringS_3, o_L_toStringS_3, fun d => b_L_toStringS_3 d.1 d.2.1 d.2.2.1⟩
noncomputable def pl_L_toStringS : Plan := ⟨[], [(3, lp_L_toStringS_3)], 0, 0⟩
noncomputable def f_L_toStringS (t0 : PV (.slice 9 .str)) : Option (PVs [(.slice 9 .str)] × PVs []) :=
  bif decide (0 ≤ (t0.length : Int)) && (decide ((t0.length : Int) ≤ (t0.length : Int)) && roomB (t0.length : Int).toNat) then
    (w_L_toStringS_3 (t0, (List.replicate (t0.length : Int).toNat []), 0, ())).bind fun l2 =>
      some ((l2.1, ()), ())
  else
    none
noncomputable def ct_L_toStringS : Ct := ⟨[(.bor, (.slice 9 .str))], [((.slice 9 .str), true)], fun x => f_L_toStringS x.1⟩
noncomputable def cx_L_toStringS : Cx := ⟨tab, arrs, [], []⟩
theorem eb_L_toStringS_3 (t0 : PV (.slice 9 .str)) (t3 : PV (.slice 9 .str)) (t4 : PV (.int .i64)) : denK cx_L_toStringS (rcN cx_L_toStringS 0) pl_L_toStringS 0 ((loopsOf (bodyOf Try.f31)).getD 0 .skip) (fillS sh_L_toStringS_3 (t0, t3, t4, ())) (roundK 0 lp_L_toStringS_3) = b_L_toStringS_3 t0 t3 t4 := by kernel_rfl
theorem ef_L_toStringS (t0 : PV (.slice 9 .str)) : denF cx_L_toStringS 0 pl_L_toStringS Try.f31.ntmps (bodyOf Try.f31) Try.f31.results.toList [(.bor, (.slice 9 .str))] [((.slice 9 .str), true)] (t0, ()) = f_L_toStringS t0 := by kernel_rfl
theorem ok_L_toStringS : FnOk Try.prog 31 ct_L_toStringS :=
  fnOk (cx := cx_L_toStringS) (pl := pl_L_toStringS) (dp := 0) (ok0_of tabOk (by unfold ArrOk; kernel_rfl) mix trivial trivial) Try.func31 (by kernel_rfl) (by kernel_rfl) (by kernel_rfl)
    (by rw [show loopsOf (bodyOf Try.f31) = [((loopsOf (bodyOf Try.f31)).getD 0 .skip)] from by kernel_rfl]; exact ⟨(by rw [show lookup pl_L_toStringS.loops (firstId ((loopsOf (bodyOf Try.f31)).getD 0 .skip)) = some lp_L_toStringS_3 from by kernel_rfl]; exact fun d z h => (eb_L_toStringS_3 d.1 d.2.1 d.2.2.1).trans h), trivial⟩) (fun x => ef_L_toStringS x.1)
noncomputable def pl_L_toPart : Plan := ⟨[], [], 0, 0⟩
noncomputable def f_L_toPart (t0 : PV Y94) : Option (PVs [Y94] × PVs []) :=
  (f_L_toStringS t0.2.2.2.1).bind fun r2 =>
    (f_L_toStringS t0.2.2.2.2.1).bind fun r4 =>
      some (((t0.1, (t0.2.1, (t0.2.2.1, (r2.1.1, (r4.1.1, ()))))), ()), ())
noncomputable def ct_L_toPart : Ct := ⟨[(.bor, Y94)], [(Y94, true)], fun x => f_L_toPart x.1⟩
noncomputable def cx_L_toPart : Cx := ⟨tab, arrs, [(31, ct_L_toStringS)], []⟩
theorem ef_L_toPart (t0 : PV Y94) : denF cx_L_toPart 0 pl_L_toPart Try.f70.ntmps (bodyOf Try.f70) Try.f70.results.toList [(.bor, Y94)] [(Y94, true)] (t0, ()) = f_L_toPart t0 := by kernel_rfl
theorem ok_L_toPart : FnOk Try.prog 70 ct_L_toPart :=
  fnOk (cx := cx_L_toPart) (pl := pl_L_toPart) (dp := 0) (ok0_of tabOk (by unfold ArrOk; kernel_rfl) mix ⟨ok_L_toStringS, trivial⟩ trivial) Try.func70 (by kernel_rfl) (by kernel_rfl) (by kernel_rfl)
    (by rw [show loopsOf (bodyOf Try.f70) = [] from by kernel_rfl]; exact trivial) (fun x => ef_L_toPart x.1)
noncomputable def sh_L_toPartS_3 : List Sh := mkSh 23 [(0, .val (.slice 94 Y94) .b), (3, .val (.slice 96 Y94) (.row (.pr .b (.pr .b (.pr .b (.pr (.row .b) (.pr (.row .b) .b))))))), (4, .val (.int .i64) .b)]
noncomputable def o_L_toPartS_3 : List Out := [⟨.exit 0, ⟨[], [3]⟩, mkSh 23 [(3, .val (.slice 96 Y94) (.row (.pr .b (.pr .b (.pr .b (.pr (.row .b) (.pr (.row .b) .b)))))))]⟩]
noncomputable def b_L_toPartS_3 (t0 : PV (.slice 94 Y94)) (t3 : PV (.slice 96 Y94)) (t4 : PV (.int .i64)) : Option ((PV (.slice 94 Y94) × PV (.slice 96 Y94) × PV (.int .i64) × Unit) ⊕ ((PV (.slice 96 Y94) × Unit))) :=
  bif (decide (t4 < (t0.length : Int))) then
    bif inB t4 t0.length then
      (f_L_toPart (t0.getD t4.toNat (dflt Y94))).bind fun r2 =>
        bif inB t4 t3.length then
          some (.inl (t0, (t3.set t4.toNat r2.1.1), (IntKind.wrap .i64 (t4 + 1)), ()))
        else
          none
    else
      none
  else
    some (.inr (t3, ()))
noncomputable def w_L_toPartS_3 : PV (.slice 94 Y94) × PV (.slice 96 Y94) × PV (.int .i64) × Unit → Option ((PV (.slice 96 Y94) × Unit)) := fix fun d => b_L_toPartS_3 d.1 d.2.1 d.2.2.1
noncomputable def lp_L_toPartS_3 : Lp := ⟨⟨[], [0, 3, 4]⟩, sh_L_toPartS_3, o_L_toPartS_3, fun d => b_L_toPartS_3 d.1 d.2.1 d.2.2.1⟩
noncomputable def pl_L_toPartS : Plan := ⟨[], [(3, lp_L_toPartS_3)], 0, 0⟩
noncomputable def f_L_toPartS (t0 : PV (.slice 94 Y94)) : Option (PVs [(.slice 96 Y94)] × PVs []) :=
  bif decide (0 ≤ (t0.length : Int)) && (decide ((t0.length : Int) ≤ (t0.length : Int)) && roomB (t0.length : Int).toNat) then
    (w_L_toPartS_3 (t0, (List.replicate (t0.length : Int).toNat (dflt Y94)), 0, ())).bind fun l4 =>
      some ((l4.1, ()), ())
  else
    none
noncomputable def ct_L_toPartS : Ct := ⟨[(.bor, (.slice 94 Y94))], [((.slice 96 Y94), true)], fun x => f_L_toPartS x.1⟩
noncomputable def cx_L_toPartS : Cx := ⟨tab, arrs, [(70, ct_L_toPart)], []⟩
theorem eb_L_toPartS_3 (t0 : PV (.slice 94 Y94)) (t3 : PV (.slice 96 Y94)) (t4 : PV (.int .i64)) : denK cx_L_toPartS (rcN cx_L_toPartS 0) pl_L_toPartS 0 ((loopsOf (bodyOf Try.f17)).getD 0 .skip) (fillS sh_L_toPartS_3 (t0, t3, t4, ())) (roundK 0 lp_L_toPartS_3) = b_L_toPartS_3 t0 t3 t4 := by kernel_rfl
theorem ef_L_toPartS (t0 : PV (.slice 94 Y94)) : denF cx_L_toPartS 0 pl_L_toPartS Try.f17.ntmps (bodyOf Try.f17) Try.f17.results.toList [(.bor, (.slice 94 Y94))] [((.slice 96 Y94), true)] (t0, ()) = f_L_toPartS t0 := by kernel_rfl
theorem ok_L_toPartS : FnOk Try.prog 17 ct_L_toPartS :=
  fnOk (cx := cx_L_toPartS) (pl := pl_L_toPartS) (dp := 0) (ok0_of tabOk (by unfold ArrOk; kernel_rfl) mix ⟨ok_L_toPart, trivial⟩ trivial) Try.func17 (by kernel_rfl) (by kernel_rfl) (by kernel_rfl)
    (by rw [show loopsOf (bodyOf Try.f17) = [((loopsOf (bodyOf Try.f17)).getD 0 .skip)] from by kernel_rfl]; exact ⟨(by rw [show lookup pl_L_toPartS.loops (firstId ((loopsOf (bodyOf Try.f17)).getD 0 .skip)) = some lp_L_toPartS_3 from by kernel_rfl]; exact fun d z h => (eb_L_toPartS_3 d.1 d.2.1 d.2.2.1).trans h), trivial⟩) (fun x => ef_L_toPartS x.1)
noncomputable def pl_S_l1In : Plan := ⟨[], [], 0, 0⟩
noncomputable def f_S_l1In (t0 : PV (.int .i64)) (t1 : PV (.int .i64)) (t2 : PV (.int .i64)) : Option (PVs [.bool] × PVs []) :=
  bif (decide (t0 ≥ t1)) then
    some (((decide (t0 ≤ t2)), ()), ())
  else
    some ((false, ()), ())
noncomputable def ct_S_l1In : Ct := ⟨[(.bor, (.int .i64)), (.bor, (.int .i64)), (.bor, (.int .i64))], [(.bool, false)], fun x => f_S_l1In x.1 x.2.1 x.2.2.1⟩
noncomputable def cx_S_l1In : Cx := ⟨tab, arrs, [], []⟩
theorem ef_S_l1In (t0 : PV (.int .i64)) (t1 : PV (.int .i64)) (t2 : PV (.int .i64)) : denF cx_S_l1In 0 pl_S_l1In Try.f99.ntmps (bodyOf Try.f99) Try.f99.results.toList [(.bor, (.int .i64)), (.bor, (.int .i64)), (.bor, (.int .i64))] [(.bool, false)] (t0, t1, t2, ()) = f_S_l1In t0 t1 t2 := by kernel_rfl
theorem ok_S_l1In : FnOk Try.prog 99 ct_S_l1In :=
  fnOk (cx := cx_S_l1In) (pl := pl_S_l1In) (dp := 0) (ok0_of tabOk (by unfold ArrOk; kernel_rfl) mix trivial trivial) Try.func99 (by kernel_rfl) (by kernel_rfl) (by kernel_rfl)
    (by rw [show loopsOf (bodyOf Try.f99) = [] from by kernel_rfl]; exact trivial) (fun x => ef_S_l1In x.1 x.2.1 x.2.2.1)
noncomputable def sh_S_l11Few_2 : List Sh := mkSh 19 [(0, .val (.slice 96 Y94) .b), (5, .val (.slice 96 Y94) .b), (6, .val (.int .i64) .b), (7, .val (.int .i64) .b)]
noncomputable def o_S_l11Few_2 : List Out := [⟨.exit 0, ⟨[], [0]⟩, mkSh 19 [(0, .val (.slice 96 Y94) .b)]⟩, ⟨.ret, ⟨[], [2]⟩, mkSh 19 [(2, .val .bool .b)]⟩]
noncomputable def b_S_l11Few_2 (t0 : PV (.slice 96 Y94)) (t5 : PV (.slice 96 Y94)) (t6 : PV (.int .i64)) (t7 : PV (.int .i64)) : Option ((PV (.slice 96 Y94) × PV (.slice 96 Y94) × PV (.int .i64) × PV (.int .i64) × Unit) ⊕ ((PV (.slice 96 Y94) × Unit) ⊕ (PV .bool × Unit))) :=
  bif (decide (t7 < t6)) then
    bif inB t7 t5.length then
      (f_S_l1In ((t5.getD t7.toNat (dflt Y94)).1) 1 5).bind fun r4 =>
        bif (!r4.1.1) then
          some (.inr (.inr (false, ())))
        else
          some (.inl (t0, t5, t6, (IntKind.wrap .i64 (t7 + 1)), ()))
    else
      none
  else
    some (.inr (.inl (t0, ())))
noncomputable def w_S_l11Few_2 : PV (.slice 96 Y94) × PV (.slice 96 Y94) × PV (.int .i64) × PV (.int .i64) × Unit → Option ((PV (.slice 96 Y94) × Unit) ⊕ (PV .bool × Unit)) := fix fun d => b_S_l11Few_2 d.1 d.2.1 d.2.2.1 d.2.2.2.1
noncomputable def lp_S_l11Few_2 : Lp := ⟨⟨[], [0, 5, 6, 7]⟩, sh_S_l11Few_2, o_S_l11Few_2, fun d => b_S_l11Few_2 d.1 d.2.1 d.2.2.1 d.2.2.2.1⟩
noncomputable def pl_S_l11Few : Plan := ⟨[], [(2, lp_S_l11Few_2)], 0, 0⟩
noncomputable def f_S_l11Few (t0 : PV (.slice 96 Y94)) : Option (PVs [.bool] × PVs []) :=
  (w_S_l11Few_2 (t0, t0, (t0.length : Int), 0, ())).bind fun x9 =>
    match x9 with
    | .inl l7 =>
      some (((decide ((l7.1.length : Int) ≤ 120)), ()), ())
    | .inr l8 =>
      some ((l8.1, ()), ())
noncomputable def ct_S_l11Few : Ct := ⟨[(.bor, (.slice 96 Y94))], [(.bool, false)], fun x => f_S_l11Few x.1⟩
noncomputable def cx_S_l11Few : Cx := ⟨tab, arrs, [(99, ct_S_l1In)], []⟩
theorem eb_S_l11Few_2 (t0 : PV (.slice 96 Y94)) (t5 : PV (.slice 96 Y94)) (t6 : PV (.int .i64)) (t7 : PV (.int .i64)) : denK cx_S_l11Few (rcN cx_S_l11Few 0) pl_S_l11Few 0 ((loopsOf (bodyOf Try.f69)).getD 0 .skip) (fillS sh_S_l11Few_2 (t0, t5, t6, t7, ())) (roundK 0 lp_S_l11Few_2) = b_S_l11Few_2 t0 t5 t6 t7 := by kernel_rfl
theorem ef_S_l11Few (t0 : PV (.slice 96 Y94)) : denF cx_S_l11Few 0 pl_S_l11Few Try.f69.ntmps (bodyOf Try.f69) Try.f69.results.toList [(.bor, (.slice 96 Y94))] [(.bool, false)] (t0, ()) = f_S_l11Few t0 := by kernel_rfl
theorem ok_S_l11Few : FnOk Try.prog 69 ct_S_l11Few :=
  fnOk (cx := cx_S_l11Few) (pl := pl_S_l11Few) (dp := 0) (ok0_of tabOk (by unfold ArrOk; kernel_rfl) mix ⟨ok_S_l1In, trivial⟩ trivial) Try.func69 (by kernel_rfl) (by kernel_rfl) (by kernel_rfl)
    (by rw [show loopsOf (bodyOf Try.f69) = [((loopsOf (bodyOf Try.f69)).getD 0 .skip)] from by kernel_rfl]; exact ⟨(by rw [show lookup pl_S_l11Few.loops (firstId ((loopsOf (bodyOf Try.f69)).getD 0 .skip)) = some lp_S_l11Few_2 from by kernel_rfl]; exact fun d z h => (eb_S_l11Few_2 d.1 d.2.1 d.2.2.1 d.2.2.2.1).trans h), trivial⟩) (fun x => ef_S_l11Few x.1)
noncomputable def o_S_ClashesIn_9 : List Out := [⟨.normal, ⟨[], [4, 10, 11, 12]⟩, mkSh 23 [(4, .val (.int .i64) .b), (10, .val (.slice 96 Y94) .b), (11, .val (.int .i64) .b), (12, .val (.int .i64) .b)]⟩]
noncomputable def sh_S_ClashesIn_5 : List Sh := mkSh 23 [(4, .val (.int .i64) .b), (10, .val (.slice 96 Y94) .b), (11, .val (.int .i64) .b), (12, .val (.int .i64) .b)]
noncomputable def o_S_ClashesIn_5 : List Out := [⟨.exit 0, ⟨[], [4]⟩, mkSh 23 [(4, .val (.int .i64) .b)]⟩]
noncomputable def b_S_ClashesIn_5 (t4 : PV (.int .i64)) (t10 : PV (.slice 96 Y94)) (t11 : PV (.int .i64)) (t12 : PV (.int .i64)) : Option ((PV (.int .i64) × PV (.slice 96 Y94) × PV (.int .i64) × PV (.int .i64) × Unit) ⊕ ((PV (.int .i64) × Unit))) :=
  bif (decide (t12 < t11)) then
    ((
        bif inB t12 t10.length then
          bif (((t10.getD t12.toNat (dflt Y94)).1) == 5) then
            some ((IntKind.wrap .i64 (t4 + 1)), t10, t11, t12, ())
          else
            some (t4, t10, t11, t12, ())
        else
          none : Option ((PV (.int .i64) × PV (.slice 96 Y94) × PV (.int .i64) × PV (.int .i64) × Unit)))).bind fun j5 =>
      some (.inl (j5.1, j5.2.1, j5.2.2.1, (IntKind.wrap .i64 (j5.2.2.2.1 + 1)), ()))
  else
    some (.inr (t4, ()))
noncomputable def w_S_ClashesIn_5 : PV (.int .i64) × PV (.slice 96 Y94) × PV (.int .i64) × PV (.int .i64) × Unit → Option ((PV (.int .i64) × Unit)) := fix fun d => b_S_ClashesIn_5 d.1 d.2.1 d.2.2.1 d.2.2.2.1
noncomputable def lp_S_ClashesIn_5 : Lp := ⟨⟨[], [4, 10, 11, 12]⟩, sh_S_ClashesIn_5, o_S_ClashesIn_5, fun d => b_S_ClashesIn_5 d.1 d.2.1 d.2.2.1 d.2.2.2.1⟩
noncomputable def pl_S_ClashesIn : Plan := ⟨[(9, o_S_ClashesIn_9)], [(5, lp_S_ClashesIn_5)], 0, 0⟩
noncomputable def f_S_ClashesIn (t0 : PV (.slice 96 Y94)) : Option (PVs [(.int .i64), .bool] × PVs []) :=
  (f_S_l11Few t0).bind fun r4 =>
    bif (!r4.1.1) then
      some ((0, false, ()), ())
    else
      (w_S_ClashesIn_5 (0, t0, (t0.length : Int), 0, ())).bind fun l7 =>
        some ((l7.1, true, ()), ())
noncomputable def ct_S_ClashesIn : Ct := ⟨[(.bor, (.slice 96 Y94))], [((.int .i64), false), (.bool, false)], fun x => f_S_ClashesIn x.1⟩
noncomputable def cx_S_ClashesIn : Cx := ⟨tab, arrs, [(69, ct_S_l11Few)], []⟩
theorem eb_S_ClashesIn_5 (t4 : PV (.int .i64)) (t10 : PV (.slice 96 Y94)) (t11 : PV (.int .i64)) (t12 : PV (.int .i64)) : denK cx_S_ClashesIn (rcN cx_S_ClashesIn 0) pl_S_ClashesIn 0 ((loopsOf (bodyOf Try.f16)).getD 0 .skip) (fillS sh_S_ClashesIn_5 (t4, t10, t11, t12, ())) (roundK 0 lp_S_ClashesIn_5) = b_S_ClashesIn_5 t4 t10 t11 t12 := by kernel_rfl
theorem ef_S_ClashesIn (t0 : PV (.slice 96 Y94)) : denF cx_S_ClashesIn 0 pl_S_ClashesIn Try.f16.ntmps (bodyOf Try.f16) Try.f16.results.toList [(.bor, (.slice 96 Y94))] [((.int .i64), false), (.bool, false)] (t0, ()) = f_S_ClashesIn t0 := by kernel_rfl
theorem ok_S_ClashesIn : FnOk Try.prog 16 ct_S_ClashesIn :=
  fnOk (cx := cx_S_ClashesIn) (pl := pl_S_ClashesIn) (dp := 0) (ok0_of tabOk (by unfold ArrOk; kernel_rfl) mix ⟨ok_S_l11Few, trivial⟩ trivial) Try.func16 (by kernel_rfl) (by kernel_rfl) (by kernel_rfl)
    (by rw [show loopsOf (bodyOf Try.f16) = [((loopsOf (bodyOf Try.f16)).getD 0 .skip)] from by kernel_rfl]; exact ⟨(by rw [show lookup pl_S_ClashesIn.loops (firstId ((loopsOf (bodyOf Try.f16)).getD 0 .skip)) = some lp_S_ClashesIn_5 from by kernel_rfl]; exact fun d z h => (eb_S_ClashesIn_5 d.1 d.2.1 d.2.2.1 d.2.2.2.1).trans h), trivial⟩) (fun x => ef_S_ClashesIn x.1)
noncomputable def pl_I_in : Plan := ⟨[], [], 0, 0⟩
noncomputable def f_I_in (t0 : PV (.int .i64)) (t1 : PV (.int .i64)) (t2 : PV (.int .i64)) : Option (PVs [.bool] × PVs []) :=
  bif (decide (t0 ≥ t1)) then
    some (((decide (t0 ≤ t2)), ()), ())
  else
    some ((false, ()), ())
noncomputable def ct_I_in : Ct := ⟨[(.bor, (.int .i64)), (.bor, (.int .i64)), (.bor, (.int .i64))], [(.bool, false)], fun x => f_I_in x.1 x.2.1 x.2.2.1⟩
noncomputable def cx_I_in : Cx := ⟨tab, arrs, [], []⟩
theorem ef_I_in (t0 : PV (.int .i64)) (t1 : PV (.int .i64)) (t2 : PV (.int .i64)) : denF cx_I_in 0 pl_I_in Try.f101.ntmps (bodyOf Try.f101) Try.f101.results.toList [(.bor, (.int .i64)), (.bor, (.int .i64)), (.bor, (.int .i64))] [(.bool, false)] (t0, t1, t2, ()) = f_I_in t0 t1 t2 := by kernel_rfl
theorem ok_I_in : FnOk Try.prog 101 ct_I_in :=
  fnOk (cx := cx_I_in) (pl := pl_I_in) (dp := 0) (ok0_of tabOk (by unfold ArrOk; kernel_rfl) mix trivial trivial) Try.func101 (by kernel_rfl) (by kernel_rfl) (by kernel_rfl)
    (by rw [show loopsOf (bodyOf Try.f101) = [] from by kernel_rfl]; exact trivial) (fun x => ef_I_in x.1 x.2.1 x.2.2.1)
noncomputable def pl_I_areParts_1 : Plan := ⟨[], [], 0, 0⟩
noncomputable def f_I_areParts_1 (t0 : PV Y94) : Option (PVs [.bool] × PVs []) :=
  (f_I_in t0.1 1 5).bind fun r1 =>
    some (((!r1.1.1), ()), ())
noncomputable def ct_I_areParts_1 : Ct := ⟨[(.bor, Y94)], [(.bool, false)], fun x => f_I_areParts_1 x.1⟩
noncomputable def cx_I_areParts_1 : Cx := ⟨tab, arrs, [(101, ct_I_in)], []⟩
theorem ef_I_areParts_1 (t0 : PV Y94) : denF cx_I_areParts_1 0 pl_I_areParts_1 Try.f110.ntmps (bodyOf Try.f110) Try.f110.results.toList [(.bor, Y94)] [(.bool, false)] (t0, ()) = f_I_areParts_1 t0 := by kernel_rfl
theorem ok_I_areParts_1 : FnOk Try.prog 110 ct_I_areParts_1 :=
  fnOk (cx := cx_I_areParts_1) (pl := pl_I_areParts_1) (dp := 0) (ok0_of tabOk (by unfold ArrOk; kernel_rfl) mix ⟨ok_I_in, trivial⟩ trivial) Try.func110 (by kernel_rfl) (by kernel_rfl) (by kernel_rfl)
    (by rw [show loopsOf (bodyOf Try.f110) = [] from by kernel_rfl]; exact trivial) (fun x => ef_I_areParts_1 x.1)
noncomputable def pl_I_areParts_109 : Plan := ⟨[], [], 1, 11⟩
noncomputable def sh_I_areParts_145_2 : List Sh := mkSh 39 [(0, .val (.slice 96 Y94) .b), (2, .val .bool .b), (3, .val (.slice 96 Y94) .b), (4, .val (.int .i64) .b), (5, .val .bool .b), (6, .val .bool .b), (7, .val (.slice 96 Y94) .b), (11, .val (.slice 96 Y94) .b), (12, .fn 110 []), (15, .val .bool .b), (16, .val (.slice 96 Y94) .b), (17, .fn 110 []), (20, .val (.slice 96 Y94) .b), (21, .fn 110 []), (27, .val (.int .i64) .b), (28, .val (.int .i64) .b)]
noncomputable def o_I_areParts_145_2 : List Out := [⟨.exit 0, ⟨[], []⟩, mkSh 39 [(0, .val (.slice 96 Y94) .b), (2, .val .bool .b), (3, .val (.slice 96 Y94) .b), (4, .val (.int .i64) .b), (5, .val .bool .b), (6, .val .bool .b), (7, .val (.slice 96 Y94) .b), (11, .val (.slice 96 Y94) .b), (12, .fn 110 []), (15, .val .bool .b), (16, .val (.slice 96 Y94) .b), (17, .fn 110 [])]⟩, ⟨.ret, ⟨[], [4]⟩, mkSh 39 [(0, .val (.slice 96 Y94) .b), (2, .val .bool .b), (3, .val (.slice 96 Y94) .b), (4, .val (.int .i64) .b), (5, .val .bool .b), (6, .val .bool .b), (7, .val (.slice 96 Y94) .b), (11, .val (.slice 96 Y94) .b), (12, .fn 110 []), (15, .val .bool .b), (16, .val (.slice 96 Y94) .b), (17, .fn 110 []), (24, .val (.int .i64) .b)]⟩]
noncomputable def b_I_areParts_145_2 (t0 : PV (.slice 96 Y94)) (t2 : PV .bool) (t3 : PV (.slice 96 Y94)) (t4 : PV (.int .i64)) (t5 : PV .bool) (t6 : PV .bool) (t7 : PV (.slice 96 Y94)) (t11 : PV (.slice 96 Y94)) (t15 : PV .bool) (t16 : PV (.slice 96 Y94)) (t20 : PV (.slice 96 Y94)) (t27 : PV (.int .i64)) (t28 : PV (.int .i64)) : Option ((PV (.slice 96 Y94) × PV .bool × PV (.slice 96 Y94) × PV (.int .i64) × PV .bool × PV .bool × PV (.slice 96 Y94) × PV (.slice 96 Y94) × PV .bool × PV (.slice 96 Y94) × PV (.slice 96 Y94) × PV (.int .i64) × PV (.int .i64) × Unit) ⊕ ((PV (.slice 96 Y94) × PV .bool × PV (.slice 96 Y94) × PV (.int .i64) × PV .bool × PV .bool × PV (.slice 96 Y94) × PV (.slice 96 Y94) × PV .bool × PV (.slice 96 Y94) × Unit) ⊕ (PV (.slice 96 Y94) × PV .bool × PV (.slice 96 Y94) × PV (.int .i64) × PV .bool × PV .bool × PV (.slice 96 Y94) × PV (.slice 96 Y94) × PV .bool × PV (.slice 96 Y94) × PV (.int .i64) × Unit))) :=
  bif (decide (t28 < t27)) then
    bif inB t28 t20.length then
      (f_I_areParts_1 (t20.getD t28.toNat (dflt Y94))).bind fun r4 =>
        bif r4.1.1 then
          some (.inr (.inr (t0, t2, t3, t4, t5, t6, t7, t11, t15, t16, t28, ())))
        else
          some (.inl (t0, t2, t3, t4, t5, t6, t7, t11, t15, t16, t20, t27, (IntKind.wrap .i64 (t28 + 1)), ()))
    else
      none
  else
    some (.inr (.inl (t0, t2, t3, t4, t5, t6, t7, t11, t15, t16, ())))
noncomputable def w_I_areParts_145_2 : PV (.slice 96 Y94) × PV .bool × PV (.slice 96 Y94) × PV (.int .i64) × PV .bool × PV .bool × PV (.slice 96 Y94) × PV (.slice 96 Y94) × PV .bool × PV (.slice 96 Y94) × PV (.slice 96 Y94) × PV (.int .i64) × PV (.int .i64) × Unit → Option ((PV (.slice 96 Y94) × PV .bool × PV (.slice 96 Y94) × PV (.int .i64) × PV .bool × PV .bool × PV (.slice 96 Y94) × PV (.slice 96 Y94) × PV .bool × PV (.slice 96 Y94) × Unit) ⊕ (PV (.slice 96 Y94) × PV .bool × PV (.slice 96 Y94) × PV (.int .i64) × PV .bool × PV .bool × PV (.slice 96 Y94) × PV (.slice 96 Y94) × PV .bool × PV (.slice 96 Y94) × PV (.int .i64) × Unit)) := fix fun d => b_I_areParts_145_2 d.1 d.2.1 d.2.2.1 d.2.2.2.1 d.2.2.2.2.1 d.2.2.2.2.2.1 d.2.2.2.2.2.2.1 d.2.2.2.2.2.2.2.1 d.2.2.2.2.2.2.2.2.1 d.2.2.2.2.2.2.2.2.2.1 d.2.2.2.2.2.2.2.2.2.2.1 d.2.2.2.2.2.2.2.2.2.2.2.1 d.2.2.2.2.2.2.2.2.2.2.2.2.1
noncomputable def lp_I_areParts_145_2 : Lp := ⟨⟨[], [0, 1, 7, 8]⟩, sh_I_areParts_145_2, o_I_areParts_145_2, fun d => b_I_areParts_145_2 d.1 d.2.1 d.2.2.1 d.2.2.2.1 d.2.2.2.2.1 d.2.2.2.2.2.1 d.2.2.2.2.2.2.1 d.2.2.2.2.2.2.2.1 d.2.2.2.2.2.2.2.2.1 d.2.2.2.2.2.2.2.2.2.1 d.2.2.2.2.2.2.2.2.2.2.1 d.2.2.2.2.2.2.2.2.2.2.2.1 d.2.2.2.2.2.2.2.2.2.2.2.2.1⟩
noncomputable def pl_I_areParts_145 : Plan := ⟨[], [(2, lp_I_areParts_145_2)], 0, 20⟩
noncomputable def pl_I_areParts : Plan := ⟨[], [], 2, 0⟩
noncomputable def f_I_areParts (t0 : PV (.slice 96 Y94)) : Option (PVs [.bool] × PVs []) :=
  bif (decide ((t0.length : Int) ≤ 120)) then
    (w_I_areParts_145_2 (t0, false, t0, (t0.length : Int), (decide ((t0.length : Int) ≤ 120)), true, t0, t0, false, t0, t0, (t0.length : Int), 0, ())).bind fun x9 =>
      match x9 with
      | .inl l7 =>
        bif l7.2.2.2.2.2.1 then
          some (((!(decide ((-1) ≥ 0))), ()), ())
        else
          some ((false, ()), ())
      | .inr l8 =>
        bif l8.2.2.2.2.2.1 then
          some (((!(decide (l8.2.2.2.2.2.2.2.2.2.2.1 ≥ 0))), ()), ())
        else
          some ((false, ()), ())
  else
    some ((false, ()), ())
noncomputable def ct_I_areParts : Ct := ⟨[(.bor, (.slice 96 Y94))], [(.bool, false)], fun x => f_I_areParts x.1⟩
noncomputable def cx_I_areParts : Cx := ⟨tab, arrs, [(110, ct_I_areParts_1)], [(109, Try.f109, pl_I_areParts_109), (145, Try.f145, pl_I_areParts_145)]⟩
theorem eb_I_areParts_145_2 (t0 : PV (.slice 96 Y94)) (t2 : PV .bool) (t3 : PV (.slice 96 Y94)) (t4 : PV (.int .i64)) (t5 : PV .bool) (t6 : PV .bool) (t7 : PV (.slice 96 Y94)) (t11 : PV (.slice 96 Y94)) (t15 : PV .bool) (t16 : PV (.slice 96 Y94)) (t20 : PV (.slice 96 Y94)) (t27 : PV (.int .i64)) (t28 : PV (.int .i64)) : denK cx_I_areParts (rcN cx_I_areParts 0) pl_I_areParts_145 20 ((loopsOf (bodyOf Try.f145)).getD 0 .skip) (fillS sh_I_areParts_145_2 (t0, t2, t3, t4, t5, t6, t7, t11, t15, t16, t20, t27, t28, ())) (roundK 20 lp_I_areParts_145_2) = b_I_areParts_145_2 t0 t2 t3 t4 t5 t6 t7 t11 t15 t16 t20 t27 t28 := by kernel_rfl
theorem ef_I_areParts (t0 : PV (.slice 96 Y94)) : denF cx_I_areParts 2 pl_I_areParts Try.f71.ntmps (bodyOf Try.f71) Try.f71.results.toList [(.bor, (.slice 96 Y94))] [(.bool, false)] (t0, ()) = f_I_areParts t0 := by kernel_rfl
theorem ok_I_areParts : FnOk Try.prog 71 ct_I_areParts :=
  fnOk (cx := cx_I_areParts) (pl := pl_I_areParts) (dp := 2) (ok0_of tabOk (by unfold ArrOk; kernel_rfl) mix ⟨ok_I_areParts_1, trivial⟩ ⟨⟨Try.func109, by kernel_rfl, (by rw [show loopsOf (bodyOf Try.f109) = [] from by kernel_rfl]; exact trivial)⟩, ⟨Try.func145, by kernel_rfl, (by rw [show loopsOf (bodyOf Try.f145) = [((loopsOf (bodyOf Try.f145)).getD 0 .skip)] from by kernel_rfl]; exact ⟨(by rw [show lookup pl_I_areParts_145.loops (firstId ((loopsOf (bodyOf Try.f145)).getD 0 .skip)) = some lp_I_areParts_145_2 from by kernel_rfl]; exact fun d z h => (eb_I_areParts_145_2 d.1 d.2.1 d.2.2.1 d.2.2.2.1 d.2.2.2.2.1 d.2.2.2.2.2.1 d.2.2.2.2.2.2.1 d.2.2.2.2.2.2.2.1 d.2.2.2.2.2.2.2.2.1 d.2.2.2.2.2.2.2.2.2.1 d.2.2.2.2.2.2.2.2.2.2.1 d.2.2.2.2.2.2.2.2.2.2.2.1 d.2.2.2.2.2.2.2.2.2.2.2.2.1).trans h), trivial⟩)⟩, trivial⟩) Try.func71 (by kernel_rfl) (by kernel_rfl) (by kernel_rfl)
    (by rw [show loopsOf (bodyOf Try.f71) = [] from by kernel_rfl]; exact trivial) (fun x => ef_I_areParts x.1)
noncomputable def o_I_clashes_7 : List Out := [⟨.normal, ⟨[], [3, 6, 7, 8]⟩, mkSh 19 [(3, .val (.int .i64) .b), (6, .val (.slice 96 Y94) .b), (7, .val (.int .i64) .b), (8, .val (.int .i64) .b)]⟩]
noncomputable def sh_I_clashes_3 : List Sh := mkSh 19 [(3, .val (.int .i64) .b), (6, .val (.slice 96 Y94) .b), (7, .val (.int .i64) .b), (8, .val (.int .i64) .b)]
noncomputable def o_I_clashes_3 : List Out := [⟨.exit 0, ⟨[], [3]⟩, mkSh 19 [(3, .val (.int .i64) .b)]⟩]
noncomputable def b_I_clashes_3 (t3 : PV (.int .i64)) (t6 : PV (.slice 96 Y94)) (t7 : PV (.int .i64)) (t8 : PV (.int .i64)) : Option ((PV (.int .i64) × PV (.slice 96 Y94) × PV (.int .i64) × PV (.int .i64) × Unit) ⊕ ((PV (.int .i64) × Unit))) :=
  bif (decide (t8 < t7)) then
    ((
        bif inB t8 t6.length then
          bif (((t6.getD t8.toNat (dflt Y94)).1) == 5) then
            some ((IntKind.wrap .i64 (t3 + 1)), t6, t7, t8, ())
          else
            some (t3, t6, t7, t8, ())
        else
          none : Option ((PV (.int .i64) × PV (.slice 96 Y94) × PV (.int .i64) × PV (.int .i64) × Unit)))).bind fun j1 =>
      some (.inl (j1.1, j1.2.1, j1.2.2.1, (IntKind.wrap .i64 (j1.2.2.2.1 + 1)), ()))
  else
    some (.inr (t3, ()))
noncomputable def w_I_clashes_3 : PV (.int .i64) × PV (.slice 96 Y94) × PV (.int .i64) × PV (.int .i64) × Unit → Option ((PV (.int .i64) × Unit)) := fix fun d => b_I_clashes_3 d.1 d.2.1 d.2.2.1 d.2.2.2.1
noncomputable def lp_I_clashes_3 : Lp := ⟨⟨[], [3, 6, 7, 8]⟩, sh_I_clashes_3, o_I_clashes_3, fun d => b_I_clashes_3 d.1 d.2.1 d.2.2.1 d.2.2.2.1⟩
noncomputable def pl_I_clashes : Plan := ⟨[(7, o_I_clashes_7)], [(3, lp_I_clashes_3)], 0, 0⟩
noncomputable def f_I_clashes (t0 : PV (.slice 96 Y94)) : Option (PVs [(.int .i64)] × PVs []) :=
  (w_I_clashes_3 (0, t0, (t0.length : Int), 0, ())).bind fun l3 =>
    some ((l3.1, ()), ())
noncomputable def ct_I_clashes : Ct := ⟨[(.bor, (.slice 96 Y94))], [((.int .i64), false)], fun x => f_I_clashes x.1⟩
noncomputable def cx_I_clashes : Cx := ⟨tab, arrs, [], []⟩
theorem eb_I_clashes_3 (t3 : PV (.int .i64)) (t6 : PV (.slice 96 Y94)) (t7 : PV (.int .i64)) (t8 : PV (.int .i64)) : denK cx_I_clashes (rcN cx_I_clashes 0) pl_I_clashes 0 ((loopsOf (bodyOf Try.f72)).getD 0 .skip) (fillS sh_I_clashes_3 (t3, t6, t7, t8, ())) (roundK 0 lp_I_clashes_3) = b_I_clashes_3 t3 t6 t7 t8 := by kernel_rfl
theorem ef_I_clashes (t0 : PV (.slice 96 Y94)) : denF cx_I_clashes 0 pl_I_clashes Try.f72.ntmps (bodyOf Try.f72) Try.f72.results.toList [(.bor, (.slice 96 Y94))] [((.int .i64), false)] (t0, ()) = f_I_clashes t0 := by kernel_rfl
theorem ok_I_clashes : FnOk Try.prog 72 ct_I_clashes :=
  fnOk (cx := cx_I_clashes) (pl := pl_I_clashes) (dp := 0) (ok0_of tabOk (by unfold ArrOk; kernel_rfl) mix trivial trivial) Try.func72 (by kernel_rfl) (by kernel_rfl) (by kernel_rfl)
    (by rw [show loopsOf (bodyOf Try.f72) = [((loopsOf (bodyOf Try.f72)).getD 0 .skip)] from by kernel_rfl]; exact ⟨(by rw [show lookup pl_I_clashes.loops (firstId ((loopsOf (bodyOf Try.f72)).getD 0 .skip)) = some lp_I_clashes_3 from by kernel_rfl]; exact fun d z h => (eb_I_clashes_3 d.1 d.2.1 d.2.2.1 d.2.2.2.1).trans h), trivial⟩) (fun x => ef_I_clashes x.1)
noncomputable def pl_I_ClashesIn : Plan := ⟨[], [], 0, 0⟩
noncomputable def f_I_ClashesIn (t0 : PV (.slice 96 Y94)) : Option (PVs [(.int .i64), .bool] × PVs []) :=
  (f_I_areParts t0).bind fun r4 =>
    bif (!r4.1.1) then
      some ((0, false, ()), ())
    else
      (f_I_clashes t0).bind fun r5 =>
        some ((r5.1.1, true, ()), ())
noncomputable def ct_I_ClashesIn : Ct := ⟨[(.bor, (.slice 96 Y94))], [((.int .i64), false), (.bool, false)], fun x => f_I_ClashesIn x.1⟩
noncomputable def cx_I_ClashesIn : Cx := ⟨tab, arrs, [(71, ct_I_areParts), (72, ct_I_clashes)], []⟩
theorem ef_I_ClashesIn (t0 : PV (.slice 96 Y94)) : denF cx_I_ClashesIn 0 pl_I_ClashesIn Try.f18.ntmps (bodyOf Try.f18) Try.f18.results.toList [(.bor, (.slice 96 Y94))] [((.int .i64), false), (.bool, false)] (t0, ()) = f_I_ClashesIn t0 := by kernel_rfl
theorem ok_I_ClashesIn : FnOk Try.prog 18 ct_I_ClashesIn :=
  fnOk (cx := cx_I_ClashesIn) (pl := pl_I_ClashesIn) (dp := 0) (ok0_of tabOk (by unfold ArrOk; kernel_rfl) mix ⟨ok_I_areParts, ok_I_clashes, trivial⟩ trivial) Try.func18 (by kernel_rfl) (by kernel_rfl) (by kernel_rfl)
    (by rw [show loopsOf (bodyOf Try.f18) = [] from by kernel_rfl]; exact trivial) (fun x => ef_I_ClashesIn x.1)
noncomputable def sh_L_eqStringS_4 : List Sh := mkSh 26 [(0, .val (.slice 9 .str) .b), (1, .val (.slice 9 .str) .b), (5, .val (.int .i64) .b)]
noncomputable def o_L_eqStringS_4 : List Out := [⟨.exit 0, ⟨[], []⟩, mkSh 26 []⟩, ⟨.ret, ⟨[], [4]⟩, mkSh 26 [(4, .val .bool .b)]⟩]
noncomputable def b_L_eqStringS_4 (t0 : PV (.slice 9 .str)) (t1 : PV (.slice 9 .str)) (t5 : PV (.int .i64)) : Option ((PV (.slice 9 .str) × PV (.slice 9 .str) × PV (.int .i64) × Unit) ⊕ ((Unit) ⊕ (PV .bool × Unit))) :=
  bif (decide (t5 < (t0.length : Int))) then
    bif inB t5 t0.length then
      bif inB t5 t1.length then
        bif (!((t0.getD t5.toNat []) == (t1.getD t5.toNat []))) then
          some (.inr (.inr (false, ())))
        else
          some (.inl (t0, t1, (IntKind.wrap .i64 (t5 + 1)), ()))
      else
        none
    else
      none
  else
    some (.inr (.inl ()))
noncomputable def w_L_eqStringS_4 : PV (.slice 9 .str) × PV (.slice 9 .str) × PV (.int .i64) × Unit → Option ((Unit) ⊕ (PV .bool × Unit)) := fix fun d => b_L_eqStringS_4 d.1 d.2.1 d.2.2.1
noncomputable def lp_L_eqStringS_4 : Lp := ⟨⟨[], [0, 1, 5]⟩, sh_L_eqStringS_4, o_L_eqStringS_4, fun d => b_L_eqStringS_4 d.1 d.2.1 d.2.2.1⟩
noncomputable def pl_L_eqStringS : Plan := ⟨[], [(4, lp_L_eqStringS_4)], 0, 0⟩
noncomputable def f_L_eqStringS (t0 : PV (.slice 9 .str)) (t1 : PV (.slice 9 .str)) : Option (PVs [.bool] × PVs []) :=
  bif (!((t0.length : Int) == (t1.length : Int))) then
    some ((false, ()), ())
  else
    (w_L_eqStringS_4 (t0, t1, 0, ())).bind fun x5 =>
      match x5 with
      | .inl l3 =>
        some ((true, ()), ())
      | .inr l4 =>
        some ((l4.1, ()), ())
noncomputable def ct_L_eqStringS : Ct := ⟨[(.bor, (.slice 9 .str)), (.bor, (.slice 9 .str))], [(.bool, false)], fun x => f_L_eqStringS x.1 x.2.1⟩
noncomputable def cx_L_eqStringS : Cx := ⟨tab, arrs, [], []⟩
theorem eb_L_eqStringS_4 (t0 : PV (.slice 9 .str)) (t1 : PV (.slice 9 .str)) (t5 : PV (.int .i64)) : denK cx_L_eqStringS (rcN cx_L_eqStringS 0) pl_L_eqStringS 0 ((loopsOf (bodyOf Try.f33)).getD 0 .skip) (fillS sh_L_eqStringS_4 (t0, t1, t5, ())) (roundK 0 lp_L_eqStringS_4) = b_L_eqStringS_4 t0 t1 t5 := by kernel_rfl
theorem ef_L_eqStringS (t0 : PV (.slice 9 .str)) (t1 : PV (.slice 9 .str)) : denF cx_L_eqStringS 0 pl_L_eqStringS Try.f33.ntmps (bodyOf Try.f33) Try.f33.results.toList [(.bor, (.slice 9 .str)), (.bor, (.slice 9 .str))] [(.bool, false)] (t0, t1, ()) = f_L_eqStringS t0 t1 := by kernel_rfl
theorem ok_L_eqStringS : FnOk Try.prog 33 ct_L_eqStringS :=
  fnOk (cx := cx_L_eqStringS) (pl := pl_L_eqStringS) (dp := 0) (ok0_of tabOk (by unfold ArrOk; kernel_rfl) mix trivial trivial) Try.func33 (by kernel_rfl) (by kernel_rfl) (by kernel_rfl)
    (by rw [show loopsOf (bodyOf Try.f33) = [((loopsOf (bodyOf Try.f33)).getD 0 .skip)] from by kernel_rfl]; exact ⟨(by rw [show lookup pl_L_eqStringS.loops (firstId ((loopsOf (bodyOf Try.f33)).getD 0 .skip)) = some lp_L_eqStringS_4 from by kernel_rfl]; exact fun d z h => (eb_L_eqStringS_4 d.1 d.2.1 d.2.2.1).trans h), trivial⟩) (fun x => ef_L_eqStringS x.1 x.2.1)
noncomputable def pl_L_eqPart : Plan := ⟨[], [], 0, 0⟩
noncomputable def f_L_eqPart (t0 : PV Y94) (t1 : PV Y94) : Option (PVs [.bool] × PVs []) :=
  bif (!(t0.1 == t1.1)) then
    some ((false, ()), ())
  else
    bif (!(t0.2.1 == t1.2.1)) then
      some ((false, ()), ())
    else
      bif (!(t0.2.2.1 == t1.2.2.1)) then
        some ((false, ()), ())
      else
        (f_L_eqStringS t0.2.2.2.1 t1.2.2.2.1).bind fun r4 =>
          bif (!r4.1.1) then
            some ((false, ()), ())
          else
            (f_L_eqStringS t0.2.2.2.2.1 t1.2.2.2.2.1).bind fun r8 =>
              bif (!r8.1.1) then
                some ((false, ()), ())
              else
                some ((true, ()), ())
noncomputable def ct_L_eqPart : Ct := ⟨[(.bor, Y94), (.bor, Y94)], [(.bool, false)], fun x => f_L_eqPart x.1 x.2.1⟩
noncomputable def cx_L_eqPart : Cx := ⟨tab, arrs, [(33, ct_L_eqStringS)], []⟩
theorem ef_L_eqPart (t0 : PV Y94) (t1 : PV Y94) : denF cx_L_eqPart 0 pl_L_eqPart Try.f73.ntmps (bodyOf Try.f73) Try.f73.results.toList [(.bor, Y94), (.bor, Y94)] [(.bool, false)] (t0, t1, ()) = f_L_eqPart t0 t1 := by kernel_rfl
theorem ok_L_eqPart : FnOk Try.prog 73 ct_L_eqPart :=
  fnOk (cx := cx_L_eqPart) (pl := pl_L_eqPart) (dp := 0) (ok0_of tabOk (by unfold ArrOk; kernel_rfl) mix ⟨ok_L_eqStringS, trivial⟩ trivial) Try.func73 (by kernel_rfl) (by kernel_rfl) (by kernel_rfl)
    (by rw [show loopsOf (bodyOf Try.f73) = [] from by kernel_rfl]; exact trivial) (fun x => ef_L_eqPart x.1 x.2.1)
noncomputable def sh_L_eqPartS_4 : List Sh := mkSh 27 [(0, .val (.slice 96 Y94) .b), (1, .val (.slice 96 Y94) .b), (5, .val (.int .i64) .b)]
noncomputable def o_L_eqPartS_4 : List Out := [⟨.exit 0, ⟨[], []⟩, mkSh 27 []⟩, ⟨.ret, ⟨[], [4]⟩, mkSh 27 [(4, .val .bool .b)]⟩]
noncomputable def b_L_eqPartS_4 (t0 : PV (.slice 96 Y94)) (t1 : PV (.slice 96 Y94)) (t5 : PV (.int .i64)) : Option ((PV (.slice 96 Y94) × PV (.slice 96 Y94) × PV (.int .i64) × Unit) ⊕ ((Unit) ⊕ (PV .bool × Unit))) :=
  bif (decide (t5 < (t0.length : Int))) then
    bif inB t5 t0.length then
      bif inB t5 t1.length then
        (f_L_eqPart (t0.getD t5.toNat (dflt Y94)) (t1.getD t5.toNat (dflt Y94))).bind fun r4 =>
          bif (!r4.1.1) then
            some (.inr (.inr (false, ())))
          else
            some (.inl (t0, t1, (IntKind.wrap .i64 (t5 + 1)), ()))
      else
        none
    else
      none
  else
    some (.inr (.inl ()))
noncomputable def w_L_eqPartS_4 : PV (.slice 96 Y94) × PV (.slice 96 Y94) × PV (.int .i64) × Unit → Option ((Unit) ⊕ (PV .bool × Unit)) := fix fun d => b_L_eqPartS_4 d.1 d.2.1 d.2.2.1
noncomputable def lp_L_eqPartS_4 : Lp := ⟨⟨[], [0, 1, 5]⟩, sh_L_eqPartS_4, o_L_eqPartS_4, fun d => b_L_eqPartS_4 d.1 d.2.1 d.2.2.1⟩
noncomputable def pl_L_eqPartS : Plan := ⟨[], [(4, lp_L_eqPartS_4)], 0, 0⟩
noncomputable def f_L_eqPartS (t0 : PV (.slice 96 Y94)) (t1 : PV (.slice 96 Y94)) : Option (PVs [.bool] × PVs []) :=
  bif (!((t0.length : Int) == (t1.length : Int))) then
    some ((false, ()), ())
  else
    (w_L_eqPartS_4 (t0, t1, 0, ())).bind fun x9 =>
      match x9 with
      | .inl l7 =>
        some ((true, ()), ())
      | .inr l8 =>
        some ((l8.1, ()), ())
noncomputable def ct_L_eqPartS : Ct := ⟨[(.bor, (.slice 96 Y94)), (.bor, (.slice 96 Y94))], [(.bool, false)], fun x => f_L_eqPartS x.1 x.2.1⟩
noncomputable def cx_L_eqPartS : Cx := ⟨tab, arrs, [(73, ct_L_eqPart)], []⟩
theorem eb_L_eqPartS_4 (t0 : PV (.slice 96 Y94)) (t1 : PV (.slice 96 Y94)) (t5 : PV (.int .i64)) : denK cx_L_eqPartS (rcN cx_L_eqPartS 0) pl_L_eqPartS 0 ((loopsOf (bodyOf Try.f19)).getD 0 .skip) (fillS sh_L_eqPartS_4 (t0, t1, t5, ())) (roundK 0 lp_L_eqPartS_4) = b_L_eqPartS_4 t0 t1 t5 := by kernel_rfl
theorem ef_L_eqPartS (t0 : PV (.slice 96 Y94)) (t1 : PV (.slice 96 Y94)) : denF cx_L_eqPartS 0 pl_L_eqPartS Try.f19.ntmps (bodyOf Try.f19) Try.f19.results.toList [(.bor, (.slice 96 Y94)), (.bor, (.slice 96 Y94))] [(.bool, false)] (t0, t1, ()) = f_L_eqPartS t0 t1 := by kernel_rfl
theorem ok_L_eqPartS : FnOk Try.prog 19 ct_L_eqPartS :=
  fnOk (cx := cx_L_eqPartS) (pl := pl_L_eqPartS) (dp := 0) (ok0_of tabOk (by unfold ArrOk; kernel_rfl) mix ⟨ok_L_eqPart, trivial⟩ trivial) Try.func19 (by kernel_rfl) (by kernel_rfl) (by kernel_rfl)
    (by rw [show loopsOf (bodyOf Try.f19) = [((loopsOf (bodyOf Try.f19)).getD 0 .skip)] from by kernel_rfl]; exact ⟨(by rw [show lookup pl_L_eqPartS.loops (firstId ((loopsOf (bodyOf Try.f19)).getD 0 .skip)) = some lp_L_eqPartS_4 from by kernel_rfl]; exact fun d z h => (eb_L_eqPartS_4 d.1 d.2.1 d.2.2.1).trans h), trivial⟩) (fun x => ef_L_eqPartS x.1 x.2.1)
noncomputable def o_L_FnExactClashesIn_9 : List Out := [⟨.normal, ⟨[], [0, 6, 34]⟩, mkSh 40 [(0, .val (.slice 94 Y94) .b), (6, .val (.slice 96 Y94) (.row (.pr .b (.pr .b (.pr .b (.pr (.row .b) (.pr (.row .b) .b))))))), (34, .val .bool .b)]⟩]
noncomputable def pl_L_FnExactClashesIn : Plan := ⟨[(9, o_L_FnExactClashesIn_9)], [], 0, 0⟩
noncomputable def f_L_FnExactClashesIn (t0 : PV (.slice 94 Y94)) : Option (PVs [.bool] × PVs []) :=
  (f_L_szPartS t0 1048576).bind fun r2 =>
    bif (decide (r2.1.1 < 0)) then
      some ((true, ()), ())
    else
      (f_L_toPartS t0).bind fun r5 =>
        (f_S_ClashesIn r5.1.1).bind fun r6 =>
          (f_L_toPartS t0).bind fun r8 =>
            (f_I_ClashesIn r8.1.1).bind fun r10 =>
              ((
                  bif (!(r10.1.1 == r6.1.1)) then
                    some (t0, r8.1.1, true, ())
                  else
                    some (t0, r8.1.1, (!(r10.1.2.1 == r6.1.2.1)), ()) : Option ((PV (.slice 94 Y94) × PV (.slice 96 Y94) × PV .bool × Unit)))).bind fun j12 =>
                bif j12.2.2.1 then
                  some ((false, ()), ())
                else
                  (f_L_toPartS j12.1).bind fun r19 =>
                    (f_L_eqPartS j12.2.1 r19.1.1).bind fun r20 =>
                      bif (!r20.1.1) then
                        some ((false, ()), ())
                      else
                        some ((true, ()), ())
noncomputable def ct_L_FnExactClashesIn : Ct := ⟨[(.bor, (.slice 94 Y94))], [(.bool, false)], fun x => f_L_FnExactClashesIn x.1⟩
noncomputable def cx_L_FnExactClashesIn : Cx := ⟨tab, arrs, [(15, ct_L_szPartS), (16, ct_S_ClashesIn), (17, ct_L_toPartS), (18, ct_I_ClashesIn), (19, ct_L_eqPartS)], []⟩
theorem ef_L_FnExactClashesIn (t0 : PV (.slice 94 Y94)) : denF cx_L_FnExactClashesIn 0 pl_L_FnExactClashesIn Try.f3.ntmps (bodyOf Try.f3) Try.f3.results.toList [(.bor, (.slice 94 Y94))] [(.bool, false)] (t0, ()) = f_L_FnExactClashesIn t0 := by kernel_rfl
theorem ok_L_FnExactClashesIn : FnOk Try.prog 3 ct_L_FnExactClashesIn :=
  fnOk (cx := cx_L_FnExactClashesIn) (pl := pl_L_FnExactClashesIn) (dp := 0) (ok0_of tabOk (by unfold ArrOk; kernel_rfl) mix ⟨ok_L_szPartS, ok_S_ClashesIn, ok_L_toPartS, ok_I_ClashesIn, ok_L_eqPartS, trivial⟩ trivial) Try.func3 (by kernel_rfl) (by kernel_rfl) (by kernel_rfl)
    (by rw [show loopsOf (bodyOf Try.f3) = [] from by kernel_rfl]; exact trivial) (fun x => ef_L_FnExactClashesIn x.1)
end R1
