/- The functions that L_FnExactClashesIn, L_FnExactGoodOrders, L_FnExactSwapSides, L_FnExactGoodSeries, L_FnExactSizeOf, L_FnExactChurnOf reach, as pure functions, and that the program computes them. -/
import Derived.Test.YtmdlfpmkghkakaaFd
import Derived.Test.YtmdlfpmkghkakaaFe
import Derived.Test.YtmdlfpmkghkakaaEd
import Derived.Test.YtmdlfpmkghkakaaChecked
import Derived.KernelRfl
open Go Go.Dn Go.Proofs
namespace R
set_option linter.unusedVariables false
@[reducible] def S_string : Ty := (.slice 9 .str)
@[reducible] def S_uint8 : Ty := (.slice 5 (.int .u8))
@[reducible] def S_int : Ty := (.slice 3 (.int .i64))
@[reducible] def S_S_string : Ty := (.slice 40 S_string)
@[reducible] def S_S_int : Ty := (.slice 83 S_int)
@[reducible] def Y__2_int : Ty := (.pair (.int .i64) (.pair (.int .i64) .unit))
@[reducible] def S__2_int : Ty := (.slice 137 Y__2_int)
@[reducible] def Y_impl_Hunk : Ty := (.pair (.int .i64) (.pair (.int .i64) (.pair S_string .unit)))
@[reducible] def S_impl_Hunk : Ty := (.slice 124 Y_impl_Hunk)
@[reducible] def S_laws_Hunk : Ty := (.slice 170 Y_impl_Hunk)
@[reducible] def Y_impl_Order : Ty := (.pair (.int .i64) Y_impl_Hunk)
@[reducible] def S_S_laws_Hunk : Ty := (.slice 154 S_laws_Hunk)
@[reducible] def S_S_impl_Hunk : Ty := (.slice 122 S_impl_Hunk)
@[reducible] def S_laws_Order : Ty := (.slice 102 Y_impl_Order)
@[reducible] def S_impl_Order : Ty := (.slice 103 Y_impl_Order)
@[reducible] def Y_impl_Part : Ty := (.pair (.int .i64) (.pair (.int .i64) (.pair (.int .i64) (.pair S_string (.pair S_string .unit)))))
@[reducible] def S_laws_Part : Ty := (.slice 94 Y_impl_Part)
@[reducible] def S_impl_Part : Ty := (.slice 96 Y_impl_Part)
@[reducible] def Y_laws_Series : Ty := (.pair S_string (.pair S_S_laws_Hunk .unit))
@[reducible] def Y_impl_Series : Ty := (.pair S_string (.pair S_S_impl_Hunk .unit))
noncomputable def tab : List (TypeId × Ty) := [(3, (.int .i64)), (4, .bool), (5, (.int .u8)), (9, .str), (22, S_laws_Part), (26, S_impl_Part), (33, S_laws_Order), (36, S_impl_Order), (40, S_string), (46, S_S_string), (48, S_S_int), (68, S_S_laws_Hunk), (70, Y_laws_Series), (73, S_S_impl_Hunk), (75, Y_impl_Series), (83, S_int), (94, Y_impl_Part), (96, Y_impl_Part), (102, Y_impl_Order), (103, Y_impl_Order), (106, S__2_int), (122, S_impl_Hunk), (124, Y_impl_Hunk), (137, Y__2_int), (154, S_laws_Hunk), (158, S_uint8), (170, Y_impl_Hunk)]
noncomputable def arrs : List TypeId := [137]
theorem tabOk : TabOk Try.prog tab := by unfold TabOk; kernel_rfl
theorem mix : Try.prog.follows .mixedOrders = true := by kernel_rfl
open Go.Shelf
set_option maxRecDepth 20000
noncomputable def f_slices_Clone_string (t0 : PV S_string) : Option (PVs [S_string] × PVs []) := bif roomB ((([] : PV S_string)).length + t0.length) then some ((([] : PV S_string) ++ t0, ()), ()) else none
noncomputable def ct_slices_Clone_string : Ct := ⟨[(.bor, S_string)], [(S_string, true)], fun x => f_slices_Clone_string x.1⟩
noncomputable def pl_slices_Clone_string : Plan := ⟨[], [], 0, 0⟩
noncomputable def cx_slices_Clone_string : Cx := ⟨tab, arrs, [], []⟩
theorem ok_slices_Clone_string : FnOk Try.prog 75 ct_slices_Clone_string :=
  fnOk_nil' (cx := cx_slices_Clone_string) (pl := pl_slices_Clone_string) (dp := 0) (t3 := 3) (te := 9) (T := .str) (ok0_of tabOk (by unfold ArrOk; kernel_rfl) mix trivial trivial) Try.func75 (fn := Try.f75) (rvs := Try.f75.results.toList) rfl (by kernel_rfl) (by kernel_rfl) (by kernel_rfl) rfl rfl rfl rfl Try.underlying40 ⟨⟨⟨trivial, trivial⟩, trivial⟩, ⟨trivial, trivial⟩⟩ (fun x => by kernel_rfl) (fun x => by kernel_rfl) (fun x => by kernel_rfl) (fun x => by kernel_rfl) (by kernel_rfl)
def lays_strings_Contains_ren : Go.Shelf.Ren := ⟨fun | 0 => 0 | 1 => 1 | 2 => 2 | 100 => 166 | 143 => 170 | 144 => 155 | 193 => 152 | 207 => 173 | 212 => 168 | 217 => 177 | 219 => 176 | 224 => 179 | 225 => 178 | 263 => 174 | 264 => 175 | 266 => 181 | 267 => 180 | 314 => 182 | 347 => 183 | 348 => 184 | 349 => 185 | 350 => 186 | 351 => 187 | 352 => 188 | 353 => 189 | 354 => 190 | 355 => 191 | 356 => 192 | 357 => 193 | 358 => 194 | 359 => 195 | 360 => 196 | 361 => 197 | 366 => 199 | n => n, fun | 0 => 0 | 1 => 1 | 2 => 2 | 3 => 3 | 4 => 4 | 5 => 5 | 6 => 6 | 7 => 7 | 8 => 8 | 9 => 9 | 10 => 10 | 11 => 11 | 12 => 12 | 13 => 13 | 14 => 14 | 15 => 15 | 16 => 16 | 17 => 17 | 18 => 18 | 19 => 19 | 20 => 20 | 21 => 21 | 22 => 165 | 23 => 147 | 24 => 60 | 27 => 180 | 28 => 83 | 30 => 87 | 31 => 40 | 34 => 86 | 37 => 158 | 43 => 163 | 46 => 176 | 51 => 182 | 53 => 185 | 55 => 188 | 80 => 151 | 81 => 196 | 83 => 113 | 101 => 44 | 102 => 43 | 104 => 135 | 109 => 177 | 110 => 178 | 112 => 150 | 114 => 189 | 127 => 200 | 131 => 24 | 146 => 183 | 147 => 184 | 148 => 186 | 149 => 187 | 151 => 190 | 164 => 206 | 229 => 125 | 238 => 191 | 239 => 192 | 240 => 193 | 241 => 194 | 242 => 195 | 243 => 197 | 244 => 198 | 245 => 199 | 246 => 201 | 247 => 202 | 248 => 203 | 249 => 204 | n => n, fun | 1 => 0 | n => n⟩
theorem lays_strings_Contains : Go.Proofs.Lays.n144 Try.prog lays_strings_Contains_ren where
  mixed := by kernel_rfl
  f143 := Try.func170.trans (congrArg some (by kernel_rfl))
  f144 := Try.func155.trans (congrArg some (by kernel_rfl))
  f217 := Try.func177.trans (congrArg some (by kernel_rfl))
  f219 := Try.func176.trans (congrArg some (by kernel_rfl))
  f224 := Try.func179.trans (congrArg some (by kernel_rfl))
  f225 := Try.func178.trans (congrArg some (by kernel_rfl))
  f266 := Try.func181.trans (congrArg some (by kernel_rfl))
  f267 := Try.func180.trans (congrArg some (by kernel_rfl))
  f314 := Try.func182.trans (congrArg some (by kernel_rfl))
  t3 := Try.underlying3
  a3 := Try.isAgg3
  z3 := Try.sizeOf3
  v3 := Try.zeroValue3
  t4 := Try.underlying4
  a4 := Try.isAgg4
  z4 := Try.sizeOf4
  v4 := Try.zeroValue4
  t5 := Try.underlying5
  a5 := Try.isAgg5
  z5 := Try.sizeOf5
  v5 := Try.zeroValue5
  t9 := Try.underlying9
  a9 := Try.isAgg9
  z9 := Try.sizeOf9
  v9 := Try.zeroValue9
  t46 := Try.underlying176
  a46 := Try.isAgg176
  z46 := Try.sizeOf176
  v46 := Try.zeroValue176
  t51 := Try.underlying182
  a51 := Try.isAgg182
  z51 := Try.sizeOf182
  v51 := Try.zeroValue182
  t146 := Try.underlying183
  a146 := Try.isAgg183
  z146 := Try.sizeOf183
  v146 := Try.zeroValue183
  g1 := by kernel_rfl
noncomputable def f_strings_Contains (t0 : PV .str) (t1 : PV .str) : Option (PVs [.bool] × PVs []) := Go.Dn.containsF t0 t1
noncomputable def ct_strings_Contains : Ct := ⟨[(.bor, .str), (.bor, .str)], [(.bool, false)], fun x => f_strings_Contains x.1 x.2.1⟩
theorem ok_strings_Contains : FnOk Try.prog 155 ct_strings_Contains := Go.Dn.contains_ok lays_strings_Contains
noncomputable def sh_L_szStringS_5 : List Sh := mkSh 28 [(0, .val S_string .b), (1, .val (.int .i64) .b), (5, .val (.int .i64) .b)]
noncomputable def o_L_szStringS_5 : List Out := [⟨.exit 0, ⟨[], [1]⟩, mkSh 28 [(1, .val (.int .i64) .b)]⟩, ⟨.ret, ⟨[], [4]⟩, mkSh 28 [(4, .val (.int .i64) .b)]⟩]
noncomputable def b_L_szStringS_5 (t0 : PV S_string) (t1 : PV (.int .i64)) (t5 : PV (.int .i64)) : Option ((PV S_string × PV (.int .i64) × PV (.int .i64) × Unit) ⊕ ((PV (.int .i64) × Unit) ⊕ (PV (.int .i64) × Unit))) :=
  bif (decide (t5 < (t0.length : Int))) then
    bif inB t5 t0.length then
      bif (decide ((IntKind.wrap .i64 (t1 - ((t0.getD t5.toNat []).length : Int))) < 0)) then
        some (.inr (.inr ((-1), ())))
      else
        some (.inl (t0, (IntKind.wrap .i64 (t1 - ((t0.getD t5.toNat []).length : Int))), (IntKind.wrap .i64 (t5 + 1)), ()))
    else
      none
  else
    some (.inr (.inl (t1, ())))
noncomputable def w_L_szStringS_5 : PV S_string × PV (.int .i64) × PV (.int .i64) × Unit → Option ((PV (.int .i64) × Unit) ⊕ (PV (.int .i64) × Unit)) := fix fun d => b_L_szStringS_5 d.1 d.2.1 d.2.2.1
noncomputable def lp_L_szStringS_5 : Lp := ⟨⟨[], [0, 1, 5]⟩, sh_L_szStringS_5, o_L_szStringS_5, fun d => b_L_szStringS_5 d.1 d.2.1 d.2.2.1⟩
noncomputable def pl_L_szStringS : Plan := ⟨[], [(5, lp_L_szStringS_5)], 0, 0⟩
noncomputable def f_L_szStringS (t0 : PV S_string) (t1 : PV (.int .i64)) : Option (PVs [(.int .i64)] × PVs []) :=
  bif (decide ((IntKind.wrap .i64 (t1 - (t0.length : Int))) < 0)) then
    some (((-1), ()), ())
  else
    (w_L_szStringS_5 (t0, (IntKind.wrap .i64 (t1 - (t0.length : Int))), 0, ())).bind fun x5 =>
      match x5 with
      | .inl l3 =>
        some ((l3.1, ()), ())
      | .inr l4 =>
        some ((l4.1, ()), ())
noncomputable def ct_L_szStringS : Ct := ⟨[(.bor, S_string), (.bor, (.int .i64))], [((.int .i64), false)], fun x => f_L_szStringS x.1 x.2.1⟩
noncomputable def cx_L_szStringS : Cx := ⟨tab, arrs, [], []⟩
theorem eb_L_szStringS_5 (t0 : PV S_string) (t1 : PV (.int .i64)) (t5 : PV (.int .i64)) : denK cx_L_szStringS (rcN cx_L_szStringS 0) pl_L_szStringS 0 ((loopsOf (bodyOf Try.f29)).getD 0 .skip) (fillS sh_L_szStringS_5 (t0, t1, t5, ())) (roundK 0 lp_L_szStringS_5) = b_L_szStringS_5 t0 t1 t5 := by kernel_rfl
theorem ef_L_szStringS (t0 : PV S_string) (t1 : PV (.int .i64)) : denF cx_L_szStringS 0 pl_L_szStringS Try.f29.ntmps (bodyOf Try.f29) Try.f29.results.toList [(.bor, S_string), (.bor, (.int .i64))] [((.int .i64), false)] (t0, t1, ()) = f_L_szStringS t0 t1 := by kernel_rfl
theorem ok_L_szStringS : FnOk Try.prog 29 ct_L_szStringS :=
  fnOk (cx := cx_L_szStringS) (pl := pl_L_szStringS) (dp := 0) (ok0_of tabOk (by unfold ArrOk; kernel_rfl) mix trivial trivial) Try.func29 (by kernel_rfl) (by kernel_rfl) (by kernel_rfl)
    (by rw [show loopsOf (bodyOf Try.f29) = [((loopsOf (bodyOf Try.f29)).getD 0 .skip)] from by kernel_rfl]; exact ⟨(by rw [show lookup pl_L_szStringS.loops (firstId ((loopsOf (bodyOf Try.f29)).getD 0 .skip)) = some lp_L_szStringS_5 from by kernel_rfl]; exact fun d z h => (eb_L_szStringS_5 d.1 d.2.1 d.2.2.1).trans h), trivial⟩) (fun x => ef_L_szStringS x.1 x.2.1)
noncomputable def pl_L_szPart : Plan := ⟨[], [], 0, 0⟩
noncomputable def f_L_szPart (t0 : PV Y_impl_Part) (t1 : PV (.int .i64)) : Option (PVs [(.int .i64)] × PVs []) :=
  (f_L_szStringS t0.2.2.2.1 t1).bind fun r2 =>
    bif (decide (r2.1.1 < 0)) then
      some (((-1), ()), ())
    else
      (f_L_szStringS t0.2.2.2.2.1 r2.1.1).bind fun r4 =>
        bif (decide (r4.1.1 < 0)) then
          some (((-1), ()), ())
        else
          some ((r4.1.1, ()), ())
noncomputable def ct_L_szPart : Ct := ⟨[(.bor, Y_impl_Part), (.bor, (.int .i64))], [((.int .i64), false)], fun x => f_L_szPart x.1 x.2.1⟩
noncomputable def cx_L_szPart : Cx := ⟨tab, arrs, [(29, ct_L_szStringS)], []⟩
theorem ef_L_szPart (t0 : PV Y_impl_Part) (t1 : PV (.int .i64)) : denF cx_L_szPart 0 pl_L_szPart Try.f68.ntmps (bodyOf Try.f68) Try.f68.results.toList [(.bor, Y_impl_Part), (.bor, (.int .i64))] [((.int .i64), false)] (t0, t1, ()) = f_L_szPart t0 t1 := by kernel_rfl
theorem ok_L_szPart : FnOk Try.prog 68 ct_L_szPart :=
  fnOk (cx := cx_L_szPart) (pl := pl_L_szPart) (dp := 0) (ok0_of tabOk (by unfold ArrOk; kernel_rfl) mix ⟨ok_L_szStringS, trivial⟩ trivial) Try.func68 (by kernel_rfl) (by kernel_rfl) (by kernel_rfl)
    (by rw [show loopsOf (bodyOf Try.f68) = [] from by kernel_rfl]; exact trivial) (fun x => ef_L_szPart x.1 x.2.1)
noncomputable def sh_L_szPartS_5 : List Sh := mkSh 27 [(0, .val S_laws_Part .b), (1, .val (.int .i64) .b), (5, .val (.int .i64) .b)]
noncomputable def o_L_szPartS_5 : List Out := [⟨.exit 0, ⟨[], [1]⟩, mkSh 27 [(1, .val (.int .i64) .b)]⟩, ⟨.ret, ⟨[], [4]⟩, mkSh 27 [(4, .val (.int .i64) .b)]⟩]
noncomputable def b_L_szPartS_5 (t0 : PV S_laws_Part) (t1 : PV (.int .i64)) (t5 : PV (.int .i64)) : Option ((PV S_laws_Part × PV (.int .i64) × PV (.int .i64) × Unit) ⊕ ((PV (.int .i64) × Unit) ⊕ (PV (.int .i64) × Unit))) :=
  bif (decide (t5 < (t0.length : Int))) then
    bif inB t5 t0.length then
      (f_L_szPart (t0.getD t5.toNat (dflt Y_impl_Part)) t1).bind fun r4 =>
        bif (decide (r4.1.1 < 0)) then
          some (.inr (.inr ((-1), ())))
        else
          some (.inl (t0, r4.1.1, (IntKind.wrap .i64 (t5 + 1)), ()))
    else
      none
  else
    some (.inr (.inl (t1, ())))
noncomputable def w_L_szPartS_5 : PV S_laws_Part × PV (.int .i64) × PV (.int .i64) × Unit → Option ((PV (.int .i64) × Unit) ⊕ (PV (.int .i64) × Unit)) := fix fun d => b_L_szPartS_5 d.1 d.2.1 d.2.2.1
noncomputable def lp_L_szPartS_5 : Lp := ⟨⟨[], [0, 1, 5]⟩, sh_L_szPartS_5, o_L_szPartS_5, fun d => b_L_szPartS_5 d.1 d.2.1 d.2.2.1⟩
noncomputable def pl_L_szPartS : Plan := ⟨[], [(5, lp_L_szPartS_5)], 0, 0⟩
noncomputable def f_L_szPartS (t0 : PV S_laws_Part) (t1 : PV (.int .i64)) : Option (PVs [(.int .i64)] × PVs []) :=
  bif (decide ((IntKind.wrap .i64 (t1 - (t0.length : Int))) < 0)) then
    some (((-1), ()), ())
  else
    (w_L_szPartS_5 (t0, (IntKind.wrap .i64 (t1 - (t0.length : Int))), 0, ())).bind fun x9 =>
      match x9 with
      | .inl l7 =>
        some ((l7.1, ()), ())
      | .inr l8 =>
        some ((l8.1, ()), ())
noncomputable def ct_L_szPartS : Ct := ⟨[(.bor, S_laws_Part), (.bor, (.int .i64))], [((.int .i64), false)], fun x => f_L_szPartS x.1 x.2.1⟩
noncomputable def cx_L_szPartS : Cx := ⟨tab, arrs, [(68, ct_L_szPart)], []⟩
theorem eb_L_szPartS_5 (t0 : PV S_laws_Part) (t1 : PV (.int .i64)) (t5 : PV (.int .i64)) : denK cx_L_szPartS (rcN cx_L_szPartS 0) pl_L_szPartS 0 ((loopsOf (bodyOf Try.f15)).getD 0 .skip) (fillS sh_L_szPartS_5 (t0, t1, t5, ())) (roundK 0 lp_L_szPartS_5) = b_L_szPartS_5 t0 t1 t5 := by kernel_rfl
theorem ef_L_szPartS (t0 : PV S_laws_Part) (t1 : PV (.int .i64)) : denF cx_L_szPartS 0 pl_L_szPartS Try.f15.ntmps (bodyOf Try.f15) Try.f15.results.toList [(.bor, S_laws_Part), (.bor, (.int .i64))] [((.int .i64), false)] (t0, t1, ()) = f_L_szPartS t0 t1 := by kernel_rfl
theorem ok_L_szPartS : FnOk Try.prog 15 ct_L_szPartS :=
  fnOk (cx := cx_L_szPartS) (pl := pl_L_szPartS) (dp := 0) (ok0_of tabOk (by unfold ArrOk; kernel_rfl) mix ⟨ok_L_szPart, trivial⟩ trivial) Try.func15 (by kernel_rfl) (by kernel_rfl) (by kernel_rfl)
    (by rw [show loopsOf (bodyOf Try.f15) = [((loopsOf (bodyOf Try.f15)).getD 0 .skip)] from by kernel_rfl]; exact ⟨(by rw [show lookup pl_L_szPartS.loops (firstId ((loopsOf (bodyOf Try.f15)).getD 0 .skip)) = some lp_L_szPartS_5 from by kernel_rfl]; exact fun d z h => (eb_L_szPartS_5 d.1 d.2.1 d.2.2.1).trans h), trivial⟩) (fun x => ef_L_szPartS x.1 x.2.1)
noncomputable def sh_L_toStringS_3 : List Sh := mkSh 22 [(0, .val S_string .b), (3, .val S_string (.row .b)), (4, .val (.int .i64) .b)]
noncomputable def o_L_toStringS_3 : List Out := [⟨.exit 0, ⟨[], [3]⟩, mkSh 22 [(3, .val S_string (.row .b))]⟩]
noncomputable def b_L_toStringS_3 (t0 : PV S_string) (t3 : PV S_string) (t4 : PV (.int .i64)) : Option ((PV S_string × PV S_string × PV (.int .i64) × Unit) ⊕ ((PV S_string × Unit))) :=
  bif (decide (t4 < (t0.length : Int))) then
    bif inB t4 t0.length then
      bif inB t4 t3.length then
        some (.inl (t0, (t3.set t4.toNat (t0.getD t4.toNat [])), (IntKind.wrap .i64 (t4 + 1)), ()))
      else
        none
    else
      none
  else
    some (.inr (t3, ()))
noncomputable def w_L_toStringS_3 : PV S_string × PV S_string × PV (.int .i64) × Unit → Option ((PV S_string × Unit)) := fix fun d => b_L_toStringS_3 d.1 d.2.1 d.2.2.1
noncomputable def lp_L_toStringS_3 : Lp := ⟨⟨[], [0, 3, 4]⟩, sh_L_toStringS_3, o_L_toStringS_3, fun d => b_L_toStringS_3 d.1 d.2.1 d.2.2.1⟩
noncomputable def pl_L_toStringS : Plan := ⟨[], [(3, lp_L_toStringS_3)], 0, 0⟩
noncomputable def f_L_toStringS (t0 : PV S_string) : Option (PVs [S_string] × PVs []) :=
  bif decide (0 ≤ (t0.length : Int)) && (decide ((t0.length : Int) ≤ (t0.length : Int)) && roomB (t0.length : Int).toNat) then
    (w_L_toStringS_3 (t0, (List.replicate (t0.length : Int).toNat ([] : PV .str)), 0, ())).bind fun l2 =>
      some ((l2.1, ()), ())
  else
    none
noncomputable def ct_L_toStringS : Ct := ⟨[(.bor, S_string)], [(S_string, true)], fun x => f_L_toStringS x.1⟩
noncomputable def cx_L_toStringS : Cx := ⟨tab, arrs, [], []⟩
theorem eb_L_toStringS_3 (t0 : PV S_string) (t3 : PV S_string) (t4 : PV (.int .i64)) : denK cx_L_toStringS (rcN cx_L_toStringS 0) pl_L_toStringS 0 ((loopsOf (bodyOf Try.f31)).getD 0 .skip) (fillS sh_L_toStringS_3 (t0, t3, t4, ())) (roundK 0 lp_L_toStringS_3) = b_L_toStringS_3 t0 t3 t4 := by kernel_rfl
theorem ef_L_toStringS (t0 : PV S_string) : denF cx_L_toStringS 0 pl_L_toStringS Try.f31.ntmps (bodyOf Try.f31) Try.f31.results.toList [(.bor, S_string)] [(S_string, true)] (t0, ()) = f_L_toStringS t0 := by kernel_rfl
theorem ok_L_toStringS : FnOk Try.prog 31 ct_L_toStringS :=
  fnOk (cx := cx_L_toStringS) (pl := pl_L_toStringS) (dp := 0) (ok0_of tabOk (by unfold ArrOk; kernel_rfl) mix trivial trivial) Try.func31 (by kernel_rfl) (by kernel_rfl) (by kernel_rfl)
    (by rw [show loopsOf (bodyOf Try.f31) = [((loopsOf (bodyOf Try.f31)).getD 0 .skip)] from by kernel_rfl]; exact ⟨(by rw [show lookup pl_L_toStringS.loops (firstId ((loopsOf (bodyOf Try.f31)).getD 0 .skip)) = some lp_L_toStringS_3 from by kernel_rfl]; exact fun d z h => (eb_L_toStringS_3 d.1 d.2.1 d.2.2.1).trans h), trivial⟩) (fun x => ef_L_toStringS x.1)
noncomputable def pl_L_toPart : Plan := ⟨[], [], 0, 0⟩
noncomputable def f_L_toPart (t0 : PV Y_impl_Part) : Option (PVs [Y_impl_Part] × PVs []) :=
  (f_L_toStringS t0.2.2.2.1).bind fun r2 =>
    (f_L_toStringS t0.2.2.2.2.1).bind fun r4 =>
      some (((t0.1, (t0.2.1, (t0.2.2.1, (r2.1.1, (r4.1.1, ()))))), ()), ())
noncomputable def ct_L_toPart : Ct := ⟨[(.bor, Y_impl_Part)], [(Y_impl_Part, true)], fun x => f_L_toPart x.1⟩
noncomputable def cx_L_toPart : Cx := ⟨tab, arrs, [(31, ct_L_toStringS)], []⟩
theorem ef_L_toPart (t0 : PV Y_impl_Part) : denF cx_L_toPart 0 pl_L_toPart Try.f70.ntmps (bodyOf Try.f70) Try.f70.results.toList [(.bor, Y_impl_Part)] [(Y_impl_Part, true)] (t0, ()) = f_L_toPart t0 := by kernel_rfl
theorem ok_L_toPart : FnOk Try.prog 70 ct_L_toPart :=
  fnOk (cx := cx_L_toPart) (pl := pl_L_toPart) (dp := 0) (ok0_of tabOk (by unfold ArrOk; kernel_rfl) mix ⟨ok_L_toStringS, trivial⟩ trivial) Try.func70 (by kernel_rfl) (by kernel_rfl) (by kernel_rfl)
    (by rw [show loopsOf (bodyOf Try.f70) = [] from by kernel_rfl]; exact trivial) (fun x => ef_L_toPart x.1)
noncomputable def sh_L_toPartS_3 : List Sh := mkSh 23 [(0, .val S_laws_Part .b), (3, .val S_impl_Part (.row (.pr .b (.pr .b (.pr .b (.pr (.row .b) (.pr (.row .b) .b))))))), (4, .val (.int .i64) .b)]
noncomputable def o_L_toPartS_3 : List Out := [⟨.exit 0, ⟨[], [3]⟩, mkSh 23 [(3, .val S_impl_Part (.row (.pr .b (.pr .b (.pr .b (.pr (.row .b) (.pr (.row .b) .b)))))))]⟩]
noncomputable def b_L_toPartS_3 (t0 : PV S_laws_Part) (t3 : PV S_impl_Part) (t4 : PV (.int .i64)) : Option ((PV S_laws_Part × PV S_impl_Part × PV (.int .i64) × Unit) ⊕ ((PV S_impl_Part × Unit))) :=
  bif (decide (t4 < (t0.length : Int))) then
    bif inB t4 t0.length then
      (f_L_toPart (t0.getD t4.toNat (dflt Y_impl_Part))).bind fun r2 =>
        bif inB t4 t3.length then
          some (.inl (t0, (t3.set t4.toNat r2.1.1), (IntKind.wrap .i64 (t4 + 1)), ()))
        else
          none
    else
      none
  else
    some (.inr (t3, ()))
noncomputable def w_L_toPartS_3 : PV S_laws_Part × PV S_impl_Part × PV (.int .i64) × Unit → Option ((PV S_impl_Part × Unit)) := fix fun d => b_L_toPartS_3 d.1 d.2.1 d.2.2.1
noncomputable def lp_L_toPartS_3 : Lp := ⟨⟨[], [0, 3, 4]⟩, sh_L_toPartS_3, o_L_toPartS_3, fun d => b_L_toPartS_3 d.1 d.2.1 d.2.2.1⟩
noncomputable def pl_L_toPartS : Plan := ⟨[], [(3, lp_L_toPartS_3)], 0, 0⟩
noncomputable def f_L_toPartS (t0 : PV S_laws_Part) : Option (PVs [S_impl_Part] × PVs []) :=
  bif decide (0 ≤ (t0.length : Int)) && (decide ((t0.length : Int) ≤ (t0.length : Int)) && roomB (t0.length : Int).toNat) then
    (w_L_toPartS_3 (t0, (List.replicate (t0.length : Int).toNat (dflt Y_impl_Part)), 0, ())).bind fun l4 =>
      some ((l4.1, ()), ())
  else
    none
noncomputable def ct_L_toPartS : Ct := ⟨[(.bor, S_laws_Part)], [(S_impl_Part, true)], fun x => f_L_toPartS x.1⟩
noncomputable def cx_L_toPartS : Cx := ⟨tab, arrs, [(70, ct_L_toPart)], []⟩
theorem eb_L_toPartS_3 (t0 : PV S_laws_Part) (t3 : PV S_impl_Part) (t4 : PV (.int .i64)) : denK cx_L_toPartS (rcN cx_L_toPartS 0) pl_L_toPartS 0 ((loopsOf (bodyOf Try.f17)).getD 0 .skip) (fillS sh_L_toPartS_3 (t0, t3, t4, ())) (roundK 0 lp_L_toPartS_3) = b_L_toPartS_3 t0 t3 t4 := by kernel_rfl
theorem ef_L_toPartS (t0 : PV S_laws_Part) : denF cx_L_toPartS 0 pl_L_toPartS Try.f17.ntmps (bodyOf Try.f17) Try.f17.results.toList [(.bor, S_laws_Part)] [(S_impl_Part, true)] (t0, ()) = f_L_toPartS t0 := by kernel_rfl
theorem ok_L_toPartS : FnOk Try.prog 17 ct_L_toPartS :=
  fnOk (cx := cx_L_toPartS) (pl := pl_L_toPartS) (dp := 0) (ok0_of tabOk (by unfold ArrOk; kernel_rfl) mix ⟨ok_L_toPart, trivial⟩ trivial) Try.func17 (by kernel_rfl) (by kernel_rfl) (by kernel_rfl)
    (by rw [show loopsOf (bodyOf Try.f17) = [((loopsOf (bodyOf Try.f17)).getD 0 .skip)] from by kernel_rfl]; exact ⟨(by rw [show lookup pl_L_toPartS.loops (firstId ((loopsOf (bodyOf Try.f17)).getD 0 .skip)) = some lp_L_toPartS_3 from by kernel_rfl]; exact fun d z h => (eb_L_toPartS_3 d.1 d.2.1 d.2.2.1).trans h), trivial⟩) (fun x => ef_L_toPartS x.1)
noncomputable def pl_S_l1In : Plan := ⟨[], [], 0, 0⟩
noncomputable def f_S_l1In (t0 : PV (.int .i64)) (t1 : PV (.int .i64)) (t2 : PV (.int .i64)) : Option (PVs [.bool] × PVs []) :=
  bif (decide (t0 ≥ t1)) then
    some (((decide (t0 ≤ t2)), ()), ())
  else
    some ((false, ()), ())
noncomputable def ct_S_l1In : Ct := ⟨[(.bor, (.int .i64)), (.bor, (.int .i64)), (.bor, (.int .i64))], [(.bool, false)], fun x => f_S_l1In x.1 x.2.1 x.2.2.1⟩
noncomputable def cx_S_l1In : Cx := ⟨tab, arrs, [], []⟩
theorem ef_S_l1In (t0 : PV (.int .i64)) (t1 : PV (.int .i64)) (t2 : PV (.int .i64)) : denF cx_S_l1In 0 pl_S_l1In Try.f99.ntmps (bodyOf Try.f99) Try.f99.results.toList [(.bor, (.int .i64)), (.bor, (.int .i64)), (.bor, (.int .i64))] [(.bool, false)] (t0, t1, t2, ()) = f_S_l1In t0 t1 t2 := by kernel_rfl
theorem ok_S_l1In : FnOk Try.prog 99 ct_S_l1In :=
  fnOk (cx := cx_S_l1In) (pl := pl_S_l1In) (dp := 0) (ok0_of tabOk (by unfold ArrOk; kernel_rfl) mix trivial trivial) Try.func99 (by kernel_rfl) (by kernel_rfl) (by kernel_rfl)
    (by rw [show loopsOf (bodyOf Try.f99) = [] from by kernel_rfl]; exact trivial) (fun x => ef_S_l1In x.1 x.2.1 x.2.2.1)
noncomputable def sh_S_l11Few_2 : List Sh := mkSh 19 [(0, .val S_impl_Part .b), (5, .val S_impl_Part .b), (6, .val (.int .i64) .b), (7, .val (.int .i64) .b)]
noncomputable def o_S_l11Few_2 : List Out := [⟨.exit 0, ⟨[], [0]⟩, mkSh 19 [(0, .val S_impl_Part .b)]⟩, ⟨.ret, ⟨[], [2]⟩, mkSh 19 [(2, .val .bool .b)]⟩]
noncomputable def b_S_l11Few_2 (t0 : PV S_impl_Part) (t5 : PV S_impl_Part) (t6 : PV (.int .i64)) (t7 : PV (.int .i64)) : Option ((PV S_impl_Part × PV S_impl_Part × PV (.int .i64) × PV (.int .i64) × Unit) ⊕ ((PV S_impl_Part × Unit) ⊕ (PV .bool × Unit))) :=
  bif (decide (t7 < t6)) then
    bif inB t7 t5.length then
      (f_S_l1In ((t5.getD t7.toNat (dflt Y_impl_Part)).1) 1 5).bind fun r4 =>
        bif (!r4.1.1) then
          some (.inr (.inr (false, ())))
        else
          some (.inl (t0, t5, t6, (IntKind.wrap .i64 (t7 + 1)), ()))
    else
      none
  else
    some (.inr (.inl (t0, ())))
noncomputable def w_S_l11Few_2 : PV S_impl_Part × PV S_impl_Part × PV (.int .i64) × PV (.int .i64) × Unit → Option ((PV S_impl_Part × Unit) ⊕ (PV .bool × Unit)) := fix fun d => b_S_l11Few_2 d.1 d.2.1 d.2.2.1 d.2.2.2.1
noncomputable def lp_S_l11Few_2 : Lp := ⟨⟨[], [0, 5, 6, 7]⟩, sh_S_l11Few_2, o_S_l11Few_2, fun d => b_S_l11Few_2 d.1 d.2.1 d.2.2.1 d.2.2.2.1⟩
noncomputable def pl_S_l11Few : Plan := ⟨[], [(2, lp_S_l11Few_2)], 0, 0⟩
noncomputable def f_S_l11Few (t0 : PV S_impl_Part) : Option (PVs [.bool] × PVs []) :=
  (w_S_l11Few_2 (t0, t0, (t0.length : Int), 0, ())).bind fun x9 =>
    match x9 with
    | .inl l7 =>
      some (((decide ((l7.1.length : Int) ≤ 120)), ()), ())
    | .inr l8 =>
      some ((l8.1, ()), ())
noncomputable def ct_S_l11Few : Ct := ⟨[(.bor, S_impl_Part)], [(.bool, false)], fun x => f_S_l11Few x.1⟩
noncomputable def cx_S_l11Few : Cx := ⟨tab, arrs, [(99, ct_S_l1In)], []⟩
theorem eb_S_l11Few_2 (t0 : PV S_impl_Part) (t5 : PV S_impl_Part) (t6 : PV (.int .i64)) (t7 : PV (.int .i64)) : denK cx_S_l11Few (rcN cx_S_l11Few 0) pl_S_l11Few 0 ((loopsOf (bodyOf Try.f69)).getD 0 .skip) (fillS sh_S_l11Few_2 (t0, t5, t6, t7, ())) (roundK 0 lp_S_l11Few_2) = b_S_l11Few_2 t0 t5 t6 t7 := by kernel_rfl
theorem ef_S_l11Few (t0 : PV S_impl_Part) : denF cx_S_l11Few 0 pl_S_l11Few Try.f69.ntmps (bodyOf Try.f69) Try.f69.results.toList [(.bor, S_impl_Part)] [(.bool, false)] (t0, ()) = f_S_l11Few t0 := by kernel_rfl
theorem ok_S_l11Few : FnOk Try.prog 69 ct_S_l11Few :=
  fnOk (cx := cx_S_l11Few) (pl := pl_S_l11Few) (dp := 0) (ok0_of tabOk (by unfold ArrOk; kernel_rfl) mix ⟨ok_S_l1In, trivial⟩ trivial) Try.func69 (by kernel_rfl) (by kernel_rfl) (by kernel_rfl)
    (by rw [show loopsOf (bodyOf Try.f69) = [((loopsOf (bodyOf Try.f69)).getD 0 .skip)] from by kernel_rfl]; exact ⟨(by rw [show lookup pl_S_l11Few.loops (firstId ((loopsOf (bodyOf Try.f69)).getD 0 .skip)) = some lp_S_l11Few_2 from by kernel_rfl]; exact fun d z h => (eb_S_l11Few_2 d.1 d.2.1 d.2.2.1 d.2.2.2.1).trans h), trivial⟩) (fun x => ef_S_l11Few x.1)
noncomputable def o_S_ClashesIn_9 : List Out := [⟨.normal, ⟨[], [4, 10, 11, 12]⟩, mkSh 23 [(4, .val (.int .i64) .b), (10, .val S_impl_Part .b), (11, .val (.int .i64) .b), (12, .val (.int .i64) .b)]⟩]
noncomputable def sh_S_ClashesIn_5 : List Sh := mkSh 23 [(4, .val (.int .i64) .b), (10, .val S_impl_Part .b), (11, .val (.int .i64) .b), (12, .val (.int .i64) .b)]
noncomputable def o_S_ClashesIn_5 : List Out := [⟨.exit 0, ⟨[], [4]⟩, mkSh 23 [(4, .val (.int .i64) .b)]⟩]
noncomputable def b_S_ClashesIn_5 (t4 : PV (.int .i64)) (t10 : PV S_impl_Part) (t11 : PV (.int .i64)) (t12 : PV (.int .i64)) : Option ((PV (.int .i64) × PV S_impl_Part × PV (.int .i64) × PV (.int .i64) × Unit) ⊕ ((PV (.int .i64) × Unit))) :=
  bif (decide (t12 < t11)) then
    ((
        bif inB t12 t10.length then
          bif (((t10.getD t12.toNat (dflt Y_impl_Part)).1) == 5) then
            some ((IntKind.wrap .i64 (t4 + 1)), t10, t11, t12, ())
          else
            some (t4, t10, t11, t12, ())
        else
          none : Option ((PV (.int .i64) × PV S_impl_Part × PV (.int .i64) × PV (.int .i64) × Unit)))).bind fun j5 =>
      some (.inl (j5.1, j5.2.1, j5.2.2.1, (IntKind.wrap .i64 (j5.2.2.2.1 + 1)), ()))
  else
    some (.inr (t4, ()))
noncomputable def w_S_ClashesIn_5 : PV (.int .i64) × PV S_impl_Part × PV (.int .i64) × PV (.int .i64) × Unit → Option ((PV (.int .i64) × Unit)) := fix fun d => b_S_ClashesIn_5 d.1 d.2.1 d.2.2.1 d.2.2.2.1
noncomputable def lp_S_ClashesIn_5 : Lp := ⟨⟨[], [4, 10, 11, 12]⟩, sh_S_ClashesIn_5, o_S_ClashesIn_5, fun d => b_S_ClashesIn_5 d.1 d.2.1 d.2.2.1 d.2.2.2.1⟩
noncomputable def pl_S_ClashesIn : Plan := ⟨[(9, o_S_ClashesIn_9)], [(5, lp_S_ClashesIn_5)], 0, 0⟩
noncomputable def f_S_ClashesIn (t0 : PV S_impl_Part) : Option (PVs [(.int .i64), .bool] × PVs []) :=
  (f_S_l11Few t0).bind fun r4 =>
    bif (!r4.1.1) then
      some ((0, false, ()), ())
    else
      (w_S_ClashesIn_5 (0, t0, (t0.length : Int), 0, ())).bind fun l7 =>
        some ((l7.1, true, ()), ())
noncomputable def ct_S_ClashesIn : Ct := ⟨[(.bor, S_impl_Part)], [((.int .i64), false), (.bool, false)], fun x => f_S_ClashesIn x.1⟩
noncomputable def cx_S_ClashesIn : Cx := ⟨tab, arrs, [(69, ct_S_l11Few)], []⟩
theorem eb_S_ClashesIn_5 (t4 : PV (.int .i64)) (t10 : PV S_impl_Part) (t11 : PV (.int .i64)) (t12 : PV (.int .i64)) : denK cx_S_ClashesIn (rcN cx_S_ClashesIn 0) pl_S_ClashesIn 0 ((loopsOf (bodyOf Try.f16)).getD 0 .skip) (fillS sh_S_ClashesIn_5 (t4, t10, t11, t12, ())) (roundK 0 lp_S_ClashesIn_5) = b_S_ClashesIn_5 t4 t10 t11 t12 := by kernel_rfl
theorem ef_S_ClashesIn (t0 : PV S_impl_Part) : denF cx_S_ClashesIn 0 pl_S_ClashesIn Try.f16.ntmps (bodyOf Try.f16) Try.f16.results.toList [(.bor, S_impl_Part)] [((.int .i64), false), (.bool, false)] (t0, ()) = f_S_ClashesIn t0 := by kernel_rfl
theorem ok_S_ClashesIn : FnOk Try.prog 16 ct_S_ClashesIn :=
  fnOk (cx := cx_S_ClashesIn) (pl := pl_S_ClashesIn) (dp := 0) (ok0_of tabOk (by unfold ArrOk; kernel_rfl) mix ⟨ok_S_l11Few, trivial⟩ trivial) Try.func16 (by kernel_rfl) (by kernel_rfl) (by kernel_rfl)
    (by rw [show loopsOf (bodyOf Try.f16) = [((loopsOf (bodyOf Try.f16)).getD 0 .skip)] from by kernel_rfl]; exact ⟨(by rw [show lookup pl_S_ClashesIn.loops (firstId ((loopsOf (bodyOf Try.f16)).getD 0 .skip)) = some lp_S_ClashesIn_5 from by kernel_rfl]; exact fun d z h => (eb_S_ClashesIn_5 d.1 d.2.1 d.2.2.1 d.2.2.2.1).trans h), trivial⟩) (fun x => ef_S_ClashesIn x.1)
noncomputable def pl_I_in : Plan := ⟨[], [], 0, 0⟩
noncomputable def f_I_in (t0 : PV (.int .i64)) (t1 : PV (.int .i64)) (t2 : PV (.int .i64)) : Option (PVs [.bool] × PVs []) :=
  bif (decide (t0 ≥ t1)) then
    some (((decide (t0 ≤ t2)), ()), ())
  else
    some ((false, ()), ())
noncomputable def ct_I_in : Ct := ⟨[(.bor, (.int .i64)), (.bor, (.int .i64)), (.bor, (.int .i64))], [(.bool, false)], fun x => f_I_in x.1 x.2.1 x.2.2.1⟩
noncomputable def cx_I_in : Cx := ⟨tab, arrs, [], []⟩
theorem ef_I_in (t0 : PV (.int .i64)) (t1 : PV (.int .i64)) (t2 : PV (.int .i64)) : denF cx_I_in 0 pl_I_in Try.f101.ntmps (bodyOf Try.f101) Try.f101.results.toList [(.bor, (.int .i64)), (.bor, (.int .i64)), (.bor, (.int .i64))] [(.bool, false)] (t0, t1, t2, ()) = f_I_in t0 t1 t2 := by kernel_rfl
theorem ok_I_in : FnOk Try.prog 101 ct_I_in :=
  fnOk (cx := cx_I_in) (pl := pl_I_in) (dp := 0) (ok0_of tabOk (by unfold ArrOk; kernel_rfl) mix trivial trivial) Try.func101 (by kernel_rfl) (by kernel_rfl) (by kernel_rfl)
    (by rw [show loopsOf (bodyOf Try.f101) = [] from by kernel_rfl]; exact trivial) (fun x => ef_I_in x.1 x.2.1 x.2.2.1)
noncomputable def pl_I_areParts_1 : Plan := ⟨[], [], 0, 0⟩
noncomputable def f_I_areParts_1 (t0 : PV Y_impl_Part) : Option (PVs [.bool] × PVs []) :=
  (f_I_in t0.1 1 5).bind fun r1 =>
    some (((!r1.1.1), ()), ())
noncomputable def ct_I_areParts_1 : Ct := ⟨[(.bor, Y_impl_Part)], [(.bool, false)], fun x => f_I_areParts_1 x.1⟩
noncomputable def cx_I_areParts_1 : Cx := ⟨tab, arrs, [(101, ct_I_in)], []⟩
theorem ef_I_areParts_1 (t0 : PV Y_impl_Part) : denF cx_I_areParts_1 0 pl_I_areParts_1 Try.f110.ntmps (bodyOf Try.f110) Try.f110.results.toList [(.bor, Y_impl_Part)] [(.bool, false)] (t0, ()) = f_I_areParts_1 t0 := by kernel_rfl
theorem ok_I_areParts_1 : FnOk Try.prog 110 ct_I_areParts_1 :=
  fnOk (cx := cx_I_areParts_1) (pl := pl_I_areParts_1) (dp := 0) (ok0_of tabOk (by unfold ArrOk; kernel_rfl) mix ⟨ok_I_in, trivial⟩ trivial) Try.func110 (by kernel_rfl) (by kernel_rfl) (by kernel_rfl)
    (by rw [show loopsOf (bodyOf Try.f110) = [] from by kernel_rfl]; exact trivial) (fun x => ef_I_areParts_1 x.1)
noncomputable def pl_I_areParts_109 : Plan := ⟨[], [], 1, 11⟩
noncomputable def sh_I_areParts_145_2 : List Sh := mkSh 39 [(0, .val S_impl_Part .b), (2, .val .bool .b), (3, .val S_impl_Part .b), (4, .val (.int .i64) .b), (5, .val .bool .b), (6, .val .bool .b), (7, .val S_impl_Part .b), (11, .val S_impl_Part .b), (12, .fn 110 []), (15, .val .bool .b), (16, .val S_impl_Part .b), (17, .fn 110 []), (20, .val S_impl_Part .b), (21, .fn 110 []), (27, .val (.int .i64) .b), (28, .val (.int .i64) .b)]
noncomputable def o_I_areParts_145_2 : List Out := [⟨.exit 0, ⟨[], []⟩, mkSh 39 [(0, .val S_impl_Part .b), (2, .val .bool .b), (3, .val S_impl_Part .b), (4, .val (.int .i64) .b), (5, .val .bool .b), (6, .val .bool .b), (7, .val S_impl_Part .b), (11, .val S_impl_Part .b), (12, .fn 110 []), (15, .val .bool .b), (16, .val S_impl_Part .b), (17, .fn 110 [])]⟩, ⟨.ret, ⟨[], [4]⟩, mkSh 39 [(0, .val S_impl_Part .b), (2, .val .bool .b), (3, .val S_impl_Part .b), (4, .val (.int .i64) .b), (5, .val .bool .b), (6, .val .bool .b), (7, .val S_impl_Part .b), (11, .val S_impl_Part .b), (12, .fn 110 []), (15, .val .bool .b), (16, .val S_impl_Part .b), (17, .fn 110 []), (24, .val (.int .i64) .b)]⟩]
noncomputable def b_I_areParts_145_2 (t0 : PV S_impl_Part) (t2 : PV .bool) (t3 : PV S_impl_Part) (t4 : PV (.int .i64)) (t5 : PV .bool) (t6 : PV .bool) (t7 : PV S_impl_Part) (t11 : PV S_impl_Part) (t15 : PV .bool) (t16 : PV S_impl_Part) (t20 : PV S_impl_Part) (t27 : PV (.int .i64)) (t28 : PV (.int .i64)) : Option ((PV S_impl_Part × PV .bool × PV S_impl_Part × PV (.int .i64) × PV .bool × PV .bool × PV S_impl_Part × PV S_impl_Part × PV .bool × PV S_impl_Part × PV S_impl_Part × PV (.int .i64) × PV (.int .i64) × Unit) ⊕ ((PV S_impl_Part × PV .bool × PV S_impl_Part × PV (.int .i64) × PV .bool × PV .bool × PV S_impl_Part × PV S_impl_Part × PV .bool × PV S_impl_Part × Unit) ⊕ (PV S_impl_Part × PV .bool × PV S_impl_Part × PV (.int .i64) × PV .bool × PV .bool × PV S_impl_Part × PV S_impl_Part × PV .bool × PV S_impl_Part × PV (.int .i64) × Unit))) :=
  bif (decide (t28 < t27)) then
    bif inB t28 t20.length then
      (f_I_areParts_1 (t20.getD t28.toNat (dflt Y_impl_Part))).bind fun r4 =>
        bif r4.1.1 then
          some (.inr (.inr (t0, t2, t3, t4, t5, t6, t7, t11, t15, t16, t28, ())))
        else
          some (.inl (t0, t2, t3, t4, t5, t6, t7, t11, t15, t16, t20, t27, (IntKind.wrap .i64 (t28 + 1)), ()))
    else
      none
  else
    some (.inr (.inl (t0, t2, t3, t4, t5, t6, t7, t11, t15, t16, ())))
noncomputable def w_I_areParts_145_2 : PV S_impl_Part × PV .bool × PV S_impl_Part × PV (.int .i64) × PV .bool × PV .bool × PV S_impl_Part × PV S_impl_Part × PV .bool × PV S_impl_Part × PV S_impl_Part × PV (.int .i64) × PV (.int .i64) × Unit → Option ((PV S_impl_Part × PV .bool × PV S_impl_Part × PV (.int .i64) × PV .bool × PV .bool × PV S_impl_Part × PV S_impl_Part × PV .bool × PV S_impl_Part × Unit) ⊕ (PV S_impl_Part × PV .bool × PV S_impl_Part × PV (.int .i64) × PV .bool × PV .bool × PV S_impl_Part × PV S_impl_Part × PV .bool × PV S_impl_Part × PV (.int .i64) × Unit)) := fix fun d => b_I_areParts_145_2 d.1 d.2.1 d.2.2.1 d.2.2.2.1 d.2.2.2.2.1 d.2.2.2.2.2.1 d.2.2.2.2.2.2.1 d.2.2.2.2.2.2.2.1 d.2.2.2.2.2.2.2.2.1 d.2.2.2.2.2.2.2.2.2.1 d.2.2.2.2.2.2.2.2.2.2.1 d.2.2.2.2.2.2.2.2.2.2.2.1 d.2.2.2.2.2.2.2.2.2.2.2.2.1
noncomputable def lp_I_areParts_145_2 : Lp := ⟨⟨[], [0, 1, 7, 8]⟩, sh_I_areParts_145_2, o_I_areParts_145_2, fun d => b_I_areParts_145_2 d.1 d.2.1 d.2.2.1 d.2.2.2.1 d.2.2.2.2.1 d.2.2.2.2.2.1 d.2.2.2.2.2.2.1 d.2.2.2.2.2.2.2.1 d.2.2.2.2.2.2.2.2.1 d.2.2.2.2.2.2.2.2.2.1 d.2.2.2.2.2.2.2.2.2.2.1 d.2.2.2.2.2.2.2.2.2.2.2.1 d.2.2.2.2.2.2.2.2.2.2.2.2.1⟩
noncomputable def pl_I_areParts_145 : Plan := ⟨[], [(2, lp_I_areParts_145_2)], 0, 20⟩
noncomputable def pl_I_areParts : Plan := ⟨[], [], 2, 0⟩
noncomputable def f_I_areParts (t0 : PV S_impl_Part) : Option (PVs [.bool] × PVs []) :=
  bif (decide ((t0.length : Int) ≤ 120)) then
    (w_I_areParts_145_2 (t0, false, t0, (t0.length : Int), (decide ((t0.length : Int) ≤ 120)), true, t0, t0, false, t0, t0, (t0.length : Int), 0, ())).bind fun x9 =>
      match x9 with
      | .inl l7 =>
        bif l7.2.2.2.2.2.1 then
          some (((!(decide ((-1) ≥ 0))), ()), ())
        else
          some ((false, ()), ())
      | .inr l8 =>
        bif l8.2.2.2.2.2.1 then
          some (((!(decide (l8.2.2.2.2.2.2.2.2.2.2.1 ≥ 0))), ()), ())
        else
          some ((false, ()), ())
  else
    some ((false, ()), ())
noncomputable def ct_I_areParts : Ct := ⟨[(.bor, S_impl_Part)], [(.bool, false)], fun x => f_I_areParts x.1⟩
noncomputable def cx_I_areParts : Cx := ⟨tab, arrs, [(110, ct_I_areParts_1)], [(109, Try.f109, pl_I_areParts_109), (145, Try.f145, pl_I_areParts_145)]⟩
theorem eb_I_areParts_145_2 (t0 : PV S_impl_Part) (t2 : PV .bool) (t3 : PV S_impl_Part) (t4 : PV (.int .i64)) (t5 : PV .bool) (t6 : PV .bool) (t7 : PV S_impl_Part) (t11 : PV S_impl_Part) (t15 : PV .bool) (t16 : PV S_impl_Part) (t20 : PV S_impl_Part) (t27 : PV (.int .i64)) (t28 : PV (.int .i64)) : denK cx_I_areParts (rcN cx_I_areParts 0) pl_I_areParts_145 20 ((loopsOf (bodyOf Try.f145)).getD 0 .skip) (fillS sh_I_areParts_145_2 (t0, t2, t3, t4, t5, t6, t7, t11, t15, t16, t20, t27, t28, ())) (roundK 20 lp_I_areParts_145_2) = b_I_areParts_145_2 t0 t2 t3 t4 t5 t6 t7 t11 t15 t16 t20 t27 t28 := by kernel_rfl
theorem ef_I_areParts (t0 : PV S_impl_Part) : denF cx_I_areParts 2 pl_I_areParts Try.f71.ntmps (bodyOf Try.f71) Try.f71.results.toList [(.bor, S_impl_Part)] [(.bool, false)] (t0, ()) = f_I_areParts t0 := by kernel_rfl
theorem ok_I_areParts : FnOk Try.prog 71 ct_I_areParts :=
  fnOk (cx := cx_I_areParts) (pl := pl_I_areParts) (dp := 2) (ok0_of tabOk (by unfold ArrOk; kernel_rfl) mix ⟨ok_I_areParts_1, trivial⟩ ⟨⟨Try.func109, by kernel_rfl, (by rw [show loopsOf (bodyOf Try.f109) = [] from by kernel_rfl]; exact trivial)⟩, ⟨Try.func145, by kernel_rfl, (by rw [show loopsOf (bodyOf Try.f145) = [((loopsOf (bodyOf Try.f145)).getD 0 .skip)] from by kernel_rfl]; exact ⟨(by rw [show lookup pl_I_areParts_145.loops (firstId ((loopsOf (bodyOf Try.f145)).getD 0 .skip)) = some lp_I_areParts_145_2 from by kernel_rfl]; exact fun d z h => (eb_I_areParts_145_2 d.1 d.2.1 d.2.2.1 d.2.2.2.1 d.2.2.2.2.1 d.2.2.2.2.2.1 d.2.2.2.2.2.2.1 d.2.2.2.2.2.2.2.1 d.2.2.2.2.2.2.2.2.1 d.2.2.2.2.2.2.2.2.2.1 d.2.2.2.2.2.2.2.2.2.2.1 d.2.2.2.2.2.2.2.2.2.2.2.1 d.2.2.2.2.2.2.2.2.2.2.2.2.1).trans h), trivial⟩)⟩, trivial⟩) Try.func71 (by kernel_rfl) (by kernel_rfl) (by kernel_rfl)
    (by rw [show loopsOf (bodyOf Try.f71) = [] from by kernel_rfl]; exact trivial) (fun x => ef_I_areParts x.1)
noncomputable def o_I_clashes_7 : List Out := [⟨.normal, ⟨[], [3, 6, 7, 8]⟩, mkSh 19 [(3, .val (.int .i64) .b), (6, .val S_impl_Part .b), (7, .val (.int .i64) .b), (8, .val (.int .i64) .b)]⟩]
noncomputable def sh_I_clashes_3 : List Sh := mkSh 19 [(3, .val (.int .i64) .b), (6, .val S_impl_Part .b), (7, .val (.int .i64) .b), (8, .val (.int .i64) .b)]
noncomputable def o_I_clashes_3 : List Out := [⟨.exit 0, ⟨[], [3]⟩, mkSh 19 [(3, .val (.int .i64) .b)]⟩]
noncomputable def b_I_clashes_3 (t3 : PV (.int .i64)) (t6 : PV S_impl_Part) (t7 : PV (.int .i64)) (t8 : PV (.int .i64)) : Option ((PV (.int .i64) × PV S_impl_Part × PV (.int .i64) × PV (.int .i64) × Unit) ⊕ ((PV (.int .i64) × Unit))) :=
  bif (decide (t8 < t7)) then
    ((
        bif inB t8 t6.length then
          bif (((t6.getD t8.toNat (dflt Y_impl_Part)).1) == 5) then
            some ((IntKind.wrap .i64 (t3 + 1)), t6, t7, t8, ())
          else
            some (t3, t6, t7, t8, ())
        else
          none : Option ((PV (.int .i64) × PV S_impl_Part × PV (.int .i64) × PV (.int .i64) × Unit)))).bind fun j1 =>
      some (.inl (j1.1, j1.2.1, j1.2.2.1, (IntKind.wrap .i64 (j1.2.2.2.1 + 1)), ()))
  else
    some (.inr (t3, ()))
noncomputable def w_I_clashes_3 : PV (.int .i64) × PV S_impl_Part × PV (.int .i64) × PV (.int .i64) × Unit → Option ((PV (.int .i64) × Unit)) := fix fun d => b_I_clashes_3 d.1 d.2.1 d.2.2.1 d.2.2.2.1
noncomputable def lp_I_clashes_3 : Lp := ⟨⟨[], [3, 6, 7, 8]⟩, sh_I_clashes_3, o_I_clashes_3, fun d => b_I_clashes_3 d.1 d.2.1 d.2.2.1 d.2.2.2.1⟩
noncomputable def pl_I_clashes : Plan := ⟨[(7, o_I_clashes_7)], [(3, lp_I_clashes_3)], 0, 0⟩
noncomputable def f_I_clashes (t0 : PV S_impl_Part) : Option (PVs [(.int .i64)] × PVs []) :=
  (w_I_clashes_3 (0, t0, (t0.length : Int), 0, ())).bind fun l3 =>
    some ((l3.1, ()), ())
noncomputable def ct_I_clashes : Ct := ⟨[(.bor, S_impl_Part)], [((.int .i64), false)], fun x => f_I_clashes x.1⟩
noncomputable def cx_I_clashes : Cx := ⟨tab, arrs, [], []⟩
theorem eb_I_clashes_3 (t3 : PV (.int .i64)) (t6 : PV S_impl_Part) (t7 : PV (.int .i64)) (t8 : PV (.int .i64)) : denK cx_I_clashes (rcN cx_I_clashes 0) pl_I_clashes 0 ((loopsOf (bodyOf Try.f72)).getD 0 .skip) (fillS sh_I_clashes_3 (t3, t6, t7, t8, ())) (roundK 0 lp_I_clashes_3) = b_I_clashes_3 t3 t6 t7 t8 := by kernel_rfl
theorem ef_I_clashes (t0 : PV S_impl_Part) : denF cx_I_clashes 0 pl_I_clashes Try.f72.ntmps (bodyOf Try.f72) Try.f72.results.toList [(.bor, S_impl_Part)] [((.int .i64), false)] (t0, ()) = f_I_clashes t0 := by kernel_rfl
theorem ok_I_clashes : FnOk Try.prog 72 ct_I_clashes :=
  fnOk (cx := cx_I_clashes) (pl := pl_I_clashes) (dp := 0) (ok0_of tabOk (by unfold ArrOk; kernel_rfl) mix trivial trivial) Try.func72 (by kernel_rfl) (by kernel_rfl) (by kernel_rfl)
    (by rw [show loopsOf (bodyOf Try.f72) = [((loopsOf (bodyOf Try.f72)).getD 0 .skip)] from by kernel_rfl]; exact ⟨(by rw [show lookup pl_I_clashes.loops (firstId ((loopsOf (bodyOf Try.f72)).getD 0 .skip)) = some lp_I_clashes_3 from by kernel_rfl]; exact fun d z h => (eb_I_clashes_3 d.1 d.2.1 d.2.2.1 d.2.2.2.1).trans h), trivial⟩) (fun x => ef_I_clashes x.1)
noncomputable def pl_I_ClashesIn : Plan := ⟨[], [], 0, 0⟩
noncomputable def f_I_ClashesIn (t0 : PV S_impl_Part) : Option (PVs [(.int .i64), .bool] × PVs []) :=
  (f_I_areParts t0).bind fun r4 =>
    bif (!r4.1.1) then
      some ((0, false, ()), ())
    else
      (f_I_clashes t0).bind fun r5 =>
        some ((r5.1.1, true, ()), ())
noncomputable def ct_I_ClashesIn : Ct := ⟨[(.bor, S_impl_Part)], [((.int .i64), false), (.bool, false)], fun x => f_I_ClashesIn x.1⟩
noncomputable def cx_I_ClashesIn : Cx := ⟨tab, arrs, [(71, ct_I_areParts), (72, ct_I_clashes)], []⟩
theorem ef_I_ClashesIn (t0 : PV S_impl_Part) : denF cx_I_ClashesIn 0 pl_I_ClashesIn Try.f18.ntmps (bodyOf Try.f18) Try.f18.results.toList [(.bor, S_impl_Part)] [((.int .i64), false), (.bool, false)] (t0, ()) = f_I_ClashesIn t0 := by kernel_rfl
theorem ok_I_ClashesIn : FnOk Try.prog 18 ct_I_ClashesIn :=
  fnOk (cx := cx_I_ClashesIn) (pl := pl_I_ClashesIn) (dp := 0) (ok0_of tabOk (by unfold ArrOk; kernel_rfl) mix ⟨ok_I_areParts, ok_I_clashes, trivial⟩ trivial) Try.func18 (by kernel_rfl) (by kernel_rfl) (by kernel_rfl)
    (by rw [show loopsOf (bodyOf Try.f18) = [] from by kernel_rfl]; exact trivial) (fun x => ef_I_ClashesIn x.1)
noncomputable def sh_L_eqStringS_4 : List Sh := mkSh 26 [(0, .val S_string .b), (1, .val S_string .b), (5, .val (.int .i64) .b)]
noncomputable def o_L_eqStringS_4 : List Out := [⟨.exit 0, ⟨[], []⟩, mkSh 26 []⟩, ⟨.ret, ⟨[], [4]⟩, mkSh 26 [(4, .val .bool .b)]⟩]
noncomputable def b_L_eqStringS_4 (t0 : PV S_string) (t1 : PV S_string) (t5 : PV (.int .i64)) : Option ((PV S_string × PV S_string × PV (.int .i64) × Unit) ⊕ ((Unit) ⊕ (PV .bool × Unit))) :=
  bif (decide (t5 < (t0.length : Int))) then
    bif inB t5 t0.length then
      bif inB t5 t1.length then
        bif (!((t0.getD t5.toNat []) == (t1.getD t5.toNat []))) then
          some (.inr (.inr (false, ())))
        else
          some (.inl (t0, t1, (IntKind.wrap .i64 (t5 + 1)), ()))
      else
        none
    else
      none
  else
    some (.inr (.inl ()))
noncomputable def w_L_eqStringS_4 : PV S_string × PV S_string × PV (.int .i64) × Unit → Option ((Unit) ⊕ (PV .bool × Unit)) := fix fun d => b_L_eqStringS_4 d.1 d.2.1 d.2.2.1
noncomputable def lp_L_eqStringS_4 : Lp := ⟨⟨[], [0, 1, 5]⟩, sh_L_eqStringS_4, o_L_eqStringS_4, fun d => b_L_eqStringS_4 d.1 d.2.1 d.2.2.1⟩
noncomputable def pl_L_eqStringS : Plan := ⟨[], [(4, lp_L_eqStringS_4)], 0, 0⟩
noncomputable def f_L_eqStringS (t0 : PV S_string) (t1 : PV S_string) : Option (PVs [.bool] × PVs []) :=
  bif (!((t0.length : Int) == (t1.length : Int))) then
    some ((false, ()), ())
  else
    (w_L_eqStringS_4 (t0, t1, 0, ())).bind fun x5 =>
      match x5 with
      | .inl l3 =>
        some ((true, ()), ())
      | .inr l4 =>
        some ((l4.1, ()), ())
noncomputable def ct_L_eqStringS : Ct := ⟨[(.bor, S_string), (.bor, S_string)], [(.bool, false)], fun x => f_L_eqStringS x.1 x.2.1⟩
noncomputable def cx_L_eqStringS : Cx := ⟨tab, arrs, [], []⟩
theorem eb_L_eqStringS_4 (t0 : PV S_string) (t1 : PV S_string) (t5 : PV (.int .i64)) : denK cx_L_eqStringS (rcN cx_L_eqStringS 0) pl_L_eqStringS 0 ((loopsOf (bodyOf Try.f33)).getD 0 .skip) (fillS sh_L_eqStringS_4 (t0, t1, t5, ())) (roundK 0 lp_L_eqStringS_4) = b_L_eqStringS_4 t0 t1 t5 := by kernel_rfl
theorem ef_L_eqStringS (t0 : PV S_string) (t1 : PV S_string) : denF cx_L_eqStringS 0 pl_L_eqStringS Try.f33.ntmps (bodyOf Try.f33) Try.f33.results.toList [(.bor, S_string), (.bor, S_string)] [(.bool, false)] (t0, t1, ()) = f_L_eqStringS t0 t1 := by kernel_rfl
theorem ok_L_eqStringS : FnOk Try.prog 33 ct_L_eqStringS :=
  fnOk (cx := cx_L_eqStringS) (pl := pl_L_eqStringS) (dp := 0) (ok0_of tabOk (by unfold ArrOk; kernel_rfl) mix trivial trivial) Try.func33 (by kernel_rfl) (by kernel_rfl) (by kernel_rfl)
    (by rw [show loopsOf (bodyOf Try.f33) = [((loopsOf (bodyOf Try.f33)).getD 0 .skip)] from by kernel_rfl]; exact ⟨(by rw [show lookup pl_L_eqStringS.loops (firstId ((loopsOf (bodyOf Try.f33)).getD 0 .skip)) = some lp_L_eqStringS_4 from by kernel_rfl]; exact fun d z h => (eb_L_eqStringS_4 d.1 d.2.1 d.2.2.1).trans h), trivial⟩) (fun x => ef_L_eqStringS x.1 x.2.1)
noncomputable def pl_L_eqPart : Plan := ⟨[], [], 0, 0⟩
noncomputable def f_L_eqPart (t0 : PV Y_impl_Part) (t1 : PV Y_impl_Part) : Option (PVs [.bool] × PVs []) :=
  bif (!(t0.1 == t1.1)) then
    some ((false, ()), ())
  else
    bif (!(t0.2.1 == t1.2.1)) then
      some ((false, ()), ())
    else
      bif (!(t0.2.2.1 == t1.2.2.1)) then
        some ((false, ()), ())
      else
        (f_L_eqStringS t0.2.2.2.1 t1.2.2.2.1).bind fun r4 =>
          bif (!r4.1.1) then
            some ((false, ()), ())
          else
            (f_L_eqStringS t0.2.2.2.2.1 t1.2.2.2.2.1).bind fun r8 =>
              bif (!r8.1.1) then
                some ((false, ()), ())
              else
                some ((true, ()), ())
noncomputable def ct_L_eqPart : Ct := ⟨[(.bor, Y_impl_Part), (.bor, Y_impl_Part)], [(.bool, false)], fun x => f_L_eqPart x.1 x.2.1⟩
noncomputable def cx_L_eqPart : Cx := ⟨tab, arrs, [(33, ct_L_eqStringS)], []⟩
theorem ef_L_eqPart (t0 : PV Y_impl_Part) (t1 : PV Y_impl_Part) : denF cx_L_eqPart 0 pl_L_eqPart Try.f73.ntmps (bodyOf Try.f73) Try.f73.results.toList [(.bor, Y_impl_Part), (.bor, Y_impl_Part)] [(.bool, false)] (t0, t1, ()) = f_L_eqPart t0 t1 := by kernel_rfl
theorem ok_L_eqPart : FnOk Try.prog 73 ct_L_eqPart :=
  fnOk (cx := cx_L_eqPart) (pl := pl_L_eqPart) (dp := 0) (ok0_of tabOk (by unfold ArrOk; kernel_rfl) mix ⟨ok_L_eqStringS, trivial⟩ trivial) Try.func73 (by kernel_rfl) (by kernel_rfl) (by kernel_rfl)
    (by rw [show loopsOf (bodyOf Try.f73) = [] from by kernel_rfl]; exact trivial) (fun x => ef_L_eqPart x.1 x.2.1)
noncomputable def sh_L_eqPartS_4 : List Sh := mkSh 27 [(0, .val S_impl_Part .b), (1, .val S_impl_Part .b), (5, .val (.int .i64) .b)]
noncomputable def o_L_eqPartS_4 : List Out := [⟨.exit 0, ⟨[], []⟩, mkSh 27 []⟩, ⟨.ret, ⟨[], [4]⟩, mkSh 27 [(4, .val .bool .b)]⟩]
noncomputable def b_L_eqPartS_4 (t0 : PV S_impl_Part) (t1 : PV S_impl_Part) (t5 : PV (.int .i64)) : Option ((PV S_impl_Part × PV S_impl_Part × PV (.int .i64) × Unit) ⊕ ((Unit) ⊕ (PV .bool × Unit))) :=
  bif (decide (t5 < (t0.length : Int))) then
    bif inB t5 t0.length then
      bif inB t5 t1.length then
        (f_L_eqPart (t0.getD t5.toNat (dflt Y_impl_Part)) (t1.getD t5.toNat (dflt Y_impl_Part))).bind fun r4 =>
          bif (!r4.1.1) then
            some (.inr (.inr (false, ())))
          else
            some (.inl (t0, t1, (IntKind.wrap .i64 (t5 + 1)), ()))
      else
        none
    else
      none
  else
    some (.inr (.inl ()))
noncomputable def w_L_eqPartS_4 : PV S_impl_Part × PV S_impl_Part × PV (.int .i64) × Unit → Option ((Unit) ⊕ (PV .bool × Unit)) := fix fun d => b_L_eqPartS_4 d.1 d.2.1 d.2.2.1
noncomputable def lp_L_eqPartS_4 : Lp := ⟨⟨[], [0, 1, 5]⟩, sh_L_eqPartS_4, o_L_eqPartS_4, fun d => b_L_eqPartS_4 d.1 d.2.1 d.2.2.1⟩
noncomputable def pl_L_eqPartS : Plan := ⟨[], [(4, lp_L_eqPartS_4)], 0, 0⟩
noncomputable def f_L_eqPartS (t0 : PV S_impl_Part) (t1 : PV S_impl_Part) : Option (PVs [.bool] × PVs []) :=
  bif (!((t0.length : Int) == (t1.length : Int))) then
    some ((false, ()), ())
  else
    (w_L_eqPartS_4 (t0, t1, 0, ())).bind fun x9 =>
      match x9 with
      | .inl l7 =>
        some ((true, ()), ())
      | .inr l8 =>
        some ((l8.1, ()), ())
noncomputable def ct_L_eqPartS : Ct := ⟨[(.bor, S_impl_Part), (.bor, S_impl_Part)], [(.bool, false)], fun x => f_L_eqPartS x.1 x.2.1⟩
noncomputable def cx_L_eqPartS : Cx := ⟨tab, arrs, [(73, ct_L_eqPart)], []⟩
theorem eb_L_eqPartS_4 (t0 : PV S_impl_Part) (t1 : PV S_impl_Part) (t5 : PV (.int .i64)) : denK cx_L_eqPartS (rcN cx_L_eqPartS 0) pl_L_eqPartS 0 ((loopsOf (bodyOf Try.f19)).getD 0 .skip) (fillS sh_L_eqPartS_4 (t0, t1, t5, ())) (roundK 0 lp_L_eqPartS_4) = b_L_eqPartS_4 t0 t1 t5 := by kernel_rfl
theorem ef_L_eqPartS (t0 : PV S_impl_Part) (t1 : PV S_impl_Part) : denF cx_L_eqPartS 0 pl_L_eqPartS Try.f19.ntmps (bodyOf Try.f19) Try.f19.results.toList [(.bor, S_impl_Part), (.bor, S_impl_Part)] [(.bool, false)] (t0, t1, ()) = f_L_eqPartS t0 t1 := by kernel_rfl
theorem ok_L_eqPartS : FnOk Try.prog 19 ct_L_eqPartS :=
  fnOk (cx := cx_L_eqPartS) (pl := pl_L_eqPartS) (dp := 0) (ok0_of tabOk (by unfold ArrOk; kernel_rfl) mix ⟨ok_L_eqPart, trivial⟩ trivial) Try.func19 (by kernel_rfl) (by kernel_rfl) (by kernel_rfl)
    (by rw [show loopsOf (bodyOf Try.f19) = [((loopsOf (bodyOf Try.f19)).getD 0 .skip)] from by kernel_rfl]; exact ⟨(by rw [show lookup pl_L_eqPartS.loops (firstId ((loopsOf (bodyOf Try.f19)).getD 0 .skip)) = some lp_L_eqPartS_4 from by kernel_rfl]; exact fun d z h => (eb_L_eqPartS_4 d.1 d.2.1 d.2.2.1).trans h), trivial⟩) (fun x => ef_L_eqPartS x.1 x.2.1)
noncomputable def o_L_FnExactClashesIn_9 : List Out := [⟨.normal, ⟨[], [0, 6, 34]⟩, mkSh 40 [(0, .val S_laws_Part .b), (6, .val S_impl_Part (.row (.pr .b (.pr .b (.pr .b (.pr (.row .b) (.pr (.row .b) .b))))))), (34, .val .bool .b)]⟩]
noncomputable def pl_L_FnExactClashesIn : Plan := ⟨[(9, o_L_FnExactClashesIn_9)], [], 0, 0⟩
noncomputable def f_L_FnExactClashesIn (t0 : PV S_laws_Part) : Option (PVs [.bool] × PVs []) :=
  (f_L_szPartS t0 1048576).bind fun r2 =>
    bif (decide (r2.1.1 < 0)) then
      some ((true, ()), ())
    else
      (f_L_toPartS t0).bind fun r5 =>
        (f_S_ClashesIn r5.1.1).bind fun r6 =>
          (f_L_toPartS t0).bind fun r8 =>
            (f_I_ClashesIn r8.1.1).bind fun r10 =>
              ((
                  bif (!(r10.1.1 == r6.1.1)) then
                    some (t0, r8.1.1, true, ())
                  else
                    some (t0, r8.1.1, (!(r10.1.2.1 == r6.1.2.1)), ()) : Option ((PV S_laws_Part × PV S_impl_Part × PV .bool × Unit)))).bind fun j12 =>
                bif j12.2.2.1 then
                  some ((false, ()), ())
                else
                  (f_L_toPartS j12.1).bind fun r19 =>
                    (f_L_eqPartS j12.2.1 r19.1.1).bind fun r20 =>
                      bif (!r20.1.1) then
                        some ((false, ()), ())
                      else
                        some ((true, ()), ())
noncomputable def ct_L_FnExactClashesIn : Ct := ⟨[(.bor, S_laws_Part)], [(.bool, false)], fun x => f_L_FnExactClashesIn x.1⟩
noncomputable def cx_L_FnExactClashesIn : Cx := ⟨tab, arrs, [(15, ct_L_szPartS), (16, ct_S_ClashesIn), (17, ct_L_toPartS), (18, ct_I_ClashesIn), (19, ct_L_eqPartS)], []⟩
theorem ef_L_FnExactClashesIn (t0 : PV S_laws_Part) : denF cx_L_FnExactClashesIn 0 pl_L_FnExactClashesIn Try.f3.ntmps (bodyOf Try.f3) Try.f3.results.toList [(.bor, S_laws_Part)] [(.bool, false)] (t0, ()) = f_L_FnExactClashesIn t0 := by kernel_rfl
theorem ok_L_FnExactClashesIn : FnOk Try.prog 3 ct_L_FnExactClashesIn :=
  fnOk (cx := cx_L_FnExactClashesIn) (pl := pl_L_FnExactClashesIn) (dp := 0) (ok0_of tabOk (by unfold ArrOk; kernel_rfl) mix ⟨ok_L_szPartS, ok_S_ClashesIn, ok_L_toPartS, ok_I_ClashesIn, ok_L_eqPartS, trivial⟩ trivial) Try.func3 (by kernel_rfl) (by kernel_rfl) (by kernel_rfl)
    (by rw [show loopsOf (bodyOf Try.f3) = [] from by kernel_rfl]; exact trivial) (fun x => ef_L_FnExactClashesIn x.1)
noncomputable def pl_L_szOrder : Plan := ⟨[], [], 0, 0⟩
noncomputable def f_L_szOrder (t0 : PV Y_impl_Order) (t1 : PV (.int .i64)) : Option (PVs [(.int .i64)] × PVs []) :=
  (f_L_szStringS t0.2.2.2.1 t1).bind fun r2 =>
    bif (decide (r2.1.1 < 0)) then
      some (((-1), ()), ())
    else
      some ((r2.1.1, ()), ())
noncomputable def ct_L_szOrder : Ct := ⟨[(.bor, Y_impl_Order), (.bor, (.int .i64))], [((.int .i64), false)], fun x => f_L_szOrder x.1 x.2.1⟩
noncomputable def cx_L_szOrder : Cx := ⟨tab, arrs, [(29, ct_L_szStringS)], []⟩
theorem ef_L_szOrder (t0 : PV Y_impl_Order) (t1 : PV (.int .i64)) : denF cx_L_szOrder 0 pl_L_szOrder Try.f76.ntmps (bodyOf Try.f76) Try.f76.results.toList [(.bor, Y_impl_Order), (.bor, (.int .i64))] [((.int .i64), false)] (t0, t1, ()) = f_L_szOrder t0 t1 := by kernel_rfl
theorem ok_L_szOrder : FnOk Try.prog 76 ct_L_szOrder :=
  fnOk (cx := cx_L_szOrder) (pl := pl_L_szOrder) (dp := 0) (ok0_of tabOk (by unfold ArrOk; kernel_rfl) mix ⟨ok_L_szStringS, trivial⟩ trivial) Try.func76 (by kernel_rfl) (by kernel_rfl) (by kernel_rfl)
    (by rw [show loopsOf (bodyOf Try.f76) = [] from by kernel_rfl]; exact trivial) (fun x => ef_L_szOrder x.1 x.2.1)
noncomputable def sh_L_szOrderS_5 : List Sh := mkSh 27 [(0, .val S_laws_Order .b), (1, .val (.int .i64) .b), (5, .val (.int .i64) .b)]
noncomputable def o_L_szOrderS_5 : List Out := [⟨.exit 0, ⟨[], [1]⟩, mkSh 27 [(1, .val (.int .i64) .b)]⟩, ⟨.ret, ⟨[], [4]⟩, mkSh 27 [(4, .val (.int .i64) .b)]⟩]
noncomputable def b_L_szOrderS_5 (t0 : PV S_laws_Order) (t1 : PV (.int .i64)) (t5 : PV (.int .i64)) : Option ((PV S_laws_Order × PV (.int .i64) × PV (.int .i64) × Unit) ⊕ ((PV (.int .i64) × Unit) ⊕ (PV (.int .i64) × Unit))) :=
  bif (decide (t5 < (t0.length : Int))) then
    bif inB t5 t0.length then
      (f_L_szOrder (t0.getD t5.toNat (dflt Y_impl_Order)) t1).bind fun r4 =>
        bif (decide (r4.1.1 < 0)) then
          some (.inr (.inr ((-1), ())))
        else
          some (.inl (t0, r4.1.1, (IntKind.wrap .i64 (t5 + 1)), ()))
    else
      none
  else
    some (.inr (.inl (t1, ())))
noncomputable def w_L_szOrderS_5 : PV S_laws_Order × PV (.int .i64) × PV (.int .i64) × Unit → Option ((PV (.int .i64) × Unit) ⊕ (PV (.int .i64) × Unit)) := fix fun d => b_L_szOrderS_5 d.1 d.2.1 d.2.2.1
noncomputable def lp_L_szOrderS_5 : Lp := ⟨⟨[], [0, 1, 5]⟩, sh_L_szOrderS_5, o_L_szOrderS_5, fun d => b_L_szOrderS_5 d.1 d.2.1 d.2.2.1⟩
noncomputable def pl_L_szOrderS : Plan := ⟨[], [(5, lp_L_szOrderS_5)], 0, 0⟩
noncomputable def f_L_szOrderS (t0 : PV S_laws_Order) (t1 : PV (.int .i64)) : Option (PVs [(.int .i64)] × PVs []) :=
  bif (decide ((IntKind.wrap .i64 (t1 - (t0.length : Int))) < 0)) then
    some (((-1), ()), ())
  else
    (w_L_szOrderS_5 (t0, (IntKind.wrap .i64 (t1 - (t0.length : Int))), 0, ())).bind fun x9 =>
      match x9 with
      | .inl l7 =>
        some ((l7.1, ()), ())
      | .inr l8 =>
        some ((l8.1, ()), ())
noncomputable def ct_L_szOrderS : Ct := ⟨[(.bor, S_laws_Order), (.bor, (.int .i64))], [((.int .i64), false)], fun x => f_L_szOrderS x.1 x.2.1⟩
noncomputable def cx_L_szOrderS : Cx := ⟨tab, arrs, [(76, ct_L_szOrder)], []⟩
theorem eb_L_szOrderS_5 (t0 : PV S_laws_Order) (t1 : PV (.int .i64)) (t5 : PV (.int .i64)) : denK cx_L_szOrderS (rcN cx_L_szOrderS 0) pl_L_szOrderS 0 ((loopsOf (bodyOf Try.f24)).getD 0 .skip) (fillS sh_L_szOrderS_5 (t0, t1, t5, ())) (roundK 0 lp_L_szOrderS_5) = b_L_szOrderS_5 t0 t1 t5 := by kernel_rfl
theorem ef_L_szOrderS (t0 : PV S_laws_Order) (t1 : PV (.int .i64)) : denF cx_L_szOrderS 0 pl_L_szOrderS Try.f24.ntmps (bodyOf Try.f24) Try.f24.results.toList [(.bor, S_laws_Order), (.bor, (.int .i64))] [((.int .i64), false)] (t0, t1, ()) = f_L_szOrderS t0 t1 := by kernel_rfl
theorem ok_L_szOrderS : FnOk Try.prog 24 ct_L_szOrderS :=
  fnOk (cx := cx_L_szOrderS) (pl := pl_L_szOrderS) (dp := 0) (ok0_of tabOk (by unfold ArrOk; kernel_rfl) mix ⟨ok_L_szOrder, trivial⟩ trivial) Try.func24 (by kernel_rfl) (by kernel_rfl) (by kernel_rfl)
    (by rw [show loopsOf (bodyOf Try.f24) = [((loopsOf (bodyOf Try.f24)).getD 0 .skip)] from by kernel_rfl]; exact ⟨(by rw [show lookup pl_L_szOrderS.loops (firstId ((loopsOf (bodyOf Try.f24)).getD 0 .skip)) = some lp_L_szOrderS_5 from by kernel_rfl]; exact fun d z h => (eb_L_szOrderS_5 d.1 d.2.1 d.2.2.1).trans h), trivial⟩) (fun x => ef_L_szOrderS x.1 x.2.1)
noncomputable def pl_L_toOrder : Plan := ⟨[], [], 0, 0⟩
noncomputable def f_L_toOrder (t0 : PV Y_impl_Order) : Option (PVs [Y_impl_Order] × PVs []) :=
  (f_L_toStringS t0.2.2.2.1).bind fun r2 =>
    some (((t0.1, (t0.2.1, (t0.2.2.1, (r2.1.1, ())))), ()), ())
noncomputable def ct_L_toOrder : Ct := ⟨[(.bor, Y_impl_Order)], [(Y_impl_Order, true)], fun x => f_L_toOrder x.1⟩
noncomputable def cx_L_toOrder : Cx := ⟨tab, arrs, [(31, ct_L_toStringS)], []⟩
theorem ef_L_toOrder (t0 : PV Y_impl_Order) : denF cx_L_toOrder 0 pl_L_toOrder Try.f78.ntmps (bodyOf Try.f78) Try.f78.results.toList [(.bor, Y_impl_Order)] [(Y_impl_Order, true)] (t0, ()) = f_L_toOrder t0 := by kernel_rfl
theorem ok_L_toOrder : FnOk Try.prog 78 ct_L_toOrder :=
  fnOk (cx := cx_L_toOrder) (pl := pl_L_toOrder) (dp := 0) (ok0_of tabOk (by unfold ArrOk; kernel_rfl) mix ⟨ok_L_toStringS, trivial⟩ trivial) Try.func78 (by kernel_rfl) (by kernel_rfl) (by kernel_rfl)
    (by rw [show loopsOf (bodyOf Try.f78) = [] from by kernel_rfl]; exact trivial) (fun x => ef_L_toOrder x.1)
noncomputable def sh_L_toOrderS_3 : List Sh := mkSh 23 [(0, .val S_laws_Order .b), (3, .val S_impl_Order (.row (.pr .b (.pr .b (.pr .b (.pr (.row .b) .b)))))), (4, .val (.int .i64) .b)]
noncomputable def o_L_toOrderS_3 : List Out := [⟨.exit 0, ⟨[], [3]⟩, mkSh 23 [(3, .val S_impl_Order (.row (.pr .b (.pr .b (.pr .b (.pr (.row .b) .b))))))]⟩]
noncomputable def b_L_toOrderS_3 (t0 : PV S_laws_Order) (t3 : PV S_impl_Order) (t4 : PV (.int .i64)) : Option ((PV S_laws_Order × PV S_impl_Order × PV (.int .i64) × Unit) ⊕ ((PV S_impl_Order × Unit))) :=
  bif (decide (t4 < (t0.length : Int))) then
    bif inB t4 t0.length then
      (f_L_toOrder (t0.getD t4.toNat (dflt Y_impl_Order))).bind fun r2 =>
        bif inB t4 t3.length then
          some (.inl (t0, (t3.set t4.toNat r2.1.1), (IntKind.wrap .i64 (t4 + 1)), ()))
        else
          none
    else
      none
  else
    some (.inr (t3, ()))
noncomputable def w_L_toOrderS_3 : PV S_laws_Order × PV S_impl_Order × PV (.int .i64) × Unit → Option ((PV S_impl_Order × Unit)) := fix fun d => b_L_toOrderS_3 d.1 d.2.1 d.2.2.1
noncomputable def lp_L_toOrderS_3 : Lp := ⟨⟨[], [0, 3, 4]⟩, sh_L_toOrderS_3, o_L_toOrderS_3, fun d => b_L_toOrderS_3 d.1 d.2.1 d.2.2.1⟩
noncomputable def pl_L_toOrderS : Plan := ⟨[], [(3, lp_L_toOrderS_3)], 0, 0⟩
noncomputable def f_L_toOrderS (t0 : PV S_laws_Order) : Option (PVs [S_impl_Order] × PVs []) :=
  bif decide (0 ≤ (t0.length : Int)) && (decide ((t0.length : Int) ≤ (t0.length : Int)) && roomB (t0.length : Int).toNat) then
    (w_L_toOrderS_3 (t0, (List.replicate (t0.length : Int).toNat (dflt Y_impl_Order)), 0, ())).bind fun l4 =>
      some ((l4.1, ()), ())
  else
    none
noncomputable def ct_L_toOrderS : Ct := ⟨[(.bor, S_laws_Order)], [(S_impl_Order, true)], fun x => f_L_toOrderS x.1⟩
noncomputable def cx_L_toOrderS : Cx := ⟨tab, arrs, [(78, ct_L_toOrder)], []⟩
theorem eb_L_toOrderS_3 (t0 : PV S_laws_Order) (t3 : PV S_impl_Order) (t4 : PV (.int .i64)) : denK cx_L_toOrderS (rcN cx_L_toOrderS 0) pl_L_toOrderS 0 ((loopsOf (bodyOf Try.f26)).getD 0 .skip) (fillS sh_L_toOrderS_3 (t0, t3, t4, ())) (roundK 0 lp_L_toOrderS_3) = b_L_toOrderS_3 t0 t3 t4 := by kernel_rfl
theorem ef_L_toOrderS (t0 : PV S_laws_Order) : denF cx_L_toOrderS 0 pl_L_toOrderS Try.f26.ntmps (bodyOf Try.f26) Try.f26.results.toList [(.bor, S_laws_Order)] [(S_impl_Order, true)] (t0, ()) = f_L_toOrderS t0 := by kernel_rfl
theorem ok_L_toOrderS : FnOk Try.prog 26 ct_L_toOrderS :=
  fnOk (cx := cx_L_toOrderS) (pl := pl_L_toOrderS) (dp := 0) (ok0_of tabOk (by unfold ArrOk; kernel_rfl) mix ⟨ok_L_toOrder, trivial⟩ trivial) Try.func26 (by kernel_rfl) (by kernel_rfl) (by kernel_rfl)
    (by rw [show loopsOf (bodyOf Try.f26) = [((loopsOf (bodyOf Try.f26)).getD 0 .skip)] from by kernel_rfl]; exact ⟨(by rw [show lookup pl_L_toOrderS.loops (firstId ((loopsOf (bodyOf Try.f26)).getD 0 .skip)) = some lp_L_toOrderS_3 from by kernel_rfl]; exact fun d z h => (eb_L_toOrderS_3 d.1 d.2.1 d.2.2.1).trans h), trivial⟩) (fun x => ef_L_toOrderS x.1)
noncomputable def sh_S_l1Line_2 : List Sh := mkSh 18 [(0, .val .str .b), (3, .val (.int .i64) .b)]
noncomputable def o_S_l1Line_2 : List Out := [⟨.exit 0, ⟨[], [0]⟩, mkSh 18 [(0, .val .str .b)]⟩, ⟨.ret, ⟨[], [2]⟩, mkSh 18 [(2, .val .bool .b)]⟩]
noncomputable def b_S_l1Line_2 (t0 : PV .str) (t3 : PV (.int .i64)) : Option ((PV .str × PV (.int .i64) × Unit) ⊕ ((PV .str × Unit) ⊕ (PV .bool × Unit))) :=
  bif (decide (t3 < (IntKind.wrap .i64 ((t0.length : Int) - 1)))) then
    bif inB t3 t0.length then
      bif (((t0.getD t3.toNat 0).toNat : Int) == 10) then
        some (.inr (.inr (false, ())))
      else
        some (.inl (t0, (IntKind.wrap .i64 (t3 + 1)), ()))
    else
      none
  else
    some (.inr (.inl (t0, ())))
noncomputable def w_S_l1Line_2 : PV .str × PV (.int .i64) × Unit → Option ((PV .str × Unit) ⊕ (PV .bool × Unit)) := fix fun d => b_S_l1Line_2 d.1 d.2.1
noncomputable def lp_S_l1Line_2 : Lp := ⟨⟨[], [0, 3]⟩, sh_S_l1Line_2, o_S_l1Line_2, fun d => b_S_l1Line_2 d.1 d.2.1⟩
noncomputable def pl_S_l1Line : Plan := ⟨[], [(2, lp_S_l1Line_2)], 0, 0⟩
noncomputable def f_S_l1Line (t0 : PV .str) : Option (PVs [.bool] × PVs []) :=
  (w_S_l1Line_2 (t0, 0, ())).bind fun x6 =>
    match x6 with
    | .inl l3 =>
      (f_S_l1In (l3.1.length : Int) 1 30).bind fun r4 =>
        some ((r4.1.1, ()), ())
    | .inr l5 =>
      some ((l5.1, ()), ())
noncomputable def ct_S_l1Line : Ct := ⟨[(.bor, .str)], [(.bool, false)], fun x => f_S_l1Line x.1⟩
noncomputable def cx_S_l1Line : Cx := ⟨tab, arrs, [(99, ct_S_l1In)], []⟩
theorem eb_S_l1Line_2 (t0 : PV .str) (t3 : PV (.int .i64)) : denK cx_S_l1Line (rcN cx_S_l1Line 0) pl_S_l1Line 0 ((loopsOf (bodyOf Try.f115)).getD 0 .skip) (fillS sh_S_l1Line_2 (t0, t3, ())) (roundK 0 lp_S_l1Line_2) = b_S_l1Line_2 t0 t3 := by kernel_rfl
theorem ef_S_l1Line (t0 : PV .str) : denF cx_S_l1Line 0 pl_S_l1Line Try.f115.ntmps (bodyOf Try.f115) Try.f115.results.toList [(.bor, .str)] [(.bool, false)] (t0, ()) = f_S_l1Line t0 := by kernel_rfl
theorem ok_S_l1Line : FnOk Try.prog 115 ct_S_l1Line :=
  fnOk (cx := cx_S_l1Line) (pl := pl_S_l1Line) (dp := 0) (ok0_of tabOk (by unfold ArrOk; kernel_rfl) mix ⟨ok_S_l1In, trivial⟩ trivial) Try.func115 (by kernel_rfl) (by kernel_rfl) (by kernel_rfl)
    (by rw [show loopsOf (bodyOf Try.f115) = [((loopsOf (bodyOf Try.f115)).getD 0 .skip)] from by kernel_rfl]; exact ⟨(by rw [show lookup pl_S_l1Line.loops (firstId ((loopsOf (bodyOf Try.f115)).getD 0 .skip)) = some lp_S_l1Line_2 from by kernel_rfl]; exact fun d z h => (eb_S_l1Line_2 d.1 d.2.1).trans h), trivial⟩) (fun x => ef_S_l1Line x.1)
noncomputable def pl_S_l1Ends : Plan := ⟨[], [], 0, 0⟩
noncomputable def f_S_l1Ends (t0 : PV .str) : Option (PVs [.bool] × PVs []) :=
  bif inB (IntKind.wrap .i64 ((t0.length : Int) - 1)) t0.length then
    some (((((t0.getD (IntKind.wrap .i64 ((t0.length : Int) - 1)).toNat 0).toNat : Int) == 10), ()), ())
  else
    none
noncomputable def ct_S_l1Ends : Ct := ⟨[(.bor, .str)], [(.bool, false)], fun x => f_S_l1Ends x.1⟩
noncomputable def cx_S_l1Ends : Cx := ⟨tab, arrs, [], []⟩
theorem ef_S_l1Ends (t0 : PV .str) : denF cx_S_l1Ends 0 pl_S_l1Ends Try.f141.ntmps (bodyOf Try.f141) Try.f141.results.toList [(.bor, .str)] [(.bool, false)] (t0, ()) = f_S_l1Ends t0 := by kernel_rfl
theorem ok_S_l1Ends : FnOk Try.prog 141 ct_S_l1Ends :=
  fnOk (cx := cx_S_l1Ends) (pl := pl_S_l1Ends) (dp := 0) (ok0_of tabOk (by unfold ArrOk; kernel_rfl) mix trivial trivial) Try.func141 (by kernel_rfl) (by kernel_rfl) (by kernel_rfl)
    (by rw [show loopsOf (bodyOf Try.f141) = [] from by kernel_rfl]; exact trivial) (fun x => ef_S_l1Ends x.1)
noncomputable def o_S_l9Lines_5 : List Out := [⟨.normal, ⟨[], [0, 5, 6, 7, 22]⟩, mkSh 27 [(0, .val S_string .b), (5, .val S_string .b), (6, .val (.int .i64) .b), (7, .val (.int .i64) .b), (22, .val .bool .b)]⟩]
noncomputable def sh_S_l9Lines_2 : List Sh := mkSh 27 [(0, .val S_string .b), (5, .val S_string .b), (6, .val (.int .i64) .b), (7, .val (.int .i64) .b)]
noncomputable def o_S_l9Lines_2 : List Out := [⟨.exit 0, ⟨[], [0]⟩, mkSh 27 [(0, .val S_string .b)]⟩, ⟨.ret, ⟨[], [2]⟩, mkSh 27 [(2, .val .bool .b)]⟩]
noncomputable def b_S_l9Lines_2 (t0 : PV S_string) (t5 : PV S_string) (t6 : PV (.int .i64)) (t7 : PV (.int .i64)) : Option ((PV S_string × PV S_string × PV (.int .i64) × PV (.int .i64) × Unit) ⊕ ((PV S_string × Unit) ⊕ (PV .bool × Unit))) :=
  bif (decide (t7 < t6)) then
    bif inB t7 t5.length then
      ((
          (f_S_l1Line (t5.getD t7.toNat [])).bind fun r4 =>
            bif (!r4.1.1) then
              some (t0, t5, t6, t7, true, ())
            else
              (f_S_l1Ends (t5.getD t7.toNat [])).bind fun r5 =>
                bif (!r5.1.1) then
                  some (t0, t5, t6, t7, true, ())
                else
                  some (t0, t5, t6, t7, ((t5.getD t7.toNat []) == [46, 10]), ()) : Option ((PV S_string × PV S_string × PV (.int .i64) × PV (.int .i64) × PV .bool × Unit)))).bind fun j6 =>
        bif j6.2.2.2.2.1 then
          some (.inr (.inr (false, ())))
        else
          some (.inl (j6.1, j6.2.1, j6.2.2.1, (IntKind.wrap .i64 (j6.2.2.2.1 + 1)), ()))
    else
      none
  else
    some (.inr (.inl (t0, ())))
noncomputable def w_S_l9Lines_2 : PV S_string × PV S_string × PV (.int .i64) × PV (.int .i64) × Unit → Option ((PV S_string × Unit) ⊕ (PV .bool × Unit)) := fix fun d => b_S_l9Lines_2 d.1 d.2.1 d.2.2.1 d.2.2.2.1
noncomputable def lp_S_l9Lines_2 : Lp := ⟨⟨[], [0, 5, 6, 7, 15, 16, 17, 20, 21]⟩, sh_S_l9Lines_2, o_S_l9Lines_2, fun d => b_S_l9Lines_2 d.1 d.2.1 d.2.2.1 d.2.2.2.1⟩
noncomputable def pl_S_l9Lines : Plan := ⟨[(5, o_S_l9Lines_5)], [(2, lp_S_l9Lines_2)], 0, 0⟩
noncomputable def f_S_l9Lines (t0 : PV S_string) : Option (PVs [.bool] × PVs []) :=
  (w_S_l9Lines_2 (t0, t0, (t0.length : Int), 0, ())).bind fun x12 =>
    match x12 with
    | .inl l9 =>
      (f_S_l1In (l9.1.length : Int) 1 40).bind fun r10 =>
        some ((r10.1.1, ()), ())
    | .inr l11 =>
      some ((l11.1, ()), ())
noncomputable def ct_S_l9Lines : Ct := ⟨[(.bor, S_string)], [(.bool, false)], fun x => f_S_l9Lines x.1⟩
noncomputable def cx_S_l9Lines : Cx := ⟨tab, arrs, [(99, ct_S_l1In), (115, ct_S_l1Line), (141, ct_S_l1Ends)], []⟩
theorem eb_S_l9Lines_2 (t0 : PV S_string) (t5 : PV S_string) (t6 : PV (.int .i64)) (t7 : PV (.int .i64)) : denK cx_S_l9Lines (rcN cx_S_l9Lines 0) pl_S_l9Lines 0 ((loopsOf (bodyOf Try.f146)).getD 0 .skip) (fillS sh_S_l9Lines_2 (t0, t5, t6, t7, ())) (roundK 0 lp_S_l9Lines_2) = b_S_l9Lines_2 t0 t5 t6 t7 := by kernel_rfl
theorem ef_S_l9Lines (t0 : PV S_string) : denF cx_S_l9Lines 0 pl_S_l9Lines Try.f146.ntmps (bodyOf Try.f146) Try.f146.results.toList [(.bor, S_string)] [(.bool, false)] (t0, ()) = f_S_l9Lines t0 := by kernel_rfl
theorem ok_S_l9Lines : FnOk Try.prog 146 ct_S_l9Lines :=
  fnOk (cx := cx_S_l9Lines) (pl := pl_S_l9Lines) (dp := 0) (ok0_of tabOk (by unfold ArrOk; kernel_rfl) mix ⟨ok_S_l1In, ok_S_l1Line, ok_S_l1Ends, trivial⟩ trivial) Try.func146 (by kernel_rfl) (by kernel_rfl) (by kernel_rfl)
    (by rw [show loopsOf (bodyOf Try.f146) = [((loopsOf (bodyOf Try.f146)).getD 0 .skip)] from by kernel_rfl]; exact ⟨(by rw [show lookup pl_S_l9Lines.loops (firstId ((loopsOf (bodyOf Try.f146)).getD 0 .skip)) = some lp_S_l9Lines_2 from by kernel_rfl]; exact fun d z h => (eb_S_l9Lines_2 d.1 d.2.1 d.2.2.1 d.2.2.2.1).trans h), trivial⟩) (fun x => ef_S_l9Lines x.1)
noncomputable def o_S_l9Order_2 : List Out := [⟨.normal, ⟨[], [1, 14, 25, 26, 27, 37, 38, 39, 42, 43, 44, 52, 53, 54, 62, 63, 64, 65, 71, 72, 73, 76, 77, 78, 79, 80, 83, 84, 85, 86]⟩, mkSh 88 [(1, .var Y_impl_Order .b), (14, .val .bool .b)]⟩]
noncomputable def pl_S_l9Order : Plan := ⟨[(2, o_S_l9Order_2)], [], 0, 0⟩
noncomputable def f_S_l9Order (t0 : PV Y_impl_Order) : Option (PVs [.bool] × PVs []) :=
  ((
      (f_S_l1In t0.2.1 0 1000).bind fun r6 =>
        bif (!r6.1.1) then
          some (t0, true, ())
        else
          (f_S_l1In t0.2.2.1 t0.2.1 1000).bind fun r7 =>
            some (t0, (!r7.1.1), ()) : Option ((PV Y_impl_Order × PV .bool × Unit)))).bind fun j8 =>
    bif j8.2.1 then
      some ((false, ()), ())
    else
      bif (j8.1.1 == 1) then
        bif (j8.1.2.2.1 == j8.1.2.1) then
          (f_S_l9Lines j8.1.2.2.2.1).bind fun r12 =>
            some ((r12.1.1, ()), ())
        else
          some ((false, ()), ())
      else
        bif (j8.1.1 == 2) then
          bif (j8.1.2.2.1 == j8.1.2.1) then
            bif (decide (j8.1.2.1 ≥ 1)) then
              (f_S_l9Lines j8.1.2.2.2.1).bind fun r13 =>
                some ((r13.1.1, ()), ())
            else
              some ((false, ()), ())
          else
            some ((false, ()), ())
        else
          bif (j8.1.1 == 3) then
            bif (decide (j8.1.2.1 ≥ 1)) then
              (f_S_l9Lines j8.1.2.2.2.1).bind fun r14 =>
                some ((r14.1.1, ()), ())
            else
              some ((false, ()), ())
          else
            bif (j8.1.1 == 4) then
              bif (decide (j8.1.2.1 ≥ 1)) then
                some ((((j8.1.2.2.2.1.length : Int) == 0), ()), ())
              else
                some ((false, ()), ())
            else
              bif (j8.1.1 == 5) then
                bif (decide (j8.1.2.1 ≥ 1)) then
                  bif (j8.1.2.2.1 == j8.1.2.1) then
                    some ((((j8.1.2.2.2.1.length : Int) == 0), ()), ())
                  else
                    some ((false, ()), ())
                else
                  some ((false, ()), ())
              else
                some ((false, ()), ())
noncomputable def ct_S_l9Order : Ct := ⟨[(.bor, Y_impl_Order)], [(.bool, false)], fun x => f_S_l9Order x.1⟩
noncomputable def cx_S_l9Order : Cx := ⟨tab, arrs, [(99, ct_S_l1In), (146, ct_S_l9Lines)], []⟩
theorem ef_S_l9Order (t0 : PV Y_impl_Order) : denF cx_S_l9Order 0 pl_S_l9Order Try.f111.ntmps (bodyOf Try.f111) Try.f111.results.toList [(.bor, Y_impl_Order)] [(.bool, false)] (t0, ()) = f_S_l9Order t0 := by kernel_rfl
theorem ok_S_l9Order : FnOk Try.prog 111 ct_S_l9Order :=
  fnOk (cx := cx_S_l9Order) (pl := pl_S_l9Order) (dp := 0) (ok0_of tabOk (by unfold ArrOk; kernel_rfl) mix ⟨ok_S_l1In, ok_S_l9Lines, trivial⟩ trivial) Try.func111 (by kernel_rfl) (by kernel_rfl) (by kernel_rfl)
    (by rw [show loopsOf (bodyOf Try.f111) = [] from by kernel_rfl]; exact trivial) (fun x => ef_S_l9Order x.1)
noncomputable def sh_S_l9Good_2 : List Sh := mkSh 18 [(0, .val S_impl_Order .b), (5, .val S_impl_Order .b), (6, .val (.int .i64) .b), (7, .val (.int .i64) .b)]
noncomputable def o_S_l9Good_2 : List Out := [⟨.exit 0, ⟨[], [0]⟩, mkSh 18 [(0, .val S_impl_Order .b)]⟩, ⟨.ret, ⟨[], [2]⟩, mkSh 18 [(2, .val .bool .b)]⟩]
noncomputable def b_S_l9Good_2 (t0 : PV S_impl_Order) (t5 : PV S_impl_Order) (t6 : PV (.int .i64)) (t7 : PV (.int .i64)) : Option ((PV S_impl_Order × PV S_impl_Order × PV (.int .i64) × PV (.int .i64) × Unit) ⊕ ((PV S_impl_Order × Unit) ⊕ (PV .bool × Unit))) :=
  bif (decide (t7 < t6)) then
    bif inB t7 t5.length then
      (f_S_l9Order (t5.getD t7.toNat (dflt Y_impl_Order))).bind fun r4 =>
        bif (!r4.1.1) then
          some (.inr (.inr (false, ())))
        else
          some (.inl (t0, t5, t6, (IntKind.wrap .i64 (t7 + 1)), ()))
    else
      none
  else
    some (.inr (.inl (t0, ())))
noncomputable def w_S_l9Good_2 : PV S_impl_Order × PV S_impl_Order × PV (.int .i64) × PV (.int .i64) × Unit → Option ((PV S_impl_Order × Unit) ⊕ (PV .bool × Unit)) := fix fun d => b_S_l9Good_2 d.1 d.2.1 d.2.2.1 d.2.2.2.1
noncomputable def lp_S_l9Good_2 : Lp := ⟨⟨[], [0, 5, 6, 7]⟩, sh_S_l9Good_2, o_S_l9Good_2, fun d => b_S_l9Good_2 d.1 d.2.1 d.2.2.1 d.2.2.2.1⟩
noncomputable def pl_S_l9Good : Plan := ⟨[], [(2, lp_S_l9Good_2)], 0, 0⟩
noncomputable def f_S_l9Good (t0 : PV S_impl_Order) : Option (PVs [.bool] × PVs []) :=
  (w_S_l9Good_2 (t0, t0, (t0.length : Int), 0, ())).bind fun x9 =>
    match x9 with
    | .inl l7 =>
      some (((decide ((l7.1.length : Int) ≤ 60)), ()), ())
    | .inr l8 =>
      some ((l8.1, ()), ())
noncomputable def ct_S_l9Good : Ct := ⟨[(.bor, S_impl_Order)], [(.bool, false)], fun x => f_S_l9Good x.1⟩
noncomputable def cx_S_l9Good : Cx := ⟨tab, arrs, [(111, ct_S_l9Order)], []⟩
theorem eb_S_l9Good_2 (t0 : PV S_impl_Order) (t5 : PV S_impl_Order) (t6 : PV (.int .i64)) (t7 : PV (.int .i64)) : denK cx_S_l9Good (rcN cx_S_l9Good 0) pl_S_l9Good 0 ((loopsOf (bodyOf Try.f77)).getD 0 .skip) (fillS sh_S_l9Good_2 (t0, t5, t6, t7, ())) (roundK 0 lp_S_l9Good_2) = b_S_l9Good_2 t0 t5 t6 t7 := by kernel_rfl
theorem ef_S_l9Good (t0 : PV S_impl_Order) : denF cx_S_l9Good 0 pl_S_l9Good Try.f77.ntmps (bodyOf Try.f77) Try.f77.results.toList [(.bor, S_impl_Order)] [(.bool, false)] (t0, ()) = f_S_l9Good t0 := by kernel_rfl
theorem ok_S_l9Good : FnOk Try.prog 77 ct_S_l9Good :=
  fnOk (cx := cx_S_l9Good) (pl := pl_S_l9Good) (dp := 0) (ok0_of tabOk (by unfold ArrOk; kernel_rfl) mix ⟨ok_S_l9Order, trivial⟩ trivial) Try.func77 (by kernel_rfl) (by kernel_rfl) (by kernel_rfl)
    (by rw [show loopsOf (bodyOf Try.f77) = [((loopsOf (bodyOf Try.f77)).getD 0 .skip)] from by kernel_rfl]; exact ⟨(by rw [show lookup pl_S_l9Good.loops (firstId ((loopsOf (bodyOf Try.f77)).getD 0 .skip)) = some lp_S_l9Good_2 from by kernel_rfl]; exact fun d z h => (eb_S_l9Good_2 d.1 d.2.1 d.2.2.1 d.2.2.2.1).trans h), trivial⟩) (fun x => ef_S_l9Good x.1)
noncomputable def pl_S_GoodOrders : Plan := ⟨[], [], 0, 0⟩
noncomputable def f_S_GoodOrders (t0 : PV S_impl_Order) : Option (PVs [.bool] × PVs []) :=
  (f_S_l9Good t0).bind fun r1 =>
    some ((r1.1.1, ()), ())
noncomputable def ct_S_GoodOrders : Ct := ⟨[(.bor, S_impl_Order)], [(.bool, false)], fun x => f_S_GoodOrders x.1⟩
noncomputable def cx_S_GoodOrders : Cx := ⟨tab, arrs, [(77, ct_S_l9Good)], []⟩
theorem ef_S_GoodOrders (t0 : PV S_impl_Order) : denF cx_S_GoodOrders 0 pl_S_GoodOrders Try.f25.ntmps (bodyOf Try.f25) Try.f25.results.toList [(.bor, S_impl_Order)] [(.bool, false)] (t0, ()) = f_S_GoodOrders t0 := by kernel_rfl
theorem ok_S_GoodOrders : FnOk Try.prog 25 ct_S_GoodOrders :=
  fnOk (cx := cx_S_GoodOrders) (pl := pl_S_GoodOrders) (dp := 0) (ok0_of tabOk (by unfold ArrOk; kernel_rfl) mix ⟨ok_S_l9Good, trivial⟩ trivial) Try.func25 (by kernel_rfl) (by kernel_rfl) (by kernel_rfl)
    (by rw [show loopsOf (bodyOf Try.f25) = [] from by kernel_rfl]; exact trivial) (fun x => ef_S_GoodOrders x.1)
noncomputable def pl_I_isLine : Plan := ⟨[], [], 0, 0⟩
noncomputable def f_I_isLine (t0 : PV .str) : Option (PVs [.bool] × PVs []) :=
  (f_I_in (t0.length : Int) 1 30).bind fun r1 =>
    bif r1.1.1 then
      bif cutB 0 (IntKind.wrap .i64 ((t0.length : Int) - 1)) t0.length then
        (f_strings_Contains (cutL 0 (IntKind.wrap .i64 ((t0.length : Int) - 1)) t0) [10]).bind fun r2 =>
          some (((!r2.1.1), ()), ())
      else
        none
    else
      some ((false, ()), ())
noncomputable def ct_I_isLine : Ct := ⟨[(.bor, .str)], [(.bool, false)], fun x => f_I_isLine x.1⟩
noncomputable def cx_I_isLine : Cx := ⟨tab, arrs, [(101, ct_I_in), (155, ct_strings_Contains)], []⟩
theorem ef_I_isLine (t0 : PV .str) : denF cx_I_isLine 0 pl_I_isLine Try.f129.ntmps (bodyOf Try.f129) Try.f129.results.toList [(.bor, .str)] [(.bool, false)] (t0, ()) = f_I_isLine t0 := by kernel_rfl
theorem ok_I_isLine : FnOk Try.prog 129 ct_I_isLine :=
  fnOk (cx := cx_I_isLine) (pl := pl_I_isLine) (dp := 0) (ok0_of tabOk (by unfold ArrOk; kernel_rfl) mix ⟨ok_I_in, ok_strings_Contains, trivial⟩ trivial) Try.func129 (by kernel_rfl) (by kernel_rfl) (by kernel_rfl)
    (by rw [show loopsOf (bodyOf Try.f129) = [] from by kernel_rfl]; exact trivial) (fun x => ef_I_isLine x.1)
noncomputable def pl_internal_stringslite_HasSuffix : Plan := ⟨[], [], 0, 0⟩
noncomputable def f_internal_stringslite_HasSuffix (t0 : PV .str) (t1 : PV .str) : Option (PVs [.bool] × PVs []) :=
  bif (decide ((t0.length : Int) ≥ (t1.length : Int))) then
    bif cutB (IntKind.wrap .i64 ((t0.length : Int) - (t1.length : Int))) (t0.length : Int) t0.length then
      some ((((cutL (IntKind.wrap .i64 ((t0.length : Int) - (t1.length : Int))) (t0.length : Int) t0) == t1), ()), ())
    else
      none
  else
    some ((false, ()), ())
noncomputable def ct_internal_stringslite_HasSuffix : Ct := ⟨[(.bor, .str), (.bor, .str)], [(.bool, false)], fun x => f_internal_stringslite_HasSuffix x.1 x.2.1⟩
noncomputable def cx_internal_stringslite_HasSuffix : Cx := ⟨tab, arrs, [], []⟩
theorem ef_internal_stringslite_HasSuffix (t0 : PV .str) (t1 : PV .str) : denF cx_internal_stringslite_HasSuffix 0 pl_internal_stringslite_HasSuffix Try.f173.ntmps (bodyOf Try.f173) Try.f173.results.toList [(.bor, .str), (.bor, .str)] [(.bool, false)] (t0, t1, ()) = f_internal_stringslite_HasSuffix t0 t1 := by kernel_rfl
theorem ok_internal_stringslite_HasSuffix : FnOk Try.prog 173 ct_internal_stringslite_HasSuffix :=
  fnOk (cx := cx_internal_stringslite_HasSuffix) (pl := pl_internal_stringslite_HasSuffix) (dp := 0) (ok0_of tabOk (by unfold ArrOk; kernel_rfl) mix trivial trivial) Try.func173 (by kernel_rfl) (by kernel_rfl) (by kernel_rfl)
    (by rw [show loopsOf (bodyOf Try.f173) = [] from by kernel_rfl]; exact trivial) (fun x => ef_internal_stringslite_HasSuffix x.1 x.2.1)
noncomputable def pl_strings_HasSuffix : Plan := ⟨[], [], 0, 0⟩
noncomputable def f_strings_HasSuffix (t0 : PV .str) (t1 : PV .str) : Option (PVs [.bool] × PVs []) :=
  (f_internal_stringslite_HasSuffix t0 t1).bind fun r1 =>
    some ((r1.1.1, ()), ())
noncomputable def ct_strings_HasSuffix : Ct := ⟨[(.bor, .str), (.bor, .str)], [(.bool, false)], fun x => f_strings_HasSuffix x.1 x.2.1⟩
noncomputable def cx_strings_HasSuffix : Cx := ⟨tab, arrs, [(173, ct_internal_stringslite_HasSuffix)], []⟩
theorem ef_strings_HasSuffix (t0 : PV .str) (t1 : PV .str) : denF cx_strings_HasSuffix 0 pl_strings_HasSuffix Try.f166.ntmps (bodyOf Try.f166) Try.f166.results.toList [(.bor, .str), (.bor, .str)] [(.bool, false)] (t0, t1, ()) = f_strings_HasSuffix t0 t1 := by kernel_rfl
theorem ok_strings_HasSuffix : FnOk Try.prog 166 ct_strings_HasSuffix :=
  fnOk (cx := cx_strings_HasSuffix) (pl := pl_strings_HasSuffix) (dp := 0) (ok0_of tabOk (by unfold ArrOk; kernel_rfl) mix ⟨ok_internal_stringslite_HasSuffix, trivial⟩ trivial) Try.func166 (by kernel_rfl) (by kernel_rfl) (by kernel_rfl)
    (by rw [show loopsOf (bodyOf Try.f166) = [] from by kernel_rfl]; exact trivial) (fun x => ef_strings_HasSuffix x.1 x.2.1)
noncomputable def pl_I_isEnded : Plan := ⟨[], [], 0, 0⟩
noncomputable def f_I_isEnded (t0 : PV .str) : Option (PVs [.bool] × PVs []) :=
  (f_strings_HasSuffix t0 [10]).bind fun r1 =>
    some ((r1.1.1, ()), ())
noncomputable def ct_I_isEnded : Ct := ⟨[(.bor, .str)], [(.bool, false)], fun x => f_I_isEnded x.1⟩
noncomputable def cx_I_isEnded : Cx := ⟨tab, arrs, [(166, ct_strings_HasSuffix)], []⟩
theorem ef_I_isEnded (t0 : PV .str) : denF cx_I_isEnded 0 pl_I_isEnded Try.f142.ntmps (bodyOf Try.f142) Try.f142.results.toList [(.bor, .str)] [(.bool, false)] (t0, ()) = f_I_isEnded t0 := by kernel_rfl
theorem ok_I_isEnded : FnOk Try.prog 142 ct_I_isEnded :=
  fnOk (cx := cx_I_isEnded) (pl := pl_I_isEnded) (dp := 0) (ok0_of tabOk (by unfold ArrOk; kernel_rfl) mix ⟨ok_strings_HasSuffix, trivial⟩ trivial) Try.func142 (by kernel_rfl) (by kernel_rfl) (by kernel_rfl)
    (by rw [show loopsOf (bodyOf Try.f142) = [] from by kernel_rfl]; exact trivial) (fun x => ef_I_isEnded x.1)
noncomputable def pl_I_goodOrder_1 : Plan := ⟨[], [], 0, 0⟩
noncomputable def f_I_goodOrder_1 (t0 : PV .str) : Option (PVs [.bool] × PVs []) :=
  (f_I_isLine t0).bind fun r1 =>
    bif (!r1.1.1) then
      some ((true, ()), ())
    else
      (f_I_isEnded t0).bind fun r2 =>
        bif (!r2.1.1) then
          some ((true, ()), ())
        else
          some (((t0 == [46, 10]), ()), ())
noncomputable def ct_I_goodOrder_1 : Ct := ⟨[(.bor, .str)], [(.bool, false)], fun x => f_I_goodOrder_1 x.1⟩
noncomputable def cx_I_goodOrder_1 : Cx := ⟨tab, arrs, [(129, ct_I_isLine), (142, ct_I_isEnded)], []⟩
theorem ef_I_goodOrder_1 (t0 : PV .str) : denF cx_I_goodOrder_1 0 pl_I_goodOrder_1 Try.f149.ntmps (bodyOf Try.f149) Try.f149.results.toList [(.bor, .str)] [(.bool, false)] (t0, ()) = f_I_goodOrder_1 t0 := by kernel_rfl
theorem ok_I_goodOrder_1 : FnOk Try.prog 149 ct_I_goodOrder_1 :=
  fnOk (cx := cx_I_goodOrder_1) (pl := pl_I_goodOrder_1) (dp := 0) (ok0_of tabOk (by unfold ArrOk; kernel_rfl) mix ⟨ok_I_isLine, ok_I_isEnded, trivial⟩ trivial) Try.func149 (by kernel_rfl) (by kernel_rfl) (by kernel_rfl)
    (by rw [show loopsOf (bodyOf Try.f149) = [] from by kernel_rfl]; exact trivial) (fun x => ef_I_goodOrder_1 x.1)
noncomputable def o_I_goodOrder_2 : List Out := [⟨.normal, ⟨[], [1, 15, 21, 22, 23, 24, 32, 33, 34, 35, 36, 42, 43, 44, 45, 46, 49, 50, 51, 57, 58, 59, 68, 69, 70, 79, 80, 81, 84, 85, 86, 87, 88]⟩, mkSh 90 [(1, .var Y_impl_Order .b), (15, .val .bool .b)]⟩]
noncomputable def o_I_goodOrder_4 : List Out := [⟨.normal, ⟨[], [1, 3, 32, 33, 34, 35, 36, 42, 43, 44, 45, 46, 49, 50, 51, 57, 58, 59, 68, 69, 70, 79, 80, 81, 84, 85, 86, 87, 88]⟩, mkSh 90 [(1, .var Y_impl_Order .b), (3, .val .bool .b)]⟩]
noncomputable def pl_I_goodOrder_148 : Plan := ⟨[], [], 1, 90⟩
noncomputable def sh_I_goodOrder_169_2 : List Sh := mkSh 118 [(1, .var Y_impl_Order .b), (15, .val .bool .b), (16, .addr ⟨1, [.r, .r, .r, .l], 0, 0⟩), (17, .val S_string .b), (18, .val (.int .i64) .b), (19, .val .bool .b), (20, .val .bool .b), (21, .addr ⟨1, [.r, .r, .r, .l], 0, 0⟩), (22, .val S_string .b), (90, .val S_string .b), (91, .fn 149 []), (94, .val .bool .b), (95, .val S_string .b), (96, .fn 149 []), (99, .val S_string .b), (100, .fn 149 []), (106, .val (.int .i64) .b), (107, .val (.int .i64) .b)]
noncomputable def o_I_goodOrder_169_2 : List Out := [⟨.exit 0, ⟨[], []⟩, mkSh 118 [(1, .var Y_impl_Order .b), (15, .val .bool .b), (16, .addr ⟨1, [.r, .r, .r, .l], 0, 0⟩), (17, .val S_string .b), (18, .val (.int .i64) .b), (19, .val .bool .b), (20, .val .bool .b), (21, .addr ⟨1, [.r, .r, .r, .l], 0, 0⟩), (22, .val S_string .b), (90, .val S_string .b), (91, .fn 149 []), (94, .val .bool .b), (95, .val S_string .b), (96, .fn 149 [])]⟩, ⟨.ret, ⟨[], [4]⟩, mkSh 118 [(1, .var Y_impl_Order .b), (15, .val .bool .b), (16, .addr ⟨1, [.r, .r, .r, .l], 0, 0⟩), (17, .val S_string .b), (18, .val (.int .i64) .b), (19, .val .bool .b), (20, .val .bool .b), (21, .addr ⟨1, [.r, .r, .r, .l], 0, 0⟩), (22, .val S_string .b), (90, .val S_string .b), (91, .fn 149 []), (94, .val .bool .b), (95, .val S_string .b), (96, .fn 149 []), (103, .val (.int .i64) .b)]⟩]
noncomputable def b_I_goodOrder_169_2 (t1 : PV Y_impl_Order) (t15 : PV .bool) (t17 : PV S_string) (t18 : PV (.int .i64)) (t19 : PV .bool) (t20 : PV .bool) (t22 : PV S_string) (t90 : PV S_string) (t94 : PV .bool) (t95 : PV S_string) (t99 : PV S_string) (t106 : PV (.int .i64)) (t107 : PV (.int .i64)) : Option ((PV Y_impl_Order × PV .bool × PV S_string × PV (.int .i64) × PV .bool × PV .bool × PV S_string × PV S_string × PV .bool × PV S_string × PV S_string × PV (.int .i64) × PV (.int .i64) × Unit) ⊕ ((PV Y_impl_Order × PV .bool × PV S_string × PV (.int .i64) × PV .bool × PV .bool × PV S_string × PV S_string × PV .bool × PV S_string × Unit) ⊕ (PV Y_impl_Order × PV .bool × PV S_string × PV (.int .i64) × PV .bool × PV .bool × PV S_string × PV S_string × PV .bool × PV S_string × PV (.int .i64) × Unit))) :=
  bif (decide (t107 < t106)) then
    bif inB t107 t99.length then
      (f_I_goodOrder_1 (t99.getD t107.toNat [])).bind fun r13 =>
        bif r13.1.1 then
          some (.inr (.inr (t1, t15, t17, t18, t19, t20, t22, t90, t94, t95, t107, ())))
        else
          some (.inl (t1, t15, t17, t18, t19, t20, t22, t90, t94, t95, t99, t106, (IntKind.wrap .i64 (t107 + 1)), ()))
    else
      none
  else
    some (.inr (.inl (t1, t15, t17, t18, t19, t20, t22, t90, t94, t95, ())))
noncomputable def w_I_goodOrder_169_2 : PV Y_impl_Order × PV .bool × PV S_string × PV (.int .i64) × PV .bool × PV .bool × PV S_string × PV S_string × PV .bool × PV S_string × PV S_string × PV (.int .i64) × PV (.int .i64) × Unit → Option ((PV Y_impl_Order × PV .bool × PV S_string × PV (.int .i64) × PV .bool × PV .bool × PV S_string × PV S_string × PV .bool × PV S_string × Unit) ⊕ (PV Y_impl_Order × PV .bool × PV S_string × PV (.int .i64) × PV .bool × PV .bool × PV S_string × PV S_string × PV .bool × PV S_string × PV (.int .i64) × Unit)) := fix fun d => b_I_goodOrder_169_2 d.1 d.2.1 d.2.2.1 d.2.2.2.1 d.2.2.2.2.1 d.2.2.2.2.2.1 d.2.2.2.2.2.2.1 d.2.2.2.2.2.2.2.1 d.2.2.2.2.2.2.2.2.1 d.2.2.2.2.2.2.2.2.2.1 d.2.2.2.2.2.2.2.2.2.2.1 d.2.2.2.2.2.2.2.2.2.2.2.1 d.2.2.2.2.2.2.2.2.2.2.2.2.1
noncomputable def lp_I_goodOrder_169_2 : Lp := ⟨⟨[], [0, 1, 7, 8]⟩, sh_I_goodOrder_169_2, o_I_goodOrder_169_2, fun d => b_I_goodOrder_169_2 d.1 d.2.1 d.2.2.1 d.2.2.2.1 d.2.2.2.2.1 d.2.2.2.2.2.1 d.2.2.2.2.2.2.1 d.2.2.2.2.2.2.2.1 d.2.2.2.2.2.2.2.2.1 d.2.2.2.2.2.2.2.2.2.1 d.2.2.2.2.2.2.2.2.2.2.1 d.2.2.2.2.2.2.2.2.2.2.2.1 d.2.2.2.2.2.2.2.2.2.2.2.2.1⟩
noncomputable def pl_I_goodOrder_169 : Plan := ⟨[], [(2, lp_I_goodOrder_169_2)], 0, 99⟩
noncomputable def pl_I_goodOrder : Plan := ⟨[(2, o_I_goodOrder_2), (4, o_I_goodOrder_4)], [], 2, 0⟩
noncomputable def f_I_goodOrder (t0 : PV Y_impl_Order) : Option (PVs [.bool] × PVs []) :=
  ((
      (f_I_in t0.2.1 0 1000).bind fun r6 =>
        bif (!r6.1.1) then
          some (t0, true, ())
        else
          (f_I_in t0.2.2.1 t0.2.1 1000).bind fun r7 =>
            some (t0, (!r7.1.1), ()) : Option ((PV Y_impl_Order × PV .bool × Unit)))).bind fun j8 =>
    bif j8.2.1 then
      some ((false, ()), ())
    else
      ((
          (f_I_in (j8.1.2.2.2.1.length : Int) 1 40).bind fun r18 =>
            bif r18.1.1 then
              (w_I_goodOrder_169_2 (j8.1, j8.2.1, j8.1.2.2.2.1, (j8.1.2.2.2.1.length : Int), r18.1.1, true, j8.1.2.2.2.1, j8.1.2.2.2.1, false, j8.1.2.2.2.1, j8.1.2.2.2.1, (j8.1.2.2.2.1.length : Int), 0, ())).bind fun x24 =>
                match x24 with
                | .inl l21 =>
                  bif l21.2.2.2.2.2.1 then
                    some (l21.1, (!(decide ((-1) ≥ 0))), ())
                  else
                    some (l21.1, false, ())
                | .inr l22 =>
                  bif l22.2.2.2.2.2.1 then
                    some (l22.1, (!(decide (l22.2.2.2.2.2.2.2.2.2.2.1 ≥ 0))), ())
                  else
                    some (l22.1, false, ())
            else
              some (j8.1, false, ()) : Option ((PV Y_impl_Order × PV .bool × Unit)))).bind fun j23 =>
        bif (j23.1.1 == 1) then
          bif j23.2.1 then
            some (((j23.1.2.2.1 == j23.1.2.1), ()), ())
          else
            some ((false, ()), ())
        else
          bif (j23.1.1 == 2) then
            bif j23.2.1 then
              bif (j23.1.2.2.1 == j23.1.2.1) then
                some (((decide (j23.1.2.1 ≥ 1)), ()), ())
              else
                some ((false, ()), ())
            else
              some ((false, ()), ())
          else
            bif (j23.1.1 == 3) then
              bif j23.2.1 then
                some (((decide (j23.1.2.1 ≥ 1)), ()), ())
              else
                some ((false, ()), ())
            else
              bif (j23.1.1 == 4) then
                bif ((j23.1.2.2.2.1.length : Int) == 0) then
                  some (((decide (j23.1.2.1 ≥ 1)), ()), ())
                else
                  some ((false, ()), ())
              else
                bif (j23.1.1 == 5) then
                  bif ((j23.1.2.2.2.1.length : Int) == 0) then
                    bif (decide (j23.1.2.1 ≥ 1)) then
                      some (((j23.1.2.2.1 == j23.1.2.1), ()), ())
                    else
                      some ((false, ()), ())
                  else
                    some ((false, ()), ())
                else
                  some ((false, ()), ())
noncomputable def ct_I_goodOrder : Ct := ⟨[(.bor, Y_impl_Order)], [(.bool, false)], fun x => f_I_goodOrder x.1⟩
noncomputable def cx_I_goodOrder : Cx := ⟨tab, arrs, [(101, ct_I_in), (149, ct_I_goodOrder_1)], [(148, Try.f148, pl_I_goodOrder_148), (169, Try.f169, pl_I_goodOrder_169)]⟩
theorem eb_I_goodOrder_169_2 (t1 : PV Y_impl_Order) (t15 : PV .bool) (t17 : PV S_string) (t18 : PV (.int .i64)) (t19 : PV .bool) (t20 : PV .bool) (t22 : PV S_string) (t90 : PV S_string) (t94 : PV .bool) (t95 : PV S_string) (t99 : PV S_string) (t106 : PV (.int .i64)) (t107 : PV (.int .i64)) : denK cx_I_goodOrder (rcN cx_I_goodOrder 0) pl_I_goodOrder_169 99 ((loopsOf (bodyOf Try.f169)).getD 0 .skip) (fillS sh_I_goodOrder_169_2 (t1, t15, t17, t18, t19, t20, t22, t90, t94, t95, t99, t106, t107, ())) (roundK 99 lp_I_goodOrder_169_2) = b_I_goodOrder_169_2 t1 t15 t17 t18 t19 t20 t22 t90 t94 t95 t99 t106 t107 := by kernel_rfl
theorem ef_I_goodOrder (t0 : PV Y_impl_Order) : denF cx_I_goodOrder 2 pl_I_goodOrder Try.f114.ntmps (bodyOf Try.f114) Try.f114.results.toList [(.bor, Y_impl_Order)] [(.bool, false)] (t0, ()) = f_I_goodOrder t0 := by kernel_rfl
theorem ok_I_goodOrder : FnOk Try.prog 114 ct_I_goodOrder :=
  fnOk (cx := cx_I_goodOrder) (pl := pl_I_goodOrder) (dp := 2) (ok0_of tabOk (by unfold ArrOk; kernel_rfl) mix ⟨ok_I_in, ok_I_goodOrder_1, trivial⟩ ⟨⟨Try.func148, by kernel_rfl, (by rw [show loopsOf (bodyOf Try.f148) = [] from by kernel_rfl]; exact trivial)⟩, ⟨Try.func169, by kernel_rfl, (by rw [show loopsOf (bodyOf Try.f169) = [((loopsOf (bodyOf Try.f169)).getD 0 .skip)] from by kernel_rfl]; exact ⟨(by rw [show lookup pl_I_goodOrder_169.loops (firstId ((loopsOf (bodyOf Try.f169)).getD 0 .skip)) = some lp_I_goodOrder_169_2 from by kernel_rfl]; exact fun d z h => (eb_I_goodOrder_169_2 d.1 d.2.1 d.2.2.1 d.2.2.2.1 d.2.2.2.2.1 d.2.2.2.2.2.1 d.2.2.2.2.2.2.1 d.2.2.2.2.2.2.2.1 d.2.2.2.2.2.2.2.2.1 d.2.2.2.2.2.2.2.2.2.1 d.2.2.2.2.2.2.2.2.2.2.1 d.2.2.2.2.2.2.2.2.2.2.2.1 d.2.2.2.2.2.2.2.2.2.2.2.2.1).trans h), trivial⟩)⟩, trivial⟩) Try.func114 (by kernel_rfl) (by kernel_rfl) (by kernel_rfl)
    (by rw [show loopsOf (bodyOf Try.f114) = [] from by kernel_rfl]; exact trivial) (fun x => ef_I_goodOrder x.1)
noncomputable def pl_I_goodOrders_1 : Plan := ⟨[], [], 0, 0⟩
noncomputable def f_I_goodOrders_1 (t0 : PV Y_impl_Order) : Option (PVs [.bool] × PVs []) :=
  (f_I_goodOrder t0).bind fun r1 =>
    some (((!r1.1.1), ()), ())
noncomputable def ct_I_goodOrders_1 : Ct := ⟨[(.bor, Y_impl_Order)], [(.bool, false)], fun x => f_I_goodOrders_1 x.1⟩
noncomputable def cx_I_goodOrders_1 : Cx := ⟨tab, arrs, [(114, ct_I_goodOrder)], []⟩
theorem ef_I_goodOrders_1 (t0 : PV Y_impl_Order) : denF cx_I_goodOrders_1 0 pl_I_goodOrders_1 Try.f113.ntmps (bodyOf Try.f113) Try.f113.results.toList [(.bor, Y_impl_Order)] [(.bool, false)] (t0, ()) = f_I_goodOrders_1 t0 := by kernel_rfl
theorem ok_I_goodOrders_1 : FnOk Try.prog 113 ct_I_goodOrders_1 :=
  fnOk (cx := cx_I_goodOrders_1) (pl := pl_I_goodOrders_1) (dp := 0) (ok0_of tabOk (by unfold ArrOk; kernel_rfl) mix ⟨ok_I_goodOrder, trivial⟩ trivial) Try.func113 (by kernel_rfl) (by kernel_rfl) (by kernel_rfl)
    (by rw [show loopsOf (bodyOf Try.f113) = [] from by kernel_rfl]; exact trivial) (fun x => ef_I_goodOrders_1 x.1)
noncomputable def pl_I_goodOrders_112 : Plan := ⟨[], [], 1, 11⟩
noncomputable def sh_I_goodOrders_147_2 : List Sh := mkSh 39 [(0, .val S_impl_Order .b), (2, .val .bool .b), (3, .val S_impl_Order .b), (4, .val (.int .i64) .b), (5, .val .bool .b), (6, .val .bool .b), (7, .val S_impl_Order .b), (11, .val S_impl_Order .b), (12, .fn 113 []), (15, .val .bool .b), (16, .val S_impl_Order .b), (17, .fn 113 []), (20, .val S_impl_Order .b), (21, .fn 113 []), (27, .val (.int .i64) .b), (28, .val (.int .i64) .b)]
noncomputable def o_I_goodOrders_147_2 : List Out := [⟨.exit 0, ⟨[], []⟩, mkSh 39 [(0, .val S_impl_Order .b), (2, .val .bool .b), (3, .val S_impl_Order .b), (4, .val (.int .i64) .b), (5, .val .bool .b), (6, .val .bool .b), (7, .val S_impl_Order .b), (11, .val S_impl_Order .b), (12, .fn 113 []), (15, .val .bool .b), (16, .val S_impl_Order .b), (17, .fn 113 [])]⟩, ⟨.ret, ⟨[], [4]⟩, mkSh 39 [(0, .val S_impl_Order .b), (2, .val .bool .b), (3, .val S_impl_Order .b), (4, .val (.int .i64) .b), (5, .val .bool .b), (6, .val .bool .b), (7, .val S_impl_Order .b), (11, .val S_impl_Order .b), (12, .fn 113 []), (15, .val .bool .b), (16, .val S_impl_Order .b), (17, .fn 113 []), (24, .val (.int .i64) .b)]⟩]
noncomputable def b_I_goodOrders_147_2 (t0 : PV S_impl_Order) (t2 : PV .bool) (t3 : PV S_impl_Order) (t4 : PV (.int .i64)) (t5 : PV .bool) (t6 : PV .bool) (t7 : PV S_impl_Order) (t11 : PV S_impl_Order) (t15 : PV .bool) (t16 : PV S_impl_Order) (t20 : PV S_impl_Order) (t27 : PV (.int .i64)) (t28 : PV (.int .i64)) : Option ((PV S_impl_Order × PV .bool × PV S_impl_Order × PV (.int .i64) × PV .bool × PV .bool × PV S_impl_Order × PV S_impl_Order × PV .bool × PV S_impl_Order × PV S_impl_Order × PV (.int .i64) × PV (.int .i64) × Unit) ⊕ ((PV S_impl_Order × PV .bool × PV S_impl_Order × PV (.int .i64) × PV .bool × PV .bool × PV S_impl_Order × PV S_impl_Order × PV .bool × PV S_impl_Order × Unit) ⊕ (PV S_impl_Order × PV .bool × PV S_impl_Order × PV (.int .i64) × PV .bool × PV .bool × PV S_impl_Order × PV S_impl_Order × PV .bool × PV S_impl_Order × PV (.int .i64) × Unit))) :=
  bif (decide (t28 < t27)) then
    bif inB t28 t20.length then
      (f_I_goodOrders_1 (t20.getD t28.toNat (dflt Y_impl_Order))).bind fun r4 =>
        bif r4.1.1 then
          some (.inr (.inr (t0, t2, t3, t4, t5, t6, t7, t11, t15, t16, t28, ())))
        else
          some (.inl (t0, t2, t3, t4, t5, t6, t7, t11, t15, t16, t20, t27, (IntKind.wrap .i64 (t28 + 1)), ()))
    else
      none
  else
    some (.inr (.inl (t0, t2, t3, t4, t5, t6, t7, t11, t15, t16, ())))
noncomputable def w_I_goodOrders_147_2 : PV S_impl_Order × PV .bool × PV S_impl_Order × PV (.int .i64) × PV .bool × PV .bool × PV S_impl_Order × PV S_impl_Order × PV .bool × PV S_impl_Order × PV S_impl_Order × PV (.int .i64) × PV (.int .i64) × Unit → Option ((PV S_impl_Order × PV .bool × PV S_impl_Order × PV (.int .i64) × PV .bool × PV .bool × PV S_impl_Order × PV S_impl_Order × PV .bool × PV S_impl_Order × Unit) ⊕ (PV S_impl_Order × PV .bool × PV S_impl_Order × PV (.int .i64) × PV .bool × PV .bool × PV S_impl_Order × PV S_impl_Order × PV .bool × PV S_impl_Order × PV (.int .i64) × Unit)) := fix fun d => b_I_goodOrders_147_2 d.1 d.2.1 d.2.2.1 d.2.2.2.1 d.2.2.2.2.1 d.2.2.2.2.2.1 d.2.2.2.2.2.2.1 d.2.2.2.2.2.2.2.1 d.2.2.2.2.2.2.2.2.1 d.2.2.2.2.2.2.2.2.2.1 d.2.2.2.2.2.2.2.2.2.2.1 d.2.2.2.2.2.2.2.2.2.2.2.1 d.2.2.2.2.2.2.2.2.2.2.2.2.1
noncomputable def lp_I_goodOrders_147_2 : Lp := ⟨⟨[], [0, 1, 7, 8]⟩, sh_I_goodOrders_147_2, o_I_goodOrders_147_2, fun d => b_I_goodOrders_147_2 d.1 d.2.1 d.2.2.1 d.2.2.2.1 d.2.2.2.2.1 d.2.2.2.2.2.1 d.2.2.2.2.2.2.1 d.2.2.2.2.2.2.2.1 d.2.2.2.2.2.2.2.2.1 d.2.2.2.2.2.2.2.2.2.1 d.2.2.2.2.2.2.2.2.2.2.1 d.2.2.2.2.2.2.2.2.2.2.2.1 d.2.2.2.2.2.2.2.2.2.2.2.2.1⟩
noncomputable def pl_I_goodOrders_147 : Plan := ⟨[], [(2, lp_I_goodOrders_147_2)], 0, 20⟩
noncomputable def pl_I_goodOrders : Plan := ⟨[], [], 2, 0⟩
noncomputable def f_I_goodOrders (t0 : PV S_impl_Order) : Option (PVs [.bool] × PVs []) :=
  bif (decide ((t0.length : Int) ≤ 60)) then
    (w_I_goodOrders_147_2 (t0, false, t0, (t0.length : Int), (decide ((t0.length : Int) ≤ 60)), true, t0, t0, false, t0, t0, (t0.length : Int), 0, ())).bind fun x9 =>
      match x9 with
      | .inl l7 =>
        bif l7.2.2.2.2.2.1 then
          some (((!(decide ((-1) ≥ 0))), ()), ())
        else
          some ((false, ()), ())
      | .inr l8 =>
        bif l8.2.2.2.2.2.1 then
          some (((!(decide (l8.2.2.2.2.2.2.2.2.2.2.1 ≥ 0))), ()), ())
        else
          some ((false, ()), ())
  else
    some ((false, ()), ())
noncomputable def ct_I_goodOrders : Ct := ⟨[(.bor, S_impl_Order)], [(.bool, false)], fun x => f_I_goodOrders x.1⟩
noncomputable def cx_I_goodOrders : Cx := ⟨tab, arrs, [(113, ct_I_goodOrders_1)], [(112, Try.f112, pl_I_goodOrders_112), (147, Try.f147, pl_I_goodOrders_147)]⟩
theorem eb_I_goodOrders_147_2 (t0 : PV S_impl_Order) (t2 : PV .bool) (t3 : PV S_impl_Order) (t4 : PV (.int .i64)) (t5 : PV .bool) (t6 : PV .bool) (t7 : PV S_impl_Order) (t11 : PV S_impl_Order) (t15 : PV .bool) (t16 : PV S_impl_Order) (t20 : PV S_impl_Order) (t27 : PV (.int .i64)) (t28 : PV (.int .i64)) : denK cx_I_goodOrders (rcN cx_I_goodOrders 0) pl_I_goodOrders_147 20 ((loopsOf (bodyOf Try.f147)).getD 0 .skip) (fillS sh_I_goodOrders_147_2 (t0, t2, t3, t4, t5, t6, t7, t11, t15, t16, t20, t27, t28, ())) (roundK 20 lp_I_goodOrders_147_2) = b_I_goodOrders_147_2 t0 t2 t3 t4 t5 t6 t7 t11 t15 t16 t20 t27 t28 := by kernel_rfl
theorem ef_I_goodOrders (t0 : PV S_impl_Order) : denF cx_I_goodOrders 2 pl_I_goodOrders Try.f79.ntmps (bodyOf Try.f79) Try.f79.results.toList [(.bor, S_impl_Order)] [(.bool, false)] (t0, ()) = f_I_goodOrders t0 := by kernel_rfl
theorem ok_I_goodOrders : FnOk Try.prog 79 ct_I_goodOrders :=
  fnOk (cx := cx_I_goodOrders) (pl := pl_I_goodOrders) (dp := 2) (ok0_of tabOk (by unfold ArrOk; kernel_rfl) mix ⟨ok_I_goodOrders_1, trivial⟩ ⟨⟨Try.func112, by kernel_rfl, (by rw [show loopsOf (bodyOf Try.f112) = [] from by kernel_rfl]; exact trivial)⟩, ⟨Try.func147, by kernel_rfl, (by rw [show loopsOf (bodyOf Try.f147) = [((loopsOf (bodyOf Try.f147)).getD 0 .skip)] from by kernel_rfl]; exact ⟨(by rw [show lookup pl_I_goodOrders_147.loops (firstId ((loopsOf (bodyOf Try.f147)).getD 0 .skip)) = some lp_I_goodOrders_147_2 from by kernel_rfl]; exact fun d z h => (eb_I_goodOrders_147_2 d.1 d.2.1 d.2.2.1 d.2.2.2.1 d.2.2.2.2.1 d.2.2.2.2.2.1 d.2.2.2.2.2.2.1 d.2.2.2.2.2.2.2.1 d.2.2.2.2.2.2.2.2.1 d.2.2.2.2.2.2.2.2.2.1 d.2.2.2.2.2.2.2.2.2.2.1 d.2.2.2.2.2.2.2.2.2.2.2.1 d.2.2.2.2.2.2.2.2.2.2.2.2.1).trans h), trivial⟩)⟩, trivial⟩) Try.func79 (by kernel_rfl) (by kernel_rfl) (by kernel_rfl)
    (by rw [show loopsOf (bodyOf Try.f79) = [] from by kernel_rfl]; exact trivial) (fun x => ef_I_goodOrders x.1)
noncomputable def pl_I_GoodOrders : Plan := ⟨[], [], 0, 0⟩
noncomputable def f_I_GoodOrders (t0 : PV S_impl_Order) : Option (PVs [.bool] × PVs []) :=
  (f_I_goodOrders t0).bind fun r1 =>
    some ((r1.1.1, ()), ())
noncomputable def ct_I_GoodOrders : Ct := ⟨[(.bor, S_impl_Order)], [(.bool, false)], fun x => f_I_GoodOrders x.1⟩
noncomputable def cx_I_GoodOrders : Cx := ⟨tab, arrs, [(79, ct_I_goodOrders)], []⟩
theorem ef_I_GoodOrders (t0 : PV S_impl_Order) : denF cx_I_GoodOrders 0 pl_I_GoodOrders Try.f27.ntmps (bodyOf Try.f27) Try.f27.results.toList [(.bor, S_impl_Order)] [(.bool, false)] (t0, ()) = f_I_GoodOrders t0 := by kernel_rfl
theorem ok_I_GoodOrders : FnOk Try.prog 27 ct_I_GoodOrders :=
  fnOk (cx := cx_I_GoodOrders) (pl := pl_I_GoodOrders) (dp := 0) (ok0_of tabOk (by unfold ArrOk; kernel_rfl) mix ⟨ok_I_goodOrders, trivial⟩ trivial) Try.func27 (by kernel_rfl) (by kernel_rfl) (by kernel_rfl)
    (by rw [show loopsOf (bodyOf Try.f27) = [] from by kernel_rfl]; exact trivial) (fun x => ef_I_GoodOrders x.1)
noncomputable def pl_L_eqOrder : Plan := ⟨[], [], 0, 0⟩
noncomputable def f_L_eqOrder (t0 : PV Y_impl_Order) (t1 : PV Y_impl_Order) : Option (PVs [.bool] × PVs []) :=
  bif (!(t0.1 == t1.1)) then
    some ((false, ()), ())
  else
    bif (!(t0.2.1 == t1.2.1)) then
      some ((false, ()), ())
    else
      bif (!(t0.2.2.1 == t1.2.2.1)) then
        some ((false, ()), ())
      else
        (f_L_eqStringS t0.2.2.2.1 t1.2.2.2.1).bind fun r4 =>
          bif (!r4.1.1) then
            some ((false, ()), ())
          else
            some ((true, ()), ())
noncomputable def ct_L_eqOrder : Ct := ⟨[(.bor, Y_impl_Order), (.bor, Y_impl_Order)], [(.bool, false)], fun x => f_L_eqOrder x.1 x.2.1⟩
noncomputable def cx_L_eqOrder : Cx := ⟨tab, arrs, [(33, ct_L_eqStringS)], []⟩
theorem ef_L_eqOrder (t0 : PV Y_impl_Order) (t1 : PV Y_impl_Order) : denF cx_L_eqOrder 0 pl_L_eqOrder Try.f80.ntmps (bodyOf Try.f80) Try.f80.results.toList [(.bor, Y_impl_Order), (.bor, Y_impl_Order)] [(.bool, false)] (t0, t1, ()) = f_L_eqOrder t0 t1 := by kernel_rfl
theorem ok_L_eqOrder : FnOk Try.prog 80 ct_L_eqOrder :=
  fnOk (cx := cx_L_eqOrder) (pl := pl_L_eqOrder) (dp := 0) (ok0_of tabOk (by unfold ArrOk; kernel_rfl) mix ⟨ok_L_eqStringS, trivial⟩ trivial) Try.func80 (by kernel_rfl) (by kernel_rfl) (by kernel_rfl)
    (by rw [show loopsOf (bodyOf Try.f80) = [] from by kernel_rfl]; exact trivial) (fun x => ef_L_eqOrder x.1 x.2.1)
noncomputable def sh_L_eqOrderS_4 : List Sh := mkSh 27 [(0, .val S_impl_Order .b), (1, .val S_impl_Order .b), (5, .val (.int .i64) .b)]
noncomputable def o_L_eqOrderS_4 : List Out := [⟨.exit 0, ⟨[], []⟩, mkSh 27 []⟩, ⟨.ret, ⟨[], [4]⟩, mkSh 27 [(4, .val .bool .b)]⟩]
noncomputable def b_L_eqOrderS_4 (t0 : PV S_impl_Order) (t1 : PV S_impl_Order) (t5 : PV (.int .i64)) : Option ((PV S_impl_Order × PV S_impl_Order × PV (.int .i64) × Unit) ⊕ ((Unit) ⊕ (PV .bool × Unit))) :=
  bif (decide (t5 < (t0.length : Int))) then
    bif inB t5 t0.length then
      bif inB t5 t1.length then
        (f_L_eqOrder (t0.getD t5.toNat (dflt Y_impl_Order)) (t1.getD t5.toNat (dflt Y_impl_Order))).bind fun r4 =>
          bif (!r4.1.1) then
            some (.inr (.inr (false, ())))
          else
            some (.inl (t0, t1, (IntKind.wrap .i64 (t5 + 1)), ()))
      else
        none
    else
      none
  else
    some (.inr (.inl ()))
noncomputable def w_L_eqOrderS_4 : PV S_impl_Order × PV S_impl_Order × PV (.int .i64) × Unit → Option ((Unit) ⊕ (PV .bool × Unit)) := fix fun d => b_L_eqOrderS_4 d.1 d.2.1 d.2.2.1
noncomputable def lp_L_eqOrderS_4 : Lp := ⟨⟨[], [0, 1, 5]⟩, sh_L_eqOrderS_4, o_L_eqOrderS_4, fun d => b_L_eqOrderS_4 d.1 d.2.1 d.2.2.1⟩
noncomputable def pl_L_eqOrderS : Plan := ⟨[], [(4, lp_L_eqOrderS_4)], 0, 0⟩
noncomputable def f_L_eqOrderS (t0 : PV S_impl_Order) (t1 : PV S_impl_Order) : Option (PVs [.bool] × PVs []) :=
  bif (!((t0.length : Int) == (t1.length : Int))) then
    some ((false, ()), ())
  else
    (w_L_eqOrderS_4 (t0, t1, 0, ())).bind fun x9 =>
      match x9 with
      | .inl l7 =>
        some ((true, ()), ())
      | .inr l8 =>
        some ((l8.1, ()), ())
noncomputable def ct_L_eqOrderS : Ct := ⟨[(.bor, S_impl_Order), (.bor, S_impl_Order)], [(.bool, false)], fun x => f_L_eqOrderS x.1 x.2.1⟩
noncomputable def cx_L_eqOrderS : Cx := ⟨tab, arrs, [(80, ct_L_eqOrder)], []⟩
theorem eb_L_eqOrderS_4 (t0 : PV S_impl_Order) (t1 : PV S_impl_Order) (t5 : PV (.int .i64)) : denK cx_L_eqOrderS (rcN cx_L_eqOrderS 0) pl_L_eqOrderS 0 ((loopsOf (bodyOf Try.f28)).getD 0 .skip) (fillS sh_L_eqOrderS_4 (t0, t1, t5, ())) (roundK 0 lp_L_eqOrderS_4) = b_L_eqOrderS_4 t0 t1 t5 := by kernel_rfl
theorem ef_L_eqOrderS (t0 : PV S_impl_Order) (t1 : PV S_impl_Order) : denF cx_L_eqOrderS 0 pl_L_eqOrderS Try.f28.ntmps (bodyOf Try.f28) Try.f28.results.toList [(.bor, S_impl_Order), (.bor, S_impl_Order)] [(.bool, false)] (t0, t1, ()) = f_L_eqOrderS t0 t1 := by kernel_rfl
theorem ok_L_eqOrderS : FnOk Try.prog 28 ct_L_eqOrderS :=
  fnOk (cx := cx_L_eqOrderS) (pl := pl_L_eqOrderS) (dp := 0) (ok0_of tabOk (by unfold ArrOk; kernel_rfl) mix ⟨ok_L_eqOrder, trivial⟩ trivial) Try.func28 (by kernel_rfl) (by kernel_rfl) (by kernel_rfl)
    (by rw [show loopsOf (bodyOf Try.f28) = [((loopsOf (bodyOf Try.f28)).getD 0 .skip)] from by kernel_rfl]; exact ⟨(by rw [show lookup pl_L_eqOrderS.loops (firstId ((loopsOf (bodyOf Try.f28)).getD 0 .skip)) = some lp_L_eqOrderS_4 from by kernel_rfl]; exact fun d z h => (eb_L_eqOrderS_4 d.1 d.2.1 d.2.2.1).trans h), trivial⟩) (fun x => ef_L_eqOrderS x.1 x.2.1)
noncomputable def pl_L_FnExactGoodOrders : Plan := ⟨[], [], 0, 0⟩
noncomputable def f_L_FnExactGoodOrders (t0 : PV S_laws_Order) : Option (PVs [.bool] × PVs []) :=
  (f_L_szOrderS t0 1048576).bind fun r2 =>
    bif (decide (r2.1.1 < 0)) then
      some ((true, ()), ())
    else
      (f_L_toOrderS t0).bind fun r5 =>
        (f_S_GoodOrders r5.1.1).bind fun r6 =>
          (f_L_toOrderS t0).bind fun r8 =>
            (f_I_GoodOrders r8.1.1).bind fun r10 =>
              bif (!(r10.1.1 == r6.1.1)) then
                some ((false, ()), ())
              else
                (f_L_toOrderS t0).bind fun r17 =>
                  (f_L_eqOrderS r8.1.1 r17.1.1).bind fun r18 =>
                    bif (!r18.1.1) then
                      some ((false, ()), ())
                    else
                      some ((true, ()), ())
noncomputable def ct_L_FnExactGoodOrders : Ct := ⟨[(.bor, S_laws_Order)], [(.bool, false)], fun x => f_L_FnExactGoodOrders x.1⟩
noncomputable def cx_L_FnExactGoodOrders : Cx := ⟨tab, arrs, [(24, ct_L_szOrderS), (25, ct_S_GoodOrders), (26, ct_L_toOrderS), (27, ct_I_GoodOrders), (28, ct_L_eqOrderS)], []⟩
theorem ef_L_FnExactGoodOrders (t0 : PV S_laws_Order) : denF cx_L_FnExactGoodOrders 0 pl_L_FnExactGoodOrders Try.f5.ntmps (bodyOf Try.f5) Try.f5.results.toList [(.bor, S_laws_Order)] [(.bool, false)] (t0, ()) = f_L_FnExactGoodOrders t0 := by kernel_rfl
theorem ok_L_FnExactGoodOrders : FnOk Try.prog 5 ct_L_FnExactGoodOrders :=
  fnOk (cx := cx_L_FnExactGoodOrders) (pl := pl_L_FnExactGoodOrders) (dp := 0) (ok0_of tabOk (by unfold ArrOk; kernel_rfl) mix ⟨ok_L_szOrderS, ok_S_GoodOrders, ok_L_toOrderS, ok_I_GoodOrders, ok_L_eqOrderS, trivial⟩ trivial) Try.func5 (by kernel_rfl) (by kernel_rfl) (by kernel_rfl)
    (by rw [show loopsOf (bodyOf Try.f5) = [] from by kernel_rfl]; exact trivial) (fun x => ef_L_FnExactGoodOrders x.1)
noncomputable def pl_S_l1OwnT : Plan := ⟨[], [], 0, 0⟩
noncomputable def f_S_l1OwnT (t0 : PV S_string) : Option (PVs [S_string] × PVs []) :=
  bif roomB (([] : PV S_string).length + t0.length) then
    some (((([] : PV S_string) ++ t0), ()), ())
  else
    none
noncomputable def ct_S_l1OwnT : Ct := ⟨[(.bor, S_string)], [(S_string, true)], fun x => f_S_l1OwnT x.1⟩
noncomputable def cx_S_l1OwnT : Cx := ⟨tab, arrs, [], []⟩
theorem ef_S_l1OwnT (t0 : PV S_string) : denF cx_S_l1OwnT 0 pl_S_l1OwnT Try.f74.ntmps (bodyOf Try.f74) Try.f74.results.toList [(.bor, S_string)] [(S_string, true)] (t0, ()) = f_S_l1OwnT t0 := by kernel_rfl
theorem ok_S_l1OwnT : FnOk Try.prog 74 ct_S_l1OwnT :=
  fnOk (cx := cx_S_l1OwnT) (pl := pl_S_l1OwnT) (dp := 0) (ok0_of tabOk (by unfold ArrOk; kernel_rfl) mix trivial trivial) Try.func74 (by kernel_rfl) (by kernel_rfl) (by kernel_rfl)
    (by rw [show loopsOf (bodyOf Try.f74) = [] from by kernel_rfl]; exact trivial) (fun x => ef_S_l1OwnT x.1)
noncomputable def o_S_SwapSides_13 : List Out := [⟨.normal, ⟨[], [4, 7, 11, 12, 13]⟩, mkSh 44 [(4, .val S_impl_Part (.row (.pr .b (.pr .b (.pr .b (.pr (.row .b) (.pr (.row .b) .b))))))), (7, .var Y_impl_Part (.pr .b (.pr .b (.pr .b (.pr (.row .b) (.pr (.row .b) .b)))))), (11, .val S_impl_Part .b), (12, .val (.int .i64) .b), (13, .val (.int .i64) .b)]⟩]
noncomputable def sh_S_SwapSides_5 : List Sh := mkSh 44 [(4, .val S_impl_Part (.row (.pr .b (.pr .b (.pr .b (.pr (.row .b) (.pr (.row .b) .b))))))), (11, .val S_impl_Part .b), (12, .val (.int .i64) .b), (13, .val (.int .i64) .b)]
noncomputable def o_S_SwapSides_5 : List Out := [⟨.exit 0, ⟨[], [4]⟩, mkSh 44 [(4, .val S_impl_Part (.row (.pr .b (.pr .b (.pr .b (.pr (.row .b) (.pr (.row .b) .b)))))))]⟩]
noncomputable def b_S_SwapSides_5 (t4 : PV S_impl_Part) (t11 : PV S_impl_Part) (t12 : PV (.int .i64)) (t13 : PV (.int .i64)) : Option ((PV S_impl_Part × PV S_impl_Part × PV (.int .i64) × PV (.int .i64) × Unit) ⊕ ((PV S_impl_Part × Unit))) :=
  bif (decide (t13 < t12)) then
    bif inB t13 t11.length then
      (f_S_l1OwnT ((((((t11.getD t13.toNat (dflt Y_impl_Part)).2).2).2).2).1)).bind fun r12 =>
        (f_S_l1OwnT (((((t11.getD t13.toNat (dflt Y_impl_Part)).2).2).2).1)).bind fun r13 =>
          ((
              bif (((t11.getD t13.toNat (dflt Y_impl_Part)).1) == 2) then
                some (t4, (3, (((t11.getD t13.toNat (dflt Y_impl_Part)).2).1, ((((t11.getD t13.toNat (dflt Y_impl_Part)).2).2).1, (r12.1.1, (r13.1.1, ()))))), t11, t12, t13, ())
              else
                bif (((t11.getD t13.toNat (dflt Y_impl_Part)).1) == 3) then
                  some (t4, (2, (((t11.getD t13.toNat (dflt Y_impl_Part)).2).1, ((((t11.getD t13.toNat (dflt Y_impl_Part)).2).2).1, (r12.1.1, (r13.1.1, ()))))), t11, t12, t13, ())
                else
                  some (t4, ((t11.getD t13.toNat (dflt Y_impl_Part)).1, (((t11.getD t13.toNat (dflt Y_impl_Part)).2).1, ((((t11.getD t13.toNat (dflt Y_impl_Part)).2).2).1, (r12.1.1, (r13.1.1, ()))))), t11, t12, t13, ()) : Option ((PV S_impl_Part × PV Y_impl_Part × PV S_impl_Part × PV (.int .i64) × PV (.int .i64) × Unit)))).bind fun j14 =>
            bif roomB (j14.1.length + [j14.2.1].length) then
              some (.inl ((j14.1 ++ [j14.2.1]), j14.2.2.1, j14.2.2.2.1, (IntKind.wrap .i64 (j14.2.2.2.2.1 + 1)), ()))
            else
              none
    else
      none
  else
    some (.inr (t4, ()))
noncomputable def w_S_SwapSides_5 : PV S_impl_Part × PV S_impl_Part × PV (.int .i64) × PV (.int .i64) × Unit → Option ((PV S_impl_Part × Unit)) := fix fun d => b_S_SwapSides_5 d.1 d.2.1 d.2.2.1 d.2.2.2.1
noncomputable def lp_S_SwapSides_5 : Lp := ⟨⟨[], [4, 11, 12, 13]⟩, sh_S_SwapSides_5, o_S_SwapSides_5, fun d => b_S_SwapSides_5 d.1 d.2.1 d.2.2.1 d.2.2.2.1⟩
noncomputable def pl_S_SwapSides : Plan := ⟨[(13, o_S_SwapSides_13)], [(5, lp_S_SwapSides_5)], 0, 0⟩
noncomputable def f_S_SwapSides (t0 : PV S_impl_Part) : Option (PVs [S_impl_Part, .bool] × PVs []) :=
  (f_S_l11Few t0).bind fun r4 =>
    bif (!r4.1.1) then
      some (([], false, ()), ())
    else
      (w_S_SwapSides_5 ([], t0, (t0.length : Int), 0, ())).bind fun l16 =>
        some ((l16.1, true, ()), ())
noncomputable def ct_S_SwapSides : Ct := ⟨[(.bor, S_impl_Part)], [(S_impl_Part, true), (.bool, false)], fun x => f_S_SwapSides x.1⟩
noncomputable def cx_S_SwapSides : Cx := ⟨tab, arrs, [(69, ct_S_l11Few), (74, ct_S_l1OwnT)], []⟩
theorem eb_S_SwapSides_5 (t4 : PV S_impl_Part) (t11 : PV S_impl_Part) (t12 : PV (.int .i64)) (t13 : PV (.int .i64)) : denK cx_S_SwapSides (rcN cx_S_SwapSides 0) pl_S_SwapSides 0 ((loopsOf (bodyOf Try.f20)).getD 0 .skip) (fillS sh_S_SwapSides_5 (t4, t11, t12, t13, ())) (roundK 0 lp_S_SwapSides_5) = b_S_SwapSides_5 t4 t11 t12 t13 := by kernel_rfl
theorem ef_S_SwapSides (t0 : PV S_impl_Part) : denF cx_S_SwapSides 0 pl_S_SwapSides Try.f20.ntmps (bodyOf Try.f20) Try.f20.results.toList [(.bor, S_impl_Part)] [(S_impl_Part, true), (.bool, false)] (t0, ()) = f_S_SwapSides t0 := by kernel_rfl
theorem ok_S_SwapSides : FnOk Try.prog 20 ct_S_SwapSides :=
  fnOk (cx := cx_S_SwapSides) (pl := pl_S_SwapSides) (dp := 0) (ok0_of tabOk (by unfold ArrOk; kernel_rfl) mix ⟨ok_S_l11Few, ok_S_l1OwnT, trivial⟩ trivial) Try.func20 (by kernel_rfl) (by kernel_rfl) (by kernel_rfl)
    (by rw [show loopsOf (bodyOf Try.f20) = [((loopsOf (bodyOf Try.f20)).getD 0 .skip)] from by kernel_rfl]; exact ⟨(by rw [show lookup pl_S_SwapSides.loops (firstId ((loopsOf (bodyOf Try.f20)).getD 0 .skip)) = some lp_S_SwapSides_5 from by kernel_rfl]; exact fun d z h => (eb_S_SwapSides_5 d.1 d.2.1 d.2.2.1 d.2.2.2.1).trans h), trivial⟩) (fun x => ef_S_SwapSides x.1)
noncomputable def o_I_SwapSides_12 : List Out := [⟨.normal, ⟨[(6, .b)], [4, 6, 11, 12, 13]⟩, mkSh 39 [(4, .val S_impl_Part (.row (.pr .b (.pr .b (.pr .b (.pr (.row .b) (.pr (.row .b) .b))))))), (6, .var Y_impl_Part .b), (11, .val S_impl_Part .b), (12, .val (.int .i64) .b), (13, .val (.int .i64) .b)]⟩]
noncomputable def sh_I_SwapSides_5 : List Sh := mkSh 39 [(4, .val S_impl_Part (.row (.pr .b (.pr .b (.pr .b (.pr (.row .b) (.pr (.row .b) .b))))))), (11, .val S_impl_Part .b), (12, .val (.int .i64) .b), (13, .val (.int .i64) .b)]
noncomputable def o_I_SwapSides_5 : List Out := [⟨.exit 0, ⟨[], [4]⟩, mkSh 39 [(4, .val S_impl_Part (.row (.pr .b (.pr .b (.pr .b (.pr (.row .b) (.pr (.row .b) .b)))))))]⟩]
noncomputable def b_I_SwapSides_5 (t4 : PV S_impl_Part) (t11 : PV S_impl_Part) (t12 : PV (.int .i64)) (t13 : PV (.int .i64)) : Option ((PV S_impl_Part × PV S_impl_Part × PV (.int .i64) × PV (.int .i64) × Unit) ⊕ ((PV S_impl_Part × Unit))) :=
  bif (decide (t13 < t12)) then
    bif inB t13 t11.length then
      ((
          bif (((t11.getD t13.toNat (dflt Y_impl_Part)).1) == 2) then
            some (t4, (3, (t11.getD t13.toNat (dflt Y_impl_Part)).2), t11, t12, t13, ())
          else
            bif (((t11.getD t13.toNat (dflt Y_impl_Part)).1) == 3) then
              some (t4, (2, (t11.getD t13.toNat (dflt Y_impl_Part)).2), t11, t12, t13, ())
            else
              some (t4, (t11.getD t13.toNat (dflt Y_impl_Part)), t11, t12, t13, ()) : Option ((PV S_impl_Part × PV Y_impl_Part × PV S_impl_Part × PV (.int .i64) × PV (.int .i64) × Unit)))).bind fun j10 =>
        (f_slices_Clone_string j10.2.1.2.2.2.2.1).bind fun r13 =>
          (f_slices_Clone_string j10.2.1.2.2.2.1).bind fun r14 =>
            bif roomB (j10.1.length + [(j10.2.1.1, (j10.2.1.2.1, (j10.2.1.2.2.1, (r13.1.1, (r14.1.1, j10.2.1.2.2.2.2.2)))))].length) then
              some (.inl ((j10.1 ++ [(j10.2.1.1, (j10.2.1.2.1, (j10.2.1.2.2.1, (r13.1.1, (r14.1.1, j10.2.1.2.2.2.2.2)))))]), j10.2.2.1, j10.2.2.2.1, (IntKind.wrap .i64 (j10.2.2.2.2.1 + 1)), ()))
            else
              none
    else
      none
  else
    some (.inr (t4, ()))
noncomputable def w_I_SwapSides_5 : PV S_impl_Part × PV S_impl_Part × PV (.int .i64) × PV (.int .i64) × Unit → Option ((PV S_impl_Part × Unit)) := fix fun d => b_I_SwapSides_5 d.1 d.2.1 d.2.2.1 d.2.2.2.1
noncomputable def lp_I_SwapSides_5 : Lp := ⟨⟨[], [4, 11, 12, 13]⟩, sh_I_SwapSides_5, o_I_SwapSides_5, fun d => b_I_SwapSides_5 d.1 d.2.1 d.2.2.1 d.2.2.2.1⟩
noncomputable def pl_I_SwapSides : Plan := ⟨[(12, o_I_SwapSides_12)], [(5, lp_I_SwapSides_5)], 0, 0⟩
noncomputable def f_I_SwapSides (t0 : PV S_impl_Part) : Option (PVs [S_impl_Part, .bool] × PVs []) :=
  (f_I_areParts t0).bind fun r4 =>
    bif (!r4.1.1) then
      some (([], false, ()), ())
    else
      (w_I_SwapSides_5 (([] : PV S_impl_Part), t0, (t0.length : Int), 0, ())).bind fun l16 =>
        some ((l16.1, true, ()), ())
noncomputable def ct_I_SwapSides : Ct := ⟨[(.bor, S_impl_Part)], [(S_impl_Part, true), (.bool, false)], fun x => f_I_SwapSides x.1⟩
noncomputable def cx_I_SwapSides : Cx := ⟨tab, arrs, [(71, ct_I_areParts), (75, ct_slices_Clone_string)], []⟩
theorem eb_I_SwapSides_5 (t4 : PV S_impl_Part) (t11 : PV S_impl_Part) (t12 : PV (.int .i64)) (t13 : PV (.int .i64)) : denK cx_I_SwapSides (rcN cx_I_SwapSides 0) pl_I_SwapSides 0 ((loopsOf (bodyOf Try.f21)).getD 0 .skip) (fillS sh_I_SwapSides_5 (t4, t11, t12, t13, ())) (roundK 0 lp_I_SwapSides_5) = b_I_SwapSides_5 t4 t11 t12 t13 := by kernel_rfl
theorem ef_I_SwapSides (t0 : PV S_impl_Part) : denF cx_I_SwapSides 0 pl_I_SwapSides Try.f21.ntmps (bodyOf Try.f21) Try.f21.results.toList [(.bor, S_impl_Part)] [(S_impl_Part, true), (.bool, false)] (t0, ()) = f_I_SwapSides t0 := by kernel_rfl
theorem ok_I_SwapSides : FnOk Try.prog 21 ct_I_SwapSides :=
  fnOk (cx := cx_I_SwapSides) (pl := pl_I_SwapSides) (dp := 0) (ok0_of tabOk (by unfold ArrOk; kernel_rfl) mix ⟨ok_I_areParts, ok_slices_Clone_string, trivial⟩ trivial) Try.func21 (by kernel_rfl) (by kernel_rfl) (by kernel_rfl)
    (by rw [show loopsOf (bodyOf Try.f21) = [((loopsOf (bodyOf Try.f21)).getD 0 .skip)] from by kernel_rfl]; exact ⟨(by rw [show lookup pl_I_SwapSides.loops (firstId ((loopsOf (bodyOf Try.f21)).getD 0 .skip)) = some lp_I_SwapSides_5 from by kernel_rfl]; exact fun d z h => (eb_I_SwapSides_5 d.1 d.2.1 d.2.2.1 d.2.2.2.1).trans h), trivial⟩) (fun x => ef_I_SwapSides x.1)
noncomputable def sh_L_markText_4 : List Sh := mkSh 20 [(0, .val (.int .i64) .b), (3, .val .str .b)]
noncomputable def o_L_markText_4 : List Out := [⟨.exit 0, ⟨[], [3]⟩, mkSh 20 [(3, .val .str .b)]⟩]
noncomputable def b_L_markText_4 (t0 : PV (.int .i64)) (t3 : PV .str) : Option ((PV (.int .i64) × PV .str × Unit) ⊕ ((PV .str × Unit))) :=
  bif (decide (t0 > 0)) then
    bif 10 == 0 then
      none
    else
      bif decide ((bytesOfInts [(IntKind.wrap .u8 (IntKind.wrap .i64 (48 + (t0.tmod 10))))]).length + t3.length ≤ 1099511627776) then
        bif 10 == 0 then
          none
        else
          some (.inl ((IntKind.wrap .i64 (t0.tdiv 10)), ((bytesOfInts [(IntKind.wrap .u8 (IntKind.wrap .i64 (48 + (t0.tmod 10))))]) ++ t3), ()))
      else
        none
  else
    some (.inr (t3, ()))
noncomputable def w_L_markText_4 : PV (.int .i64) × PV .str × Unit → Option ((PV .str × Unit)) := fix fun d => b_L_markText_4 d.1 d.2.1
noncomputable def lp_L_markText_4 : Lp := ⟨⟨[], [0, 3]⟩, sh_L_markText_4, o_L_markText_4, fun d => b_L_markText_4 d.1 d.2.1⟩
noncomputable def pl_L_markText : Plan := ⟨[], [(4, lp_L_markText_4)], 0, 0⟩
noncomputable def f_L_markText (t0 : PV (.int .i64)) : Option (PVs [.str] × PVs []) :=
  bif (decide (t0 ≤ 0)) then
    some (([109, 48], ()), ())
  else
    (w_L_markText_4 (t0, [], ())).bind fun l2 =>
      bif decide ([109].length + l2.1.length ≤ 1099511627776) then
        some ((([109] ++ l2.1), ()), ())
      else
        none
noncomputable def ct_L_markText : Ct := ⟨[(.bor, (.int .i64))], [(.str, false)], fun x => f_L_markText x.1⟩
noncomputable def cx_L_markText : Cx := ⟨tab, arrs, [], []⟩
theorem eb_L_markText_4 (t0 : PV (.int .i64)) (t3 : PV .str) : denK cx_L_markText (rcN cx_L_markText 0) pl_L_markText 0 ((loopsOf (bodyOf Try.f103)).getD 0 .skip) (fillS sh_L_markText_4 (t0, t3, ())) (roundK 0 lp_L_markText_4) = b_L_markText_4 t0 t3 := by kernel_rfl
theorem ef_L_markText (t0 : PV (.int .i64)) : denF cx_L_markText 0 pl_L_markText Try.f103.ntmps (bodyOf Try.f103) Try.f103.results.toList [(.bor, (.int .i64))] [(.str, false)] (t0, ()) = f_L_markText t0 := by kernel_rfl
theorem ok_L_markText : FnOk Try.prog 103 ct_L_markText :=
  fnOk (cx := cx_L_markText) (pl := pl_L_markText) (dp := 0) (ok0_of tabOk (by unfold ArrOk; kernel_rfl) mix trivial trivial) Try.func103 (by kernel_rfl) (by kernel_rfl) (by kernel_rfl)
    (by rw [show loopsOf (bodyOf Try.f103) = [((loopsOf (bodyOf Try.f103)).getD 0 .skip)] from by kernel_rfl]; exact ⟨(by rw [show lookup pl_L_markText.loops (firstId ((loopsOf (bodyOf Try.f103)).getD 0 .skip)) = some lp_L_markText_4 from by kernel_rfl]; exact fun d z h => (eb_L_markText_4 d.1 d.2.1).trans h), trivial⟩) (fun x => ef_L_markText x.1)
noncomputable def sh_L_markStringS_2 : List Sh := mkSh 21 [(0, .val S_string (.row .b)), (1, .sub ⟨0, [], 0, 0⟩), (2, .val (.int .i64) .b), (6, .val (.int .i64) .b)]
noncomputable def o_L_markStringS_2 : List Out := [⟨.exit 0, ⟨[], [1]⟩, mkSh 21 [(0, .val S_string (.row .b)), (2, .val (.int .i64) .b)]⟩]
noncomputable def b_L_markStringS_2 (t0 : PV S_string) (t2 : PV (.int .i64)) (t6 : PV (.int .i64)) : Option ((PV S_string × PV (.int .i64) × PV (.int .i64) × Unit) ⊕ ((PV S_string × PV (.int .i64) × Unit))) :=
  bif (decide (t6 < (t0.length : Int))) then
    (f_L_markText t2).bind fun r4 =>
      bif inB t6 t0.length then
        some (.inl ((t0.set t6.toNat r4.1.1), (IntKind.wrap .i64 (t2 + 1)), (IntKind.wrap .i64 (t6 + 1)), ()))
      else
        none
  else
    some (.inr (t0, t2, ()))
noncomputable def w_L_markStringS_2 : PV S_string × PV (.int .i64) × PV (.int .i64) × Unit → Option ((PV S_string × PV (.int .i64) × Unit)) := fix fun d => b_L_markStringS_2 d.1 d.2.1 d.2.2.1
noncomputable def lp_L_markStringS_2 : Lp := ⟨⟨[], [0, 1, 5]⟩, sh_L_markStringS_2, o_L_markStringS_2, fun d => b_L_markStringS_2 d.1 d.2.1 d.2.2.1⟩
noncomputable def pl_L_markStringS : Plan := ⟨[], [(2, lp_L_markStringS_2)], 0, 1⟩
noncomputable def f_L_markStringS (t0 : PV S_string) (t1 : PV (.int .i64)) : Option (PVs [(.int .i64)] × PVs [S_string]) :=
  (w_L_markStringS_2 (t0, t1, 0, ())).bind fun l6 =>
    some ((l6.2.1, ()), (l6.1, ()))
noncomputable def ct_L_markStringS : Ct := ⟨[(.mut, S_string), (.bor, (.int .i64))], [((.int .i64), false)], fun x => f_L_markStringS x.1 x.2.1⟩
noncomputable def cx_L_markStringS : Cx := ⟨tab, arrs, [(103, ct_L_markText)], []⟩
theorem eb_L_markStringS_2 (t0 : PV S_string) (t2 : PV (.int .i64)) (t6 : PV (.int .i64)) : denK cx_L_markStringS (rcN cx_L_markStringS 0) pl_L_markStringS 1 ((loopsOf (bodyOf Try.f55)).getD 0 .skip) (fillS sh_L_markStringS_2 (t0, t2, t6, ())) (roundK 1 lp_L_markStringS_2) = b_L_markStringS_2 t0 t2 t6 := by kernel_rfl
theorem ef_L_markStringS (t0 : PV S_string) (t1 : PV (.int .i64)) : denF cx_L_markStringS 0 pl_L_markStringS Try.f55.ntmps (bodyOf Try.f55) Try.f55.results.toList [(.mut, S_string), (.bor, (.int .i64))] [((.int .i64), false)] (t0, t1, ()) = f_L_markStringS t0 t1 := by kernel_rfl
theorem ok_L_markStringS : FnOk Try.prog 55 ct_L_markStringS :=
  fnOk (cx := cx_L_markStringS) (pl := pl_L_markStringS) (dp := 0) (ok0_of tabOk (by unfold ArrOk; kernel_rfl) mix ⟨ok_L_markText, trivial⟩ trivial) Try.func55 (by kernel_rfl) (by kernel_rfl) (by kernel_rfl)
    (by rw [show loopsOf (bodyOf Try.f55) = [((loopsOf (bodyOf Try.f55)).getD 0 .skip)] from by kernel_rfl]; exact ⟨(by rw [show lookup pl_L_markStringS.loops (firstId ((loopsOf (bodyOf Try.f55)).getD 0 .skip)) = some lp_L_markStringS_2 from by kernel_rfl]; exact fun d z h => (eb_L_markStringS_2 d.1 d.2.1 d.2.2.1).trans h), trivial⟩) (fun x => ef_L_markStringS x.1 x.2.1)
end R
