/- The functions that L_FnSwapped reach, as pure functions, and that the program computes them. -/
import Derived.Test.YtegfhigkmghmjaaL3
import Derived.Test.YtegfhigkmghmjaaChecked
import Derived.KernelRfl
open Go Go.Dn Go.Proofs
namespace R
set_option linter.unusedVariables false
@[reducible] def S_string : Ty := (.slice 9 .str)
@[reducible] def S_uint8 : Ty := (.slice 5 (.int .u8))
@[reducible] def S_int : Ty := (.slice 3 (.int .i64))
@[reducible] def S_S_int : Ty := (.slice 41 S_int)
@[reducible] def Y_impl_Hunk : Ty := (.pair (.int .i64) (.pair (.int .i64) (.pair S_string .unit)))
@[reducible] def Y_spec_l1Cur : Ty := (.pair S_uint8 (.pair (.int .i64) (.pair (.int .u64) .unit)))
@[reducible] def S_impl_Hunk : Ty := (.slice 72 Y_impl_Hunk)
@[reducible] def S_S_impl_Hunk : Ty := (.slice 25 S_impl_Hunk)
@[reducible] def Y_impl_Series : Ty := (.pair S_string (.pair S_S_impl_Hunk .unit))
noncomputable def tab : List (TypeId × Ty) := [(3, (.int .i64)), (4, .bool), (5, (.int .u8)), (9, .str), (22, S_uint8), (24, S_string), (25, S_impl_Hunk), (37, S_S_int), (41, S_int), (56, S_S_impl_Hunk), (58, Y_impl_Series), (72, Y_impl_Hunk), (83, (.int .u64)), (85, Y_spec_l1Cur)]
noncomputable def arrs : List TypeId := []
theorem tabOk : TabOk Try.prog tab := by unfold TabOk; kernel_rfl
theorem mix : Try.prog.follows .mixedOrders = true := by kernel_rfl
noncomputable def gl : Glob := noGlob
open Go.Shelf
set_option maxRecDepth 20000
noncomputable def f_slices_Clone_Hunk (t0 : PV S_impl_Hunk) : Option (PVs [S_impl_Hunk] × PVs []) := bif roomB ((([] : PV S_impl_Hunk)).length + t0.length) then some ((([] : PV S_impl_Hunk) ++ t0, ()), ()) else none
noncomputable def ct_slices_Clone_Hunk : Ct := ⟨[(.bor, S_impl_Hunk)], [(S_impl_Hunk, (.row (.pr .b (.pr .b (.pr .b .b)))))], fun x => f_slices_Clone_Hunk x.1⟩
noncomputable def pl_slices_Clone_Hunk : Plan := ⟨[], [], 0, 0⟩
noncomputable def cx_slices_Clone_Hunk : Cx := ⟨tab, arrs, [], [], gl, []⟩
theorem ok_slices_Clone_Hunk : FnOk gl Try.prog 91 ct_slices_Clone_Hunk :=
  fnOk_nil' (cx := cx_slices_Clone_Hunk) (pl := pl_slices_Clone_Hunk) (dp := 0) (t3 := 3) (te := 72) (T := Y_impl_Hunk) (ok0_of tabOk (by unfold ArrOk; kernel_rfl) mix trivial trivial) Try.func91 (fn := Try.f91) (rvs := Try.f91.results.toList) rfl (by kernel_rfl) (by kernel_rfl) (by kernel_rfl) rfl rfl rfl rfl Try.underlying25 ⟨⟨⟨trivial, trivial⟩, trivial⟩, ⟨trivial, trivial⟩⟩ (fun x => by kernel_rfl) (fun x => by kernel_rfl) (fun x => by kernel_rfl) (fun x => by kernel_rfl) (by kernel_rfl)
noncomputable def f_slices_Clone_string (t0 : PV S_string) : Option (PVs [S_string] × PVs []) := bif roomB ((([] : PV S_string)).length + t0.length) then some ((([] : PV S_string) ++ t0, ()), ()) else none
noncomputable def ct_slices_Clone_string : Ct := ⟨[(.bor, S_string)], [(S_string, (.row .b))], fun x => f_slices_Clone_string x.1⟩
noncomputable def pl_slices_Clone_string : Plan := ⟨[], [], 0, 0⟩
noncomputable def cx_slices_Clone_string : Cx := ⟨tab, arrs, [], [], gl, []⟩
theorem ok_slices_Clone_string : FnOk gl Try.prog 92 ct_slices_Clone_string :=
  fnOk_nil' (cx := cx_slices_Clone_string) (pl := pl_slices_Clone_string) (dp := 0) (t3 := 3) (te := 9) (T := .str) (ok0_of tabOk (by unfold ArrOk; kernel_rfl) mix trivial trivial) Try.func92 (fn := Try.f92) (rvs := Try.f92.results.toList) rfl (by kernel_rfl) (by kernel_rfl) (by kernel_rfl) rfl rfl rfl rfl Try.underlying24 ⟨⟨⟨trivial, trivial⟩, trivial⟩, ⟨trivial, trivial⟩⟩ (fun x => by kernel_rfl) (fun x => by kernel_rfl) (fun x => by kernel_rfl) (fun x => by kernel_rfl) (by kernel_rfl)
def lays_strings_Contains_ren : Go.Shelf.Ren := ⟨fun | 0 => 0 | 1 => 1 | 2 => 2 | 100 => 125 | 143 => 142 | 144 => 138 | 193 => 34 | 207 => 139 | 212 => 140 | 217 => 146 | 219 => 145 | 224 => 148 | 225 => 147 | 263 => 143 | 264 => 144 | 266 => 150 | 267 => 149 | 314 => 151 | 347 => 152 | 348 => 153 | 349 => 154 | 350 => 155 | 351 => 156 | 352 => 157 | 353 => 158 | 354 => 159 | 355 => 160 | 356 => 161 | 357 => 162 | 358 => 163 | 359 => 164 | 360 => 165 | 361 => 166 | 366 => 168 | n => n, fun | 0 => 0 | 1 => 1 | 2 => 2 | 3 => 3 | 4 => 4 | 5 => 5 | 6 => 6 | 7 => 7 | 8 => 8 | 9 => 9 | 10 => 10 | 11 => 11 | 12 => 12 | 13 => 13 | 14 => 14 | 15 => 15 | 16 => 16 | 17 => 17 | 18 => 18 | 19 => 19 | 20 => 20 | 21 => 21 | 22 => 133 | 27 => 148 | 28 => 41 | 31 => 24 | 34 => 51 | 37 => 22 | 38 => 23 | 43 => 109 | 46 => 136 | 51 => 149 | 53 => 83 | 55 => 154 | 69 => 135 | 73 => 141 | 80 => 130 | 81 => 117 | 83 => 129 | 101 => 34 | 102 => 98 | 104 => 113 | 109 => 145 | 110 => 146 | 111 => 108 | 114 => 87 | 127 => 164 | 131 => 42 | 146 => 150 | 147 => 151 | 148 => 152 | 149 => 153 | 151 => 155 | 164 => 169 | 238 => 156 | 239 => 157 | 240 => 158 | 241 => 159 | 242 => 160 | 243 => 161 | 244 => 162 | 245 => 163 | 246 => 165 | 247 => 166 | 248 => 167 | 249 => 168 | n => n, fun | 1 => 0 | n => n⟩
theorem lays_strings_Contains : Go.Proofs.Lays.n144 Try.prog lays_strings_Contains_ren where
  mixed := by kernel_rfl
  f143 := Try.func142.trans (congrArg some (by kernel_rfl))
  f144 := Try.func138.trans (congrArg some (by kernel_rfl))
  f217 := Try.func146.trans (congrArg some (by kernel_rfl))
  f219 := Try.func145.trans (congrArg some (by kernel_rfl))
  f224 := Try.func148.trans (congrArg some (by kernel_rfl))
  f225 := Try.func147.trans (congrArg some (by kernel_rfl))
  f266 := Try.func150.trans (congrArg some (by kernel_rfl))
  f267 := Try.func149.trans (congrArg some (by kernel_rfl))
  f314 := Try.func151.trans (congrArg some (by kernel_rfl))
  t3 := Try.underlying3
  a3 := Try.isAgg3
  z3 := Try.sizeOf3
  v3 := Try.zeroValue3
  t4 := Try.underlying4
  a4 := Try.isAgg4
  z4 := Try.sizeOf4
  v4 := Try.zeroValue4
  t5 := Try.underlying5
  a5 := Try.isAgg5
  z5 := Try.sizeOf5
  v5 := Try.zeroValue5
  t9 := Try.underlying9
  a9 := Try.isAgg9
  z9 := Try.sizeOf9
  v9 := Try.zeroValue9
  t46 := Try.underlying136
  a46 := Try.isAgg136
  z46 := Try.sizeOf136
  v46 := Try.zeroValue136
  t51 := Try.underlying149
  a51 := Try.isAgg149
  z51 := Try.sizeOf149
  v51 := Try.zeroValue149
  t146 := Try.underlying150
  a146 := Try.isAgg150
  z146 := Try.sizeOf150
  v146 := Try.zeroValue150
  g1 := by kernel_rfl
noncomputable def f_strings_Contains (t0 : PV .str) (t1 : PV .str) : Option (PVs [.bool] × PVs []) := Go.Dn.containsF t0 t1
noncomputable def ct_strings_Contains : Ct := ⟨[(.bor, .str), (.bor, .str)], [(.bool, .b)], fun x => f_strings_Contains x.1 x.2.1⟩
theorem ok_strings_Contains : FnOk gl Try.prog 138 ct_strings_Contains := Go.Dn.contains_ok  lays_strings_Contains
noncomputable def pl_L_big : Plan := ⟨[], [], 0, 0⟩
noncomputable def f_L_big (t0 : PV S_uint8) (t1 : PV S_uint8) : Option (PVs [.bool] × PVs []) :=
  bif (decide ((t0.length : Int) > 1048576)) then
    some ((true, ()), ())
  else
    some (((decide ((t1.length : Int) > (IntKind.wrap .i64 (1048576 - (t0.length : Int))))), ()), ())
noncomputable def ct_L_big : Ct := ⟨[(.bor, S_uint8), (.bor, S_uint8)], [(.bool, .b)], fun x => f_L_big x.1 x.2.1⟩
noncomputable def cx_L_big : Cx := ⟨tab, arrs, [], [], gl, []⟩
theorem ef_L_big (t0 : PV S_uint8) (t1 : PV S_uint8) : denF cx_L_big 0 pl_L_big Try.f6.ntmps (bodyOf Try.f6) Try.f6.results.toList [(.bor, S_uint8), (.bor, S_uint8)] [(.bool, .b)] (t0, t1, ()) = f_L_big t0 t1 := by kernel_rfl
theorem ok_L_big : FnOk gl Try.prog 6 ct_L_big :=
  fnOk (cx := cx_L_big) (pl := pl_L_big) (dp := 0) (ok0_of tabOk (by unfold ArrOk; kernel_rfl) mix trivial trivial) Try.func6 (by kernel_rfl) (by kernel_rfl) (by kernel_rfl)
    (by rw [show loopsOf (bodyOf Try.f6) = [] from by kernel_rfl]; exact trivial) (fun x => ef_L_big x.1 x.2.1)
noncomputable def o_S_l1Cur_next_4 : List Out := [⟨.normal, ⟨[], [0, 3], []⟩, mkSh 63 [(0, .var Y_spec_l1Cur .b), (1, .addr ⟨0, [], 0, 0⟩), (4, .val (.int .i64) .b)]⟩]
noncomputable def pl_S_l1Cur_next : Plan := ⟨[(4, o_S_l1Cur_next_4)], [], 0, 1⟩
noncomputable def f_S_l1Cur_next (t0 : PV Y_spec_l1Cur) : Option (PVs [(.int .i64)] × PVs [Y_spec_l1Cur]) :=
  ((
      bif (decide (t0.2.1 < (t0.1.length : Int))) then
        bif inB t0.2.1 t0.1.length then
          some (t0, (IntKind.wrap .i64 (t0.1.getD t0.2.1.toNat (0 : Int))), ())
        else
          none
      else
        some (t0, 0, ()) : Option ((PV Y_spec_l1Cur × PV (.int .i64) × Unit)))).bind fun j1 =>
    bif (decide ((IntKind.wrap .i64 (j1.1.2.1 + 1)) ≤ (j1.1.1.length : Int))) then
      some ((j1.2.1, ()), ((j1.1.1, ((IntKind.wrap .i64 (j1.1.2.1 + 1)), ((IntKind.wrap .u64 ((IntKind.wrap .u64 ((IntKind.wrap .u64 (j1.1.2.2.1 * 6364136223846793005)) + (IntKind.wrap .u64 j1.2.1))) + 1442695040888963407)), j1.1.2.2.2))), ()))
    else
      bif decide (0 ≤ 40) then
        some (((IntKind.wrap .i64 (IntKind.wrap .u64 ((BitVec.ofInt (IntKind.bits .u64) ((IntKind.wrap .u64 ((IntKind.wrap .u64 ((IntKind.wrap .u64 (j1.1.2.2.1 * 6364136223846793005)) + (IntKind.wrap .u64 j1.2.1))) + 1442695040888963407)).fdiv (2 ^ (min (40 : Int).toNat (IntKind.bits .u64)))) &&& BitVec.ofInt (IntKind.bits .u64) 255).toNat : Int))), ()), ((j1.1.1, ((IntKind.wrap .i64 (j1.1.2.1 + 1)), ((IntKind.wrap .u64 ((IntKind.wrap .u64 ((IntKind.wrap .u64 (j1.1.2.2.1 * 6364136223846793005)) + (IntKind.wrap .u64 j1.2.1))) + 1442695040888963407)), j1.1.2.2.2))), ()))
      else
        none
noncomputable def ct_S_l1Cur_next : Ct := ⟨[(.ptr, Y_spec_l1Cur)], [((.int .i64), .b)], fun x => f_S_l1Cur_next x.1⟩
noncomputable def cx_S_l1Cur_next : Cx := ⟨tab, arrs, [], [], gl, []⟩
theorem ef_S_l1Cur_next (t0 : PV Y_spec_l1Cur) : denF cx_S_l1Cur_next 0 pl_S_l1Cur_next Try.f98.ntmps (bodyOf Try.f98) Try.f98.results.toList [(.ptr, Y_spec_l1Cur)] [((.int .i64), .b)] (t0, ()) = f_S_l1Cur_next t0 := by kernel_rfl
theorem ok_S_l1Cur_next : FnOk gl Try.prog 98 ct_S_l1Cur_next :=
  fnOk (cx := cx_S_l1Cur_next) (pl := pl_S_l1Cur_next) (dp := 0) (ok0_of tabOk (by unfold ArrOk; kernel_rfl) mix trivial trivial) Try.func98 (by kernel_rfl) (by kernel_rfl) (by kernel_rfl)
    (by rw [show loopsOf (bodyOf Try.f98) = [] from by kernel_rfl]; exact trivial) (fun x => ef_S_l1Cur_next x.1)
noncomputable def o_S_l1Cur_pick_6 : List Out := [⟨.normal, ⟨[], [1, 5], []⟩, mkSh 21 [(0, .var Y_spec_l1Cur .b), (2, .val (.int .i64) .b), (6, .val (.int .i64) .b)]⟩]
noncomputable def pl_S_l1Cur_pick : Plan := ⟨[(6, o_S_l1Cur_pick_6)], [], 0, 1⟩
noncomputable def f_S_l1Cur_pick (t0 : PV Y_spec_l1Cur) (t1 : PV (.int .i64)) : Option (PVs [(.int .i64)] × PVs [Y_spec_l1Cur]) :=
  bif (decide (t1 ≤ 1)) then
    some ((0, ()), (t0, ()))
  else
    (f_S_l1Cur_next t0).bind fun r2 =>
      ((
          bif (decide (t1 > 200)) then
            (f_S_l1Cur_next r2.2.1).bind fun r4 =>
              some (r4.2.1, t1, (IntKind.wrap .i64 ((IntKind.wrap .i64 (r2.1.1 * 256)) + r4.1.1)), ())
          else
            some (r2.2.1, t1, r2.1.1, ()) : Option ((PV Y_spec_l1Cur × PV (.int .i64) × PV (.int .i64) × Unit)))).bind fun j5 =>
        bif j5.2.1 == 0 then
          none
        else
          some (((j5.2.2.1.tmod j5.2.1), ()), (j5.1, ()))
noncomputable def ct_S_l1Cur_pick : Ct := ⟨[(.ptr, Y_spec_l1Cur), (.bor, (.int .i64))], [((.int .i64), .b)], fun x => f_S_l1Cur_pick x.1 x.2.1⟩
noncomputable def cx_S_l1Cur_pick : Cx := ⟨tab, arrs, [(98, ct_S_l1Cur_next)], [], gl, []⟩
theorem ef_S_l1Cur_pick (t0 : PV Y_spec_l1Cur) (t1 : PV (.int .i64)) : denF cx_S_l1Cur_pick 0 pl_S_l1Cur_pick Try.f55.ntmps (bodyOf Try.f55) Try.f55.results.toList [(.ptr, Y_spec_l1Cur), (.bor, (.int .i64))] [((.int .i64), .b)] (t0, t1, ()) = f_S_l1Cur_pick t0 t1 := by kernel_rfl
theorem ok_S_l1Cur_pick : FnOk gl Try.prog 55 ct_S_l1Cur_pick :=
  fnOk (cx := cx_S_l1Cur_pick) (pl := pl_S_l1Cur_pick) (dp := 0) (ok0_of tabOk (by unfold ArrOk; kernel_rfl) mix ⟨ok_S_l1Cur_next, trivial⟩ trivial) Try.func55 (by kernel_rfl) (by kernel_rfl) (by kernel_rfl)
    (by rw [show loopsOf (bodyOf Try.f55) = [] from by kernel_rfl]; exact trivial) (fun x => ef_S_l1Cur_pick x.1 x.2.1)
noncomputable def pl_S_l1Cur_line_118 : Plan := ⟨[], [], 0, 7⟩
noncomputable def pl_S_l1Cur_line : Plan := ⟨[], [], 1, 1⟩
noncomputable def f_S_l1Cur_line (t0 : PV Y_spec_l1Cur) : Option (PVs [.str] × PVs [Y_spec_l1Cur]) :=
  (f_S_l1Cur_pick t0 ([[97], [98], [99], [100], [], [46], [46, 46], [111, 110, 101, 32, 116, 119, 111], [43, 120], [45, 121], [92, 32, 122], [64, 64]].length : Int)).bind fun r1 =>
    bif inB r1.1.1 [[97], [98], [99], [100], [], [46], [46, 46], [111, 110, 101, 32, 116, 119, 111], [43, 120], [45, 121], [92, 32, 122], [64, 64]].length then
      some ((([[97], [98], [99], [100], [], [46], [46, 46], [111, 110, 101, 32, 116, 119, 111], [43, 120], [45, 121], [92, 32, 122], [64, 64]].getD r1.1.1.toNat []), ()), (r1.2.1, ()))
    else
      none
noncomputable def ct_S_l1Cur_line : Ct := ⟨[(.ptr, Y_spec_l1Cur)], [(.str, .b)], fun x => f_S_l1Cur_line x.1⟩
noncomputable def cx_S_l1Cur_line : Cx := ⟨tab, arrs, [(55, ct_S_l1Cur_pick)], [(118, Try.f118, pl_S_l1Cur_line_118)], gl, []⟩
theorem ef_S_l1Cur_line (t0 : PV Y_spec_l1Cur) : denF cx_S_l1Cur_line 1 pl_S_l1Cur_line Try.f117.ntmps (bodyOf Try.f117) Try.f117.results.toList [(.ptr, Y_spec_l1Cur)] [(.str, .b)] (t0, ()) = f_S_l1Cur_line t0 := by kernel_rfl
theorem ok_S_l1Cur_line : FnOk gl Try.prog 117 ct_S_l1Cur_line :=
  fnOk (cx := cx_S_l1Cur_line) (pl := pl_S_l1Cur_line) (dp := 1) (ok0_of tabOk (by unfold ArrOk; kernel_rfl) mix ⟨ok_S_l1Cur_pick, trivial⟩ ⟨⟨Try.func118, by kernel_rfl, (by rw [show loopsOf (bodyOf Try.f118) = [] from by kernel_rfl]; exact trivial)⟩, trivial⟩) Try.func117 (by kernel_rfl) (by kernel_rfl) (by kernel_rfl)
    (by rw [show loopsOf (bodyOf Try.f117) = [] from by kernel_rfl]; exact trivial) (fun x => ef_S_l1Cur_line x.1)
noncomputable def pl_S_l1Cur_one : Plan := ⟨[], [], 0, 1⟩
noncomputable def f_S_l1Cur_one (t0 : PV Y_spec_l1Cur) (t1 : PV (.int .i64)) : Option (PVs [.bool] × PVs [Y_spec_l1Cur]) :=
  (f_S_l1Cur_pick t0 t1).bind fun r1 =>
    some (((r1.1.1 == 0), ()), (r1.2.1, ()))
noncomputable def ct_S_l1Cur_one : Ct := ⟨[(.ptr, Y_spec_l1Cur), (.bor, (.int .i64))], [(.bool, .b)], fun x => f_S_l1Cur_one x.1 x.2.1⟩
noncomputable def cx_S_l1Cur_one : Cx := ⟨tab, arrs, [(55, ct_S_l1Cur_pick)], [], gl, []⟩
theorem ef_S_l1Cur_one (t0 : PV Y_spec_l1Cur) (t1 : PV (.int .i64)) : denF cx_S_l1Cur_one 0 pl_S_l1Cur_one Try.f82.ntmps (bodyOf Try.f82) Try.f82.results.toList [(.ptr, Y_spec_l1Cur), (.bor, (.int .i64))] [(.bool, .b)] (t0, t1, ()) = f_S_l1Cur_one t0 t1 := by kernel_rfl
theorem ok_S_l1Cur_one : FnOk gl Try.prog 82 ct_S_l1Cur_one :=
  fnOk (cx := cx_S_l1Cur_one) (pl := pl_S_l1Cur_one) (dp := 0) (ok0_of tabOk (by unfold ArrOk; kernel_rfl) mix ⟨ok_S_l1Cur_pick, trivial⟩ trivial) Try.func82 (by kernel_rfl) (by kernel_rfl) (by kernel_rfl)
    (by rw [show loopsOf (bodyOf Try.f82) = [] from by kernel_rfl]; exact trivial) (fun x => ef_S_l1Cur_one x.1 x.2.1)
noncomputable def o_S_l1Cur_text_8 : List Out := [⟨.normal, ⟨[], [3], []⟩, mkSh 27 [(0, .var Y_spec_l1Cur .b), (4, .val S_string (.row .b))]⟩]
noncomputable def pl_S_l1Cur_text_118 : Plan := ⟨[], [], 0, 27⟩
noncomputable def sh_S_l1Cur_text_3 : List Sh := mkSh 27 [(0, .var Y_spec_l1Cur .b), (1, .addr ⟨0, [], 0, 0⟩), (4, .val S_string (.row .b)), (5, .val (.int .i64) .b)]
noncomputable def o_S_l1Cur_text_3 : List Out := [⟨.exit 0, ⟨[], [0, 3], []⟩, mkSh 27 [(0, .var Y_spec_l1Cur .b), (1, .addr ⟨0, [], 0, 0⟩), (4, .val S_string (.row .b))]⟩]
noncomputable def b_S_l1Cur_text_3 (t0 : PV Y_spec_l1Cur) (t4 : PV S_string) (t5 : PV (.int .i64)) : Option ((PV Y_spec_l1Cur × PV S_string × PV (.int .i64) × Unit) ⊕ ((PV Y_spec_l1Cur × PV S_string × Unit))) :=
  bif (decide (t5 > 0)) then
    (f_S_l1Cur_line t0).bind fun r4 =>
      bif decide (r4.1.1.length + [10].length ≤ 1099511627776) then
        bif roomB (t4.length + [(r4.1.1 ++ [10])].length) then
          some (.inl (r4.2.1, (t4 ++ [(r4.1.1 ++ [10])]), (IntKind.wrap .i64 (t5 - 1)), ()))
        else
          none
      else
        none
  else
    some (.inr (t0, t4, ()))
noncomputable def w_S_l1Cur_text_3 : PV Y_spec_l1Cur × PV S_string × PV (.int .i64) × Unit → Option ((PV Y_spec_l1Cur × PV S_string × Unit)) := fix fun d => b_S_l1Cur_text_3 d.1 d.2.1 d.2.2.1
noncomputable def lp_S_l1Cur_text_3 : Lp := ⟨⟨[], [0, 3, 4], []⟩, sh_S_l1Cur_text_3, o_S_l1Cur_text_3, fun d => b_S_l1Cur_text_3 d.1 d.2.1 d.2.2.1⟩
noncomputable def pl_S_l1Cur_text : Plan := ⟨[(8, o_S_l1Cur_text_8)], [(3, lp_S_l1Cur_text_3)], 1, 1⟩
noncomputable def f_S_l1Cur_text (t0 : PV Y_spec_l1Cur) : Option (PVs [S_string] × PVs [Y_spec_l1Cur]) :=
  (f_S_l1Cur_pick t0 9).bind fun r7 =>
    (w_S_l1Cur_text_3 (r7.2.1, [], r7.1.1, ())).bind fun l8 =>
      ((
          (f_S_l1Cur_one l8.1 5).bind fun r13 =>
            bif r13.1.1 then
              (f_S_l1Cur_pick r13.2.1 ([[97], [101, 110, 100], [46]].length : Int)).bind fun r14 =>
                bif inB r14.1.1 [[97], [101, 110, 100], [46]].length then
                  bif roomB (l8.2.1.length + [([[97], [101, 110, 100], [46]].getD r14.1.1.toNat [])].length) then
                    some (r14.2.1, (l8.2.1 ++ [([[97], [101, 110, 100], [46]].getD r14.1.1.toNat [])]), ())
                  else
                    none
                else
                  none
            else
              some (r13.2.1, l8.2.1, ()) : Option ((PV Y_spec_l1Cur × PV S_string × Unit)))).bind fun j15 =>
        some ((j15.2.1, ()), (j15.1, ()))
noncomputable def ct_S_l1Cur_text : Ct := ⟨[(.ptr, Y_spec_l1Cur)], [(S_string, .b)], fun x => f_S_l1Cur_text x.1⟩
noncomputable def cx_S_l1Cur_text : Cx := ⟨tab, arrs, [(55, ct_S_l1Cur_pick), (82, ct_S_l1Cur_one), (117, ct_S_l1Cur_line)], [(118, Try.f118, pl_S_l1Cur_text_118)], gl, []⟩
theorem eb_S_l1Cur_text_3 (t0 : PV Y_spec_l1Cur) (t4 : PV S_string) (t5 : PV (.int .i64)) : denK cx_S_l1Cur_text (rcN cx_S_l1Cur_text 1) pl_S_l1Cur_text 1 ((loopsOf (bodyOf Try.f80)).getD 0 .skip) (fillS sh_S_l1Cur_text_3 (t0, t4, t5, ())) (roundK 1 lp_S_l1Cur_text_3) = b_S_l1Cur_text_3 t0 t4 t5 := by kernel_rfl
theorem ef_S_l1Cur_text (t0 : PV Y_spec_l1Cur) : denF cx_S_l1Cur_text 1 pl_S_l1Cur_text Try.f80.ntmps (bodyOf Try.f80) Try.f80.results.toList [(.ptr, Y_spec_l1Cur)] [(S_string, .b)] (t0, ()) = f_S_l1Cur_text t0 := by kernel_rfl
theorem ok_S_l1Cur_text : FnOk gl Try.prog 80 ct_S_l1Cur_text :=
  fnOk (cx := cx_S_l1Cur_text) (pl := pl_S_l1Cur_text) (dp := 1) (ok0_of tabOk (by unfold ArrOk; kernel_rfl) mix ⟨ok_S_l1Cur_pick, ok_S_l1Cur_one, ok_S_l1Cur_line, trivial⟩ ⟨⟨Try.func118, by kernel_rfl, (by rw [show loopsOf (bodyOf Try.f118) = [] from by kernel_rfl]; exact trivial)⟩, trivial⟩) Try.func80 (by kernel_rfl) (by kernel_rfl) (by kernel_rfl)
    (by rw [show loopsOf (bodyOf Try.f80) = [((loopsOf (bodyOf Try.f80)).getD 0 .skip)] from by kernel_rfl]; exact ⟨(by rw [show lookup pl_S_l1Cur_text.loops (firstId ((loopsOf (bodyOf Try.f80)).getD 0 .skip)) = some lp_S_l1Cur_text_3 from by kernel_rfl]; exact fun d z h => (eb_S_l1Cur_text_3 d.1 d.2.1 d.2.2.1).trans h), trivial⟩) (fun x => ef_S_l1Cur_text x.1)
noncomputable def pl_S_l1Least : Plan := ⟨[], [], 0, 0⟩
noncomputable def f_S_l1Least (t0 : PV (.int .i64)) (t1 : PV (.int .i64)) : Option (PVs [(.int .i64)] × PVs []) :=
  bif (decide (t0 < t1)) then
    some ((t0, ()), ())
  else
    some ((t1, ()), ())
noncomputable def ct_S_l1Least : Ct := ⟨[(.bor, (.int .i64)), (.bor, (.int .i64))], [((.int .i64), .b)], fun x => f_S_l1Least x.1 x.2.1⟩
noncomputable def cx_S_l1Least : Cx := ⟨tab, arrs, [], [], gl, []⟩
theorem ef_S_l1Least (t0 : PV (.int .i64)) (t1 : PV (.int .i64)) : denF cx_S_l1Least 0 pl_S_l1Least Try.f83.ntmps (bodyOf Try.f83) Try.f83.results.toList [(.bor, (.int .i64)), (.bor, (.int .i64))] [((.int .i64), .b)] (t0, t1, ()) = f_S_l1Least t0 t1 := by kernel_rfl
theorem ok_S_l1Least : FnOk gl Try.prog 83 ct_S_l1Least :=
  fnOk (cx := cx_S_l1Least) (pl := pl_S_l1Least) (dp := 0) (ok0_of tabOk (by unfold ArrOk; kernel_rfl) mix trivial trivial) Try.func83 (by kernel_rfl) (by kernel_rfl) (by kernel_rfl)
    (by rw [show loopsOf (bodyOf Try.f83) = [] from by kernel_rfl]; exact trivial) (fun x => ef_S_l1Least x.1 x.2.1)
noncomputable def pl_S_l1Ends : Plan := ⟨[], [], 0, 0⟩
noncomputable def f_S_l1Ends (t0 : PV .str) : Option (PVs [.bool] × PVs []) :=
  bif inB (IntKind.wrap .i64 ((t0.length : Int) - 1)) t0.length then
    some (((((t0.getD (IntKind.wrap .i64 ((t0.length : Int) - 1)).toNat 0).toNat : Int) == 10), ()), ())
  else
    none
noncomputable def ct_S_l1Ends : Ct := ⟨[(.bor, .str)], [(.bool, .b)], fun x => f_S_l1Ends x.1⟩
noncomputable def cx_S_l1Ends : Cx := ⟨tab, arrs, [], [], gl, []⟩
theorem ef_S_l1Ends (t0 : PV .str) : denF cx_S_l1Ends 0 pl_S_l1Ends Try.f121.ntmps (bodyOf Try.f121) Try.f121.results.toList [(.bor, .str)] [(.bool, .b)] (t0, ()) = f_S_l1Ends t0 := by kernel_rfl
theorem ok_S_l1Ends : FnOk gl Try.prog 121 ct_S_l1Ends :=
  fnOk (cx := cx_S_l1Ends) (pl := pl_S_l1Ends) (dp := 0) (ok0_of tabOk (by unfold ArrOk; kernel_rfl) mix trivial trivial) Try.func121 (by kernel_rfl) (by kernel_rfl) (by kernel_rfl)
    (by rw [show loopsOf (bodyOf Try.f121) = [] from by kernel_rfl]; exact trivial) (fun x => ef_S_l1Ends x.1)
noncomputable def pl_S_l1Whole : Plan := ⟨[], [], 0, 0⟩
noncomputable def f_S_l1Whole (t0 : PV S_string) : Option (PVs [.bool] × PVs []) :=
  bif ((t0.length : Int) == 0) then
    some ((true, ()), ())
  else
    bif inB (IntKind.wrap .i64 ((t0.length : Int) - 1)) t0.length then
      (f_S_l1Ends (t0.getD ((IntKind.wrap .i64 ((t0.length : Int) - 1)).toNat) [])).bind fun r1 =>
        some ((r1.1.1, ()), ())
    else
      none
noncomputable def ct_S_l1Whole : Ct := ⟨[(.bor, S_string)], [(.bool, .b)], fun x => f_S_l1Whole x.1⟩
noncomputable def cx_S_l1Whole : Cx := ⟨tab, arrs, [(121, ct_S_l1Ends)], [], gl, []⟩
theorem ef_S_l1Whole (t0 : PV S_string) : denF cx_S_l1Whole 0 pl_S_l1Whole Try.f119.ntmps (bodyOf Try.f119) Try.f119.results.toList [(.bor, S_string)] [(.bool, .b)] (t0, ()) = f_S_l1Whole t0 := by kernel_rfl
theorem ok_S_l1Whole : FnOk gl Try.prog 119 ct_S_l1Whole :=
  fnOk (cx := cx_S_l1Whole) (pl := pl_S_l1Whole) (dp := 0) (ok0_of tabOk (by unfold ArrOk; kernel_rfl) mix ⟨ok_S_l1Ends, trivial⟩ trivial) Try.func119 (by kernel_rfl) (by kernel_rfl) (by kernel_rfl)
    (by rw [show loopsOf (bodyOf Try.f119) = [] from by kernel_rfl]; exact trivial) (fun x => ef_S_l1Whole x.1)
noncomputable def o_S_l1Cur_hunks_10 : List Out := [⟨.normal, ⟨[], [0, 1, 5, 6, 7, 16, 17, 18, 68], []⟩, mkSh 83 [(0, .var Y_spec_l1Cur .b), (1, .addr ⟨0, [], 0, 0⟩), (2, .val S_string .b), (6, .val S_impl_Hunk (.row .b)), (7, .val (.int .i64) .b), (8, .var Y_impl_Hunk .b), (17, .sub ⟨6, [], 0, 0⟩), (18, .val (.int .i64) .b), (19, .val .bool .b), (69, .val .bool .b)]⟩]
noncomputable def o_S_l1Cur_hunks_11 : List Out := [⟨.normal, ⟨[], [0, 1, 5, 6, 7, 17, 18, 52, 53, 54, 55, 56, 57, 58, 59, 60, 61, 62, 63, 64, 65, 66, 67], []⟩, mkSh 83 [(0, .var Y_spec_l1Cur .b), (1, .addr ⟨0, [], 0, 0⟩), (2, .val S_string .b), (6, .val S_impl_Hunk (.row .b)), (7, .val (.int .i64) .b), (8, .var Y_impl_Hunk .b), (18, .val (.int .i64) .b), (19, .val .bool .b)]⟩]
noncomputable def sh_S_l1Cur_hunks_6 : List Sh := mkSh 83 [(0, .var Y_spec_l1Cur .b), (1, .addr ⟨0, [], 0, 0⟩), (2, .val S_string .b), (6, .val S_impl_Hunk (.row .b)), (7, .val (.int .i64) .b), (8, .var Y_impl_Hunk (.pr .b (.pr .b (.pr (.row .b) .b)))), (9, .val (.int .i64) .b), (17, .sub ⟨6, [], 0, 0⟩), (18, .val (.int .i64) .b), (19, .val .bool .b)]
noncomputable def o_S_l1Cur_hunks_6 : List Out := [⟨.exit 2, ⟨[(7, .b)], [0, 1, 5, 6, 7, 16, 17, 18, 52, 53, 54, 55, 56, 57, 58, 59, 60, 61, 62, 63, 64, 65, 66, 67], []⟩, mkSh 83 [(0, .var Y_spec_l1Cur .b), (1, .addr ⟨0, [], 0, 0⟩), (2, .val S_string .b), (6, .val S_impl_Hunk (.row .b)), (7, .val (.int .i64) .b), (8, .var Y_impl_Hunk .b), (17, .sub ⟨6, [], 0, 0⟩), (18, .val (.int .i64) .b), (19, .val .bool .b)]⟩]
noncomputable def b_S_l1Cur_hunks_6 (t0 : PV Y_spec_l1Cur) (t2 : PV S_string) (t6 : PV S_impl_Hunk) (t7 : PV (.int .i64)) (t8 : PV Y_impl_Hunk) (t9 : PV (.int .i64)) (t18 : PV (.int .i64)) (t19 : PV .bool) : Option ((PV Y_spec_l1Cur × PV S_string × PV S_impl_Hunk × PV (.int .i64) × PV Y_impl_Hunk × PV (.int .i64) × PV (.int .i64) × PV .bool × Unit) ⊕ ((PV Y_spec_l1Cur × PV S_string × PV S_impl_Hunk × PV (.int .i64) × PV Y_impl_Hunk × PV (.int .i64) × PV .bool × Unit))) :=
  bif (decide (t9 > 0)) then
    (f_S_l1Cur_line t0).bind fun r29 =>
      bif decide (r29.1.1.length + [10].length ≤ 1099511627776) then
        bif roomB (t8.2.2.1.length + [(r29.1.1 ++ [10])].length) then
          some (.inl (r29.2.1, t2, t6, t7, (t8.1, (t8.2.1, ((t8.2.2.1 ++ [(r29.1.1 ++ [10])]), t8.2.2.2))), (IntKind.wrap .i64 (t9 - 1)), t18, t19, ()))
        else
          none
      else
        none
  else
    some (.inr (t0, t2, t6, t7, t8, t18, t19, ()))
noncomputable def w_S_l1Cur_hunks_6 : PV Y_spec_l1Cur × PV S_string × PV S_impl_Hunk × PV (.int .i64) × PV Y_impl_Hunk × PV (.int .i64) × PV (.int .i64) × PV .bool × Unit → Option ((PV Y_spec_l1Cur × PV S_string × PV S_impl_Hunk × PV (.int .i64) × PV Y_impl_Hunk × PV (.int .i64) × PV .bool × Unit)) := fix fun d => b_S_l1Cur_hunks_6 d.1 d.2.1 d.2.2.1 d.2.2.2.1 d.2.2.2.2.1 d.2.2.2.2.2.1 d.2.2.2.2.2.2.1 d.2.2.2.2.2.2.2.1
noncomputable def lp_S_l1Cur_hunks_6 : Lp := ⟨⟨[], [0, 1, 5, 6, 7, 8, 16, 17, 18, 52, 53, 54, 55, 56, 57, 58, 59, 60, 61, 62, 63, 64, 65, 66, 67], []⟩, sh_S_l1Cur_hunks_6, o_S_l1Cur_hunks_6, fun d => b_S_l1Cur_hunks_6 d.1 d.2.1 d.2.2.1 d.2.2.2.1 d.2.2.2.2.1 d.2.2.2.2.2.1 d.2.2.2.2.2.2.1 d.2.2.2.2.2.2.2.1⟩
noncomputable def sh_S_l1Cur_hunks_3 : List Sh := mkSh 83 [(0, .var Y_spec_l1Cur .b), (1, .addr ⟨0, [], 0, 0⟩), (2, .val S_string .b), (6, .val S_impl_Hunk (.row .b)), (7, .val (.int .i64) .b)]
noncomputable def o_S_l1Cur_hunks_3 : List Out := [⟨.exit 0, ⟨[], [5], []⟩, mkSh 83 [(0, .var Y_spec_l1Cur .b), (6, .val S_impl_Hunk (.row .b))]⟩]
noncomputable def b_S_l1Cur_hunks_3 (t0 : PV Y_spec_l1Cur) (t2 : PV S_string) (t6 : PV S_impl_Hunk) (t7 : PV (.int .i64)) : Option ((PV Y_spec_l1Cur × PV S_string × PV S_impl_Hunk × PV (.int .i64) × Unit) ⊕ ((PV Y_spec_l1Cur × PV S_impl_Hunk × Unit))) :=
  bif (decide (t7 ≤ (t2.length : Int))) then
    bif (decide ((t6.length : Int) < 6)) then
      (f_S_l1Least 3 (IntKind.wrap .i64 ((t2.length : Int) - t7))).bind fun r24 =>
        (f_S_l1Cur_pick t0 (IntKind.wrap .i64 (r24.1.1 + 1))).bind fun r25 =>
          (f_S_l1Cur_pick r25.2.1 3).bind fun r30 =>
            (w_S_l1Cur_hunks_6 (r30.2.1, t2, t6, t7, (t7, (r25.1.1, (([] : PV S_string), ()))), r30.1.1, (t6.length : Int), (decide ((t6.length : Int) < 6)), ())).bind fun l31 =>
              ((
                  ((
                      bif (decide ((IntKind.wrap .i64 (l31.2.2.2.2.1.2.1 + (l31.2.2.2.2.1.2.2.1.length : Int))) > 0)) then
                        bif (decide ((IntKind.wrap .i64 (l31.2.2.2.1 + l31.2.2.2.2.1.2.1)) < (l31.2.1.length : Int))) then
                          some (l31.1, l31.2.1, l31.2.2.1, l31.2.2.2.1, l31.2.2.2.2.1, l31.2.2.2.2.2.1, l31.2.2.2.2.2.2.1, true, ())
                        else
                          (f_S_l1Whole l31.2.1).bind fun r32 =>
                            bif r32.1.1 then
                              some (l31.1, l31.2.1, l31.2.2.1, l31.2.2.2.1, l31.2.2.2.2.1, l31.2.2.2.2.2.1, l31.2.2.2.2.2.2.1, true, ())
                            else
                              some (l31.1, l31.2.1, l31.2.2.1, l31.2.2.2.1, l31.2.2.2.2.1, l31.2.2.2.2.2.1, l31.2.2.2.2.2.2.1, (decide (l31.2.2.2.2.1.2.1 > 0)), ())
                      else
                        some (l31.1, l31.2.1, l31.2.2.1, l31.2.2.2.1, l31.2.2.2.2.1, l31.2.2.2.2.2.1, l31.2.2.2.2.2.2.1, false, ()) : Option ((PV Y_spec_l1Cur × PV S_string × PV S_impl_Hunk × PV (.int .i64) × PV Y_impl_Hunk × PV (.int .i64) × PV .bool × PV .bool × Unit)))).bind fun j33 =>
                    bif j33.2.2.2.2.2.2.2.1 then
                      bif roomB (j33.2.2.1.length + [j33.2.2.2.2.1].length) then
                        some (j33.1, j33.2.1, (j33.2.2.1 ++ [j33.2.2.2.2.1]), j33.2.2.2.1, j33.2.2.2.2.1, j33.2.2.2.2.2.1, j33.2.2.2.2.2.2.1, ())
                      else
                        none
                    else
                      some (j33.1, j33.2.1, j33.2.2.1, j33.2.2.2.1, j33.2.2.2.2.1, j33.2.2.2.2.2.1, j33.2.2.2.2.2.2.1, ()) : Option ((PV Y_spec_l1Cur × PV S_string × PV S_impl_Hunk × PV (.int .i64) × PV Y_impl_Hunk × PV (.int .i64) × PV .bool × Unit)))).bind fun j34 =>
                (f_S_l1Cur_pick j34.1 3).bind fun r35 =>
                  some (.inl (r35.2.1, j34.2.1, j34.2.2.1, (IntKind.wrap .i64 (j34.2.2.2.1 + (IntKind.wrap .i64 ((IntKind.wrap .i64 (j34.2.2.2.2.1.2.1 + 1)) + r35.1.1)))), ()))
    else
      some (.inr (t0, t6, ()))
  else
    some (.inr (t0, t6, ()))
noncomputable def w_S_l1Cur_hunks_3 : PV Y_spec_l1Cur × PV S_string × PV S_impl_Hunk × PV (.int .i64) × Unit → Option ((PV Y_spec_l1Cur × PV S_impl_Hunk × Unit)) := fix fun d => b_S_l1Cur_hunks_3 d.1 d.2.1 d.2.2.1 d.2.2.2.1
noncomputable def lp_S_l1Cur_hunks_3 : Lp := ⟨⟨[(5, (.row .b))], [0, 1, 5, 6, 16, 52, 53, 54, 55, 56, 57, 58, 59, 60, 61, 62, 63, 64, 65, 66, 67], []⟩, sh_S_l1Cur_hunks_3, o_S_l1Cur_hunks_3, fun d => b_S_l1Cur_hunks_3 d.1 d.2.1 d.2.2.1 d.2.2.2.1⟩
noncomputable def pl_S_l1Cur_hunks : Plan := ⟨[(10, o_S_l1Cur_hunks_10), (11, o_S_l1Cur_hunks_11)], [(6, lp_S_l1Cur_hunks_6), (3, lp_S_l1Cur_hunks_3)], 0, 1⟩
noncomputable def f_S_l1Cur_hunks (t0 : PV Y_spec_l1Cur) (t1 : PV S_string) : Option (PVs [S_impl_Hunk] × PVs [Y_spec_l1Cur]) :=
  (f_S_l1Cur_pick t0 3).bind fun r2 =>
    (w_S_l1Cur_hunks_3 (r2.2.1, t1, [], r2.1.1, ())).bind fun l37 =>
      some ((l37.2.1, ()), (l37.1, ()))
noncomputable def ct_S_l1Cur_hunks : Ct := ⟨[(.ptr, Y_spec_l1Cur), (.bor, S_string)], [(S_impl_Hunk, .b)], fun x => f_S_l1Cur_hunks x.1 x.2.1⟩
noncomputable def cx_S_l1Cur_hunks : Cx := ⟨tab, arrs, [(55, ct_S_l1Cur_pick), (83, ct_S_l1Least), (117, ct_S_l1Cur_line), (119, ct_S_l1Whole)], [], gl, []⟩
theorem eb_S_l1Cur_hunks_3 (t0 : PV Y_spec_l1Cur) (t2 : PV S_string) (t6 : PV S_impl_Hunk) (t7 : PV (.int .i64)) : denK cx_S_l1Cur_hunks (rcN cx_S_l1Cur_hunks 0) pl_S_l1Cur_hunks 1 ((loopsOf (bodyOf Try.f81)).getD 0 .skip) (fillS sh_S_l1Cur_hunks_3 (t0, t2, t6, t7, ())) (roundK 1 lp_S_l1Cur_hunks_3) = b_S_l1Cur_hunks_3 t0 t2 t6 t7 := by kernel_rfl
theorem eb_S_l1Cur_hunks_6 (t0 : PV Y_spec_l1Cur) (t2 : PV S_string) (t6 : PV S_impl_Hunk) (t7 : PV (.int .i64)) (t8 : PV Y_impl_Hunk) (t9 : PV (.int .i64)) (t18 : PV (.int .i64)) (t19 : PV .bool) : denK cx_S_l1Cur_hunks (rcN cx_S_l1Cur_hunks 0) pl_S_l1Cur_hunks 1 ((loopsOf (bodyOf Try.f81)).getD 1 .skip) (fillS sh_S_l1Cur_hunks_6 (t0, t2, t6, t7, t8, t9, t18, t19, ())) (roundK 1 lp_S_l1Cur_hunks_6) = b_S_l1Cur_hunks_6 t0 t2 t6 t7 t8 t9 t18 t19 := by kernel_rfl
theorem ef_S_l1Cur_hunks (t0 : PV Y_spec_l1Cur) (t1 : PV S_string) : denF cx_S_l1Cur_hunks 0 pl_S_l1Cur_hunks Try.f81.ntmps (bodyOf Try.f81) Try.f81.results.toList [(.ptr, Y_spec_l1Cur), (.bor, S_string)] [(S_impl_Hunk, .b)] (t0, t1, ()) = f_S_l1Cur_hunks t0 t1 := by kernel_rfl
theorem ok_S_l1Cur_hunks : FnOk gl Try.prog 81 ct_S_l1Cur_hunks :=
  fnOk (cx := cx_S_l1Cur_hunks) (pl := pl_S_l1Cur_hunks) (dp := 0) (ok0_of tabOk (by unfold ArrOk; kernel_rfl) mix ⟨ok_S_l1Cur_pick, ok_S_l1Least, ok_S_l1Cur_line, ok_S_l1Whole, trivial⟩ trivial) Try.func81 (by kernel_rfl) (by kernel_rfl) (by kernel_rfl)
    (by rw [show loopsOf (bodyOf Try.f81) = [((loopsOf (bodyOf Try.f81)).getD 0 .skip), ((loopsOf (bodyOf Try.f81)).getD 1 .skip)] from by kernel_rfl]; exact ⟨(by rw [show lookup pl_S_l1Cur_hunks.loops (firstId ((loopsOf (bodyOf Try.f81)).getD 0 .skip)) = some lp_S_l1Cur_hunks_3 from by kernel_rfl]; exact fun d z h => (eb_S_l1Cur_hunks_3 d.1 d.2.1 d.2.2.1 d.2.2.2.1).trans h), (by rw [show lookup pl_S_l1Cur_hunks.loops (firstId ((loopsOf (bodyOf Try.f81)).getD 1 .skip)) = some lp_S_l1Cur_hunks_6 from by kernel_rfl]; exact fun d z h => (eb_S_l1Cur_hunks_6 d.1 d.2.1 d.2.2.1 d.2.2.2.1 d.2.2.2.2.1 d.2.2.2.2.2.1 d.2.2.2.2.2.2.1 d.2.2.2.2.2.2.2.1).trans h), trivial⟩) (fun x => ef_S_l1Cur_hunks x.1 x.2.1)
noncomputable def o_S_DrawMoveHunks_6 : List Out := [⟨.normal, ⟨[], [6, 7, 8, 26], []⟩, mkSh 44 [(6, .val S_string .b), (7, .val S_impl_Hunk .b), (8, .val S_impl_Hunk .b), (26, .val .bool .b)]⟩]
noncomputable def o_S_DrawMoveHunks_9 : List Out := [⟨.normal, ⟨[], [6, 7, 8], []⟩, mkSh 44 [(6, .val S_string .b), (7, .val S_impl_Hunk .b), (8, .val S_impl_Hunk .b)]⟩]
noncomputable def pl_S_DrawMoveHunks : Plan := ⟨[(6, o_S_DrawMoveHunks_6), (9, o_S_DrawMoveHunks_9)], [], 0, 0⟩
noncomputable def f_S_DrawMoveHunks (t0 : PV S_uint8) : Option (PVs [S_string, S_impl_Hunk, S_impl_Hunk] × PVs []) :=
  (f_S_l1Cur_text (t0, (0, (0, ())))).bind fun r2 =>
    (f_S_l1Cur_hunks r2.2.1 r2.1.1).bind fun r4 =>
      (f_S_l1Cur_hunks r4.2.1 r2.1.1).bind fun r6 =>
        ((
            bif (decide ((r4.1.1.length : Int) > 1)) then
              (f_S_l1Cur_one r6.2.1 2).bind fun r10 =>
                some (r2.1.1, r4.1.1, r6.1.1, r10.1.1, ())
            else
              some (r2.1.1, r4.1.1, r6.1.1, false, ()) : Option ((PV S_string × PV S_impl_Hunk × PV S_impl_Hunk × PV .bool × Unit)))).bind fun j11 =>
          bif j11.2.2.2.1 then
            bif cutB 0 1 j11.2.1.length then
              bif cutB 1 (j11.2.1.length : Int) j11.2.1.length then
                some ((j11.1, (cutL 0 1 j11.2.1), (cutL 1 (j11.2.1.length : Int) j11.2.1), ()), ())
              else
                none
            else
              none
          else
            ((
                bif (decide ((j11.2.2.1.length : Int) > 1)) then
                  bif cutB 1 (j11.2.2.1.length : Int) j11.2.2.1.length then
                    some (j11.1, j11.2.1, (cutL 1 (j11.2.2.1.length : Int) j11.2.2.1), ())
                  else
                    none
                else
                  some (j11.1, j11.2.1, j11.2.2.1, ()) : Option ((PV S_string × PV S_impl_Hunk × PV S_impl_Hunk × Unit)))).bind fun j12 =>
              (f_S_l1Least 1 (j12.2.1.length : Int)).bind fun r13 =>
                bif cutB 0 r13.1.1 j12.2.1.length then
                  some ((j12.1, (cutL 0 r13.1.1 j12.2.1), j12.2.2.1, ()), ())
                else
                  none
noncomputable def ct_S_DrawMoveHunks : Ct := ⟨[(.bor, S_uint8)], [(S_string, .b), (S_impl_Hunk, .b), (S_impl_Hunk, .b)], fun x => f_S_DrawMoveHunks x.1⟩
noncomputable def cx_S_DrawMoveHunks : Cx := ⟨tab, arrs, [(80, ct_S_l1Cur_text), (81, ct_S_l1Cur_hunks), (82, ct_S_l1Cur_one), (83, ct_S_l1Least)], [], gl, []⟩
theorem ef_S_DrawMoveHunks (t0 : PV S_uint8) : denF cx_S_DrawMoveHunks 0 pl_S_DrawMoveHunks Try.f32.ntmps (bodyOf Try.f32) Try.f32.results.toList [(.bor, S_uint8)] [(S_string, .b), (S_impl_Hunk, .b), (S_impl_Hunk, .b)] (t0, ()) = f_S_DrawMoveHunks t0 := by kernel_rfl
theorem ok_S_DrawMoveHunks : FnOk gl Try.prog 32 ct_S_DrawMoveHunks :=
  fnOk (cx := cx_S_DrawMoveHunks) (pl := pl_S_DrawMoveHunks) (dp := 0) (ok0_of tabOk (by unfold ArrOk; kernel_rfl) mix ⟨ok_S_l1Cur_text, ok_S_l1Cur_hunks, ok_S_l1Cur_one, ok_S_l1Least, trivial⟩ trivial) Try.func32 (by kernel_rfl) (by kernel_rfl) (by kernel_rfl)
    (by rw [show loopsOf (bodyOf Try.f32) = [] from by kernel_rfl]; exact trivial) (fun x => ef_S_DrawMoveHunks x.1)
noncomputable def pl_S_DrawCanSwap : Plan := ⟨[], [], 0, 0⟩
noncomputable def f_S_DrawCanSwap (t0 : PV S_uint8) : Option (PVs [S_string, S_impl_Hunk, S_impl_Hunk] × PVs []) :=
  (f_S_DrawMoveHunks t0).bind fun r1 =>
    some ((r1.1.1, r1.1.2.1, r1.1.2.2.1, ()), ())
noncomputable def ct_S_DrawCanSwap : Ct := ⟨[(.bor, S_uint8)], [(S_string, .b), (S_impl_Hunk, .b), (S_impl_Hunk, .b)], fun x => f_S_DrawCanSwap x.1⟩
noncomputable def cx_S_DrawCanSwap : Cx := ⟨tab, arrs, [(32, ct_S_DrawMoveHunks)], [], gl, []⟩
theorem ef_S_DrawCanSwap (t0 : PV S_uint8) : denF cx_S_DrawCanSwap 0 pl_S_DrawCanSwap Try.f7.ntmps (bodyOf Try.f7) Try.f7.results.toList [(.bor, S_uint8)] [(S_string, .b), (S_impl_Hunk, .b), (S_impl_Hunk, .b)] (t0, ()) = f_S_DrawCanSwap t0 := by kernel_rfl
theorem ok_S_DrawCanSwap : FnOk gl Try.prog 7 ct_S_DrawCanSwap :=
  fnOk (cx := cx_S_DrawCanSwap) (pl := pl_S_DrawCanSwap) (dp := 0) (ok0_of tabOk (by unfold ArrOk; kernel_rfl) mix ⟨ok_S_DrawMoveHunks, trivial⟩ trivial) Try.func7 (by kernel_rfl) (by kernel_rfl) (by kernel_rfl)
    (by rw [show loopsOf (bodyOf Try.f7) = [] from by kernel_rfl]; exact trivial) (fun x => ef_S_DrawCanSwap x.1)
noncomputable def pl_I_in : Plan := ⟨[], [], 0, 0⟩
noncomputable def f_I_in (t0 : PV (.int .i64)) (t1 : PV (.int .i64)) (t2 : PV (.int .i64)) : Option (PVs [.bool] × PVs []) :=
  bif (decide (t0 ≥ t1)) then
    some (((decide (t0 ≤ t2)), ()), ())
  else
    some ((false, ()), ())
noncomputable def ct_I_in : Ct := ⟨[(.bor, (.int .i64)), (.bor, (.int .i64)), (.bor, (.int .i64))], [(.bool, .b)], fun x => f_I_in x.1 x.2.1 x.2.2.1⟩
noncomputable def cx_I_in : Cx := ⟨tab, arrs, [], [], gl, []⟩
theorem ef_I_in (t0 : PV (.int .i64)) (t1 : PV (.int .i64)) (t2 : PV (.int .i64)) : denF cx_I_in 0 pl_I_in Try.f56.ntmps (bodyOf Try.f56) Try.f56.results.toList [(.bor, (.int .i64)), (.bor, (.int .i64)), (.bor, (.int .i64))] [(.bool, .b)] (t0, t1, t2, ()) = f_I_in t0 t1 t2 := by kernel_rfl
theorem ok_I_in : FnOk gl Try.prog 56 ct_I_in :=
  fnOk (cx := cx_I_in) (pl := pl_I_in) (dp := 0) (ok0_of tabOk (by unfold ArrOk; kernel_rfl) mix trivial trivial) Try.func56 (by kernel_rfl) (by kernel_rfl) (by kernel_rfl)
    (by rw [show loopsOf (bodyOf Try.f56) = [] from by kernel_rfl]; exact trivial) (fun x => ef_I_in x.1 x.2.1 x.2.2.1)
noncomputable def pl_I_isLine : Plan := ⟨[], [], 0, 0⟩
noncomputable def f_I_isLine (t0 : PV .str) : Option (PVs [.bool] × PVs []) :=
  (f_I_in (t0.length : Int) 1 30).bind fun r1 =>
    bif r1.1.1 then
      bif cutB 0 (IntKind.wrap .i64 ((t0.length : Int) - 1)) t0.length then
        (f_strings_Contains (cutL 0 (IntKind.wrap .i64 ((t0.length : Int) - 1)) t0) [10]).bind fun r2 =>
          some (((!r2.1.1), ()), ())
      else
        none
    else
      some ((false, ()), ())
noncomputable def ct_I_isLine : Ct := ⟨[(.bor, .str)], [(.bool, .b)], fun x => f_I_isLine x.1⟩
noncomputable def cx_I_isLine : Cx := ⟨tab, arrs, [(56, ct_I_in), (138, ct_strings_Contains)], [], gl, []⟩
theorem ef_I_isLine (t0 : PV .str) : denF cx_I_isLine 0 pl_I_isLine Try.f124.ntmps (bodyOf Try.f124) Try.f124.results.toList [(.bor, .str)] [(.bool, .b)] (t0, ()) = f_I_isLine t0 := by kernel_rfl
theorem ok_I_isLine : FnOk gl Try.prog 124 ct_I_isLine :=
  fnOk (cx := cx_I_isLine) (pl := pl_I_isLine) (dp := 0) (ok0_of tabOk (by unfold ArrOk; kernel_rfl) mix ⟨ok_I_in, ok_strings_Contains, trivial⟩ trivial) Try.func124 (by kernel_rfl) (by kernel_rfl) (by kernel_rfl)
    (by rw [show loopsOf (bodyOf Try.f124) = [] from by kernel_rfl]; exact trivial) (fun x => ef_I_isLine x.1)
noncomputable def pl_I_areLines_1 : Plan := ⟨[], [], 0, 0⟩
noncomputable def f_I_areLines_1 (t0 : PV .str) : Option (PVs [.bool] × PVs []) :=
  (f_I_isLine t0).bind fun r1 =>
    some (((!r1.1.1), ()), ())
noncomputable def ct_I_areLines_1 : Ct := ⟨[(.bor, .str)], [(.bool, .b)], fun x => f_I_areLines_1 x.1⟩
noncomputable def cx_I_areLines_1 : Cx := ⟨tab, arrs, [(124, ct_I_isLine)], [], gl, []⟩
theorem ef_I_areLines_1 (t0 : PV .str) : denF cx_I_areLines_1 0 pl_I_areLines_1 Try.f123.ntmps (bodyOf Try.f123) Try.f123.results.toList [(.bor, .str)] [(.bool, .b)] (t0, ()) = f_I_areLines_1 t0 := by kernel_rfl
theorem ok_I_areLines_1 : FnOk gl Try.prog 123 ct_I_areLines_1 :=
  fnOk (cx := cx_I_areLines_1) (pl := pl_I_areLines_1) (dp := 0) (ok0_of tabOk (by unfold ArrOk; kernel_rfl) mix ⟨ok_I_isLine, trivial⟩ trivial) Try.func123 (by kernel_rfl) (by kernel_rfl) (by kernel_rfl)
    (by rw [show loopsOf (bodyOf Try.f123) = [] from by kernel_rfl]; exact trivial) (fun x => ef_I_areLines_1 x.1)
noncomputable def pl_I_areLines_122 : Plan := ⟨[], [], 1, 11⟩
noncomputable def sh_I_areLines_137_2 : List Sh := mkSh 39 [(0, .val S_string .b), (2, .val .bool .b), (3, .val S_string .b), (4, .val (.int .i64) .b), (5, .val .bool .b), (6, .val .bool .b), (7, .val S_string .b), (11, .val S_string .b), (12, .fn 123 []), (15, .val .bool .b), (16, .val S_string .b), (17, .fn 123 []), (20, .val S_string .b), (21, .fn 123 []), (27, .val (.int .i64) .b), (28, .val (.int .i64) .b)]
noncomputable def o_I_areLines_137_2 : List Out := [⟨.exit 0, ⟨[], [], []⟩, mkSh 39 [(0, .val S_string .b), (2, .val .bool .b), (3, .val S_string .b), (4, .val (.int .i64) .b), (5, .val .bool .b), (6, .val .bool .b), (7, .val S_string .b), (11, .val S_string .b), (12, .fn 123 []), (15, .val .bool .b), (16, .val S_string .b), (17, .fn 123 [])]⟩, ⟨.ret, ⟨[], [4], []⟩, mkSh 39 [(0, .val S_string .b), (2, .val .bool .b), (3, .val S_string .b), (4, .val (.int .i64) .b), (5, .val .bool .b), (6, .val .bool .b), (7, .val S_string .b), (11, .val S_string .b), (12, .fn 123 []), (15, .val .bool .b), (16, .val S_string .b), (17, .fn 123 []), (24, .val (.int .i64) .b)]⟩]
noncomputable def b_I_areLines_137_2 (t0 : PV S_string) (t2 : PV .bool) (t3 : PV S_string) (t4 : PV (.int .i64)) (t5 : PV .bool) (t6 : PV .bool) (t7 : PV S_string) (t11 : PV S_string) (t15 : PV .bool) (t16 : PV S_string) (t20 : PV S_string) (t27 : PV (.int .i64)) (t28 : PV (.int .i64)) : Option ((PV S_string × PV .bool × PV S_string × PV (.int .i64) × PV .bool × PV .bool × PV S_string × PV S_string × PV .bool × PV S_string × PV S_string × PV (.int .i64) × PV (.int .i64) × Unit) ⊕ ((PV S_string × PV .bool × PV S_string × PV (.int .i64) × PV .bool × PV .bool × PV S_string × PV S_string × PV .bool × PV S_string × Unit) ⊕ (PV S_string × PV .bool × PV S_string × PV (.int .i64) × PV .bool × PV .bool × PV S_string × PV S_string × PV .bool × PV S_string × PV (.int .i64) × Unit))) :=
  bif (decide (t28 < t27)) then
    bif inB t28 t20.length then
      (f_I_areLines_1 (t20.getD t28.toNat [])).bind fun r4 =>
        bif r4.1.1 then
          some (.inr (.inr (t0, t2, t3, t4, t5, t6, t7, t11, t15, t16, t28, ())))
        else
          some (.inl (t0, t2, t3, t4, t5, t6, t7, t11, t15, t16, t20, t27, (IntKind.wrap .i64 (t28 + 1)), ()))
    else
      none
  else
    some (.inr (.inl (t0, t2, t3, t4, t5, t6, t7, t11, t15, t16, ())))
noncomputable def w_I_areLines_137_2 : PV S_string × PV .bool × PV S_string × PV (.int .i64) × PV .bool × PV .bool × PV S_string × PV S_string × PV .bool × PV S_string × PV S_string × PV (.int .i64) × PV (.int .i64) × Unit → Option ((PV S_string × PV .bool × PV S_string × PV (.int .i64) × PV .bool × PV .bool × PV S_string × PV S_string × PV .bool × PV S_string × Unit) ⊕ (PV S_string × PV .bool × PV S_string × PV (.int .i64) × PV .bool × PV .bool × PV S_string × PV S_string × PV .bool × PV S_string × PV (.int .i64) × Unit)) := fix fun d => b_I_areLines_137_2 d.1 d.2.1 d.2.2.1 d.2.2.2.1 d.2.2.2.2.1 d.2.2.2.2.2.1 d.2.2.2.2.2.2.1 d.2.2.2.2.2.2.2.1 d.2.2.2.2.2.2.2.2.1 d.2.2.2.2.2.2.2.2.2.1 d.2.2.2.2.2.2.2.2.2.2.1 d.2.2.2.2.2.2.2.2.2.2.2.1 d.2.2.2.2.2.2.2.2.2.2.2.2.1
noncomputable def lp_I_areLines_137_2 : Lp := ⟨⟨[], [0, 1, 7, 8], []⟩, sh_I_areLines_137_2, o_I_areLines_137_2, fun d => b_I_areLines_137_2 d.1 d.2.1 d.2.2.1 d.2.2.2.1 d.2.2.2.2.1 d.2.2.2.2.2.1 d.2.2.2.2.2.2.1 d.2.2.2.2.2.2.2.1 d.2.2.2.2.2.2.2.2.1 d.2.2.2.2.2.2.2.2.2.1 d.2.2.2.2.2.2.2.2.2.2.1 d.2.2.2.2.2.2.2.2.2.2.2.1 d.2.2.2.2.2.2.2.2.2.2.2.2.1⟩
noncomputable def pl_I_areLines_137 : Plan := ⟨[], [(2, lp_I_areLines_137_2)], 0, 20⟩
noncomputable def pl_I_areLines : Plan := ⟨[], [], 2, 0⟩
noncomputable def f_I_areLines (t0 : PV S_string) : Option (PVs [.bool] × PVs []) :=
  bif (decide ((t0.length : Int) ≤ 40)) then
    (w_I_areLines_137_2 (t0, false, t0, (t0.length : Int), (decide ((t0.length : Int) ≤ 40)), true, t0, t0, false, t0, t0, (t0.length : Int), 0, ())).bind fun x9 =>
      match x9 with
      | .inl l7 =>
        bif l7.2.2.2.2.2.1 then
          some (((!(decide ((-1) ≥ 0))), ()), ())
        else
          some ((false, ()), ())
      | .inr l8 =>
        bif l8.2.2.2.2.2.1 then
          some (((!(decide (l8.2.2.2.2.2.2.2.2.2.2.1 ≥ 0))), ()), ())
        else
          some ((false, ()), ())
  else
    some ((false, ()), ())
noncomputable def ct_I_areLines : Ct := ⟨[(.bor, S_string)], [(.bool, .b)], fun x => f_I_areLines x.1⟩
noncomputable def cx_I_areLines : Cx := ⟨tab, arrs, [(123, ct_I_areLines_1)], [(122, Try.f122, pl_I_areLines_122), (137, Try.f137, pl_I_areLines_137)], gl, []⟩
theorem eb_I_areLines_137_2 (t0 : PV S_string) (t2 : PV .bool) (t3 : PV S_string) (t4 : PV (.int .i64)) (t5 : PV .bool) (t6 : PV .bool) (t7 : PV S_string) (t11 : PV S_string) (t15 : PV .bool) (t16 : PV S_string) (t20 : PV S_string) (t27 : PV (.int .i64)) (t28 : PV (.int .i64)) : denK cx_I_areLines (rcN cx_I_areLines 0) pl_I_areLines_137 20 ((loopsOf (bodyOf Try.f137)).getD 0 .skip) (fillS sh_I_areLines_137_2 (t0, t2, t3, t4, t5, t6, t7, t11, t15, t16, t20, t27, t28, ())) (roundK 20 lp_I_areLines_137_2) = b_I_areLines_137_2 t0 t2 t3 t4 t5 t6 t7 t11 t15 t16 t20 t27 t28 := by kernel_rfl
theorem ef_I_areLines (t0 : PV S_string) : denF cx_I_areLines 2 pl_I_areLines Try.f89.ntmps (bodyOf Try.f89) Try.f89.results.toList [(.bor, S_string)] [(.bool, .b)] (t0, ()) = f_I_areLines t0 := by kernel_rfl
theorem ok_I_areLines : FnOk gl Try.prog 89 ct_I_areLines :=
  fnOk (cx := cx_I_areLines) (pl := pl_I_areLines) (dp := 2) (ok0_of tabOk (by unfold ArrOk; kernel_rfl) mix ⟨ok_I_areLines_1, trivial⟩ ⟨⟨Try.func122, by kernel_rfl, (by rw [show loopsOf (bodyOf Try.f122) = [] from by kernel_rfl]; exact trivial)⟩, ⟨Try.func137, by kernel_rfl, (by rw [show loopsOf (bodyOf Try.f137) = [((loopsOf (bodyOf Try.f137)).getD 0 .skip)] from by kernel_rfl]; exact ⟨(by rw [show lookup pl_I_areLines_137.loops (firstId ((loopsOf (bodyOf Try.f137)).getD 0 .skip)) = some lp_I_areLines_137_2 from by kernel_rfl]; exact fun d z h => (eb_I_areLines_137_2 d.1 d.2.1 d.2.2.1 d.2.2.2.1 d.2.2.2.2.1 d.2.2.2.2.2.1 d.2.2.2.2.2.2.1 d.2.2.2.2.2.2.2.1 d.2.2.2.2.2.2.2.2.1 d.2.2.2.2.2.2.2.2.2.1 d.2.2.2.2.2.2.2.2.2.2.1 d.2.2.2.2.2.2.2.2.2.2.2.1 d.2.2.2.2.2.2.2.2.2.2.2.2.1).trans h), trivial⟩)⟩, trivial⟩) Try.func89 (by kernel_rfl) (by kernel_rfl) (by kernel_rfl)
    (by rw [show loopsOf (bodyOf Try.f89) = [] from by kernel_rfl]; exact trivial) (fun x => ef_I_areLines x.1)
noncomputable def pl_internal_stringslite_HasSuffix : Plan := ⟨[], [], 0, 0⟩
noncomputable def f_internal_stringslite_HasSuffix (t0 : PV .str) (t1 : PV .str) : Option (PVs [.bool] × PVs []) :=
  bif (decide ((t0.length : Int) ≥ (t1.length : Int))) then
    bif cutB (IntKind.wrap .i64 ((t0.length : Int) - (t1.length : Int))) (t0.length : Int) t0.length then
      some ((((cutL (IntKind.wrap .i64 ((t0.length : Int) - (t1.length : Int))) (t0.length : Int) t0) == t1), ()), ())
    else
      none
  else
    some ((false, ()), ())
noncomputable def ct_internal_stringslite_HasSuffix : Ct := ⟨[(.bor, .str), (.bor, .str)], [(.bool, .b)], fun x => f_internal_stringslite_HasSuffix x.1 x.2.1⟩
noncomputable def cx_internal_stringslite_HasSuffix : Cx := ⟨tab, arrs, [], [], gl, []⟩
theorem ef_internal_stringslite_HasSuffix (t0 : PV .str) (t1 : PV .str) : denF cx_internal_stringslite_HasSuffix 0 pl_internal_stringslite_HasSuffix Try.f139.ntmps (bodyOf Try.f139) Try.f139.results.toList [(.bor, .str), (.bor, .str)] [(.bool, .b)] (t0, t1, ()) = f_internal_stringslite_HasSuffix t0 t1 := by kernel_rfl
theorem ok_internal_stringslite_HasSuffix : FnOk gl Try.prog 139 ct_internal_stringslite_HasSuffix :=
  fnOk (cx := cx_internal_stringslite_HasSuffix) (pl := pl_internal_stringslite_HasSuffix) (dp := 0) (ok0_of tabOk (by unfold ArrOk; kernel_rfl) mix trivial trivial) Try.func139 (by kernel_rfl) (by kernel_rfl) (by kernel_rfl)
    (by rw [show loopsOf (bodyOf Try.f139) = [] from by kernel_rfl]; exact trivial) (fun x => ef_internal_stringslite_HasSuffix x.1 x.2.1)
noncomputable def pl_strings_HasSuffix : Plan := ⟨[], [], 0, 0⟩
noncomputable def f_strings_HasSuffix (t0 : PV .str) (t1 : PV .str) : Option (PVs [.bool] × PVs []) :=
  (f_internal_stringslite_HasSuffix t0 t1).bind fun r1 =>
    some ((r1.1.1, ()), ())
noncomputable def ct_strings_HasSuffix : Ct := ⟨[(.bor, .str), (.bor, .str)], [(.bool, .b)], fun x => f_strings_HasSuffix x.1 x.2.1⟩
noncomputable def cx_strings_HasSuffix : Cx := ⟨tab, arrs, [(139, ct_internal_stringslite_HasSuffix)], [], gl, []⟩
theorem ef_strings_HasSuffix (t0 : PV .str) (t1 : PV .str) : denF cx_strings_HasSuffix 0 pl_strings_HasSuffix Try.f125.ntmps (bodyOf Try.f125) Try.f125.results.toList [(.bor, .str), (.bor, .str)] [(.bool, .b)] (t0, t1, ()) = f_strings_HasSuffix t0 t1 := by kernel_rfl
theorem ok_strings_HasSuffix : FnOk gl Try.prog 125 ct_strings_HasSuffix :=
  fnOk (cx := cx_strings_HasSuffix) (pl := pl_strings_HasSuffix) (dp := 0) (ok0_of tabOk (by unfold ArrOk; kernel_rfl) mix ⟨ok_internal_stringslite_HasSuffix, trivial⟩ trivial) Try.func125 (by kernel_rfl) (by kernel_rfl) (by kernel_rfl)
    (by rw [show loopsOf (bodyOf Try.f125) = [] from by kernel_rfl]; exact trivial) (fun x => ef_strings_HasSuffix x.1 x.2.1)
noncomputable def pl_I_isEnded : Plan := ⟨[], [], 0, 0⟩
noncomputable def f_I_isEnded (t0 : PV .str) : Option (PVs [.bool] × PVs []) :=
  (f_strings_HasSuffix t0 [10]).bind fun r1 =>
    some ((r1.1.1, ()), ())
noncomputable def ct_I_isEnded : Ct := ⟨[(.bor, .str)], [(.bool, .b)], fun x => f_I_isEnded x.1⟩
noncomputable def cx_I_isEnded : Cx := ⟨tab, arrs, [(125, ct_strings_HasSuffix)], [], gl, []⟩
theorem ef_I_isEnded (t0 : PV .str) : denF cx_I_isEnded 0 pl_I_isEnded Try.f90.ntmps (bodyOf Try.f90) Try.f90.results.toList [(.bor, .str)] [(.bool, .b)] (t0, ()) = f_I_isEnded t0 := by kernel_rfl
theorem ok_I_isEnded : FnOk gl Try.prog 90 ct_I_isEnded :=
  fnOk (cx := cx_I_isEnded) (pl := pl_I_isEnded) (dp := 0) (ok0_of tabOk (by unfold ArrOk; kernel_rfl) mix ⟨ok_strings_HasSuffix, trivial⟩ trivial) Try.func90 (by kernel_rfl) (by kernel_rfl) (by kernel_rfl)
    (by rw [show loopsOf (bodyOf Try.f90) = [] from by kernel_rfl]; exact trivial) (fun x => ef_I_isEnded x.1)
noncomputable def o_I_goodLines_7 : List Out := [⟨.normal, ⟨[], [0, 8, 9, 10, 24], []⟩, mkSh 26 [(0, .val S_string .b), (8, .val S_string .b), (9, .val (.int .i64) .b), (10, .val (.int .i64) .b), (24, .val .bool .b)]⟩]
noncomputable def sh_I_goodLines_4 : List Sh := mkSh 26 [(0, .val S_string .b), (8, .val S_string .b), (9, .val (.int .i64) .b), (10, .val (.int .i64) .b)]
noncomputable def o_I_goodLines_4 : List Out := [⟨.exit 0, ⟨[], [], []⟩, mkSh 26 []⟩, ⟨.ret, ⟨[], [2], []⟩, mkSh 26 [(2, .val .bool .b)]⟩]
noncomputable def b_I_goodLines_4 (t0 : PV S_string) (t8 : PV S_string) (t9 : PV (.int .i64)) (t10 : PV (.int .i64)) : Option ((PV S_string × PV S_string × PV (.int .i64) × PV (.int .i64) × Unit) ⊕ ((Unit) ⊕ (PV .bool × Unit))) :=
  bif (decide (t10 < t9)) then
    bif inB t10 t8.length then
      ((
          bif (decide (t10 < (IntKind.wrap .i64 ((t0.length : Int) - 1)))) then
            (f_I_isEnded (t8.getD t10.toNat [])).bind fun r7 =>
              some (t0, t8, t9, t10, (!r7.1.1), ())
          else
            some (t0, t8, t9, t10, false, ()) : Option ((PV S_string × PV S_string × PV (.int .i64) × PV (.int .i64) × PV .bool × Unit)))).bind fun j8 =>
        bif j8.2.2.2.2.1 then
          some (.inr (.inr (false, ())))
        else
          some (.inl (j8.1, j8.2.1, j8.2.2.1, (IntKind.wrap .i64 (j8.2.2.2.1 + 1)), ()))
    else
      none
  else
    some (.inr (.inl ()))
noncomputable def w_I_goodLines_4 : PV S_string × PV S_string × PV (.int .i64) × PV (.int .i64) × Unit → Option ((Unit) ⊕ (PV .bool × Unit)) := fix fun d => b_I_goodLines_4 d.1 d.2.1 d.2.2.1 d.2.2.2.1
noncomputable def lp_I_goodLines_4 : Lp := ⟨⟨[], [0, 8, 9, 10, 21, 22, 23], []⟩, sh_I_goodLines_4, o_I_goodLines_4, fun d => b_I_goodLines_4 d.1 d.2.1 d.2.2.1 d.2.2.2.1⟩
noncomputable def pl_I_goodLines : Plan := ⟨[(7, o_I_goodLines_7)], [(4, lp_I_goodLines_4)], 0, 0⟩
noncomputable def f_I_goodLines (t0 : PV S_string) : Option (PVs [.bool] × PVs []) :=
  (f_I_areLines t0).bind fun r4 =>
    bif (!r4.1.1) then
      some ((false, ()), ())
    else
      (w_I_goodLines_4 (t0, t0, (t0.length : Int), 0, ())).bind fun x13 =>
        match x13 with
        | .inl l11 =>
          some ((true, ()), ())
        | .inr l12 =>
          some ((l12.1, ()), ())
noncomputable def ct_I_goodLines : Ct := ⟨[(.bor, S_string)], [(.bool, .b)], fun x => f_I_goodLines x.1⟩
noncomputable def cx_I_goodLines : Cx := ⟨tab, arrs, [(89, ct_I_areLines), (90, ct_I_isEnded)], [], gl, []⟩
theorem eb_I_goodLines_4 (t0 : PV S_string) (t8 : PV S_string) (t9 : PV (.int .i64)) (t10 : PV (.int .i64)) : denK cx_I_goodLines (rcN cx_I_goodLines 0) pl_I_goodLines 0 ((loopsOf (bodyOf Try.f40)).getD 0 .skip) (fillS sh_I_goodLines_4 (t0, t8, t9, t10, ())) (roundK 0 lp_I_goodLines_4) = b_I_goodLines_4 t0 t8 t9 t10 := by kernel_rfl
theorem ef_I_goodLines (t0 : PV S_string) : denF cx_I_goodLines 0 pl_I_goodLines Try.f40.ntmps (bodyOf Try.f40) Try.f40.results.toList [(.bor, S_string)] [(.bool, .b)] (t0, ()) = f_I_goodLines t0 := by kernel_rfl
theorem ok_I_goodLines : FnOk gl Try.prog 40 ct_I_goodLines :=
  fnOk (cx := cx_I_goodLines) (pl := pl_I_goodLines) (dp := 0) (ok0_of tabOk (by unfold ArrOk; kernel_rfl) mix ⟨ok_I_areLines, ok_I_isEnded, trivial⟩ trivial) Try.func40 (by kernel_rfl) (by kernel_rfl) (by kernel_rfl)
    (by rw [show loopsOf (bodyOf Try.f40) = [((loopsOf (bodyOf Try.f40)).getD 0 .skip)] from by kernel_rfl]; exact ⟨(by rw [show lookup pl_I_goodLines.loops (firstId ((loopsOf (bodyOf Try.f40)).getD 0 .skip)) = some lp_I_goodLines_4 from by kernel_rfl]; exact fun d z h => (eb_I_goodLines_4 d.1 d.2.1 d.2.2.1 d.2.2.2.1).trans h), trivial⟩) (fun x => ef_I_goodLines x.1)
noncomputable def o_I_goodHunks_2 : List Out := [⟨.normal, ⟨[], [0, 1, 14, 28, 29, 30, 31, 32, 33, 34, 35, 38, 39, 40, 41, 44, 45, 46, 47, 48, 49, 50, 51, 52, 57, 58, 59, 60, 61, 62, 63, 64, 65, 66, 67, 68, 69, 70, 71, 72], []⟩, mkSh 75 [(0, .val (.int .i64) .b), (1, .val S_impl_Hunk .b), (14, .val .bool .b)]⟩]
noncomputable def o_I_goodHunks_7 : List Out := [⟨.normal, ⟨[], [0, 1, 5, 6, 15, 16, 17, 53, 57, 58, 59, 60, 61, 62, 63, 64, 65, 66, 67, 68, 69, 70, 71, 72], []⟩, mkSh 75 [(0, .val (.int .i64) .b), (1, .val S_impl_Hunk .b), (5, .val (.int .i64) .b), (6, .var Y_impl_Hunk .b), (15, .val S_impl_Hunk .b), (16, .val (.int .i64) .b), (17, .val (.int .i64) .b), (53, .val .bool .b)]⟩]
noncomputable def o_I_goodHunks_9 : List Out := [⟨.normal, ⟨[], [0, 1, 6, 15, 16, 17, 28, 29, 30, 31, 32, 33, 34, 35, 38, 39, 40, 41, 44, 45, 46, 47, 48, 49, 50, 51, 52, 73], []⟩, mkSh 75 [(0, .val (.int .i64) .b), (1, .val S_impl_Hunk .b), (6, .var Y_impl_Hunk .b), (15, .val S_impl_Hunk .b), (16, .val (.int .i64) .b), (17, .val (.int .i64) .b), (73, .val .bool .b)]⟩]
noncomputable def sh_I_goodHunks_4 : List Sh := mkSh 75 [(0, .val (.int .i64) .b), (1, .val S_impl_Hunk .b), (15, .val S_impl_Hunk .b), (16, .val (.int .i64) .b), (17, .val (.int .i64) .b)]
noncomputable def o_I_goodHunks_4 : List Out := [⟨.exit 0, ⟨[], [], []⟩, mkSh 75 []⟩, ⟨.ret, ⟨[], [4], []⟩, mkSh 75 [(4, .val .bool .b)]⟩]
noncomputable def b_I_goodHunks_4 (t0 : PV (.int .i64)) (t1 : PV S_impl_Hunk) (t15 : PV S_impl_Hunk) (t16 : PV (.int .i64)) (t17 : PV (.int .i64)) : Option ((PV (.int .i64) × PV S_impl_Hunk × PV S_impl_Hunk × PV (.int .i64) × PV (.int .i64) × Unit) ⊕ ((Unit) ⊕ (PV .bool × Unit))) :=
  bif (decide (t17 < t16)) then
    bif inB t17 t15.length then
      ((
          (f_I_in ((t15.getD t17.toNat (dflt Y_impl_Hunk)).1) 0 t0).bind fun r19 =>
            bif (!r19.1.1) then
              some (t0, t1, t17, (t15.getD t17.toNat (dflt Y_impl_Hunk)), t15, t16, t17, true, ())
            else
              (f_I_in (((t15.getD t17.toNat (dflt Y_impl_Hunk)).2).1) 0 (IntKind.wrap .i64 (t0 - ((t15.getD t17.toNat (dflt Y_impl_Hunk)).1)))).bind fun r20 =>
                bif (!r20.1.1) then
                  some (t0, t1, t17, (t15.getD t17.toNat (dflt Y_impl_Hunk)), t15, t16, t17, true, ())
                else
                  (f_I_areLines ((((t15.getD t17.toNat (dflt Y_impl_Hunk)).2).2).1)).bind fun r21 =>
                    bif (!r21.1.1) then
                      some (t0, t1, t17, (t15.getD t17.toNat (dflt Y_impl_Hunk)), t15, t16, t17, true, ())
                    else
                      bif ((((t15.getD t17.toNat (dflt Y_impl_Hunk)).2).1) == 0) then
                        some (t0, t1, t17, (t15.getD t17.toNat (dflt Y_impl_Hunk)), t15, t16, t17, ((((((t15.getD t17.toNat (dflt Y_impl_Hunk)).2).2).1).length : Int) == 0), ())
                      else
                        some (t0, t1, t17, (t15.getD t17.toNat (dflt Y_impl_Hunk)), t15, t16, t17, false, ()) : Option ((PV (.int .i64) × PV S_impl_Hunk × PV (.int .i64) × PV Y_impl_Hunk × PV S_impl_Hunk × PV (.int .i64) × PV (.int .i64) × PV .bool × Unit)))).bind fun j22 =>
        bif j22.2.2.2.2.2.2.2.1 then
          some (.inr (.inr (false, ())))
        else
          ((
              bif (decide (j22.2.2.1 > 0)) then
                bif inB (IntKind.wrap .i64 (j22.2.2.1 - 1)) j22.2.1.length then
                  bif inB (IntKind.wrap .i64 (j22.2.2.1 - 1)) j22.2.1.length then
                    some (j22.1, j22.2.1, j22.2.2.2.1, j22.2.2.2.2.1, j22.2.2.2.2.2.1, j22.2.2.2.2.2.2.1, (decide (j22.2.2.2.1.1 ≤ (IntKind.wrap .i64 (((j22.2.1.getD ((IntKind.wrap .i64 (j22.2.2.1 - 1)).toNat) (dflt Y_impl_Hunk)).1) + (((j22.2.1.getD ((IntKind.wrap .i64 (j22.2.2.1 - 1)).toNat) (dflt Y_impl_Hunk)).2).1))))), ())
                  else
                    none
                else
                  none
              else
                some (j22.1, j22.2.1, j22.2.2.2.1, j22.2.2.2.2.1, j22.2.2.2.2.2.1, j22.2.2.2.2.2.2.1, false, ()) : Option ((PV (.int .i64) × PV S_impl_Hunk × PV Y_impl_Hunk × PV S_impl_Hunk × PV (.int .i64) × PV (.int .i64) × PV .bool × Unit)))).bind fun j23 =>
            bif j23.2.2.2.2.2.2.1 then
              some (.inr (.inr (false, ())))
            else
              some (.inl (j23.1, j23.2.1, j23.2.2.2.1, j23.2.2.2.2.1, (IntKind.wrap .i64 (j23.2.2.2.2.2.1 + 1)), ()))
    else
      none
  else
    some (.inr (.inl ()))
noncomputable def w_I_goodHunks_4 : PV (.int .i64) × PV S_impl_Hunk × PV S_impl_Hunk × PV (.int .i64) × PV (.int .i64) × Unit → Option ((Unit) ⊕ (PV .bool × Unit)) := fix fun d => b_I_goodHunks_4 d.1 d.2.1 d.2.2.1 d.2.2.2.1 d.2.2.2.2.1
noncomputable def lp_I_goodHunks_4 : Lp := ⟨⟨[], [0, 1, 15, 16, 17, 28, 29, 30, 31, 32, 33, 34, 35, 38, 39, 40, 41, 44, 45, 46, 47, 48, 49, 50, 51, 52, 57, 58, 59, 60, 61, 62, 63, 64, 65, 66, 67, 68, 69, 70, 71, 72], []⟩, sh_I_goodHunks_4, o_I_goodHunks_4, fun d => b_I_goodHunks_4 d.1 d.2.1 d.2.2.1 d.2.2.2.1 d.2.2.2.2.1⟩
noncomputable def pl_I_goodHunks : Plan := ⟨[(2, o_I_goodHunks_2), (7, o_I_goodHunks_7), (9, o_I_goodHunks_9)], [(4, lp_I_goodHunks_4)], 0, 0⟩
noncomputable def f_I_goodHunks (t0 : PV (.int .i64)) (t1 : PV S_impl_Hunk) : Option (PVs [.bool] × PVs []) :=
  ((
      (f_I_in t0 0 40).bind fun r4 =>
        bif (!r4.1.1) then
          some (t0, t1, true, ())
        else
          some (t0, t1, (decide ((t1.length : Int) > 20)), ()) : Option ((PV (.int .i64) × PV S_impl_Hunk × PV .bool × Unit)))).bind fun j5 =>
    bif j5.2.2.1 then
      some ((false, ()), ())
    else
      (w_I_goodHunks_4 (j5.1, j5.2.1, j5.2.1, (j5.2.1.length : Int), 0, ())).bind fun x28 =>
        match x28 with
        | .inl l26 =>
          some ((true, ()), ())
        | .inr l27 =>
          some ((l27.1, ()), ())
noncomputable def ct_I_goodHunks : Ct := ⟨[(.bor, (.int .i64)), (.bor, S_impl_Hunk)], [(.bool, .b)], fun x => f_I_goodHunks x.1 x.2.1⟩
noncomputable def cx_I_goodHunks : Cx := ⟨tab, arrs, [(56, ct_I_in), (89, ct_I_areLines)], [], gl, []⟩
theorem eb_I_goodHunks_4 (t0 : PV (.int .i64)) (t1 : PV S_impl_Hunk) (t15 : PV S_impl_Hunk) (t16 : PV (.int .i64)) (t17 : PV (.int .i64)) : denK cx_I_goodHunks (rcN cx_I_goodHunks 0) pl_I_goodHunks 0 ((loopsOf (bodyOf Try.f41)).getD 0 .skip) (fillS sh_I_goodHunks_4 (t0, t1, t15, t16, t17, ())) (roundK 0 lp_I_goodHunks_4) = b_I_goodHunks_4 t0 t1 t15 t16 t17 := by kernel_rfl
theorem ef_I_goodHunks (t0 : PV (.int .i64)) (t1 : PV S_impl_Hunk) : denF cx_I_goodHunks 0 pl_I_goodHunks Try.f41.ntmps (bodyOf Try.f41) Try.f41.results.toList [(.bor, (.int .i64)), (.bor, S_impl_Hunk)] [(.bool, .b)] (t0, t1, ()) = f_I_goodHunks t0 t1 := by kernel_rfl
theorem ok_I_goodHunks : FnOk gl Try.prog 41 ct_I_goodHunks :=
  fnOk (cx := cx_I_goodHunks) (pl := pl_I_goodHunks) (dp := 0) (ok0_of tabOk (by unfold ArrOk; kernel_rfl) mix ⟨ok_I_in, ok_I_areLines, trivial⟩ trivial) Try.func41 (by kernel_rfl) (by kernel_rfl) (by kernel_rfl)
    (by rw [show loopsOf (bodyOf Try.f41) = [((loopsOf (bodyOf Try.f41)).getD 0 .skip)] from by kernel_rfl]; exact ⟨(by rw [show lookup pl_I_goodHunks.loops (firstId ((loopsOf (bodyOf Try.f41)).getD 0 .skip)) = some lp_I_goodHunks_4 from by kernel_rfl]; exact fun d z h => (eb_I_goodHunks_4 d.1 d.2.1 d.2.2.1 d.2.2.2.1 d.2.2.2.2.1).trans h), trivial⟩) (fun x => ef_I_goodHunks x.1 x.2.1)
noncomputable def sh_I_patched_3 : List Sh := mkSh 37 [(0, .val S_string .b), (5, .val S_string (.row .b)), (6, .val (.int .i64) .b), (10, .val S_impl_Hunk .b), (11, .val (.int .i64) .b), (12, .val (.int .i64) .b)]
noncomputable def o_I_patched_3 : List Out := [⟨.exit 0, ⟨[], [0, 5, 6], []⟩, mkSh 37 [(0, .val S_string .b), (5, .val S_string (.row .b)), (6, .val (.int .i64) .b)]⟩]
noncomputable def b_I_patched_3 (t0 : PV S_string) (t5 : PV S_string) (t6 : PV (.int .i64)) (t10 : PV S_impl_Hunk) (t11 : PV (.int .i64)) (t12 : PV (.int .i64)) : Option ((PV S_string × PV S_string × PV (.int .i64) × PV S_impl_Hunk × PV (.int .i64) × PV (.int .i64) × Unit) ⊕ ((PV S_string × PV S_string × PV (.int .i64) × Unit))) :=
  bif (decide (t12 < t11)) then
    bif inB t12 t10.length then
      bif cutB t6 ((t10.getD t12.toNat (dflt Y_impl_Hunk)).1) t0.length then
        bif roomB (t5.length + (cutL t6 ((t10.getD t12.toNat (dflt Y_impl_Hunk)).1) t0).length) then
          bif roomB ((t5 ++ (cutL t6 ((t10.getD t12.toNat (dflt Y_impl_Hunk)).1) t0)).length + ((((t10.getD t12.toNat (dflt Y_impl_Hunk)).2).2).1).length) then
            some (.inl (t0, ((t5 ++ (cutL t6 ((t10.getD t12.toNat (dflt Y_impl_Hunk)).1) t0)) ++ ((((t10.getD t12.toNat (dflt Y_impl_Hunk)).2).2).1)), (IntKind.wrap .i64 (((t10.getD t12.toNat (dflt Y_impl_Hunk)).1) + (((t10.getD t12.toNat (dflt Y_impl_Hunk)).2).1))), t10, t11, (IntKind.wrap .i64 (t12 + 1)), ()))
          else
            none
        else
          none
      else
        none
    else
      none
  else
    some (.inr (t0, t5, t6, ()))
noncomputable def w_I_patched_3 : PV S_string × PV S_string × PV (.int .i64) × PV S_impl_Hunk × PV (.int .i64) × PV (.int .i64) × Unit → Option ((PV S_string × PV S_string × PV (.int .i64) × Unit)) := fix fun d => b_I_patched_3 d.1 d.2.1 d.2.2.1 d.2.2.2.1 d.2.2.2.2.1 d.2.2.2.2.2.1
noncomputable def lp_I_patched_3 : Lp := ⟨⟨[], [0, 5, 6, 10, 11, 12], []⟩, sh_I_patched_3, o_I_patched_3, fun d => b_I_patched_3 d.1 d.2.1 d.2.2.1 d.2.2.2.1 d.2.2.2.2.1 d.2.2.2.2.2.1⟩
noncomputable def pl_I_patched : Plan := ⟨[], [(3, lp_I_patched_3)], 0, 0⟩
noncomputable def f_I_patched (t0 : PV S_string) (t1 : PV S_impl_Hunk) : Option (PVs [S_string] × PVs []) :=
  (w_I_patched_3 (t0, ([] : PV S_string), 0, t1, (t1.length : Int), 0, ())).bind fun l2 =>
    bif cutB l2.2.2.1 (l2.1.length : Int) l2.1.length then
      bif roomB (l2.2.1.length + (cutL l2.2.2.1 (l2.1.length : Int) l2.1).length) then
        some (((l2.2.1 ++ (cutL l2.2.2.1 (l2.1.length : Int) l2.1)), ()), ())
      else
        none
    else
      none
noncomputable def ct_I_patched : Ct := ⟨[(.bor, S_string), (.bor, S_impl_Hunk)], [(S_string, (.row .b))], fun x => f_I_patched x.1 x.2.1⟩
noncomputable def cx_I_patched : Cx := ⟨tab, arrs, [], [], gl, []⟩
theorem eb_I_patched_3 (t0 : PV S_string) (t5 : PV S_string) (t6 : PV (.int .i64)) (t10 : PV S_impl_Hunk) (t11 : PV (.int .i64)) (t12 : PV (.int .i64)) : denK cx_I_patched (rcN cx_I_patched 0) pl_I_patched 0 ((loopsOf (bodyOf Try.f42)).getD 0 .skip) (fillS sh_I_patched_3 (t0, t5, t6, t10, t11, t12, ())) (roundK 0 lp_I_patched_3) = b_I_patched_3 t0 t5 t6 t10 t11 t12 := by kernel_rfl
theorem ef_I_patched (t0 : PV S_string) (t1 : PV S_impl_Hunk) : denF cx_I_patched 0 pl_I_patched Try.f42.ntmps (bodyOf Try.f42) Try.f42.results.toList [(.bor, S_string), (.bor, S_impl_Hunk)] [(S_string, (.row .b))] (t0, t1, ()) = f_I_patched t0 t1 := by kernel_rfl
theorem ok_I_patched : FnOk gl Try.prog 42 ct_I_patched :=
  fnOk (cx := cx_I_patched) (pl := pl_I_patched) (dp := 0) (ok0_of tabOk (by unfold ArrOk; kernel_rfl) mix trivial trivial) Try.func42 (by kernel_rfl) (by kernel_rfl) (by kernel_rfl)
    (by rw [show loopsOf (bodyOf Try.f42) = [((loopsOf (bodyOf Try.f42)).getD 0 .skip)] from by kernel_rfl]; exact ⟨(by rw [show lookup pl_I_patched.loops (firstId ((loopsOf (bodyOf Try.f42)).getD 0 .skip)) = some lp_I_patched_3 from by kernel_rfl]; exact fun d z h => (eb_I_patched_3 d.1 d.2.1 d.2.2.1 d.2.2.2.1 d.2.2.2.2.1 d.2.2.2.2.2.1).trans h), trivial⟩) (fun x => ef_I_patched x.1 x.2.1)
noncomputable def o_I_Patch_2 : List Out := [⟨.normal, ⟨[], [0, 1, 16], []⟩, mkSh 24 [(0, .val S_string .b), (1, .val S_impl_Hunk .b), (16, .val .bool .b)]⟩]
noncomputable def pl_I_Patch : Plan := ⟨[(2, o_I_Patch_2)], [], 0, 0⟩
noncomputable def f_I_Patch (t0 : PV S_string) (t1 : PV S_impl_Hunk) : Option (PVs [S_string, .bool] × PVs []) :=
  ((
      (f_I_goodLines t0).bind fun r6 =>
        bif (!r6.1.1) then
          some (t0, t1, true, ())
        else
          (f_I_goodHunks (t0.length : Int) t1).bind fun r7 =>
            some (t0, t1, (!r7.1.1), ()) : Option ((PV S_string × PV S_impl_Hunk × PV .bool × Unit)))).bind fun j8 =>
    bif j8.2.2.1 then
      some (([], false, ()), ())
    else
      (f_I_patched j8.1 j8.2.1).bind fun r10 =>
        (f_I_goodLines r10.1.1).bind fun r14 =>
          bif (!r14.1.1) then
            some (([], false, ()), ())
          else
            some ((r10.1.1, true, ()), ())
noncomputable def ct_I_Patch : Ct := ⟨[(.bor, S_string), (.bor, S_impl_Hunk)], [(S_string, (.row .b)), (.bool, .b)], fun x => f_I_Patch x.1 x.2.1⟩
noncomputable def cx_I_Patch : Cx := ⟨tab, arrs, [(40, ct_I_goodLines), (41, ct_I_goodHunks), (42, ct_I_patched)], [], gl, []⟩
theorem ef_I_Patch (t0 : PV S_string) (t1 : PV S_impl_Hunk) : denF cx_I_Patch 0 pl_I_Patch Try.f10.ntmps (bodyOf Try.f10) Try.f10.results.toList [(.bor, S_string), (.bor, S_impl_Hunk)] [(S_string, (.row .b)), (.bool, .b)] (t0, t1, ()) = f_I_Patch t0 t1 := by kernel_rfl
theorem ok_I_Patch : FnOk gl Try.prog 10 ct_I_Patch :=
  fnOk (cx := cx_I_Patch) (pl := pl_I_Patch) (dp := 0) (ok0_of tabOk (by unfold ArrOk; kernel_rfl) mix ⟨ok_I_goodLines, ok_I_goodHunks, ok_I_patched, trivial⟩ trivial) Try.func10 (by kernel_rfl) (by kernel_rfl) (by kernel_rfl)
    (by rw [show loopsOf (bodyOf Try.f10) = [] from by kernel_rfl]; exact trivial) (fun x => ef_I_Patch x.1 x.2.1)
noncomputable def sh_I_copiedHunks_3 : List Sh := mkSh 24 [(3, .val S_impl_Hunk (.row (.pr .b (.pr .b (.pr .b .b))))), (8, .sub ⟨3, [], 0, 0⟩), (9, .val (.int .i64) .b), (10, .val (.int .i64) .b)]
noncomputable def o_I_copiedHunks_3 : List Out := [⟨.exit 0, ⟨[], [3], []⟩, mkSh 24 [(3, .val S_impl_Hunk (.row (.pr .b (.pr .b (.pr .b .b)))))]⟩]
noncomputable def b_I_copiedHunks_3 (t3 : PV S_impl_Hunk) (t9 : PV (.int .i64)) (t10 : PV (.int .i64)) : Option ((PV S_impl_Hunk × PV (.int .i64) × PV (.int .i64) × Unit) ⊕ ((PV S_impl_Hunk × Unit))) :=
  bif (decide (t10 < t9)) then
    bif inB t10 t3.length then
      (f_slices_Clone_string ((((t3.getD t10.toNat (dflt Y_impl_Hunk)).2).2).1)).bind fun r4 =>
        bif inB t10 t3.length then
          some (.inl ((t3.set t10.toNat ((t3.getD t10.toNat (dflt Y_impl_Hunk)).1, (((t3.getD t10.toNat (dflt Y_impl_Hunk)).2).1, (r4.1.1, (((t3.getD t10.toNat (dflt Y_impl_Hunk)).2).2).2)))), t9, (IntKind.wrap .i64 (t10 + 1)), ()))
        else
          none
    else
      none
  else
    some (.inr (t3, ()))
noncomputable def w_I_copiedHunks_3 : PV S_impl_Hunk × PV (.int .i64) × PV (.int .i64) × Unit → Option ((PV S_impl_Hunk × Unit)) := fix fun d => b_I_copiedHunks_3 d.1 d.2.1 d.2.2.1
noncomputable def lp_I_copiedHunks_3 : Lp := ⟨⟨[], [3, 8, 9, 10], []⟩, sh_I_copiedHunks_3, o_I_copiedHunks_3, fun d => b_I_copiedHunks_3 d.1 d.2.1 d.2.2.1⟩
noncomputable def pl_I_copiedHunks : Plan := ⟨[], [(3, lp_I_copiedHunks_3)], 0, 0⟩
noncomputable def f_I_copiedHunks (t0 : PV S_impl_Hunk) : Option (PVs [S_impl_Hunk] × PVs []) :=
  (f_slices_Clone_Hunk t0).bind fun r2 =>
    (w_I_copiedHunks_3 (r2.1.1, (r2.1.1.length : Int), 0, ())).bind fun l6 =>
      some ((l6.1, ()), ())
noncomputable def ct_I_copiedHunks : Ct := ⟨[(.bor, S_impl_Hunk)], [(S_impl_Hunk, (.row (.pr .b (.pr .b (.pr .b .b)))))], fun x => f_I_copiedHunks x.1⟩
noncomputable def cx_I_copiedHunks : Cx := ⟨tab, arrs, [(91, ct_slices_Clone_Hunk), (92, ct_slices_Clone_string)], [], gl, []⟩
theorem eb_I_copiedHunks_3 (t3 : PV S_impl_Hunk) (t9 : PV (.int .i64)) (t10 : PV (.int .i64)) : denK cx_I_copiedHunks (rcN cx_I_copiedHunks 0) pl_I_copiedHunks 0 ((loopsOf (bodyOf Try.f43)).getD 0 .skip) (fillS sh_I_copiedHunks_3 (t3, t9, t10, ())) (roundK 0 lp_I_copiedHunks_3) = b_I_copiedHunks_3 t3 t9 t10 := by kernel_rfl
theorem ef_I_copiedHunks (t0 : PV S_impl_Hunk) : denF cx_I_copiedHunks 0 pl_I_copiedHunks Try.f43.ntmps (bodyOf Try.f43) Try.f43.results.toList [(.bor, S_impl_Hunk)] [(S_impl_Hunk, (.row (.pr .b (.pr .b (.pr .b .b)))))] (t0, ()) = f_I_copiedHunks t0 := by kernel_rfl
theorem ok_I_copiedHunks : FnOk gl Try.prog 43 ct_I_copiedHunks :=
  fnOk (cx := cx_I_copiedHunks) (pl := pl_I_copiedHunks) (dp := 0) (ok0_of tabOk (by unfold ArrOk; kernel_rfl) mix ⟨ok_slices_Clone_Hunk, ok_slices_Clone_string, trivial⟩ trivial) Try.func43 (by kernel_rfl) (by kernel_rfl) (by kernel_rfl)
    (by rw [show loopsOf (bodyOf Try.f43) = [((loopsOf (bodyOf Try.f43)).getD 0 .skip)] from by kernel_rfl]; exact ⟨(by rw [show lookup pl_I_copiedHunks.loops (firstId ((loopsOf (bodyOf Try.f43)).getD 0 .skip)) = some lp_I_copiedHunks_3 from by kernel_rfl]; exact fun d z h => (eb_I_copiedHunks_3 d.1 d.2.1 d.2.2.1).trans h), trivial⟩) (fun x => ef_I_copiedHunks x.1)
noncomputable def pl_I_touch : Plan := ⟨[], [], 0, 0⟩
noncomputable def f_I_touch (t0 : PV Y_impl_Hunk) (t1 : PV Y_impl_Hunk) : Option (PVs [.bool] × PVs []) :=
  bif (decide (t0.1 ≤ (IntKind.wrap .i64 (t1.1 + t1.2.1)))) then
    some (((decide (t1.1 ≤ (IntKind.wrap .i64 (t0.1 + t0.2.1)))), ()), ())
  else
    some ((false, ()), ())
noncomputable def ct_I_touch : Ct := ⟨[(.bor, Y_impl_Hunk), (.bor, Y_impl_Hunk)], [(.bool, .b)], fun x => f_I_touch x.1 x.2.1⟩
noncomputable def cx_I_touch : Cx := ⟨tab, arrs, [], [], gl, []⟩
theorem ef_I_touch (t0 : PV Y_impl_Hunk) (t1 : PV Y_impl_Hunk) : denF cx_I_touch 0 pl_I_touch Try.f46.ntmps (bodyOf Try.f46) Try.f46.results.toList [(.bor, Y_impl_Hunk), (.bor, Y_impl_Hunk)] [(.bool, .b)] (t0, t1, ()) = f_I_touch t0 t1 := by kernel_rfl
theorem ok_I_touch : FnOk gl Try.prog 46 ct_I_touch :=
  fnOk (cx := cx_I_touch) (pl := pl_I_touch) (dp := 0) (ok0_of tabOk (by unfold ArrOk; kernel_rfl) mix trivial trivial) Try.func46 (by kernel_rfl) (by kernel_rfl) (by kernel_rfl)
    (by rw [show loopsOf (bodyOf Try.f46) = [] from by kernel_rfl]; exact trivial) (fun x => ef_I_touch x.1 x.2.1)
noncomputable def o_I_PlaceOf_2 : List Out := [⟨.normal, ⟨[], [0, 2, 20], []⟩, mkSh 51 [(0, .val S_impl_Hunk .b), (2, .val (.int .i64) .b), (20, .val .bool .b)]⟩]
noncomputable def o_I_PlaceOf_11 : List Out := [⟨.normal, ⟨[], [2, 8, 22, 23, 24], []⟩, mkSh 51 [(2, .val (.int .i64) .b), (8, .val (.int .i64) .b), (22, .val S_impl_Hunk .b), (23, .val (.int .i64) .b), (24, .val (.int .i64) .b)]⟩, ⟨.ret, ⟨[], [6, 7], []⟩, mkSh 51 [(6, .val (.int .i64) .b), (7, .val .bool .b)]⟩]
noncomputable def sh_I_PlaceOf_5 : List Sh := mkSh 51 [(2, .val (.int .i64) .b), (8, .val (.int .i64) .b), (22, .val S_impl_Hunk .b), (23, .val (.int .i64) .b), (24, .val (.int .i64) .b)]
noncomputable def o_I_PlaceOf_5 : List Out := [⟨.exit 0, ⟨[], [8], []⟩, mkSh 51 [(8, .val (.int .i64) .b)]⟩, ⟨.ret, ⟨[], [6, 7], []⟩, mkSh 51 [(6, .val (.int .i64) .b), (7, .val .bool .b)]⟩]
noncomputable def b_I_PlaceOf_5 (t2 : PV (.int .i64)) (t8 : PV (.int .i64)) (t22 : PV S_impl_Hunk) (t23 : PV (.int .i64)) (t24 : PV (.int .i64)) : Option ((PV (.int .i64) × PV (.int .i64) × PV S_impl_Hunk × PV (.int .i64) × PV (.int .i64) × Unit) ⊕ ((PV (.int .i64) × Unit) ⊕ (PV (.int .i64) × PV .bool × Unit))) :=
  bif (decide (t24 < t23)) then
    ((
        bif inB t24 t22.length then
          bif (decide ((IntKind.wrap .i64 (((t22.getD t24.toNat (dflt Y_impl_Hunk)).1) + (((t22.getD t24.toNat (dflt Y_impl_Hunk)).2).1))) ≤ t2)) then
            some (.inl (t2, (IntKind.wrap .i64 (t8 + (IntKind.wrap .i64 ((((((t22.getD t24.toNat (dflt Y_impl_Hunk)).2).2).1).length : Int) - (((t22.getD t24.toNat (dflt Y_impl_Hunk)).2).1))))), t22, t23, t24, ()))
          else
            bif (decide (((t22.getD t24.toNat (dflt Y_impl_Hunk)).1) ≤ t2)) then
              some (.inr (0, false, ()))
            else
              some (.inl (t2, t8, t22, t23, t24, ()))
        else
          none : Option ((PV (.int .i64) × PV (.int .i64) × PV S_impl_Hunk × PV (.int .i64) × PV (.int .i64) × Unit) ⊕ (PV (.int .i64) × PV .bool × Unit)))).bind fun x15 =>
      match x15 with
      | .inl j9 =>
        some (.inl (j9.1, j9.2.1, j9.2.2.1, j9.2.2.2.1, (IntKind.wrap .i64 (j9.2.2.2.2.1 + 1)), ()))
      | .inr j10 =>
        some (.inr (.inr (j10.1, j10.2.1, ())))
  else
    some (.inr (.inl (t8, ())))
noncomputable def w_I_PlaceOf_5 : PV (.int .i64) × PV (.int .i64) × PV S_impl_Hunk × PV (.int .i64) × PV (.int .i64) × Unit → Option ((PV (.int .i64) × Unit) ⊕ (PV (.int .i64) × PV .bool × Unit)) := fix fun d => b_I_PlaceOf_5 d.1 d.2.1 d.2.2.1 d.2.2.2.1 d.2.2.2.2.1
noncomputable def lp_I_PlaceOf_5 : Lp := ⟨⟨[], [2, 8, 22, 23, 24], []⟩, sh_I_PlaceOf_5, o_I_PlaceOf_5, fun d => b_I_PlaceOf_5 d.1 d.2.1 d.2.2.1 d.2.2.2.1 d.2.2.2.2.1⟩
noncomputable def pl_I_PlaceOf : Plan := ⟨[(2, o_I_PlaceOf_2), (11, o_I_PlaceOf_11)], [(5, lp_I_PlaceOf_5)], 0, 0⟩
noncomputable def f_I_PlaceOf (t0 : PV S_impl_Hunk) (t1 : PV (.int .i64)) (t2 : PV (.int .i64)) : Option (PVs [(.int .i64), .bool] × PVs []) :=
  ((
      (f_I_goodHunks t1 t0).bind fun r6 =>
        bif (!r6.1.1) then
          some (t0, t2, true, ())
        else
          (f_I_in t2 0 t1).bind fun r7 =>
            some (t0, t2, (!r7.1.1), ()) : Option ((PV S_impl_Hunk × PV (.int .i64) × PV .bool × Unit)))).bind fun j8 =>
    bif j8.2.2.1 then
      some ((0, false, ()), ())
    else
      (w_I_PlaceOf_5 (j8.2.1, j8.2.1, j8.1, (j8.1.length : Int), 0, ())).bind fun x16 =>
        match x16 with
        | .inl l13 =>
          some ((l13.1, true, ()), ())
        | .inr l14 =>
          some ((l14.1, l14.2.1, ()), ())
noncomputable def ct_I_PlaceOf : Ct := ⟨[(.bor, S_impl_Hunk), (.bor, (.int .i64)), (.bor, (.int .i64))], [((.int .i64), .b), (.bool, .b)], fun x => f_I_PlaceOf x.1 x.2.1 x.2.2.1⟩
noncomputable def cx_I_PlaceOf : Cx := ⟨tab, arrs, [(41, ct_I_goodHunks), (56, ct_I_in)], [], gl, []⟩
theorem eb_I_PlaceOf_5 (t2 : PV (.int .i64)) (t8 : PV (.int .i64)) (t22 : PV S_impl_Hunk) (t23 : PV (.int .i64)) (t24 : PV (.int .i64)) : denK cx_I_PlaceOf (rcN cx_I_PlaceOf 0) pl_I_PlaceOf 0 ((loopsOf (bodyOf Try.f47)).getD 0 .skip) (fillS sh_I_PlaceOf_5 (t2, t8, t22, t23, t24, ())) (roundK 0 lp_I_PlaceOf_5) = b_I_PlaceOf_5 t2 t8 t22 t23 t24 := by kernel_rfl
theorem ef_I_PlaceOf (t0 : PV S_impl_Hunk) (t1 : PV (.int .i64)) (t2 : PV (.int .i64)) : denF cx_I_PlaceOf 0 pl_I_PlaceOf Try.f47.ntmps (bodyOf Try.f47) Try.f47.results.toList [(.bor, S_impl_Hunk), (.bor, (.int .i64)), (.bor, (.int .i64))] [((.int .i64), .b), (.bool, .b)] (t0, t1, t2, ()) = f_I_PlaceOf t0 t1 t2 := by kernel_rfl
theorem ok_I_PlaceOf : FnOk gl Try.prog 47 ct_I_PlaceOf :=
  fnOk (cx := cx_I_PlaceOf) (pl := pl_I_PlaceOf) (dp := 0) (ok0_of tabOk (by unfold ArrOk; kernel_rfl) mix ⟨ok_I_goodHunks, ok_I_in, trivial⟩ trivial) Try.func47 (by kernel_rfl) (by kernel_rfl) (by kernel_rfl)
    (by rw [show loopsOf (bodyOf Try.f47) = [((loopsOf (bodyOf Try.f47)).getD 0 .skip)] from by kernel_rfl]; exact ⟨(by rw [show lookup pl_I_PlaceOf.loops (firstId ((loopsOf (bodyOf Try.f47)).getD 0 .skip)) = some lp_I_PlaceOf_5 from by kernel_rfl]; exact fun d z h => (eb_I_PlaceOf_5 d.1 d.2.1 d.2.2.1 d.2.2.2.1 d.2.2.2.2.1).trans h), trivial⟩) (fun x => ef_I_PlaceOf x.1 x.2.1 x.2.2.1)
noncomputable def o_I_MoveHunks_4 : List Out := [⟨.normal, ⟨[], [0, 1, 2, 8, 34], []⟩, mkSh 70 [(0, .val S_string .b), (1, .val S_impl_Hunk .b), (2, .val S_impl_Hunk .b), (8, .val S_string (.row .b)), (34, .val .bool .b)]⟩]
noncomputable def o_I_MoveHunks_10 : List Out := [⟨.normal, ⟨[], [0, 1, 8, 12, 13, 14, 37, 38, 39, 46], []⟩, mkSh 70 [(0, .val S_string .b), (1, .val S_impl_Hunk .b), (8, .val S_string (.row .b)), (12, .val S_impl_Hunk (.row (.pr .b (.pr .b (.pr .b .b))))), (13, .val (.int .i64) .b), (14, .var Y_impl_Hunk .b), (37, .val S_impl_Hunk .b), (38, .val (.int .i64) .b), (39, .val (.int .i64) .b), (46, .val .bool .b)]⟩]
noncomputable def pl_I_MoveHunks_44 : Plan := ⟨[], [], 2, 70⟩
noncomputable def sh_I_MoveHunks_93_2 : List Sh := mkSh 98 [(0, .val S_string .b), (1, .val S_impl_Hunk .b), (8, .val S_string (.row .b)), (12, .val S_impl_Hunk (.row (.pr .b (.pr .b (.pr .b .b))))), (13, .val (.int .i64) .b), (14, .var Y_impl_Hunk .b), (37, .val S_impl_Hunk .b), (38, .val (.int .i64) .b), (39, .val (.int .i64) .b), (40, .val .bool .b), (41, .val (.int .i64) .b), (42, .bad Y_impl_Hunk), (43, .val Y_impl_Hunk .b), (44, .val S_impl_Hunk .b), (45, .fn 45 [⟨14, [], 0, 0⟩]), (70, .val S_impl_Hunk .b), (71, .fn 45 [⟨14, [], 0, 0⟩]), (74, .val .bool .b), (75, .val S_impl_Hunk .b), (76, .fn 45 [⟨14, [], 0, 0⟩]), (79, .val S_impl_Hunk .b), (80, .fn 45 [⟨14, [], 0, 0⟩]), (86, .val (.int .i64) .b), (87, .val (.int .i64) .b)]
noncomputable def o_I_MoveHunks_93_2 : List Out := [⟨.exit 0, ⟨[], [], []⟩, mkSh 98 [(0, .val S_string .b), (1, .val S_impl_Hunk .b), (8, .val S_string (.row .b)), (12, .val S_impl_Hunk (.row (.pr .b (.pr .b (.pr .b .b))))), (13, .val (.int .i64) .b), (14, .var Y_impl_Hunk .b), (37, .val S_impl_Hunk .b), (38, .val (.int .i64) .b), (39, .val (.int .i64) .b), (40, .val .bool .b), (41, .val (.int .i64) .b), (42, .bad Y_impl_Hunk), (43, .val Y_impl_Hunk .b), (44, .val S_impl_Hunk .b), (45, .fn 45 [⟨14, [], 0, 0⟩]), (70, .val S_impl_Hunk .b), (71, .fn 45 [⟨14, [], 0, 0⟩]), (74, .val .bool .b), (75, .val S_impl_Hunk .b), (76, .fn 45 [⟨14, [], 0, 0⟩])]⟩, ⟨.ret, ⟨[], [4], []⟩, mkSh 98 [(0, .val S_string .b), (1, .val S_impl_Hunk .b), (8, .val S_string (.row .b)), (12, .val S_impl_Hunk (.row (.pr .b (.pr .b (.pr .b .b))))), (13, .val (.int .i64) .b), (14, .var Y_impl_Hunk .b), (37, .val S_impl_Hunk .b), (38, .val (.int .i64) .b), (39, .val (.int .i64) .b), (40, .val .bool .b), (41, .val (.int .i64) .b), (42, .bad Y_impl_Hunk), (43, .val Y_impl_Hunk .b), (44, .val S_impl_Hunk .b), (45, .fn 45 [⟨14, [], 0, 0⟩]), (70, .val S_impl_Hunk .b), (71, .fn 45 [⟨14, [], 0, 0⟩]), (74, .val .bool .b), (75, .val S_impl_Hunk .b), (76, .fn 45 [⟨14, [], 0, 0⟩]), (83, .val (.int .i64) .b)]⟩]
noncomputable def b_I_MoveHunks_93_2 (t0 : PV S_string) (t1 : PV S_impl_Hunk) (t8 : PV S_string) (t12 : PV S_impl_Hunk) (t13 : PV (.int .i64)) (t14 : PV Y_impl_Hunk) (t37 : PV S_impl_Hunk) (t38 : PV (.int .i64)) (t39 : PV (.int .i64)) (t40 : PV .bool) (t41 : PV (.int .i64)) (t42 : PV Y_impl_Hunk) (t43 : PV Y_impl_Hunk) (t44 : PV S_impl_Hunk) (t70 : PV S_impl_Hunk) (t74 : PV .bool) (t75 : PV S_impl_Hunk) (t79 : PV S_impl_Hunk) (t86 : PV (.int .i64)) (t87 : PV (.int .i64)) : Option ((PV S_string × PV S_impl_Hunk × PV S_string × PV S_impl_Hunk × PV (.int .i64) × PV Y_impl_Hunk × PV S_impl_Hunk × PV (.int .i64) × PV (.int .i64) × PV .bool × PV (.int .i64) × PV Y_impl_Hunk × PV Y_impl_Hunk × PV S_impl_Hunk × PV S_impl_Hunk × PV .bool × PV S_impl_Hunk × PV S_impl_Hunk × PV (.int .i64) × PV (.int .i64) × Unit) ⊕ ((PV S_string × PV S_impl_Hunk × PV S_string × PV S_impl_Hunk × PV (.int .i64) × PV Y_impl_Hunk × PV S_impl_Hunk × PV (.int .i64) × PV (.int .i64) × PV .bool × PV (.int .i64) × PV Y_impl_Hunk × PV Y_impl_Hunk × PV S_impl_Hunk × PV S_impl_Hunk × PV .bool × PV S_impl_Hunk × Unit) ⊕ (PV S_string × PV S_impl_Hunk × PV S_string × PV S_impl_Hunk × PV (.int .i64) × PV Y_impl_Hunk × PV S_impl_Hunk × PV (.int .i64) × PV (.int .i64) × PV .bool × PV (.int .i64) × PV Y_impl_Hunk × PV Y_impl_Hunk × PV S_impl_Hunk × PV S_impl_Hunk × PV .bool × PV S_impl_Hunk × PV (.int .i64) × Unit))) :=
  bif (decide (t87 < t86)) then
    bif inB t87 t79.length then
      (f_I_touch (t79.getD t87.toNat (dflt Y_impl_Hunk)) t14).bind fun r12 =>
        bif r12.1.1 then
          some (.inr (.inr (t0, t1, t8, t12, t13, t14, t37, t38, t39, t40, t41, t42, t43, t44, t70, t74, t75, t87, ())))
        else
          some (.inl (t0, t1, t8, t12, t13, t14, t37, t38, t39, t40, t41, t42, t43, t44, t70, t74, t75, t79, t86, (IntKind.wrap .i64 (t87 + 1)), ()))
    else
      none
  else
    some (.inr (.inl (t0, t1, t8, t12, t13, t14, t37, t38, t39, t40, t41, t42, t43, t44, t70, t74, t75, ())))
noncomputable def w_I_MoveHunks_93_2 : PV S_string × PV S_impl_Hunk × PV S_string × PV S_impl_Hunk × PV (.int .i64) × PV Y_impl_Hunk × PV S_impl_Hunk × PV (.int .i64) × PV (.int .i64) × PV .bool × PV (.int .i64) × PV Y_impl_Hunk × PV Y_impl_Hunk × PV S_impl_Hunk × PV S_impl_Hunk × PV .bool × PV S_impl_Hunk × PV S_impl_Hunk × PV (.int .i64) × PV (.int .i64) × Unit → Option ((PV S_string × PV S_impl_Hunk × PV S_string × PV S_impl_Hunk × PV (.int .i64) × PV Y_impl_Hunk × PV S_impl_Hunk × PV (.int .i64) × PV (.int .i64) × PV .bool × PV (.int .i64) × PV Y_impl_Hunk × PV Y_impl_Hunk × PV S_impl_Hunk × PV S_impl_Hunk × PV .bool × PV S_impl_Hunk × Unit) ⊕ (PV S_string × PV S_impl_Hunk × PV S_string × PV S_impl_Hunk × PV (.int .i64) × PV Y_impl_Hunk × PV S_impl_Hunk × PV (.int .i64) × PV (.int .i64) × PV .bool × PV (.int .i64) × PV Y_impl_Hunk × PV Y_impl_Hunk × PV S_impl_Hunk × PV S_impl_Hunk × PV .bool × PV S_impl_Hunk × PV (.int .i64) × Unit)) := fix fun d => b_I_MoveHunks_93_2 d.1 d.2.1 d.2.2.1 d.2.2.2.1 d.2.2.2.2.1 d.2.2.2.2.2.1 d.2.2.2.2.2.2.1 d.2.2.2.2.2.2.2.1 d.2.2.2.2.2.2.2.2.1 d.2.2.2.2.2.2.2.2.2.1 d.2.2.2.2.2.2.2.2.2.2.1 d.2.2.2.2.2.2.2.2.2.2.2.1 d.2.2.2.2.2.2.2.2.2.2.2.2.1 d.2.2.2.2.2.2.2.2.2.2.2.2.2.1 d.2.2.2.2.2.2.2.2.2.2.2.2.2.2.1 d.2.2.2.2.2.2.2.2.2.2.2.2.2.2.2.1 d.2.2.2.2.2.2.2.2.2.2.2.2.2.2.2.2.1 d.2.2.2.2.2.2.2.2.2.2.2.2.2.2.2.2.2.1 d.2.2.2.2.2.2.2.2.2.2.2.2.2.2.2.2.2.2.1 d.2.2.2.2.2.2.2.2.2.2.2.2.2.2.2.2.2.2.2.1
noncomputable def lp_I_MoveHunks_93_2 : Lp := ⟨⟨[], [0, 1, 7, 8], []⟩, sh_I_MoveHunks_93_2, o_I_MoveHunks_93_2, fun d => b_I_MoveHunks_93_2 d.1 d.2.1 d.2.2.1 d.2.2.2.1 d.2.2.2.2.1 d.2.2.2.2.2.1 d.2.2.2.2.2.2.1 d.2.2.2.2.2.2.2.1 d.2.2.2.2.2.2.2.2.1 d.2.2.2.2.2.2.2.2.2.1 d.2.2.2.2.2.2.2.2.2.2.1 d.2.2.2.2.2.2.2.2.2.2.2.1 d.2.2.2.2.2.2.2.2.2.2.2.2.1 d.2.2.2.2.2.2.2.2.2.2.2.2.2.1 d.2.2.2.2.2.2.2.2.2.2.2.2.2.2.1 d.2.2.2.2.2.2.2.2.2.2.2.2.2.2.2.1 d.2.2.2.2.2.2.2.2.2.2.2.2.2.2.2.2.1 d.2.2.2.2.2.2.2.2.2.2.2.2.2.2.2.2.2.1 d.2.2.2.2.2.2.2.2.2.2.2.2.2.2.2.2.2.2.1 d.2.2.2.2.2.2.2.2.2.2.2.2.2.2.2.2.2.2.2.1⟩
noncomputable def pl_I_MoveHunks_93 : Plan := ⟨[], [(2, lp_I_MoveHunks_93_2)], 1, 79⟩
noncomputable def pl_I_MoveHunks_45 : Plan := ⟨[], [], 0, 98⟩
noncomputable def sh_I_MoveHunks_7 : List Sh := mkSh 70 [(0, .val S_string .b), (1, .val S_impl_Hunk .b), (8, .val S_string (.row .b)), (12, .val S_impl_Hunk (.row (.pr .b (.pr .b (.pr .b .b))))), (37, .val S_impl_Hunk .b), (38, .val (.int .i64) .b), (39, .val (.int .i64) .b)]
noncomputable def o_I_MoveHunks_7 : List Out := [⟨.exit 0, ⟨[], [8, 12], []⟩, mkSh 70 [(8, .val S_string (.row .b)), (12, .val S_impl_Hunk (.row (.pr .b (.pr .b (.pr .b .b)))))]⟩, ⟨.ret, ⟨[], [6, 7], []⟩, mkSh 70 [(6, .val S_impl_Hunk (.row (.pr .b (.pr .b (.pr (.row .b) .b))))), (7, .val .bool .b)]⟩]
noncomputable def b_I_MoveHunks_7 (t0 : PV S_string) (t1 : PV S_impl_Hunk) (t8 : PV S_string) (t12 : PV S_impl_Hunk) (t37 : PV S_impl_Hunk) (t38 : PV (.int .i64)) (t39 : PV (.int .i64)) : Option ((PV S_string × PV S_impl_Hunk × PV S_string × PV S_impl_Hunk × PV S_impl_Hunk × PV (.int .i64) × PV (.int .i64) × Unit) ⊕ ((PV S_string × PV S_impl_Hunk × Unit) ⊕ (PV S_impl_Hunk × PV .bool × Unit))) :=
  bif (decide (t39 < t38)) then
    bif inB t39 t37.length then
      ((
          (w_I_MoveHunks_93_2 (t0, t1, t8, t12, t39, (t37.getD t39.toNat (dflt Y_impl_Hunk)), t37, t38, t39, (decide (t39 < t38)), t39, (t37.getD t39.toNat (dflt Y_impl_Hunk)), (t37.getD t39.toNat (dflt Y_impl_Hunk)), t1, t1, false, t1, t1, (t1.length : Int), 0, ())).bind fun x41 =>
            match x41 with
            | .inl l28 =>
              some (l28.1, l28.2.1, l28.2.2.1, l28.2.2.2.1, l28.2.2.2.2.1, l28.2.2.2.2.2.1, l28.2.2.2.2.2.2.1, l28.2.2.2.2.2.2.2.1, l28.2.2.2.2.2.2.2.2.1, (decide ((-1) ≥ 0)), ())
            | .inr l29 =>
              some (l29.1, l29.2.1, l29.2.2.1, l29.2.2.2.1, l29.2.2.2.2.1, l29.2.2.2.2.2.1, l29.2.2.2.2.2.2.1, l29.2.2.2.2.2.2.2.1, l29.2.2.2.2.2.2.2.2.1, (decide (l29.2.2.2.2.2.2.2.2.2.2.2.2.2.2.2.2.2.1 ≥ 0)), ()) : Option ((PV S_string × PV S_impl_Hunk × PV S_string × PV S_impl_Hunk × PV (.int .i64) × PV Y_impl_Hunk × PV S_impl_Hunk × PV (.int .i64) × PV (.int .i64) × PV .bool × Unit)))).bind fun j30 =>
        bif j30.2.2.2.2.2.2.2.2.2.1 then
          some (.inr (.inr ([], false, ())))
        else
          (f_I_PlaceOf j30.2.1 (j30.1.length : Int) j30.2.2.2.2.2.1.1).bind fun r32 =>
            bif (!r32.1.2.1) then
              some (.inr (.inr ([], false, ())))
            else
              bif inB j30.2.2.2.2.1 j30.2.2.2.1.length then
                some (.inl (j30.1, j30.2.1, j30.2.2.1, (j30.2.2.2.1.set j30.2.2.2.2.1.toNat (r32.1.1, (j30.2.2.2.1.getD j30.2.2.2.2.1.toNat (dflt Y_impl_Hunk)).2)), j30.2.2.2.2.2.2.1, j30.2.2.2.2.2.2.2.1, (IntKind.wrap .i64 (j30.2.2.2.2.2.2.2.2.1 + 1)), ()))
              else
                none
    else
      none
  else
    some (.inr (.inl (t8, t12, ())))
noncomputable def w_I_MoveHunks_7 : PV S_string × PV S_impl_Hunk × PV S_string × PV S_impl_Hunk × PV S_impl_Hunk × PV (.int .i64) × PV (.int .i64) × Unit → Option ((PV S_string × PV S_impl_Hunk × Unit) ⊕ (PV S_impl_Hunk × PV .bool × Unit)) := fix fun d => b_I_MoveHunks_7 d.1 d.2.1 d.2.2.1 d.2.2.2.1 d.2.2.2.2.1 d.2.2.2.2.2.1 d.2.2.2.2.2.2.1
noncomputable def lp_I_MoveHunks_7 : Lp := ⟨⟨[], [0, 1, 8, 12, 37, 38, 39], []⟩, sh_I_MoveHunks_7, o_I_MoveHunks_7, fun d => b_I_MoveHunks_7 d.1 d.2.1 d.2.2.1 d.2.2.2.1 d.2.2.2.2.1 d.2.2.2.2.2.1 d.2.2.2.2.2.2.1⟩
noncomputable def pl_I_MoveHunks : Plan := ⟨[(4, o_I_MoveHunks_4), (10, o_I_MoveHunks_10)], [(7, lp_I_MoveHunks_7)], 3, 0⟩
noncomputable def f_I_MoveHunks (t0 : PV S_string) (t1 : PV S_impl_Hunk) (t2 : PV S_impl_Hunk) : Option (PVs [S_impl_Hunk, .bool] × PVs []) :=
  (f_I_Patch t0 t1).bind fun r2 =>
    (f_I_Patch t0 t2).bind fun r4 =>
      ((
          bif (!r2.1.2.1) then
            some (t0, t1, t2, r2.1.1, true, ())
          else
            some (t0, t1, t2, r2.1.1, (!r4.1.2.1), ()) : Option ((PV S_string × PV S_impl_Hunk × PV S_impl_Hunk × PV S_string × PV .bool × Unit)))).bind fun j6 =>
        bif j6.2.2.2.2.1 then
          some (([], false, ()), ())
        else
          (f_I_copiedHunks j6.2.2.1).bind fun r8 =>
            (w_I_MoveHunks_7 (j6.1, j6.2.1, j6.2.2.2.1, r8.1.1, j6.2.2.1, (j6.2.2.1.length : Int), 0, ())).bind fun x42 =>
              match x42 with
              | .inl l35 =>
                (f_I_goodHunks (l35.1.length : Int) l35.2.1).bind fun r39 =>
                  bif (!r39.1.1) then
                    some (([], false, ()), ())
                  else
                    some ((l35.2.1, true, ()), ())
              | .inr l40 =>
                some ((l40.1, l40.2.1, ()), ())
noncomputable def ct_I_MoveHunks : Ct := ⟨[(.bor, S_string), (.bor, S_impl_Hunk), (.bor, S_impl_Hunk)], [(S_impl_Hunk, (.row (.pr .b (.pr .b (.pr .b .b))))), (.bool, .b)], fun x => f_I_MoveHunks x.1 x.2.1 x.2.2.1⟩
noncomputable def cx_I_MoveHunks : Cx := ⟨tab, arrs, [(10, ct_I_Patch), (41, ct_I_goodHunks), (43, ct_I_copiedHunks), (46, ct_I_touch), (47, ct_I_PlaceOf)], [(44, Try.f44, pl_I_MoveHunks_44), (93, Try.f93, pl_I_MoveHunks_93), (45, Try.f45, pl_I_MoveHunks_45)], gl, []⟩
theorem eb_I_MoveHunks_93_2 (t0 : PV S_string) (t1 : PV S_impl_Hunk) (t8 : PV S_string) (t12 : PV S_impl_Hunk) (t13 : PV (.int .i64)) (t14 : PV Y_impl_Hunk) (t37 : PV S_impl_Hunk) (t38 : PV (.int .i64)) (t39 : PV (.int .i64)) (t40 : PV .bool) (t41 : PV (.int .i64)) (t42 : PV Y_impl_Hunk) (t43 : PV Y_impl_Hunk) (t44 : PV S_impl_Hunk) (t70 : PV S_impl_Hunk) (t74 : PV .bool) (t75 : PV S_impl_Hunk) (t79 : PV S_impl_Hunk) (t86 : PV (.int .i64)) (t87 : PV (.int .i64)) : denK cx_I_MoveHunks (rcN cx_I_MoveHunks 1) pl_I_MoveHunks_93 79 ((loopsOf (bodyOf Try.f93)).getD 0 .skip) (fillS sh_I_MoveHunks_93_2 (t0, t1, t8, t12, t13, t14, t37, t38, t39, t40, t41, t42, t43, t44, t70, t74, t75, t79, t86, t87, ())) (roundK 79 lp_I_MoveHunks_93_2) = b_I_MoveHunks_93_2 t0 t1 t8 t12 t13 t14 t37 t38 t39 t40 t41 t42 t43 t44 t70 t74 t75 t79 t86 t87 := by kernel_rfl
theorem eb_I_MoveHunks_7 (t0 : PV S_string) (t1 : PV S_impl_Hunk) (t8 : PV S_string) (t12 : PV S_impl_Hunk) (t37 : PV S_impl_Hunk) (t38 : PV (.int .i64)) (t39 : PV (.int .i64)) : denK cx_I_MoveHunks (rcN cx_I_MoveHunks 3) pl_I_MoveHunks 0 ((loopsOf (bodyOf Try.f11)).getD 0 .skip) (fillS sh_I_MoveHunks_7 (t0, t1, t8, t12, t37, t38, t39, ())) (roundK 0 lp_I_MoveHunks_7) = b_I_MoveHunks_7 t0 t1 t8 t12 t37 t38 t39 := by kernel_rfl
theorem ef_I_MoveHunks (t0 : PV S_string) (t1 : PV S_impl_Hunk) (t2 : PV S_impl_Hunk) : denF cx_I_MoveHunks 3 pl_I_MoveHunks Try.f11.ntmps (bodyOf Try.f11) Try.f11.results.toList [(.bor, S_string), (.bor, S_impl_Hunk), (.bor, S_impl_Hunk)] [(S_impl_Hunk, (.row (.pr .b (.pr .b (.pr .b .b))))), (.bool, .b)] (t0, t1, t2, ()) = f_I_MoveHunks t0 t1 t2 := by kernel_rfl
theorem ok_I_MoveHunks : FnOk gl Try.prog 11 ct_I_MoveHunks :=
  fnOk (cx := cx_I_MoveHunks) (pl := pl_I_MoveHunks) (dp := 3) (ok0_of tabOk (by unfold ArrOk; kernel_rfl) mix ⟨ok_I_Patch, ok_I_goodHunks, ok_I_copiedHunks, ok_I_touch, ok_I_PlaceOf, trivial⟩ ⟨⟨Try.func44, by kernel_rfl, (by rw [show loopsOf (bodyOf Try.f44) = [] from by kernel_rfl]; exact trivial)⟩, ⟨Try.func93, by kernel_rfl, (by rw [show loopsOf (bodyOf Try.f93) = [((loopsOf (bodyOf Try.f93)).getD 0 .skip)] from by kernel_rfl]; exact ⟨(by rw [show lookup pl_I_MoveHunks_93.loops (firstId ((loopsOf (bodyOf Try.f93)).getD 0 .skip)) = some lp_I_MoveHunks_93_2 from by kernel_rfl]; exact fun d z h => (eb_I_MoveHunks_93_2 d.1 d.2.1 d.2.2.1 d.2.2.2.1 d.2.2.2.2.1 d.2.2.2.2.2.1 d.2.2.2.2.2.2.1 d.2.2.2.2.2.2.2.1 d.2.2.2.2.2.2.2.2.1 d.2.2.2.2.2.2.2.2.2.1 d.2.2.2.2.2.2.2.2.2.2.1 d.2.2.2.2.2.2.2.2.2.2.2.1 d.2.2.2.2.2.2.2.2.2.2.2.2.1 d.2.2.2.2.2.2.2.2.2.2.2.2.2.1 d.2.2.2.2.2.2.2.2.2.2.2.2.2.2.1 d.2.2.2.2.2.2.2.2.2.2.2.2.2.2.2.1 d.2.2.2.2.2.2.2.2.2.2.2.2.2.2.2.2.1 d.2.2.2.2.2.2.2.2.2.2.2.2.2.2.2.2.2.1 d.2.2.2.2.2.2.2.2.2.2.2.2.2.2.2.2.2.2.1 d.2.2.2.2.2.2.2.2.2.2.2.2.2.2.2.2.2.2.2.1).trans h), trivial⟩)⟩, ⟨Try.func45, by kernel_rfl, (by rw [show loopsOf (bodyOf Try.f45) = [] from by kernel_rfl]; exact trivial)⟩, trivial⟩) Try.func11 (by kernel_rfl) (by kernel_rfl) (by kernel_rfl)
    (by rw [show loopsOf (bodyOf Try.f11) = [((loopsOf (bodyOf Try.f11)).getD 0 .skip)] from by kernel_rfl]; exact ⟨(by rw [show lookup pl_I_MoveHunks.loops (firstId ((loopsOf (bodyOf Try.f11)).getD 0 .skip)) = some lp_I_MoveHunks_7 from by kernel_rfl]; exact fun d z h => (eb_I_MoveHunks_7 d.1 d.2.1 d.2.2.1 d.2.2.2.1 d.2.2.2.2.1 d.2.2.2.2.2.1 d.2.2.2.2.2.2.1).trans h), trivial⟩) (fun x => ef_I_MoveHunks x.1 x.2.1 x.2.2.1)
noncomputable def pl_I_inTurn : Plan := ⟨[], [], 0, 0⟩
noncomputable def f_I_inTurn (t0 : PV S_string) (t1 : PV S_impl_Hunk) (t2 : PV S_impl_Hunk) : Option (PVs [S_string, .bool] × PVs []) :=
  (f_I_MoveHunks t0 t1 t2).bind fun r2 =>
    bif (!r2.1.2.1) then
      some (([], false, ()), ())
    else
      (f_I_patched t0 t1).bind fun r3 =>
        (f_I_Patch r3.1.1 r2.1.1).bind fun r4 =>
          some ((r4.1.1, r4.1.2.1, ()), ())
noncomputable def ct_I_inTurn : Ct := ⟨[(.bor, S_string), (.bor, S_impl_Hunk), (.bor, S_impl_Hunk)], [(S_string, (.row .b)), (.bool, .b)], fun x => f_I_inTurn x.1 x.2.1 x.2.2.1⟩
noncomputable def cx_I_inTurn : Cx := ⟨tab, arrs, [(10, ct_I_Patch), (11, ct_I_MoveHunks), (42, ct_I_patched)], [], gl, []⟩
theorem ef_I_inTurn (t0 : PV S_string) (t1 : PV S_impl_Hunk) (t2 : PV S_impl_Hunk) : denF cx_I_inTurn 0 pl_I_inTurn Try.f33.ntmps (bodyOf Try.f33) Try.f33.results.toList [(.bor, S_string), (.bor, S_impl_Hunk), (.bor, S_impl_Hunk)] [(S_string, (.row .b)), (.bool, .b)] (t0, t1, t2, ()) = f_I_inTurn t0 t1 t2 := by kernel_rfl
theorem ok_I_inTurn : FnOk gl Try.prog 33 ct_I_inTurn :=
  fnOk (cx := cx_I_inTurn) (pl := pl_I_inTurn) (dp := 0) (ok0_of tabOk (by unfold ArrOk; kernel_rfl) mix ⟨ok_I_Patch, ok_I_MoveHunks, ok_I_patched, trivial⟩ trivial) Try.func33 (by kernel_rfl) (by kernel_rfl) (by kernel_rfl)
    (by rw [show loopsOf (bodyOf Try.f33) = [] from by kernel_rfl]; exact trivial) (fun x => ef_I_inTurn x.1 x.2.1 x.2.2.1)
noncomputable def sh_slices_Equal_string_4 : List Sh := mkSh 26 [(0, .val S_string .b), (1, .val S_string .b), (12, .val (.int .i64) .b), (13, .val (.int .i64) .b)]
noncomputable def o_slices_Equal_string_4 : List Out := [⟨.exit 0, ⟨[], [], []⟩, mkSh 26 []⟩, ⟨.ret, ⟨[], [4], []⟩, mkSh 26 [(4, .val .bool .b)]⟩]
noncomputable def b_slices_Equal_string_4 (t0 : PV S_string) (t1 : PV S_string) (t12 : PV (.int .i64)) (t13 : PV (.int .i64)) : Option ((PV S_string × PV S_string × PV (.int .i64) × PV (.int .i64) × Unit) ⊕ ((Unit) ⊕ (PV .bool × Unit))) :=
  bif (decide (t13 < t12)) then
    bif inB t13 t0.length then
      bif inB t13 t1.length then
        bif (!((t0.getD t13.toNat []) == (t1.getD t13.toNat []))) then
          some (.inr (.inr (false, ())))
        else
          some (.inl (t0, t1, t12, (IntKind.wrap .i64 (t13 + 1)), ()))
      else
        none
    else
      none
  else
    some (.inr (.inl ()))
noncomputable def w_slices_Equal_string_4 : PV S_string × PV S_string × PV (.int .i64) × PV (.int .i64) × Unit → Option ((Unit) ⊕ (PV .bool × Unit)) := fix fun d => b_slices_Equal_string_4 d.1 d.2.1 d.2.2.1 d.2.2.2.1
noncomputable def lp_slices_Equal_string_4 : Lp := ⟨⟨[], [0, 1, 12, 13], []⟩, sh_slices_Equal_string_4, o_slices_Equal_string_4, fun d => b_slices_Equal_string_4 d.1 d.2.1 d.2.2.1 d.2.2.2.1⟩
noncomputable def pl_slices_Equal_string : Plan := ⟨[], [(4, lp_slices_Equal_string_4)], 0, 0⟩
noncomputable def f_slices_Equal_string (t0 : PV S_string) (t1 : PV S_string) : Option (PVs [.bool] × PVs []) :=
  bif (!((t0.length : Int) == (t1.length : Int))) then
    some ((false, ()), ())
  else
    (w_slices_Equal_string_4 (t0, t1, (t0.length : Int), 0, ())).bind fun x5 =>
      match x5 with
      | .inl l3 =>
        some ((true, ()), ())
      | .inr l4 =>
        some ((l4.1, ()), ())
noncomputable def ct_slices_Equal_string : Ct := ⟨[(.bor, S_string), (.bor, S_string)], [(.bool, .b)], fun x => f_slices_Equal_string x.1 x.2.1⟩
noncomputable def cx_slices_Equal_string : Cx := ⟨tab, arrs, [], [], gl, []⟩
theorem eb_slices_Equal_string_4 (t0 : PV S_string) (t1 : PV S_string) (t12 : PV (.int .i64)) (t13 : PV (.int .i64)) : denK cx_slices_Equal_string (rcN cx_slices_Equal_string 0) pl_slices_Equal_string 0 ((loopsOf (bodyOf Try.f34)).getD 0 .skip) (fillS sh_slices_Equal_string_4 (t0, t1, t12, t13, ())) (roundK 0 lp_slices_Equal_string_4) = b_slices_Equal_string_4 t0 t1 t12 t13 := by kernel_rfl
theorem ef_slices_Equal_string (t0 : PV S_string) (t1 : PV S_string) : denF cx_slices_Equal_string 0 pl_slices_Equal_string Try.f34.ntmps (bodyOf Try.f34) Try.f34.results.toList [(.bor, S_string), (.bor, S_string)] [(.bool, .b)] (t0, t1, ()) = f_slices_Equal_string t0 t1 := by kernel_rfl
theorem ok_slices_Equal_string : FnOk gl Try.prog 34 ct_slices_Equal_string :=
  fnOk (cx := cx_slices_Equal_string) (pl := pl_slices_Equal_string) (dp := 0) (ok0_of tabOk (by unfold ArrOk; kernel_rfl) mix trivial trivial) Try.func34 (by kernel_rfl) (by kernel_rfl) (by kernel_rfl)
    (by rw [show loopsOf (bodyOf Try.f34) = [((loopsOf (bodyOf Try.f34)).getD 0 .skip)] from by kernel_rfl]; exact ⟨(by rw [show lookup pl_slices_Equal_string.loops (firstId ((loopsOf (bodyOf Try.f34)).getD 0 .skip)) = some lp_slices_Equal_string_4 from by kernel_rfl]; exact fun d z h => (eb_slices_Equal_string_4 d.1 d.2.1 d.2.2.1 d.2.2.2.1).trans h), trivial⟩) (fun x => ef_slices_Equal_string x.1 x.2.1)
noncomputable def o_I_CanSwap_4 : List Out := [⟨.normal, ⟨[], [0, 1, 2, 33, 50, 53, 54, 55], []⟩, mkSh 57 [(0, .val S_string .b), (1, .val S_impl_Hunk .b), (2, .val S_impl_Hunk .b), (33, .val .bool .b)]⟩]
noncomputable def pl_I_CanSwap : Plan := ⟨[(4, o_I_CanSwap_4)], [], 0, 0⟩
noncomputable def f_I_CanSwap (t0 : PV S_string) (t1 : PV S_impl_Hunk) (t2 : PV S_impl_Hunk) : Option (PVs [.bool, .bool] × PVs []) :=
  (f_I_Patch t0 t1).bind fun r2 =>
    (f_I_Patch t0 t2).bind fun r4 =>
      ((
          bif (!r2.1.2.1) then
            some (t0, t1, t2, true, ())
          else
            some (t0, t1, t2, (!r4.1.2.1), ()) : Option ((PV S_string × PV S_impl_Hunk × PV S_impl_Hunk × PV .bool × Unit)))).bind fun j6 =>
        bif j6.2.2.2.1 then
          some ((false, false, ()), ())
        else
          (f_I_inTurn j6.1 j6.2.1 j6.2.2.1).bind fun r8 =>
            (f_I_inTurn j6.1 j6.2.2.1 j6.2.1).bind fun r10 =>
              bif r8.1.2.1 then
                bif r10.1.2.1 then
                  (f_slices_Equal_string r8.1.1 r10.1.1).bind fun r11 =>
                    some ((r11.1.1, true, ()), ())
                else
                  some ((false, true, ()), ())
              else
                some ((false, true, ()), ())
noncomputable def ct_I_CanSwap : Ct := ⟨[(.bor, S_string), (.bor, S_impl_Hunk), (.bor, S_impl_Hunk)], [(.bool, .b), (.bool, .b)], fun x => f_I_CanSwap x.1 x.2.1 x.2.2.1⟩
noncomputable def cx_I_CanSwap : Cx := ⟨tab, arrs, [(10, ct_I_Patch), (33, ct_I_inTurn), (34, ct_slices_Equal_string)], [], gl, []⟩
theorem ef_I_CanSwap (t0 : PV S_string) (t1 : PV S_impl_Hunk) (t2 : PV S_impl_Hunk) : denF cx_I_CanSwap 0 pl_I_CanSwap Try.f8.ntmps (bodyOf Try.f8) Try.f8.results.toList [(.bor, S_string), (.bor, S_impl_Hunk), (.bor, S_impl_Hunk)] [(.bool, .b), (.bool, .b)] (t0, t1, t2, ()) = f_I_CanSwap t0 t1 t2 := by kernel_rfl
theorem ok_I_CanSwap : FnOk gl Try.prog 8 ct_I_CanSwap :=
  fnOk (cx := cx_I_CanSwap) (pl := pl_I_CanSwap) (dp := 0) (ok0_of tabOk (by unfold ArrOk; kernel_rfl) mix ⟨ok_I_Patch, ok_I_inTurn, ok_slices_Equal_string, trivial⟩ trivial) Try.func8 (by kernel_rfl) (by kernel_rfl) (by kernel_rfl)
    (by rw [show loopsOf (bodyOf Try.f8) = [] from by kernel_rfl]; exact trivial) (fun x => ef_I_CanSwap x.1 x.2.1 x.2.2.1)
noncomputable def pl_S_l1In : Plan := ⟨[], [], 0, 0⟩
noncomputable def f_S_l1In (t0 : PV (.int .i64)) (t1 : PV (.int .i64)) (t2 : PV (.int .i64)) : Option (PVs [.bool] × PVs []) :=
  bif (decide (t0 ≥ t1)) then
    some (((decide (t0 ≤ t2)), ()), ())
  else
    some ((false, ()), ())
noncomputable def ct_S_l1In : Ct := ⟨[(.bor, (.int .i64)), (.bor, (.int .i64)), (.bor, (.int .i64))], [(.bool, .b)], fun x => f_S_l1In x.1 x.2.1 x.2.2.1⟩
noncomputable def cx_S_l1In : Cx := ⟨tab, arrs, [], [], gl, []⟩
theorem ef_S_l1In (t0 : PV (.int .i64)) (t1 : PV (.int .i64)) (t2 : PV (.int .i64)) : denF cx_S_l1In 0 pl_S_l1In Try.f58.ntmps (bodyOf Try.f58) Try.f58.results.toList [(.bor, (.int .i64)), (.bor, (.int .i64)), (.bor, (.int .i64))] [(.bool, .b)] (t0, t1, t2, ()) = f_S_l1In t0 t1 t2 := by kernel_rfl
theorem ok_S_l1In : FnOk gl Try.prog 58 ct_S_l1In :=
  fnOk (cx := cx_S_l1In) (pl := pl_S_l1In) (dp := 0) (ok0_of tabOk (by unfold ArrOk; kernel_rfl) mix trivial trivial) Try.func58 (by kernel_rfl) (by kernel_rfl) (by kernel_rfl)
    (by rw [show loopsOf (bodyOf Try.f58) = [] from by kernel_rfl]; exact trivial) (fun x => ef_S_l1In x.1 x.2.1 x.2.2.1)
noncomputable def sh_S_l1Line_2 : List Sh := mkSh 18 [(0, .val .str .b), (3, .val (.int .i64) .b)]
noncomputable def o_S_l1Line_2 : List Out := [⟨.exit 0, ⟨[], [0], []⟩, mkSh 18 [(0, .val .str .b)]⟩, ⟨.ret, ⟨[], [2], []⟩, mkSh 18 [(2, .val .bool .b)]⟩]
noncomputable def b_S_l1Line_2 (t0 : PV .str) (t3 : PV (.int .i64)) : Option ((PV .str × PV (.int .i64) × Unit) ⊕ ((PV .str × Unit) ⊕ (PV .bool × Unit))) :=
  bif (decide (t3 < (IntKind.wrap .i64 ((t0.length : Int) - 1)))) then
    bif inB t3 t0.length then
      bif (((t0.getD t3.toNat 0).toNat : Int) == 10) then
        some (.inr (.inr (false, ())))
      else
        some (.inl (t0, (IntKind.wrap .i64 (t3 + 1)), ()))
    else
      none
  else
    some (.inr (.inl (t0, ())))
noncomputable def w_S_l1Line_2 : PV .str × PV (.int .i64) × Unit → Option ((PV .str × Unit) ⊕ (PV .bool × Unit)) := fix fun d => b_S_l1Line_2 d.1 d.2.1
noncomputable def lp_S_l1Line_2 : Lp := ⟨⟨[], [0, 3], []⟩, sh_S_l1Line_2, o_S_l1Line_2, fun d => b_S_l1Line_2 d.1 d.2.1⟩
noncomputable def pl_S_l1Line : Plan := ⟨[], [(2, lp_S_l1Line_2)], 0, 0⟩
noncomputable def f_S_l1Line (t0 : PV .str) : Option (PVs [.bool] × PVs []) :=
  (w_S_l1Line_2 (t0, 0, ())).bind fun x6 =>
    match x6 with
    | .inl l3 =>
      (f_S_l1In (l3.1.length : Int) 1 30).bind fun r4 =>
        some ((r4.1.1, ()), ())
    | .inr l5 =>
      some ((l5.1, ()), ())
noncomputable def ct_S_l1Line : Ct := ⟨[(.bor, .str)], [(.bool, .b)], fun x => f_S_l1Line x.1⟩
noncomputable def cx_S_l1Line : Cx := ⟨tab, arrs, [(58, ct_S_l1In)], [], gl, []⟩
theorem eb_S_l1Line_2 (t0 : PV .str) (t3 : PV (.int .i64)) : denK cx_S_l1Line (rcN cx_S_l1Line 0) pl_S_l1Line 0 ((loopsOf (bodyOf Try.f120)).getD 0 .skip) (fillS sh_S_l1Line_2 (t0, t3, ())) (roundK 0 lp_S_l1Line_2) = b_S_l1Line_2 t0 t3 := by kernel_rfl
theorem ef_S_l1Line (t0 : PV .str) : denF cx_S_l1Line 0 pl_S_l1Line Try.f120.ntmps (bodyOf Try.f120) Try.f120.results.toList [(.bor, .str)] [(.bool, .b)] (t0, ()) = f_S_l1Line t0 := by kernel_rfl
theorem ok_S_l1Line : FnOk gl Try.prog 120 ct_S_l1Line :=
  fnOk (cx := cx_S_l1Line) (pl := pl_S_l1Line) (dp := 0) (ok0_of tabOk (by unfold ArrOk; kernel_rfl) mix ⟨ok_S_l1In, trivial⟩ trivial) Try.func120 (by kernel_rfl) (by kernel_rfl) (by kernel_rfl)
    (by rw [show loopsOf (bodyOf Try.f120) = [((loopsOf (bodyOf Try.f120)).getD 0 .skip)] from by kernel_rfl]; exact ⟨(by rw [show lookup pl_S_l1Line.loops (firstId ((loopsOf (bodyOf Try.f120)).getD 0 .skip)) = some lp_S_l1Line_2 from by kernel_rfl]; exact fun d z h => (eb_S_l1Line_2 d.1 d.2.1).trans h), trivial⟩) (fun x => ef_S_l1Line x.1)
noncomputable def o_S_l1Good_5 : List Out := [⟨.normal, ⟨[], [0, 5, 6, 7, 26], []⟩, mkSh 31 [(0, .val S_string .b), (5, .val S_string .b), (6, .val (.int .i64) .b), (7, .val (.int .i64) .b), (26, .val .bool .b)]⟩]
noncomputable def sh_S_l1Good_2 : List Sh := mkSh 31 [(0, .val S_string .b), (5, .val S_string .b), (6, .val (.int .i64) .b), (7, .val (.int .i64) .b)]
noncomputable def o_S_l1Good_2 : List Out := [⟨.exit 0, ⟨[], [0], []⟩, mkSh 31 [(0, .val S_string .b)]⟩, ⟨.ret, ⟨[], [2], []⟩, mkSh 31 [(2, .val .bool .b)]⟩]
noncomputable def b_S_l1Good_2 (t0 : PV S_string) (t5 : PV S_string) (t6 : PV (.int .i64)) (t7 : PV (.int .i64)) : Option ((PV S_string × PV S_string × PV (.int .i64) × PV (.int .i64) × Unit) ⊕ ((PV S_string × Unit) ⊕ (PV .bool × Unit))) :=
  bif (decide (t7 < t6)) then
    bif inB t7 t5.length then
      ((
          (f_S_l1Line (t5.getD t7.toNat [])).bind fun r4 =>
            bif (!r4.1.1) then
              some (t0, t5, t6, t7, true, ())
            else
              bif (decide (t7 < (IntKind.wrap .i64 ((t0.length : Int) - 1)))) then
                (f_S_l1Ends (t5.getD t7.toNat [])).bind fun r5 =>
                  some (t0, t5, t6, t7, (!r5.1.1), ())
              else
                some (t0, t5, t6, t7, false, ()) : Option ((PV S_string × PV S_string × PV (.int .i64) × PV (.int .i64) × PV .bool × Unit)))).bind fun j6 =>
        bif j6.2.2.2.2.1 then
          some (.inr (.inr (false, ())))
        else
          some (.inl (j6.1, j6.2.1, j6.2.2.1, (IntKind.wrap .i64 (j6.2.2.2.1 + 1)), ()))
    else
      none
  else
    some (.inr (.inl (t0, ())))
noncomputable def w_S_l1Good_2 : PV S_string × PV S_string × PV (.int .i64) × PV (.int .i64) × Unit → Option ((PV S_string × Unit) ⊕ (PV .bool × Unit)) := fix fun d => b_S_l1Good_2 d.1 d.2.1 d.2.2.1 d.2.2.2.1
noncomputable def lp_S_l1Good_2 : Lp := ⟨⟨[], [0, 5, 6, 7, 16, 17, 18, 19, 20, 21, 22, 23, 24, 25], []⟩, sh_S_l1Good_2, o_S_l1Good_2, fun d => b_S_l1Good_2 d.1 d.2.1 d.2.2.1 d.2.2.2.1⟩
noncomputable def pl_S_l1Good : Plan := ⟨[(5, o_S_l1Good_5)], [(2, lp_S_l1Good_2)], 0, 0⟩
noncomputable def f_S_l1Good (t0 : PV S_string) : Option (PVs [.bool] × PVs []) :=
  (w_S_l1Good_2 (t0, t0, (t0.length : Int), 0, ())).bind fun x11 =>
    match x11 with
    | .inl l9 =>
      some (((decide ((l9.1.length : Int) ≤ 40)), ()), ())
    | .inr l10 =>
      some ((l10.1, ()), ())
noncomputable def ct_S_l1Good : Ct := ⟨[(.bor, S_string)], [(.bool, .b)], fun x => f_S_l1Good x.1⟩
noncomputable def cx_S_l1Good : Cx := ⟨tab, arrs, [(120, ct_S_l1Line), (121, ct_S_l1Ends)], [], gl, []⟩
theorem eb_S_l1Good_2 (t0 : PV S_string) (t5 : PV S_string) (t6 : PV (.int .i64)) (t7 : PV (.int .i64)) : denK cx_S_l1Good (rcN cx_S_l1Good 0) pl_S_l1Good 0 ((loopsOf (bodyOf Try.f88)).getD 0 .skip) (fillS sh_S_l1Good_2 (t0, t5, t6, t7, ())) (roundK 0 lp_S_l1Good_2) = b_S_l1Good_2 t0 t5 t6 t7 := by kernel_rfl
theorem ef_S_l1Good (t0 : PV S_string) : denF cx_S_l1Good 0 pl_S_l1Good Try.f88.ntmps (bodyOf Try.f88) Try.f88.results.toList [(.bor, S_string)] [(.bool, .b)] (t0, ()) = f_S_l1Good t0 := by kernel_rfl
theorem ok_S_l1Good : FnOk gl Try.prog 88 ct_S_l1Good :=
  fnOk (cx := cx_S_l1Good) (pl := pl_S_l1Good) (dp := 0) (ok0_of tabOk (by unfold ArrOk; kernel_rfl) mix ⟨ok_S_l1Line, ok_S_l1Ends, trivial⟩ trivial) Try.func88 (by kernel_rfl) (by kernel_rfl) (by kernel_rfl)
    (by rw [show loopsOf (bodyOf Try.f88) = [((loopsOf (bodyOf Try.f88)).getD 0 .skip)] from by kernel_rfl]; exact ⟨(by rw [show lookup pl_S_l1Good.loops (firstId ((loopsOf (bodyOf Try.f88)).getD 0 .skip)) = some lp_S_l1Good_2 from by kernel_rfl]; exact fun d z h => (eb_S_l1Good_2 d.1 d.2.1 d.2.2.1 d.2.2.2.1).trans h), trivial⟩) (fun x => ef_S_l1Good x.1)
noncomputable def o_S_l2Hunks_5 : List Out := [⟨.normal, ⟨[], [0, 1, 6, 9, 10, 11, 75, 92, 93], []⟩, mkSh 95 [(0, .val (.int .i64) .b), (1, .val S_impl_Hunk .b), (6, .var Y_impl_Hunk .b), (9, .val S_impl_Hunk .b), (10, .val (.int .i64) .b), (11, .val (.int .i64) .b), (75, .val .bool .b)]⟩]
noncomputable def sh_S_l2Hunks_7 : List Sh := mkSh 95 [(0, .val (.int .i64) .b), (1, .val S_impl_Hunk .b), (9, .val S_impl_Hunk .b), (10, .val (.int .i64) .b), (11, .val (.int .i64) .b), (77, .val S_string .b), (78, .val (.int .i64) .b), (79, .val (.int .i64) .b)]
noncomputable def o_S_l2Hunks_7 : List Out := [⟨.exit 2, ⟨[], [0, 1, 9, 10, 11, 20, 21, 22, 25, 26, 27, 28, 31, 32, 33, 34, 35, 36, 37, 40, 41, 42, 43, 44, 45, 46, 49, 50, 51, 52, 55, 56, 57, 58, 59, 60, 61, 62, 63, 64, 65, 66, 67, 68, 69, 70, 71, 72, 73, 74, 92, 93], []⟩, mkSh 95 [(0, .val (.int .i64) .b), (1, .val S_impl_Hunk .b), (9, .val S_impl_Hunk .b), (10, .val (.int .i64) .b), (11, .val (.int .i64) .b)]⟩, ⟨.ret, ⟨[], [4], []⟩, mkSh 95 [(4, .val .bool .b)]⟩]
noncomputable def b_S_l2Hunks_7 (t0 : PV (.int .i64)) (t1 : PV S_impl_Hunk) (t9 : PV S_impl_Hunk) (t10 : PV (.int .i64)) (t11 : PV (.int .i64)) (t77 : PV S_string) (t78 : PV (.int .i64)) (t79 : PV (.int .i64)) : Option ((PV (.int .i64) × PV S_impl_Hunk × PV S_impl_Hunk × PV (.int .i64) × PV (.int .i64) × PV S_string × PV (.int .i64) × PV (.int .i64) × Unit) ⊕ ((PV (.int .i64) × PV S_impl_Hunk × PV S_impl_Hunk × PV (.int .i64) × PV (.int .i64) × Unit) ⊕ (PV .bool × Unit))) :=
  bif (decide (t79 < t78)) then
    bif inB t79 t77.length then
      (f_S_l1Line (t77.getD t79.toNat [])).bind fun r6 =>
        bif (!r6.1.1) then
          some (.inr (.inr (false, ())))
        else
          some (.inl (t0, t1, t9, t10, t11, t77, t78, (IntKind.wrap .i64 (t79 + 1)), ()))
    else
      none
  else
    some (.inr (.inl (t0, t1, t9, t10, t11, ())))
noncomputable def w_S_l2Hunks_7 : PV (.int .i64) × PV S_impl_Hunk × PV S_impl_Hunk × PV (.int .i64) × PV (.int .i64) × PV S_string × PV (.int .i64) × PV (.int .i64) × Unit → Option ((PV (.int .i64) × PV S_impl_Hunk × PV S_impl_Hunk × PV (.int .i64) × PV (.int .i64) × Unit) ⊕ (PV .bool × Unit)) := fix fun d => b_S_l2Hunks_7 d.1 d.2.1 d.2.2.1 d.2.2.2.1 d.2.2.2.2.1 d.2.2.2.2.2.1 d.2.2.2.2.2.2.1 d.2.2.2.2.2.2.2.1
noncomputable def lp_S_l2Hunks_7 : Lp := ⟨⟨[], [0, 1, 9, 10, 11, 20, 21, 22, 25, 26, 27, 28, 31, 32, 33, 34, 35, 36, 37, 40, 41, 42, 43, 44, 45, 46, 49, 50, 51, 52, 55, 56, 57, 58, 59, 60, 61, 62, 63, 64, 65, 66, 67, 68, 69, 70, 71, 72, 73, 74, 77, 78, 79, 92, 93], []⟩, sh_S_l2Hunks_7, o_S_l2Hunks_7, fun d => b_S_l2Hunks_7 d.1 d.2.1 d.2.2.1 d.2.2.2.1 d.2.2.2.2.1 d.2.2.2.2.2.1 d.2.2.2.2.2.2.1 d.2.2.2.2.2.2.2.1⟩
noncomputable def sh_S_l2Hunks_2 : List Sh := mkSh 95 [(0, .val (.int .i64) .b), (1, .val S_impl_Hunk .b), (9, .val S_impl_Hunk .b), (10, .val (.int .i64) .b), (11, .val (.int .i64) .b)]
noncomputable def o_S_l2Hunks_2 : List Out := [⟨.exit 0, ⟨[], [0, 1, 92, 93], []⟩, mkSh 95 [(0, .val (.int .i64) .b), (1, .val S_impl_Hunk .b)]⟩, ⟨.ret, ⟨[], [4], []⟩, mkSh 95 [(4, .val .bool .b)]⟩]
noncomputable def b_S_l2Hunks_2 (t0 : PV (.int .i64)) (t1 : PV S_impl_Hunk) (t9 : PV S_impl_Hunk) (t10 : PV (.int .i64)) (t11 : PV (.int .i64)) : Option ((PV (.int .i64) × PV S_impl_Hunk × PV S_impl_Hunk × PV (.int .i64) × PV (.int .i64) × Unit) ⊕ ((PV (.int .i64) × PV S_impl_Hunk × Unit) ⊕ (PV .bool × Unit))) :=
  bif (decide (t11 < t10)) then
    bif inB t11 t9.length then
      ((
          bif (decide (((t9.getD t11.toNat (dflt Y_impl_Hunk)).1) < 0)) then
            some (t0, t1, (t9.getD t11.toNat (dflt Y_impl_Hunk)), t9, t10, t11, true, ())
          else
            bif (decide ((((t9.getD t11.toNat (dflt Y_impl_Hunk)).2).1) < 0)) then
              some (t0, t1, (t9.getD t11.toNat (dflt Y_impl_Hunk)), t9, t10, t11, true, ())
            else
              bif (decide ((((t9.getD t11.toNat (dflt Y_impl_Hunk)).2).1) > t0)) then
                some (t0, t1, (t9.getD t11.toNat (dflt Y_impl_Hunk)), t9, t10, t11, true, ())
              else
                bif (decide (((t9.getD t11.toNat (dflt Y_impl_Hunk)).1) > (IntKind.wrap .i64 (t0 - (((t9.getD t11.toNat (dflt Y_impl_Hunk)).2).1))))) then
                  some (t0, t1, (t9.getD t11.toNat (dflt Y_impl_Hunk)), t9, t10, t11, true, ())
                else
                  bif ((IntKind.wrap .i64 ((((t9.getD t11.toNat (dflt Y_impl_Hunk)).2).1) + (((((t9.getD t11.toNat (dflt Y_impl_Hunk)).2).2).1).length : Int))) == 0) then
                    some (t0, t1, (t9.getD t11.toNat (dflt Y_impl_Hunk)), t9, t10, t11, true, ())
                  else
                    bif (decide ((((((t9.getD t11.toNat (dflt Y_impl_Hunk)).2).2).1).length : Int) > 40)) then
                      some (t0, t1, (t9.getD t11.toNat (dflt Y_impl_Hunk)), t9, t10, t11, true, ())
                    else
                      bif (decide (t11 > 0)) then
                        bif inB (IntKind.wrap .i64 (t11 - 1)) t1.length then
                          bif inB (IntKind.wrap .i64 (t11 - 1)) t1.length then
                            some (t0, t1, (t9.getD t11.toNat (dflt Y_impl_Hunk)), t9, t10, t11, (decide (((t9.getD t11.toNat (dflt Y_impl_Hunk)).1) ≤ (IntKind.wrap .i64 (((t1.getD ((IntKind.wrap .i64 (t11 - 1)).toNat) (dflt Y_impl_Hunk)).1) + (((t1.getD ((IntKind.wrap .i64 (t11 - 1)).toNat) (dflt Y_impl_Hunk)).2).1))))), ())
                          else
                            none
                        else
                          none
                      else
                        some (t0, t1, (t9.getD t11.toNat (dflt Y_impl_Hunk)), t9, t10, t11, false, ()) : Option ((PV (.int .i64) × PV S_impl_Hunk × PV Y_impl_Hunk × PV S_impl_Hunk × PV (.int .i64) × PV (.int .i64) × PV .bool × Unit)))).bind fun j6 =>
        bif j6.2.2.2.2.2.2.1 then
          some (.inr (.inr (false, ())))
        else
          (w_S_l2Hunks_7 (j6.1, j6.2.1, j6.2.2.2.1, j6.2.2.2.2.1, j6.2.2.2.2.2.1, j6.2.2.1.2.2.1, (j6.2.2.1.2.2.1.length : Int), 0, ())).bind fun x14 =>
            match x14 with
            | .inl l7 =>
              some (.inl (l7.1, l7.2.1, l7.2.2.1, l7.2.2.2.1, (IntKind.wrap .i64 (l7.2.2.2.2.1 + 1)), ()))
            | .inr l8 =>
              some (.inr (.inr (l8.1, ())))
    else
      none
  else
    some (.inr (.inl (t0, t1, ())))
noncomputable def w_S_l2Hunks_2 : PV (.int .i64) × PV S_impl_Hunk × PV S_impl_Hunk × PV (.int .i64) × PV (.int .i64) × Unit → Option ((PV (.int .i64) × PV S_impl_Hunk × Unit) ⊕ (PV .bool × Unit)) := fix fun d => b_S_l2Hunks_2 d.1 d.2.1 d.2.2.1 d.2.2.2.1 d.2.2.2.2.1
noncomputable def lp_S_l2Hunks_2 : Lp := ⟨⟨[], [0, 1, 9, 10, 11, 20, 21, 22, 25, 26, 27, 28, 31, 32, 33, 34, 35, 36, 37, 40, 41, 42, 43, 44, 45, 46, 49, 50, 51, 52, 55, 56, 57, 58, 59, 60, 61, 62, 63, 64, 65, 66, 67, 68, 69, 70, 71, 72, 73, 74, 92, 93], []⟩, sh_S_l2Hunks_2, o_S_l2Hunks_2, fun d => b_S_l2Hunks_2 d.1 d.2.1 d.2.2.1 d.2.2.2.1 d.2.2.2.2.1⟩
noncomputable def pl_S_l2Hunks : Plan := ⟨[(5, o_S_l2Hunks_5)], [(7, lp_S_l2Hunks_7), (2, lp_S_l2Hunks_2)], 0, 0⟩
noncomputable def f_S_l2Hunks (t0 : PV (.int .i64)) (t1 : PV S_impl_Hunk) : Option (PVs [.bool] × PVs []) :=
  (w_S_l2Hunks_2 (t0, t1, t1, (t1.length : Int), 0, ())).bind fun x15 =>
    match x15 with
    | .inl l11 =>
      bif (decide ((l11.2.1.length : Int) ≤ 20)) then
        (f_S_l1In l11.1 0 40).bind fun r12 =>
          some ((r12.1.1, ()), ())
      else
        some ((false, ()), ())
    | .inr l13 =>
      some ((l13.1, ()), ())
noncomputable def ct_S_l2Hunks : Ct := ⟨[(.bor, (.int .i64)), (.bor, S_impl_Hunk)], [(.bool, .b)], fun x => f_S_l2Hunks x.1 x.2.1⟩
noncomputable def cx_S_l2Hunks : Cx := ⟨tab, arrs, [(58, ct_S_l1In), (120, ct_S_l1Line)], [], gl, []⟩
theorem eb_S_l2Hunks_2 (t0 : PV (.int .i64)) (t1 : PV S_impl_Hunk) (t9 : PV S_impl_Hunk) (t10 : PV (.int .i64)) (t11 : PV (.int .i64)) : denK cx_S_l2Hunks (rcN cx_S_l2Hunks 0) pl_S_l2Hunks 0 ((loopsOf (bodyOf Try.f86)).getD 0 .skip) (fillS sh_S_l2Hunks_2 (t0, t1, t9, t10, t11, ())) (roundK 0 lp_S_l2Hunks_2) = b_S_l2Hunks_2 t0 t1 t9 t10 t11 := by kernel_rfl
theorem eb_S_l2Hunks_7 (t0 : PV (.int .i64)) (t1 : PV S_impl_Hunk) (t9 : PV S_impl_Hunk) (t10 : PV (.int .i64)) (t11 : PV (.int .i64)) (t77 : PV S_string) (t78 : PV (.int .i64)) (t79 : PV (.int .i64)) : denK cx_S_l2Hunks (rcN cx_S_l2Hunks 0) pl_S_l2Hunks 0 ((loopsOf (bodyOf Try.f86)).getD 1 .skip) (fillS sh_S_l2Hunks_7 (t0, t1, t9, t10, t11, t77, t78, t79, ())) (roundK 0 lp_S_l2Hunks_7) = b_S_l2Hunks_7 t0 t1 t9 t10 t11 t77 t78 t79 := by kernel_rfl
theorem ef_S_l2Hunks (t0 : PV (.int .i64)) (t1 : PV S_impl_Hunk) : denF cx_S_l2Hunks 0 pl_S_l2Hunks Try.f86.ntmps (bodyOf Try.f86) Try.f86.results.toList [(.bor, (.int .i64)), (.bor, S_impl_Hunk)] [(.bool, .b)] (t0, t1, ()) = f_S_l2Hunks t0 t1 := by kernel_rfl
theorem ok_S_l2Hunks : FnOk gl Try.prog 86 ct_S_l2Hunks :=
  fnOk (cx := cx_S_l2Hunks) (pl := pl_S_l2Hunks) (dp := 0) (ok0_of tabOk (by unfold ArrOk; kernel_rfl) mix ⟨ok_S_l1In, ok_S_l1Line, trivial⟩ trivial) Try.func86 (by kernel_rfl) (by kernel_rfl) (by kernel_rfl)
    (by rw [show loopsOf (bodyOf Try.f86) = [((loopsOf (bodyOf Try.f86)).getD 0 .skip), ((loopsOf (bodyOf Try.f86)).getD 1 .skip)] from by kernel_rfl]; exact ⟨(by rw [show lookup pl_S_l2Hunks.loops (firstId ((loopsOf (bodyOf Try.f86)).getD 0 .skip)) = some lp_S_l2Hunks_2 from by kernel_rfl]; exact fun d z h => (eb_S_l2Hunks_2 d.1 d.2.1 d.2.2.1 d.2.2.2.1 d.2.2.2.2.1).trans h), (by rw [show lookup pl_S_l2Hunks.loops (firstId ((loopsOf (bodyOf Try.f86)).getD 1 .skip)) = some lp_S_l2Hunks_7 from by kernel_rfl]; exact fun d z h => (eb_S_l2Hunks_7 d.1 d.2.1 d.2.2.1 d.2.2.2.1 d.2.2.2.2.1 d.2.2.2.2.2.1 d.2.2.2.2.2.2.1 d.2.2.2.2.2.2.2.1).trans h), trivial⟩) (fun x => ef_S_l2Hunks x.1 x.2.1)
noncomputable def pl_S_l2Asked : Plan := ⟨[], [], 0, 0⟩
noncomputable def f_S_l2Asked (t0 : PV S_string) (t1 : PV S_impl_Hunk) : Option (PVs [.bool] × PVs []) :=
  (f_S_l1Good t0).bind fun r1 =>
    bif r1.1.1 then
      (f_S_l2Hunks (t0.length : Int) t1).bind fun r2 =>
        some ((r2.1.1, ()), ())
    else
      some ((false, ()), ())
noncomputable def ct_S_l2Asked : Ct := ⟨[(.bor, S_string), (.bor, S_impl_Hunk)], [(.bool, .b)], fun x => f_S_l2Asked x.1 x.2.1⟩
noncomputable def cx_S_l2Asked : Cx := ⟨tab, arrs, [(86, ct_S_l2Hunks), (88, ct_S_l1Good)], [], gl, []⟩
theorem ef_S_l2Asked (t0 : PV S_string) (t1 : PV S_impl_Hunk) : denF cx_S_l2Asked 0 pl_S_l2Asked Try.f87.ntmps (bodyOf Try.f87) Try.f87.results.toList [(.bor, S_string), (.bor, S_impl_Hunk)] [(.bool, .b)] (t0, t1, ()) = f_S_l2Asked t0 t1 := by kernel_rfl
theorem ok_S_l2Asked : FnOk gl Try.prog 87 ct_S_l2Asked :=
  fnOk (cx := cx_S_l2Asked) (pl := pl_S_l2Asked) (dp := 0) (ok0_of tabOk (by unfold ArrOk; kernel_rfl) mix ⟨ok_S_l2Hunks, ok_S_l1Good, trivial⟩ trivial) Try.func87 (by kernel_rfl) (by kernel_rfl) (by kernel_rfl)
    (by rw [show loopsOf (bodyOf Try.f87) = [] from by kernel_rfl]; exact trivial) (fun x => ef_S_l2Asked x.1 x.2.1)
noncomputable def sh_S_l2Patch_4 : List Sh := mkSh 37 [(0, .val S_string .b), (5, .val S_string (.row .b)), (6, .val (.int .i64) .b), (9, .val S_impl_Hunk .b), (10, .val (.int .i64) .b), (11, .val (.int .i64) .b)]
noncomputable def o_S_l2Patch_4 : List Out := [⟨.exit 0, ⟨[], [0, 5, 6], []⟩, mkSh 37 [(0, .val S_string .b), (5, .val S_string (.row .b)), (6, .val (.int .i64) .b)]⟩]
noncomputable def b_S_l2Patch_4 (t0 : PV S_string) (t5 : PV S_string) (t6 : PV (.int .i64)) (t9 : PV S_impl_Hunk) (t10 : PV (.int .i64)) (t11 : PV (.int .i64)) : Option ((PV S_string × PV S_string × PV (.int .i64) × PV S_impl_Hunk × PV (.int .i64) × PV (.int .i64) × Unit) ⊕ ((PV S_string × PV S_string × PV (.int .i64) × Unit))) :=
  bif (decide (t11 < t10)) then
    bif inB t11 t9.length then
      bif cutB t6 ((t9.getD t11.toNat (dflt Y_impl_Hunk)).1) t0.length then
        bif roomB (t5.length + (cutL t6 ((t9.getD t11.toNat (dflt Y_impl_Hunk)).1) t0).length) then
          bif roomB ((t5 ++ (cutL t6 ((t9.getD t11.toNat (dflt Y_impl_Hunk)).1) t0)).length + ((((t9.getD t11.toNat (dflt Y_impl_Hunk)).2).2).1).length) then
            some (.inl (t0, ((t5 ++ (cutL t6 ((t9.getD t11.toNat (dflt Y_impl_Hunk)).1) t0)) ++ ((((t9.getD t11.toNat (dflt Y_impl_Hunk)).2).2).1)), (IntKind.wrap .i64 (((t9.getD t11.toNat (dflt Y_impl_Hunk)).1) + (((t9.getD t11.toNat (dflt Y_impl_Hunk)).2).1))), t9, t10, (IntKind.wrap .i64 (t11 + 1)), ()))
          else
            none
        else
          none
      else
        none
    else
      none
  else
    some (.inr (t0, t5, t6, ()))
noncomputable def w_S_l2Patch_4 : PV S_string × PV S_string × PV (.int .i64) × PV S_impl_Hunk × PV (.int .i64) × PV (.int .i64) × Unit → Option ((PV S_string × PV S_string × PV (.int .i64) × Unit)) := fix fun d => b_S_l2Patch_4 d.1 d.2.1 d.2.2.1 d.2.2.2.1 d.2.2.2.2.1 d.2.2.2.2.2.1
noncomputable def lp_S_l2Patch_4 : Lp := ⟨⟨[], [0, 5, 6, 9, 10, 11], []⟩, sh_S_l2Patch_4, o_S_l2Patch_4, fun d => b_S_l2Patch_4 d.1 d.2.1 d.2.2.1 d.2.2.2.1 d.2.2.2.2.1 d.2.2.2.2.2.1⟩
noncomputable def pl_S_l2Patch : Plan := ⟨[], [(4, lp_S_l2Patch_4)], 0, 0⟩
noncomputable def f_S_l2Patch (t0 : PV S_string) (t1 : PV S_impl_Hunk) : Option (PVs [S_string] × PVs []) :=
  (w_S_l2Patch_4 (t0, [], 0, t1, (t1.length : Int), 0, ())).bind fun l2 =>
    bif cutB l2.2.2.1 (l2.1.length : Int) l2.1.length then
      bif roomB (l2.2.1.length + (cutL l2.2.2.1 (l2.1.length : Int) l2.1).length) then
        some (((l2.2.1 ++ (cutL l2.2.2.1 (l2.1.length : Int) l2.1)), ()), ())
      else
        none
    else
      none
noncomputable def ct_S_l2Patch : Ct := ⟨[(.bor, S_string), (.bor, S_impl_Hunk)], [(S_string, (.row .b))], fun x => f_S_l2Patch x.1 x.2.1⟩
noncomputable def cx_S_l2Patch : Cx := ⟨tab, arrs, [], [], gl, []⟩
theorem eb_S_l2Patch_4 (t0 : PV S_string) (t5 : PV S_string) (t6 : PV (.int .i64)) (t9 : PV S_impl_Hunk) (t10 : PV (.int .i64)) (t11 : PV (.int .i64)) : denK cx_S_l2Patch (rcN cx_S_l2Patch 0) pl_S_l2Patch 0 ((loopsOf (bodyOf Try.f38)).getD 0 .skip) (fillS sh_S_l2Patch_4 (t0, t5, t6, t9, t10, t11, ())) (roundK 0 lp_S_l2Patch_4) = b_S_l2Patch_4 t0 t5 t6 t9 t10 t11 := by kernel_rfl
theorem ef_S_l2Patch (t0 : PV S_string) (t1 : PV S_impl_Hunk) : denF cx_S_l2Patch 0 pl_S_l2Patch Try.f38.ntmps (bodyOf Try.f38) Try.f38.results.toList [(.bor, S_string), (.bor, S_impl_Hunk)] [(S_string, (.row .b))] (t0, t1, ()) = f_S_l2Patch t0 t1 := by kernel_rfl
theorem ok_S_l2Patch : FnOk gl Try.prog 38 ct_S_l2Patch :=
  fnOk (cx := cx_S_l2Patch) (pl := pl_S_l2Patch) (dp := 0) (ok0_of tabOk (by unfold ArrOk; kernel_rfl) mix trivial trivial) Try.func38 (by kernel_rfl) (by kernel_rfl) (by kernel_rfl)
    (by rw [show loopsOf (bodyOf Try.f38) = [((loopsOf (bodyOf Try.f38)).getD 0 .skip)] from by kernel_rfl]; exact ⟨(by rw [show lookup pl_S_l2Patch.loops (firstId ((loopsOf (bodyOf Try.f38)).getD 0 .skip)) = some lp_S_l2Patch_4 from by kernel_rfl]; exact fun d z h => (eb_S_l2Patch_4 d.1 d.2.1 d.2.2.1 d.2.2.2.1 d.2.2.2.2.1 d.2.2.2.2.2.1).trans h), trivial⟩) (fun x => ef_S_l2Patch x.1 x.2.1)
noncomputable def pl_S_Patch : Plan := ⟨[], [], 0, 0⟩
noncomputable def f_S_Patch (t0 : PV S_string) (t1 : PV S_impl_Hunk) : Option (PVs [S_string, .bool] × PVs []) :=
  (f_S_l2Asked t0 t1).bind fun r4 =>
    bif (!r4.1.1) then
      some (([], false, ()), ())
    else
      (f_S_l2Patch t0 t1).bind fun r6 =>
        (f_S_l1Good r6.1.1).bind fun r10 =>
          bif (!r10.1.1) then
            some (([], false, ()), ())
          else
            some ((r6.1.1, true, ()), ())
noncomputable def ct_S_Patch : Ct := ⟨[(.bor, S_string), (.bor, S_impl_Hunk)], [(S_string, (.row .b)), (.bool, .b)], fun x => f_S_Patch x.1 x.2.1⟩
noncomputable def cx_S_Patch : Cx := ⟨tab, arrs, [(38, ct_S_l2Patch), (87, ct_S_l2Asked), (88, ct_S_l1Good)], [], gl, []⟩
theorem ef_S_Patch (t0 : PV S_string) (t1 : PV S_impl_Hunk) : denF cx_S_Patch 0 pl_S_Patch Try.f37.ntmps (bodyOf Try.f37) Try.f37.results.toList [(.bor, S_string), (.bor, S_impl_Hunk)] [(S_string, (.row .b)), (.bool, .b)] (t0, t1, ()) = f_S_Patch t0 t1 := by kernel_rfl
theorem ok_S_Patch : FnOk gl Try.prog 37 ct_S_Patch :=
  fnOk (cx := cx_S_Patch) (pl := pl_S_Patch) (dp := 0) (ok0_of tabOk (by unfold ArrOk; kernel_rfl) mix ⟨ok_S_l2Patch, ok_S_l2Asked, ok_S_l1Good, trivial⟩ trivial) Try.func37 (by kernel_rfl) (by kernel_rfl) (by kernel_rfl)
    (by rw [show loopsOf (bodyOf Try.f37) = [] from by kernel_rfl]; exact trivial) (fun x => ef_S_Patch x.1 x.2.1)
noncomputable def pl_S_l13Both : Plan := ⟨[], [], 0, 0⟩
noncomputable def f_S_l13Both (t0 : PV S_string) (t1 : PV S_impl_Hunk) (t2 : PV S_impl_Hunk) : Option (PVs [.bool] × PVs []) :=
  (f_S_Patch t0 t1).bind fun r2 =>
    (f_S_Patch t0 t2).bind fun r4 =>
      bif r2.1.2.1 then
        some ((r4.1.2.1, ()), ())
      else
        some ((false, ()), ())
noncomputable def ct_S_l13Both : Ct := ⟨[(.bor, S_string), (.bor, S_impl_Hunk), (.bor, S_impl_Hunk)], [(.bool, .b)], fun x => f_S_l13Both x.1 x.2.1 x.2.2.1⟩
noncomputable def cx_S_l13Both : Cx := ⟨tab, arrs, [(37, ct_S_Patch)], [], gl, []⟩
theorem ef_S_l13Both (t0 : PV S_string) (t1 : PV S_impl_Hunk) (t2 : PV S_impl_Hunk) : denF cx_S_l13Both 0 pl_S_l13Both Try.f35.ntmps (bodyOf Try.f35) Try.f35.results.toList [(.bor, S_string), (.bor, S_impl_Hunk), (.bor, S_impl_Hunk)] [(.bool, .b)] (t0, t1, t2, ()) = f_S_l13Both t0 t1 t2 := by kernel_rfl
theorem ok_S_l13Both : FnOk gl Try.prog 35 ct_S_l13Both :=
  fnOk (cx := cx_S_l13Both) (pl := pl_S_l13Both) (dp := 0) (ok0_of tabOk (by unfold ArrOk; kernel_rfl) mix ⟨ok_S_Patch, trivial⟩ trivial) Try.func35 (by kernel_rfl) (by kernel_rfl) (by kernel_rfl)
    (by rw [show loopsOf (bodyOf Try.f35) = [] from by kernel_rfl]; exact trivial) (fun x => ef_S_l13Both x.1 x.2.1 x.2.2.1)
noncomputable def o_S_l13Touch_8 : List Out := [⟨.normal, ⟨[], [1, 6, 8, 9, 10, 11, 15, 16, 17, 38], []⟩, mkSh 41 [(1, .val S_impl_Hunk .b), (6, .var Y_impl_Hunk .b), (8, .var Y_impl_Hunk .b), (9, .val S_impl_Hunk .b), (10, .val (.int .i64) .b), (11, .val (.int .i64) .b), (15, .val S_impl_Hunk .b), (16, .val (.int .i64) .b), (17, .val (.int .i64) .b), (38, .val .bool .b)]⟩]
noncomputable def sh_S_l13Touch_5 : List Sh := mkSh 41 [(1, .val S_impl_Hunk .b), (6, .var Y_impl_Hunk .b), (9, .val S_impl_Hunk .b), (10, .val (.int .i64) .b), (11, .val (.int .i64) .b), (15, .val S_impl_Hunk .b), (16, .val (.int .i64) .b), (17, .val (.int .i64) .b)]
noncomputable def o_S_l13Touch_5 : List Out := [⟨.exit 2, ⟨[], [1, 9, 10, 11, 30, 31, 32, 33, 34, 35, 36, 37], []⟩, mkSh 41 [(1, .val S_impl_Hunk .b), (9, .val S_impl_Hunk .b), (10, .val (.int .i64) .b), (11, .val (.int .i64) .b)]⟩, ⟨.ret, ⟨[], [4], []⟩, mkSh 41 [(4, .val .bool .b)]⟩]
noncomputable def b_S_l13Touch_5 (t1 : PV S_impl_Hunk) (t6 : PV Y_impl_Hunk) (t9 : PV S_impl_Hunk) (t10 : PV (.int .i64)) (t11 : PV (.int .i64)) (t15 : PV S_impl_Hunk) (t16 : PV (.int .i64)) (t17 : PV (.int .i64)) : Option ((PV S_impl_Hunk × PV Y_impl_Hunk × PV S_impl_Hunk × PV (.int .i64) × PV (.int .i64) × PV S_impl_Hunk × PV (.int .i64) × PV (.int .i64) × Unit) ⊕ ((PV S_impl_Hunk × PV S_impl_Hunk × PV (.int .i64) × PV (.int .i64) × Unit) ⊕ (PV .bool × Unit))) :=
  bif (decide (t17 < t16)) then
    bif inB t17 t15.length then
      ((
          bif (decide (t6.1 ≤ (IntKind.wrap .i64 (((t15.getD t17.toNat (dflt Y_impl_Hunk)).1) + (((t15.getD t17.toNat (dflt Y_impl_Hunk)).2).1))))) then
            some (t1, t6, (t15.getD t17.toNat (dflt Y_impl_Hunk)), t9, t10, t11, t15, t16, t17, (decide (((t15.getD t17.toNat (dflt Y_impl_Hunk)).1) ≤ (IntKind.wrap .i64 (t6.1 + t6.2.1)))), ())
          else
            some (t1, t6, (t15.getD t17.toNat (dflt Y_impl_Hunk)), t9, t10, t11, t15, t16, t17, false, ()) : Option ((PV S_impl_Hunk × PV Y_impl_Hunk × PV Y_impl_Hunk × PV S_impl_Hunk × PV (.int .i64) × PV (.int .i64) × PV S_impl_Hunk × PV (.int .i64) × PV (.int .i64) × PV .bool × Unit)))).bind fun j2 =>
        bif j2.2.2.2.2.2.2.2.2.2.1 then
          some (.inr (.inr (true, ())))
        else
          some (.inl (j2.1, j2.2.1, j2.2.2.2.1, j2.2.2.2.2.1, j2.2.2.2.2.2.1, j2.2.2.2.2.2.2.1, j2.2.2.2.2.2.2.2.1, (IntKind.wrap .i64 (j2.2.2.2.2.2.2.2.2.1 + 1)), ()))
    else
      none
  else
    some (.inr (.inl (t1, t9, t10, t11, ())))
noncomputable def w_S_l13Touch_5 : PV S_impl_Hunk × PV Y_impl_Hunk × PV S_impl_Hunk × PV (.int .i64) × PV (.int .i64) × PV S_impl_Hunk × PV (.int .i64) × PV (.int .i64) × Unit → Option ((PV S_impl_Hunk × PV S_impl_Hunk × PV (.int .i64) × PV (.int .i64) × Unit) ⊕ (PV .bool × Unit)) := fix fun d => b_S_l13Touch_5 d.1 d.2.1 d.2.2.1 d.2.2.2.1 d.2.2.2.2.1 d.2.2.2.2.2.1 d.2.2.2.2.2.2.1 d.2.2.2.2.2.2.2.1
noncomputable def lp_S_l13Touch_5 : Lp := ⟨⟨[], [1, 6, 9, 10, 11, 15, 16, 17, 30, 31, 32, 33, 34, 35, 36, 37], []⟩, sh_S_l13Touch_5, o_S_l13Touch_5, fun d => b_S_l13Touch_5 d.1 d.2.1 d.2.2.1 d.2.2.2.1 d.2.2.2.2.1 d.2.2.2.2.2.1 d.2.2.2.2.2.2.1 d.2.2.2.2.2.2.2.1⟩
noncomputable def sh_S_l13Touch_2 : List Sh := mkSh 41 [(1, .val S_impl_Hunk .b), (9, .val S_impl_Hunk .b), (10, .val (.int .i64) .b), (11, .val (.int .i64) .b)]
noncomputable def o_S_l13Touch_2 : List Out := [⟨.exit 0, ⟨[], [], []⟩, mkSh 41 []⟩, ⟨.ret, ⟨[], [4], []⟩, mkSh 41 [(4, .val .bool .b)]⟩]
noncomputable def b_S_l13Touch_2 (t1 : PV S_impl_Hunk) (t9 : PV S_impl_Hunk) (t10 : PV (.int .i64)) (t11 : PV (.int .i64)) : Option ((PV S_impl_Hunk × PV S_impl_Hunk × PV (.int .i64) × PV (.int .i64) × Unit) ⊕ ((Unit) ⊕ (PV .bool × Unit))) :=
  bif (decide (t11 < t10)) then
    bif inB t11 t9.length then
      (w_S_l13Touch_5 (t1, (t9.getD t11.toNat (dflt Y_impl_Hunk)), t9, t10, t11, t1, (t1.length : Int), 0, ())).bind fun x9 =>
        match x9 with
        | .inl l3 =>
          some (.inl (l3.1, l3.2.1, l3.2.2.1, (IntKind.wrap .i64 (l3.2.2.2.1 + 1)), ()))
        | .inr l4 =>
          some (.inr (.inr (l4.1, ())))
    else
      none
  else
    some (.inr (.inl ()))
noncomputable def w_S_l13Touch_2 : PV S_impl_Hunk × PV S_impl_Hunk × PV (.int .i64) × PV (.int .i64) × Unit → Option ((Unit) ⊕ (PV .bool × Unit)) := fix fun d => b_S_l13Touch_2 d.1 d.2.1 d.2.2.1 d.2.2.2.1
noncomputable def lp_S_l13Touch_2 : Lp := ⟨⟨[], [1, 9, 10, 11, 30, 31, 32, 33, 34, 35, 36, 37], []⟩, sh_S_l13Touch_2, o_S_l13Touch_2, fun d => b_S_l13Touch_2 d.1 d.2.1 d.2.2.1 d.2.2.2.1⟩
noncomputable def pl_S_l13Touch : Plan := ⟨[(8, o_S_l13Touch_8)], [(5, lp_S_l13Touch_5), (2, lp_S_l13Touch_2)], 0, 0⟩
noncomputable def f_S_l13Touch (t0 : PV S_impl_Hunk) (t1 : PV S_impl_Hunk) : Option (PVs [.bool] × PVs []) :=
  (w_S_l13Touch_2 (t1, t0, (t0.length : Int), 0, ())).bind fun x10 =>
    match x10 with
    | .inl l7 =>
      some ((false, ()), ())
    | .inr l8 =>
      some ((l8.1, ()), ())
noncomputable def ct_S_l13Touch : Ct := ⟨[(.bor, S_impl_Hunk), (.bor, S_impl_Hunk)], [(.bool, .b)], fun x => f_S_l13Touch x.1 x.2.1⟩
noncomputable def cx_S_l13Touch : Cx := ⟨tab, arrs, [], [], gl, []⟩
theorem eb_S_l13Touch_2 (t1 : PV S_impl_Hunk) (t9 : PV S_impl_Hunk) (t10 : PV (.int .i64)) (t11 : PV (.int .i64)) : denK cx_S_l13Touch (rcN cx_S_l13Touch 0) pl_S_l13Touch 0 ((loopsOf (bodyOf Try.f84)).getD 0 .skip) (fillS sh_S_l13Touch_2 (t1, t9, t10, t11, ())) (roundK 0 lp_S_l13Touch_2) = b_S_l13Touch_2 t1 t9 t10 t11 := by kernel_rfl
theorem eb_S_l13Touch_5 (t1 : PV S_impl_Hunk) (t6 : PV Y_impl_Hunk) (t9 : PV S_impl_Hunk) (t10 : PV (.int .i64)) (t11 : PV (.int .i64)) (t15 : PV S_impl_Hunk) (t16 : PV (.int .i64)) (t17 : PV (.int .i64)) : denK cx_S_l13Touch (rcN cx_S_l13Touch 0) pl_S_l13Touch 0 ((loopsOf (bodyOf Try.f84)).getD 1 .skip) (fillS sh_S_l13Touch_5 (t1, t6, t9, t10, t11, t15, t16, t17, ())) (roundK 0 lp_S_l13Touch_5) = b_S_l13Touch_5 t1 t6 t9 t10 t11 t15 t16 t17 := by kernel_rfl
theorem ef_S_l13Touch (t0 : PV S_impl_Hunk) (t1 : PV S_impl_Hunk) : denF cx_S_l13Touch 0 pl_S_l13Touch Try.f84.ntmps (bodyOf Try.f84) Try.f84.results.toList [(.bor, S_impl_Hunk), (.bor, S_impl_Hunk)] [(.bool, .b)] (t0, t1, ()) = f_S_l13Touch t0 t1 := by kernel_rfl
theorem ok_S_l13Touch : FnOk gl Try.prog 84 ct_S_l13Touch :=
  fnOk (cx := cx_S_l13Touch) (pl := pl_S_l13Touch) (dp := 0) (ok0_of tabOk (by unfold ArrOk; kernel_rfl) mix trivial trivial) Try.func84 (by kernel_rfl) (by kernel_rfl) (by kernel_rfl)
    (by rw [show loopsOf (bodyOf Try.f84) = [((loopsOf (bodyOf Try.f84)).getD 0 .skip), ((loopsOf (bodyOf Try.f84)).getD 1 .skip)] from by kernel_rfl]; exact ⟨(by rw [show lookup pl_S_l13Touch.loops (firstId ((loopsOf (bodyOf Try.f84)).getD 0 .skip)) = some lp_S_l13Touch_2 from by kernel_rfl]; exact fun d z h => (eb_S_l13Touch_2 d.1 d.2.1 d.2.2.1 d.2.2.2.1).trans h), (by rw [show lookup pl_S_l13Touch.loops (firstId ((loopsOf (bodyOf Try.f84)).getD 1 .skip)) = some lp_S_l13Touch_5 from by kernel_rfl]; exact fun d z h => (eb_S_l13Touch_5 d.1 d.2.1 d.2.2.1 d.2.2.2.1 d.2.2.2.2.1 d.2.2.2.2.2.1 d.2.2.2.2.2.2.1 d.2.2.2.2.2.2.2.1).trans h), trivial⟩) (fun x => ef_S_l13Touch x.1 x.2.1)
noncomputable def pl_S_l1OwnT : Plan := ⟨[], [], 0, 0⟩
noncomputable def f_S_l1OwnT (t0 : PV S_string) : Option (PVs [S_string] × PVs []) :=
  bif roomB (([] : PV S_string).length + t0.length) then
    some (((([] : PV S_string) ++ t0), ()), ())
  else
    none
noncomputable def ct_S_l1OwnT : Ct := ⟨[(.bor, S_string)], [(S_string, (.row .b))], fun x => f_S_l1OwnT x.1⟩
noncomputable def cx_S_l1OwnT : Cx := ⟨tab, arrs, [], [], gl, []⟩
theorem ef_S_l1OwnT (t0 : PV S_string) : denF cx_S_l1OwnT 0 pl_S_l1OwnT Try.f104.ntmps (bodyOf Try.f104) Try.f104.results.toList [(.bor, S_string)] [(S_string, (.row .b))] (t0, ()) = f_S_l1OwnT t0 := by kernel_rfl
theorem ok_S_l1OwnT : FnOk gl Try.prog 104 ct_S_l1OwnT :=
  fnOk (cx := cx_S_l1OwnT) (pl := pl_S_l1OwnT) (dp := 0) (ok0_of tabOk (by unfold ArrOk; kernel_rfl) mix trivial trivial) Try.func104 (by kernel_rfl) (by kernel_rfl) (by kernel_rfl)
    (by rw [show loopsOf (bodyOf Try.f104) = [] from by kernel_rfl]; exact trivial) (fun x => ef_S_l1OwnT x.1)
noncomputable def sh_S_l13OwnH_3 : List Sh := mkSh 25 [(3, .val S_impl_Hunk (.row (.pr .b (.pr .b (.pr (.row .b) .b))))), (6, .val S_impl_Hunk .b), (7, .val (.int .i64) .b), (8, .val (.int .i64) .b)]
noncomputable def o_S_l13OwnH_3 : List Out := [⟨.exit 0, ⟨[], [3], []⟩, mkSh 25 [(3, .val S_impl_Hunk (.row (.pr .b (.pr .b (.pr (.row .b) .b)))))]⟩]
noncomputable def b_S_l13OwnH_3 (t3 : PV S_impl_Hunk) (t6 : PV S_impl_Hunk) (t7 : PV (.int .i64)) (t8 : PV (.int .i64)) : Option ((PV S_impl_Hunk × PV S_impl_Hunk × PV (.int .i64) × PV (.int .i64) × Unit) ⊕ ((PV S_impl_Hunk × Unit))) :=
  bif (decide (t8 < t7)) then
    bif inB t8 t6.length then
      (f_S_l1OwnT ((((t6.getD t8.toNat (dflt Y_impl_Hunk)).2).2).1)).bind fun r2 =>
        bif roomB (t3.length + [((t6.getD t8.toNat (dflt Y_impl_Hunk)).1, (((t6.getD t8.toNat (dflt Y_impl_Hunk)).2).1, (r2.1.1, ())))].length) then
          some (.inl ((t3 ++ [((t6.getD t8.toNat (dflt Y_impl_Hunk)).1, (((t6.getD t8.toNat (dflt Y_impl_Hunk)).2).1, (r2.1.1, ())))]), t6, t7, (IntKind.wrap .i64 (t8 + 1)), ()))
        else
          none
    else
      none
  else
    some (.inr (t3, ()))
noncomputable def w_S_l13OwnH_3 : PV S_impl_Hunk × PV S_impl_Hunk × PV (.int .i64) × PV (.int .i64) × Unit → Option ((PV S_impl_Hunk × Unit)) := fix fun d => b_S_l13OwnH_3 d.1 d.2.1 d.2.2.1 d.2.2.2.1
noncomputable def lp_S_l13OwnH_3 : Lp := ⟨⟨[], [3, 6, 7, 8], []⟩, sh_S_l13OwnH_3, o_S_l13OwnH_3, fun d => b_S_l13OwnH_3 d.1 d.2.1 d.2.2.1 d.2.2.2.1⟩
noncomputable def pl_S_l13OwnH : Plan := ⟨[], [(3, lp_S_l13OwnH_3)], 0, 0⟩
noncomputable def f_S_l13OwnH (t0 : PV S_impl_Hunk) : Option (PVs [S_impl_Hunk] × PVs []) :=
  (w_S_l13OwnH_3 ([], t0, (t0.length : Int), 0, ())).bind fun l4 =>
    some ((l4.1, ()), ())
noncomputable def ct_S_l13OwnH : Ct := ⟨[(.bor, S_impl_Hunk)], [(S_impl_Hunk, (.row (.pr .b (.pr .b (.pr .b .b)))))], fun x => f_S_l13OwnH x.1⟩
noncomputable def cx_S_l13OwnH : Cx := ⟨tab, arrs, [(104, ct_S_l1OwnT)], [], gl, []⟩
theorem eb_S_l13OwnH_3 (t3 : PV S_impl_Hunk) (t6 : PV S_impl_Hunk) (t7 : PV (.int .i64)) (t8 : PV (.int .i64)) : denK cx_S_l13OwnH (rcN cx_S_l13OwnH 0) pl_S_l13OwnH 0 ((loopsOf (bodyOf Try.f105)).getD 0 .skip) (fillS sh_S_l13OwnH_3 (t3, t6, t7, t8, ())) (roundK 0 lp_S_l13OwnH_3) = b_S_l13OwnH_3 t3 t6 t7 t8 := by kernel_rfl
theorem ef_S_l13OwnH (t0 : PV S_impl_Hunk) : denF cx_S_l13OwnH 0 pl_S_l13OwnH Try.f105.ntmps (bodyOf Try.f105) Try.f105.results.toList [(.bor, S_impl_Hunk)] [(S_impl_Hunk, (.row (.pr .b (.pr .b (.pr .b .b)))))] (t0, ()) = f_S_l13OwnH t0 := by kernel_rfl
theorem ok_S_l13OwnH : FnOk gl Try.prog 105 ct_S_l13OwnH :=
  fnOk (cx := cx_S_l13OwnH) (pl := pl_S_l13OwnH) (dp := 0) (ok0_of tabOk (by unfold ArrOk; kernel_rfl) mix ⟨ok_S_l1OwnT, trivial⟩ trivial) Try.func105 (by kernel_rfl) (by kernel_rfl) (by kernel_rfl)
    (by rw [show loopsOf (bodyOf Try.f105) = [((loopsOf (bodyOf Try.f105)).getD 0 .skip)] from by kernel_rfl]; exact ⟨(by rw [show lookup pl_S_l13OwnH.loops (firstId ((loopsOf (bodyOf Try.f105)).getD 0 .skip)) = some lp_S_l13OwnH_3 from by kernel_rfl]; exact fun d z h => (eb_S_l13OwnH_3 d.1 d.2.1 d.2.2.1 d.2.2.2.1).trans h), trivial⟩) (fun x => ef_S_l13OwnH x.1)
noncomputable def o_S_l2Place_9 : List Out := [⟨.normal, ⟨[], [1, 5, 8, 9, 10], []⟩, mkSh 39 [(1, .val (.int .i64) .b), (5, .val (.int .i64) .b), (8, .val S_impl_Hunk .b), (9, .val (.int .i64) .b), (10, .val (.int .i64) .b)]⟩, ⟨.ret, ⟨[], [4], []⟩, mkSh 39 [(4, .val (.int .i64) .b)]⟩]
noncomputable def sh_S_l2Place_3 : List Sh := mkSh 39 [(1, .val (.int .i64) .b), (5, .val (.int .i64) .b), (8, .val S_impl_Hunk .b), (9, .val (.int .i64) .b), (10, .val (.int .i64) .b)]
noncomputable def o_S_l2Place_3 : List Out := [⟨.exit 0, ⟨[], [1, 5], []⟩, mkSh 39 [(1, .val (.int .i64) .b), (5, .val (.int .i64) .b)]⟩, ⟨.ret, ⟨[], [4], []⟩, mkSh 39 [(4, .val (.int .i64) .b)]⟩]
noncomputable def b_S_l2Place_3 (t1 : PV (.int .i64)) (t5 : PV (.int .i64)) (t8 : PV S_impl_Hunk) (t9 : PV (.int .i64)) (t10 : PV (.int .i64)) : Option ((PV (.int .i64) × PV (.int .i64) × PV S_impl_Hunk × PV (.int .i64) × PV (.int .i64) × Unit) ⊕ ((PV (.int .i64) × PV (.int .i64) × Unit) ⊕ (PV (.int .i64) × Unit))) :=
  bif (decide (t10 < t9)) then
    ((
        bif inB t10 t8.length then
          bif (decide ((IntKind.wrap .i64 (((t8.getD t10.toNat (dflt Y_impl_Hunk)).1) + (((t8.getD t10.toNat (dflt Y_impl_Hunk)).2).1))) ≤ t1)) then
            some (.inl (t1, (IntKind.wrap .i64 (t5 + (IntKind.wrap .i64 ((((((t8.getD t10.toNat (dflt Y_impl_Hunk)).2).2).1).length : Int) - (((t8.getD t10.toNat (dflt Y_impl_Hunk)).2).1))))), t8, t9, t10, ()))
          else
            bif (decide (((t8.getD t10.toNat (dflt Y_impl_Hunk)).1) ≤ t1)) then
              some (.inr ((-1), ()))
            else
              some (.inl (t1, t5, t8, t9, t10, ()))
        else
          none : Option ((PV (.int .i64) × PV (.int .i64) × PV S_impl_Hunk × PV (.int .i64) × PV (.int .i64) × Unit) ⊕ (PV (.int .i64) × Unit)))).bind fun x7 =>
      match x7 with
      | .inl j1 =>
        some (.inl (j1.1, j1.2.1, j1.2.2.1, j1.2.2.2.1, (IntKind.wrap .i64 (j1.2.2.2.2.1 + 1)), ()))
      | .inr j2 =>
        some (.inr (.inr (j2.1, ())))
  else
    some (.inr (.inl (t1, t5, ())))
noncomputable def w_S_l2Place_3 : PV (.int .i64) × PV (.int .i64) × PV S_impl_Hunk × PV (.int .i64) × PV (.int .i64) × Unit → Option ((PV (.int .i64) × PV (.int .i64) × Unit) ⊕ (PV (.int .i64) × Unit)) := fix fun d => b_S_l2Place_3 d.1 d.2.1 d.2.2.1 d.2.2.2.1 d.2.2.2.2.1
noncomputable def lp_S_l2Place_3 : Lp := ⟨⟨[], [1, 5, 8, 9, 10], []⟩, sh_S_l2Place_3, o_S_l2Place_3, fun d => b_S_l2Place_3 d.1 d.2.1 d.2.2.1 d.2.2.2.1 d.2.2.2.2.1⟩
noncomputable def pl_S_l2Place : Plan := ⟨[(9, o_S_l2Place_9)], [(3, lp_S_l2Place_3)], 0, 0⟩
noncomputable def f_S_l2Place (t0 : PV S_impl_Hunk) (t1 : PV (.int .i64)) : Option (PVs [(.int .i64)] × PVs []) :=
  (w_S_l2Place_3 (t1, 0, t0, (t0.length : Int), 0, ())).bind fun x8 =>
    match x8 with
    | .inl l5 =>
      some (((IntKind.wrap .i64 (l5.1 + l5.2.1)), ()), ())
    | .inr l6 =>
      some ((l6.1, ()), ())
noncomputable def ct_S_l2Place : Ct := ⟨[(.bor, S_impl_Hunk), (.bor, (.int .i64))], [((.int .i64), .b)], fun x => f_S_l2Place x.1 x.2.1⟩
noncomputable def cx_S_l2Place : Cx := ⟨tab, arrs, [], [], gl, []⟩
theorem eb_S_l2Place_3 (t1 : PV (.int .i64)) (t5 : PV (.int .i64)) (t8 : PV S_impl_Hunk) (t9 : PV (.int .i64)) (t10 : PV (.int .i64)) : denK cx_S_l2Place (rcN cx_S_l2Place 0) pl_S_l2Place 0 ((loopsOf (bodyOf Try.f102)).getD 0 .skip) (fillS sh_S_l2Place_3 (t1, t5, t8, t9, t10, ())) (roundK 0 lp_S_l2Place_3) = b_S_l2Place_3 t1 t5 t8 t9 t10 := by kernel_rfl
theorem ef_S_l2Place (t0 : PV S_impl_Hunk) (t1 : PV (.int .i64)) : denF cx_S_l2Place 0 pl_S_l2Place Try.f102.ntmps (bodyOf Try.f102) Try.f102.results.toList [(.bor, S_impl_Hunk), (.bor, (.int .i64))] [((.int .i64), .b)] (t0, t1, ()) = f_S_l2Place t0 t1 := by kernel_rfl
theorem ok_S_l2Place : FnOk gl Try.prog 102 ct_S_l2Place :=
  fnOk (cx := cx_S_l2Place) (pl := pl_S_l2Place) (dp := 0) (ok0_of tabOk (by unfold ArrOk; kernel_rfl) mix trivial trivial) Try.func102 (by kernel_rfl) (by kernel_rfl) (by kernel_rfl)
    (by rw [show loopsOf (bodyOf Try.f102) = [((loopsOf (bodyOf Try.f102)).getD 0 .skip)] from by kernel_rfl]; exact ⟨(by rw [show lookup pl_S_l2Place.loops (firstId ((loopsOf (bodyOf Try.f102)).getD 0 .skip)) = some lp_S_l2Place_3 from by kernel_rfl]; exact fun d z h => (eb_S_l2Place_3 d.1 d.2.1 d.2.2.1 d.2.2.2.1 d.2.2.2.2.1).trans h), trivial⟩) (fun x => ef_S_l2Place x.1 x.2.1)
noncomputable def sh_S_l13Move_3 : List Sh := mkSh 27 [(0, .val S_impl_Hunk .b), (5, .val S_impl_Hunk (.row (.pr .b (.pr .b (.pr .b .b))))), (10, .sub ⟨5, [], 0, 0⟩), (11, .val (.int .i64) .b), (12, .val (.int .i64) .b)]
noncomputable def o_S_l13Move_3 : List Out := [⟨.exit 0, ⟨[], [5], []⟩, mkSh 27 [(5, .val S_impl_Hunk (.row (.pr .b (.pr .b (.pr .b .b)))))]⟩]
noncomputable def b_S_l13Move_3 (t0 : PV S_impl_Hunk) (t5 : PV S_impl_Hunk) (t11 : PV (.int .i64)) (t12 : PV (.int .i64)) : Option ((PV S_impl_Hunk × PV S_impl_Hunk × PV (.int .i64) × PV (.int .i64) × Unit) ⊕ ((PV S_impl_Hunk × Unit))) :=
  bif (decide (t12 < t11)) then
    bif inB t12 t5.length then
      (f_S_l2Place t0 ((t5.getD t12.toNat (dflt Y_impl_Hunk)).1)).bind fun r4 =>
        bif inB t12 t5.length then
          some (.inl (t0, (t5.set t12.toNat (r4.1.1, (t5.getD t12.toNat (dflt Y_impl_Hunk)).2)), t11, (IntKind.wrap .i64 (t12 + 1)), ()))
        else
          none
    else
      none
  else
    some (.inr (t5, ()))
noncomputable def w_S_l13Move_3 : PV S_impl_Hunk × PV S_impl_Hunk × PV (.int .i64) × PV (.int .i64) × Unit → Option ((PV S_impl_Hunk × Unit)) := fix fun d => b_S_l13Move_3 d.1 d.2.1 d.2.2.1 d.2.2.2.1
noncomputable def lp_S_l13Move_3 : Lp := ⟨⟨[], [0, 5, 10, 11, 12], []⟩, sh_S_l13Move_3, o_S_l13Move_3, fun d => b_S_l13Move_3 d.1 d.2.1 d.2.2.1 d.2.2.2.1⟩
noncomputable def pl_S_l13Move : Plan := ⟨[], [(3, lp_S_l13Move_3)], 0, 0⟩
noncomputable def f_S_l13Move (t0 : PV S_impl_Hunk) (t1 : PV S_impl_Hunk) : Option (PVs [S_impl_Hunk] × PVs []) :=
  (f_S_l13OwnH t1).bind fun r2 =>
    (w_S_l13Move_3 (t0, r2.1.1, (r2.1.1.length : Int), 0, ())).bind fun l6 =>
      some ((l6.1, ()), ())
noncomputable def ct_S_l13Move : Ct := ⟨[(.bor, S_impl_Hunk), (.bor, S_impl_Hunk)], [(S_impl_Hunk, (.row (.pr .b (.pr .b (.pr .b .b)))))], fun x => f_S_l13Move x.1 x.2.1⟩
noncomputable def cx_S_l13Move : Cx := ⟨tab, arrs, [(102, ct_S_l2Place), (105, ct_S_l13OwnH)], [], gl, []⟩
theorem eb_S_l13Move_3 (t0 : PV S_impl_Hunk) (t5 : PV S_impl_Hunk) (t11 : PV (.int .i64)) (t12 : PV (.int .i64)) : denK cx_S_l13Move (rcN cx_S_l13Move 0) pl_S_l13Move 0 ((loopsOf (bodyOf Try.f85)).getD 0 .skip) (fillS sh_S_l13Move_3 (t0, t5, t11, t12, ())) (roundK 0 lp_S_l13Move_3) = b_S_l13Move_3 t0 t5 t11 t12 := by kernel_rfl
theorem ef_S_l13Move (t0 : PV S_impl_Hunk) (t1 : PV S_impl_Hunk) : denF cx_S_l13Move 0 pl_S_l13Move Try.f85.ntmps (bodyOf Try.f85) Try.f85.results.toList [(.bor, S_impl_Hunk), (.bor, S_impl_Hunk)] [(S_impl_Hunk, (.row (.pr .b (.pr .b (.pr .b .b)))))] (t0, t1, ()) = f_S_l13Move t0 t1 := by kernel_rfl
theorem ok_S_l13Move : FnOk gl Try.prog 85 ct_S_l13Move :=
  fnOk (cx := cx_S_l13Move) (pl := pl_S_l13Move) (dp := 0) (ok0_of tabOk (by unfold ArrOk; kernel_rfl) mix ⟨ok_S_l2Place, ok_S_l13OwnH, trivial⟩ trivial) Try.func85 (by kernel_rfl) (by kernel_rfl) (by kernel_rfl)
    (by rw [show loopsOf (bodyOf Try.f85) = [((loopsOf (bodyOf Try.f85)).getD 0 .skip)] from by kernel_rfl]; exact ⟨(by rw [show lookup pl_S_l13Move.loops (firstId ((loopsOf (bodyOf Try.f85)).getD 0 .skip)) = some lp_S_l13Move_3 from by kernel_rfl]; exact fun d z h => (eb_S_l13Move_3 d.1 d.2.1 d.2.2.1 d.2.2.2.1).trans h), trivial⟩) (fun x => ef_S_l13Move x.1 x.2.1)
noncomputable def o_S_MoveHunks_2 : List Out := [⟨.normal, ⟨[], [0, 1, 2, 18], []⟩, mkSh 30 [(0, .val S_string .b), (1, .val S_impl_Hunk .b), (2, .val S_impl_Hunk .b), (18, .val .bool .b)]⟩]
noncomputable def pl_S_MoveHunks : Plan := ⟨[(2, o_S_MoveHunks_2)], [], 0, 0⟩
noncomputable def f_S_MoveHunks (t0 : PV S_string) (t1 : PV S_impl_Hunk) (t2 : PV S_impl_Hunk) : Option (PVs [S_impl_Hunk, .bool] × PVs []) :=
  ((
      (f_S_l13Both t0 t1 t2).bind fun r6 =>
        bif (!r6.1.1) then
          some (t0, t1, t2, true, ())
        else
          (f_S_l13Touch t1 t2).bind fun r7 =>
            some (t0, t1, t2, r7.1.1, ()) : Option ((PV S_string × PV S_impl_Hunk × PV S_impl_Hunk × PV .bool × Unit)))).bind fun j8 =>
    bif j8.2.2.2.1 then
      some (([], false, ()), ())
    else
      (f_S_l13Move j8.2.1 j8.2.2.1).bind fun r10 =>
        (f_S_l2Patch j8.1 j8.2.1).bind fun r17 =>
          (f_S_l2Hunks (r17.1.1.length : Int) r10.1.1).bind fun r18 =>
            bif (!r18.1.1) then
              some (([], false, ()), ())
            else
              some ((r10.1.1, true, ()), ())
noncomputable def ct_S_MoveHunks : Ct := ⟨[(.bor, S_string), (.bor, S_impl_Hunk), (.bor, S_impl_Hunk)], [(S_impl_Hunk, (.row (.pr .b (.pr .b (.pr .b .b))))), (.bool, .b)], fun x => f_S_MoveHunks x.1 x.2.1 x.2.2.1⟩
noncomputable def cx_S_MoveHunks : Cx := ⟨tab, arrs, [(35, ct_S_l13Both), (38, ct_S_l2Patch), (84, ct_S_l13Touch), (85, ct_S_l13Move), (86, ct_S_l2Hunks)], [], gl, []⟩
theorem ef_S_MoveHunks (t0 : PV S_string) (t1 : PV S_impl_Hunk) (t2 : PV S_impl_Hunk) : denF cx_S_MoveHunks 0 pl_S_MoveHunks Try.f36.ntmps (bodyOf Try.f36) Try.f36.results.toList [(.bor, S_string), (.bor, S_impl_Hunk), (.bor, S_impl_Hunk)] [(S_impl_Hunk, (.row (.pr .b (.pr .b (.pr .b .b))))), (.bool, .b)] (t0, t1, t2, ()) = f_S_MoveHunks t0 t1 t2 := by kernel_rfl
theorem ok_S_MoveHunks : FnOk gl Try.prog 36 ct_S_MoveHunks :=
  fnOk (cx := cx_S_MoveHunks) (pl := pl_S_MoveHunks) (dp := 0) (ok0_of tabOk (by unfold ArrOk; kernel_rfl) mix ⟨ok_S_l13Both, ok_S_l2Patch, ok_S_l13Touch, ok_S_l13Move, ok_S_l2Hunks, trivial⟩ trivial) Try.func36 (by kernel_rfl) (by kernel_rfl) (by kernel_rfl)
    (by rw [show loopsOf (bodyOf Try.f36) = [] from by kernel_rfl]; exact trivial) (fun x => ef_S_MoveHunks x.1 x.2.1 x.2.2.1)
noncomputable def sh_S_l1SameT_4 : List Sh := mkSh 26 [(0, .val S_string .b), (1, .val S_string .b), (12, .val (.int .i64) .b), (13, .val (.int .i64) .b)]
noncomputable def o_S_l1SameT_4 : List Out := [⟨.exit 0, ⟨[], [], []⟩, mkSh 26 []⟩, ⟨.ret, ⟨[], [4], []⟩, mkSh 26 [(4, .val .bool .b)]⟩]
noncomputable def b_S_l1SameT_4 (t0 : PV S_string) (t1 : PV S_string) (t12 : PV (.int .i64)) (t13 : PV (.int .i64)) : Option ((PV S_string × PV S_string × PV (.int .i64) × PV (.int .i64) × Unit) ⊕ ((Unit) ⊕ (PV .bool × Unit))) :=
  bif (decide (t13 < t12)) then
    bif inB t13 t0.length then
      bif inB t13 t1.length then
        bif (!((t0.getD t13.toNat []) == (t1.getD t13.toNat []))) then
          some (.inr (.inr (false, ())))
        else
          some (.inl (t0, t1, t12, (IntKind.wrap .i64 (t13 + 1)), ()))
      else
        none
    else
      none
  else
    some (.inr (.inl ()))
noncomputable def w_S_l1SameT_4 : PV S_string × PV S_string × PV (.int .i64) × PV (.int .i64) × Unit → Option ((Unit) ⊕ (PV .bool × Unit)) := fix fun d => b_S_l1SameT_4 d.1 d.2.1 d.2.2.1 d.2.2.2.1
noncomputable def lp_S_l1SameT_4 : Lp := ⟨⟨[], [0, 1, 12, 13], []⟩, sh_S_l1SameT_4, o_S_l1SameT_4, fun d => b_S_l1SameT_4 d.1 d.2.1 d.2.2.1 d.2.2.2.1⟩
noncomputable def pl_S_l1SameT : Plan := ⟨[], [(4, lp_S_l1SameT_4)], 0, 0⟩
noncomputable def f_S_l1SameT (t0 : PV S_string) (t1 : PV S_string) : Option (PVs [.bool] × PVs []) :=
  bif (!((t0.length : Int) == (t1.length : Int))) then
    some ((false, ()), ())
  else
    (w_S_l1SameT_4 (t0, t1, (t0.length : Int), 0, ())).bind fun x5 =>
      match x5 with
      | .inl l3 =>
        some ((true, ()), ())
      | .inr l4 =>
        some ((l4.1, ()), ())
noncomputable def ct_S_l1SameT : Ct := ⟨[(.bor, S_string), (.bor, S_string)], [(.bool, .b)], fun x => f_S_l1SameT x.1 x.2.1⟩
noncomputable def cx_S_l1SameT : Cx := ⟨tab, arrs, [], [], gl, []⟩
theorem eb_S_l1SameT_4 (t0 : PV S_string) (t1 : PV S_string) (t12 : PV (.int .i64)) (t13 : PV (.int .i64)) : denK cx_S_l1SameT (rcN cx_S_l1SameT 0) pl_S_l1SameT 0 ((loopsOf (bodyOf Try.f39)).getD 0 .skip) (fillS sh_S_l1SameT_4 (t0, t1, t12, t13, ())) (roundK 0 lp_S_l1SameT_4) = b_S_l1SameT_4 t0 t1 t12 t13 := by kernel_rfl
theorem ef_S_l1SameT (t0 : PV S_string) (t1 : PV S_string) : denF cx_S_l1SameT 0 pl_S_l1SameT Try.f39.ntmps (bodyOf Try.f39) Try.f39.results.toList [(.bor, S_string), (.bor, S_string)] [(.bool, .b)] (t0, t1, ()) = f_S_l1SameT t0 t1 := by kernel_rfl
theorem ok_S_l1SameT : FnOk gl Try.prog 39 ct_S_l1SameT :=
  fnOk (cx := cx_S_l1SameT) (pl := pl_S_l1SameT) (dp := 0) (ok0_of tabOk (by unfold ArrOk; kernel_rfl) mix trivial trivial) Try.func39 (by kernel_rfl) (by kernel_rfl) (by kernel_rfl)
    (by rw [show loopsOf (bodyOf Try.f39) = [((loopsOf (bodyOf Try.f39)).getD 0 .skip)] from by kernel_rfl]; exact ⟨(by rw [show lookup pl_S_l1SameT.loops (firstId ((loopsOf (bodyOf Try.f39)).getD 0 .skip)) = some lp_S_l1SameT_4 from by kernel_rfl]; exact fun d z h => (eb_S_l1SameT_4 d.1 d.2.1 d.2.2.1 d.2.2.2.1).trans h), trivial⟩) (fun x => ef_S_l1SameT x.1 x.2.1)
noncomputable def o_S_CanSwap_6 : List Out := [⟨.normal, ⟨[], [0, 1, 2, 8, 10, 40, 59, 62, 63, 64], []⟩, mkSh 66 [(0, .val S_string .b), (1, .val S_impl_Hunk .b), (2, .val S_impl_Hunk .b), (8, .val S_impl_Hunk (.row (.pr .b (.pr .b (.pr .b .b))))), (10, .val S_impl_Hunk (.row (.pr .b (.pr .b (.pr .b .b))))), (40, .val .bool .b)]⟩]
noncomputable def pl_S_CanSwap : Plan := ⟨[(6, o_S_CanSwap_6)], [], 0, 0⟩
noncomputable def f_S_CanSwap (t0 : PV S_string) (t1 : PV S_impl_Hunk) (t2 : PV S_impl_Hunk) : Option (PVs [.bool, .bool] × PVs []) :=
  (f_S_l13Both t0 t1 t2).bind fun r4 =>
    bif (!r4.1.1) then
      some ((false, false, ()), ())
    else
      (f_S_MoveHunks t0 t1 t2).bind fun r6 =>
        (f_S_MoveHunks t0 t2 t1).bind fun r8 =>
          ((
              bif (!r6.1.2.1) then
                some (t0, t1, t2, r6.1.1, r8.1.1, true, ())
              else
                some (t0, t1, t2, r6.1.1, r8.1.1, (!r8.1.2.1), ()) : Option ((PV S_string × PV S_impl_Hunk × PV S_impl_Hunk × PV S_impl_Hunk × PV S_impl_Hunk × PV .bool × Unit)))).bind fun j10 =>
            bif j10.2.2.2.2.2.1 then
              some ((false, true, ()), ())
            else
              (f_S_l2Patch j10.1 j10.2.1).bind fun r13 =>
                (f_S_Patch r13.1.1 j10.2.2.2.1).bind fun r14 =>
                  (f_S_l2Patch j10.1 j10.2.2.1).bind fun r17 =>
                    (f_S_Patch r17.1.1 j10.2.2.2.2.1).bind fun r18 =>
                      bif r14.1.2.1 then
                        bif r18.1.2.1 then
                          (f_S_l1SameT r14.1.1 r18.1.1).bind fun r19 =>
                            some ((r19.1.1, true, ()), ())
                        else
                          some ((false, true, ()), ())
                      else
                        some ((false, true, ()), ())
noncomputable def ct_S_CanSwap : Ct := ⟨[(.bor, S_string), (.bor, S_impl_Hunk), (.bor, S_impl_Hunk)], [(.bool, .b), (.bool, .b)], fun x => f_S_CanSwap x.1 x.2.1 x.2.2.1⟩
noncomputable def cx_S_CanSwap : Cx := ⟨tab, arrs, [(35, ct_S_l13Both), (36, ct_S_MoveHunks), (37, ct_S_Patch), (38, ct_S_l2Patch), (39, ct_S_l1SameT)], [], gl, []⟩
theorem ef_S_CanSwap (t0 : PV S_string) (t1 : PV S_impl_Hunk) (t2 : PV S_impl_Hunk) : denF cx_S_CanSwap 0 pl_S_CanSwap Try.f9.ntmps (bodyOf Try.f9) Try.f9.results.toList [(.bor, S_string), (.bor, S_impl_Hunk), (.bor, S_impl_Hunk)] [(.bool, .b), (.bool, .b)] (t0, t1, t2, ()) = f_S_CanSwap t0 t1 t2 := by kernel_rfl
theorem ok_S_CanSwap : FnOk gl Try.prog 9 ct_S_CanSwap :=
  fnOk (cx := cx_S_CanSwap) (pl := pl_S_CanSwap) (dp := 0) (ok0_of tabOk (by unfold ArrOk; kernel_rfl) mix ⟨ok_S_l13Both, ok_S_MoveHunks, ok_S_Patch, ok_S_l2Patch, ok_S_l1SameT, trivial⟩ trivial) Try.func9 (by kernel_rfl) (by kernel_rfl) (by kernel_rfl)
    (by rw [show loopsOf (bodyOf Try.f9) = [] from by kernel_rfl]; exact trivial) (fun x => ef_S_CanSwap x.1 x.2.1 x.2.2.1)
noncomputable def sh_L_sameTexts_4 : List Sh := mkSh 26 [(0, .val S_string .b), (1, .val S_string .b), (12, .val (.int .i64) .b), (13, .val (.int .i64) .b)]
noncomputable def o_L_sameTexts_4 : List Out := [⟨.exit 0, ⟨[], [], []⟩, mkSh 26 []⟩, ⟨.ret, ⟨[], [4], []⟩, mkSh 26 [(4, .val .bool .b)]⟩]
noncomputable def b_L_sameTexts_4 (t0 : PV S_string) (t1 : PV S_string) (t12 : PV (.int .i64)) (t13 : PV (.int .i64)) : Option ((PV S_string × PV S_string × PV (.int .i64) × PV (.int .i64) × Unit) ⊕ ((Unit) ⊕ (PV .bool × Unit))) :=
  bif (decide (t13 < t12)) then
    bif inB t13 t0.length then
      bif inB t13 t1.length then
        bif (!((t0.getD t13.toNat []) == (t1.getD t13.toNat []))) then
          some (.inr (.inr (false, ())))
        else
          some (.inl (t0, t1, t12, (IntKind.wrap .i64 (t13 + 1)), ()))
      else
        none
    else
      none
  else
    some (.inr (.inl ()))
noncomputable def w_L_sameTexts_4 : PV S_string × PV S_string × PV (.int .i64) × PV (.int .i64) × Unit → Option ((Unit) ⊕ (PV .bool × Unit)) := fix fun d => b_L_sameTexts_4 d.1 d.2.1 d.2.2.1 d.2.2.2.1
noncomputable def lp_L_sameTexts_4 : Lp := ⟨⟨[], [0, 1, 12, 13], []⟩, sh_L_sameTexts_4, o_L_sameTexts_4, fun d => b_L_sameTexts_4 d.1 d.2.1 d.2.2.1 d.2.2.2.1⟩
noncomputable def pl_L_sameTexts : Plan := ⟨[], [(4, lp_L_sameTexts_4)], 0, 0⟩
noncomputable def f_L_sameTexts (t0 : PV S_string) (t1 : PV S_string) : Option (PVs [.bool] × PVs []) :=
  bif (!((t0.length : Int) == (t1.length : Int))) then
    some ((false, ()), ())
  else
    (w_L_sameTexts_4 (t0, t1, (t0.length : Int), 0, ())).bind fun x5 =>
      match x5 with
      | .inl l3 =>
        some ((true, ()), ())
      | .inr l4 =>
        some ((l4.1, ()), ())
noncomputable def ct_L_sameTexts : Ct := ⟨[(.bor, S_string), (.bor, S_string)], [(.bool, .b)], fun x => f_L_sameTexts x.1 x.2.1⟩
noncomputable def cx_L_sameTexts : Cx := ⟨tab, arrs, [], [], gl, []⟩
theorem eb_L_sameTexts_4 (t0 : PV S_string) (t1 : PV S_string) (t12 : PV (.int .i64)) (t13 : PV (.int .i64)) : denK cx_L_sameTexts (rcN cx_L_sameTexts 0) pl_L_sameTexts 0 ((loopsOf (bodyOf Try.f12)).getD 0 .skip) (fillS sh_L_sameTexts_4 (t0, t1, t12, t13, ())) (roundK 0 lp_L_sameTexts_4) = b_L_sameTexts_4 t0 t1 t12 t13 := by kernel_rfl
theorem ef_L_sameTexts (t0 : PV S_string) (t1 : PV S_string) : denF cx_L_sameTexts 0 pl_L_sameTexts Try.f12.ntmps (bodyOf Try.f12) Try.f12.results.toList [(.bor, S_string), (.bor, S_string)] [(.bool, .b)] (t0, t1, ()) = f_L_sameTexts t0 t1 := by kernel_rfl
theorem ok_L_sameTexts : FnOk gl Try.prog 12 ct_L_sameTexts :=
  fnOk (cx := cx_L_sameTexts) (pl := pl_L_sameTexts) (dp := 0) (ok0_of tabOk (by unfold ArrOk; kernel_rfl) mix trivial trivial) Try.func12 (by kernel_rfl) (by kernel_rfl) (by kernel_rfl)
    (by rw [show loopsOf (bodyOf Try.f12) = [((loopsOf (bodyOf Try.f12)).getD 0 .skip)] from by kernel_rfl]; exact ⟨(by rw [show lookup pl_L_sameTexts.loops (firstId ((loopsOf (bodyOf Try.f12)).getD 0 .skip)) = some lp_L_sameTexts_4 from by kernel_rfl]; exact fun d z h => (eb_L_sameTexts_4 d.1 d.2.1 d.2.2.1 d.2.2.2.1).trans h), trivial⟩) (fun x => ef_L_sameTexts x.1 x.2.1)
noncomputable def o_L_FnSwapped_8 : List Out := [⟨.normal, ⟨[], [1, 5, 6, 7, 8, 9, 78, 81, 124, 125, 128, 129, 132, 133, 136, 137, 140, 141, 144, 145, 146, 147, 173, 174, 175], []⟩, mkSh 177 [(1, .val S_uint8 .b), (5, .val S_string .b), (6, .val S_impl_Hunk .b), (7, .val S_impl_Hunk .b), (8, .val .bool .b), (9, .val .bool .b), (78, .val .bool .b)]⟩]
noncomputable def o_L_FnSwapped_10 : List Out := [⟨.normal, ⟨[], [1, 5, 6, 7, 82, 124, 125, 128, 129, 132, 133, 136, 137, 140, 141, 144, 145, 146, 147, 173, 174, 175], []⟩, mkSh 177 [(1, .val S_uint8 .b), (5, .val S_string .b), (6, .val S_impl_Hunk .b), (7, .val S_impl_Hunk .b), (82, .val .bool .b)]⟩]
noncomputable def o_L_FnSwapped_17 : List Out := [⟨.normal, ⟨[], [1, 148, 173, 174, 175], []⟩, mkSh 177 [(1, .val S_uint8 .b), (148, .val .bool .b)]⟩]
noncomputable def o_L_FnSwapped_18 : List Out := [⟨.normal, ⟨[], [1, 173, 174, 175], []⟩, mkSh 177 [(1, .val S_uint8 .b)]⟩, ⟨.ret, ⟨[], [4], []⟩, mkSh 177 [(4, .val .bool .b)]⟩]
noncomputable def pl_L_FnSwapped : Plan := ⟨[(8, o_L_FnSwapped_8), (10, o_L_FnSwapped_10), (17, o_L_FnSwapped_17), (18, o_L_FnSwapped_18)], [], 0, 0⟩
noncomputable def f_L_FnSwapped (t0 : PV S_uint8) (t1 : PV S_uint8) : Option (PVs [.bool] × PVs []) :=
  (f_L_big t0 t1).bind fun r4 =>
    bif r4.1.1 then
      some ((true, ()), ())
    else
      (f_S_DrawCanSwap t0).bind fun r6 =>
        (f_I_CanSwap r6.1.1 r6.1.2.1 r6.1.2.2.1).bind fun r8 =>
          (f_S_CanSwap r6.1.1 r6.1.2.1 r6.1.2.2.1).bind fun r10 =>
            (f_I_CanSwap r6.1.1 r6.1.2.2.1 r6.1.2.1).bind fun r12 =>
              ((
                  bif (!(r8.1.2.1 == r10.1.2.1)) then
                    some (t1, r6.1.1, r6.1.2.1, r6.1.2.2.1, r8.1.1, r8.1.2.1, true, ())
                  else
                    bif (!(r8.1.1 == r10.1.1)) then
                      some (t1, r6.1.1, r6.1.2.1, r6.1.2.2.1, r8.1.1, r8.1.2.1, true, ())
                    else
                      bif (!(r12.1.2.1 == r8.1.2.1)) then
                        some (t1, r6.1.1, r6.1.2.1, r6.1.2.2.1, r8.1.1, r8.1.2.1, true, ())
                      else
                        some (t1, r6.1.1, r6.1.2.1, r6.1.2.2.1, r8.1.1, r8.1.2.1, (!(r12.1.1 == r8.1.1)), ()) : Option ((PV S_uint8 × PV S_string × PV S_impl_Hunk × PV S_impl_Hunk × PV .bool × PV .bool × PV .bool × Unit)))).bind fun j14 =>
                bif j14.2.2.2.2.2.2.1 then
                  some ((false, ()), ())
                else
                  ((
                      ((
                          bif j14.2.2.2.2.2.1 then
                            some (j14.1, j14.2.1, j14.2.2.1, j14.2.2.2.1, j14.2.2.2.2.1, ())
                          else
                            some (j14.1, j14.2.1, j14.2.2.1, j14.2.2.2.1, false, ()) : Option ((PV S_uint8 × PV S_string × PV S_impl_Hunk × PV S_impl_Hunk × PV .bool × Unit)))).bind fun j31 =>
                        bif j31.2.2.2.2.1 then
                          (f_I_Patch j31.2.1 j31.2.2.1).bind fun r33 =>
                            (f_I_MoveHunks j31.2.1 j31.2.2.1 j31.2.2.2.1).bind fun r35 =>
                              (f_I_Patch r33.1.1 r35.1.1).bind fun r37 =>
                                (f_I_Patch j31.2.1 j31.2.2.2.1).bind fun r39 =>
                                  (f_I_MoveHunks j31.2.1 j31.2.2.2.1 j31.2.2.1).bind fun r41 =>
                                    (f_I_Patch r39.1.1 r41.1.1).bind fun r43 =>
                                      ((
                                          bif (!r33.1.2.1) then
                                            some (j31.1, true, ())
                                          else
                                            bif (!r35.1.2.1) then
                                              some (j31.1, true, ())
                                            else
                                              bif (!r37.1.2.1) then
                                                some (j31.1, true, ())
                                              else
                                                bif (!r39.1.2.1) then
                                                  some (j31.1, true, ())
                                                else
                                                  bif (!r41.1.2.1) then
                                                    some (j31.1, true, ())
                                                  else
                                                    bif (!r43.1.2.1) then
                                                      some (j31.1, true, ())
                                                    else
                                                      (f_L_sameTexts r37.1.1 r43.1.1).bind fun r44 =>
                                                        some (j31.1, (!r44.1.1), ()) : Option ((PV S_uint8 × PV .bool × Unit)))).bind fun j45 =>
                                        bif j45.2.1 then
                                          some (.inr (false, ()))
                                        else
                                          some (.inl (j45.1, ()))
                        else
                          some (.inl (j31.1, ())) : Option ((PV S_uint8 × Unit) ⊕ (PV .bool × Unit)))).bind fun x54 =>
                    match x54 with
                    | .inl j46 =>
                      (f_S_DrawCanSwap j46.1).bind fun r48 =>
                        (f_I_CanSwap r48.1.1 r48.1.2.1 r48.1.2.2.1).bind fun r50 =>
                          (f_S_CanSwap r48.1.1 r48.1.2.1 r48.1.2.2.1).bind fun r52 =>
                            bif (r50.1.2.1 == r52.1.2.1) then
                              some (((r50.1.1 == r52.1.1), ()), ())
                            else
                              some ((false, ()), ())
                    | .inr j53 =>
                      some ((j53.1, ()), ())
noncomputable def ct_L_FnSwapped : Ct := ⟨[(.bor, S_uint8), (.bor, S_uint8)], [(.bool, .b)], fun x => f_L_FnSwapped x.1 x.2.1⟩
noncomputable def cx_L_FnSwapped : Cx := ⟨tab, arrs, [(6, ct_L_big), (7, ct_S_DrawCanSwap), (8, ct_I_CanSwap), (9, ct_S_CanSwap), (10, ct_I_Patch), (11, ct_I_MoveHunks), (12, ct_L_sameTexts)], [], gl, []⟩
theorem ef_L_FnSwapped (t0 : PV S_uint8) (t1 : PV S_uint8) : denF cx_L_FnSwapped 0 pl_L_FnSwapped Try.f3.ntmps (bodyOf Try.f3) Try.f3.results.toList [(.bor, S_uint8), (.bor, S_uint8)] [(.bool, .b)] (t0, t1, ()) = f_L_FnSwapped t0 t1 := by kernel_rfl
theorem ok_L_FnSwapped : FnOk gl Try.prog 3 ct_L_FnSwapped :=
  fnOk (cx := cx_L_FnSwapped) (pl := pl_L_FnSwapped) (dp := 0) (ok0_of tabOk (by unfold ArrOk; kernel_rfl) mix ⟨ok_L_big, ok_S_DrawCanSwap, ok_I_CanSwap, ok_S_CanSwap, ok_I_Patch, ok_I_MoveHunks, ok_L_sameTexts, trivial⟩ trivial) Try.func3 (by kernel_rfl) (by kernel_rfl) (by kernel_rfl)
    (by rw [show loopsOf (bodyOf Try.f3) = [] from by kernel_rfl]; exact trivial) (fun x => ef_L_FnSwapped x.1 x.2.1)
end R
