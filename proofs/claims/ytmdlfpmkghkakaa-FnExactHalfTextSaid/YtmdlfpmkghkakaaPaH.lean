/- The functions that L_FnExactHalfText reach, as pure functions, and that the program computes them. -/
import Derived.Test.YtmdlfpmkghkakaaFd
import Derived.Test.YtmdlfpmkghkakaaFe
import Derived.Test.YtmdlfpmkghkakaaEd
import Derived.Test.YtmdlfpmkghkakaaChecked
import Derived.KernelRfl
open Go Go.Dn Go.Proofs
namespace R
set_option linter.unusedVariables false
@[reducible] def S_string : Ty := (.slice 9 .str)
@[reducible] def S_bool : Ty := (.slice 4 .bool)
@[reducible] def S_int : Ty := (.slice 3 (.int .i64))
@[reducible] def S_S_string : Ty := (.slice 40 S_string)
@[reducible] def S_S_int : Ty := (.slice 83 S_int)
@[reducible] def Y_impl_Row : Ty := (.pair (.int .i64) (.pair .str .unit))
@[reducible] def S_laws_Row : Ty := (.slice 141 Y_impl_Row)
@[reducible] def S_impl_Row : Ty := (.slice 142 Y_impl_Row)
@[reducible] def Y_laws_Group : Ty := (.pair (.int .i64) (.pair (.int .i64) (.pair S_laws_Row .unit)))
@[reducible] def Y_impl_Group : Ty := (.pair (.int .i64) (.pair (.int .i64) (.pair S_impl_Row .unit)))
@[reducible] def Y_impl_Part : Ty := (.pair (.int .i64) (.pair (.int .i64) (.pair (.int .i64) (.pair S_string (.pair S_string .unit)))))
@[reducible] def S_impl_Part : Ty := (.slice 96 Y_impl_Part)
noncomputable def tab : List (TypeId × Ty) := [(3, (.int .i64)), (4, .bool), (5, (.int .u8)), (9, .str), (26, S_impl_Part), (40, S_string), (46, S_S_string), (48, S_S_int), (56, S_laws_Row), (58, Y_laws_Group), (62, S_impl_Row), (64, Y_impl_Group), (83, S_int), (96, Y_impl_Part), (141, Y_impl_Row), (142, Y_impl_Row), (144, S_bool)]
noncomputable def arrs : List TypeId := []
theorem tabOk : TabOk Try.prog tab := by unfold TabOk; kernel_rfl
theorem mix : Try.prog.follows .mixedOrders = true := by kernel_rfl
open Go.Shelf
set_option maxRecDepth 20000
def lays_strings_Contains_ren : Go.Shelf.Ren := ⟨fun | 0 => 0 | 1 => 1 | 2 => 2 | 100 => 166 | 143 => 170 | 144 => 155 | 193 => 152 | 207 => 173 | 212 => 168 | 217 => 177 | 219 => 176 | 224 => 179 | 225 => 178 | 263 => 174 | 264 => 175 | 266 => 181 | 267 => 180 | 314 => 182 | 347 => 183 | 348 => 184 | 349 => 185 | 350 => 186 | 351 => 187 | 352 => 188 | 353 => 189 | 354 => 190 | 355 => 191 | 356 => 192 | 357 => 193 | 358 => 194 | 359 => 195 | 360 => 196 | 361 => 197 | 366 => 199 | n => n, fun | 0 => 0 | 1 => 1 | 2 => 2 | 3 => 3 | 4 => 4 | 5 => 5 | 6 => 6 | 7 => 7 | 8 => 8 | 9 => 9 | 10 => 10 | 11 => 11 | 12 => 12 | 13 => 13 | 14 => 14 | 15 => 15 | 16 => 16 | 17 => 17 | 18 => 18 | 19 => 19 | 20 => 20 | 21 => 21 | 22 => 165 | 23 => 147 | 24 => 60 | 27 => 180 | 28 => 83 | 30 => 87 | 31 => 40 | 34 => 86 | 37 => 158 | 43 => 163 | 46 => 176 | 51 => 182 | 53 => 185 | 55 => 188 | 80 => 151 | 81 => 196 | 83 => 113 | 101 => 44 | 102 => 43 | 104 => 135 | 109 => 177 | 110 => 178 | 112 => 150 | 114 => 189 | 127 => 200 | 131 => 24 | 146 => 183 | 147 => 184 | 148 => 186 | 149 => 187 | 151 => 190 | 164 => 206 | 229 => 125 | 238 => 191 | 239 => 192 | 240 => 193 | 241 => 194 | 242 => 195 | 243 => 197 | 244 => 198 | 245 => 199 | 246 => 201 | 247 => 202 | 248 => 203 | 249 => 204 | n => n, fun | 1 => 0 | n => n⟩
theorem lays_strings_Contains : Go.Proofs.Lays.n144 Try.prog lays_strings_Contains_ren where
  mixed := by kernel_rfl
  f143 := Try.func170.trans (congrArg some (by kernel_rfl))
  f144 := Try.func155.trans (congrArg some (by kernel_rfl))
  f217 := Try.func177.trans (congrArg some (by kernel_rfl))
  f219 := Try.func176.trans (congrArg some (by kernel_rfl))
  f224 := Try.func179.trans (congrArg some (by kernel_rfl))
  f225 := Try.func178.trans (congrArg some (by kernel_rfl))
  f266 := Try.func181.trans (congrArg some (by kernel_rfl))
  f267 := Try.func180.trans (congrArg some (by kernel_rfl))
  f314 := Try.func182.trans (congrArg some (by kernel_rfl))
  t3 := Try.underlying3
  a3 := Try.isAgg3
  z3 := Try.sizeOf3
  v3 := Try.zeroValue3
  t4 := Try.underlying4
  a4 := Try.isAgg4
  z4 := Try.sizeOf4
  v4 := Try.zeroValue4
  t5 := Try.underlying5
  a5 := Try.isAgg5
  z5 := Try.sizeOf5
  v5 := Try.zeroValue5
  t9 := Try.underlying9
  a9 := Try.isAgg9
  z9 := Try.sizeOf9
  v9 := Try.zeroValue9
  t46 := Try.underlying176
  a46 := Try.isAgg176
  z46 := Try.sizeOf176
  v46 := Try.zeroValue176
  t51 := Try.underlying182
  a51 := Try.isAgg182
  z51 := Try.sizeOf182
  v51 := Try.zeroValue182
  t146 := Try.underlying183
  a146 := Try.isAgg183
  z146 := Try.sizeOf183
  v146 := Try.zeroValue183
  g1 := by kernel_rfl
noncomputable def f_strings_Contains (t0 : PV .str) (t1 : PV .str) : Option (PVs [.bool] × PVs []) := Go.Dn.containsF t0 t1
noncomputable def ct_strings_Contains : Ct := ⟨[(.bor, .str), (.bor, .str)], [(.bool, false)], fun x => f_strings_Contains x.1 x.2.1⟩
theorem ok_strings_Contains : FnOk Try.prog 155 ct_strings_Contains := Go.Dn.contains_ok lays_strings_Contains
noncomputable def pl_L_szRow : Plan := ⟨[], [], 0, 0⟩
noncomputable def f_L_szRow (t0 : PV Y_impl_Row) (t1 : PV (.int .i64)) : Option (PVs [(.int .i64)] × PVs []) :=
  bif (decide ((IntKind.wrap .i64 (t1 - (t0.2.1.length : Int))) < 0)) then
    some (((-1), ()), ())
  else
    some (((IntKind.wrap .i64 (t1 - (t0.2.1.length : Int))), ()), ())
noncomputable def ct_L_szRow : Ct := ⟨[(.bor, Y_impl_Row), (.bor, (.int .i64))], [((.int .i64), false)], fun x => f_L_szRow x.1 x.2.1⟩
noncomputable def cx_L_szRow : Cx := ⟨tab, arrs, [], []⟩
theorem ef_L_szRow (t0 : PV Y_impl_Row) (t1 : PV (.int .i64)) : denF cx_L_szRow 0 pl_L_szRow Try.f122.ntmps (bodyOf Try.f122) Try.f122.results.toList [(.bor, Y_impl_Row), (.bor, (.int .i64))] [((.int .i64), false)] (t0, t1, ()) = f_L_szRow t0 t1 := by kernel_rfl
theorem ok_L_szRow : FnOk Try.prog 122 ct_L_szRow :=
  fnOk (cx := cx_L_szRow) (pl := pl_L_szRow) (dp := 0) (ok0_of tabOk (by unfold ArrOk; kernel_rfl) mix trivial trivial) Try.func122 (by kernel_rfl) (by kernel_rfl) (by kernel_rfl)
    (by rw [show loopsOf (bodyOf Try.f122) = [] from by kernel_rfl]; exact trivial) (fun x => ef_L_szRow x.1 x.2.1)
noncomputable def sh_L_szRowS_5 : List Sh := mkSh 27 [(0, .val S_laws_Row .b), (1, .val (.int .i64) .b), (5, .val (.int .i64) .b)]
noncomputable def o_L_szRowS_5 : List Out := [⟨.exit 0, ⟨[], [1]⟩, mkSh 27 [(1, .val (.int .i64) .b)]⟩, ⟨.ret, ⟨[], [4]⟩, mkSh 27 [(4, .val (.int .i64) .b)]⟩]
noncomputable def b_L_szRowS_5 (t0 : PV S_laws_Row) (t1 : PV (.int .i64)) (t5 : PV (.int .i64)) : Option ((PV S_laws_Row × PV (.int .i64) × PV (.int .i64) × Unit) ⊕ ((PV (.int .i64) × Unit) ⊕ (PV (.int .i64) × Unit))) :=
  bif (decide (t5 < (t0.length : Int))) then
    bif inB t5 t0.length then
      (f_L_szRow (t0.getD t5.toNat (dflt Y_impl_Row)) t1).bind fun r4 =>
        bif (decide (r4.1.1 < 0)) then
          some (.inr (.inr ((-1), ())))
        else
          some (.inl (t0, r4.1.1, (IntKind.wrap .i64 (t5 + 1)), ()))
    else
      none
  else
    some (.inr (.inl (t1, ())))
noncomputable def w_L_szRowS_5 : PV S_laws_Row × PV (.int .i64) × PV (.int .i64) × Unit → Option ((PV (.int .i64) × Unit) ⊕ (PV (.int .i64) × Unit)) := fix fun d => b_L_szRowS_5 d.1 d.2.1 d.2.2.1
noncomputable def lp_L_szRowS_5 : Lp := ⟨⟨[], [0, 1, 5]⟩, sh_L_szRowS_5, o_L_szRowS_5, fun d => b_L_szRowS_5 d.1 d.2.1 d.2.2.1⟩
noncomputable def pl_L_szRowS : Plan := ⟨[], [(5, lp_L_szRowS_5)], 0, 0⟩
noncomputable def f_L_szRowS (t0 : PV S_laws_Row) (t1 : PV (.int .i64)) : Option (PVs [(.int .i64)] × PVs []) :=
  bif (decide ((IntKind.wrap .i64 (t1 - (t0.length : Int))) < 0)) then
    some (((-1), ()), ())
  else
    (w_L_szRowS_5 (t0, (IntKind.wrap .i64 (t1 - (t0.length : Int))), 0, ())).bind fun x9 =>
      match x9 with
      | .inl l7 =>
        some ((l7.1, ()), ())
      | .inr l8 =>
        some ((l8.1, ()), ())
noncomputable def ct_L_szRowS : Ct := ⟨[(.bor, S_laws_Row), (.bor, (.int .i64))], [((.int .i64), false)], fun x => f_L_szRowS x.1 x.2.1⟩
noncomputable def cx_L_szRowS : Cx := ⟨tab, arrs, [(122, ct_L_szRow)], []⟩
theorem eb_L_szRowS_5 (t0 : PV S_laws_Row) (t1 : PV (.int .i64)) (t5 : PV (.int .i64)) : denK cx_L_szRowS (rcN cx_L_szRowS 0) pl_L_szRowS 0 ((loopsOf (bodyOf Try.f87)).getD 0 .skip) (fillS sh_L_szRowS_5 (t0, t1, t5, ())) (roundK 0 lp_L_szRowS_5) = b_L_szRowS_5 t0 t1 t5 := by kernel_rfl
theorem ef_L_szRowS (t0 : PV S_laws_Row) (t1 : PV (.int .i64)) : denF cx_L_szRowS 0 pl_L_szRowS Try.f87.ntmps (bodyOf Try.f87) Try.f87.results.toList [(.bor, S_laws_Row), (.bor, (.int .i64))] [((.int .i64), false)] (t0, t1, ()) = f_L_szRowS t0 t1 := by kernel_rfl
theorem ok_L_szRowS : FnOk Try.prog 87 ct_L_szRowS :=
  fnOk (cx := cx_L_szRowS) (pl := pl_L_szRowS) (dp := 0) (ok0_of tabOk (by unfold ArrOk; kernel_rfl) mix ⟨ok_L_szRow, trivial⟩ trivial) Try.func87 (by kernel_rfl) (by kernel_rfl) (by kernel_rfl)
    (by rw [show loopsOf (bodyOf Try.f87) = [((loopsOf (bodyOf Try.f87)).getD 0 .skip)] from by kernel_rfl]; exact ⟨(by rw [show lookup pl_L_szRowS.loops (firstId ((loopsOf (bodyOf Try.f87)).getD 0 .skip)) = some lp_L_szRowS_5 from by kernel_rfl]; exact fun d z h => (eb_L_szRowS_5 d.1 d.2.1 d.2.2.1).trans h), trivial⟩) (fun x => ef_L_szRowS x.1 x.2.1)
noncomputable def pl_L_szGroup : Plan := ⟨[], [], 0, 0⟩
noncomputable def f_L_szGroup (t0 : PV Y_laws_Group) (t1 : PV (.int .i64)) : Option (PVs [(.int .i64)] × PVs []) :=
  (f_L_szRowS t0.2.2.1 t1).bind fun r2 =>
    bif (decide (r2.1.1 < 0)) then
      some (((-1), ()), ())
    else
      some ((r2.1.1, ()), ())
noncomputable def ct_L_szGroup : Ct := ⟨[(.bor, Y_laws_Group), (.bor, (.int .i64))], [((.int .i64), false)], fun x => f_L_szGroup x.1 x.2.1⟩
noncomputable def cx_L_szGroup : Cx := ⟨tab, arrs, [(87, ct_L_szRowS)], []⟩
theorem ef_L_szGroup (t0 : PV Y_laws_Group) (t1 : PV (.int .i64)) : denF cx_L_szGroup 0 pl_L_szGroup Try.f43.ntmps (bodyOf Try.f43) Try.f43.results.toList [(.bor, Y_laws_Group), (.bor, (.int .i64))] [((.int .i64), false)] (t0, t1, ()) = f_L_szGroup t0 t1 := by kernel_rfl
theorem ok_L_szGroup : FnOk Try.prog 43 ct_L_szGroup :=
  fnOk (cx := cx_L_szGroup) (pl := pl_L_szGroup) (dp := 0) (ok0_of tabOk (by unfold ArrOk; kernel_rfl) mix ⟨ok_L_szRowS, trivial⟩ trivial) Try.func43 (by kernel_rfl) (by kernel_rfl) (by kernel_rfl)
    (by rw [show loopsOf (bodyOf Try.f43) = [] from by kernel_rfl]; exact trivial) (fun x => ef_L_szGroup x.1 x.2.1)
noncomputable def pl_L_toRow : Plan := ⟨[], [], 0, 0⟩
noncomputable def f_L_toRow (t0 : PV Y_impl_Row) : Option (PVs [Y_impl_Row] × PVs []) :=
  some (((t0.1, (t0.2.1, ())), ()), ())
noncomputable def ct_L_toRow : Ct := ⟨[(.bor, Y_impl_Row)], [(Y_impl_Row, false)], fun x => f_L_toRow x.1⟩
noncomputable def cx_L_toRow : Cx := ⟨tab, arrs, [], []⟩
theorem ef_L_toRow (t0 : PV Y_impl_Row) : denF cx_L_toRow 0 pl_L_toRow Try.f128.ntmps (bodyOf Try.f128) Try.f128.results.toList [(.bor, Y_impl_Row)] [(Y_impl_Row, false)] (t0, ()) = f_L_toRow t0 := by kernel_rfl
theorem ok_L_toRow : FnOk Try.prog 128 ct_L_toRow :=
  fnOk (cx := cx_L_toRow) (pl := pl_L_toRow) (dp := 0) (ok0_of tabOk (by unfold ArrOk; kernel_rfl) mix trivial trivial) Try.func128 (by kernel_rfl) (by kernel_rfl) (by kernel_rfl)
    (by rw [show loopsOf (bodyOf Try.f128) = [] from by kernel_rfl]; exact trivial) (fun x => ef_L_toRow x.1)
noncomputable def sh_L_toRowS_3 : List Sh := mkSh 23 [(0, .val S_laws_Row .b), (3, .val S_impl_Row (.row (.pr .b (.pr .b .b)))), (4, .val (.int .i64) .b)]
noncomputable def o_L_toRowS_3 : List Out := [⟨.exit 0, ⟨[], [3]⟩, mkSh 23 [(3, .val S_impl_Row (.row (.pr .b (.pr .b .b))))]⟩]
noncomputable def b_L_toRowS_3 (t0 : PV S_laws_Row) (t3 : PV S_impl_Row) (t4 : PV (.int .i64)) : Option ((PV S_laws_Row × PV S_impl_Row × PV (.int .i64) × Unit) ⊕ ((PV S_impl_Row × Unit))) :=
  bif (decide (t4 < (t0.length : Int))) then
    bif inB t4 t0.length then
      (f_L_toRow (t0.getD t4.toNat (dflt Y_impl_Row))).bind fun r2 =>
        bif inB t4 t3.length then
          some (.inl (t0, (t3.set t4.toNat r2.1.1), (IntKind.wrap .i64 (t4 + 1)), ()))
        else
          none
    else
      none
  else
    some (.inr (t3, ()))
noncomputable def w_L_toRowS_3 : PV S_laws_Row × PV S_impl_Row × PV (.int .i64) × Unit → Option ((PV S_impl_Row × Unit)) := fix fun d => b_L_toRowS_3 d.1 d.2.1 d.2.2.1
noncomputable def lp_L_toRowS_3 : Lp := ⟨⟨[], [0, 3, 4]⟩, sh_L_toRowS_3, o_L_toRowS_3, fun d => b_L_toRowS_3 d.1 d.2.1 d.2.2.1⟩
noncomputable def pl_L_toRowS : Plan := ⟨[], [(3, lp_L_toRowS_3)], 0, 0⟩
noncomputable def f_L_toRowS (t0 : PV S_laws_Row) : Option (PVs [S_impl_Row] × PVs []) :=
  bif decide (0 ≤ (t0.length : Int)) && (decide ((t0.length : Int) ≤ (t0.length : Int)) && roomB (t0.length : Int).toNat) then
    (w_L_toRowS_3 (t0, (List.replicate (t0.length : Int).toNat (dflt Y_impl_Row)), 0, ())).bind fun l4 =>
      some ((l4.1, ()), ())
  else
    none
noncomputable def ct_L_toRowS : Ct := ⟨[(.bor, S_laws_Row)], [(S_impl_Row, true)], fun x => f_L_toRowS x.1⟩
noncomputable def cx_L_toRowS : Cx := ⟨tab, arrs, [(128, ct_L_toRow)], []⟩
theorem eb_L_toRowS_3 (t0 : PV S_laws_Row) (t3 : PV S_impl_Row) (t4 : PV (.int .i64)) : denK cx_L_toRowS (rcN cx_L_toRowS 0) pl_L_toRowS 0 ((loopsOf (bodyOf Try.f90)).getD 0 .skip) (fillS sh_L_toRowS_3 (t0, t3, t4, ())) (roundK 0 lp_L_toRowS_3) = b_L_toRowS_3 t0 t3 t4 := by kernel_rfl
theorem ef_L_toRowS (t0 : PV S_laws_Row) : denF cx_L_toRowS 0 pl_L_toRowS Try.f90.ntmps (bodyOf Try.f90) Try.f90.results.toList [(.bor, S_laws_Row)] [(S_impl_Row, true)] (t0, ()) = f_L_toRowS t0 := by kernel_rfl
theorem ok_L_toRowS : FnOk Try.prog 90 ct_L_toRowS :=
  fnOk (cx := cx_L_toRowS) (pl := pl_L_toRowS) (dp := 0) (ok0_of tabOk (by unfold ArrOk; kernel_rfl) mix ⟨ok_L_toRow, trivial⟩ trivial) Try.func90 (by kernel_rfl) (by kernel_rfl) (by kernel_rfl)
    (by rw [show loopsOf (bodyOf Try.f90) = [((loopsOf (bodyOf Try.f90)).getD 0 .skip)] from by kernel_rfl]; exact ⟨(by rw [show lookup pl_L_toRowS.loops (firstId ((loopsOf (bodyOf Try.f90)).getD 0 .skip)) = some lp_L_toRowS_3 from by kernel_rfl]; exact fun d z h => (eb_L_toRowS_3 d.1 d.2.1 d.2.2.1).trans h), trivial⟩) (fun x => ef_L_toRowS x.1)
noncomputable def pl_L_toGroup : Plan := ⟨[], [], 0, 0⟩
noncomputable def f_L_toGroup (t0 : PV Y_laws_Group) : Option (PVs [Y_impl_Group] × PVs []) :=
  (f_L_toRowS t0.2.2.1).bind fun r2 =>
    some (((t0.1, (t0.2.1, (r2.1.1, ()))), ()), ())
noncomputable def ct_L_toGroup : Ct := ⟨[(.bor, Y_laws_Group)], [(Y_impl_Group, true)], fun x => f_L_toGroup x.1⟩
noncomputable def cx_L_toGroup : Cx := ⟨tab, arrs, [(90, ct_L_toRowS)], []⟩
theorem ef_L_toGroup (t0 : PV Y_laws_Group) : denF cx_L_toGroup 0 pl_L_toGroup Try.f45.ntmps (bodyOf Try.f45) Try.f45.results.toList [(.bor, Y_laws_Group)] [(Y_impl_Group, true)] (t0, ()) = f_L_toGroup t0 := by kernel_rfl
theorem ok_L_toGroup : FnOk Try.prog 45 ct_L_toGroup :=
  fnOk (cx := cx_L_toGroup) (pl := pl_L_toGroup) (dp := 0) (ok0_of tabOk (by unfold ArrOk; kernel_rfl) mix ⟨ok_L_toRowS, trivial⟩ trivial) Try.func45 (by kernel_rfl) (by kernel_rfl) (by kernel_rfl)
    (by rw [show loopsOf (bodyOf Try.f45) = [] from by kernel_rfl]; exact trivial) (fun x => ef_L_toGroup x.1)
noncomputable def pl_S_l1In : Plan := ⟨[], [], 0, 0⟩
noncomputable def f_S_l1In (t0 : PV (.int .i64)) (t1 : PV (.int .i64)) (t2 : PV (.int .i64)) : Option (PVs [.bool] × PVs []) :=
  bif (decide (t0 ≥ t1)) then
    some (((decide (t0 ≤ t2)), ()), ())
  else
    some ((false, ()), ())
noncomputable def ct_S_l1In : Ct := ⟨[(.bor, (.int .i64)), (.bor, (.int .i64)), (.bor, (.int .i64))], [(.bool, false)], fun x => f_S_l1In x.1 x.2.1 x.2.2.1⟩
noncomputable def cx_S_l1In : Cx := ⟨tab, arrs, [], []⟩
theorem ef_S_l1In (t0 : PV (.int .i64)) (t1 : PV (.int .i64)) (t2 : PV (.int .i64)) : denF cx_S_l1In 0 pl_S_l1In Try.f99.ntmps (bodyOf Try.f99) Try.f99.results.toList [(.bor, (.int .i64)), (.bor, (.int .i64)), (.bor, (.int .i64))] [(.bool, false)] (t0, t1, t2, ()) = f_S_l1In t0 t1 t2 := by kernel_rfl
theorem ok_S_l1In : FnOk Try.prog 99 ct_S_l1In :=
  fnOk (cx := cx_S_l1In) (pl := pl_S_l1In) (dp := 0) (ok0_of tabOk (by unfold ArrOk; kernel_rfl) mix trivial trivial) Try.func99 (by kernel_rfl) (by kernel_rfl) (by kernel_rfl)
    (by rw [show loopsOf (bodyOf Try.f99) = [] from by kernel_rfl]; exact trivial) (fun x => ef_S_l1In x.1 x.2.1 x.2.2.1)
noncomputable def sh_S_l1Line_2 : List Sh := mkSh 18 [(0, .val .str .b), (3, .val (.int .i64) .b)]
noncomputable def o_S_l1Line_2 : List Out := [⟨.exit 0, ⟨[], [0]⟩, mkSh 18 [(0, .val .str .b)]⟩, ⟨.ret, ⟨[], [2]⟩, mkSh 18 [(2, .val .bool .b)]⟩]
noncomputable def b_S_l1Line_2 (t0 : PV .str) (t3 : PV (.int .i64)) : Option ((PV .str × PV (.int .i64) × Unit) ⊕ ((PV .str × Unit) ⊕ (PV .bool × Unit))) :=
  bif (decide (t3 < (IntKind.wrap .i64 ((t0.length : Int) - 1)))) then
    bif inB t3 t0.length then
      bif (((t0.getD t3.toNat 0).toNat : Int) == 10) then
        some (.inr (.inr (false, ())))
      else
        some (.inl (t0, (IntKind.wrap .i64 (t3 + 1)), ()))
    else
      none
  else
    some (.inr (.inl (t0, ())))
noncomputable def w_S_l1Line_2 : PV .str × PV (.int .i64) × Unit → Option ((PV .str × Unit) ⊕ (PV .bool × Unit)) := fix fun d => b_S_l1Line_2 d.1 d.2.1
noncomputable def lp_S_l1Line_2 : Lp := ⟨⟨[], [0, 3]⟩, sh_S_l1Line_2, o_S_l1Line_2, fun d => b_S_l1Line_2 d.1 d.2.1⟩
noncomputable def pl_S_l1Line : Plan := ⟨[], [(2, lp_S_l1Line_2)], 0, 0⟩
noncomputable def f_S_l1Line (t0 : PV .str) : Option (PVs [.bool] × PVs []) :=
  (w_S_l1Line_2 (t0, 0, ())).bind fun x6 =>
    match x6 with
    | .inl l3 =>
      (f_S_l1In (l3.1.length : Int) 1 30).bind fun r4 =>
        some ((r4.1.1, ()), ())
    | .inr l5 =>
      some ((l5.1, ()), ())
noncomputable def ct_S_l1Line : Ct := ⟨[(.bor, .str)], [(.bool, false)], fun x => f_S_l1Line x.1⟩
noncomputable def cx_S_l1Line : Cx := ⟨tab, arrs, [(99, ct_S_l1In)], []⟩
theorem eb_S_l1Line_2 (t0 : PV .str) (t3 : PV (.int .i64)) : denK cx_S_l1Line (rcN cx_S_l1Line 0) pl_S_l1Line 0 ((loopsOf (bodyOf Try.f115)).getD 0 .skip) (fillS sh_S_l1Line_2 (t0, t3, ())) (roundK 0 lp_S_l1Line_2) = b_S_l1Line_2 t0 t3 := by kernel_rfl
theorem ef_S_l1Line (t0 : PV .str) : denF cx_S_l1Line 0 pl_S_l1Line Try.f115.ntmps (bodyOf Try.f115) Try.f115.results.toList [(.bor, .str)] [(.bool, false)] (t0, ()) = f_S_l1Line t0 := by kernel_rfl
theorem ok_S_l1Line : FnOk Try.prog 115 ct_S_l1Line :=
  fnOk (cx := cx_S_l1Line) (pl := pl_S_l1Line) (dp := 0) (ok0_of tabOk (by unfold ArrOk; kernel_rfl) mix ⟨ok_S_l1In, trivial⟩ trivial) Try.func115 (by kernel_rfl) (by kernel_rfl) (by kernel_rfl)
    (by rw [show loopsOf (bodyOf Try.f115) = [((loopsOf (bodyOf Try.f115)).getD 0 .skip)] from by kernel_rfl]; exact ⟨(by rw [show lookup pl_S_l1Line.loops (firstId ((loopsOf (bodyOf Try.f115)).getD 0 .skip)) = some lp_S_l1Line_2 from by kernel_rfl]; exact fun d z h => (eb_S_l1Line_2 d.1 d.2.1).trans h), trivial⟩) (fun x => ef_S_l1Line x.1)
noncomputable def o_S_l6Old_7 : List Out := [⟨.normal, ⟨[], [3, 7, 8, 9]⟩, mkSh 23 [(3, .val S_string (.row .b)), (7, .val S_impl_Row .b), (8, .val (.int .i64) .b), (9, .val (.int .i64) .b)]⟩]
noncomputable def sh_S_l6Old_3 : List Sh := mkSh 23 [(3, .val S_string (.row .b)), (7, .val S_impl_Row .b), (8, .val (.int .i64) .b), (9, .val (.int .i64) .b)]
noncomputable def o_S_l6Old_3 : List Out := [⟨.exit 0, ⟨[], [3]⟩, mkSh 23 [(3, .val S_string (.row .b))]⟩]
noncomputable def b_S_l6Old_3 (t3 : PV S_string) (t7 : PV S_impl_Row) (t8 : PV (.int .i64)) (t9 : PV (.int .i64)) : Option ((PV S_string × PV S_impl_Row × PV (.int .i64) × PV (.int .i64) × Unit) ⊕ ((PV S_string × Unit))) :=
  bif (decide (t9 < t8)) then
    ((
        bif inB t9 t7.length then
          bif (!(((t7.getD t9.toNat (dflt Y_impl_Row)).1) == 3)) then
            bif roomB (t3.length + [((t7.getD t9.toNat (dflt Y_impl_Row)).2).1].length) then
              some ((t3 ++ [((t7.getD t9.toNat (dflt Y_impl_Row)).2).1]), t7, t8, t9, ())
            else
              none
          else
            some (t3, t7, t8, t9, ())
        else
          none : Option ((PV S_string × PV S_impl_Row × PV (.int .i64) × PV (.int .i64) × Unit)))).bind fun j1 =>
      some (.inl (j1.1, j1.2.1, j1.2.2.1, (IntKind.wrap .i64 (j1.2.2.2.1 + 1)), ()))
  else
    some (.inr (t3, ()))
noncomputable def w_S_l6Old_3 : PV S_string × PV S_impl_Row × PV (.int .i64) × PV (.int .i64) × Unit → Option ((PV S_string × Unit)) := fix fun d => b_S_l6Old_3 d.1 d.2.1 d.2.2.1 d.2.2.2.1
noncomputable def lp_S_l6Old_3 : Lp := ⟨⟨[], [3, 7, 8, 9]⟩, sh_S_l6Old_3, o_S_l6Old_3, fun d => b_S_l6Old_3 d.1 d.2.1 d.2.2.1 d.2.2.2.1⟩
noncomputable def pl_S_l6Old : Plan := ⟨[(7, o_S_l6Old_7)], [(3, lp_S_l6Old_3)], 0, 0⟩
noncomputable def f_S_l6Old (t0 : PV Y_impl_Group) : Option (PVs [S_string] × PVs []) :=
  (w_S_l6Old_3 ([], t0.2.2.1, (t0.2.2.1.length : Int), 0, ())).bind fun l3 =>
    some ((l3.1, ()), ())
noncomputable def ct_S_l6Old : Ct := ⟨[(.bor, Y_impl_Group)], [(S_string, true)], fun x => f_S_l6Old x.1⟩
noncomputable def cx_S_l6Old : Cx := ⟨tab, arrs, [], []⟩
theorem eb_S_l6Old_3 (t3 : PV S_string) (t7 : PV S_impl_Row) (t8 : PV (.int .i64)) (t9 : PV (.int .i64)) : denK cx_S_l6Old (rcN cx_S_l6Old 0) pl_S_l6Old 0 ((loopsOf (bodyOf Try.f123)).getD 0 .skip) (fillS sh_S_l6Old_3 (t3, t7, t8, t9, ())) (roundK 0 lp_S_l6Old_3) = b_S_l6Old_3 t3 t7 t8 t9 := by kernel_rfl
theorem ef_S_l6Old (t0 : PV Y_impl_Group) : denF cx_S_l6Old 0 pl_S_l6Old Try.f123.ntmps (bodyOf Try.f123) Try.f123.results.toList [(.bor, Y_impl_Group)] [(S_string, true)] (t0, ()) = f_S_l6Old t0 := by kernel_rfl
theorem ok_S_l6Old : FnOk Try.prog 123 ct_S_l6Old :=
  fnOk (cx := cx_S_l6Old) (pl := pl_S_l6Old) (dp := 0) (ok0_of tabOk (by unfold ArrOk; kernel_rfl) mix trivial trivial) Try.func123 (by kernel_rfl) (by kernel_rfl) (by kernel_rfl)
    (by rw [show loopsOf (bodyOf Try.f123) = [((loopsOf (bodyOf Try.f123)).getD 0 .skip)] from by kernel_rfl]; exact ⟨(by rw [show lookup pl_S_l6Old.loops (firstId ((loopsOf (bodyOf Try.f123)).getD 0 .skip)) = some lp_S_l6Old_3 from by kernel_rfl]; exact fun d z h => (eb_S_l6Old_3 d.1 d.2.1 d.2.2.1 d.2.2.2.1).trans h), trivial⟩) (fun x => ef_S_l6Old x.1)
noncomputable def o_S_l6New_7 : List Out := [⟨.normal, ⟨[], [3, 7, 8, 9]⟩, mkSh 23 [(3, .val S_string (.row .b)), (7, .val S_impl_Row .b), (8, .val (.int .i64) .b), (9, .val (.int .i64) .b)]⟩]
noncomputable def sh_S_l6New_3 : List Sh := mkSh 23 [(3, .val S_string (.row .b)), (7, .val S_impl_Row .b), (8, .val (.int .i64) .b), (9, .val (.int .i64) .b)]
noncomputable def o_S_l6New_3 : List Out := [⟨.exit 0, ⟨[], [3]⟩, mkSh 23 [(3, .val S_string (.row .b))]⟩]
noncomputable def b_S_l6New_3 (t3 : PV S_string) (t7 : PV S_impl_Row) (t8 : PV (.int .i64)) (t9 : PV (.int .i64)) : Option ((PV S_string × PV S_impl_Row × PV (.int .i64) × PV (.int .i64) × Unit) ⊕ ((PV S_string × Unit))) :=
  bif (decide (t9 < t8)) then
    ((
        bif inB t9 t7.length then
          bif (!(((t7.getD t9.toNat (dflt Y_impl_Row)).1) == 2)) then
            bif roomB (t3.length + [((t7.getD t9.toNat (dflt Y_impl_Row)).2).1].length) then
              some ((t3 ++ [((t7.getD t9.toNat (dflt Y_impl_Row)).2).1]), t7, t8, t9, ())
            else
              none
          else
            some (t3, t7, t8, t9, ())
        else
          none : Option ((PV S_string × PV S_impl_Row × PV (.int .i64) × PV (.int .i64) × Unit)))).bind fun j1 =>
      some (.inl (j1.1, j1.2.1, j1.2.2.1, (IntKind.wrap .i64 (j1.2.2.2.1 + 1)), ()))
  else
    some (.inr (t3, ()))
noncomputable def w_S_l6New_3 : PV S_string × PV S_impl_Row × PV (.int .i64) × PV (.int .i64) × Unit → Option ((PV S_string × Unit)) := fix fun d => b_S_l6New_3 d.1 d.2.1 d.2.2.1 d.2.2.2.1
noncomputable def lp_S_l6New_3 : Lp := ⟨⟨[], [3, 7, 8, 9]⟩, sh_S_l6New_3, o_S_l6New_3, fun d => b_S_l6New_3 d.1 d.2.1 d.2.2.1 d.2.2.2.1⟩
noncomputable def pl_S_l6New : Plan := ⟨[(7, o_S_l6New_7)], [(3, lp_S_l6New_3)], 0, 0⟩
noncomputable def f_S_l6New (t0 : PV Y_impl_Group) : Option (PVs [S_string] × PVs []) :=
  (w_S_l6New_3 ([], t0.2.2.1, (t0.2.2.1.length : Int), 0, ())).bind fun l3 =>
    some ((l3.1, ()), ())
noncomputable def ct_S_l6New : Ct := ⟨[(.bor, Y_impl_Group)], [(S_string, true)], fun x => f_S_l6New x.1⟩
noncomputable def cx_S_l6New : Cx := ⟨tab, arrs, [], []⟩
theorem eb_S_l6New_3 (t3 : PV S_string) (t7 : PV S_impl_Row) (t8 : PV (.int .i64)) (t9 : PV (.int .i64)) : denK cx_S_l6New (rcN cx_S_l6New 0) pl_S_l6New 0 ((loopsOf (bodyOf Try.f124)).getD 0 .skip) (fillS sh_S_l6New_3 (t3, t7, t8, t9, ())) (roundK 0 lp_S_l6New_3) = b_S_l6New_3 t3 t7 t8 t9 := by kernel_rfl
theorem ef_S_l6New (t0 : PV Y_impl_Group) : denF cx_S_l6New 0 pl_S_l6New Try.f124.ntmps (bodyOf Try.f124) Try.f124.results.toList [(.bor, Y_impl_Group)] [(S_string, true)] (t0, ()) = f_S_l6New t0 := by kernel_rfl
theorem ok_S_l6New : FnOk Try.prog 124 ct_S_l6New :=
  fnOk (cx := cx_S_l6New) (pl := pl_S_l6New) (dp := 0) (ok0_of tabOk (by unfold ArrOk; kernel_rfl) mix trivial trivial) Try.func124 (by kernel_rfl) (by kernel_rfl) (by kernel_rfl)
    (by rw [show loopsOf (bodyOf Try.f124) = [((loopsOf (bodyOf Try.f124)).getD 0 .skip)] from by kernel_rfl]; exact ⟨(by rw [show lookup pl_S_l6New.loops (firstId ((loopsOf (bodyOf Try.f124)).getD 0 .skip)) = some lp_S_l6New_3 from by kernel_rfl]; exact fun d z h => (eb_S_l6New_3 d.1 d.2.1 d.2.2.1 d.2.2.2.1).trans h), trivial⟩) (fun x => ef_S_l6New x.1)
noncomputable def pl_S_l1Ends : Plan := ⟨[], [], 0, 0⟩
noncomputable def f_S_l1Ends (t0 : PV .str) : Option (PVs [.bool] × PVs []) :=
  bif inB (IntKind.wrap .i64 ((t0.length : Int) - 1)) t0.length then
    some (((((t0.getD (IntKind.wrap .i64 ((t0.length : Int) - 1)).toNat 0).toNat : Int) == 10), ()), ())
  else
    none
noncomputable def ct_S_l1Ends : Ct := ⟨[(.bor, .str)], [(.bool, false)], fun x => f_S_l1Ends x.1⟩
noncomputable def cx_S_l1Ends : Cx := ⟨tab, arrs, [], []⟩
theorem ef_S_l1Ends (t0 : PV .str) : denF cx_S_l1Ends 0 pl_S_l1Ends Try.f141.ntmps (bodyOf Try.f141) Try.f141.results.toList [(.bor, .str)] [(.bool, false)] (t0, ()) = f_S_l1Ends t0 := by kernel_rfl
theorem ok_S_l1Ends : FnOk Try.prog 141 ct_S_l1Ends :=
  fnOk (cx := cx_S_l1Ends) (pl := pl_S_l1Ends) (dp := 0) (ok0_of tabOk (by unfold ArrOk; kernel_rfl) mix trivial trivial) Try.func141 (by kernel_rfl) (by kernel_rfl) (by kernel_rfl)
    (by rw [show loopsOf (bodyOf Try.f141) = [] from by kernel_rfl]; exact trivial) (fun x => ef_S_l1Ends x.1)
noncomputable def o_S_l5Lines_5 : List Out := [⟨.normal, ⟨[], [0, 5, 6, 7, 26]⟩, mkSh 31 [(0, .val S_string .b), (5, .val S_string .b), (6, .val (.int .i64) .b), (7, .val (.int .i64) .b), (26, .val .bool .b)]⟩]
noncomputable def sh_S_l5Lines_2 : List Sh := mkSh 31 [(0, .val S_string .b), (5, .val S_string .b), (6, .val (.int .i64) .b), (7, .val (.int .i64) .b)]
noncomputable def o_S_l5Lines_2 : List Out := [⟨.exit 0, ⟨[], [0]⟩, mkSh 31 [(0, .val S_string .b)]⟩, ⟨.ret, ⟨[], [2]⟩, mkSh 31 [(2, .val .bool .b)]⟩]
noncomputable def b_S_l5Lines_2 (t0 : PV S_string) (t5 : PV S_string) (t6 : PV (.int .i64)) (t7 : PV (.int .i64)) : Option ((PV S_string × PV S_string × PV (.int .i64) × PV (.int .i64) × Unit) ⊕ ((PV S_string × Unit) ⊕ (PV .bool × Unit))) :=
  bif (decide (t7 < t6)) then
    bif inB t7 t5.length then
      ((
          (f_S_l1Line (t5.getD t7.toNat [])).bind fun r4 =>
            bif (!r4.1.1) then
              some (t0, t5, t6, t7, true, ())
            else
              bif (decide (t7 < (IntKind.wrap .i64 ((t0.length : Int) - 1)))) then
                (f_S_l1Ends (t5.getD t7.toNat [])).bind fun r5 =>
                  some (t0, t5, t6, t7, (!r5.1.1), ())
              else
                some (t0, t5, t6, t7, false, ()) : Option ((PV S_string × PV S_string × PV (.int .i64) × PV (.int .i64) × PV .bool × Unit)))).bind fun j6 =>
        bif j6.2.2.2.2.1 then
          some (.inr (.inr (false, ())))
        else
          some (.inl (j6.1, j6.2.1, j6.2.2.1, (IntKind.wrap .i64 (j6.2.2.2.1 + 1)), ()))
    else
      none
  else
    some (.inr (.inl (t0, ())))
noncomputable def w_S_l5Lines_2 : PV S_string × PV S_string × PV (.int .i64) × PV (.int .i64) × Unit → Option ((PV S_string × Unit) ⊕ (PV .bool × Unit)) := fix fun d => b_S_l5Lines_2 d.1 d.2.1 d.2.2.1 d.2.2.2.1
noncomputable def lp_S_l5Lines_2 : Lp := ⟨⟨[], [0, 5, 6, 7, 16, 17, 18, 19, 20, 21, 22, 23, 24, 25]⟩, sh_S_l5Lines_2, o_S_l5Lines_2, fun d => b_S_l5Lines_2 d.1 d.2.1 d.2.2.1 d.2.2.2.1⟩
noncomputable def pl_S_l5Lines : Plan := ⟨[(5, o_S_l5Lines_5)], [(2, lp_S_l5Lines_2)], 0, 0⟩
noncomputable def f_S_l5Lines (t0 : PV S_string) : Option (PVs [.bool] × PVs []) :=
  (w_S_l5Lines_2 (t0, t0, (t0.length : Int), 0, ())).bind fun x11 =>
    match x11 with
    | .inl l9 =>
      some (((decide ((l9.1.length : Int) ≤ 40)), ()), ())
    | .inr l10 =>
      some ((l10.1, ()), ())
noncomputable def ct_S_l5Lines : Ct := ⟨[(.bor, S_string)], [(.bool, false)], fun x => f_S_l5Lines x.1⟩
noncomputable def cx_S_l5Lines : Cx := ⟨tab, arrs, [(115, ct_S_l1Line), (141, ct_S_l1Ends)], []⟩
theorem eb_S_l5Lines_2 (t0 : PV S_string) (t5 : PV S_string) (t6 : PV (.int .i64)) (t7 : PV (.int .i64)) : denK cx_S_l5Lines (rcN cx_S_l5Lines 0) pl_S_l5Lines 0 ((loopsOf (bodyOf Try.f125)).getD 0 .skip) (fillS sh_S_l5Lines_2 (t0, t5, t6, t7, ())) (roundK 0 lp_S_l5Lines_2) = b_S_l5Lines_2 t0 t5 t6 t7 := by kernel_rfl
theorem ef_S_l5Lines (t0 : PV S_string) : denF cx_S_l5Lines 0 pl_S_l5Lines Try.f125.ntmps (bodyOf Try.f125) Try.f125.results.toList [(.bor, S_string)] [(.bool, false)] (t0, ()) = f_S_l5Lines t0 := by kernel_rfl
theorem ok_S_l5Lines : FnOk Try.prog 125 ct_S_l5Lines :=
  fnOk (cx := cx_S_l5Lines) (pl := pl_S_l5Lines) (dp := 0) (ok0_of tabOk (by unfold ArrOk; kernel_rfl) mix ⟨ok_S_l1Line, ok_S_l1Ends, trivial⟩ trivial) Try.func125 (by kernel_rfl) (by kernel_rfl) (by kernel_rfl)
    (by rw [show loopsOf (bodyOf Try.f125) = [((loopsOf (bodyOf Try.f125)).getD 0 .skip)] from by kernel_rfl]; exact ⟨(by rw [show lookup pl_S_l5Lines.loops (firstId ((loopsOf (bodyOf Try.f125)).getD 0 .skip)) = some lp_S_l5Lines_2 from by kernel_rfl]; exact fun d z h => (eb_S_l5Lines_2 d.1 d.2.1 d.2.2.1 d.2.2.2.1).trans h), trivial⟩) (fun x => ef_S_l5Lines x.1)
noncomputable def o_S_l6Group_6 : List Out := [⟨.normal, ⟨[], [1, 3, 5, 7, 8, 9, 42, 45, 46, 47, 52, 53, 54, 57, 58, 59, 62, 63, 64, 65, 66, 67, 68, 71, 72, 73, 74, 75, 76, 77, 80, 81, 82, 83, 86, 87, 88, 91, 92, 93]⟩, mkSh 95 [(1, .var Y_impl_Group .b), (3, .val .bool .b), (5, .var Y_impl_Row .b), (7, .val S_impl_Row .b), (8, .val (.int .i64) .b), (9, .val (.int .i64) .b), (42, .val .bool .b)]⟩]
noncomputable def o_S_l6Group_8 : List Out := [⟨.normal, ⟨[], [1, 3, 5, 7, 8, 9, 19, 20, 21, 22, 25, 26, 27, 28, 29, 30, 31, 32, 33, 34, 35, 36, 37, 38, 39, 40, 41, 52, 53, 54, 57, 58, 59, 62, 63, 64, 65, 66, 67, 68, 71, 72, 73, 74, 75, 76, 77, 80, 81, 82, 83, 86, 87, 88, 91, 92, 93]⟩, mkSh 95 [(1, .var Y_impl_Group .b), (3, .val .bool .b), (5, .var Y_impl_Row .b), (7, .val S_impl_Row .b), (8, .val (.int .i64) .b), (9, .val (.int .i64) .b)]⟩, ⟨.ret, ⟨[], [2]⟩, mkSh 95 [(2, .val .bool .b)]⟩]
noncomputable def sh_S_l6Group_3 : List Sh := mkSh 95 [(1, .var Y_impl_Group .b), (3, .val .bool .b), (7, .val S_impl_Row .b), (8, .val (.int .i64) .b), (9, .val (.int .i64) .b)]
noncomputable def o_S_l6Group_3 : List Out := [⟨.exit 0, ⟨[], [1, 3, 52, 53, 54, 57, 58, 59, 62, 63, 64, 65, 66, 67, 68, 71, 72, 73, 74, 75, 76, 77, 80, 81, 82, 83, 86, 87, 88, 91, 92, 93]⟩, mkSh 95 [(1, .var Y_impl_Group .b), (3, .val .bool .b)]⟩, ⟨.ret, ⟨[], [2]⟩, mkSh 95 [(2, .val .bool .b)]⟩]
noncomputable def b_S_l6Group_3 (t1 : PV Y_impl_Group) (t3 : PV .bool) (t7 : PV S_impl_Row) (t8 : PV (.int .i64)) (t9 : PV (.int .i64)) : Option ((PV Y_impl_Group × PV .bool × PV S_impl_Row × PV (.int .i64) × PV (.int .i64) × Unit) ⊕ ((PV Y_impl_Group × PV .bool × Unit) ⊕ (PV .bool × Unit))) :=
  bif (decide (t9 < t8)) then
    ((
        bif inB t9 t7.length then
          ((
              (f_S_l1In ((t7.getD t9.toNat (dflt Y_impl_Row)).1) 1 3).bind fun r4 =>
                bif (!r4.1.1) then
                  some (t1, t3, (t7.getD t9.toNat (dflt Y_impl_Row)), t7, t8, t9, true, ())
                else
                  (f_S_l1Line (((t7.getD t9.toNat (dflt Y_impl_Row)).2).1)).bind fun r5 =>
                    bif (!r5.1.1) then
                      some (t1, t3, (t7.getD t9.toNat (dflt Y_impl_Row)), t7, t8, t9, true, ())
                    else
                      bif (decide (t9 > 0)) then
                        bif (((t7.getD t9.toNat (dflt Y_impl_Row)).1) == 2) then
                          bif inB (IntKind.wrap .i64 (t9 - 1)) t1.2.2.1.length then
                            some (t1, t3, (t7.getD t9.toNat (dflt Y_impl_Row)), t7, t8, t9, (((t1.2.2.1.getD ((IntKind.wrap .i64 (t9 - 1)).toNat) (dflt Y_impl_Row)).1) == 3), ())
                          else
                            none
                        else
                          some (t1, t3, (t7.getD t9.toNat (dflt Y_impl_Row)), t7, t8, t9, false, ())
                      else
                        some (t1, t3, (t7.getD t9.toNat (dflt Y_impl_Row)), t7, t8, t9, false, ()) : Option ((PV Y_impl_Group × PV .bool × PV Y_impl_Row × PV S_impl_Row × PV (.int .i64) × PV (.int .i64) × PV .bool × Unit)))).bind fun j6 =>
            bif j6.2.2.2.2.2.2.1 then
              some (.inr (false, ()))
            else
              bif j6.2.1 then
                some (.inl (j6.1, true, j6.2.2.1, j6.2.2.2.1, j6.2.2.2.2.1, j6.2.2.2.2.2.1, ()))
              else
                some (.inl (j6.1, (!(j6.2.2.1.1 == 1)), j6.2.2.1, j6.2.2.2.1, j6.2.2.2.2.1, j6.2.2.2.2.2.1, ()))
        else
          none : Option ((PV Y_impl_Group × PV .bool × PV Y_impl_Row × PV S_impl_Row × PV (.int .i64) × PV (.int .i64) × Unit) ⊕ (PV .bool × Unit)))).bind fun x21 =>
      match x21 with
      | .inl j7 =>
        some (.inl (j7.1, j7.2.1, j7.2.2.2.1, j7.2.2.2.2.1, (IntKind.wrap .i64 (j7.2.2.2.2.2.1 + 1)), ()))
      | .inr j8 =>
        some (.inr (.inr (j8.1, ())))
  else
    some (.inr (.inl (t1, t3, ())))
noncomputable def w_S_l6Group_3 : PV Y_impl_Group × PV .bool × PV S_impl_Row × PV (.int .i64) × PV (.int .i64) × Unit → Option ((PV Y_impl_Group × PV .bool × Unit) ⊕ (PV .bool × Unit)) := fix fun d => b_S_l6Group_3 d.1 d.2.1 d.2.2.1 d.2.2.2.1 d.2.2.2.2.1
noncomputable def lp_S_l6Group_3 : Lp := ⟨⟨[], [1, 3, 7, 8, 9, 19, 20, 21, 22, 25, 26, 27, 28, 29, 30, 31, 32, 33, 34, 35, 36, 37, 38, 39, 40, 41, 45, 46, 47, 52, 53, 54, 57, 58, 59, 62, 63, 64, 65, 66, 67, 68, 71, 72, 73, 74, 75, 76, 77, 80, 81, 82, 83, 86, 87, 88, 91, 92, 93]⟩, sh_S_l6Group_3, o_S_l6Group_3, fun d => b_S_l6Group_3 d.1 d.2.1 d.2.2.1 d.2.2.2.1 d.2.2.2.2.1⟩
noncomputable def pl_S_l6Group : Plan := ⟨[(6, o_S_l6Group_6), (8, o_S_l6Group_8)], [(3, lp_S_l6Group_3)], 0, 0⟩
noncomputable def f_S_l6Group (t0 : PV Y_impl_Group) : Option (PVs [.bool] × PVs []) :=
  (w_S_l6Group_3 (t0, false, t0.2.2.1, (t0.2.2.1.length : Int), 0, ())).bind fun x22 =>
    match x22 with
    | .inl l11 =>
      bif l11.2.1 then
        (f_S_l1In l11.1.1 0 999).bind fun r12 =>
          bif r12.1.1 then
            (f_S_l1In l11.1.2.1 0 999).bind fun r13 =>
              bif r13.1.1 then
                (f_S_l6Old l11.1).bind fun r14 =>
                  bif (decide ((IntKind.wrap .i64 (l11.1.1 + (r14.1.1.length : Int))) ≤ 1000)) then
                    (f_S_l6New l11.1).bind fun r15 =>
                      bif (decide ((IntKind.wrap .i64 (l11.1.2.1 + (r15.1.1.length : Int))) ≤ 1000)) then
                        bif (decide ((l11.1.2.2.1.length : Int) ≤ 80)) then
                          (f_S_l6Old l11.1).bind fun r16 =>
                            (f_S_l5Lines r16.1.1).bind fun r17 =>
                              bif r17.1.1 then
                                (f_S_l6New l11.1).bind fun r18 =>
                                  (f_S_l5Lines r18.1.1).bind fun r19 =>
                                    some ((r19.1.1, ()), ())
                              else
                                some ((false, ()), ())
                        else
                          some ((false, ()), ())
                      else
                        some ((false, ()), ())
                  else
                    some ((false, ()), ())
              else
                some ((false, ()), ())
          else
            some ((false, ()), ())
      else
        some ((false, ()), ())
    | .inr l20 =>
      some ((l20.1, ()), ())
noncomputable def ct_S_l6Group : Ct := ⟨[(.bor, Y_impl_Group)], [(.bool, false)], fun x => f_S_l6Group x.1⟩
noncomputable def cx_S_l6Group : Cx := ⟨tab, arrs, [(99, ct_S_l1In), (115, ct_S_l1Line), (123, ct_S_l6Old), (124, ct_S_l6New), (125, ct_S_l5Lines)], []⟩
theorem eb_S_l6Group_3 (t1 : PV Y_impl_Group) (t3 : PV .bool) (t7 : PV S_impl_Row) (t8 : PV (.int .i64)) (t9 : PV (.int .i64)) : denK cx_S_l6Group (rcN cx_S_l6Group 0) pl_S_l6Group 0 ((loopsOf (bodyOf Try.f88)).getD 0 .skip) (fillS sh_S_l6Group_3 (t1, t3, t7, t8, t9, ())) (roundK 0 lp_S_l6Group_3) = b_S_l6Group_3 t1 t3 t7 t8 t9 := by kernel_rfl
theorem ef_S_l6Group (t0 : PV Y_impl_Group) : denF cx_S_l6Group 0 pl_S_l6Group Try.f88.ntmps (bodyOf Try.f88) Try.f88.results.toList [(.bor, Y_impl_Group)] [(.bool, false)] (t0, ()) = f_S_l6Group t0 := by kernel_rfl
theorem ok_S_l6Group : FnOk Try.prog 88 ct_S_l6Group :=
  fnOk (cx := cx_S_l6Group) (pl := pl_S_l6Group) (dp := 0) (ok0_of tabOk (by unfold ArrOk; kernel_rfl) mix ⟨ok_S_l1In, ok_S_l1Line, ok_S_l6Old, ok_S_l6New, ok_S_l5Lines, trivial⟩ trivial) Try.func88 (by kernel_rfl) (by kernel_rfl) (by kernel_rfl)
    (by rw [show loopsOf (bodyOf Try.f88) = [((loopsOf (bodyOf Try.f88)).getD 0 .skip)] from by kernel_rfl]; exact ⟨(by rw [show lookup pl_S_l6Group.loops (firstId ((loopsOf (bodyOf Try.f88)).getD 0 .skip)) = some lp_S_l6Group_3 from by kernel_rfl]; exact fun d z h => (eb_S_l6Group_3 d.1 d.2.1 d.2.2.1 d.2.2.2.1 d.2.2.2.2.1).trans h), trivial⟩) (fun x => ef_S_l6Group x.1)
noncomputable def pl_S_l1Most : Plan := ⟨[], [], 0, 0⟩
noncomputable def f_S_l1Most (t0 : PV (.int .i64)) (t1 : PV (.int .i64)) : Option (PVs [(.int .i64)] × PVs []) :=
  bif (decide (t0 > t1)) then
    some ((t0, ()), ())
  else
    some ((t1, ()), ())
noncomputable def ct_S_l1Most : Ct := ⟨[(.bor, (.int .i64)), (.bor, (.int .i64))], [((.int .i64), false)], fun x => f_S_l1Most x.1 x.2.1⟩
noncomputable def cx_S_l1Most : Cx := ⟨tab, arrs, [], []⟩
theorem ef_S_l1Most (t0 : PV (.int .i64)) (t1 : PV (.int .i64)) : denF cx_S_l1Most 0 pl_S_l1Most Try.f153.ntmps (bodyOf Try.f153) Try.f153.results.toList [(.bor, (.int .i64)), (.bor, (.int .i64))] [((.int .i64), false)] (t0, t1, ()) = f_S_l1Most t0 t1 := by kernel_rfl
theorem ok_S_l1Most : FnOk Try.prog 153 ct_S_l1Most :=
  fnOk (cx := cx_S_l1Most) (pl := pl_S_l1Most) (dp := 0) (ok0_of tabOk (by unfold ArrOk; kernel_rfl) mix trivial trivial) Try.func153 (by kernel_rfl) (by kernel_rfl) (by kernel_rfl)
    (by rw [show loopsOf (bodyOf Try.f153) = [] from by kernel_rfl]; exact trivial) (fun x => ef_S_l1Most x.1 x.2.1)
noncomputable def o_S_l8Runs_9 : List Out := [⟨.normal, ⟨[], [1, 4, 5, 6, 7, 8, 9, 10, 27, 28, 29, 30, 31, 32, 33, 47, 48, 49, 50, 51, 52, 53]⟩, mkSh 77 [(1, .var Y_impl_Group .b), (4, .val (.int .i64) .b), (5, .val S_bool (.row .b)), (6, .val S_bool (.row .b)), (7, .val (.int .i64) .b), (8, .val (.int .i64) .b), (9, .val .bool .b), (10, .val .bool .b), (27, .addr ⟨1, [.r, .r, .l], 0, 0⟩), (28, .val S_impl_Row .b), (29, .val (.int .i64) .b), (30, .bad Y_impl_Row), (31, .bad (.int .i64)), (32, .val (.int .i64) .b), (33, .val .bool .b)]⟩]
noncomputable def o_S_l8Runs_10 : List Out := [⟨.normal, ⟨[], [1, 4, 5, 6, 7, 8, 9, 10, 27, 28, 29, 30, 31, 32, 33, 37, 38, 39, 40, 41, 42, 43]⟩, mkSh 77 [(1, .var Y_impl_Group .b), (4, .val (.int .i64) .b), (5, .val S_bool (.row .b)), (6, .val S_bool (.row .b)), (7, .val (.int .i64) .b), (8, .val (.int .i64) .b), (9, .val .bool .b), (10, .val .bool .b), (27, .addr ⟨1, [.r, .r, .l], 0, 0⟩), (28, .val S_impl_Row .b), (29, .val (.int .i64) .b), (30, .bad Y_impl_Row), (31, .bad (.int .i64)), (32, .val (.int .i64) .b), (33, .val .bool .b)]⟩]
noncomputable def sh_S_l8Runs_7 : List Sh := mkSh 77 [(1, .var Y_impl_Group .b), (4, .val (.int .i64) .b), (5, .val S_bool (.row .b)), (6, .val S_bool (.row .b)), (7, .val (.int .i64) .b), (8, .val (.int .i64) .b), (9, .val .bool .b), (10, .val .bool .b)]
noncomputable def o_S_l8Runs_7 : List Out := [⟨.exit 2, ⟨[], [1, 4, 5, 6, 7, 8, 9, 10, 37, 38, 39, 40, 41, 42, 43, 47, 48, 49, 50, 51, 52, 53]⟩, mkSh 77 [(1, .var Y_impl_Group .b), (4, .val (.int .i64) .b), (5, .val S_bool (.row .b)), (6, .val S_bool (.row .b)), (7, .val (.int .i64) .b), (8, .val (.int .i64) .b), (9, .val .bool .b), (10, .val .bool .b)]⟩]
noncomputable def b_S_l8Runs_7 (t1 : PV Y_impl_Group) (t4 : PV (.int .i64)) (t5 : PV S_bool) (t6 : PV S_bool) (t7 : PV (.int .i64)) (t8 : PV (.int .i64)) (t9 : PV .bool) (t10 : PV .bool) : Option ((PV Y_impl_Group × PV (.int .i64) × PV S_bool × PV S_bool × PV (.int .i64) × PV (.int .i64) × PV .bool × PV .bool × Unit) ⊕ ((PV Y_impl_Group × PV (.int .i64) × PV S_bool × PV S_bool × PV (.int .i64) × PV (.int .i64) × PV .bool × PV .bool × Unit))) :=
  bif (decide (t8 < t4)) then
    bif inB t8 t1.2.2.1.length then
      bif (!(((t1.2.2.1.getD t8.toNat (dflt Y_impl_Row)).1) == 1)) then
        ((
            bif t9 then
              some (t1, t4, t5, t6, t7, t8, true, t10, t1.2.2.1, t8, (t1.2.2.1.getD t8.toNat (dflt Y_impl_Row)), (t1.2.2.1.getD t8.toNat (dflt Y_impl_Row)).1, (t1.2.2.1.getD t8.toNat (dflt Y_impl_Row)).1, (!(((t1.2.2.1.getD t8.toNat (dflt Y_impl_Row)).1) == 1)), ())
            else
              bif inB t8 t1.2.2.1.length then
                some (t1, t4, t5, t6, t7, t8, (((t1.2.2.1.getD t8.toNat (dflt Y_impl_Row)).1) == 2), t10, t1.2.2.1, t8, (t1.2.2.1.getD t8.toNat (dflt Y_impl_Row)), (t1.2.2.1.getD t8.toNat (dflt Y_impl_Row)).1, (t1.2.2.1.getD t8.toNat (dflt Y_impl_Row)).1, (!(((t1.2.2.1.getD t8.toNat (dflt Y_impl_Row)).1) == 1)), ())
              else
                none : Option ((PV Y_impl_Group × PV (.int .i64) × PV S_bool × PV S_bool × PV (.int .i64) × PV (.int .i64) × PV .bool × PV .bool × PV S_impl_Row × PV (.int .i64) × PV Y_impl_Row × PV (.int .i64) × PV (.int .i64) × PV .bool × Unit)))).bind fun j3 =>
          ((
              bif j3.2.2.2.2.2.2.2.1 then
                some (j3.1, j3.2.1, j3.2.2.1, j3.2.2.2.1, j3.2.2.2.2.1, j3.2.2.2.2.2.1, j3.2.2.2.2.2.2.1, true, j3.2.2.2.2.2.2.2.2.1, j3.2.2.2.2.2.2.2.2.2.1, j3.2.2.2.2.2.2.2.2.2.2.1, j3.2.2.2.2.2.2.2.2.2.2.2.1, j3.2.2.2.2.2.2.2.2.2.2.2.2.1, j3.2.2.2.2.2.2.2.2.2.2.2.2.2.1, ())
              else
                bif inB j3.2.2.2.2.2.1 j3.1.2.2.1.length then
                  some (j3.1, j3.2.1, j3.2.2.1, j3.2.2.2.1, j3.2.2.2.2.1, j3.2.2.2.2.2.1, j3.2.2.2.2.2.2.1, (((j3.1.2.2.1.getD j3.2.2.2.2.2.1.toNat (dflt Y_impl_Row)).1) == 3), j3.2.2.2.2.2.2.2.2.1, j3.2.2.2.2.2.2.2.2.2.1, j3.2.2.2.2.2.2.2.2.2.2.1, j3.2.2.2.2.2.2.2.2.2.2.2.1, j3.2.2.2.2.2.2.2.2.2.2.2.2.1, j3.2.2.2.2.2.2.2.2.2.2.2.2.2.1, ())
                else
                  none : Option ((PV Y_impl_Group × PV (.int .i64) × PV S_bool × PV S_bool × PV (.int .i64) × PV (.int .i64) × PV .bool × PV .bool × PV S_impl_Row × PV (.int .i64) × PV Y_impl_Row × PV (.int .i64) × PV (.int .i64) × PV .bool × Unit)))).bind fun j4 =>
            some (.inl (j4.1, j4.2.1, j4.2.2.1, j4.2.2.2.1, j4.2.2.2.2.1, (IntKind.wrap .i64 (j4.2.2.2.2.2.1 + 1)), j4.2.2.2.2.2.2.1, j4.2.2.2.2.2.2.2.1, ()))
      else
        some (.inr (t1, t4, t5, t6, t7, t8, t9, t10, ()))
    else
      none
  else
    some (.inr (t1, t4, t5, t6, t7, t8, t9, t10, ()))
noncomputable def w_S_l8Runs_7 : PV Y_impl_Group × PV (.int .i64) × PV S_bool × PV S_bool × PV (.int .i64) × PV (.int .i64) × PV .bool × PV .bool × Unit → Option ((PV Y_impl_Group × PV (.int .i64) × PV S_bool × PV S_bool × PV (.int .i64) × PV (.int .i64) × PV .bool × PV .bool × Unit)) := fix fun d => b_S_l8Runs_7 d.1 d.2.1 d.2.2.1 d.2.2.2.1 d.2.2.2.2.1 d.2.2.2.2.2.1 d.2.2.2.2.2.2.1 d.2.2.2.2.2.2.2.1
noncomputable def lp_S_l8Runs_7 : Lp := ⟨⟨[], [1, 4, 5, 6, 7, 8, 9, 10, 37, 38, 39, 40, 41, 42, 43, 47, 48, 49, 50, 51, 52, 53]⟩, sh_S_l8Runs_7, o_S_l8Runs_7, fun d => b_S_l8Runs_7 d.1 d.2.1 d.2.2.1 d.2.2.2.1 d.2.2.2.2.1 d.2.2.2.2.2.1 d.2.2.2.2.2.2.1 d.2.2.2.2.2.2.2.1⟩
noncomputable def sh_S_l8Runs_12 : List Sh := mkSh 77 [(1, .var Y_impl_Group .b), (4, .val (.int .i64) .b), (5, .val S_bool (.row .b)), (6, .val S_bool (.row .b)), (7, .val (.int .i64) .b), (8, .val (.int .i64) .b), (9, .val .bool .b), (10, .val .bool .b), (11, .val (.int .i64) .b)]
noncomputable def o_S_l8Runs_12 : List Out := [⟨.exit 4, ⟨[], [1, 4, 5, 6, 7, 8, 27, 28, 29, 30, 31, 32, 33, 37, 38, 39, 40, 41, 42, 43, 47, 48, 49, 50, 51, 52, 53]⟩, mkSh 77 [(1, .var Y_impl_Group .b), (4, .val (.int .i64) .b), (5, .val S_bool (.row .b)), (6, .val S_bool (.row .b)), (7, .val (.int .i64) .b), (8, .val (.int .i64) .b)]⟩]
noncomputable def b_S_l8Runs_12 (t1 : PV Y_impl_Group) (t4 : PV (.int .i64)) (t5 : PV S_bool) (t6 : PV S_bool) (t7 : PV (.int .i64)) (t8 : PV (.int .i64)) (t9 : PV .bool) (t10 : PV .bool) (t11 : PV (.int .i64)) : Option ((PV Y_impl_Group × PV (.int .i64) × PV S_bool × PV S_bool × PV (.int .i64) × PV (.int .i64) × PV .bool × PV .bool × PV (.int .i64) × Unit) ⊕ ((PV Y_impl_Group × PV (.int .i64) × PV S_bool × PV S_bool × PV (.int .i64) × PV (.int .i64) × Unit))) :=
  bif (decide (t11 < t8)) then
    bif inB t11 t5.length then
      bif inB t11 t6.length then
        some (.inl (t1, t4, (t5.set t11.toNat t9), (t6.set t11.toNat t10), t7, t8, t9, t10, (IntKind.wrap .i64 (t11 + 1)), ()))
      else
        none
    else
      none
  else
    some (.inr (t1, t4, t5, t6, t7, t8, ()))
noncomputable def w_S_l8Runs_12 : PV Y_impl_Group × PV (.int .i64) × PV S_bool × PV S_bool × PV (.int .i64) × PV (.int .i64) × PV .bool × PV .bool × PV (.int .i64) × Unit → Option ((PV Y_impl_Group × PV (.int .i64) × PV S_bool × PV S_bool × PV (.int .i64) × PV (.int .i64) × Unit)) := fix fun d => b_S_l8Runs_12 d.1 d.2.1 d.2.2.1 d.2.2.2.1 d.2.2.2.2.1 d.2.2.2.2.2.1 d.2.2.2.2.2.2.1 d.2.2.2.2.2.2.2.1 d.2.2.2.2.2.2.2.2.1
noncomputable def lp_S_l8Runs_12 : Lp := ⟨⟨[], [1, 4, 5, 6, 7, 8, 9, 10, 11, 27, 28, 29, 30, 31, 32, 33, 37, 38, 39, 40, 41, 42, 43, 47, 48, 49, 50, 51, 52, 53]⟩, sh_S_l8Runs_12, o_S_l8Runs_12, fun d => b_S_l8Runs_12 d.1 d.2.1 d.2.2.1 d.2.2.2.1 d.2.2.2.2.1 d.2.2.2.2.2.1 d.2.2.2.2.2.2.1 d.2.2.2.2.2.2.2.1 d.2.2.2.2.2.2.2.2.1⟩
noncomputable def sh_S_l8Runs_4 : List Sh := mkSh 77 [(1, .var Y_impl_Group .b), (4, .val (.int .i64) .b), (5, .val S_bool (.row .b)), (6, .val S_bool (.row .b)), (7, .val (.int .i64) .b)]
noncomputable def o_S_l8Runs_4 : List Out := [⟨.exit 0, ⟨[], [5, 6]⟩, mkSh 77 [(5, .val S_bool (.row .b)), (6, .val S_bool (.row .b))]⟩]
noncomputable def b_S_l8Runs_4 (t1 : PV Y_impl_Group) (t4 : PV (.int .i64)) (t5 : PV S_bool) (t6 : PV S_bool) (t7 : PV (.int .i64)) : Option ((PV Y_impl_Group × PV (.int .i64) × PV S_bool × PV S_bool × PV (.int .i64) × Unit) ⊕ ((PV S_bool × PV S_bool × Unit))) :=
  bif (decide (t7 < t4)) then
    (w_S_l8Runs_7 (t1, t4, t5, t6, t7, t7, false, false, ())).bind fun l2 =>
      (w_S_l8Runs_12 (l2.1, l2.2.1, l2.2.2.1, l2.2.2.2.1, l2.2.2.2.2.1, l2.2.2.2.2.2.1, l2.2.2.2.2.2.2.1, l2.2.2.2.2.2.2.2.1, l2.2.2.2.2.1, ())).bind fun l4 =>
        (f_S_l1Most l4.2.2.2.2.2.1 (IntKind.wrap .i64 (l4.2.2.2.2.1 + 1))).bind fun r5 =>
          some (.inl (l4.1, l4.2.1, l4.2.2.1, l4.2.2.2.1, r5.1.1, ()))
  else
    some (.inr (t5, t6, ()))
noncomputable def w_S_l8Runs_4 : PV Y_impl_Group × PV (.int .i64) × PV S_bool × PV S_bool × PV (.int .i64) × Unit → Option ((PV S_bool × PV S_bool × Unit)) := fix fun d => b_S_l8Runs_4 d.1 d.2.1 d.2.2.1 d.2.2.2.1 d.2.2.2.2.1
noncomputable def lp_S_l8Runs_4 : Lp := ⟨⟨[], [1, 4, 5, 6, 7, 27, 28, 29, 30, 31, 32, 33, 37, 38, 39, 40, 41, 42, 43, 47, 48, 49, 50, 51, 52, 53]⟩, sh_S_l8Runs_4, o_S_l8Runs_4, fun d => b_S_l8Runs_4 d.1 d.2.1 d.2.2.1 d.2.2.2.1 d.2.2.2.2.1⟩
noncomputable def pl_S_l8Runs : Plan := ⟨[(9, o_S_l8Runs_9), (10, o_S_l8Runs_10)], [(7, lp_S_l8Runs_7), (12, lp_S_l8Runs_12), (4, lp_S_l8Runs_4)], 0, 0⟩
noncomputable def f_S_l8Runs (t0 : PV Y_impl_Group) : Option (PVs [S_bool, S_bool] × PVs []) :=
  bif decide (0 ≤ (t0.2.2.1.length : Int)) && (decide ((t0.2.2.1.length : Int) ≤ (t0.2.2.1.length : Int)) && roomB (t0.2.2.1.length : Int).toNat) then
    bif decide (0 ≤ (t0.2.2.1.length : Int)) && (decide ((t0.2.2.1.length : Int) ≤ (t0.2.2.1.length : Int)) && roomB (t0.2.2.1.length : Int).toNat) then
      (w_S_l8Runs_4 (t0, (t0.2.2.1.length : Int), (List.replicate (t0.2.2.1.length : Int).toNat false), (List.replicate (t0.2.2.1.length : Int).toNat false), 0, ())).bind fun l7 =>
        some ((l7.1, l7.2.1, ()), ())
    else
      none
  else
    none
noncomputable def ct_S_l8Runs : Ct := ⟨[(.bor, Y_impl_Group)], [(S_bool, true), (S_bool, true)], fun x => f_S_l8Runs x.1⟩
noncomputable def cx_S_l8Runs : Cx := ⟨tab, arrs, [(153, ct_S_l1Most)], []⟩
theorem eb_S_l8Runs_4 (t1 : PV Y_impl_Group) (t4 : PV (.int .i64)) (t5 : PV S_bool) (t6 : PV S_bool) (t7 : PV (.int .i64)) : denK cx_S_l8Runs (rcN cx_S_l8Runs 0) pl_S_l8Runs 0 ((loopsOf (bodyOf Try.f126)).getD 0 .skip) (fillS sh_S_l8Runs_4 (t1, t4, t5, t6, t7, ())) (roundK 0 lp_S_l8Runs_4) = b_S_l8Runs_4 t1 t4 t5 t6 t7 := by kernel_rfl
theorem eb_S_l8Runs_7 (t1 : PV Y_impl_Group) (t4 : PV (.int .i64)) (t5 : PV S_bool) (t6 : PV S_bool) (t7 : PV (.int .i64)) (t8 : PV (.int .i64)) (t9 : PV .bool) (t10 : PV .bool) : denK cx_S_l8Runs (rcN cx_S_l8Runs 0) pl_S_l8Runs 0 ((loopsOf (bodyOf Try.f126)).getD 1 .skip) (fillS sh_S_l8Runs_7 (t1, t4, t5, t6, t7, t8, t9, t10, ())) (roundK 0 lp_S_l8Runs_7) = b_S_l8Runs_7 t1 t4 t5 t6 t7 t8 t9 t10 := by kernel_rfl
theorem eb_S_l8Runs_12 (t1 : PV Y_impl_Group) (t4 : PV (.int .i64)) (t5 : PV S_bool) (t6 : PV S_bool) (t7 : PV (.int .i64)) (t8 : PV (.int .i64)) (t9 : PV .bool) (t10 : PV .bool) (t11 : PV (.int .i64)) : denK cx_S_l8Runs (rcN cx_S_l8Runs 0) pl_S_l8Runs 0 ((loopsOf (bodyOf Try.f126)).getD 2 .skip) (fillS sh_S_l8Runs_12 (t1, t4, t5, t6, t7, t8, t9, t10, t11, ())) (roundK 0 lp_S_l8Runs_12) = b_S_l8Runs_12 t1 t4 t5 t6 t7 t8 t9 t10 t11 := by kernel_rfl
theorem ef_S_l8Runs (t0 : PV Y_impl_Group) : denF cx_S_l8Runs 0 pl_S_l8Runs Try.f126.ntmps (bodyOf Try.f126) Try.f126.results.toList [(.bor, Y_impl_Group)] [(S_bool, true), (S_bool, true)] (t0, ()) = f_S_l8Runs t0 := by kernel_rfl
theorem ok_S_l8Runs : FnOk Try.prog 126 ct_S_l8Runs :=
  fnOk (cx := cx_S_l8Runs) (pl := pl_S_l8Runs) (dp := 0) (ok0_of tabOk (by unfold ArrOk; kernel_rfl) mix ⟨ok_S_l1Most, trivial⟩ trivial) Try.func126 (by kernel_rfl) (by kernel_rfl) (by kernel_rfl)
    (by rw [show loopsOf (bodyOf Try.f126) = [((loopsOf (bodyOf Try.f126)).getD 0 .skip), ((loopsOf (bodyOf Try.f126)).getD 1 .skip), ((loopsOf (bodyOf Try.f126)).getD 2 .skip)] from by kernel_rfl]; exact ⟨(by rw [show lookup pl_S_l8Runs.loops (firstId ((loopsOf (bodyOf Try.f126)).getD 0 .skip)) = some lp_S_l8Runs_4 from by kernel_rfl]; exact fun d z h => (eb_S_l8Runs_4 d.1 d.2.1 d.2.2.1 d.2.2.2.1 d.2.2.2.2.1).trans h), (by rw [show lookup pl_S_l8Runs.loops (firstId ((loopsOf (bodyOf Try.f126)).getD 1 .skip)) = some lp_S_l8Runs_7 from by kernel_rfl]; exact fun d z h => (eb_S_l8Runs_7 d.1 d.2.1 d.2.2.1 d.2.2.2.1 d.2.2.2.2.1 d.2.2.2.2.2.1 d.2.2.2.2.2.2.1 d.2.2.2.2.2.2.2.1).trans h), (by rw [show lookup pl_S_l8Runs.loops (firstId ((loopsOf (bodyOf Try.f126)).getD 2 .skip)) = some lp_S_l8Runs_12 from by kernel_rfl]; exact fun d z h => (eb_S_l8Runs_12 d.1 d.2.1 d.2.2.1 d.2.2.2.1 d.2.2.2.2.1 d.2.2.2.2.2.1 d.2.2.2.2.2.2.1 d.2.2.2.2.2.2.2.1 d.2.2.2.2.2.2.2.2.1).trans h), trivial⟩) (fun x => ef_S_l8Runs x.1)
noncomputable def pl_S_l5Shown : Plan := ⟨[], [], 0, 0⟩
noncomputable def f_S_l5Shown (t0 : PV .str) (t1 : PV .str) : Option (PVs [.str] × PVs []) :=
  (f_S_l1Ends t1).bind fun r4 =>
    bif r4.1.1 then
      bif decide (t0.length + t1.length ≤ 1099511627776) then
        some (((t0 ++ t1), ()), ())
      else
        none
    else
      bif decide (t0.length + t1.length ≤ 1099511627776) then
        bif decide ((t0 ++ t1).length + [10, 92, 32, 110, 111, 110, 101, 10].length ≤ 1099511627776) then
          some ((((t0 ++ t1) ++ [10, 92, 32, 110, 111, 110, 101, 10]), ()), ())
        else
          none
      else
        none
noncomputable def ct_S_l5Shown : Ct := ⟨[(.bor, .str), (.bor, .str)], [(.str, false)], fun x => f_S_l5Shown x.1 x.2.1⟩
noncomputable def cx_S_l5Shown : Cx := ⟨tab, arrs, [(141, ct_S_l1Ends)], []⟩
theorem ef_S_l5Shown (t0 : PV .str) (t1 : PV .str) : denF cx_S_l5Shown 0 pl_S_l5Shown Try.f127.ntmps (bodyOf Try.f127) Try.f127.results.toList [(.bor, .str), (.bor, .str)] [(.str, false)] (t0, t1, ()) = f_S_l5Shown t0 t1 := by kernel_rfl
theorem ok_S_l5Shown : FnOk Try.prog 127 ct_S_l5Shown :=
  fnOk (cx := cx_S_l5Shown) (pl := pl_S_l5Shown) (dp := 0) (ok0_of tabOk (by unfold ArrOk; kernel_rfl) mix ⟨ok_S_l1Ends, trivial⟩ trivial) Try.func127 (by kernel_rfl) (by kernel_rfl) (by kernel_rfl)
    (by rw [show loopsOf (bodyOf Try.f127) = [] from by kernel_rfl]; exact trivial) (fun x => ef_S_l5Shown x.1 x.2.1)
noncomputable def o_S_l8Half_8 : List Out := [⟨.normal, ⟨[], [1, 5, 6, 7, 8, 9, 10, 17, 18, 19, 24, 45, 46, 47, 48, 51, 52, 53, 54]⟩, mkSh 72 [(1, .val .bool .b), (5, .val S_bool (.row .b)), (6, .val S_bool (.row .b)), (7, .val .str .b), (8, .val (.int .i64) .b), (9, .var Y_impl_Row .b), (10, .val .str .b), (17, .val S_impl_Row .b), (18, .val (.int .i64) .b), (19, .val (.int .i64) .b), (24, .val .bool .b)]⟩]
noncomputable def o_S_l8Half_9 : List Out := [⟨.normal, ⟨[], [1, 5, 6, 7, 9, 10, 17, 18, 19, 29, 30, 33, 34, 35, 36, 37, 38, 40]⟩, mkSh 72 [(1, .val .bool .b), (5, .val S_bool (.row .b)), (6, .val S_bool (.row .b)), (7, .val .str .b), (9, .var Y_impl_Row .b), (10, .val .str .b), (17, .val S_impl_Row .b), (18, .val (.int .i64) .b), (19, .val (.int .i64) .b), (40, .val .bool .b)]⟩]
noncomputable def o_S_l8Half_14 : List Out := [⟨.exit 1, ⟨[], [1, 5, 6, 7, 17, 18, 19, 29, 30, 33, 34, 35, 36, 37, 38, 45, 46, 47, 48, 51, 52, 53, 54]⟩, mkSh 72 [(1, .val .bool .b), (5, .val S_bool (.row .b)), (6, .val S_bool (.row .b)), (7, .val .str .b), (17, .val S_impl_Row .b), (18, .val (.int .i64) .b), (19, .val (.int .i64) .b)]⟩, ⟨.normal, ⟨[], [1, 5, 6, 7, 9, 10, 17, 18, 19, 29, 30, 33, 34, 35, 36, 37, 38, 45, 46, 47, 48, 51, 52, 53, 54]⟩, mkSh 72 [(1, .val .bool .b), (5, .val S_bool (.row .b)), (6, .val S_bool (.row .b)), (7, .val .str .b), (9, .var Y_impl_Row .b), (10, .val .str .b), (17, .val S_impl_Row .b), (18, .val (.int .i64) .b), (19, .val (.int .i64) .b)]⟩]
noncomputable def o_S_l8Half_15 : List Out := [⟨.normal, ⟨[], [1, 5, 6, 7, 17, 18, 19, 29, 30, 33, 34, 35, 36, 37, 38, 45, 46, 47, 48, 51, 52, 53, 54]⟩, mkSh 72 [(1, .val .bool .b), (5, .val S_bool (.row .b)), (6, .val S_bool (.row .b)), (7, .val .str .b), (17, .val S_impl_Row .b), (18, .val (.int .i64) .b), (19, .val (.int .i64) .b)]⟩]
noncomputable def sh_S_l8Half_4 : List Sh := mkSh 72 [(1, .val .bool .b), (5, .val S_bool (.row .b)), (6, .val S_bool (.row .b)), (7, .val .str .b), (17, .val S_impl_Row .b), (18, .val (.int .i64) .b), (19, .val (.int .i64) .b)]
noncomputable def o_S_l8Half_4 : List Out := [⟨.exit 0, ⟨[], [7]⟩, mkSh 72 [(7, .val .str .b)]⟩]
noncomputable def b_S_l8Half_4 (t1 : PV .bool) (t5 : PV S_bool) (t6 : PV S_bool) (t7 : PV .str) (t17 : PV S_impl_Row) (t18 : PV (.int .i64)) (t19 : PV (.int .i64)) : Option ((PV .bool × PV S_bool × PV S_bool × PV .str × PV S_impl_Row × PV (.int .i64) × PV (.int .i64) × Unit) ⊕ ((PV .str × Unit))) :=
  bif (decide (t19 < t18)) then
    ((
        bif inB t19 t17.length then
          ((
              ((
                  bif (((t17.getD t19.toNat (dflt Y_impl_Row)).1) == 2) then
                    bif (!t1) then
                      some (t1, t5, t6, t7, t19, (t17.getD t19.toNat (dflt Y_impl_Row)), [32, 32], t17, t18, t19, true, ())
                    else
                      bif (((t17.getD t19.toNat (dflt Y_impl_Row)).1) == 3) then
                        some (t1, t5, t6, t7, t19, (t17.getD t19.toNat (dflt Y_impl_Row)), [32, 32], t17, t18, t19, t1, ())
                      else
                        some (t1, t5, t6, t7, t19, (t17.getD t19.toNat (dflt Y_impl_Row)), [32, 32], t17, t18, t19, false, ())
                  else
                    bif (((t17.getD t19.toNat (dflt Y_impl_Row)).1) == 3) then
                      some (t1, t5, t6, t7, t19, (t17.getD t19.toNat (dflt Y_impl_Row)), [32, 32], t17, t18, t19, t1, ())
                    else
                      some (t1, t5, t6, t7, t19, (t17.getD t19.toNat (dflt Y_impl_Row)), [32, 32], t17, t18, t19, false, ()) : Option ((PV .bool × PV S_bool × PV S_bool × PV .str × PV (.int .i64) × PV Y_impl_Row × PV .str × PV S_impl_Row × PV (.int .i64) × PV (.int .i64) × PV .bool × Unit)))).bind fun j3 =>
                bif j3.2.2.2.2.2.2.2.2.2.2.1 then
                  some (.inl (j3.1, j3.2.1, j3.2.2.1, j3.2.2.2.1, j3.2.2.2.2.2.2.2.1, j3.2.2.2.2.2.2.2.2.1, j3.2.2.2.2.2.2.2.2.2.1, ()))
                else
                  ((
                      bif (!(j3.2.2.2.2.2.1.1 == 1)) then
                        bif inB j3.2.2.2.2.1 j3.2.1.length then
                          bif (j3.2.1.getD j3.2.2.2.2.1.toNat false) then
                            bif inB j3.2.2.2.2.1 j3.2.2.1.length then
                              some (j3.1, j3.2.1, j3.2.2.1, j3.2.2.2.1, j3.2.2.2.2.2.1, j3.2.2.2.2.2.2.1, j3.2.2.2.2.2.2.2.1, j3.2.2.2.2.2.2.2.2.1, j3.2.2.2.2.2.2.2.2.2.1, (j3.2.2.1.getD j3.2.2.2.2.1.toNat false), ())
                            else
                              none
                          else
                            some (j3.1, j3.2.1, j3.2.2.1, j3.2.2.2.1, j3.2.2.2.2.2.1, j3.2.2.2.2.2.2.1, j3.2.2.2.2.2.2.2.1, j3.2.2.2.2.2.2.2.2.1, j3.2.2.2.2.2.2.2.2.2.1, false, ())
                        else
                          none
                      else
                        some (j3.1, j3.2.1, j3.2.2.1, j3.2.2.2.1, j3.2.2.2.2.2.1, j3.2.2.2.2.2.2.1, j3.2.2.2.2.2.2.2.1, j3.2.2.2.2.2.2.2.2.1, j3.2.2.2.2.2.2.2.2.2.1, false, ()) : Option ((PV .bool × PV S_bool × PV S_bool × PV .str × PV Y_impl_Row × PV .str × PV S_impl_Row × PV (.int .i64) × PV (.int .i64) × PV .bool × Unit)))).bind fun j4 =>
                    bif j4.2.2.2.2.2.2.2.2.2.1 then
                      some (.inr (j4.1, j4.2.1, j4.2.2.1, j4.2.2.2.1, j4.2.2.2.2.1, [33, 32], j4.2.2.2.2.2.2.1, j4.2.2.2.2.2.2.2.1, j4.2.2.2.2.2.2.2.2.1, ()))
                    else
                      bif (j4.2.2.2.2.1.1 == 2) then
                        some (.inr (j4.1, j4.2.1, j4.2.2.1, j4.2.2.2.1, j4.2.2.2.2.1, [45, 32], j4.2.2.2.2.2.2.1, j4.2.2.2.2.2.2.2.1, j4.2.2.2.2.2.2.2.2.1, ()))
                      else
                        bif (j4.2.2.2.2.1.1 == 3) then
                          some (.inr (j4.1, j4.2.1, j4.2.2.1, j4.2.2.2.1, j4.2.2.2.2.1, [43, 32], j4.2.2.2.2.2.2.1, j4.2.2.2.2.2.2.2.1, j4.2.2.2.2.2.2.2.2.1, ()))
                        else
                          some (.inr (j4.1, j4.2.1, j4.2.2.1, j4.2.2.2.1, j4.2.2.2.2.1, j4.2.2.2.2.2.1, j4.2.2.2.2.2.2.1, j4.2.2.2.2.2.2.2.1, j4.2.2.2.2.2.2.2.2.1, ())) : Option ((PV .bool × PV S_bool × PV S_bool × PV .str × PV S_impl_Row × PV (.int .i64) × PV (.int .i64) × Unit) ⊕ (PV .bool × PV S_bool × PV S_bool × PV .str × PV Y_impl_Row × PV .str × PV S_impl_Row × PV (.int .i64) × PV (.int .i64) × Unit)))).bind fun x11 =>
            match x11 with
            | .inl j5 =>
              some (j5.1, j5.2.1, j5.2.2.1, j5.2.2.2.1, j5.2.2.2.2.1, j5.2.2.2.2.2.1, j5.2.2.2.2.2.2.1, ())
            | .inr j6 =>
              (f_S_l5Shown j6.2.2.2.2.2.1 j6.2.2.2.2.1.2.1).bind fun r7 =>
                bif decide (j6.2.2.2.1.length + r7.1.1.length ≤ 1099511627776) then
                  some (j6.1, j6.2.1, j6.2.2.1, (j6.2.2.2.1 ++ r7.1.1), j6.2.2.2.2.2.2.1, j6.2.2.2.2.2.2.2.1, j6.2.2.2.2.2.2.2.2.1, ())
                else
                  none
        else
          none : Option ((PV .bool × PV S_bool × PV S_bool × PV .str × PV S_impl_Row × PV (.int .i64) × PV (.int .i64) × Unit)))).bind fun j8 =>
      some (.inl (j8.1, j8.2.1, j8.2.2.1, j8.2.2.2.1, j8.2.2.2.2.1, j8.2.2.2.2.2.1, (IntKind.wrap .i64 (j8.2.2.2.2.2.2.1 + 1)), ()))
  else
    some (.inr (t7, ()))
noncomputable def w_S_l8Half_4 : PV .bool × PV S_bool × PV S_bool × PV .str × PV S_impl_Row × PV (.int .i64) × PV (.int .i64) × Unit → Option ((PV .str × Unit)) := fix fun d => b_S_l8Half_4 d.1 d.2.1 d.2.2.1 d.2.2.2.1 d.2.2.2.2.1 d.2.2.2.2.2.1 d.2.2.2.2.2.2.1
noncomputable def lp_S_l8Half_4 : Lp := ⟨⟨[], [1, 5, 6, 7, 17, 18, 19, 29, 30, 33, 34, 35, 36, 37, 38, 45, 46, 47, 48, 51, 52, 53, 54]⟩, sh_S_l8Half_4, o_S_l8Half_4, fun d => b_S_l8Half_4 d.1 d.2.1 d.2.2.1 d.2.2.2.1 d.2.2.2.2.1 d.2.2.2.2.2.1 d.2.2.2.2.2.2.1⟩
noncomputable def pl_S_l8Half : Plan := ⟨[(8, o_S_l8Half_8), (9, o_S_l8Half_9), (14, o_S_l8Half_14), (15, o_S_l8Half_15)], [(4, lp_S_l8Half_4)], 0, 0⟩
noncomputable def f_S_l8Half (t0 : PV Y_impl_Group) (t1 : PV .bool) : Option (PVs [.str] × PVs []) :=
  (f_S_l8Runs t0).bind fun r2 =>
    (w_S_l8Half_4 (t1, r2.1.1, r2.1.2.1, [], t0.2.2.1, (t0.2.2.1.length : Int), 0, ())).bind fun l10 =>
      some ((l10.1, ()), ())
noncomputable def ct_S_l8Half : Ct := ⟨[(.bor, Y_impl_Group), (.bor, .bool)], [(.str, false)], fun x => f_S_l8Half x.1 x.2.1⟩
noncomputable def cx_S_l8Half : Cx := ⟨tab, arrs, [(126, ct_S_l8Runs), (127, ct_S_l5Shown)], []⟩
theorem eb_S_l8Half_4 (t1 : PV .bool) (t5 : PV S_bool) (t6 : PV S_bool) (t7 : PV .str) (t17 : PV S_impl_Row) (t18 : PV (.int .i64)) (t19 : PV (.int .i64)) : denK cx_S_l8Half (rcN cx_S_l8Half 0) pl_S_l8Half 0 ((loopsOf (bodyOf Try.f89)).getD 0 .skip) (fillS sh_S_l8Half_4 (t1, t5, t6, t7, t17, t18, t19, ())) (roundK 0 lp_S_l8Half_4) = b_S_l8Half_4 t1 t5 t6 t7 t17 t18 t19 := by kernel_rfl
theorem ef_S_l8Half (t0 : PV Y_impl_Group) (t1 : PV .bool) : denF cx_S_l8Half 0 pl_S_l8Half Try.f89.ntmps (bodyOf Try.f89) Try.f89.results.toList [(.bor, Y_impl_Group), (.bor, .bool)] [(.str, false)] (t0, t1, ()) = f_S_l8Half t0 t1 := by kernel_rfl
theorem ok_S_l8Half : FnOk Try.prog 89 ct_S_l8Half :=
  fnOk (cx := cx_S_l8Half) (pl := pl_S_l8Half) (dp := 0) (ok0_of tabOk (by unfold ArrOk; kernel_rfl) mix ⟨ok_S_l8Runs, ok_S_l5Shown, trivial⟩ trivial) Try.func89 (by kernel_rfl) (by kernel_rfl) (by kernel_rfl)
    (by rw [show loopsOf (bodyOf Try.f89) = [((loopsOf (bodyOf Try.f89)).getD 0 .skip)] from by kernel_rfl]; exact ⟨(by rw [show lookup pl_S_l8Half.loops (firstId ((loopsOf (bodyOf Try.f89)).getD 0 .skip)) = some lp_S_l8Half_4 from by kernel_rfl]; exact fun d z h => (eb_S_l8Half_4 d.1 d.2.1 d.2.2.1 d.2.2.2.1 d.2.2.2.2.1 d.2.2.2.2.2.1 d.2.2.2.2.2.2.1).trans h), trivial⟩) (fun x => ef_S_l8Half x.1 x.2.1)
noncomputable def pl_S_HalfText : Plan := ⟨[], [], 0, 0⟩
noncomputable def f_S_HalfText (t0 : PV Y_impl_Group) (t1 : PV .bool) : Option (PVs [.str, .bool] × PVs []) :=
  (f_S_l6Group t0).bind fun r4 =>
    bif (!r4.1.1) then
      some (([], false, ()), ())
    else
      (f_S_l8Half t0 t1).bind fun r5 =>
        some ((r5.1.1, true, ()), ())
noncomputable def ct_S_HalfText : Ct := ⟨[(.bor, Y_impl_Group), (.bor, .bool)], [(.str, false), (.bool, false)], fun x => f_S_HalfText x.1 x.2.1⟩
noncomputable def cx_S_HalfText : Cx := ⟨tab, arrs, [(88, ct_S_l6Group), (89, ct_S_l8Half)], []⟩
theorem ef_S_HalfText (t0 : PV Y_impl_Group) (t1 : PV .bool) : denF cx_S_HalfText 0 pl_S_HalfText Try.f44.ntmps (bodyOf Try.f44) Try.f44.results.toList [(.bor, Y_impl_Group), (.bor, .bool)] [(.str, false), (.bool, false)] (t0, t1, ()) = f_S_HalfText t0 t1 := by kernel_rfl
theorem ok_S_HalfText : FnOk Try.prog 44 ct_S_HalfText :=
  fnOk (cx := cx_S_HalfText) (pl := pl_S_HalfText) (dp := 0) (ok0_of tabOk (by unfold ArrOk; kernel_rfl) mix ⟨ok_S_l6Group, ok_S_l8Half, trivial⟩ trivial) Try.func44 (by kernel_rfl) (by kernel_rfl) (by kernel_rfl)
    (by rw [show loopsOf (bodyOf Try.f44) = [] from by kernel_rfl]; exact trivial) (fun x => ef_S_HalfText x.1 x.2.1)
noncomputable def pl_I_in : Plan := ⟨[], [], 0, 0⟩
noncomputable def f_I_in (t0 : PV (.int .i64)) (t1 : PV (.int .i64)) (t2 : PV (.int .i64)) : Option (PVs [.bool] × PVs []) :=
  bif (decide (t0 ≥ t1)) then
    some (((decide (t0 ≤ t2)), ()), ())
  else
    some ((false, ()), ())
noncomputable def ct_I_in : Ct := ⟨[(.bor, (.int .i64)), (.bor, (.int .i64)), (.bor, (.int .i64))], [(.bool, false)], fun x => f_I_in x.1 x.2.1 x.2.2.1⟩
noncomputable def cx_I_in : Cx := ⟨tab, arrs, [], []⟩
theorem ef_I_in (t0 : PV (.int .i64)) (t1 : PV (.int .i64)) (t2 : PV (.int .i64)) : denF cx_I_in 0 pl_I_in Try.f101.ntmps (bodyOf Try.f101) Try.f101.results.toList [(.bor, (.int .i64)), (.bor, (.int .i64)), (.bor, (.int .i64))] [(.bool, false)] (t0, t1, t2, ()) = f_I_in t0 t1 t2 := by kernel_rfl
theorem ok_I_in : FnOk Try.prog 101 ct_I_in :=
  fnOk (cx := cx_I_in) (pl := pl_I_in) (dp := 0) (ok0_of tabOk (by unfold ArrOk; kernel_rfl) mix trivial trivial) Try.func101 (by kernel_rfl) (by kernel_rfl) (by kernel_rfl)
    (by rw [show loopsOf (bodyOf Try.f101) = [] from by kernel_rfl]; exact trivial) (fun x => ef_I_in x.1 x.2.1 x.2.2.1)
noncomputable def pl_I_isLine : Plan := ⟨[], [], 0, 0⟩
noncomputable def f_I_isLine (t0 : PV .str) : Option (PVs [.bool] × PVs []) :=
  (f_I_in (t0.length : Int) 1 30).bind fun r1 =>
    bif r1.1.1 then
      bif cutB 0 (IntKind.wrap .i64 ((t0.length : Int) - 1)) t0.length then
        (f_strings_Contains (cutL 0 (IntKind.wrap .i64 ((t0.length : Int) - 1)) t0) [10]).bind fun r2 =>
          some (((!r2.1.1), ()), ())
      else
        none
    else
      some ((false, ()), ())
noncomputable def ct_I_isLine : Ct := ⟨[(.bor, .str)], [(.bool, false)], fun x => f_I_isLine x.1⟩
noncomputable def cx_I_isLine : Cx := ⟨tab, arrs, [(101, ct_I_in), (155, ct_strings_Contains)], []⟩
theorem ef_I_isLine (t0 : PV .str) : denF cx_I_isLine 0 pl_I_isLine Try.f129.ntmps (bodyOf Try.f129) Try.f129.results.toList [(.bor, .str)] [(.bool, false)] (t0, ()) = f_I_isLine t0 := by kernel_rfl
theorem ok_I_isLine : FnOk Try.prog 129 ct_I_isLine :=
  fnOk (cx := cx_I_isLine) (pl := pl_I_isLine) (dp := 0) (ok0_of tabOk (by unfold ArrOk; kernel_rfl) mix ⟨ok_I_in, ok_strings_Contains, trivial⟩ trivial) Try.func129 (by kernel_rfl) (by kernel_rfl) (by kernel_rfl)
    (by rw [show loopsOf (bodyOf Try.f129) = [] from by kernel_rfl]; exact trivial) (fun x => ef_I_isLine x.1)
noncomputable def o_I_sideOf_7 : List Out := [⟨.normal, ⟨[], [1, 5, 9, 10, 11]⟩, mkSh 26 [(1, .val (.int .i64) .b), (5, .val S_string (.row .b)), (9, .val S_impl_Row .b), (10, .val (.int .i64) .b), (11, .val (.int .i64) .b)]⟩]
noncomputable def sh_I_sideOf_3 : List Sh := mkSh 26 [(1, .val (.int .i64) .b), (5, .val S_string (.row .b)), (9, .val S_impl_Row .b), (10, .val (.int .i64) .b), (11, .val (.int .i64) .b)]
noncomputable def o_I_sideOf_3 : List Out := [⟨.exit 0, ⟨[], [5]⟩, mkSh 26 [(5, .val S_string (.row .b))]⟩]
noncomputable def b_I_sideOf_3 (t1 : PV (.int .i64)) (t5 : PV S_string) (t9 : PV S_impl_Row) (t10 : PV (.int .i64)) (t11 : PV (.int .i64)) : Option ((PV (.int .i64) × PV S_string × PV S_impl_Row × PV (.int .i64) × PV (.int .i64) × Unit) ⊕ ((PV S_string × Unit))) :=
  bif (decide (t11 < t10)) then
    ((
        bif inB t11 t9.length then
          bif (!(((t9.getD t11.toNat (dflt Y_impl_Row)).1) == t1)) then
            bif roomB (t5.length + [((t9.getD t11.toNat (dflt Y_impl_Row)).2).1].length) then
              some (t1, (t5 ++ [((t9.getD t11.toNat (dflt Y_impl_Row)).2).1]), t9, t10, t11, ())
            else
              none
          else
            some (t1, t5, t9, t10, t11, ())
        else
          none : Option ((PV (.int .i64) × PV S_string × PV S_impl_Row × PV (.int .i64) × PV (.int .i64) × Unit)))).bind fun j1 =>
      some (.inl (j1.1, j1.2.1, j1.2.2.1, j1.2.2.2.1, (IntKind.wrap .i64 (j1.2.2.2.2.1 + 1)), ()))
  else
    some (.inr (t5, ()))
noncomputable def w_I_sideOf_3 : PV (.int .i64) × PV S_string × PV S_impl_Row × PV (.int .i64) × PV (.int .i64) × Unit → Option ((PV S_string × Unit)) := fix fun d => b_I_sideOf_3 d.1 d.2.1 d.2.2.1 d.2.2.2.1 d.2.2.2.2.1
noncomputable def lp_I_sideOf_3 : Lp := ⟨⟨[], [1, 5, 9, 10, 11]⟩, sh_I_sideOf_3, o_I_sideOf_3, fun d => b_I_sideOf_3 d.1 d.2.1 d.2.2.1 d.2.2.2.1 d.2.2.2.2.1⟩
noncomputable def pl_I_sideOf : Plan := ⟨[(7, o_I_sideOf_7)], [(3, lp_I_sideOf_3)], 0, 0⟩
noncomputable def f_I_sideOf (t0 : PV S_impl_Row) (t1 : PV (.int .i64)) : Option (PVs [S_string] × PVs []) :=
  (w_I_sideOf_3 (t1, ([] : PV S_string), t0, (t0.length : Int), 0, ())).bind fun l3 =>
    some ((l3.1, ()), ())
noncomputable def ct_I_sideOf : Ct := ⟨[(.bor, S_impl_Row), (.bor, (.int .i64))], [(S_string, true)], fun x => f_I_sideOf x.1 x.2.1⟩
noncomputable def cx_I_sideOf : Cx := ⟨tab, arrs, [], []⟩
theorem eb_I_sideOf_3 (t1 : PV (.int .i64)) (t5 : PV S_string) (t9 : PV S_impl_Row) (t10 : PV (.int .i64)) (t11 : PV (.int .i64)) : denK cx_I_sideOf (rcN cx_I_sideOf 0) pl_I_sideOf 0 ((loopsOf (bodyOf Try.f156)).getD 0 .skip) (fillS sh_I_sideOf_3 (t1, t5, t9, t10, t11, ())) (roundK 0 lp_I_sideOf_3) = b_I_sideOf_3 t1 t5 t9 t10 t11 := by kernel_rfl
theorem ef_I_sideOf (t0 : PV S_impl_Row) (t1 : PV (.int .i64)) : denF cx_I_sideOf 0 pl_I_sideOf Try.f156.ntmps (bodyOf Try.f156) Try.f156.results.toList [(.bor, S_impl_Row), (.bor, (.int .i64))] [(S_string, true)] (t0, t1, ()) = f_I_sideOf t0 t1 := by kernel_rfl
theorem ok_I_sideOf : FnOk Try.prog 156 ct_I_sideOf :=
  fnOk (cx := cx_I_sideOf) (pl := pl_I_sideOf) (dp := 0) (ok0_of tabOk (by unfold ArrOk; kernel_rfl) mix trivial trivial) Try.func156 (by kernel_rfl) (by kernel_rfl) (by kernel_rfl)
    (by rw [show loopsOf (bodyOf Try.f156) = [((loopsOf (bodyOf Try.f156)).getD 0 .skip)] from by kernel_rfl]; exact ⟨(by rw [show lookup pl_I_sideOf.loops (firstId ((loopsOf (bodyOf Try.f156)).getD 0 .skip)) = some lp_I_sideOf_3 from by kernel_rfl]; exact fun d z h => (eb_I_sideOf_3 d.1 d.2.1 d.2.2.1 d.2.2.2.1 d.2.2.2.2.1).trans h), trivial⟩) (fun x => ef_I_sideOf x.1 x.2.1)
noncomputable def pl_I_Group_old : Plan := ⟨[], [], 0, 0⟩
noncomputable def f_I_Group_old (t0 : PV Y_impl_Group) : Option (PVs [S_string] × PVs []) :=
  (f_I_sideOf t0.2.2.1 3).bind fun r1 =>
    some ((r1.1.1, ()), ())
noncomputable def ct_I_Group_old : Ct := ⟨[(.bor, Y_impl_Group)], [(S_string, true)], fun x => f_I_Group_old x.1⟩
noncomputable def cx_I_Group_old : Cx := ⟨tab, arrs, [(156, ct_I_sideOf)], []⟩
theorem ef_I_Group_old (t0 : PV Y_impl_Group) : denF cx_I_Group_old 0 pl_I_Group_old Try.f130.ntmps (bodyOf Try.f130) Try.f130.results.toList [(.bor, Y_impl_Group)] [(S_string, true)] (t0, ()) = f_I_Group_old t0 := by kernel_rfl
theorem ok_I_Group_old : FnOk Try.prog 130 ct_I_Group_old :=
  fnOk (cx := cx_I_Group_old) (pl := pl_I_Group_old) (dp := 0) (ok0_of tabOk (by unfold ArrOk; kernel_rfl) mix ⟨ok_I_sideOf, trivial⟩ trivial) Try.func130 (by kernel_rfl) (by kernel_rfl) (by kernel_rfl)
    (by rw [show loopsOf (bodyOf Try.f130) = [] from by kernel_rfl]; exact trivial) (fun x => ef_I_Group_old x.1)
noncomputable def pl_I_Group_fresh : Plan := ⟨[], [], 0, 0⟩
noncomputable def f_I_Group_fresh (t0 : PV Y_impl_Group) : Option (PVs [S_string] × PVs []) :=
  (f_I_sideOf t0.2.2.1 2).bind fun r1 =>
    some ((r1.1.1, ()), ())
noncomputable def ct_I_Group_fresh : Ct := ⟨[(.bor, Y_impl_Group)], [(S_string, true)], fun x => f_I_Group_fresh x.1⟩
noncomputable def cx_I_Group_fresh : Cx := ⟨tab, arrs, [(156, ct_I_sideOf)], []⟩
theorem ef_I_Group_fresh (t0 : PV Y_impl_Group) : denF cx_I_Group_fresh 0 pl_I_Group_fresh Try.f131.ntmps (bodyOf Try.f131) Try.f131.results.toList [(.bor, Y_impl_Group)] [(S_string, true)] (t0, ()) = f_I_Group_fresh t0 := by kernel_rfl
theorem ok_I_Group_fresh : FnOk Try.prog 131 ct_I_Group_fresh :=
  fnOk (cx := cx_I_Group_fresh) (pl := pl_I_Group_fresh) (dp := 0) (ok0_of tabOk (by unfold ArrOk; kernel_rfl) mix ⟨ok_I_sideOf, trivial⟩ trivial) Try.func131 (by kernel_rfl) (by kernel_rfl) (by kernel_rfl)
    (by rw [show loopsOf (bodyOf Try.f131) = [] from by kernel_rfl]; exact trivial) (fun x => ef_I_Group_fresh x.1)
noncomputable def pl_I_areLines_1 : Plan := ⟨[], [], 0, 0⟩
noncomputable def f_I_areLines_1 (t0 : PV .str) : Option (PVs [.bool] × PVs []) :=
  (f_I_isLine t0).bind fun r1 =>
    some (((!r1.1.1), ()), ())
noncomputable def ct_I_areLines_1 : Ct := ⟨[(.bor, .str)], [(.bool, false)], fun x => f_I_areLines_1 x.1⟩
noncomputable def cx_I_areLines_1 : Cx := ⟨tab, arrs, [(129, ct_I_isLine)], []⟩
theorem ef_I_areLines_1 (t0 : PV .str) : denF cx_I_areLines_1 0 pl_I_areLines_1 Try.f151.ntmps (bodyOf Try.f151) Try.f151.results.toList [(.bor, .str)] [(.bool, false)] (t0, ()) = f_I_areLines_1 t0 := by kernel_rfl
theorem ok_I_areLines_1 : FnOk Try.prog 151 ct_I_areLines_1 :=
  fnOk (cx := cx_I_areLines_1) (pl := pl_I_areLines_1) (dp := 0) (ok0_of tabOk (by unfold ArrOk; kernel_rfl) mix ⟨ok_I_isLine, trivial⟩ trivial) Try.func151 (by kernel_rfl) (by kernel_rfl) (by kernel_rfl)
    (by rw [show loopsOf (bodyOf Try.f151) = [] from by kernel_rfl]; exact trivial) (fun x => ef_I_areLines_1 x.1)
noncomputable def pl_I_areLines_148 : Plan := ⟨[], [], 1, 11⟩
noncomputable def sh_I_areLines_169_2 : List Sh := mkSh 39 [(0, .val S_string .b), (2, .val .bool .b), (3, .val S_string .b), (4, .val (.int .i64) .b), (5, .val .bool .b), (6, .val .bool .b), (7, .val S_string .b), (11, .val S_string .b), (12, .fn 151 []), (15, .val .bool .b), (16, .val S_string .b), (17, .fn 151 []), (20, .val S_string .b), (21, .fn 151 []), (27, .val (.int .i64) .b), (28, .val (.int .i64) .b)]
noncomputable def o_I_areLines_169_2 : List Out := [⟨.exit 0, ⟨[], []⟩, mkSh 39 [(0, .val S_string .b), (2, .val .bool .b), (3, .val S_string .b), (4, .val (.int .i64) .b), (5, .val .bool .b), (6, .val .bool .b), (7, .val S_string .b), (11, .val S_string .b), (12, .fn 151 []), (15, .val .bool .b), (16, .val S_string .b), (17, .fn 151 [])]⟩, ⟨.ret, ⟨[], [4]⟩, mkSh 39 [(0, .val S_string .b), (2, .val .bool .b), (3, .val S_string .b), (4, .val (.int .i64) .b), (5, .val .bool .b), (6, .val .bool .b), (7, .val S_string .b), (11, .val S_string .b), (12, .fn 151 []), (15, .val .bool .b), (16, .val S_string .b), (17, .fn 151 []), (24, .val (.int .i64) .b)]⟩]
noncomputable def b_I_areLines_169_2 (t0 : PV S_string) (t2 : PV .bool) (t3 : PV S_string) (t4 : PV (.int .i64)) (t5 : PV .bool) (t6 : PV .bool) (t7 : PV S_string) (t11 : PV S_string) (t15 : PV .bool) (t16 : PV S_string) (t20 : PV S_string) (t27 : PV (.int .i64)) (t28 : PV (.int .i64)) : Option ((PV S_string × PV .bool × PV S_string × PV (.int .i64) × PV .bool × PV .bool × PV S_string × PV S_string × PV .bool × PV S_string × PV S_string × PV (.int .i64) × PV (.int .i64) × Unit) ⊕ ((PV S_string × PV .bool × PV S_string × PV (.int .i64) × PV .bool × PV .bool × PV S_string × PV S_string × PV .bool × PV S_string × Unit) ⊕ (PV S_string × PV .bool × PV S_string × PV (.int .i64) × PV .bool × PV .bool × PV S_string × PV S_string × PV .bool × PV S_string × PV (.int .i64) × Unit))) :=
  bif (decide (t28 < t27)) then
    bif inB t28 t20.length then
      (f_I_areLines_1 (t20.getD t28.toNat [])).bind fun r4 =>
        bif r4.1.1 then
          some (.inr (.inr (t0, t2, t3, t4, t5, t6, t7, t11, t15, t16, t28, ())))
        else
          some (.inl (t0, t2, t3, t4, t5, t6, t7, t11, t15, t16, t20, t27, (IntKind.wrap .i64 (t28 + 1)), ()))
    else
      none
  else
    some (.inr (.inl (t0, t2, t3, t4, t5, t6, t7, t11, t15, t16, ())))
noncomputable def w_I_areLines_169_2 : PV S_string × PV .bool × PV S_string × PV (.int .i64) × PV .bool × PV .bool × PV S_string × PV S_string × PV .bool × PV S_string × PV S_string × PV (.int .i64) × PV (.int .i64) × Unit → Option ((PV S_string × PV .bool × PV S_string × PV (.int .i64) × PV .bool × PV .bool × PV S_string × PV S_string × PV .bool × PV S_string × Unit) ⊕ (PV S_string × PV .bool × PV S_string × PV (.int .i64) × PV .bool × PV .bool × PV S_string × PV S_string × PV .bool × PV S_string × PV (.int .i64) × Unit)) := fix fun d => b_I_areLines_169_2 d.1 d.2.1 d.2.2.1 d.2.2.2.1 d.2.2.2.2.1 d.2.2.2.2.2.1 d.2.2.2.2.2.2.1 d.2.2.2.2.2.2.2.1 d.2.2.2.2.2.2.2.2.1 d.2.2.2.2.2.2.2.2.2.1 d.2.2.2.2.2.2.2.2.2.2.1 d.2.2.2.2.2.2.2.2.2.2.2.1 d.2.2.2.2.2.2.2.2.2.2.2.2.1
noncomputable def lp_I_areLines_169_2 : Lp := ⟨⟨[], [0, 1, 7, 8]⟩, sh_I_areLines_169_2, o_I_areLines_169_2, fun d => b_I_areLines_169_2 d.1 d.2.1 d.2.2.1 d.2.2.2.1 d.2.2.2.2.1 d.2.2.2.2.2.1 d.2.2.2.2.2.2.1 d.2.2.2.2.2.2.2.1 d.2.2.2.2.2.2.2.2.1 d.2.2.2.2.2.2.2.2.2.1 d.2.2.2.2.2.2.2.2.2.2.1 d.2.2.2.2.2.2.2.2.2.2.2.1 d.2.2.2.2.2.2.2.2.2.2.2.2.1⟩
noncomputable def pl_I_areLines_169 : Plan := ⟨[], [(2, lp_I_areLines_169_2)], 0, 20⟩
noncomputable def pl_I_areLines : Plan := ⟨[], [], 2, 0⟩
noncomputable def f_I_areLines (t0 : PV S_string) : Option (PVs [.bool] × PVs []) :=
  bif (decide ((t0.length : Int) ≤ 40)) then
    (w_I_areLines_169_2 (t0, false, t0, (t0.length : Int), (decide ((t0.length : Int) ≤ 40)), true, t0, t0, false, t0, t0, (t0.length : Int), 0, ())).bind fun x9 =>
      match x9 with
      | .inl l7 =>
        bif l7.2.2.2.2.2.1 then
          some (((!(decide ((-1) ≥ 0))), ()), ())
        else
          some ((false, ()), ())
      | .inr l8 =>
        bif l8.2.2.2.2.2.1 then
          some (((!(decide (l8.2.2.2.2.2.2.2.2.2.2.1 ≥ 0))), ()), ())
        else
          some ((false, ()), ())
  else
    some ((false, ()), ())
noncomputable def ct_I_areLines : Ct := ⟨[(.bor, S_string)], [(.bool, false)], fun x => f_I_areLines x.1⟩
noncomputable def cx_I_areLines : Cx := ⟨tab, arrs, [(151, ct_I_areLines_1)], [(148, Try.f148, pl_I_areLines_148), (169, Try.f169, pl_I_areLines_169)]⟩
theorem eb_I_areLines_169_2 (t0 : PV S_string) (t2 : PV .bool) (t3 : PV S_string) (t4 : PV (.int .i64)) (t5 : PV .bool) (t6 : PV .bool) (t7 : PV S_string) (t11 : PV S_string) (t15 : PV .bool) (t16 : PV S_string) (t20 : PV S_string) (t27 : PV (.int .i64)) (t28 : PV (.int .i64)) : denK cx_I_areLines (rcN cx_I_areLines 0) pl_I_areLines_169 20 ((loopsOf (bodyOf Try.f169)).getD 0 .skip) (fillS sh_I_areLines_169_2 (t0, t2, t3, t4, t5, t6, t7, t11, t15, t16, t20, t27, t28, ())) (roundK 20 lp_I_areLines_169_2) = b_I_areLines_169_2 t0 t2 t3 t4 t5 t6 t7 t11 t15 t16 t20 t27 t28 := by kernel_rfl
theorem ef_I_areLines (t0 : PV S_string) : denF cx_I_areLines 2 pl_I_areLines Try.f117.ntmps (bodyOf Try.f117) Try.f117.results.toList [(.bor, S_string)] [(.bool, false)] (t0, ()) = f_I_areLines t0 := by kernel_rfl
theorem ok_I_areLines : FnOk Try.prog 117 ct_I_areLines :=
  fnOk (cx := cx_I_areLines) (pl := pl_I_areLines) (dp := 2) (ok0_of tabOk (by unfold ArrOk; kernel_rfl) mix ⟨ok_I_areLines_1, trivial⟩ ⟨⟨Try.func148, by kernel_rfl, (by rw [show loopsOf (bodyOf Try.f148) = [] from by kernel_rfl]; exact trivial)⟩, ⟨Try.func169, by kernel_rfl, (by rw [show loopsOf (bodyOf Try.f169) = [((loopsOf (bodyOf Try.f169)).getD 0 .skip)] from by kernel_rfl]; exact ⟨(by rw [show lookup pl_I_areLines_169.loops (firstId ((loopsOf (bodyOf Try.f169)).getD 0 .skip)) = some lp_I_areLines_169_2 from by kernel_rfl]; exact fun d z h => (eb_I_areLines_169_2 d.1 d.2.1 d.2.2.1 d.2.2.2.1 d.2.2.2.2.1 d.2.2.2.2.2.1 d.2.2.2.2.2.2.1 d.2.2.2.2.2.2.2.1 d.2.2.2.2.2.2.2.2.1 d.2.2.2.2.2.2.2.2.2.1 d.2.2.2.2.2.2.2.2.2.2.1 d.2.2.2.2.2.2.2.2.2.2.2.1 d.2.2.2.2.2.2.2.2.2.2.2.2.1).trans h), trivial⟩)⟩, trivial⟩) Try.func117 (by kernel_rfl) (by kernel_rfl) (by kernel_rfl)
    (by rw [show loopsOf (bodyOf Try.f117) = [] from by kernel_rfl]; exact trivial) (fun x => ef_I_areLines x.1)
noncomputable def pl_internal_stringslite_HasSuffix : Plan := ⟨[], [], 0, 0⟩
noncomputable def f_internal_stringslite_HasSuffix (t0 : PV .str) (t1 : PV .str) : Option (PVs [.bool] × PVs []) :=
  bif (decide ((t0.length : Int) ≥ (t1.length : Int))) then
    bif cutB (IntKind.wrap .i64 ((t0.length : Int) - (t1.length : Int))) (t0.length : Int) t0.length then
      some ((((cutL (IntKind.wrap .i64 ((t0.length : Int) - (t1.length : Int))) (t0.length : Int) t0) == t1), ()), ())
    else
      none
  else
    some ((false, ()), ())
noncomputable def ct_internal_stringslite_HasSuffix : Ct := ⟨[(.bor, .str), (.bor, .str)], [(.bool, false)], fun x => f_internal_stringslite_HasSuffix x.1 x.2.1⟩
noncomputable def cx_internal_stringslite_HasSuffix : Cx := ⟨tab, arrs, [], []⟩
theorem ef_internal_stringslite_HasSuffix (t0 : PV .str) (t1 : PV .str) : denF cx_internal_stringslite_HasSuffix 0 pl_internal_stringslite_HasSuffix Try.f173.ntmps (bodyOf Try.f173) Try.f173.results.toList [(.bor, .str), (.bor, .str)] [(.bool, false)] (t0, t1, ()) = f_internal_stringslite_HasSuffix t0 t1 := by kernel_rfl
theorem ok_internal_stringslite_HasSuffix : FnOk Try.prog 173 ct_internal_stringslite_HasSuffix :=
  fnOk (cx := cx_internal_stringslite_HasSuffix) (pl := pl_internal_stringslite_HasSuffix) (dp := 0) (ok0_of tabOk (by unfold ArrOk; kernel_rfl) mix trivial trivial) Try.func173 (by kernel_rfl) (by kernel_rfl) (by kernel_rfl)
    (by rw [show loopsOf (bodyOf Try.f173) = [] from by kernel_rfl]; exact trivial) (fun x => ef_internal_stringslite_HasSuffix x.1 x.2.1)
noncomputable def pl_strings_HasSuffix : Plan := ⟨[], [], 0, 0⟩
noncomputable def f_strings_HasSuffix (t0 : PV .str) (t1 : PV .str) : Option (PVs [.bool] × PVs []) :=
  (f_internal_stringslite_HasSuffix t0 t1).bind fun r1 =>
    some ((r1.1.1, ()), ())
noncomputable def ct_strings_HasSuffix : Ct := ⟨[(.bor, .str), (.bor, .str)], [(.bool, false)], fun x => f_strings_HasSuffix x.1 x.2.1⟩
noncomputable def cx_strings_HasSuffix : Cx := ⟨tab, arrs, [(173, ct_internal_stringslite_HasSuffix)], []⟩
theorem ef_strings_HasSuffix (t0 : PV .str) (t1 : PV .str) : denF cx_strings_HasSuffix 0 pl_strings_HasSuffix Try.f166.ntmps (bodyOf Try.f166) Try.f166.results.toList [(.bor, .str), (.bor, .str)] [(.bool, false)] (t0, t1, ()) = f_strings_HasSuffix t0 t1 := by kernel_rfl
theorem ok_strings_HasSuffix : FnOk Try.prog 166 ct_strings_HasSuffix :=
  fnOk (cx := cx_strings_HasSuffix) (pl := pl_strings_HasSuffix) (dp := 0) (ok0_of tabOk (by unfold ArrOk; kernel_rfl) mix ⟨ok_internal_stringslite_HasSuffix, trivial⟩ trivial) Try.func166 (by kernel_rfl) (by kernel_rfl) (by kernel_rfl)
    (by rw [show loopsOf (bodyOf Try.f166) = [] from by kernel_rfl]; exact trivial) (fun x => ef_strings_HasSuffix x.1 x.2.1)
noncomputable def pl_I_isEnded : Plan := ⟨[], [], 0, 0⟩
noncomputable def f_I_isEnded (t0 : PV .str) : Option (PVs [.bool] × PVs []) :=
  (f_strings_HasSuffix t0 [10]).bind fun r1 =>
    some ((r1.1.1, ()), ())
noncomputable def ct_I_isEnded : Ct := ⟨[(.bor, .str)], [(.bool, false)], fun x => f_I_isEnded x.1⟩
noncomputable def cx_I_isEnded : Cx := ⟨tab, arrs, [(166, ct_strings_HasSuffix)], []⟩
theorem ef_I_isEnded (t0 : PV .str) : denF cx_I_isEnded 0 pl_I_isEnded Try.f142.ntmps (bodyOf Try.f142) Try.f142.results.toList [(.bor, .str)] [(.bool, false)] (t0, ()) = f_I_isEnded t0 := by kernel_rfl
theorem ok_I_isEnded : FnOk Try.prog 142 ct_I_isEnded :=
  fnOk (cx := cx_I_isEnded) (pl := pl_I_isEnded) (dp := 0) (ok0_of tabOk (by unfold ArrOk; kernel_rfl) mix ⟨ok_strings_HasSuffix, trivial⟩ trivial) Try.func142 (by kernel_rfl) (by kernel_rfl) (by kernel_rfl)
    (by rw [show loopsOf (bodyOf Try.f142) = [] from by kernel_rfl]; exact trivial) (fun x => ef_I_isEnded x.1)
noncomputable def o_I_goodLines_7 : List Out := [⟨.normal, ⟨[], [0, 8, 9, 10, 24]⟩, mkSh 26 [(0, .val S_string .b), (8, .val S_string .b), (9, .val (.int .i64) .b), (10, .val (.int .i64) .b), (24, .val .bool .b)]⟩]
noncomputable def sh_I_goodLines_4 : List Sh := mkSh 26 [(0, .val S_string .b), (8, .val S_string .b), (9, .val (.int .i64) .b), (10, .val (.int .i64) .b)]
noncomputable def o_I_goodLines_4 : List Out := [⟨.exit 0, ⟨[], []⟩, mkSh 26 []⟩, ⟨.ret, ⟨[], [2]⟩, mkSh 26 [(2, .val .bool .b)]⟩]
noncomputable def b_I_goodLines_4 (t0 : PV S_string) (t8 : PV S_string) (t9 : PV (.int .i64)) (t10 : PV (.int .i64)) : Option ((PV S_string × PV S_string × PV (.int .i64) × PV (.int .i64) × Unit) ⊕ ((Unit) ⊕ (PV .bool × Unit))) :=
  bif (decide (t10 < t9)) then
    bif inB t10 t8.length then
      ((
          bif (decide (t10 < (IntKind.wrap .i64 ((t0.length : Int) - 1)))) then
            (f_I_isEnded (t8.getD t10.toNat [])).bind fun r7 =>
              some (t0, t8, t9, t10, (!r7.1.1), ())
          else
            some (t0, t8, t9, t10, false, ()) : Option ((PV S_string × PV S_string × PV (.int .i64) × PV (.int .i64) × PV .bool × Unit)))).bind fun j8 =>
        bif j8.2.2.2.2.1 then
          some (.inr (.inr (false, ())))
        else
          some (.inl (j8.1, j8.2.1, j8.2.2.1, (IntKind.wrap .i64 (j8.2.2.2.1 + 1)), ()))
    else
      none
  else
    some (.inr (.inl ()))
noncomputable def w_I_goodLines_4 : PV S_string × PV S_string × PV (.int .i64) × PV (.int .i64) × Unit → Option ((Unit) ⊕ (PV .bool × Unit)) := fix fun d => b_I_goodLines_4 d.1 d.2.1 d.2.2.1 d.2.2.2.1
noncomputable def lp_I_goodLines_4 : Lp := ⟨⟨[], [0, 8, 9, 10, 21, 22, 23]⟩, sh_I_goodLines_4, o_I_goodLines_4, fun d => b_I_goodLines_4 d.1 d.2.1 d.2.2.1 d.2.2.2.1⟩
noncomputable def pl_I_goodLines : Plan := ⟨[(7, o_I_goodLines_7)], [(4, lp_I_goodLines_4)], 0, 0⟩
noncomputable def f_I_goodLines (t0 : PV S_string) : Option (PVs [.bool] × PVs []) :=
  (f_I_areLines t0).bind fun r4 =>
    bif (!r4.1.1) then
      some ((false, ()), ())
    else
      (w_I_goodLines_4 (t0, t0, (t0.length : Int), 0, ())).bind fun x13 =>
        match x13 with
        | .inl l11 =>
          some ((true, ()), ())
        | .inr l12 =>
          some ((l12.1, ()), ())
noncomputable def ct_I_goodLines : Ct := ⟨[(.bor, S_string)], [(.bool, false)], fun x => f_I_goodLines x.1⟩
noncomputable def cx_I_goodLines : Cx := ⟨tab, arrs, [(117, ct_I_areLines), (142, ct_I_isEnded)], []⟩
theorem eb_I_goodLines_4 (t0 : PV S_string) (t8 : PV S_string) (t9 : PV (.int .i64)) (t10 : PV (.int .i64)) : denK cx_I_goodLines (rcN cx_I_goodLines 0) pl_I_goodLines 0 ((loopsOf (bodyOf Try.f102)).getD 0 .skip) (fillS sh_I_goodLines_4 (t0, t8, t9, t10, ())) (roundK 0 lp_I_goodLines_4) = b_I_goodLines_4 t0 t8 t9 t10 := by kernel_rfl
theorem ef_I_goodLines (t0 : PV S_string) : denF cx_I_goodLines 0 pl_I_goodLines Try.f102.ntmps (bodyOf Try.f102) Try.f102.results.toList [(.bor, S_string)] [(.bool, false)] (t0, ()) = f_I_goodLines t0 := by kernel_rfl
theorem ok_I_goodLines : FnOk Try.prog 102 ct_I_goodLines :=
  fnOk (cx := cx_I_goodLines) (pl := pl_I_goodLines) (dp := 0) (ok0_of tabOk (by unfold ArrOk; kernel_rfl) mix ⟨ok_I_areLines, ok_I_isEnded, trivial⟩ trivial) Try.func102 (by kernel_rfl) (by kernel_rfl) (by kernel_rfl)
    (by rw [show loopsOf (bodyOf Try.f102) = [((loopsOf (bodyOf Try.f102)).getD 0 .skip)] from by kernel_rfl]; exact ⟨(by rw [show lookup pl_I_goodLines.loops (firstId ((loopsOf (bodyOf Try.f102)).getD 0 .skip)) = some lp_I_goodLines_4 from by kernel_rfl]; exact fun d z h => (eb_I_goodLines_4 d.1 d.2.1 d.2.2.1 d.2.2.2.1).trans h), trivial⟩) (fun x => ef_I_goodLines x.1)
noncomputable def o_I_goodGroup_2 : List Out := [⟨.normal, ⟨[], [1, 24, 38, 39, 40, 41, 44, 45, 46, 47, 48, 49, 50, 51, 52, 53, 54, 55, 56, 57, 58, 59, 60, 64, 65, 66, 75, 76, 79, 80, 83, 84, 85, 86, 87, 88, 91, 92, 93, 94, 95, 96]⟩, mkSh 98 [(1, .var Y_impl_Group .b), (24, .val .bool .b)]⟩]
noncomputable def o_I_goodGroup_8 : List Out := [⟨.normal, ⟨[], [1, 3, 5, 26, 27, 28, 61, 64, 65, 66, 75, 76, 79, 80, 83, 84, 85, 86, 87, 88, 91, 92, 93, 94, 95, 96]⟩, mkSh 98 [(1, .var Y_impl_Group .b), (3, .val .bool .b), (5, .var Y_impl_Row .b), (26, .val S_impl_Row .b), (27, .val (.int .i64) .b), (28, .val (.int .i64) .b), (61, .val .bool .b)]⟩]
noncomputable def o_I_goodGroup_10 : List Out := [⟨.normal, ⟨[], [1, 3, 5, 26, 27, 28, 38, 39, 40, 41, 44, 45, 46, 47, 48, 49, 50, 51, 52, 53, 54, 55, 56, 57, 58, 59, 60, 75, 76, 79, 80, 83, 84, 85, 86, 87, 88, 91, 92, 93, 94, 95, 96]⟩, mkSh 98 [(1, .var Y_impl_Group .b), (3, .val .bool .b), (5, .var Y_impl_Row .b), (26, .val S_impl_Row .b), (27, .val (.int .i64) .b), (28, .val (.int .i64) .b)]⟩, ⟨.ret, ⟨[], [2]⟩, mkSh 98 [(2, .val .bool .b)]⟩]
noncomputable def sh_I_goodGroup_5 : List Sh := mkSh 98 [(1, .var Y_impl_Group .b), (3, .val .bool .b), (26, .val S_impl_Row .b), (27, .val (.int .i64) .b), (28, .val (.int .i64) .b)]
noncomputable def o_I_goodGroup_5 : List Out := [⟨.exit 0, ⟨[], [1, 3, 75, 76, 79, 80, 83, 84, 85, 86, 87, 88, 91, 92, 93, 94, 95, 96]⟩, mkSh 98 [(1, .var Y_impl_Group .b), (3, .val .bool .b)]⟩, ⟨.ret, ⟨[], [2]⟩, mkSh 98 [(2, .val .bool .b)]⟩]
noncomputable def b_I_goodGroup_5 (t1 : PV Y_impl_Group) (t3 : PV .bool) (t26 : PV S_impl_Row) (t27 : PV (.int .i64)) (t28 : PV (.int .i64)) : Option ((PV Y_impl_Group × PV .bool × PV S_impl_Row × PV (.int .i64) × PV (.int .i64) × Unit) ⊕ ((PV Y_impl_Group × PV .bool × Unit) ⊕ (PV .bool × Unit))) :=
  bif (decide (t28 < t27)) then
    ((
        bif inB t28 t26.length then
          ((
              (f_I_in ((t26.getD t28.toNat (dflt Y_impl_Row)).1) 1 3).bind fun r15 =>
                bif (!r15.1.1) then
                  some (t1, t3, (t26.getD t28.toNat (dflt Y_impl_Row)), t26, t27, t28, true, ())
                else
                  (f_I_isLine (((t26.getD t28.toNat (dflt Y_impl_Row)).2).1)).bind fun r16 =>
                    bif (!r16.1.1) then
                      some (t1, t3, (t26.getD t28.toNat (dflt Y_impl_Row)), t26, t27, t28, true, ())
                    else
                      bif (decide (t28 > 0)) then
                        bif (((t26.getD t28.toNat (dflt Y_impl_Row)).1) == 2) then
                          bif inB (IntKind.wrap .i64 (t28 - 1)) t1.2.2.1.length then
                            some (t1, t3, (t26.getD t28.toNat (dflt Y_impl_Row)), t26, t27, t28, (((t1.2.2.1.getD ((IntKind.wrap .i64 (t28 - 1)).toNat) (dflt Y_impl_Row)).1) == 3), ())
                          else
                            none
                        else
                          some (t1, t3, (t26.getD t28.toNat (dflt Y_impl_Row)), t26, t27, t28, false, ())
                      else
                        some (t1, t3, (t26.getD t28.toNat (dflt Y_impl_Row)), t26, t27, t28, false, ()) : Option ((PV Y_impl_Group × PV .bool × PV Y_impl_Row × PV S_impl_Row × PV (.int .i64) × PV (.int .i64) × PV .bool × Unit)))).bind fun j17 =>
            bif j17.2.2.2.2.2.2.1 then
              some (.inr (false, ()))
            else
              bif j17.2.1 then
                some (.inl (j17.1, true, j17.2.2.1, j17.2.2.2.1, j17.2.2.2.2.1, j17.2.2.2.2.2.1, ()))
              else
                some (.inl (j17.1, (!(j17.2.2.1.1 == 1)), j17.2.2.1, j17.2.2.2.1, j17.2.2.2.2.1, j17.2.2.2.2.2.1, ()))
        else
          none : Option ((PV Y_impl_Group × PV .bool × PV Y_impl_Row × PV S_impl_Row × PV (.int .i64) × PV (.int .i64) × Unit) ⊕ (PV .bool × Unit)))).bind fun x30 =>
      match x30 with
      | .inl j18 =>
        some (.inl (j18.1, j18.2.1, j18.2.2.2.1, j18.2.2.2.2.1, (IntKind.wrap .i64 (j18.2.2.2.2.2.1 + 1)), ()))
      | .inr j19 =>
        some (.inr (.inr (j19.1, ())))
  else
    some (.inr (.inl (t1, t3, ())))
noncomputable def w_I_goodGroup_5 : PV Y_impl_Group × PV .bool × PV S_impl_Row × PV (.int .i64) × PV (.int .i64) × Unit → Option ((PV Y_impl_Group × PV .bool × Unit) ⊕ (PV .bool × Unit)) := fix fun d => b_I_goodGroup_5 d.1 d.2.1 d.2.2.1 d.2.2.2.1 d.2.2.2.2.1
noncomputable def lp_I_goodGroup_5 : Lp := ⟨⟨[], [1, 3, 26, 27, 28, 38, 39, 40, 41, 44, 45, 46, 47, 48, 49, 50, 51, 52, 53, 54, 55, 56, 57, 58, 59, 60, 64, 65, 66, 75, 76, 79, 80, 83, 84, 85, 86, 87, 88, 91, 92, 93, 94, 95, 96]⟩, sh_I_goodGroup_5, o_I_goodGroup_5, fun d => b_I_goodGroup_5 d.1 d.2.1 d.2.2.1 d.2.2.2.1 d.2.2.2.2.1⟩
noncomputable def pl_I_goodGroup : Plan := ⟨[(2, o_I_goodGroup_2), (8, o_I_goodGroup_8), (10, o_I_goodGroup_10)], [(5, lp_I_goodGroup_5)], 0, 0⟩
noncomputable def f_I_goodGroup (t0 : PV Y_impl_Group) : Option (PVs [.bool] × PVs []) :=
  ((
      (f_I_in t0.1 0 999).bind fun r8 =>
        bif (!r8.1.1) then
          some (t0, true, ())
        else
          (f_I_in t0.2.1 0 999).bind fun r9 =>
            bif (!r9.1.1) then
              some (t0, true, ())
            else
              (f_I_in (t0.2.2.1.length : Int) 1 80).bind fun r10 =>
                some (t0, (!r10.1.1), ()) : Option ((PV Y_impl_Group × PV .bool × Unit)))).bind fun j11 =>
    bif j11.2.1 then
      some ((false, ()), ())
    else
      (w_I_goodGroup_5 (j11.1, false, j11.1.2.2.1, (j11.1.2.2.1.length : Int), 0, ())).bind fun x31 =>
        match x31 with
        | .inl l22 =>
          (f_I_Group_old l22.1).bind fun r25 =>
            (f_I_Group_fresh l22.1).bind fun r26 =>
              bif l22.2.1 then
                (f_I_goodLines r25.1.1).bind fun r27 =>
                  bif r27.1.1 then
                    (f_I_goodLines r26.1.1).bind fun r28 =>
                      bif r28.1.1 then
                        bif (decide ((IntKind.wrap .i64 (l22.1.1 + (r25.1.1.length : Int))) ≤ 1000)) then
                          some (((decide ((IntKind.wrap .i64 (l22.1.2.1 + (r26.1.1.length : Int))) ≤ 1000)), ()), ())
                        else
                          some ((false, ()), ())
                      else
                        some ((false, ()), ())
                  else
                    some ((false, ()), ())
              else
                some ((false, ()), ())
        | .inr l29 =>
          some ((l29.1, ()), ())
noncomputable def ct_I_goodGroup : Ct := ⟨[(.bor, Y_impl_Group)], [(.bool, false)], fun x => f_I_goodGroup x.1⟩
noncomputable def cx_I_goodGroup : Cx := ⟨tab, arrs, [(101, ct_I_in), (102, ct_I_goodLines), (129, ct_I_isLine), (130, ct_I_Group_old), (131, ct_I_Group_fresh)], []⟩
theorem eb_I_goodGroup_5 (t1 : PV Y_impl_Group) (t3 : PV .bool) (t26 : PV S_impl_Row) (t27 : PV (.int .i64)) (t28 : PV (.int .i64)) : denK cx_I_goodGroup (rcN cx_I_goodGroup 0) pl_I_goodGroup 0 ((loopsOf (bodyOf Try.f91)).getD 0 .skip) (fillS sh_I_goodGroup_5 (t1, t3, t26, t27, t28, ())) (roundK 0 lp_I_goodGroup_5) = b_I_goodGroup_5 t1 t3 t26 t27 t28 := by kernel_rfl
theorem ef_I_goodGroup (t0 : PV Y_impl_Group) : denF cx_I_goodGroup 0 pl_I_goodGroup Try.f91.ntmps (bodyOf Try.f91) Try.f91.results.toList [(.bor, Y_impl_Group)] [(.bool, false)] (t0, ()) = f_I_goodGroup t0 := by kernel_rfl
theorem ok_I_goodGroup : FnOk Try.prog 91 ct_I_goodGroup :=
  fnOk (cx := cx_I_goodGroup) (pl := pl_I_goodGroup) (dp := 0) (ok0_of tabOk (by unfold ArrOk; kernel_rfl) mix ⟨ok_I_in, ok_I_goodLines, ok_I_isLine, ok_I_Group_old, ok_I_Group_fresh, trivial⟩ trivial) Try.func91 (by kernel_rfl) (by kernel_rfl) (by kernel_rfl)
    (by rw [show loopsOf (bodyOf Try.f91) = [((loopsOf (bodyOf Try.f91)).getD 0 .skip)] from by kernel_rfl]; exact ⟨(by rw [show lookup pl_I_goodGroup.loops (firstId ((loopsOf (bodyOf Try.f91)).getD 0 .skip)) = some lp_I_goodGroup_5 from by kernel_rfl]; exact fun d z h => (eb_I_goodGroup_5 d.1 d.2.1 d.2.2.1 d.2.2.2.1 d.2.2.2.2.1).trans h), trivial⟩) (fun x => ef_I_goodGroup x.1)
noncomputable def pl_I_Group_runHas_157 : Plan := ⟨[], [], 2, 48⟩
noncomputable def sh_I_Group_runHas_171_2 : List Sh := mkSh 76 [(3, .var Y_impl_Group .b), (5, .var (.int .i64) .b), (7, .val (.int .i64) .b), (8, .val (.int .i64) .b), (41, .addr ⟨3, [.r, .r, .l], 0, 0⟩), (42, .val S_impl_Row .b), (43, .val (.int .i64) .b), (44, .val (.int .i64) .b), (45, .val S_impl_Row .b), (46, .fn 158 [⟨5, [], 0, 0⟩]), (48, .val S_impl_Row .b), (49, .fn 158 [⟨5, [], 0, 0⟩]), (52, .val .bool .b), (53, .val S_impl_Row .b), (54, .fn 158 [⟨5, [], 0, 0⟩]), (57, .val S_impl_Row .b), (58, .fn 158 [⟨5, [], 0, 0⟩]), (64, .val (.int .i64) .b), (65, .val (.int .i64) .b)]
noncomputable def o_I_Group_runHas_171_2 : List Out := [⟨.exit 0, ⟨[], []⟩, mkSh 76 [(3, .var Y_impl_Group .b), (5, .var (.int .i64) .b), (7, .val (.int .i64) .b), (8, .val (.int .i64) .b), (41, .addr ⟨3, [.r, .r, .l], 0, 0⟩), (42, .val S_impl_Row .b), (43, .val (.int .i64) .b), (44, .val (.int .i64) .b), (45, .val S_impl_Row .b), (46, .fn 158 [⟨5, [], 0, 0⟩]), (48, .val S_impl_Row .b), (49, .fn 158 [⟨5, [], 0, 0⟩]), (52, .val .bool .b), (53, .val S_impl_Row .b), (54, .fn 158 [⟨5, [], 0, 0⟩])]⟩, ⟨.ret, ⟨[], [4]⟩, mkSh 76 [(3, .var Y_impl_Group .b), (5, .var (.int .i64) .b), (7, .val (.int .i64) .b), (8, .val (.int .i64) .b), (41, .addr ⟨3, [.r, .r, .l], 0, 0⟩), (42, .val S_impl_Row .b), (43, .val (.int .i64) .b), (44, .val (.int .i64) .b), (45, .val S_impl_Row .b), (46, .fn 158 [⟨5, [], 0, 0⟩]), (48, .val S_impl_Row .b), (49, .fn 158 [⟨5, [], 0, 0⟩]), (52, .val .bool .b), (53, .val S_impl_Row .b), (54, .fn 158 [⟨5, [], 0, 0⟩]), (61, .val (.int .i64) .b)]⟩]
noncomputable def b_I_Group_runHas_171_2 (t3 : PV Y_impl_Group) (t5 : PV (.int .i64)) (t7 : PV (.int .i64)) (t8 : PV (.int .i64)) (t42 : PV S_impl_Row) (t43 : PV (.int .i64)) (t44 : PV (.int .i64)) (t45 : PV S_impl_Row) (t48 : PV S_impl_Row) (t52 : PV .bool) (t53 : PV S_impl_Row) (t57 : PV S_impl_Row) (t64 : PV (.int .i64)) (t65 : PV (.int .i64)) : Option ((PV Y_impl_Group × PV (.int .i64) × PV (.int .i64) × PV (.int .i64) × PV S_impl_Row × PV (.int .i64) × PV (.int .i64) × PV S_impl_Row × PV S_impl_Row × PV .bool × PV S_impl_Row × PV S_impl_Row × PV (.int .i64) × PV (.int .i64) × Unit) ⊕ ((PV Y_impl_Group × PV (.int .i64) × PV (.int .i64) × PV (.int .i64) × PV S_impl_Row × PV (.int .i64) × PV (.int .i64) × PV S_impl_Row × PV S_impl_Row × PV .bool × PV S_impl_Row × Unit) ⊕ (PV Y_impl_Group × PV (.int .i64) × PV (.int .i64) × PV (.int .i64) × PV S_impl_Row × PV (.int .i64) × PV (.int .i64) × PV S_impl_Row × PV S_impl_Row × PV .bool × PV S_impl_Row × PV (.int .i64) × Unit))) :=
  bif (decide (t65 < t64)) then
    bif inB t65 t57.length then
      bif (((t57.getD t65.toNat (dflt Y_impl_Row)).1) == t5) then
        some (.inr (.inr (t3, t5, t7, t8, t42, t43, t44, t45, t48, t52, t53, t65, ())))
      else
        some (.inl (t3, t5, t7, t8, t42, t43, t44, t45, t48, t52, t53, t57, t64, (IntKind.wrap .i64 (t65 + 1)), ()))
    else
      none
  else
    some (.inr (.inl (t3, t5, t7, t8, t42, t43, t44, t45, t48, t52, t53, ())))
noncomputable def w_I_Group_runHas_171_2 : PV Y_impl_Group × PV (.int .i64) × PV (.int .i64) × PV (.int .i64) × PV S_impl_Row × PV (.int .i64) × PV (.int .i64) × PV S_impl_Row × PV S_impl_Row × PV .bool × PV S_impl_Row × PV S_impl_Row × PV (.int .i64) × PV (.int .i64) × Unit → Option ((PV Y_impl_Group × PV (.int .i64) × PV (.int .i64) × PV (.int .i64) × PV S_impl_Row × PV (.int .i64) × PV (.int .i64) × PV S_impl_Row × PV S_impl_Row × PV .bool × PV S_impl_Row × Unit) ⊕ (PV Y_impl_Group × PV (.int .i64) × PV (.int .i64) × PV (.int .i64) × PV S_impl_Row × PV (.int .i64) × PV (.int .i64) × PV S_impl_Row × PV S_impl_Row × PV .bool × PV S_impl_Row × PV (.int .i64) × Unit)) := fix fun d => b_I_Group_runHas_171_2 d.1 d.2.1 d.2.2.1 d.2.2.2.1 d.2.2.2.2.1 d.2.2.2.2.2.1 d.2.2.2.2.2.2.1 d.2.2.2.2.2.2.2.1 d.2.2.2.2.2.2.2.2.1 d.2.2.2.2.2.2.2.2.2.1 d.2.2.2.2.2.2.2.2.2.2.1 d.2.2.2.2.2.2.2.2.2.2.2.1 d.2.2.2.2.2.2.2.2.2.2.2.2.1 d.2.2.2.2.2.2.2.2.2.2.2.2.2.1
noncomputable def lp_I_Group_runHas_171_2 : Lp := ⟨⟨[], [0, 1, 7, 8]⟩, sh_I_Group_runHas_171_2, o_I_Group_runHas_171_2, fun d => b_I_Group_runHas_171_2 d.1 d.2.1 d.2.2.1 d.2.2.2.1 d.2.2.2.2.1 d.2.2.2.2.2.1 d.2.2.2.2.2.2.1 d.2.2.2.2.2.2.2.1 d.2.2.2.2.2.2.2.2.1 d.2.2.2.2.2.2.2.2.2.1 d.2.2.2.2.2.2.2.2.2.2.1 d.2.2.2.2.2.2.2.2.2.2.2.1 d.2.2.2.2.2.2.2.2.2.2.2.2.1 d.2.2.2.2.2.2.2.2.2.2.2.2.2.1⟩
noncomputable def pl_I_Group_runHas_171 : Plan := ⟨[], [(2, lp_I_Group_runHas_171_2)], 1, 57⟩
noncomputable def pl_I_Group_runHas_158 : Plan := ⟨[], [], 0, 76⟩
noncomputable def sh_I_Group_runHas_2 : List Sh := mkSh 48 [(3, .var Y_impl_Group .b), (5, .var (.int .i64) .b), (7, .val (.int .i64) .b), (8, .val (.int .i64) .b)]
noncomputable def o_I_Group_runHas_2 : List Out := [⟨.exit 0, ⟨[], [3, 5, 7, 8, 31, 32, 33, 34, 35, 36, 37]⟩, mkSh 48 [(3, .var Y_impl_Group .b), (5, .var (.int .i64) .b), (7, .val (.int .i64) .b), (8, .val (.int .i64) .b)]⟩]
noncomputable def b_I_Group_runHas_2 (t3 : PV Y_impl_Group) (t5 : PV (.int .i64)) (t7 : PV (.int .i64)) (t8 : PV (.int .i64)) : Option ((PV Y_impl_Group × PV (.int .i64) × PV (.int .i64) × PV (.int .i64) × Unit) ⊕ ((PV Y_impl_Group × PV (.int .i64) × PV (.int .i64) × PV (.int .i64) × Unit))) :=
  bif (decide (t7 > 0)) then
    bif inB (IntKind.wrap .i64 (t7 - 1)) t3.2.2.1.length then
      bif (!(((t3.2.2.1.getD ((IntKind.wrap .i64 (t7 - 1)).toNat) (dflt Y_impl_Row)).1) == 1)) then
        some (.inl (t3, t5, (IntKind.wrap .i64 (t7 - 1)), t8, ()))
      else
        some (.inr (t3, t5, t7, t8, ()))
    else
      none
  else
    some (.inr (t3, t5, t7, t8, ()))
noncomputable def w_I_Group_runHas_2 : PV Y_impl_Group × PV (.int .i64) × PV (.int .i64) × PV (.int .i64) × Unit → Option ((PV Y_impl_Group × PV (.int .i64) × PV (.int .i64) × PV (.int .i64) × Unit)) := fix fun d => b_I_Group_runHas_2 d.1 d.2.1 d.2.2.1 d.2.2.2.1
noncomputable def lp_I_Group_runHas_2 : Lp := ⟨⟨[], [3, 5, 7, 8, 31, 32, 33, 34, 35, 36, 37]⟩, sh_I_Group_runHas_2, o_I_Group_runHas_2, fun d => b_I_Group_runHas_2 d.1 d.2.1 d.2.2.1 d.2.2.2.1⟩
noncomputable def sh_I_Group_runHas_4 : List Sh := mkSh 48 [(3, .var Y_impl_Group .b), (5, .var (.int .i64) .b), (7, .val (.int .i64) .b), (8, .val (.int .i64) .b)]
noncomputable def o_I_Group_runHas_4 : List Out := [⟨.exit 2, ⟨[], [3, 5, 7, 8]⟩, mkSh 48 [(3, .var Y_impl_Group .b), (5, .var (.int .i64) .b), (7, .val (.int .i64) .b), (8, .val (.int .i64) .b)]⟩]
noncomputable def b_I_Group_runHas_4 (t3 : PV Y_impl_Group) (t5 : PV (.int .i64)) (t7 : PV (.int .i64)) (t8 : PV (.int .i64)) : Option ((PV Y_impl_Group × PV (.int .i64) × PV (.int .i64) × PV (.int .i64) × Unit) ⊕ ((PV Y_impl_Group × PV (.int .i64) × PV (.int .i64) × PV (.int .i64) × Unit))) :=
  bif (decide (t8 < (t3.2.2.1.length : Int))) then
    bif inB t8 t3.2.2.1.length then
      bif (!(((t3.2.2.1.getD t8.toNat (dflt Y_impl_Row)).1) == 1)) then
        some (.inl (t3, t5, t7, (IntKind.wrap .i64 (t8 + 1)), ()))
      else
        some (.inr (t3, t5, t7, t8, ()))
    else
      none
  else
    some (.inr (t3, t5, t7, t8, ()))
noncomputable def w_I_Group_runHas_4 : PV Y_impl_Group × PV (.int .i64) × PV (.int .i64) × PV (.int .i64) × Unit → Option ((PV Y_impl_Group × PV (.int .i64) × PV (.int .i64) × PV (.int .i64) × Unit)) := fix fun d => b_I_Group_runHas_4 d.1 d.2.1 d.2.2.1 d.2.2.2.1
noncomputable def lp_I_Group_runHas_4 : Lp := ⟨⟨[], [3, 5, 7, 8]⟩, sh_I_Group_runHas_4, o_I_Group_runHas_4, fun d => b_I_Group_runHas_4 d.1 d.2.1 d.2.2.1 d.2.2.2.1⟩
noncomputable def pl_I_Group_runHas : Plan := ⟨[], [(2, lp_I_Group_runHas_2), (4, lp_I_Group_runHas_4)], 3, 0⟩
noncomputable def f_I_Group_runHas (t0 : PV Y_impl_Group) (t1 : PV (.int .i64)) (t2 : PV (.int .i64)) : Option (PVs [.bool] × PVs []) :=
  (w_I_Group_runHas_2 (t0, t2, t1, t1, ())).bind fun l2 =>
    (w_I_Group_runHas_4 (l2.1, l2.2.1, l2.2.2.1, l2.2.2.2.1, ())).bind fun l4 =>
      bif cutB l4.2.2.1 l4.2.2.2.1 l4.1.2.2.1.length then
        (w_I_Group_runHas_171_2 (l4.1, l4.2.1, l4.2.2.1, l4.2.2.2.1, l4.1.2.2.1, l4.2.2.1, l4.2.2.2.1, (cutL l4.2.2.1 l4.2.2.2.1 l4.1.2.2.1), (cutL l4.2.2.1 l4.2.2.2.1 l4.1.2.2.1), false, (cutL l4.2.2.1 l4.2.2.2.1 l4.1.2.2.1), (cutL l4.2.2.1 l4.2.2.2.1 l4.1.2.2.1), ((cutL l4.2.2.1 l4.2.2.2.1 l4.1.2.2.1).length : Int), 0, ())).bind fun x9 =>
          match x9 with
          | .inl l7 =>
            some (((decide ((-1) ≥ 0)), ()), ())
          | .inr l8 =>
            some (((decide (l8.2.2.2.2.2.2.2.2.2.2.2.1 ≥ 0)), ()), ())
      else
        none
noncomputable def ct_I_Group_runHas : Ct := ⟨[(.bor, Y_impl_Group), (.bor, (.int .i64)), (.bor, (.int .i64))], [(.bool, false)], fun x => f_I_Group_runHas x.1 x.2.1 x.2.2.1⟩
noncomputable def cx_I_Group_runHas : Cx := ⟨tab, arrs, [], [(157, Try.f157, pl_I_Group_runHas_157), (171, Try.f171, pl_I_Group_runHas_171), (158, Try.f158, pl_I_Group_runHas_158)]⟩
theorem eb_I_Group_runHas_171_2 (t3 : PV Y_impl_Group) (t5 : PV (.int .i64)) (t7 : PV (.int .i64)) (t8 : PV (.int .i64)) (t42 : PV S_impl_Row) (t43 : PV (.int .i64)) (t44 : PV (.int .i64)) (t45 : PV S_impl_Row) (t48 : PV S_impl_Row) (t52 : PV .bool) (t53 : PV S_impl_Row) (t57 : PV S_impl_Row) (t64 : PV (.int .i64)) (t65 : PV (.int .i64)) : denK cx_I_Group_runHas (rcN cx_I_Group_runHas 1) pl_I_Group_runHas_171 57 ((loopsOf (bodyOf Try.f171)).getD 0 .skip) (fillS sh_I_Group_runHas_171_2 (t3, t5, t7, t8, t42, t43, t44, t45, t48, t52, t53, t57, t64, t65, ())) (roundK 57 lp_I_Group_runHas_171_2) = b_I_Group_runHas_171_2 t3 t5 t7 t8 t42 t43 t44 t45 t48 t52 t53 t57 t64 t65 := by kernel_rfl
theorem eb_I_Group_runHas_2 (t3 : PV Y_impl_Group) (t5 : PV (.int .i64)) (t7 : PV (.int .i64)) (t8 : PV (.int .i64)) : denK cx_I_Group_runHas (rcN cx_I_Group_runHas 3) pl_I_Group_runHas 0 ((loopsOf (bodyOf Try.f132)).getD 0 .skip) (fillS sh_I_Group_runHas_2 (t3, t5, t7, t8, ())) (roundK 0 lp_I_Group_runHas_2) = b_I_Group_runHas_2 t3 t5 t7 t8 := by kernel_rfl
theorem eb_I_Group_runHas_4 (t3 : PV Y_impl_Group) (t5 : PV (.int .i64)) (t7 : PV (.int .i64)) (t8 : PV (.int .i64)) : denK cx_I_Group_runHas (rcN cx_I_Group_runHas 3) pl_I_Group_runHas 0 ((loopsOf (bodyOf Try.f132)).getD 1 .skip) (fillS sh_I_Group_runHas_4 (t3, t5, t7, t8, ())) (roundK 0 lp_I_Group_runHas_4) = b_I_Group_runHas_4 t3 t5 t7 t8 := by kernel_rfl
theorem ef_I_Group_runHas (t0 : PV Y_impl_Group) (t1 : PV (.int .i64)) (t2 : PV (.int .i64)) : denF cx_I_Group_runHas 3 pl_I_Group_runHas Try.f132.ntmps (bodyOf Try.f132) Try.f132.results.toList [(.bor, Y_impl_Group), (.bor, (.int .i64)), (.bor, (.int .i64))] [(.bool, false)] (t0, t1, t2, ()) = f_I_Group_runHas t0 t1 t2 := by kernel_rfl
theorem ok_I_Group_runHas : FnOk Try.prog 132 ct_I_Group_runHas :=
  fnOk (cx := cx_I_Group_runHas) (pl := pl_I_Group_runHas) (dp := 3) (ok0_of tabOk (by unfold ArrOk; kernel_rfl) mix trivial ⟨⟨Try.func157, by kernel_rfl, (by rw [show loopsOf (bodyOf Try.f157) = [] from by kernel_rfl]; exact trivial)⟩, ⟨Try.func171, by kernel_rfl, (by rw [show loopsOf (bodyOf Try.f171) = [((loopsOf (bodyOf Try.f171)).getD 0 .skip)] from by kernel_rfl]; exact ⟨(by rw [show lookup pl_I_Group_runHas_171.loops (firstId ((loopsOf (bodyOf Try.f171)).getD 0 .skip)) = some lp_I_Group_runHas_171_2 from by kernel_rfl]; exact fun d z h => (eb_I_Group_runHas_171_2 d.1 d.2.1 d.2.2.1 d.2.2.2.1 d.2.2.2.2.1 d.2.2.2.2.2.1 d.2.2.2.2.2.2.1 d.2.2.2.2.2.2.2.1 d.2.2.2.2.2.2.2.2.1 d.2.2.2.2.2.2.2.2.2.1 d.2.2.2.2.2.2.2.2.2.2.1 d.2.2.2.2.2.2.2.2.2.2.2.1 d.2.2.2.2.2.2.2.2.2.2.2.2.1 d.2.2.2.2.2.2.2.2.2.2.2.2.2.1).trans h), trivial⟩)⟩, ⟨Try.func158, by kernel_rfl, (by rw [show loopsOf (bodyOf Try.f158) = [] from by kernel_rfl]; exact trivial)⟩, trivial⟩) Try.func132 (by kernel_rfl) (by kernel_rfl) (by kernel_rfl)
    (by rw [show loopsOf (bodyOf Try.f132) = [((loopsOf (bodyOf Try.f132)).getD 0 .skip), ((loopsOf (bodyOf Try.f132)).getD 1 .skip)] from by kernel_rfl]; exact ⟨(by rw [show lookup pl_I_Group_runHas.loops (firstId ((loopsOf (bodyOf Try.f132)).getD 0 .skip)) = some lp_I_Group_runHas_2 from by kernel_rfl]; exact fun d z h => (eb_I_Group_runHas_2 d.1 d.2.1 d.2.2.1 d.2.2.2.1).trans h), (by rw [show lookup pl_I_Group_runHas.loops (firstId ((loopsOf (bodyOf Try.f132)).getD 1 .skip)) = some lp_I_Group_runHas_4 from by kernel_rfl]; exact fun d z h => (eb_I_Group_runHas_4 d.1 d.2.1 d.2.2.1 d.2.2.2.1).trans h), trivial⟩) (fun x => ef_I_Group_runHas x.1 x.2.1 x.2.2.1)
noncomputable def pl_I_shown : Plan := ⟨[], [], 0, 0⟩
noncomputable def f_I_shown (t0 : PV .str) (t1 : PV .str) : Option (PVs [.str] × PVs []) :=
  (f_I_isEnded t1).bind fun r4 =>
    bif r4.1.1 then
      bif decide (t0.length + t1.length ≤ 1099511627776) then
        some (((t0 ++ t1), ()), ())
      else
        none
    else
      bif decide (t0.length + t1.length ≤ 1099511627776) then
        bif decide ((t0 ++ t1).length + [10].length ≤ 1099511627776) then
          bif decide (((t0 ++ t1) ++ [10]).length + [92, 32, 110, 111, 110, 101, 10].length ≤ 1099511627776) then
            some (((((t0 ++ t1) ++ [10]) ++ [92, 32, 110, 111, 110, 101, 10]), ()), ())
          else
            none
        else
          none
      else
        none
noncomputable def ct_I_shown : Ct := ⟨[(.bor, .str), (.bor, .str)], [(.str, false)], fun x => f_I_shown x.1 x.2.1⟩
noncomputable def cx_I_shown : Cx := ⟨tab, arrs, [(142, ct_I_isEnded)], []⟩
theorem ef_I_shown (t0 : PV .str) (t1 : PV .str) : denF cx_I_shown 0 pl_I_shown Try.f133.ntmps (bodyOf Try.f133) Try.f133.results.toList [(.bor, .str), (.bor, .str)] [(.str, false)] (t0, t1, ()) = f_I_shown t0 t1 := by kernel_rfl
theorem ok_I_shown : FnOk Try.prog 133 ct_I_shown :=
  fnOk (cx := cx_I_shown) (pl := pl_I_shown) (dp := 0) (ok0_of tabOk (by unfold ArrOk; kernel_rfl) mix ⟨ok_I_isEnded, trivial⟩ trivial) Try.func133 (by kernel_rfl) (by kernel_rfl) (by kernel_rfl)
    (by rw [show loopsOf (bodyOf Try.f133) = [] from by kernel_rfl]; exact trivial) (fun x => ef_I_shown x.1 x.2.1)
noncomputable def pl_I_Row_sign : Plan := ⟨[], [], 0, 0⟩
noncomputable def f_I_Row_sign (t0 : PV Y_impl_Row) : Option (PVs [.str] × PVs []) :=
  bif cutB t0.1 (IntKind.wrap .i64 (t0.1 + 1)) [63, 32, 45, 43].length then
    some (((cutL t0.1 (IntKind.wrap .i64 (t0.1 + 1)) [63, 32, 45, 43]), ()), ())
  else
    none
noncomputable def ct_I_Row_sign : Ct := ⟨[(.bor, Y_impl_Row)], [(.str, false)], fun x => f_I_Row_sign x.1⟩
noncomputable def cx_I_Row_sign : Cx := ⟨tab, arrs, [], []⟩
theorem ef_I_Row_sign (t0 : PV Y_impl_Row) : denF cx_I_Row_sign 0 pl_I_Row_sign Try.f134.ntmps (bodyOf Try.f134) Try.f134.results.toList [(.bor, Y_impl_Row)] [(.str, false)] (t0, ()) = f_I_Row_sign t0 := by kernel_rfl
theorem ok_I_Row_sign : FnOk Try.prog 134 ct_I_Row_sign :=
  fnOk (cx := cx_I_Row_sign) (pl := pl_I_Row_sign) (dp := 0) (ok0_of tabOk (by unfold ArrOk; kernel_rfl) mix trivial trivial) Try.func134 (by kernel_rfl) (by kernel_rfl) (by kernel_rfl)
    (by rw [show loopsOf (bodyOf Try.f134) = [] from by kernel_rfl]; exact trivial) (fun x => ef_I_Row_sign x.1)
noncomputable def o_I_Group_half_8 : List Out := [⟨.normal, ⟨[], [1, 2, 5, 7, 9, 10, 11, 29]⟩, mkSh 46 [(1, .val (.int .i64) .b), (2, .var Y_impl_Group .b), (5, .val .str .b), (7, .var Y_impl_Row .b), (9, .val S_impl_Row .b), (10, .val (.int .i64) .b), (11, .val (.int .i64) .b), (29, .val .bool .b)]⟩]
noncomputable def o_I_Group_half_9 : List Out := [⟨.normal, ⟨[], [1, 2, 5, 9, 10, 11, 34, 35, 36, 37]⟩, mkSh 46 [(1, .val (.int .i64) .b), (2, .var Y_impl_Group .b), (5, .val .str .b), (9, .val S_impl_Row .b), (10, .val (.int .i64) .b), (11, .val (.int .i64) .b)]⟩]
noncomputable def sh_I_Group_half_3 : List Sh := mkSh 46 [(1, .val (.int .i64) .b), (2, .var Y_impl_Group .b), (5, .val .str .b), (9, .val S_impl_Row .b), (10, .val (.int .i64) .b), (11, .val (.int .i64) .b)]
noncomputable def o_I_Group_half_3 : List Out := [⟨.exit 0, ⟨[], [5]⟩, mkSh 46 [(5, .val .str .b)]⟩]
noncomputable def b_I_Group_half_3 (t1 : PV (.int .i64)) (t2 : PV Y_impl_Group) (t5 : PV .str) (t9 : PV S_impl_Row) (t10 : PV (.int .i64)) (t11 : PV (.int .i64)) : Option ((PV (.int .i64) × PV Y_impl_Group × PV .str × PV S_impl_Row × PV (.int .i64) × PV (.int .i64) × Unit) ⊕ ((PV .str × Unit))) :=
  bif (decide (t11 < t10)) then
    ((
        bif inB t11 t9.length then
          bif (((t9.getD t11.toNat (dflt Y_impl_Row)).1) == t1) then
            some (t1, t2, t5, t9, t10, t11, ())
          else
            ((
                bif (!(((t9.getD t11.toNat (dflt Y_impl_Row)).1) == 1)) then
                  (f_I_Group_runHas t2 t11 t1).bind fun r1 =>
                    some (t1, t2, t5, (t9.getD t11.toNat (dflt Y_impl_Row)), t9, t10, t11, r1.1.1, ())
                else
                  some (t1, t2, t5, (t9.getD t11.toNat (dflt Y_impl_Row)), t9, t10, t11, false, ()) : Option ((PV (.int .i64) × PV Y_impl_Group × PV .str × PV Y_impl_Row × PV S_impl_Row × PV (.int .i64) × PV (.int .i64) × PV .bool × Unit)))).bind fun j2 =>
              bif j2.2.2.2.2.2.2.2.1 then
                (f_I_shown [33, 32] j2.2.2.2.1.2.1).bind fun r3 =>
                  bif decide (j2.2.2.1.length + r3.1.1.length ≤ 1099511627776) then
                    some (j2.1, j2.2.1, (j2.2.2.1 ++ r3.1.1), j2.2.2.2.2.1, j2.2.2.2.2.2.1, j2.2.2.2.2.2.2.1, ())
                  else
                    none
              else
                (f_I_Row_sign j2.2.2.2.1).bind fun r4 =>
                  bif decide (r4.1.1.length + [32].length ≤ 1099511627776) then
                    (f_I_shown (r4.1.1 ++ [32]) j2.2.2.2.1.2.1).bind fun r5 =>
                      bif decide (j2.2.2.1.length + r5.1.1.length ≤ 1099511627776) then
                        some (j2.1, j2.2.1, (j2.2.2.1 ++ r5.1.1), j2.2.2.2.2.1, j2.2.2.2.2.2.1, j2.2.2.2.2.2.2.1, ())
                      else
                        none
                  else
                    none
        else
          none : Option ((PV (.int .i64) × PV Y_impl_Group × PV .str × PV S_impl_Row × PV (.int .i64) × PV (.int .i64) × Unit)))).bind fun j6 =>
      some (.inl (j6.1, j6.2.1, j6.2.2.1, j6.2.2.2.1, j6.2.2.2.2.1, (IntKind.wrap .i64 (j6.2.2.2.2.2.1 + 1)), ()))
  else
    some (.inr (t5, ()))
noncomputable def w_I_Group_half_3 : PV (.int .i64) × PV Y_impl_Group × PV .str × PV S_impl_Row × PV (.int .i64) × PV (.int .i64) × Unit → Option ((PV .str × Unit)) := fix fun d => b_I_Group_half_3 d.1 d.2.1 d.2.2.1 d.2.2.2.1 d.2.2.2.2.1 d.2.2.2.2.2.1
noncomputable def lp_I_Group_half_3 : Lp := ⟨⟨[], [1, 2, 5, 9, 10, 11, 34, 35, 36, 37]⟩, sh_I_Group_half_3, o_I_Group_half_3, fun d => b_I_Group_half_3 d.1 d.2.1 d.2.2.1 d.2.2.2.1 d.2.2.2.2.1 d.2.2.2.2.2.1⟩
noncomputable def pl_I_Group_half : Plan := ⟨[(8, o_I_Group_half_8), (9, o_I_Group_half_9)], [(3, lp_I_Group_half_3)], 0, 0⟩
noncomputable def f_I_Group_half (t0 : PV Y_impl_Group) (t1 : PV (.int .i64)) : Option (PVs [.str] × PVs []) :=
  (w_I_Group_half_3 (t1, t0, [], t0.2.2.1, (t0.2.2.1.length : Int), 0, ())).bind fun l8 =>
    some ((l8.1, ()), ())
noncomputable def ct_I_Group_half : Ct := ⟨[(.bor, Y_impl_Group), (.bor, (.int .i64))], [(.str, false)], fun x => f_I_Group_half x.1 x.2.1⟩
noncomputable def cx_I_Group_half : Cx := ⟨tab, arrs, [(132, ct_I_Group_runHas), (133, ct_I_shown), (134, ct_I_Row_sign)], []⟩
theorem eb_I_Group_half_3 (t1 : PV (.int .i64)) (t2 : PV Y_impl_Group) (t5 : PV .str) (t9 : PV S_impl_Row) (t10 : PV (.int .i64)) (t11 : PV (.int .i64)) : denK cx_I_Group_half (rcN cx_I_Group_half 0) pl_I_Group_half 0 ((loopsOf (bodyOf Try.f92)).getD 0 .skip) (fillS sh_I_Group_half_3 (t1, t2, t5, t9, t10, t11, ())) (roundK 0 lp_I_Group_half_3) = b_I_Group_half_3 t1 t2 t5 t9 t10 t11 := by kernel_rfl
theorem ef_I_Group_half (t0 : PV Y_impl_Group) (t1 : PV (.int .i64)) : denF cx_I_Group_half 0 pl_I_Group_half Try.f92.ntmps (bodyOf Try.f92) Try.f92.results.toList [(.bor, Y_impl_Group), (.bor, (.int .i64))] [(.str, false)] (t0, t1, ()) = f_I_Group_half t0 t1 := by kernel_rfl
theorem ok_I_Group_half : FnOk Try.prog 92 ct_I_Group_half :=
  fnOk (cx := cx_I_Group_half) (pl := pl_I_Group_half) (dp := 0) (ok0_of tabOk (by unfold ArrOk; kernel_rfl) mix ⟨ok_I_Group_runHas, ok_I_shown, ok_I_Row_sign, trivial⟩ trivial) Try.func92 (by kernel_rfl) (by kernel_rfl) (by kernel_rfl)
    (by rw [show loopsOf (bodyOf Try.f92) = [((loopsOf (bodyOf Try.f92)).getD 0 .skip)] from by kernel_rfl]; exact ⟨(by rw [show lookup pl_I_Group_half.loops (firstId ((loopsOf (bodyOf Try.f92)).getD 0 .skip)) = some lp_I_Group_half_3 from by kernel_rfl]; exact fun d z h => (eb_I_Group_half_3 d.1 d.2.1 d.2.2.1 d.2.2.2.1 d.2.2.2.2.1 d.2.2.2.2.2.1).trans h), trivial⟩) (fun x => ef_I_Group_half x.1 x.2.1)
noncomputable def pl_I_HalfText : Plan := ⟨[], [], 0, 0⟩
noncomputable def f_I_HalfText (t0 : PV Y_impl_Group) (t1 : PV .bool) : Option (PVs [.str, .bool] × PVs []) :=
  (f_I_goodGroup t0).bind fun r4 =>
    bif (!r4.1.1) then
      some (([], false, ()), ())
    else
      bif t1 then
        (f_I_Group_half t0 3).bind fun r6 =>
          some ((r6.1.1, true, ()), ())
      else
        (f_I_Group_half t0 2).bind fun r7 =>
          some ((r7.1.1, true, ()), ())
noncomputable def ct_I_HalfText : Ct := ⟨[(.bor, Y_impl_Group), (.bor, .bool)], [(.str, false), (.bool, false)], fun x => f_I_HalfText x.1 x.2.1⟩
noncomputable def cx_I_HalfText : Cx := ⟨tab, arrs, [(91, ct_I_goodGroup), (92, ct_I_Group_half)], []⟩
theorem ef_I_HalfText (t0 : PV Y_impl_Group) (t1 : PV .bool) : denF cx_I_HalfText 0 pl_I_HalfText Try.f46.ntmps (bodyOf Try.f46) Try.f46.results.toList [(.bor, Y_impl_Group), (.bor, .bool)] [(.str, false), (.bool, false)] (t0, t1, ()) = f_I_HalfText t0 t1 := by kernel_rfl
theorem ok_I_HalfText : FnOk Try.prog 46 ct_I_HalfText :=
  fnOk (cx := cx_I_HalfText) (pl := pl_I_HalfText) (dp := 0) (ok0_of tabOk (by unfold ArrOk; kernel_rfl) mix ⟨ok_I_goodGroup, ok_I_Group_half, trivial⟩ trivial) Try.func46 (by kernel_rfl) (by kernel_rfl) (by kernel_rfl)
    (by rw [show loopsOf (bodyOf Try.f46) = [] from by kernel_rfl]; exact trivial) (fun x => ef_I_HalfText x.1 x.2.1)
noncomputable def pl_L_eqRow : Plan := ⟨[], [], 0, 0⟩
noncomputable def f_L_eqRow (t0 : PV Y_impl_Row) (t1 : PV Y_impl_Row) : Option (PVs [.bool] × PVs []) :=
  bif (!(t0.1 == t1.1)) then
    some ((false, ()), ())
  else
    bif (!(t0.2.1 == t1.2.1)) then
      some ((false, ()), ())
    else
      some ((true, ()), ())
noncomputable def ct_L_eqRow : Ct := ⟨[(.bor, Y_impl_Row), (.bor, Y_impl_Row)], [(.bool, false)], fun x => f_L_eqRow x.1 x.2.1⟩
noncomputable def cx_L_eqRow : Cx := ⟨tab, arrs, [], []⟩
theorem ef_L_eqRow (t0 : PV Y_impl_Row) (t1 : PV Y_impl_Row) : denF cx_L_eqRow 0 pl_L_eqRow Try.f135.ntmps (bodyOf Try.f135) Try.f135.results.toList [(.bor, Y_impl_Row), (.bor, Y_impl_Row)] [(.bool, false)] (t0, t1, ()) = f_L_eqRow t0 t1 := by kernel_rfl
theorem ok_L_eqRow : FnOk Try.prog 135 ct_L_eqRow :=
  fnOk (cx := cx_L_eqRow) (pl := pl_L_eqRow) (dp := 0) (ok0_of tabOk (by unfold ArrOk; kernel_rfl) mix trivial trivial) Try.func135 (by kernel_rfl) (by kernel_rfl) (by kernel_rfl)
    (by rw [show loopsOf (bodyOf Try.f135) = [] from by kernel_rfl]; exact trivial) (fun x => ef_L_eqRow x.1 x.2.1)
noncomputable def sh_L_eqRowS_4 : List Sh := mkSh 27 [(0, .val S_impl_Row .b), (1, .val S_impl_Row .b), (5, .val (.int .i64) .b)]
noncomputable def o_L_eqRowS_4 : List Out := [⟨.exit 0, ⟨[], []⟩, mkSh 27 []⟩, ⟨.ret, ⟨[], [4]⟩, mkSh 27 [(4, .val .bool .b)]⟩]
noncomputable def b_L_eqRowS_4 (t0 : PV S_impl_Row) (t1 : PV S_impl_Row) (t5 : PV (.int .i64)) : Option ((PV S_impl_Row × PV S_impl_Row × PV (.int .i64) × Unit) ⊕ ((Unit) ⊕ (PV .bool × Unit))) :=
  bif (decide (t5 < (t0.length : Int))) then
    bif inB t5 t0.length then
      bif inB t5 t1.length then
        (f_L_eqRow (t0.getD t5.toNat (dflt Y_impl_Row)) (t1.getD t5.toNat (dflt Y_impl_Row))).bind fun r4 =>
          bif (!r4.1.1) then
            some (.inr (.inr (false, ())))
          else
            some (.inl (t0, t1, (IntKind.wrap .i64 (t5 + 1)), ()))
      else
        none
    else
      none
  else
    some (.inr (.inl ()))
noncomputable def w_L_eqRowS_4 : PV S_impl_Row × PV S_impl_Row × PV (.int .i64) × Unit → Option ((Unit) ⊕ (PV .bool × Unit)) := fix fun d => b_L_eqRowS_4 d.1 d.2.1 d.2.2.1
noncomputable def lp_L_eqRowS_4 : Lp := ⟨⟨[], [0, 1, 5]⟩, sh_L_eqRowS_4, o_L_eqRowS_4, fun d => b_L_eqRowS_4 d.1 d.2.1 d.2.2.1⟩
noncomputable def pl_L_eqRowS : Plan := ⟨[], [(4, lp_L_eqRowS_4)], 0, 0⟩
noncomputable def f_L_eqRowS (t0 : PV S_impl_Row) (t1 : PV S_impl_Row) : Option (PVs [.bool] × PVs []) :=
  bif (!((t0.length : Int) == (t1.length : Int))) then
    some ((false, ()), ())
  else
    (w_L_eqRowS_4 (t0, t1, 0, ())).bind fun x9 =>
      match x9 with
      | .inl l7 =>
        some ((true, ()), ())
      | .inr l8 =>
        some ((l8.1, ()), ())
noncomputable def ct_L_eqRowS : Ct := ⟨[(.bor, S_impl_Row), (.bor, S_impl_Row)], [(.bool, false)], fun x => f_L_eqRowS x.1 x.2.1⟩
noncomputable def cx_L_eqRowS : Cx := ⟨tab, arrs, [(135, ct_L_eqRow)], []⟩
theorem eb_L_eqRowS_4 (t0 : PV S_impl_Row) (t1 : PV S_impl_Row) (t5 : PV (.int .i64)) : denK cx_L_eqRowS (rcN cx_L_eqRowS 0) pl_L_eqRowS 0 ((loopsOf (bodyOf Try.f93)).getD 0 .skip) (fillS sh_L_eqRowS_4 (t0, t1, t5, ())) (roundK 0 lp_L_eqRowS_4) = b_L_eqRowS_4 t0 t1 t5 := by kernel_rfl
theorem ef_L_eqRowS (t0 : PV S_impl_Row) (t1 : PV S_impl_Row) : denF cx_L_eqRowS 0 pl_L_eqRowS Try.f93.ntmps (bodyOf Try.f93) Try.f93.results.toList [(.bor, S_impl_Row), (.bor, S_impl_Row)] [(.bool, false)] (t0, t1, ()) = f_L_eqRowS t0 t1 := by kernel_rfl
theorem ok_L_eqRowS : FnOk Try.prog 93 ct_L_eqRowS :=
  fnOk (cx := cx_L_eqRowS) (pl := pl_L_eqRowS) (dp := 0) (ok0_of tabOk (by unfold ArrOk; kernel_rfl) mix ⟨ok_L_eqRow, trivial⟩ trivial) Try.func93 (by kernel_rfl) (by kernel_rfl) (by kernel_rfl)
    (by rw [show loopsOf (bodyOf Try.f93) = [((loopsOf (bodyOf Try.f93)).getD 0 .skip)] from by kernel_rfl]; exact ⟨(by rw [show lookup pl_L_eqRowS.loops (firstId ((loopsOf (bodyOf Try.f93)).getD 0 .skip)) = some lp_L_eqRowS_4 from by kernel_rfl]; exact fun d z h => (eb_L_eqRowS_4 d.1 d.2.1 d.2.2.1).trans h), trivial⟩) (fun x => ef_L_eqRowS x.1 x.2.1)
noncomputable def pl_L_eqGroup : Plan := ⟨[], [], 0, 0⟩
noncomputable def f_L_eqGroup (t0 : PV Y_impl_Group) (t1 : PV Y_impl_Group) : Option (PVs [.bool] × PVs []) :=
  bif (!(t0.1 == t1.1)) then
    some ((false, ()), ())
  else
    bif (!(t0.2.1 == t1.2.1)) then
      some ((false, ()), ())
    else
      (f_L_eqRowS t0.2.2.1 t1.2.2.1).bind fun r4 =>
        bif (!r4.1.1) then
          some ((false, ()), ())
        else
          some ((true, ()), ())
noncomputable def ct_L_eqGroup : Ct := ⟨[(.bor, Y_impl_Group), (.bor, Y_impl_Group)], [(.bool, false)], fun x => f_L_eqGroup x.1 x.2.1⟩
noncomputable def cx_L_eqGroup : Cx := ⟨tab, arrs, [(93, ct_L_eqRowS)], []⟩
theorem ef_L_eqGroup (t0 : PV Y_impl_Group) (t1 : PV Y_impl_Group) : denF cx_L_eqGroup 0 pl_L_eqGroup Try.f47.ntmps (bodyOf Try.f47) Try.f47.results.toList [(.bor, Y_impl_Group), (.bor, Y_impl_Group)] [(.bool, false)] (t0, t1, ()) = f_L_eqGroup t0 t1 := by kernel_rfl
theorem ok_L_eqGroup : FnOk Try.prog 47 ct_L_eqGroup :=
  fnOk (cx := cx_L_eqGroup) (pl := pl_L_eqGroup) (dp := 0) (ok0_of tabOk (by unfold ArrOk; kernel_rfl) mix ⟨ok_L_eqRowS, trivial⟩ trivial) Try.func47 (by kernel_rfl) (by kernel_rfl) (by kernel_rfl)
    (by rw [show loopsOf (bodyOf Try.f47) = [] from by kernel_rfl]; exact trivial) (fun x => ef_L_eqGroup x.1 x.2.1)
noncomputable def o_L_FnExactHalfText_9 : List Out := [⟨.normal, ⟨[], [2, 8, 38]⟩, mkSh 44 [(2, .var Y_laws_Group .b), (8, .var Y_impl_Group (.pr .b (.pr .b (.pr (.row (.pr .b (.pr .b .b))) .b)))), (38, .val .bool .b)]⟩]
noncomputable def pl_L_FnExactHalfText : Plan := ⟨[(9, o_L_FnExactHalfText_9)], [], 0, 0⟩
noncomputable def f_L_FnExactHalfText (t0 : PV Y_laws_Group) (t1 : PV .bool) : Option (PVs [.bool] × PVs []) :=
  (f_L_szGroup t0 1048576).bind fun r2 =>
    bif (decide (r2.1.1 < 0)) then
      some ((true, ()), ())
    else
      (f_L_toGroup t0).bind fun r5 =>
        (f_S_HalfText r5.1.1 t1).bind fun r6 =>
          (f_L_toGroup t0).bind fun r8 =>
            (f_I_HalfText r8.1.1 t1).bind fun r10 =>
              ((
                  bif (!(r10.1.1 == r6.1.1)) then
                    some (t0, r8.1.1, true, ())
                  else
                    some (t0, r8.1.1, (!(r10.1.2.1 == r6.1.2.1)), ()) : Option ((PV Y_laws_Group × PV Y_impl_Group × PV .bool × Unit)))).bind fun j12 =>
                bif j12.2.2.1 then
                  some ((false, ()), ())
                else
                  (f_L_toGroup j12.1).bind fun r19 =>
                    (f_L_eqGroup j12.2.1 r19.1.1).bind fun r20 =>
                      bif (!r20.1.1) then
                        some ((false, ()), ())
                      else
                        some ((true, ()), ())
noncomputable def ct_L_FnExactHalfText : Ct := ⟨[(.bor, Y_laws_Group), (.bor, .bool)], [(.bool, false)], fun x => f_L_FnExactHalfText x.1 x.2.1⟩
noncomputable def cx_L_FnExactHalfText : Cx := ⟨tab, arrs, [(43, ct_L_szGroup), (44, ct_S_HalfText), (45, ct_L_toGroup), (46, ct_I_HalfText), (47, ct_L_eqGroup)], []⟩
theorem ef_L_FnExactHalfText (t0 : PV Y_laws_Group) (t1 : PV .bool) : denF cx_L_FnExactHalfText 0 pl_L_FnExactHalfText Try.f8.ntmps (bodyOf Try.f8) Try.f8.results.toList [(.bor, Y_laws_Group), (.bor, .bool)] [(.bool, false)] (t0, t1, ()) = f_L_FnExactHalfText t0 t1 := by kernel_rfl
theorem ok_L_FnExactHalfText : FnOk Try.prog 8 ct_L_FnExactHalfText :=
  fnOk (cx := cx_L_FnExactHalfText) (pl := pl_L_FnExactHalfText) (dp := 0) (ok0_of tabOk (by unfold ArrOk; kernel_rfl) mix ⟨ok_L_szGroup, ok_S_HalfText, ok_L_toGroup, ok_I_HalfText, ok_L_eqGroup, trivial⟩ trivial) Try.func8 (by kernel_rfl) (by kernel_rfl) (by kernel_rfl)
    (by rw [show loopsOf (bodyOf Try.f8) = [] from by kernel_rfl]; exact trivial) (fun x => ef_L_FnExactHalfText x.1 x.2.1)
end R
