/- The functions that L_FnExactBackGroups, L_FnExactApplyGroups reach, as pure functions, and that the program computes them. -/
import Derived.Test.YthcnbokoghjkjaaFd
import Derived.Test.YthcnbokoghjkjaaFe
import Derived.Test.YthcnbokoghjkjaaFg
import Derived.Test.YthcnbokoghjkjaaEd
import Derived.Test.YthcnbokoghjkjaaChecked
import Derived.KernelRfl
open Go Go.Dn Go.Proofs
namespace R
set_option linter.unusedVariables false
@[reducible] def S_string : Ty := (.slice 9 .str)
@[reducible] def S_uint8 : Ty := (.slice 5 (.int .u8))
@[reducible] def S_int : Ty := (.slice 3 (.int .i64))
@[reducible] def S_S_string : Ty := (.slice 31 S_string)
@[reducible] def S_S_int : Ty := (.slice 132 S_int)
@[reducible] def Y_impl_Row : Ty := (.pair (.int .i64) (.pair .str .unit))
@[reducible] def S_laws_Row : Ty := (.slice 207 Y_impl_Row)
@[reducible] def S_impl_Row : Ty := (.slice 170 Y_impl_Row)
@[reducible] def Y_impl_Hunk : Ty := (.pair (.int .i64) (.pair (.int .i64) (.pair S_string .unit)))
@[reducible] def S_impl_Hunk : Ty := (.slice 111 Y_impl_Hunk)
@[reducible] def Y_impl_Order : Ty := (.pair (.int .i64) Y_impl_Hunk)
@[reducible] def S_S_impl_Hunk : Ty := (.slice 38 S_impl_Hunk)
@[reducible] def S_impl_Order : Ty := (.slice 145 Y_impl_Order)
@[reducible] def Y_laws_Group : Ty := (.pair (.int .i64) (.pair (.int .i64) (.pair S_laws_Row .unit)))
@[reducible] def Y_impl_Group : Ty := (.pair (.int .i64) (.pair (.int .i64) (.pair S_impl_Row .unit)))
@[reducible] def Y_impl_Part : Ty := (.pair (.int .i64) (.pair (.int .i64) (.pair (.int .i64) (.pair S_string (.pair S_string .unit)))))
@[reducible] def S_laws_Group : Ty := (.slice 95 Y_laws_Group)
@[reducible] def S_impl_Group : Ty := (.slice 99 Y_impl_Group)
@[reducible] def S_impl_Part : Ty := (.slice 150 Y_impl_Part)
@[reducible] def Y_impl_Series : Ty := (.pair S_string (.pair S_S_impl_Hunk .unit))
noncomputable def tab : List (TypeId × Ty) := [(3, (.int .i64)), (4, .bool), (5, (.int .u8)), (9, .str), (22, S_laws_Group), (24, S_impl_Group), (31, S_string), (38, S_impl_Hunk), (49, S_S_impl_Hunk), (51, Y_impl_Series), (59, S_S_string), (61, S_S_int), (69, S_impl_Order), (77, S_impl_Part), (93, S_laws_Row), (95, Y_laws_Group), (97, S_impl_Row), (99, Y_impl_Group), (111, Y_impl_Hunk), (132, S_int), (145, Y_impl_Order), (150, Y_impl_Part), (170, Y_impl_Row), (174, S_uint8), (207, Y_impl_Row)]
noncomputable def arrs : List TypeId := []
theorem tabOk : TabOk Try.prog tab := by unfold TabOk; kernel_rfl
theorem mix : Try.prog.follows .mixedOrders = true := by kernel_rfl
open Go.Shelf
set_option maxRecDepth 20000
def lays_strings_Contains_ren : Go.Shelf.Ren := ⟨fun | 0 => 0 | 1 => 1 | 2 => 2 | 99 => 193 | 100 => 206 | 102 => 212 | 143 => 230 | 144 => 220 | 156 => 134 | 165 => 180 | 166 => 181 | 169 => 182 | 193 => 87 | 206 => 219 | 207 => 225 | 209 => 228 | 212 => 223 | 217 => 235 | 219 => 234 | 224 => 237 | 225 => 236 | 240 => 210 | 241 => 211 | 263 => 231 | 264 => 232 | 266 => 239 | 267 => 238 | 276 => 226 | 277 => 227 | 314 => 240 | 347 => 241 | 348 => 242 | 349 => 243 | 350 => 244 | 351 => 245 | 352 => 246 | 353 => 247 | 354 => 248 | 355 => 249 | 356 => 250 | 357 => 251 | 358 => 252 | 359 => 253 | 360 => 254 | 361 => 255 | 362 => 259 | 366 => 260 | n => n, fun | 0 => 0 | 1 => 1 | 2 => 2 | 3 => 3 | 4 => 4 | 5 => 5 | 6 => 6 | 7 => 7 | 8 => 8 | 9 => 9 | 10 => 10 | 11 => 11 | 12 => 12 | 13 => 13 | 14 => 14 | 15 => 15 | 16 => 16 | 17 => 17 | 18 => 18 | 19 => 19 | 20 => 20 | 21 => 21 | 22 => 205 | 23 => 217 | 24 => 82 | 27 => 231 | 28 => 132 | 30 => 136 | 31 => 31 | 34 => 135 | 37 => 174 | 43 => 143 | 46 => 224 | 51 => 232 | 53 => 235 | 55 => 239 | 67 => 156 | 69 => 198 | 70 => 188 | 71 => 189 | 72 => 190 | 73 => 191 | 74 => 192 | 75 => 193 | 76 => 194 | 77 => 195 | 80 => 196 | 81 => 247 | 83 => 124 | 100 => 238 | 101 => 40 | 102 => 37 | 104 => 175 | 109 => 225 | 110 => 226 | 114 => 240 | 127 => 216 | 131 => 130 | 146 => 233 | 147 => 234 | 148 => 236 | 149 => 237 | 151 => 241 | 164 => 227 | 165 => 228 | 166 => 229 | 238 => 242 | 239 => 243 | 240 => 244 | 241 => 245 | 242 => 246 | 243 => 248 | 244 => 249 | 245 => 250 | 246 => 251 | 247 => 252 | 248 => 253 | 249 => 254 | n => n, fun | 1 => 0 | n => n⟩
theorem lays_strings_Contains : Go.Proofs.Lays.n144 Try.prog lays_strings_Contains_ren where
  mixed := by kernel_rfl
  f143 := Try.func230.trans (congrArg some (by kernel_rfl))
  f144 := Try.func220.trans (congrArg some (by kernel_rfl))
  f217 := Try.func235.trans (congrArg some (by kernel_rfl))
  f219 := Try.func234.trans (congrArg some (by kernel_rfl))
  f224 := Try.func237.trans (congrArg some (by kernel_rfl))
  f225 := Try.func236.trans (congrArg some (by kernel_rfl))
  f266 := Try.func239.trans (congrArg some (by kernel_rfl))
  f267 := Try.func238.trans (congrArg some (by kernel_rfl))
  f314 := Try.func240.trans (congrArg some (by kernel_rfl))
  t3 := Try.underlying3
  a3 := Try.isAgg3
  z3 := Try.sizeOf3
  v3 := Try.zeroValue3
  t4 := Try.underlying4
  a4 := Try.isAgg4
  z4 := Try.sizeOf4
  v4 := Try.zeroValue4
  t5 := Try.underlying5
  a5 := Try.isAgg5
  z5 := Try.sizeOf5
  v5 := Try.zeroValue5
  t9 := Try.underlying9
  a9 := Try.isAgg9
  z9 := Try.sizeOf9
  v9 := Try.zeroValue9
  t46 := Try.underlying224
  a46 := Try.isAgg224
  z46 := Try.sizeOf224
  v46 := Try.zeroValue224
  t51 := Try.underlying232
  a51 := Try.isAgg232
  z51 := Try.sizeOf232
  v51 := Try.zeroValue232
  t146 := Try.underlying233
  a146 := Try.isAgg233
  z146 := Try.sizeOf233
  v146 := Try.zeroValue233
  g1 := by kernel_rfl
noncomputable def f_strings_Contains (t0 : PV .str) (t1 : PV .str) : Option (PVs [.bool] × PVs []) := Go.Dn.containsF t0 t1
noncomputable def ct_strings_Contains : Ct := ⟨[(.bor, .str), (.bor, .str)], [(.bool, false)], fun x => f_strings_Contains x.1 x.2.1⟩
theorem ok_strings_Contains : FnOk Try.prog 220 ct_strings_Contains := Go.Dn.contains_ok lays_strings_Contains
noncomputable def pl_L_szRow : Plan := ⟨[], [], 0, 0⟩
noncomputable def f_L_szRow (t0 : PV Y_impl_Row) (t1 : PV (.int .i64)) : Option (PVs [(.int .i64)] × PVs []) :=
  bif (decide ((IntKind.wrap .i64 (t1 - (t0.2.1.length : Int))) < 0)) then
    some (((-1), ()), ())
  else
    some (((IntKind.wrap .i64 (t1 - (t0.2.1.length : Int))), ()), ())
noncomputable def ct_L_szRow : Ct := ⟨[(.bor, Y_impl_Row), (.bor, (.int .i64))], [((.int .i64), false)], fun x => f_L_szRow x.1 x.2.1⟩
noncomputable def cx_L_szRow : Cx := ⟨tab, arrs, [], []⟩
theorem ef_L_szRow (t0 : PV Y_impl_Row) (t1 : PV (.int .i64)) : denF cx_L_szRow 0 pl_L_szRow Try.f194.ntmps (bodyOf Try.f194) Try.f194.results.toList [(.bor, Y_impl_Row), (.bor, (.int .i64))] [((.int .i64), false)] (t0, t1, ()) = f_L_szRow t0 t1 := by kernel_rfl
theorem ok_L_szRow : FnOk Try.prog 194 ct_L_szRow :=
  fnOk (cx := cx_L_szRow) (pl := pl_L_szRow) (dp := 0) (ok0_of tabOk (by unfold ArrOk; kernel_rfl) mix trivial trivial) Try.func194 (by kernel_rfl) (by kernel_rfl) (by kernel_rfl)
    (by rw [show loopsOf (bodyOf Try.f194) = [] from by kernel_rfl]; exact trivial) (fun x => ef_L_szRow x.1 x.2.1)
noncomputable def sh_L_szRowS_5 : List Sh := mkSh 27 [(0, .val S_laws_Row .b), (1, .val (.int .i64) .b), (5, .val (.int .i64) .b)]
noncomputable def o_L_szRowS_5 : List Out := [⟨.exit 0, ⟨[], [1]⟩, mkSh 27 [(1, .val (.int .i64) .b)]⟩, ⟨.ret, ⟨[], [4]⟩, mkSh 27 [(4, .val (.int .i64) .b)]⟩]
noncomputable def b_L_szRowS_5 (t0 : PV S_laws_Row) (t1 : PV (.int .i64)) (t5 : PV (.int .i64)) : Option ((PV S_laws_Row × PV (.int .i64) × PV (.int .i64) × Unit) ⊕ ((PV (.int .i64) × Unit) ⊕ (PV (.int .i64) × Unit))) :=
  bif (decide (t5 < (t0.length : Int))) then
    bif inB t5 t0.length then
      (f_L_szRow (t0.getD t5.toNat (dflt Y_impl_Row)) t1).bind fun r4 =>
        bif (decide (r4.1.1 < 0)) then
          some (.inr (.inr ((-1), ())))
        else
          some (.inl (t0, r4.1.1, (IntKind.wrap .i64 (t5 + 1)), ()))
    else
      none
  else
    some (.inr (.inl (t1, ())))
noncomputable def w_L_szRowS_5 : PV S_laws_Row × PV (.int .i64) × PV (.int .i64) × Unit → Option ((PV (.int .i64) × Unit) ⊕ (PV (.int .i64) × Unit)) := fix fun d => b_L_szRowS_5 d.1 d.2.1 d.2.2.1
noncomputable def lp_L_szRowS_5 : Lp := ⟨⟨[], [0, 1, 5]⟩, sh_L_szRowS_5, o_L_szRowS_5, fun d => b_L_szRowS_5 d.1 d.2.1 d.2.2.1⟩
noncomputable def pl_L_szRowS : Plan := ⟨[], [(5, lp_L_szRowS_5)], 0, 0⟩
noncomputable def f_L_szRowS (t0 : PV S_laws_Row) (t1 : PV (.int .i64)) : Option (PVs [(.int .i64)] × PVs []) :=
  bif (decide ((IntKind.wrap .i64 (t1 - (t0.length : Int))) < 0)) then
    some (((-1), ()), ())
  else
    (w_L_szRowS_5 (t0, (IntKind.wrap .i64 (t1 - (t0.length : Int))), 0, ())).bind fun x9 =>
      match x9 with
      | .inl l7 =>
        some ((l7.1, ()), ())
      | .inr l8 =>
        some ((l8.1, ()), ())
noncomputable def ct_L_szRowS : Ct := ⟨[(.bor, S_laws_Row), (.bor, (.int .i64))], [((.int .i64), false)], fun x => f_L_szRowS x.1 x.2.1⟩
noncomputable def cx_L_szRowS : Cx := ⟨tab, arrs, [(194, ct_L_szRow)], []⟩
theorem eb_L_szRowS_5 (t0 : PV S_laws_Row) (t1 : PV (.int .i64)) (t5 : PV (.int .i64)) : denK cx_L_szRowS (rcN cx_L_szRowS 0) pl_L_szRowS 0 ((loopsOf (bodyOf Try.f146)).getD 0 .skip) (fillS sh_L_szRowS_5 (t0, t1, t5, ())) (roundK 0 lp_L_szRowS_5) = b_L_szRowS_5 t0 t1 t5 := by kernel_rfl
theorem ef_L_szRowS (t0 : PV S_laws_Row) (t1 : PV (.int .i64)) : denF cx_L_szRowS 0 pl_L_szRowS Try.f146.ntmps (bodyOf Try.f146) Try.f146.results.toList [(.bor, S_laws_Row), (.bor, (.int .i64))] [((.int .i64), false)] (t0, t1, ()) = f_L_szRowS t0 t1 := by kernel_rfl
theorem ok_L_szRowS : FnOk Try.prog 146 ct_L_szRowS :=
  fnOk (cx := cx_L_szRowS) (pl := pl_L_szRowS) (dp := 0) (ok0_of tabOk (by unfold ArrOk; kernel_rfl) mix ⟨ok_L_szRow, trivial⟩ trivial) Try.func146 (by kernel_rfl) (by kernel_rfl) (by kernel_rfl)
    (by rw [show loopsOf (bodyOf Try.f146) = [((loopsOf (bodyOf Try.f146)).getD 0 .skip)] from by kernel_rfl]; exact ⟨(by rw [show lookup pl_L_szRowS.loops (firstId ((loopsOf (bodyOf Try.f146)).getD 0 .skip)) = some lp_L_szRowS_5 from by kernel_rfl]; exact fun d z h => (eb_L_szRowS_5 d.1 d.2.1 d.2.2.1).trans h), trivial⟩) (fun x => ef_L_szRowS x.1 x.2.1)
noncomputable def pl_L_szGroup : Plan := ⟨[], [], 0, 0⟩
noncomputable def f_L_szGroup (t0 : PV Y_laws_Group) (t1 : PV (.int .i64)) : Option (PVs [(.int .i64)] × PVs []) :=
  (f_L_szRowS t0.2.2.1 t1).bind fun r2 =>
    bif (decide (r2.1.1 < 0)) then
      some (((-1), ()), ())
    else
      some ((r2.1.1, ()), ())
noncomputable def ct_L_szGroup : Ct := ⟨[(.bor, Y_laws_Group), (.bor, (.int .i64))], [((.int .i64), false)], fun x => f_L_szGroup x.1 x.2.1⟩
noncomputable def cx_L_szGroup : Cx := ⟨tab, arrs, [(146, ct_L_szRowS)], []⟩
theorem ef_L_szGroup (t0 : PV Y_laws_Group) (t1 : PV (.int .i64)) : denF cx_L_szGroup 0 pl_L_szGroup Try.f70.ntmps (bodyOf Try.f70) Try.f70.results.toList [(.bor, Y_laws_Group), (.bor, (.int .i64))] [((.int .i64), false)] (t0, t1, ()) = f_L_szGroup t0 t1 := by kernel_rfl
theorem ok_L_szGroup : FnOk Try.prog 70 ct_L_szGroup :=
  fnOk (cx := cx_L_szGroup) (pl := pl_L_szGroup) (dp := 0) (ok0_of tabOk (by unfold ArrOk; kernel_rfl) mix ⟨ok_L_szRowS, trivial⟩ trivial) Try.func70 (by kernel_rfl) (by kernel_rfl) (by kernel_rfl)
    (by rw [show loopsOf (bodyOf Try.f70) = [] from by kernel_rfl]; exact trivial) (fun x => ef_L_szGroup x.1 x.2.1)
noncomputable def sh_L_szGroupS_5 : List Sh := mkSh 27 [(0, .val S_laws_Group .b), (1, .val (.int .i64) .b), (5, .val (.int .i64) .b)]
noncomputable def o_L_szGroupS_5 : List Out := [⟨.exit 0, ⟨[], [1]⟩, mkSh 27 [(1, .val (.int .i64) .b)]⟩, ⟨.ret, ⟨[], [4]⟩, mkSh 27 [(4, .val (.int .i64) .b)]⟩]
noncomputable def b_L_szGroupS_5 (t0 : PV S_laws_Group) (t1 : PV (.int .i64)) (t5 : PV (.int .i64)) : Option ((PV S_laws_Group × PV (.int .i64) × PV (.int .i64) × Unit) ⊕ ((PV (.int .i64) × Unit) ⊕ (PV (.int .i64) × Unit))) :=
  bif (decide (t5 < (t0.length : Int))) then
    bif inB t5 t0.length then
      (f_L_szGroup (t0.getD t5.toNat (dflt Y_laws_Group)) t1).bind fun r4 =>
        bif (decide (r4.1.1 < 0)) then
          some (.inr (.inr ((-1), ())))
        else
          some (.inl (t0, r4.1.1, (IntKind.wrap .i64 (t5 + 1)), ()))
    else
      none
  else
    some (.inr (.inl (t1, ())))
noncomputable def w_L_szGroupS_5 : PV S_laws_Group × PV (.int .i64) × PV (.int .i64) × Unit → Option ((PV (.int .i64) × Unit) ⊕ (PV (.int .i64) × Unit)) := fix fun d => b_L_szGroupS_5 d.1 d.2.1 d.2.2.1
noncomputable def lp_L_szGroupS_5 : Lp := ⟨⟨[], [0, 1, 5]⟩, sh_L_szGroupS_5, o_L_szGroupS_5, fun d => b_L_szGroupS_5 d.1 d.2.1 d.2.2.1⟩
noncomputable def pl_L_szGroupS : Plan := ⟨[], [(5, lp_L_szGroupS_5)], 0, 0⟩
noncomputable def f_L_szGroupS (t0 : PV S_laws_Group) (t1 : PV (.int .i64)) : Option (PVs [(.int .i64)] × PVs []) :=
  bif (decide ((IntKind.wrap .i64 (t1 - (t0.length : Int))) < 0)) then
    some (((-1), ()), ())
  else
    (w_L_szGroupS_5 (t0, (IntKind.wrap .i64 (t1 - (t0.length : Int))), 0, ())).bind fun x9 =>
      match x9 with
      | .inl l7 =>
        some ((l7.1, ()), ())
      | .inr l8 =>
        some ((l8.1, ()), ())
noncomputable def ct_L_szGroupS : Ct := ⟨[(.bor, S_laws_Group), (.bor, (.int .i64))], [((.int .i64), false)], fun x => f_L_szGroupS x.1 x.2.1⟩
noncomputable def cx_L_szGroupS : Cx := ⟨tab, arrs, [(70, ct_L_szGroup)], []⟩
theorem eb_L_szGroupS_5 (t0 : PV S_laws_Group) (t1 : PV (.int .i64)) (t5 : PV (.int .i64)) : denK cx_L_szGroupS (rcN cx_L_szGroupS 0) pl_L_szGroupS 0 ((loopsOf (bodyOf Try.f14)).getD 0 .skip) (fillS sh_L_szGroupS_5 (t0, t1, t5, ())) (roundK 0 lp_L_szGroupS_5) = b_L_szGroupS_5 t0 t1 t5 := by kernel_rfl
theorem ef_L_szGroupS (t0 : PV S_laws_Group) (t1 : PV (.int .i64)) : denF cx_L_szGroupS 0 pl_L_szGroupS Try.f14.ntmps (bodyOf Try.f14) Try.f14.results.toList [(.bor, S_laws_Group), (.bor, (.int .i64))] [((.int .i64), false)] (t0, t1, ()) = f_L_szGroupS t0 t1 := by kernel_rfl
theorem ok_L_szGroupS : FnOk Try.prog 14 ct_L_szGroupS :=
  fnOk (cx := cx_L_szGroupS) (pl := pl_L_szGroupS) (dp := 0) (ok0_of tabOk (by unfold ArrOk; kernel_rfl) mix ⟨ok_L_szGroup, trivial⟩ trivial) Try.func14 (by kernel_rfl) (by kernel_rfl) (by kernel_rfl)
    (by rw [show loopsOf (bodyOf Try.f14) = [((loopsOf (bodyOf Try.f14)).getD 0 .skip)] from by kernel_rfl]; exact ⟨(by rw [show lookup pl_L_szGroupS.loops (firstId ((loopsOf (bodyOf Try.f14)).getD 0 .skip)) = some lp_L_szGroupS_5 from by kernel_rfl]; exact fun d z h => (eb_L_szGroupS_5 d.1 d.2.1 d.2.2.1).trans h), trivial⟩) (fun x => ef_L_szGroupS x.1 x.2.1)
noncomputable def pl_L_toRow : Plan := ⟨[], [], 0, 0⟩
noncomputable def f_L_toRow (t0 : PV Y_impl_Row) : Option (PVs [Y_impl_Row] × PVs []) :=
  some (((t0.1, (t0.2.1, ())), ()), ())
noncomputable def ct_L_toRow : Ct := ⟨[(.bor, Y_impl_Row)], [(Y_impl_Row, false)], fun x => f_L_toRow x.1⟩
noncomputable def cx_L_toRow : Cx := ⟨tab, arrs, [], []⟩
theorem ef_L_toRow (t0 : PV Y_impl_Row) : denF cx_L_toRow 0 pl_L_toRow Try.f196.ntmps (bodyOf Try.f196) Try.f196.results.toList [(.bor, Y_impl_Row)] [(Y_impl_Row, false)] (t0, ()) = f_L_toRow t0 := by kernel_rfl
theorem ok_L_toRow : FnOk Try.prog 196 ct_L_toRow :=
  fnOk (cx := cx_L_toRow) (pl := pl_L_toRow) (dp := 0) (ok0_of tabOk (by unfold ArrOk; kernel_rfl) mix trivial trivial) Try.func196 (by kernel_rfl) (by kernel_rfl) (by kernel_rfl)
    (by rw [show loopsOf (bodyOf Try.f196) = [] from by kernel_rfl]; exact trivial) (fun x => ef_L_toRow x.1)
noncomputable def sh_L_toRowS_3 : List Sh := mkSh 23 [(0, .val S_laws_Row .b), (3, .val S_impl_Row (.row (.pr .b (.pr .b .b)))), (4, .val (.int .i64) .b)]
noncomputable def o_L_toRowS_3 : List Out := [⟨.exit 0, ⟨[], [3]⟩, mkSh 23 [(3, .val S_impl_Row (.row (.pr .b (.pr .b .b))))]⟩]
noncomputable def b_L_toRowS_3 (t0 : PV S_laws_Row) (t3 : PV S_impl_Row) (t4 : PV (.int .i64)) : Option ((PV S_laws_Row × PV S_impl_Row × PV (.int .i64) × Unit) ⊕ ((PV S_impl_Row × Unit))) :=
  bif (decide (t4 < (t0.length : Int))) then
    bif inB t4 t0.length then
      (f_L_toRow (t0.getD t4.toNat (dflt Y_impl_Row))).bind fun r2 =>
        bif inB t4 t3.length then
          some (.inl (t0, (t3.set t4.toNat r2.1.1), (IntKind.wrap .i64 (t4 + 1)), ()))
        else
          none
    else
      none
  else
    some (.inr (t3, ()))
noncomputable def w_L_toRowS_3 : PV S_laws_Row × PV S_impl_Row × PV (.int .i64) × Unit → Option ((PV S_impl_Row × Unit)) := fix fun d => b_L_toRowS_3 d.1 d.2.1 d.2.2.1
noncomputable def lp_L_toRowS_3 : Lp := ⟨⟨[], [0, 3, 4]⟩, sh_L_toRowS_3, o_L_toRowS_3, fun d => b_L_toRowS_3 d.1 d.2.1 d.2.2.1⟩
noncomputable def pl_L_toRowS : Plan := ⟨[], [(3, lp_L_toRowS_3)], 0, 0⟩
noncomputable def f_L_toRowS (t0 : PV S_laws_Row) : Option (PVs [S_impl_Row] × PVs []) :=
  bif decide (0 ≤ (t0.length : Int)) && (decide ((t0.length : Int) ≤ (t0.length : Int)) && roomB (t0.length : Int).toNat) then
    (w_L_toRowS_3 (t0, (List.replicate (t0.length : Int).toNat (dflt Y_impl_Row)), 0, ())).bind fun l4 =>
      some ((l4.1, ()), ())
  else
    none
noncomputable def ct_L_toRowS : Ct := ⟨[(.bor, S_laws_Row)], [(S_impl_Row, true)], fun x => f_L_toRowS x.1⟩
noncomputable def cx_L_toRowS : Cx := ⟨tab, arrs, [(196, ct_L_toRow)], []⟩
theorem eb_L_toRowS_3 (t0 : PV S_laws_Row) (t3 : PV S_impl_Row) (t4 : PV (.int .i64)) : denK cx_L_toRowS (rcN cx_L_toRowS 0) pl_L_toRowS 0 ((loopsOf (bodyOf Try.f150)).getD 0 .skip) (fillS sh_L_toRowS_3 (t0, t3, t4, ())) (roundK 0 lp_L_toRowS_3) = b_L_toRowS_3 t0 t3 t4 := by kernel_rfl
theorem ef_L_toRowS (t0 : PV S_laws_Row) : denF cx_L_toRowS 0 pl_L_toRowS Try.f150.ntmps (bodyOf Try.f150) Try.f150.results.toList [(.bor, S_laws_Row)] [(S_impl_Row, true)] (t0, ()) = f_L_toRowS t0 := by kernel_rfl
theorem ok_L_toRowS : FnOk Try.prog 150 ct_L_toRowS :=
  fnOk (cx := cx_L_toRowS) (pl := pl_L_toRowS) (dp := 0) (ok0_of tabOk (by unfold ArrOk; kernel_rfl) mix ⟨ok_L_toRow, trivial⟩ trivial) Try.func150 (by kernel_rfl) (by kernel_rfl) (by kernel_rfl)
    (by rw [show loopsOf (bodyOf Try.f150) = [((loopsOf (bodyOf Try.f150)).getD 0 .skip)] from by kernel_rfl]; exact ⟨(by rw [show lookup pl_L_toRowS.loops (firstId ((loopsOf (bodyOf Try.f150)).getD 0 .skip)) = some lp_L_toRowS_3 from by kernel_rfl]; exact fun d z h => (eb_L_toRowS_3 d.1 d.2.1 d.2.2.1).trans h), trivial⟩) (fun x => ef_L_toRowS x.1)
noncomputable def pl_L_toGroup : Plan := ⟨[], [], 0, 0⟩
noncomputable def f_L_toGroup (t0 : PV Y_laws_Group) : Option (PVs [Y_impl_Group] × PVs []) :=
  (f_L_toRowS t0.2.2.1).bind fun r2 =>
    some (((t0.1, (t0.2.1, (r2.1.1, ()))), ()), ())
noncomputable def ct_L_toGroup : Ct := ⟨[(.bor, Y_laws_Group)], [(Y_impl_Group, true)], fun x => f_L_toGroup x.1⟩
noncomputable def cx_L_toGroup : Cx := ⟨tab, arrs, [(150, ct_L_toRowS)], []⟩
theorem ef_L_toGroup (t0 : PV Y_laws_Group) : denF cx_L_toGroup 0 pl_L_toGroup Try.f73.ntmps (bodyOf Try.f73) Try.f73.results.toList [(.bor, Y_laws_Group)] [(Y_impl_Group, true)] (t0, ()) = f_L_toGroup t0 := by kernel_rfl
theorem ok_L_toGroup : FnOk Try.prog 73 ct_L_toGroup :=
  fnOk (cx := cx_L_toGroup) (pl := pl_L_toGroup) (dp := 0) (ok0_of tabOk (by unfold ArrOk; kernel_rfl) mix ⟨ok_L_toRowS, trivial⟩ trivial) Try.func73 (by kernel_rfl) (by kernel_rfl) (by kernel_rfl)
    (by rw [show loopsOf (bodyOf Try.f73) = [] from by kernel_rfl]; exact trivial) (fun x => ef_L_toGroup x.1)
noncomputable def sh_L_toGroupS_3 : List Sh := mkSh 23 [(0, .val S_laws_Group .b), (3, .val S_impl_Group (.row (.pr .b (.pr .b (.pr (.row (.pr .b (.pr .b .b))) .b))))), (4, .val (.int .i64) .b)]
noncomputable def o_L_toGroupS_3 : List Out := [⟨.exit 0, ⟨[], [3]⟩, mkSh 23 [(3, .val S_impl_Group (.row (.pr .b (.pr .b (.pr (.row (.pr .b (.pr .b .b))) .b)))))]⟩]
noncomputable def b_L_toGroupS_3 (t0 : PV S_laws_Group) (t3 : PV S_impl_Group) (t4 : PV (.int .i64)) : Option ((PV S_laws_Group × PV S_impl_Group × PV (.int .i64) × Unit) ⊕ ((PV S_impl_Group × Unit))) :=
  bif (decide (t4 < (t0.length : Int))) then
    bif inB t4 t0.length then
      (f_L_toGroup (t0.getD t4.toNat (dflt Y_laws_Group))).bind fun r2 =>
        bif inB t4 t3.length then
          some (.inl (t0, (t3.set t4.toNat r2.1.1), (IntKind.wrap .i64 (t4 + 1)), ()))
        else
          none
    else
      none
  else
    some (.inr (t3, ()))
noncomputable def w_L_toGroupS_3 : PV S_laws_Group × PV S_impl_Group × PV (.int .i64) × Unit → Option ((PV S_impl_Group × Unit)) := fix fun d => b_L_toGroupS_3 d.1 d.2.1 d.2.2.1
noncomputable def lp_L_toGroupS_3 : Lp := ⟨⟨[], [0, 3, 4]⟩, sh_L_toGroupS_3, o_L_toGroupS_3, fun d => b_L_toGroupS_3 d.1 d.2.1 d.2.2.1⟩
noncomputable def pl_L_toGroupS : Plan := ⟨[], [(3, lp_L_toGroupS_3)], 0, 0⟩
noncomputable def f_L_toGroupS (t0 : PV S_laws_Group) : Option (PVs [S_impl_Group] × PVs []) :=
  bif decide (0 ≤ (t0.length : Int)) && (decide ((t0.length : Int) ≤ (t0.length : Int)) && roomB (t0.length : Int).toNat) then
    (w_L_toGroupS_3 (t0, (List.replicate (t0.length : Int).toNat (dflt Y_impl_Group)), 0, ())).bind fun l4 =>
      some ((l4.1, ()), ())
  else
    none
noncomputable def ct_L_toGroupS : Ct := ⟨[(.bor, S_laws_Group)], [(S_impl_Group, true)], fun x => f_L_toGroupS x.1⟩
noncomputable def cx_L_toGroupS : Cx := ⟨tab, arrs, [(73, ct_L_toGroup)], []⟩
theorem eb_L_toGroupS_3 (t0 : PV S_laws_Group) (t3 : PV S_impl_Group) (t4 : PV (.int .i64)) : denK cx_L_toGroupS (rcN cx_L_toGroupS 0) pl_L_toGroupS 0 ((loopsOf (bodyOf Try.f16)).getD 0 .skip) (fillS sh_L_toGroupS_3 (t0, t3, t4, ())) (roundK 0 lp_L_toGroupS_3) = b_L_toGroupS_3 t0 t3 t4 := by kernel_rfl
theorem ef_L_toGroupS (t0 : PV S_laws_Group) : denF cx_L_toGroupS 0 pl_L_toGroupS Try.f16.ntmps (bodyOf Try.f16) Try.f16.results.toList [(.bor, S_laws_Group)] [(S_impl_Group, true)] (t0, ()) = f_L_toGroupS t0 := by kernel_rfl
theorem ok_L_toGroupS : FnOk Try.prog 16 ct_L_toGroupS :=
  fnOk (cx := cx_L_toGroupS) (pl := pl_L_toGroupS) (dp := 0) (ok0_of tabOk (by unfold ArrOk; kernel_rfl) mix ⟨ok_L_toGroup, trivial⟩ trivial) Try.func16 (by kernel_rfl) (by kernel_rfl) (by kernel_rfl)
    (by rw [show loopsOf (bodyOf Try.f16) = [((loopsOf (bodyOf Try.f16)).getD 0 .skip)] from by kernel_rfl]; exact ⟨(by rw [show lookup pl_L_toGroupS.loops (firstId ((loopsOf (bodyOf Try.f16)).getD 0 .skip)) = some lp_L_toGroupS_3 from by kernel_rfl]; exact fun d z h => (eb_L_toGroupS_3 d.1 d.2.1 d.2.2.1).trans h), trivial⟩) (fun x => ef_L_toGroupS x.1)
noncomputable def pl_S_l1In : Plan := ⟨[], [], 0, 0⟩
noncomputable def f_S_l1In (t0 : PV (.int .i64)) (t1 : PV (.int .i64)) (t2 : PV (.int .i64)) : Option (PVs [.bool] × PVs []) :=
  bif (decide (t0 ≥ t1)) then
    some (((decide (t0 ≤ t2)), ()), ())
  else
    some ((false, ()), ())
noncomputable def ct_S_l1In : Ct := ⟨[(.bor, (.int .i64)), (.bor, (.int .i64)), (.bor, (.int .i64))], [(.bool, false)], fun x => f_S_l1In x.1 x.2.1 x.2.2.1⟩
noncomputable def cx_S_l1In : Cx := ⟨tab, arrs, [], []⟩
theorem ef_S_l1In (t0 : PV (.int .i64)) (t1 : PV (.int .i64)) (t2 : PV (.int .i64)) : denF cx_S_l1In 0 pl_S_l1In Try.f91.ntmps (bodyOf Try.f91) Try.f91.results.toList [(.bor, (.int .i64)), (.bor, (.int .i64)), (.bor, (.int .i64))] [(.bool, false)] (t0, t1, t2, ()) = f_S_l1In t0 t1 t2 := by kernel_rfl
theorem ok_S_l1In : FnOk Try.prog 91 ct_S_l1In :=
  fnOk (cx := cx_S_l1In) (pl := pl_S_l1In) (dp := 0) (ok0_of tabOk (by unfold ArrOk; kernel_rfl) mix trivial trivial) Try.func91 (by kernel_rfl) (by kernel_rfl) (by kernel_rfl)
    (by rw [show loopsOf (bodyOf Try.f91) = [] from by kernel_rfl]; exact trivial) (fun x => ef_S_l1In x.1 x.2.1 x.2.2.1)
noncomputable def sh_S_l1Line_2 : List Sh := mkSh 18 [(0, .val .str .b), (3, .val (.int .i64) .b)]
noncomputable def o_S_l1Line_2 : List Out := [⟨.exit 0, ⟨[], [0]⟩, mkSh 18 [(0, .val .str .b)]⟩, ⟨.ret, ⟨[], [2]⟩, mkSh 18 [(2, .val .bool .b)]⟩]
noncomputable def b_S_l1Line_2 (t0 : PV .str) (t3 : PV (.int .i64)) : Option ((PV .str × PV (.int .i64) × Unit) ⊕ ((PV .str × Unit) ⊕ (PV .bool × Unit))) :=
  bif (decide (t3 < (IntKind.wrap .i64 ((t0.length : Int) - 1)))) then
    bif inB t3 t0.length then
      bif (((t0.getD t3.toNat 0).toNat : Int) == 10) then
        some (.inr (.inr (false, ())))
      else
        some (.inl (t0, (IntKind.wrap .i64 (t3 + 1)), ()))
    else
      none
  else
    some (.inr (.inl (t0, ())))
noncomputable def w_S_l1Line_2 : PV .str × PV (.int .i64) × Unit → Option ((PV .str × Unit) ⊕ (PV .bool × Unit)) := fix fun d => b_S_l1Line_2 d.1 d.2.1
noncomputable def lp_S_l1Line_2 : Lp := ⟨⟨[], [0, 3]⟩, sh_S_l1Line_2, o_S_l1Line_2, fun d => b_S_l1Line_2 d.1 d.2.1⟩
noncomputable def pl_S_l1Line : Plan := ⟨[], [(2, lp_S_l1Line_2)], 0, 0⟩
noncomputable def f_S_l1Line (t0 : PV .str) : Option (PVs [.bool] × PVs []) :=
  (w_S_l1Line_2 (t0, 0, ())).bind fun x6 =>
    match x6 with
    | .inl l3 =>
      (f_S_l1In (l3.1.length : Int) 1 30).bind fun r4 =>
        some ((r4.1.1, ()), ())
    | .inr l5 =>
      some ((l5.1, ()), ())
noncomputable def ct_S_l1Line : Ct := ⟨[(.bor, .str)], [(.bool, false)], fun x => f_S_l1Line x.1⟩
noncomputable def cx_S_l1Line : Cx := ⟨tab, arrs, [(91, ct_S_l1In)], []⟩
theorem eb_S_l1Line_2 (t0 : PV .str) (t3 : PV (.int .i64)) : denK cx_S_l1Line (rcN cx_S_l1Line 0) pl_S_l1Line 0 ((loopsOf (bodyOf Try.f161)).getD 0 .skip) (fillS sh_S_l1Line_2 (t0, t3, ())) (roundK 0 lp_S_l1Line_2) = b_S_l1Line_2 t0 t3 := by kernel_rfl
theorem ef_S_l1Line (t0 : PV .str) : denF cx_S_l1Line 0 pl_S_l1Line Try.f161.ntmps (bodyOf Try.f161) Try.f161.results.toList [(.bor, .str)] [(.bool, false)] (t0, ()) = f_S_l1Line t0 := by kernel_rfl
theorem ok_S_l1Line : FnOk Try.prog 161 ct_S_l1Line :=
  fnOk (cx := cx_S_l1Line) (pl := pl_S_l1Line) (dp := 0) (ok0_of tabOk (by unfold ArrOk; kernel_rfl) mix ⟨ok_S_l1In, trivial⟩ trivial) Try.func161 (by kernel_rfl) (by kernel_rfl) (by kernel_rfl)
    (by rw [show loopsOf (bodyOf Try.f161) = [((loopsOf (bodyOf Try.f161)).getD 0 .skip)] from by kernel_rfl]; exact ⟨(by rw [show lookup pl_S_l1Line.loops (firstId ((loopsOf (bodyOf Try.f161)).getD 0 .skip)) = some lp_S_l1Line_2 from by kernel_rfl]; exact fun d z h => (eb_S_l1Line_2 d.1 d.2.1).trans h), trivial⟩) (fun x => ef_S_l1Line x.1)
noncomputable def o_S_l6Old_7 : List Out := [⟨.normal, ⟨[], [3, 7, 8, 9]⟩, mkSh 23 [(3, .val S_string (.row .b)), (7, .val S_impl_Row .b), (8, .val (.int .i64) .b), (9, .val (.int .i64) .b)]⟩]
noncomputable def sh_S_l6Old_3 : List Sh := mkSh 23 [(3, .val S_string (.row .b)), (7, .val S_impl_Row .b), (8, .val (.int .i64) .b), (9, .val (.int .i64) .b)]
noncomputable def o_S_l6Old_3 : List Out := [⟨.exit 0, ⟨[], [3]⟩, mkSh 23 [(3, .val S_string (.row .b))]⟩]
noncomputable def b_S_l6Old_3 (t3 : PV S_string) (t7 : PV S_impl_Row) (t8 : PV (.int .i64)) (t9 : PV (.int .i64)) : Option ((PV S_string × PV S_impl_Row × PV (.int .i64) × PV (.int .i64) × Unit) ⊕ ((PV S_string × Unit))) :=
  bif (decide (t9 < t8)) then
    ((
        bif inB t9 t7.length then
          bif (!(((t7.getD t9.toNat (dflt Y_impl_Row)).1) == 3)) then
            bif roomB (t3.length + [((t7.getD t9.toNat (dflt Y_impl_Row)).2).1].length) then
              some ((t3 ++ [((t7.getD t9.toNat (dflt Y_impl_Row)).2).1]), t7, t8, t9, ())
            else
              none
          else
            some (t3, t7, t8, t9, ())
        else
          none : Option ((PV S_string × PV S_impl_Row × PV (.int .i64) × PV (.int .i64) × Unit)))).bind fun j1 =>
      some (.inl (j1.1, j1.2.1, j1.2.2.1, (IntKind.wrap .i64 (j1.2.2.2.1 + 1)), ()))
  else
    some (.inr (t3, ()))
noncomputable def w_S_l6Old_3 : PV S_string × PV S_impl_Row × PV (.int .i64) × PV (.int .i64) × Unit → Option ((PV S_string × Unit)) := fix fun d => b_S_l6Old_3 d.1 d.2.1 d.2.2.1 d.2.2.2.1
noncomputable def lp_S_l6Old_3 : Lp := ⟨⟨[], [3, 7, 8, 9]⟩, sh_S_l6Old_3, o_S_l6Old_3, fun d => b_S_l6Old_3 d.1 d.2.1 d.2.2.1 d.2.2.2.1⟩
noncomputable def pl_S_l6Old : Plan := ⟨[(7, o_S_l6Old_7)], [(3, lp_S_l6Old_3)], 0, 0⟩
noncomputable def f_S_l6Old (t0 : PV Y_impl_Group) : Option (PVs [S_string] × PVs []) :=
  (w_S_l6Old_3 ([], t0.2.2.1, (t0.2.2.1.length : Int), 0, ())).bind fun l3 =>
    some ((l3.1, ()), ())
noncomputable def ct_S_l6Old : Ct := ⟨[(.bor, Y_impl_Group)], [(S_string, true)], fun x => f_S_l6Old x.1⟩
noncomputable def cx_S_l6Old : Cx := ⟨tab, arrs, [], []⟩
theorem eb_S_l6Old_3 (t3 : PV S_string) (t7 : PV S_impl_Row) (t8 : PV (.int .i64)) (t9 : PV (.int .i64)) : denK cx_S_l6Old (rcN cx_S_l6Old 0) pl_S_l6Old 0 ((loopsOf (bodyOf Try.f148)).getD 0 .skip) (fillS sh_S_l6Old_3 (t3, t7, t8, t9, ())) (roundK 0 lp_S_l6Old_3) = b_S_l6Old_3 t3 t7 t8 t9 := by kernel_rfl
theorem ef_S_l6Old (t0 : PV Y_impl_Group) : denF cx_S_l6Old 0 pl_S_l6Old Try.f148.ntmps (bodyOf Try.f148) Try.f148.results.toList [(.bor, Y_impl_Group)] [(S_string, true)] (t0, ()) = f_S_l6Old t0 := by kernel_rfl
theorem ok_S_l6Old : FnOk Try.prog 148 ct_S_l6Old :=
  fnOk (cx := cx_S_l6Old) (pl := pl_S_l6Old) (dp := 0) (ok0_of tabOk (by unfold ArrOk; kernel_rfl) mix trivial trivial) Try.func148 (by kernel_rfl) (by kernel_rfl) (by kernel_rfl)
    (by rw [show loopsOf (bodyOf Try.f148) = [((loopsOf (bodyOf Try.f148)).getD 0 .skip)] from by kernel_rfl]; exact ⟨(by rw [show lookup pl_S_l6Old.loops (firstId ((loopsOf (bodyOf Try.f148)).getD 0 .skip)) = some lp_S_l6Old_3 from by kernel_rfl]; exact fun d z h => (eb_S_l6Old_3 d.1 d.2.1 d.2.2.1 d.2.2.2.1).trans h), trivial⟩) (fun x => ef_S_l6Old x.1)
noncomputable def o_S_l6New_7 : List Out := [⟨.normal, ⟨[], [3, 7, 8, 9]⟩, mkSh 23 [(3, .val S_string (.row .b)), (7, .val S_impl_Row .b), (8, .val (.int .i64) .b), (9, .val (.int .i64) .b)]⟩]
noncomputable def sh_S_l6New_3 : List Sh := mkSh 23 [(3, .val S_string (.row .b)), (7, .val S_impl_Row .b), (8, .val (.int .i64) .b), (9, .val (.int .i64) .b)]
noncomputable def o_S_l6New_3 : List Out := [⟨.exit 0, ⟨[], [3]⟩, mkSh 23 [(3, .val S_string (.row .b))]⟩]
noncomputable def b_S_l6New_3 (t3 : PV S_string) (t7 : PV S_impl_Row) (t8 : PV (.int .i64)) (t9 : PV (.int .i64)) : Option ((PV S_string × PV S_impl_Row × PV (.int .i64) × PV (.int .i64) × Unit) ⊕ ((PV S_string × Unit))) :=
  bif (decide (t9 < t8)) then
    ((
        bif inB t9 t7.length then
          bif (!(((t7.getD t9.toNat (dflt Y_impl_Row)).1) == 2)) then
            bif roomB (t3.length + [((t7.getD t9.toNat (dflt Y_impl_Row)).2).1].length) then
              some ((t3 ++ [((t7.getD t9.toNat (dflt Y_impl_Row)).2).1]), t7, t8, t9, ())
            else
              none
          else
            some (t3, t7, t8, t9, ())
        else
          none : Option ((PV S_string × PV S_impl_Row × PV (.int .i64) × PV (.int .i64) × Unit)))).bind fun j1 =>
      some (.inl (j1.1, j1.2.1, j1.2.2.1, (IntKind.wrap .i64 (j1.2.2.2.1 + 1)), ()))
  else
    some (.inr (t3, ()))
noncomputable def w_S_l6New_3 : PV S_string × PV S_impl_Row × PV (.int .i64) × PV (.int .i64) × Unit → Option ((PV S_string × Unit)) := fix fun d => b_S_l6New_3 d.1 d.2.1 d.2.2.1 d.2.2.2.1
noncomputable def lp_S_l6New_3 : Lp := ⟨⟨[], [3, 7, 8, 9]⟩, sh_S_l6New_3, o_S_l6New_3, fun d => b_S_l6New_3 d.1 d.2.1 d.2.2.1 d.2.2.2.1⟩
noncomputable def pl_S_l6New : Plan := ⟨[(7, o_S_l6New_7)], [(3, lp_S_l6New_3)], 0, 0⟩
noncomputable def f_S_l6New (t0 : PV Y_impl_Group) : Option (PVs [S_string] × PVs []) :=
  (w_S_l6New_3 ([], t0.2.2.1, (t0.2.2.1.length : Int), 0, ())).bind fun l3 =>
    some ((l3.1, ()), ())
noncomputable def ct_S_l6New : Ct := ⟨[(.bor, Y_impl_Group)], [(S_string, true)], fun x => f_S_l6New x.1⟩
noncomputable def cx_S_l6New : Cx := ⟨tab, arrs, [], []⟩
theorem eb_S_l6New_3 (t3 : PV S_string) (t7 : PV S_impl_Row) (t8 : PV (.int .i64)) (t9 : PV (.int .i64)) : denK cx_S_l6New (rcN cx_S_l6New 0) pl_S_l6New 0 ((loopsOf (bodyOf Try.f149)).getD 0 .skip) (fillS sh_S_l6New_3 (t3, t7, t8, t9, ())) (roundK 0 lp_S_l6New_3) = b_S_l6New_3 t3 t7 t8 t9 := by kernel_rfl
theorem ef_S_l6New (t0 : PV Y_impl_Group) : denF cx_S_l6New 0 pl_S_l6New Try.f149.ntmps (bodyOf Try.f149) Try.f149.results.toList [(.bor, Y_impl_Group)] [(S_string, true)] (t0, ()) = f_S_l6New t0 := by kernel_rfl
theorem ok_S_l6New : FnOk Try.prog 149 ct_S_l6New :=
  fnOk (cx := cx_S_l6New) (pl := pl_S_l6New) (dp := 0) (ok0_of tabOk (by unfold ArrOk; kernel_rfl) mix trivial trivial) Try.func149 (by kernel_rfl) (by kernel_rfl) (by kernel_rfl)
    (by rw [show loopsOf (bodyOf Try.f149) = [((loopsOf (bodyOf Try.f149)).getD 0 .skip)] from by kernel_rfl]; exact ⟨(by rw [show lookup pl_S_l6New.loops (firstId ((loopsOf (bodyOf Try.f149)).getD 0 .skip)) = some lp_S_l6New_3 from by kernel_rfl]; exact fun d z h => (eb_S_l6New_3 d.1 d.2.1 d.2.2.1 d.2.2.2.1).trans h), trivial⟩) (fun x => ef_S_l6New x.1)
noncomputable def pl_S_l1Ends : Plan := ⟨[], [], 0, 0⟩
noncomputable def f_S_l1Ends (t0 : PV .str) : Option (PVs [.bool] × PVs []) :=
  bif inB (IntKind.wrap .i64 ((t0.length : Int) - 1)) t0.length then
    some (((((t0.getD (IntKind.wrap .i64 ((t0.length : Int) - 1)).toNat 0).toNat : Int) == 10), ()), ())
  else
    none
noncomputable def ct_S_l1Ends : Ct := ⟨[(.bor, .str)], [(.bool, false)], fun x => f_S_l1Ends x.1⟩
noncomputable def cx_S_l1Ends : Cx := ⟨tab, arrs, [], []⟩
theorem ef_S_l1Ends (t0 : PV .str) : denF cx_S_l1Ends 0 pl_S_l1Ends Try.f177.ntmps (bodyOf Try.f177) Try.f177.results.toList [(.bor, .str)] [(.bool, false)] (t0, ()) = f_S_l1Ends t0 := by kernel_rfl
theorem ok_S_l1Ends : FnOk Try.prog 177 ct_S_l1Ends :=
  fnOk (cx := cx_S_l1Ends) (pl := pl_S_l1Ends) (dp := 0) (ok0_of tabOk (by unfold ArrOk; kernel_rfl) mix trivial trivial) Try.func177 (by kernel_rfl) (by kernel_rfl) (by kernel_rfl)
    (by rw [show loopsOf (bodyOf Try.f177) = [] from by kernel_rfl]; exact trivial) (fun x => ef_S_l1Ends x.1)
noncomputable def o_S_l5Lines_5 : List Out := [⟨.normal, ⟨[], [0, 5, 6, 7, 26]⟩, mkSh 31 [(0, .val S_string .b), (5, .val S_string .b), (6, .val (.int .i64) .b), (7, .val (.int .i64) .b), (26, .val .bool .b)]⟩]
noncomputable def sh_S_l5Lines_2 : List Sh := mkSh 31 [(0, .val S_string .b), (5, .val S_string .b), (6, .val (.int .i64) .b), (7, .val (.int .i64) .b)]
noncomputable def o_S_l5Lines_2 : List Out := [⟨.exit 0, ⟨[], [0]⟩, mkSh 31 [(0, .val S_string .b)]⟩, ⟨.ret, ⟨[], [2]⟩, mkSh 31 [(2, .val .bool .b)]⟩]
noncomputable def b_S_l5Lines_2 (t0 : PV S_string) (t5 : PV S_string) (t6 : PV (.int .i64)) (t7 : PV (.int .i64)) : Option ((PV S_string × PV S_string × PV (.int .i64) × PV (.int .i64) × Unit) ⊕ ((PV S_string × Unit) ⊕ (PV .bool × Unit))) :=
  bif (decide (t7 < t6)) then
    bif inB t7 t5.length then
      ((
          (f_S_l1Line (t5.getD t7.toNat [])).bind fun r4 =>
            bif (!r4.1.1) then
              some (t0, t5, t6, t7, true, ())
            else
              bif (decide (t7 < (IntKind.wrap .i64 ((t0.length : Int) - 1)))) then
                (f_S_l1Ends (t5.getD t7.toNat [])).bind fun r5 =>
                  some (t0, t5, t6, t7, (!r5.1.1), ())
              else
                some (t0, t5, t6, t7, false, ()) : Option ((PV S_string × PV S_string × PV (.int .i64) × PV (.int .i64) × PV .bool × Unit)))).bind fun j6 =>
        bif j6.2.2.2.2.1 then
          some (.inr (.inr (false, ())))
        else
          some (.inl (j6.1, j6.2.1, j6.2.2.1, (IntKind.wrap .i64 (j6.2.2.2.1 + 1)), ()))
    else
      none
  else
    some (.inr (.inl (t0, ())))
noncomputable def w_S_l5Lines_2 : PV S_string × PV S_string × PV (.int .i64) × PV (.int .i64) × Unit → Option ((PV S_string × Unit) ⊕ (PV .bool × Unit)) := fix fun d => b_S_l5Lines_2 d.1 d.2.1 d.2.2.1 d.2.2.2.1
noncomputable def lp_S_l5Lines_2 : Lp := ⟨⟨[], [0, 5, 6, 7, 16, 17, 18, 19, 20, 21, 22, 23, 24, 25]⟩, sh_S_l5Lines_2, o_S_l5Lines_2, fun d => b_S_l5Lines_2 d.1 d.2.1 d.2.2.1 d.2.2.2.1⟩
noncomputable def pl_S_l5Lines : Plan := ⟨[(5, o_S_l5Lines_5)], [(2, lp_S_l5Lines_2)], 0, 0⟩
noncomputable def f_S_l5Lines (t0 : PV S_string) : Option (PVs [.bool] × PVs []) :=
  (w_S_l5Lines_2 (t0, t0, (t0.length : Int), 0, ())).bind fun x11 =>
    match x11 with
    | .inl l9 =>
      some (((decide ((l9.1.length : Int) ≤ 40)), ()), ())
    | .inr l10 =>
      some ((l10.1, ()), ())
noncomputable def ct_S_l5Lines : Ct := ⟨[(.bor, S_string)], [(.bool, false)], fun x => f_S_l5Lines x.1⟩
noncomputable def cx_S_l5Lines : Cx := ⟨tab, arrs, [(161, ct_S_l1Line), (177, ct_S_l1Ends)], []⟩
theorem eb_S_l5Lines_2 (t0 : PV S_string) (t5 : PV S_string) (t6 : PV (.int .i64)) (t7 : PV (.int .i64)) : denK cx_S_l5Lines (rcN cx_S_l5Lines 0) pl_S_l5Lines 0 ((loopsOf (bodyOf Try.f195)).getD 0 .skip) (fillS sh_S_l5Lines_2 (t0, t5, t6, t7, ())) (roundK 0 lp_S_l5Lines_2) = b_S_l5Lines_2 t0 t5 t6 t7 := by kernel_rfl
theorem ef_S_l5Lines (t0 : PV S_string) : denF cx_S_l5Lines 0 pl_S_l5Lines Try.f195.ntmps (bodyOf Try.f195) Try.f195.results.toList [(.bor, S_string)] [(.bool, false)] (t0, ()) = f_S_l5Lines t0 := by kernel_rfl
theorem ok_S_l5Lines : FnOk Try.prog 195 ct_S_l5Lines :=
  fnOk (cx := cx_S_l5Lines) (pl := pl_S_l5Lines) (dp := 0) (ok0_of tabOk (by unfold ArrOk; kernel_rfl) mix ⟨ok_S_l1Line, ok_S_l1Ends, trivial⟩ trivial) Try.func195 (by kernel_rfl) (by kernel_rfl) (by kernel_rfl)
    (by rw [show loopsOf (bodyOf Try.f195) = [((loopsOf (bodyOf Try.f195)).getD 0 .skip)] from by kernel_rfl]; exact ⟨(by rw [show lookup pl_S_l5Lines.loops (firstId ((loopsOf (bodyOf Try.f195)).getD 0 .skip)) = some lp_S_l5Lines_2 from by kernel_rfl]; exact fun d z h => (eb_S_l5Lines_2 d.1 d.2.1 d.2.2.1 d.2.2.2.1).trans h), trivial⟩) (fun x => ef_S_l5Lines x.1)
noncomputable def o_S_l6Group_6 : List Out := [⟨.normal, ⟨[], [1, 3, 5, 7, 8, 9, 42, 45, 46, 47, 52, 53, 54, 57, 58, 59, 62, 63, 64, 65, 66, 67, 68, 71, 72, 73, 74, 75, 76, 77, 80, 81, 82, 83, 86, 87, 88, 91, 92, 93]⟩, mkSh 95 [(1, .var Y_impl_Group .b), (3, .val .bool .b), (5, .var Y_impl_Row .b), (7, .val S_impl_Row .b), (8, .val (.int .i64) .b), (9, .val (.int .i64) .b), (42, .val .bool .b)]⟩]
noncomputable def o_S_l6Group_8 : List Out := [⟨.normal, ⟨[], [1, 3, 5, 7, 8, 9, 19, 20, 21, 22, 25, 26, 27, 28, 29, 30, 31, 32, 33, 34, 35, 36, 37, 38, 39, 40, 41, 52, 53, 54, 57, 58, 59, 62, 63, 64, 65, 66, 67, 68, 71, 72, 73, 74, 75, 76, 77, 80, 81, 82, 83, 86, 87, 88, 91, 92, 93]⟩, mkSh 95 [(1, .var Y_impl_Group .b), (3, .val .bool .b), (5, .var Y_impl_Row .b), (7, .val S_impl_Row .b), (8, .val (.int .i64) .b), (9, .val (.int .i64) .b)]⟩, ⟨.ret, ⟨[], [2]⟩, mkSh 95 [(2, .val .bool .b)]⟩]
noncomputable def sh_S_l6Group_3 : List Sh := mkSh 95 [(1, .var Y_impl_Group .b), (3, .val .bool .b), (7, .val S_impl_Row .b), (8, .val (.int .i64) .b), (9, .val (.int .i64) .b)]
noncomputable def o_S_l6Group_3 : List Out := [⟨.exit 0, ⟨[], [1, 3, 52, 53, 54, 57, 58, 59, 62, 63, 64, 65, 66, 67, 68, 71, 72, 73, 74, 75, 76, 77, 80, 81, 82, 83, 86, 87, 88, 91, 92, 93]⟩, mkSh 95 [(1, .var Y_impl_Group .b), (3, .val .bool .b)]⟩, ⟨.ret, ⟨[], [2]⟩, mkSh 95 [(2, .val .bool .b)]⟩]
noncomputable def b_S_l6Group_3 (t1 : PV Y_impl_Group) (t3 : PV .bool) (t7 : PV S_impl_Row) (t8 : PV (.int .i64)) (t9 : PV (.int .i64)) : Option ((PV Y_impl_Group × PV .bool × PV S_impl_Row × PV (.int .i64) × PV (.int .i64) × Unit) ⊕ ((PV Y_impl_Group × PV .bool × Unit) ⊕ (PV .bool × Unit))) :=
  bif (decide (t9 < t8)) then
    ((
        bif inB t9 t7.length then
          ((
              (f_S_l1In ((t7.getD t9.toNat (dflt Y_impl_Row)).1) 1 3).bind fun r4 =>
                bif (!r4.1.1) then
                  some (t1, t3, (t7.getD t9.toNat (dflt Y_impl_Row)), t7, t8, t9, true, ())
                else
                  (f_S_l1Line (((t7.getD t9.toNat (dflt Y_impl_Row)).2).1)).bind fun r5 =>
                    bif (!r5.1.1) then
                      some (t1, t3, (t7.getD t9.toNat (dflt Y_impl_Row)), t7, t8, t9, true, ())
                    else
                      bif (decide (t9 > 0)) then
                        bif (((t7.getD t9.toNat (dflt Y_impl_Row)).1) == 2) then
                          bif inB (IntKind.wrap .i64 (t9 - 1)) t1.2.2.1.length then
                            some (t1, t3, (t7.getD t9.toNat (dflt Y_impl_Row)), t7, t8, t9, (((t1.2.2.1.getD ((IntKind.wrap .i64 (t9 - 1)).toNat) (dflt Y_impl_Row)).1) == 3), ())
                          else
                            none
                        else
                          some (t1, t3, (t7.getD t9.toNat (dflt Y_impl_Row)), t7, t8, t9, false, ())
                      else
                        some (t1, t3, (t7.getD t9.toNat (dflt Y_impl_Row)), t7, t8, t9, false, ()) : Option ((PV Y_impl_Group × PV .bool × PV Y_impl_Row × PV S_impl_Row × PV (.int .i64) × PV (.int .i64) × PV .bool × Unit)))).bind fun j6 =>
            bif j6.2.2.2.2.2.2.1 then
              some (.inr (false, ()))
            else
              bif j6.2.1 then
                some (.inl (j6.1, true, j6.2.2.1, j6.2.2.2.1, j6.2.2.2.2.1, j6.2.2.2.2.2.1, ()))
              else
                some (.inl (j6.1, (!(j6.2.2.1.1 == 1)), j6.2.2.1, j6.2.2.2.1, j6.2.2.2.2.1, j6.2.2.2.2.2.1, ()))
        else
          none : Option ((PV Y_impl_Group × PV .bool × PV Y_impl_Row × PV S_impl_Row × PV (.int .i64) × PV (.int .i64) × Unit) ⊕ (PV .bool × Unit)))).bind fun x21 =>
      match x21 with
      | .inl j7 =>
        some (.inl (j7.1, j7.2.1, j7.2.2.2.1, j7.2.2.2.2.1, (IntKind.wrap .i64 (j7.2.2.2.2.2.1 + 1)), ()))
      | .inr j8 =>
        some (.inr (.inr (j8.1, ())))
  else
    some (.inr (.inl (t1, t3, ())))
noncomputable def w_S_l6Group_3 : PV Y_impl_Group × PV .bool × PV S_impl_Row × PV (.int .i64) × PV (.int .i64) × Unit → Option ((PV Y_impl_Group × PV .bool × Unit) ⊕ (PV .bool × Unit)) := fix fun d => b_S_l6Group_3 d.1 d.2.1 d.2.2.1 d.2.2.2.1 d.2.2.2.2.1
noncomputable def lp_S_l6Group_3 : Lp := ⟨⟨[], [1, 3, 7, 8, 9, 19, 20, 21, 22, 25, 26, 27, 28, 29, 30, 31, 32, 33, 34, 35, 36, 37, 38, 39, 40, 41, 45, 46, 47, 52, 53, 54, 57, 58, 59, 62, 63, 64, 65, 66, 67, 68, 71, 72, 73, 74, 75, 76, 77, 80, 81, 82, 83, 86, 87, 88, 91, 92, 93]⟩, sh_S_l6Group_3, o_S_l6Group_3, fun d => b_S_l6Group_3 d.1 d.2.1 d.2.2.1 d.2.2.2.1 d.2.2.2.2.1⟩
noncomputable def pl_S_l6Group : Plan := ⟨[(6, o_S_l6Group_6), (8, o_S_l6Group_8)], [(3, lp_S_l6Group_3)], 0, 0⟩
noncomputable def f_S_l6Group (t0 : PV Y_impl_Group) : Option (PVs [.bool] × PVs []) :=
  (w_S_l6Group_3 (t0, false, t0.2.2.1, (t0.2.2.1.length : Int), 0, ())).bind fun x22 =>
    match x22 with
    | .inl l11 =>
      bif l11.2.1 then
        (f_S_l1In l11.1.1 0 999).bind fun r12 =>
          bif r12.1.1 then
            (f_S_l1In l11.1.2.1 0 999).bind fun r13 =>
              bif r13.1.1 then
                (f_S_l6Old l11.1).bind fun r14 =>
                  bif (decide ((IntKind.wrap .i64 (l11.1.1 + (r14.1.1.length : Int))) ≤ 1000)) then
                    (f_S_l6New l11.1).bind fun r15 =>
                      bif (decide ((IntKind.wrap .i64 (l11.1.2.1 + (r15.1.1.length : Int))) ≤ 1000)) then
                        bif (decide ((l11.1.2.2.1.length : Int) ≤ 80)) then
                          (f_S_l6Old l11.1).bind fun r16 =>
                            (f_S_l5Lines r16.1.1).bind fun r17 =>
                              bif r17.1.1 then
                                (f_S_l6New l11.1).bind fun r18 =>
                                  (f_S_l5Lines r18.1.1).bind fun r19 =>
                                    some ((r19.1.1, ()), ())
                              else
                                some ((false, ()), ())
                        else
                          some ((false, ()), ())
                      else
                        some ((false, ()), ())
                  else
                    some ((false, ()), ())
              else
                some ((false, ()), ())
          else
            some ((false, ()), ())
      else
        some ((false, ()), ())
    | .inr l20 =>
      some ((l20.1, ()), ())
noncomputable def ct_S_l6Group : Ct := ⟨[(.bor, Y_impl_Group)], [(.bool, false)], fun x => f_S_l6Group x.1⟩
noncomputable def cx_S_l6Group : Cx := ⟨tab, arrs, [(91, ct_S_l1In), (148, ct_S_l6Old), (149, ct_S_l6New), (161, ct_S_l1Line), (195, ct_S_l5Lines)], []⟩
theorem eb_S_l6Group_3 (t1 : PV Y_impl_Group) (t3 : PV .bool) (t7 : PV S_impl_Row) (t8 : PV (.int .i64)) (t9 : PV (.int .i64)) : denK cx_S_l6Group (rcN cx_S_l6Group 0) pl_S_l6Group 0 ((loopsOf (bodyOf Try.f147)).getD 0 .skip) (fillS sh_S_l6Group_3 (t1, t3, t7, t8, t9, ())) (roundK 0 lp_S_l6Group_3) = b_S_l6Group_3 t1 t3 t7 t8 t9 := by kernel_rfl
theorem ef_S_l6Group (t0 : PV Y_impl_Group) : denF cx_S_l6Group 0 pl_S_l6Group Try.f147.ntmps (bodyOf Try.f147) Try.f147.results.toList [(.bor, Y_impl_Group)] [(.bool, false)] (t0, ()) = f_S_l6Group t0 := by kernel_rfl
theorem ok_S_l6Group : FnOk Try.prog 147 ct_S_l6Group :=
  fnOk (cx := cx_S_l6Group) (pl := pl_S_l6Group) (dp := 0) (ok0_of tabOk (by unfold ArrOk; kernel_rfl) mix ⟨ok_S_l1In, ok_S_l6Old, ok_S_l6New, ok_S_l1Line, ok_S_l5Lines, trivial⟩ trivial) Try.func147 (by kernel_rfl) (by kernel_rfl) (by kernel_rfl)
    (by rw [show loopsOf (bodyOf Try.f147) = [((loopsOf (bodyOf Try.f147)).getD 0 .skip)] from by kernel_rfl]; exact ⟨(by rw [show lookup pl_S_l6Group.loops (firstId ((loopsOf (bodyOf Try.f147)).getD 0 .skip)) = some lp_S_l6Group_3 from by kernel_rfl]; exact fun d z h => (eb_S_l6Group_3 d.1 d.2.1 d.2.2.1 d.2.2.2.1 d.2.2.2.2.1).trans h), trivial⟩) (fun x => ef_S_l6Group x.1)
noncomputable def o_S_l6Good_7 : List Out := [⟨.normal, ⟨[], [0, 4, 5, 6, 7, 54]⟩, mkSh 59 [(0, .val S_impl_Group .b), (4, .var Y_impl_Group .b), (5, .val S_impl_Group .b), (6, .val (.int .i64) .b), (7, .val (.int .i64) .b), (54, .val .bool .b)]⟩]
noncomputable def sh_S_l6Good_2 : List Sh := mkSh 59 [(0, .val S_impl_Group .b), (5, .val S_impl_Group .b), (6, .val (.int .i64) .b), (7, .val (.int .i64) .b)]
noncomputable def o_S_l6Good_2 : List Out := [⟨.exit 0, ⟨[], [0]⟩, mkSh 59 [(0, .val S_impl_Group .b)]⟩, ⟨.ret, ⟨[], [2]⟩, mkSh 59 [(2, .val .bool .b)]⟩]
noncomputable def b_S_l6Good_2 (t0 : PV S_impl_Group) (t5 : PV S_impl_Group) (t6 : PV (.int .i64)) (t7 : PV (.int .i64)) : Option ((PV S_impl_Group × PV S_impl_Group × PV (.int .i64) × PV (.int .i64) × Unit) ⊕ ((PV S_impl_Group × Unit) ⊕ (PV .bool × Unit))) :=
  bif (decide (t7 < t6)) then
    bif inB t7 t5.length then
      (f_S_l6Group (t5.getD t7.toNat (dflt Y_impl_Group))).bind fun r11 =>
        bif (!r11.1.1) then
          some (.inr (.inr (false, ())))
        else
          ((
              bif (decide (t7 > 0)) then
                bif inB (IntKind.wrap .i64 (t7 - 1)) t0.length then
                  bif inB (IntKind.wrap .i64 (t7 - 1)) t0.length then
                    (f_S_l6Old (t0.getD ((IntKind.wrap .i64 (t7 - 1)).toNat) (dflt Y_impl_Group))).bind fun r12 =>
                      bif (decide (((t5.getD t7.toNat (dflt Y_impl_Group)).1) < (IntKind.wrap .i64 (((t0.getD ((IntKind.wrap .i64 (t7 - 1)).toNat) (dflt Y_impl_Group)).1) + (r12.1.1.length : Int))))) then
                        some (t0, (t5.getD t7.toNat (dflt Y_impl_Group)), t5, t6, t7, true, ())
                      else
                        bif inB (IntKind.wrap .i64 (t7 - 1)) t0.length then
                          bif inB (IntKind.wrap .i64 (t7 - 1)) t0.length then
                            (f_S_l6New (t0.getD ((IntKind.wrap .i64 (t7 - 1)).toNat) (dflt Y_impl_Group))).bind fun r13 =>
                              some (t0, (t5.getD t7.toNat (dflt Y_impl_Group)), t5, t6, t7, (decide ((((t5.getD t7.toNat (dflt Y_impl_Group)).2).1) < (IntKind.wrap .i64 ((((t0.getD ((IntKind.wrap .i64 (t7 - 1)).toNat) (dflt Y_impl_Group)).2).1) + (r13.1.1.length : Int))))), ())
                          else
                            none
                        else
                          none
                  else
                    none
                else
                  none
              else
                some (t0, (t5.getD t7.toNat (dflt Y_impl_Group)), t5, t6, t7, false, ()) : Option ((PV S_impl_Group × PV Y_impl_Group × PV S_impl_Group × PV (.int .i64) × PV (.int .i64) × PV .bool × Unit)))).bind fun j14 =>
            bif j14.2.2.2.2.2.1 then
              some (.inr (.inr (false, ())))
            else
              some (.inl (j14.1, j14.2.2.1, j14.2.2.2.1, (IntKind.wrap .i64 (j14.2.2.2.2.1 + 1)), ()))
    else
      none
  else
    some (.inr (.inl (t0, ())))
noncomputable def w_S_l6Good_2 : PV S_impl_Group × PV S_impl_Group × PV (.int .i64) × PV (.int .i64) × Unit → Option ((PV S_impl_Group × Unit) ⊕ (PV .bool × Unit)) := fix fun d => b_S_l6Good_2 d.1 d.2.1 d.2.2.1 d.2.2.2.1
noncomputable def lp_S_l6Good_2 : Lp := ⟨⟨[], [0, 5, 6, 7, 18, 19, 20, 21, 22, 23, 24, 25, 26, 27, 28, 29, 30, 31, 32, 33, 34, 35, 36, 37, 38, 39, 40, 41, 42, 43, 44, 45, 46, 47, 48, 49, 50, 51, 52, 53]⟩, sh_S_l6Good_2, o_S_l6Good_2, fun d => b_S_l6Good_2 d.1 d.2.1 d.2.2.1 d.2.2.2.1⟩
noncomputable def pl_S_l6Good : Plan := ⟨[(7, o_S_l6Good_7)], [(2, lp_S_l6Good_2)], 0, 0⟩
noncomputable def f_S_l6Good (t0 : PV S_impl_Group) : Option (PVs [.bool] × PVs []) :=
  (w_S_l6Good_2 (t0, t0, (t0.length : Int), 0, ())).bind fun x19 =>
    match x19 with
    | .inl l17 =>
      some (((decide ((l17.1.length : Int) ≤ 20)), ()), ())
    | .inr l18 =>
      some ((l18.1, ()), ())
noncomputable def ct_S_l6Good : Ct := ⟨[(.bor, S_impl_Group)], [(.bool, false)], fun x => f_S_l6Good x.1⟩
noncomputable def cx_S_l6Good : Cx := ⟨tab, arrs, [(147, ct_S_l6Group), (148, ct_S_l6Old), (149, ct_S_l6New)], []⟩
theorem eb_S_l6Good_2 (t0 : PV S_impl_Group) (t5 : PV S_impl_Group) (t6 : PV (.int .i64)) (t7 : PV (.int .i64)) : denK cx_S_l6Good (rcN cx_S_l6Good 0) pl_S_l6Good 0 ((loopsOf (bodyOf Try.f71)).getD 0 .skip) (fillS sh_S_l6Good_2 (t0, t5, t6, t7, ())) (roundK 0 lp_S_l6Good_2) = b_S_l6Good_2 t0 t5 t6 t7 := by kernel_rfl
theorem ef_S_l6Good (t0 : PV S_impl_Group) : denF cx_S_l6Good 0 pl_S_l6Good Try.f71.ntmps (bodyOf Try.f71) Try.f71.results.toList [(.bor, S_impl_Group)] [(.bool, false)] (t0, ()) = f_S_l6Good t0 := by kernel_rfl
theorem ok_S_l6Good : FnOk Try.prog 71 ct_S_l6Good :=
  fnOk (cx := cx_S_l6Good) (pl := pl_S_l6Good) (dp := 0) (ok0_of tabOk (by unfold ArrOk; kernel_rfl) mix ⟨ok_S_l6Group, ok_S_l6Old, ok_S_l6New, trivial⟩ trivial) Try.func71 (by kernel_rfl) (by kernel_rfl) (by kernel_rfl)
    (by rw [show loopsOf (bodyOf Try.f71) = [((loopsOf (bodyOf Try.f71)).getD 0 .skip)] from by kernel_rfl]; exact ⟨(by rw [show lookup pl_S_l6Good.loops (firstId ((loopsOf (bodyOf Try.f71)).getD 0 .skip)) = some lp_S_l6Good_2 from by kernel_rfl]; exact fun d z h => (eb_S_l6Good_2 d.1 d.2.1 d.2.2.1 d.2.2.2.1).trans h), trivial⟩) (fun x => ef_S_l6Good x.1)
noncomputable def o_S_l7Back_12 : List Out := [⟨.normal, ⟨[], [2, 3, 4, 18, 19, 20]⟩, mkSh 64 [(2, .var Y_impl_Group (.pr .b (.pr .b (.pr (.row (.pr .b (.pr .b .b))) .b)))), (3, .var Y_impl_Group (.pr .b (.pr .b (.pr (.row (.pr .b (.pr .b .b))) .b)))), (4, .val S_impl_Row (.row (.pr .b (.pr .b .b)))), (18, .val S_impl_Row (.row (.pr .b (.pr .b .b)))), (19, .val (.int .i64) .b), (20, .val (.int .i64) .b)]⟩]
noncomputable def sh_S_l7Back_4 : List Sh := mkSh 64 [(2, .var Y_impl_Group (.pr .b (.pr .b (.pr (.row (.pr .b (.pr .b .b))) .b)))), (3, .var Y_impl_Group (.pr .b (.pr .b (.pr (.row (.pr .b (.pr .b .b))) .b)))), (4, .val S_impl_Row (.row (.pr .b (.pr .b .b)))), (18, .val S_impl_Row (.row (.pr .b (.pr .b .b)))), (19, .val (.int .i64) .b), (20, .val (.int .i64) .b)]
noncomputable def o_S_l7Back_4 : List Out := [⟨.exit 0, ⟨[], [2, 3]⟩, mkSh 64 [(2, .var Y_impl_Group (.pr .b (.pr .b (.pr (.row (.pr .b (.pr .b .b))) .b)))), (3, .var Y_impl_Group (.pr .b (.pr .b (.pr (.row (.pr .b (.pr .b .b))) .b))))]⟩]
noncomputable def b_S_l7Back_4 (t2 : PV Y_impl_Group) (t3 : PV Y_impl_Group) (t4 : PV S_impl_Row) (t18 : PV S_impl_Row) (t19 : PV (.int .i64)) (t20 : PV (.int .i64)) : Option ((PV Y_impl_Group × PV Y_impl_Group × PV S_impl_Row × PV S_impl_Row × PV (.int .i64) × PV (.int .i64) × Unit) ⊕ ((PV Y_impl_Group × PV Y_impl_Group × Unit))) :=
  bif (decide (t20 < t19)) then
    ((
        bif inB t20 t18.length then
          bif (((t18.getD t20.toNat (dflt Y_impl_Row)).1) == 2) then
            bif roomB (t4.length + [(3, (((t18.getD t20.toNat (dflt Y_impl_Row)).2).1, ()))].length) then
              some (t2, t3, (t4 ++ [(3, (((t18.getD t20.toNat (dflt Y_impl_Row)).2).1, ()))]), t18, t19, t20, ())
            else
              none
          else
            bif (((t18.getD t20.toNat (dflt Y_impl_Row)).1) == 3) then
              bif roomB (t3.2.2.1.length + [(2, (((t18.getD t20.toNat (dflt Y_impl_Row)).2).1, ()))].length) then
                some (t2, (t3.1, (t3.2.1, ((t3.2.2.1 ++ [(2, (((t18.getD t20.toNat (dflt Y_impl_Row)).2).1, ()))]), t3.2.2.2))), t4, t18, t19, t20, ())
              else
                none
            else
              bif roomB (t3.2.2.1.length + t4.length) then
                bif roomB ((t3.2.2.1 ++ t4).length + [(t18.getD t20.toNat (dflt Y_impl_Row))].length) then
                  some (t2, (t3.1, (t3.2.1, (((t3.2.2.1 ++ t4) ++ [(t18.getD t20.toNat (dflt Y_impl_Row))]), t3.2.2.2))), [], t18, t19, t20, ())
                else
                  none
              else
                none
        else
          none : Option ((PV Y_impl_Group × PV Y_impl_Group × PV S_impl_Row × PV S_impl_Row × PV (.int .i64) × PV (.int .i64) × Unit)))).bind fun j1 =>
      some (.inl (j1.1, j1.2.1, j1.2.2.1, j1.2.2.2.1, j1.2.2.2.2.1, (IntKind.wrap .i64 (j1.2.2.2.2.2.1 + 1)), ()))
  else
    some (.inr (t2, t3, ()))
noncomputable def w_S_l7Back_4 : PV Y_impl_Group × PV Y_impl_Group × PV S_impl_Row × PV S_impl_Row × PV (.int .i64) × PV (.int .i64) × Unit → Option ((PV Y_impl_Group × PV Y_impl_Group × Unit)) := fix fun d => b_S_l7Back_4 d.1 d.2.1 d.2.2.1 d.2.2.2.1 d.2.2.2.2.1 d.2.2.2.2.2.1
noncomputable def lp_S_l7Back_4 : Lp := ⟨⟨[], [2, 3, 4, 18, 19, 20]⟩, sh_S_l7Back_4, o_S_l7Back_4, fun d => b_S_l7Back_4 d.1 d.2.1 d.2.2.1 d.2.2.2.1 d.2.2.2.2.1 d.2.2.2.2.2.1⟩
noncomputable def pl_S_l7Back : Plan := ⟨[(12, o_S_l7Back_12)], [(4, lp_S_l7Back_4)], 0, 0⟩
noncomputable def f_S_l7Back (t0 : PV Y_impl_Group) : Option (PVs [Y_impl_Group] × PVs []) :=
  bif roomB (([] : PV S_impl_Row).length + t0.2.2.1.length) then
    bif roomB ((([] : PV S_impl_Row) ++ t0.2.2.1).length + [(1, (([] : PV .str), ()))].length) then
      (w_S_l7Back_4 ((0, (0, (([] : PV S_impl_Row), ()))), (t0.2.1, (t0.1, (([] : PV S_impl_Row), ()))), [], ((([] : PV S_impl_Row) ++ t0.2.2.1) ++ [(1, (([] : PV .str), ()))]), (((([] : PV S_impl_Row) ++ t0.2.2.1) ++ [(1, (([] : PV .str), ()))]).length : Int), 0, ())).bind fun l3 =>
        bif cutB 0 (IntKind.wrap .i64 ((l3.2.1.2.2.1.length : Int) - 1)) l3.2.1.2.2.1.length then
          bif cutB 0 (IntKind.wrap .i64 ((l3.2.1.2.2.1.length : Int) - 1)) l3.2.1.2.2.1.length then
            some (((l3.2.1.1, (l3.2.1.2.1, ((cutL 0 (IntKind.wrap .i64 ((l3.2.1.2.2.1.length : Int) - 1)) l3.2.1.2.2.1), l3.2.1.2.2.2))), ()), ())
          else
            none
        else
          none
    else
      none
  else
    none
noncomputable def ct_S_l7Back : Ct := ⟨[(.bor, Y_impl_Group)], [(Y_impl_Group, true)], fun x => f_S_l7Back x.1⟩
noncomputable def cx_S_l7Back : Cx := ⟨tab, arrs, [], []⟩
theorem eb_S_l7Back_4 (t2 : PV Y_impl_Group) (t3 : PV Y_impl_Group) (t4 : PV S_impl_Row) (t18 : PV S_impl_Row) (t19 : PV (.int .i64)) (t20 : PV (.int .i64)) : denK cx_S_l7Back (rcN cx_S_l7Back 0) pl_S_l7Back 0 ((loopsOf (bodyOf Try.f72)).getD 0 .skip) (fillS sh_S_l7Back_4 (t2, t3, t4, t18, t19, t20, ())) (roundK 0 lp_S_l7Back_4) = b_S_l7Back_4 t2 t3 t4 t18 t19 t20 := by kernel_rfl
theorem ef_S_l7Back (t0 : PV Y_impl_Group) : denF cx_S_l7Back 0 pl_S_l7Back Try.f72.ntmps (bodyOf Try.f72) Try.f72.results.toList [(.bor, Y_impl_Group)] [(Y_impl_Group, true)] (t0, ()) = f_S_l7Back t0 := by kernel_rfl
theorem ok_S_l7Back : FnOk Try.prog 72 ct_S_l7Back :=
  fnOk (cx := cx_S_l7Back) (pl := pl_S_l7Back) (dp := 0) (ok0_of tabOk (by unfold ArrOk; kernel_rfl) mix trivial trivial) Try.func72 (by kernel_rfl) (by kernel_rfl) (by kernel_rfl)
    (by rw [show loopsOf (bodyOf Try.f72) = [((loopsOf (bodyOf Try.f72)).getD 0 .skip)] from by kernel_rfl]; exact ⟨(by rw [show lookup pl_S_l7Back.loops (firstId ((loopsOf (bodyOf Try.f72)).getD 0 .skip)) = some lp_S_l7Back_4 from by kernel_rfl]; exact fun d z h => (eb_S_l7Back_4 d.1 d.2.1 d.2.2.1 d.2.2.2.1 d.2.2.2.2.1 d.2.2.2.2.2.1).trans h), trivial⟩) (fun x => ef_S_l7Back x.1)
noncomputable def sh_S_BackGroups_5 : List Sh := mkSh 23 [(4, .val S_impl_Group (.row (.pr .b (.pr .b (.pr (.row (.pr .b (.pr .b .b))) .b))))), (10, .val S_impl_Group .b), (11, .val (.int .i64) .b), (12, .val (.int .i64) .b)]
noncomputable def o_S_BackGroups_5 : List Out := [⟨.exit 0, ⟨[], [4]⟩, mkSh 23 [(4, .val S_impl_Group (.row (.pr .b (.pr .b (.pr (.row (.pr .b (.pr .b .b))) .b)))))]⟩]
noncomputable def b_S_BackGroups_5 (t4 : PV S_impl_Group) (t10 : PV S_impl_Group) (t11 : PV (.int .i64)) (t12 : PV (.int .i64)) : Option ((PV S_impl_Group × PV S_impl_Group × PV (.int .i64) × PV (.int .i64) × Unit) ⊕ ((PV S_impl_Group × Unit))) :=
  bif (decide (t12 < t11)) then
    bif inB t12 t10.length then
      (f_S_l7Back (t10.getD t12.toNat (dflt Y_impl_Group))).bind fun r6 =>
        bif roomB (t4.length + [r6.1.1].length) then
          some (.inl ((t4 ++ [r6.1.1]), t10, t11, (IntKind.wrap .i64 (t12 + 1)), ()))
        else
          none
    else
      none
  else
    some (.inr (t4, ()))
noncomputable def w_S_BackGroups_5 : PV S_impl_Group × PV S_impl_Group × PV (.int .i64) × PV (.int .i64) × Unit → Option ((PV S_impl_Group × Unit)) := fix fun d => b_S_BackGroups_5 d.1 d.2.1 d.2.2.1 d.2.2.2.1
noncomputable def lp_S_BackGroups_5 : Lp := ⟨⟨[], [4, 10, 11, 12]⟩, sh_S_BackGroups_5, o_S_BackGroups_5, fun d => b_S_BackGroups_5 d.1 d.2.1 d.2.2.1 d.2.2.2.1⟩
noncomputable def pl_S_BackGroups : Plan := ⟨[], [(5, lp_S_BackGroups_5)], 0, 0⟩
noncomputable def f_S_BackGroups (t0 : PV S_impl_Group) : Option (PVs [S_impl_Group, .bool] × PVs []) :=
  (f_S_l6Good t0).bind fun r4 =>
    bif (!r4.1.1) then
      some (([], false, ()), ())
    else
      (w_S_BackGroups_5 ([], t0, (t0.length : Int), 0, ())).bind fun l8 =>
        some ((l8.1, true, ()), ())
noncomputable def ct_S_BackGroups : Ct := ⟨[(.bor, S_impl_Group)], [(S_impl_Group, true), (.bool, false)], fun x => f_S_BackGroups x.1⟩
noncomputable def cx_S_BackGroups : Cx := ⟨tab, arrs, [(71, ct_S_l6Good), (72, ct_S_l7Back)], []⟩
theorem eb_S_BackGroups_5 (t4 : PV S_impl_Group) (t10 : PV S_impl_Group) (t11 : PV (.int .i64)) (t12 : PV (.int .i64)) : denK cx_S_BackGroups (rcN cx_S_BackGroups 0) pl_S_BackGroups 0 ((loopsOf (bodyOf Try.f15)).getD 0 .skip) (fillS sh_S_BackGroups_5 (t4, t10, t11, t12, ())) (roundK 0 lp_S_BackGroups_5) = b_S_BackGroups_5 t4 t10 t11 t12 := by kernel_rfl
theorem ef_S_BackGroups (t0 : PV S_impl_Group) : denF cx_S_BackGroups 0 pl_S_BackGroups Try.f15.ntmps (bodyOf Try.f15) Try.f15.results.toList [(.bor, S_impl_Group)] [(S_impl_Group, true), (.bool, false)] (t0, ()) = f_S_BackGroups t0 := by kernel_rfl
theorem ok_S_BackGroups : FnOk Try.prog 15 ct_S_BackGroups :=
  fnOk (cx := cx_S_BackGroups) (pl := pl_S_BackGroups) (dp := 0) (ok0_of tabOk (by unfold ArrOk; kernel_rfl) mix ⟨ok_S_l6Good, ok_S_l7Back, trivial⟩ trivial) Try.func15 (by kernel_rfl) (by kernel_rfl) (by kernel_rfl)
    (by rw [show loopsOf (bodyOf Try.f15) = [((loopsOf (bodyOf Try.f15)).getD 0 .skip)] from by kernel_rfl]; exact ⟨(by rw [show lookup pl_S_BackGroups.loops (firstId ((loopsOf (bodyOf Try.f15)).getD 0 .skip)) = some lp_S_BackGroups_5 from by kernel_rfl]; exact fun d z h => (eb_S_BackGroups_5 d.1 d.2.1 d.2.2.1 d.2.2.2.1).trans h), trivial⟩) (fun x => ef_S_BackGroups x.1)
noncomputable def pl_I_in : Plan := ⟨[], [], 0, 0⟩
noncomputable def f_I_in (t0 : PV (.int .i64)) (t1 : PV (.int .i64)) (t2 : PV (.int .i64)) : Option (PVs [.bool] × PVs []) :=
  bif (decide (t0 ≥ t1)) then
    some (((decide (t0 ≤ t2)), ()), ())
  else
    some ((false, ()), ())
noncomputable def ct_I_in : Ct := ⟨[(.bor, (.int .i64)), (.bor, (.int .i64)), (.bor, (.int .i64))], [(.bool, false)], fun x => f_I_in x.1 x.2.1 x.2.2.1⟩
noncomputable def cx_I_in : Cx := ⟨tab, arrs, [], []⟩
theorem ef_I_in (t0 : PV (.int .i64)) (t1 : PV (.int .i64)) (t2 : PV (.int .i64)) : denF cx_I_in 0 pl_I_in Try.f95.ntmps (bodyOf Try.f95) Try.f95.results.toList [(.bor, (.int .i64)), (.bor, (.int .i64)), (.bor, (.int .i64))] [(.bool, false)] (t0, t1, t2, ()) = f_I_in t0 t1 t2 := by kernel_rfl
theorem ok_I_in : FnOk Try.prog 95 ct_I_in :=
  fnOk (cx := cx_I_in) (pl := pl_I_in) (dp := 0) (ok0_of tabOk (by unfold ArrOk; kernel_rfl) mix trivial trivial) Try.func95 (by kernel_rfl) (by kernel_rfl) (by kernel_rfl)
    (by rw [show loopsOf (bodyOf Try.f95) = [] from by kernel_rfl]; exact trivial) (fun x => ef_I_in x.1 x.2.1 x.2.2.1)
noncomputable def pl_I_isLine : Plan := ⟨[], [], 0, 0⟩
noncomputable def f_I_isLine (t0 : PV .str) : Option (PVs [.bool] × PVs []) :=
  (f_I_in (t0.length : Int) 1 30).bind fun r1 =>
    bif r1.1.1 then
      bif cutB 0 (IntKind.wrap .i64 ((t0.length : Int) - 1)) t0.length then
        (f_strings_Contains (cutL 0 (IntKind.wrap .i64 ((t0.length : Int) - 1)) t0) [10]).bind fun r2 =>
          some (((!r2.1.1), ()), ())
      else
        none
    else
      some ((false, ()), ())
noncomputable def ct_I_isLine : Ct := ⟨[(.bor, .str)], [(.bool, false)], fun x => f_I_isLine x.1⟩
noncomputable def cx_I_isLine : Cx := ⟨tab, arrs, [(95, ct_I_in), (220, ct_strings_Contains)], []⟩
theorem ef_I_isLine (t0 : PV .str) : denF cx_I_isLine 0 pl_I_isLine Try.f197.ntmps (bodyOf Try.f197) Try.f197.results.toList [(.bor, .str)] [(.bool, false)] (t0, ()) = f_I_isLine t0 := by kernel_rfl
theorem ok_I_isLine : FnOk Try.prog 197 ct_I_isLine :=
  fnOk (cx := cx_I_isLine) (pl := pl_I_isLine) (dp := 0) (ok0_of tabOk (by unfold ArrOk; kernel_rfl) mix ⟨ok_I_in, ok_strings_Contains, trivial⟩ trivial) Try.func197 (by kernel_rfl) (by kernel_rfl) (by kernel_rfl)
    (by rw [show loopsOf (bodyOf Try.f197) = [] from by kernel_rfl]; exact trivial) (fun x => ef_I_isLine x.1)
noncomputable def o_I_sideOf_7 : List Out := [⟨.normal, ⟨[], [1, 5, 9, 10, 11]⟩, mkSh 26 [(1, .val (.int .i64) .b), (5, .val S_string (.row .b)), (9, .val S_impl_Row .b), (10, .val (.int .i64) .b), (11, .val (.int .i64) .b)]⟩]
noncomputable def sh_I_sideOf_3 : List Sh := mkSh 26 [(1, .val (.int .i64) .b), (5, .val S_string (.row .b)), (9, .val S_impl_Row .b), (10, .val (.int .i64) .b), (11, .val (.int .i64) .b)]
noncomputable def o_I_sideOf_3 : List Out := [⟨.exit 0, ⟨[], [5]⟩, mkSh 26 [(5, .val S_string (.row .b))]⟩]
noncomputable def b_I_sideOf_3 (t1 : PV (.int .i64)) (t5 : PV S_string) (t9 : PV S_impl_Row) (t10 : PV (.int .i64)) (t11 : PV (.int .i64)) : Option ((PV (.int .i64) × PV S_string × PV S_impl_Row × PV (.int .i64) × PV (.int .i64) × Unit) ⊕ ((PV S_string × Unit))) :=
  bif (decide (t11 < t10)) then
    ((
        bif inB t11 t9.length then
          bif (!(((t9.getD t11.toNat (dflt Y_impl_Row)).1) == t1)) then
            bif roomB (t5.length + [((t9.getD t11.toNat (dflt Y_impl_Row)).2).1].length) then
              some (t1, (t5 ++ [((t9.getD t11.toNat (dflt Y_impl_Row)).2).1]), t9, t10, t11, ())
            else
              none
          else
            some (t1, t5, t9, t10, t11, ())
        else
          none : Option ((PV (.int .i64) × PV S_string × PV S_impl_Row × PV (.int .i64) × PV (.int .i64) × Unit)))).bind fun j1 =>
      some (.inl (j1.1, j1.2.1, j1.2.2.1, j1.2.2.2.1, (IntKind.wrap .i64 (j1.2.2.2.2.1 + 1)), ()))
  else
    some (.inr (t5, ()))
noncomputable def w_I_sideOf_3 : PV (.int .i64) × PV S_string × PV S_impl_Row × PV (.int .i64) × PV (.int .i64) × Unit → Option ((PV S_string × Unit)) := fix fun d => b_I_sideOf_3 d.1 d.2.1 d.2.2.1 d.2.2.2.1 d.2.2.2.2.1
noncomputable def lp_I_sideOf_3 : Lp := ⟨⟨[], [1, 5, 9, 10, 11]⟩, sh_I_sideOf_3, o_I_sideOf_3, fun d => b_I_sideOf_3 d.1 d.2.1 d.2.2.1 d.2.2.2.1 d.2.2.2.2.1⟩
noncomputable def pl_I_sideOf : Plan := ⟨[(7, o_I_sideOf_7)], [(3, lp_I_sideOf_3)], 0, 0⟩
noncomputable def f_I_sideOf (t0 : PV S_impl_Row) (t1 : PV (.int .i64)) : Option (PVs [S_string] × PVs []) :=
  (w_I_sideOf_3 (t1, ([] : PV S_string), t0, (t0.length : Int), 0, ())).bind fun l3 =>
    some ((l3.1, ()), ())
noncomputable def ct_I_sideOf : Ct := ⟨[(.bor, S_impl_Row), (.bor, (.int .i64))], [(S_string, true)], fun x => f_I_sideOf x.1 x.2.1⟩
noncomputable def cx_I_sideOf : Cx := ⟨tab, arrs, [], []⟩
theorem eb_I_sideOf_3 (t1 : PV (.int .i64)) (t5 : PV S_string) (t9 : PV S_impl_Row) (t10 : PV (.int .i64)) (t11 : PV (.int .i64)) : denK cx_I_sideOf (rcN cx_I_sideOf 0) pl_I_sideOf 0 ((loopsOf (bodyOf Try.f198)).getD 0 .skip) (fillS sh_I_sideOf_3 (t1, t5, t9, t10, t11, ())) (roundK 0 lp_I_sideOf_3) = b_I_sideOf_3 t1 t5 t9 t10 t11 := by kernel_rfl
theorem ef_I_sideOf (t0 : PV S_impl_Row) (t1 : PV (.int .i64)) : denF cx_I_sideOf 0 pl_I_sideOf Try.f198.ntmps (bodyOf Try.f198) Try.f198.results.toList [(.bor, S_impl_Row), (.bor, (.int .i64))] [(S_string, true)] (t0, t1, ()) = f_I_sideOf t0 t1 := by kernel_rfl
theorem ok_I_sideOf : FnOk Try.prog 198 ct_I_sideOf :=
  fnOk (cx := cx_I_sideOf) (pl := pl_I_sideOf) (dp := 0) (ok0_of tabOk (by unfold ArrOk; kernel_rfl) mix trivial trivial) Try.func198 (by kernel_rfl) (by kernel_rfl) (by kernel_rfl)
    (by rw [show loopsOf (bodyOf Try.f198) = [((loopsOf (bodyOf Try.f198)).getD 0 .skip)] from by kernel_rfl]; exact ⟨(by rw [show lookup pl_I_sideOf.loops (firstId ((loopsOf (bodyOf Try.f198)).getD 0 .skip)) = some lp_I_sideOf_3 from by kernel_rfl]; exact fun d z h => (eb_I_sideOf_3 d.1 d.2.1 d.2.2.1 d.2.2.2.1 d.2.2.2.2.1).trans h), trivial⟩) (fun x => ef_I_sideOf x.1 x.2.1)
noncomputable def pl_I_Group_old : Plan := ⟨[], [], 0, 0⟩
noncomputable def f_I_Group_old (t0 : PV Y_impl_Group) : Option (PVs [S_string] × PVs []) :=
  (f_I_sideOf t0.2.2.1 3).bind fun r1 =>
    some ((r1.1.1, ()), ())
noncomputable def ct_I_Group_old : Ct := ⟨[(.bor, Y_impl_Group)], [(S_string, true)], fun x => f_I_Group_old x.1⟩
noncomputable def cx_I_Group_old : Cx := ⟨tab, arrs, [(198, ct_I_sideOf)], []⟩
theorem ef_I_Group_old (t0 : PV Y_impl_Group) : denF cx_I_Group_old 0 pl_I_Group_old Try.f152.ntmps (bodyOf Try.f152) Try.f152.results.toList [(.bor, Y_impl_Group)] [(S_string, true)] (t0, ()) = f_I_Group_old t0 := by kernel_rfl
theorem ok_I_Group_old : FnOk Try.prog 152 ct_I_Group_old :=
  fnOk (cx := cx_I_Group_old) (pl := pl_I_Group_old) (dp := 0) (ok0_of tabOk (by unfold ArrOk; kernel_rfl) mix ⟨ok_I_sideOf, trivial⟩ trivial) Try.func152 (by kernel_rfl) (by kernel_rfl) (by kernel_rfl)
    (by rw [show loopsOf (bodyOf Try.f152) = [] from by kernel_rfl]; exact trivial) (fun x => ef_I_Group_old x.1)
noncomputable def pl_I_Group_fresh : Plan := ⟨[], [], 0, 0⟩
noncomputable def f_I_Group_fresh (t0 : PV Y_impl_Group) : Option (PVs [S_string] × PVs []) :=
  (f_I_sideOf t0.2.2.1 2).bind fun r1 =>
    some ((r1.1.1, ()), ())
noncomputable def ct_I_Group_fresh : Ct := ⟨[(.bor, Y_impl_Group)], [(S_string, true)], fun x => f_I_Group_fresh x.1⟩
noncomputable def cx_I_Group_fresh : Cx := ⟨tab, arrs, [(198, ct_I_sideOf)], []⟩
theorem ef_I_Group_fresh (t0 : PV Y_impl_Group) : denF cx_I_Group_fresh 0 pl_I_Group_fresh Try.f153.ntmps (bodyOf Try.f153) Try.f153.results.toList [(.bor, Y_impl_Group)] [(S_string, true)] (t0, ()) = f_I_Group_fresh t0 := by kernel_rfl
theorem ok_I_Group_fresh : FnOk Try.prog 153 ct_I_Group_fresh :=
  fnOk (cx := cx_I_Group_fresh) (pl := pl_I_Group_fresh) (dp := 0) (ok0_of tabOk (by unfold ArrOk; kernel_rfl) mix ⟨ok_I_sideOf, trivial⟩ trivial) Try.func153 (by kernel_rfl) (by kernel_rfl) (by kernel_rfl)
    (by rw [show loopsOf (bodyOf Try.f153) = [] from by kernel_rfl]; exact trivial) (fun x => ef_I_Group_fresh x.1)
noncomputable def pl_I_areLines_1 : Plan := ⟨[], [], 0, 0⟩
noncomputable def f_I_areLines_1 (t0 : PV .str) : Option (PVs [.bool] × PVs []) :=
  (f_I_isLine t0).bind fun r1 =>
    some (((!r1.1.1), ()), ())
noncomputable def ct_I_areLines_1 : Ct := ⟨[(.bor, .str)], [(.bool, false)], fun x => f_I_areLines_1 x.1⟩
noncomputable def cx_I_areLines_1 : Cx := ⟨tab, arrs, [(197, ct_I_isLine)], []⟩
theorem ef_I_areLines_1 (t0 : PV .str) : denF cx_I_areLines_1 0 pl_I_areLines_1 Try.f201.ntmps (bodyOf Try.f201) Try.f201.results.toList [(.bor, .str)] [(.bool, false)] (t0, ()) = f_I_areLines_1 t0 := by kernel_rfl
theorem ok_I_areLines_1 : FnOk Try.prog 201 ct_I_areLines_1 :=
  fnOk (cx := cx_I_areLines_1) (pl := pl_I_areLines_1) (dp := 0) (ok0_of tabOk (by unfold ArrOk; kernel_rfl) mix ⟨ok_I_isLine, trivial⟩ trivial) Try.func201 (by kernel_rfl) (by kernel_rfl) (by kernel_rfl)
    (by rw [show loopsOf (bodyOf Try.f201) = [] from by kernel_rfl]; exact trivial) (fun x => ef_I_areLines_1 x.1)
noncomputable def pl_I_areLines_200 : Plan := ⟨[], [], 1, 11⟩
noncomputable def sh_I_areLines_221_2 : List Sh := mkSh 39 [(0, .val S_string .b), (2, .val .bool .b), (3, .val S_string .b), (4, .val (.int .i64) .b), (5, .val .bool .b), (6, .val .bool .b), (7, .val S_string .b), (11, .val S_string .b), (12, .fn 201 []), (15, .val .bool .b), (16, .val S_string .b), (17, .fn 201 []), (20, .val S_string .b), (21, .fn 201 []), (27, .val (.int .i64) .b), (28, .val (.int .i64) .b)]
noncomputable def o_I_areLines_221_2 : List Out := [⟨.exit 0, ⟨[], []⟩, mkSh 39 [(0, .val S_string .b), (2, .val .bool .b), (3, .val S_string .b), (4, .val (.int .i64) .b), (5, .val .bool .b), (6, .val .bool .b), (7, .val S_string .b), (11, .val S_string .b), (12, .fn 201 []), (15, .val .bool .b), (16, .val S_string .b), (17, .fn 201 [])]⟩, ⟨.ret, ⟨[], [4]⟩, mkSh 39 [(0, .val S_string .b), (2, .val .bool .b), (3, .val S_string .b), (4, .val (.int .i64) .b), (5, .val .bool .b), (6, .val .bool .b), (7, .val S_string .b), (11, .val S_string .b), (12, .fn 201 []), (15, .val .bool .b), (16, .val S_string .b), (17, .fn 201 []), (24, .val (.int .i64) .b)]⟩]
noncomputable def b_I_areLines_221_2 (t0 : PV S_string) (t2 : PV .bool) (t3 : PV S_string) (t4 : PV (.int .i64)) (t5 : PV .bool) (t6 : PV .bool) (t7 : PV S_string) (t11 : PV S_string) (t15 : PV .bool) (t16 : PV S_string) (t20 : PV S_string) (t27 : PV (.int .i64)) (t28 : PV (.int .i64)) : Option ((PV S_string × PV .bool × PV S_string × PV (.int .i64) × PV .bool × PV .bool × PV S_string × PV S_string × PV .bool × PV S_string × PV S_string × PV (.int .i64) × PV (.int .i64) × Unit) ⊕ ((PV S_string × PV .bool × PV S_string × PV (.int .i64) × PV .bool × PV .bool × PV S_string × PV S_string × PV .bool × PV S_string × Unit) ⊕ (PV S_string × PV .bool × PV S_string × PV (.int .i64) × PV .bool × PV .bool × PV S_string × PV S_string × PV .bool × PV S_string × PV (.int .i64) × Unit))) :=
  bif (decide (t28 < t27)) then
    bif inB t28 t20.length then
      (f_I_areLines_1 (t20.getD t28.toNat [])).bind fun r4 =>
        bif r4.1.1 then
          some (.inr (.inr (t0, t2, t3, t4, t5, t6, t7, t11, t15, t16, t28, ())))
        else
          some (.inl (t0, t2, t3, t4, t5, t6, t7, t11, t15, t16, t20, t27, (IntKind.wrap .i64 (t28 + 1)), ()))
    else
      none
  else
    some (.inr (.inl (t0, t2, t3, t4, t5, t6, t7, t11, t15, t16, ())))
noncomputable def w_I_areLines_221_2 : PV S_string × PV .bool × PV S_string × PV (.int .i64) × PV .bool × PV .bool × PV S_string × PV S_string × PV .bool × PV S_string × PV S_string × PV (.int .i64) × PV (.int .i64) × Unit → Option ((PV S_string × PV .bool × PV S_string × PV (.int .i64) × PV .bool × PV .bool × PV S_string × PV S_string × PV .bool × PV S_string × Unit) ⊕ (PV S_string × PV .bool × PV S_string × PV (.int .i64) × PV .bool × PV .bool × PV S_string × PV S_string × PV .bool × PV S_string × PV (.int .i64) × Unit)) := fix fun d => b_I_areLines_221_2 d.1 d.2.1 d.2.2.1 d.2.2.2.1 d.2.2.2.2.1 d.2.2.2.2.2.1 d.2.2.2.2.2.2.1 d.2.2.2.2.2.2.2.1 d.2.2.2.2.2.2.2.2.1 d.2.2.2.2.2.2.2.2.2.1 d.2.2.2.2.2.2.2.2.2.2.1 d.2.2.2.2.2.2.2.2.2.2.2.1 d.2.2.2.2.2.2.2.2.2.2.2.2.1
noncomputable def lp_I_areLines_221_2 : Lp := ⟨⟨[], [0, 1, 7, 8]⟩, sh_I_areLines_221_2, o_I_areLines_221_2, fun d => b_I_areLines_221_2 d.1 d.2.1 d.2.2.1 d.2.2.2.1 d.2.2.2.2.1 d.2.2.2.2.2.1 d.2.2.2.2.2.2.1 d.2.2.2.2.2.2.2.1 d.2.2.2.2.2.2.2.2.1 d.2.2.2.2.2.2.2.2.2.1 d.2.2.2.2.2.2.2.2.2.2.1 d.2.2.2.2.2.2.2.2.2.2.2.1 d.2.2.2.2.2.2.2.2.2.2.2.2.1⟩
noncomputable def pl_I_areLines_221 : Plan := ⟨[], [(2, lp_I_areLines_221_2)], 0, 20⟩
noncomputable def pl_I_areLines : Plan := ⟨[], [], 2, 0⟩
noncomputable def f_I_areLines (t0 : PV S_string) : Option (PVs [.bool] × PVs []) :=
  bif (decide ((t0.length : Int) ≤ 40)) then
    (w_I_areLines_221_2 (t0, false, t0, (t0.length : Int), (decide ((t0.length : Int) ≤ 40)), true, t0, t0, false, t0, t0, (t0.length : Int), 0, ())).bind fun x9 =>
      match x9 with
      | .inl l7 =>
        bif l7.2.2.2.2.2.1 then
          some (((!(decide ((-1) ≥ 0))), ()), ())
        else
          some ((false, ()), ())
      | .inr l8 =>
        bif l8.2.2.2.2.2.1 then
          some (((!(decide (l8.2.2.2.2.2.2.2.2.2.2.1 ≥ 0))), ()), ())
        else
          some ((false, ()), ())
  else
    some ((false, ()), ())
noncomputable def ct_I_areLines : Ct := ⟨[(.bor, S_string)], [(.bool, false)], fun x => f_I_areLines x.1⟩
noncomputable def cx_I_areLines : Cx := ⟨tab, arrs, [(201, ct_I_areLines_1)], [(200, Try.f200, pl_I_areLines_200), (221, Try.f221, pl_I_areLines_221)]⟩
theorem eb_I_areLines_221_2 (t0 : PV S_string) (t2 : PV .bool) (t3 : PV S_string) (t4 : PV (.int .i64)) (t5 : PV .bool) (t6 : PV .bool) (t7 : PV S_string) (t11 : PV S_string) (t15 : PV .bool) (t16 : PV S_string) (t20 : PV S_string) (t27 : PV (.int .i64)) (t28 : PV (.int .i64)) : denK cx_I_areLines (rcN cx_I_areLines 0) pl_I_areLines_221 20 ((loopsOf (bodyOf Try.f221)).getD 0 .skip) (fillS sh_I_areLines_221_2 (t0, t2, t3, t4, t5, t6, t7, t11, t15, t16, t20, t27, t28, ())) (roundK 20 lp_I_areLines_221_2) = b_I_areLines_221_2 t0 t2 t3 t4 t5 t6 t7 t11 t15 t16 t20 t27 t28 := by kernel_rfl
theorem ef_I_areLines (t0 : PV S_string) : denF cx_I_areLines 2 pl_I_areLines Try.f164.ntmps (bodyOf Try.f164) Try.f164.results.toList [(.bor, S_string)] [(.bool, false)] (t0, ()) = f_I_areLines t0 := by kernel_rfl
theorem ok_I_areLines : FnOk Try.prog 164 ct_I_areLines :=
  fnOk (cx := cx_I_areLines) (pl := pl_I_areLines) (dp := 2) (ok0_of tabOk (by unfold ArrOk; kernel_rfl) mix ⟨ok_I_areLines_1, trivial⟩ ⟨⟨Try.func200, by kernel_rfl, (by rw [show loopsOf (bodyOf Try.f200) = [] from by kernel_rfl]; exact trivial)⟩, ⟨Try.func221, by kernel_rfl, (by rw [show loopsOf (bodyOf Try.f221) = [((loopsOf (bodyOf Try.f221)).getD 0 .skip)] from by kernel_rfl]; exact ⟨(by rw [show lookup pl_I_areLines_221.loops (firstId ((loopsOf (bodyOf Try.f221)).getD 0 .skip)) = some lp_I_areLines_221_2 from by kernel_rfl]; exact fun d z h => (eb_I_areLines_221_2 d.1 d.2.1 d.2.2.1 d.2.2.2.1 d.2.2.2.2.1 d.2.2.2.2.2.1 d.2.2.2.2.2.2.1 d.2.2.2.2.2.2.2.1 d.2.2.2.2.2.2.2.2.1 d.2.2.2.2.2.2.2.2.2.1 d.2.2.2.2.2.2.2.2.2.2.1 d.2.2.2.2.2.2.2.2.2.2.2.1 d.2.2.2.2.2.2.2.2.2.2.2.2.1).trans h), trivial⟩)⟩, trivial⟩) Try.func164 (by kernel_rfl) (by kernel_rfl) (by kernel_rfl)
    (by rw [show loopsOf (bodyOf Try.f164) = [] from by kernel_rfl]; exact trivial) (fun x => ef_I_areLines x.1)
noncomputable def pl_internal_stringslite_HasSuffix : Plan := ⟨[], [], 0, 0⟩
noncomputable def f_internal_stringslite_HasSuffix (t0 : PV .str) (t1 : PV .str) : Option (PVs [.bool] × PVs []) :=
  bif (decide ((t0.length : Int) ≥ (t1.length : Int))) then
    bif cutB (IntKind.wrap .i64 ((t0.length : Int) - (t1.length : Int))) (t0.length : Int) t0.length then
      some ((((cutL (IntKind.wrap .i64 ((t0.length : Int) - (t1.length : Int))) (t0.length : Int) t0) == t1), ()), ())
    else
      none
  else
    some ((false, ()), ())
noncomputable def ct_internal_stringslite_HasSuffix : Ct := ⟨[(.bor, .str), (.bor, .str)], [(.bool, false)], fun x => f_internal_stringslite_HasSuffix x.1 x.2.1⟩
noncomputable def cx_internal_stringslite_HasSuffix : Cx := ⟨tab, arrs, [], []⟩
theorem ef_internal_stringslite_HasSuffix (t0 : PV .str) (t1 : PV .str) : denF cx_internal_stringslite_HasSuffix 0 pl_internal_stringslite_HasSuffix Try.f225.ntmps (bodyOf Try.f225) Try.f225.results.toList [(.bor, .str), (.bor, .str)] [(.bool, false)] (t0, t1, ()) = f_internal_stringslite_HasSuffix t0 t1 := by kernel_rfl
theorem ok_internal_stringslite_HasSuffix : FnOk Try.prog 225 ct_internal_stringslite_HasSuffix :=
  fnOk (cx := cx_internal_stringslite_HasSuffix) (pl := pl_internal_stringslite_HasSuffix) (dp := 0) (ok0_of tabOk (by unfold ArrOk; kernel_rfl) mix trivial trivial) Try.func225 (by kernel_rfl) (by kernel_rfl) (by kernel_rfl)
    (by rw [show loopsOf (bodyOf Try.f225) = [] from by kernel_rfl]; exact trivial) (fun x => ef_internal_stringslite_HasSuffix x.1 x.2.1)
noncomputable def pl_strings_HasSuffix : Plan := ⟨[], [], 0, 0⟩
noncomputable def f_strings_HasSuffix (t0 : PV .str) (t1 : PV .str) : Option (PVs [.bool] × PVs []) :=
  (f_internal_stringslite_HasSuffix t0 t1).bind fun r1 =>
    some ((r1.1.1, ()), ())
noncomputable def ct_strings_HasSuffix : Ct := ⟨[(.bor, .str), (.bor, .str)], [(.bool, false)], fun x => f_strings_HasSuffix x.1 x.2.1⟩
noncomputable def cx_strings_HasSuffix : Cx := ⟨tab, arrs, [(225, ct_internal_stringslite_HasSuffix)], []⟩
theorem ef_strings_HasSuffix (t0 : PV .str) (t1 : PV .str) : denF cx_strings_HasSuffix 0 pl_strings_HasSuffix Try.f206.ntmps (bodyOf Try.f206) Try.f206.results.toList [(.bor, .str), (.bor, .str)] [(.bool, false)] (t0, t1, ()) = f_strings_HasSuffix t0 t1 := by kernel_rfl
theorem ok_strings_HasSuffix : FnOk Try.prog 206 ct_strings_HasSuffix :=
  fnOk (cx := cx_strings_HasSuffix) (pl := pl_strings_HasSuffix) (dp := 0) (ok0_of tabOk (by unfold ArrOk; kernel_rfl) mix ⟨ok_internal_stringslite_HasSuffix, trivial⟩ trivial) Try.func206 (by kernel_rfl) (by kernel_rfl) (by kernel_rfl)
    (by rw [show loopsOf (bodyOf Try.f206) = [] from by kernel_rfl]; exact trivial) (fun x => ef_strings_HasSuffix x.1 x.2.1)
noncomputable def pl_I_isEnded : Plan := ⟨[], [], 0, 0⟩
noncomputable def f_I_isEnded (t0 : PV .str) : Option (PVs [.bool] × PVs []) :=
  (f_strings_HasSuffix t0 [10]).bind fun r1 =>
    some ((r1.1.1, ()), ())
noncomputable def ct_I_isEnded : Ct := ⟨[(.bor, .str)], [(.bool, false)], fun x => f_I_isEnded x.1⟩
noncomputable def cx_I_isEnded : Cx := ⟨tab, arrs, [(206, ct_strings_HasSuffix)], []⟩
theorem ef_I_isEnded (t0 : PV .str) : denF cx_I_isEnded 0 pl_I_isEnded Try.f170.ntmps (bodyOf Try.f170) Try.f170.results.toList [(.bor, .str)] [(.bool, false)] (t0, ()) = f_I_isEnded t0 := by kernel_rfl
theorem ok_I_isEnded : FnOk Try.prog 170 ct_I_isEnded :=
  fnOk (cx := cx_I_isEnded) (pl := pl_I_isEnded) (dp := 0) (ok0_of tabOk (by unfold ArrOk; kernel_rfl) mix ⟨ok_strings_HasSuffix, trivial⟩ trivial) Try.func170 (by kernel_rfl) (by kernel_rfl) (by kernel_rfl)
    (by rw [show loopsOf (bodyOf Try.f170) = [] from by kernel_rfl]; exact trivial) (fun x => ef_I_isEnded x.1)
noncomputable def o_I_goodLines_7 : List Out := [⟨.normal, ⟨[], [0, 8, 9, 10, 24]⟩, mkSh 26 [(0, .val S_string .b), (8, .val S_string .b), (9, .val (.int .i64) .b), (10, .val (.int .i64) .b), (24, .val .bool .b)]⟩]
noncomputable def sh_I_goodLines_4 : List Sh := mkSh 26 [(0, .val S_string .b), (8, .val S_string .b), (9, .val (.int .i64) .b), (10, .val (.int .i64) .b)]
noncomputable def o_I_goodLines_4 : List Out := [⟨.exit 0, ⟨[], []⟩, mkSh 26 []⟩, ⟨.ret, ⟨[], [2]⟩, mkSh 26 [(2, .val .bool .b)]⟩]
noncomputable def b_I_goodLines_4 (t0 : PV S_string) (t8 : PV S_string) (t9 : PV (.int .i64)) (t10 : PV (.int .i64)) : Option ((PV S_string × PV S_string × PV (.int .i64) × PV (.int .i64) × Unit) ⊕ ((Unit) ⊕ (PV .bool × Unit))) :=
  bif (decide (t10 < t9)) then
    bif inB t10 t8.length then
      ((
          bif (decide (t10 < (IntKind.wrap .i64 ((t0.length : Int) - 1)))) then
            (f_I_isEnded (t8.getD t10.toNat [])).bind fun r7 =>
              some (t0, t8, t9, t10, (!r7.1.1), ())
          else
            some (t0, t8, t9, t10, false, ()) : Option ((PV S_string × PV S_string × PV (.int .i64) × PV (.int .i64) × PV .bool × Unit)))).bind fun j8 =>
        bif j8.2.2.2.2.1 then
          some (.inr (.inr (false, ())))
        else
          some (.inl (j8.1, j8.2.1, j8.2.2.1, (IntKind.wrap .i64 (j8.2.2.2.1 + 1)), ()))
    else
      none
  else
    some (.inr (.inl ()))
noncomputable def w_I_goodLines_4 : PV S_string × PV S_string × PV (.int .i64) × PV (.int .i64) × Unit → Option ((Unit) ⊕ (PV .bool × Unit)) := fix fun d => b_I_goodLines_4 d.1 d.2.1 d.2.2.1 d.2.2.2.1
noncomputable def lp_I_goodLines_4 : Lp := ⟨⟨[], [0, 8, 9, 10, 21, 22, 23]⟩, sh_I_goodLines_4, o_I_goodLines_4, fun d => b_I_goodLines_4 d.1 d.2.1 d.2.2.1 d.2.2.2.1⟩
noncomputable def pl_I_goodLines : Plan := ⟨[(7, o_I_goodLines_7)], [(4, lp_I_goodLines_4)], 0, 0⟩
noncomputable def f_I_goodLines (t0 : PV S_string) : Option (PVs [.bool] × PVs []) :=
  (f_I_areLines t0).bind fun r4 =>
    bif (!r4.1.1) then
      some ((false, ()), ())
    else
      (w_I_goodLines_4 (t0, t0, (t0.length : Int), 0, ())).bind fun x13 =>
        match x13 with
        | .inl l11 =>
          some ((true, ()), ())
        | .inr l12 =>
          some ((l12.1, ()), ())
noncomputable def ct_I_goodLines : Ct := ⟨[(.bor, S_string)], [(.bool, false)], fun x => f_I_goodLines x.1⟩
noncomputable def cx_I_goodLines : Cx := ⟨tab, arrs, [(164, ct_I_areLines), (170, ct_I_isEnded)], []⟩
theorem eb_I_goodLines_4 (t0 : PV S_string) (t8 : PV S_string) (t9 : PV (.int .i64)) (t10 : PV (.int .i64)) : denK cx_I_goodLines (rcN cx_I_goodLines 0) pl_I_goodLines 0 ((loopsOf (bodyOf Try.f129)).getD 0 .skip) (fillS sh_I_goodLines_4 (t0, t8, t9, t10, ())) (roundK 0 lp_I_goodLines_4) = b_I_goodLines_4 t0 t8 t9 t10 := by kernel_rfl
theorem ef_I_goodLines (t0 : PV S_string) : denF cx_I_goodLines 0 pl_I_goodLines Try.f129.ntmps (bodyOf Try.f129) Try.f129.results.toList [(.bor, S_string)] [(.bool, false)] (t0, ()) = f_I_goodLines t0 := by kernel_rfl
theorem ok_I_goodLines : FnOk Try.prog 129 ct_I_goodLines :=
  fnOk (cx := cx_I_goodLines) (pl := pl_I_goodLines) (dp := 0) (ok0_of tabOk (by unfold ArrOk; kernel_rfl) mix ⟨ok_I_areLines, ok_I_isEnded, trivial⟩ trivial) Try.func129 (by kernel_rfl) (by kernel_rfl) (by kernel_rfl)
    (by rw [show loopsOf (bodyOf Try.f129) = [((loopsOf (bodyOf Try.f129)).getD 0 .skip)] from by kernel_rfl]; exact ⟨(by rw [show lookup pl_I_goodLines.loops (firstId ((loopsOf (bodyOf Try.f129)).getD 0 .skip)) = some lp_I_goodLines_4 from by kernel_rfl]; exact fun d z h => (eb_I_goodLines_4 d.1 d.2.1 d.2.2.1 d.2.2.2.1).trans h), trivial⟩) (fun x => ef_I_goodLines x.1)
noncomputable def o_I_goodGroup_2 : List Out := [⟨.normal, ⟨[], [1, 24, 38, 39, 40, 41, 44, 45, 46, 47, 48, 49, 50, 51, 52, 53, 54, 55, 56, 57, 58, 59, 60, 64, 65, 66, 75, 76, 79, 80, 83, 84, 85, 86, 87, 88, 91, 92, 93, 94, 95, 96]⟩, mkSh 98 [(1, .var Y_impl_Group .b), (24, .val .bool .b)]⟩]
noncomputable def o_I_goodGroup_8 : List Out := [⟨.normal, ⟨[], [1, 3, 5, 26, 27, 28, 61, 64, 65, 66, 75, 76, 79, 80, 83, 84, 85, 86, 87, 88, 91, 92, 93, 94, 95, 96]⟩, mkSh 98 [(1, .var Y_impl_Group .b), (3, .val .bool .b), (5, .var Y_impl_Row .b), (26, .val S_impl_Row .b), (27, .val (.int .i64) .b), (28, .val (.int .i64) .b), (61, .val .bool .b)]⟩]
noncomputable def o_I_goodGroup_10 : List Out := [⟨.normal, ⟨[], [1, 3, 5, 26, 27, 28, 38, 39, 40, 41, 44, 45, 46, 47, 48, 49, 50, 51, 52, 53, 54, 55, 56, 57, 58, 59, 60, 75, 76, 79, 80, 83, 84, 85, 86, 87, 88, 91, 92, 93, 94, 95, 96]⟩, mkSh 98 [(1, .var Y_impl_Group .b), (3, .val .bool .b), (5, .var Y_impl_Row .b), (26, .val S_impl_Row .b), (27, .val (.int .i64) .b), (28, .val (.int .i64) .b)]⟩, ⟨.ret, ⟨[], [2]⟩, mkSh 98 [(2, .val .bool .b)]⟩]
noncomputable def sh_I_goodGroup_5 : List Sh := mkSh 98 [(1, .var Y_impl_Group .b), (3, .val .bool .b), (26, .val S_impl_Row .b), (27, .val (.int .i64) .b), (28, .val (.int .i64) .b)]
noncomputable def o_I_goodGroup_5 : List Out := [⟨.exit 0, ⟨[], [1, 3, 75, 76, 79, 80, 83, 84, 85, 86, 87, 88, 91, 92, 93, 94, 95, 96]⟩, mkSh 98 [(1, .var Y_impl_Group .b), (3, .val .bool .b)]⟩, ⟨.ret, ⟨[], [2]⟩, mkSh 98 [(2, .val .bool .b)]⟩]
noncomputable def b_I_goodGroup_5 (t1 : PV Y_impl_Group) (t3 : PV .bool) (t26 : PV S_impl_Row) (t27 : PV (.int .i64)) (t28 : PV (.int .i64)) : Option ((PV Y_impl_Group × PV .bool × PV S_impl_Row × PV (.int .i64) × PV (.int .i64) × Unit) ⊕ ((PV Y_impl_Group × PV .bool × Unit) ⊕ (PV .bool × Unit))) :=
  bif (decide (t28 < t27)) then
    ((
        bif inB t28 t26.length then
          ((
              (f_I_in ((t26.getD t28.toNat (dflt Y_impl_Row)).1) 1 3).bind fun r15 =>
                bif (!r15.1.1) then
                  some (t1, t3, (t26.getD t28.toNat (dflt Y_impl_Row)), t26, t27, t28, true, ())
                else
                  (f_I_isLine (((t26.getD t28.toNat (dflt Y_impl_Row)).2).1)).bind fun r16 =>
                    bif (!r16.1.1) then
                      some (t1, t3, (t26.getD t28.toNat (dflt Y_impl_Row)), t26, t27, t28, true, ())
                    else
                      bif (decide (t28 > 0)) then
                        bif (((t26.getD t28.toNat (dflt Y_impl_Row)).1) == 2) then
                          bif inB (IntKind.wrap .i64 (t28 - 1)) t1.2.2.1.length then
                            some (t1, t3, (t26.getD t28.toNat (dflt Y_impl_Row)), t26, t27, t28, (((t1.2.2.1.getD ((IntKind.wrap .i64 (t28 - 1)).toNat) (dflt Y_impl_Row)).1) == 3), ())
                          else
                            none
                        else
                          some (t1, t3, (t26.getD t28.toNat (dflt Y_impl_Row)), t26, t27, t28, false, ())
                      else
                        some (t1, t3, (t26.getD t28.toNat (dflt Y_impl_Row)), t26, t27, t28, false, ()) : Option ((PV Y_impl_Group × PV .bool × PV Y_impl_Row × PV S_impl_Row × PV (.int .i64) × PV (.int .i64) × PV .bool × Unit)))).bind fun j17 =>
            bif j17.2.2.2.2.2.2.1 then
              some (.inr (false, ()))
            else
              bif j17.2.1 then
                some (.inl (j17.1, true, j17.2.2.1, j17.2.2.2.1, j17.2.2.2.2.1, j17.2.2.2.2.2.1, ()))
              else
                some (.inl (j17.1, (!(j17.2.2.1.1 == 1)), j17.2.2.1, j17.2.2.2.1, j17.2.2.2.2.1, j17.2.2.2.2.2.1, ()))
        else
          none : Option ((PV Y_impl_Group × PV .bool × PV Y_impl_Row × PV S_impl_Row × PV (.int .i64) × PV (.int .i64) × Unit) ⊕ (PV .bool × Unit)))).bind fun x30 =>
      match x30 with
      | .inl j18 =>
        some (.inl (j18.1, j18.2.1, j18.2.2.2.1, j18.2.2.2.2.1, (IntKind.wrap .i64 (j18.2.2.2.2.2.1 + 1)), ()))
      | .inr j19 =>
        some (.inr (.inr (j19.1, ())))
  else
    some (.inr (.inl (t1, t3, ())))
noncomputable def w_I_goodGroup_5 : PV Y_impl_Group × PV .bool × PV S_impl_Row × PV (.int .i64) × PV (.int .i64) × Unit → Option ((PV Y_impl_Group × PV .bool × Unit) ⊕ (PV .bool × Unit)) := fix fun d => b_I_goodGroup_5 d.1 d.2.1 d.2.2.1 d.2.2.2.1 d.2.2.2.2.1
noncomputable def lp_I_goodGroup_5 : Lp := ⟨⟨[], [1, 3, 26, 27, 28, 38, 39, 40, 41, 44, 45, 46, 47, 48, 49, 50, 51, 52, 53, 54, 55, 56, 57, 58, 59, 60, 64, 65, 66, 75, 76, 79, 80, 83, 84, 85, 86, 87, 88, 91, 92, 93, 94, 95, 96]⟩, sh_I_goodGroup_5, o_I_goodGroup_5, fun d => b_I_goodGroup_5 d.1 d.2.1 d.2.2.1 d.2.2.2.1 d.2.2.2.2.1⟩
noncomputable def pl_I_goodGroup : Plan := ⟨[(2, o_I_goodGroup_2), (8, o_I_goodGroup_8), (10, o_I_goodGroup_10)], [(5, lp_I_goodGroup_5)], 0, 0⟩
noncomputable def f_I_goodGroup (t0 : PV Y_impl_Group) : Option (PVs [.bool] × PVs []) :=
  ((
      (f_I_in t0.1 0 999).bind fun r8 =>
        bif (!r8.1.1) then
          some (t0, true, ())
        else
          (f_I_in t0.2.1 0 999).bind fun r9 =>
            bif (!r9.1.1) then
              some (t0, true, ())
            else
              (f_I_in (t0.2.2.1.length : Int) 1 80).bind fun r10 =>
                some (t0, (!r10.1.1), ()) : Option ((PV Y_impl_Group × PV .bool × Unit)))).bind fun j11 =>
    bif j11.2.1 then
      some ((false, ()), ())
    else
      (w_I_goodGroup_5 (j11.1, false, j11.1.2.2.1, (j11.1.2.2.1.length : Int), 0, ())).bind fun x31 =>
        match x31 with
        | .inl l22 =>
          (f_I_Group_old l22.1).bind fun r25 =>
            (f_I_Group_fresh l22.1).bind fun r26 =>
              bif l22.2.1 then
                (f_I_goodLines r25.1.1).bind fun r27 =>
                  bif r27.1.1 then
                    (f_I_goodLines r26.1.1).bind fun r28 =>
                      bif r28.1.1 then
                        bif (decide ((IntKind.wrap .i64 (l22.1.1 + (r25.1.1.length : Int))) ≤ 1000)) then
                          some (((decide ((IntKind.wrap .i64 (l22.1.2.1 + (r26.1.1.length : Int))) ≤ 1000)), ()), ())
                        else
                          some ((false, ()), ())
                      else
                        some ((false, ()), ())
                  else
                    some ((false, ()), ())
              else
                some ((false, ()), ())
        | .inr l29 =>
          some ((l29.1, ()), ())
noncomputable def ct_I_goodGroup : Ct := ⟨[(.bor, Y_impl_Group)], [(.bool, false)], fun x => f_I_goodGroup x.1⟩
noncomputable def cx_I_goodGroup : Cx := ⟨tab, arrs, [(95, ct_I_in), (129, ct_I_goodLines), (152, ct_I_Group_old), (153, ct_I_Group_fresh), (197, ct_I_isLine)], []⟩
theorem eb_I_goodGroup_5 (t1 : PV Y_impl_Group) (t3 : PV .bool) (t26 : PV S_impl_Row) (t27 : PV (.int .i64)) (t28 : PV (.int .i64)) : denK cx_I_goodGroup (rcN cx_I_goodGroup 0) pl_I_goodGroup 0 ((loopsOf (bodyOf Try.f151)).getD 0 .skip) (fillS sh_I_goodGroup_5 (t1, t3, t26, t27, t28, ())) (roundK 0 lp_I_goodGroup_5) = b_I_goodGroup_5 t1 t3 t26 t27 t28 := by kernel_rfl
theorem ef_I_goodGroup (t0 : PV Y_impl_Group) : denF cx_I_goodGroup 0 pl_I_goodGroup Try.f151.ntmps (bodyOf Try.f151) Try.f151.results.toList [(.bor, Y_impl_Group)] [(.bool, false)] (t0, ()) = f_I_goodGroup t0 := by kernel_rfl
theorem ok_I_goodGroup : FnOk Try.prog 151 ct_I_goodGroup :=
  fnOk (cx := cx_I_goodGroup) (pl := pl_I_goodGroup) (dp := 0) (ok0_of tabOk (by unfold ArrOk; kernel_rfl) mix ⟨ok_I_in, ok_I_goodLines, ok_I_Group_old, ok_I_Group_fresh, ok_I_isLine, trivial⟩ trivial) Try.func151 (by kernel_rfl) (by kernel_rfl) (by kernel_rfl)
    (by rw [show loopsOf (bodyOf Try.f151) = [((loopsOf (bodyOf Try.f151)).getD 0 .skip)] from by kernel_rfl]; exact ⟨(by rw [show lookup pl_I_goodGroup.loops (firstId ((loopsOf (bodyOf Try.f151)).getD 0 .skip)) = some lp_I_goodGroup_5 from by kernel_rfl]; exact fun d z h => (eb_I_goodGroup_5 d.1 d.2.1 d.2.2.1 d.2.2.2.1 d.2.2.2.2.1).trans h), trivial⟩) (fun x => ef_I_goodGroup x.1)
noncomputable def o_I_goodGroups_9 : List Out := [⟨.normal, ⟨[], [0, 4, 8, 9, 10, 57]⟩, mkSh 59 [(0, .val S_impl_Group .b), (4, .var Y_impl_Group .b), (8, .val S_impl_Group .b), (9, .val (.int .i64) .b), (10, .val (.int .i64) .b), (57, .val .bool .b)]⟩]
noncomputable def sh_I_goodGroups_4 : List Sh := mkSh 59 [(0, .val S_impl_Group .b), (8, .val S_impl_Group .b), (9, .val (.int .i64) .b), (10, .val (.int .i64) .b)]
noncomputable def o_I_goodGroups_4 : List Out := [⟨.exit 0, ⟨[], []⟩, mkSh 59 []⟩, ⟨.ret, ⟨[], [2]⟩, mkSh 59 [(2, .val .bool .b)]⟩]
noncomputable def b_I_goodGroups_4 (t0 : PV S_impl_Group) (t8 : PV S_impl_Group) (t9 : PV (.int .i64)) (t10 : PV (.int .i64)) : Option ((PV S_impl_Group × PV S_impl_Group × PV (.int .i64) × PV (.int .i64) × Unit) ⊕ ((Unit) ⊕ (PV .bool × Unit))) :=
  bif (decide (t10 < t9)) then
    bif inB t10 t8.length then
      (f_I_goodGroup (t8.getD t10.toNat (dflt Y_impl_Group))).bind fun r11 =>
        bif (!r11.1.1) then
          some (.inr (.inr (false, ())))
        else
          ((
              bif (decide (t10 > 0)) then
                bif inB (IntKind.wrap .i64 (t10 - 1)) t0.length then
                  bif inB (IntKind.wrap .i64 (t10 - 1)) t0.length then
                    (f_I_Group_old (t0.getD ((IntKind.wrap .i64 (t10 - 1)).toNat) (dflt Y_impl_Group))).bind fun r12 =>
                      bif (decide (((t8.getD t10.toNat (dflt Y_impl_Group)).1) < (IntKind.wrap .i64 (((t0.getD ((IntKind.wrap .i64 (t10 - 1)).toNat) (dflt Y_impl_Group)).1) + (r12.1.1.length : Int))))) then
                        some (t0, (t8.getD t10.toNat (dflt Y_impl_Group)), t8, t9, t10, true, ())
                      else
                        bif inB (IntKind.wrap .i64 (t10 - 1)) t0.length then
                          bif inB (IntKind.wrap .i64 (t10 - 1)) t0.length then
                            (f_I_Group_fresh (t0.getD ((IntKind.wrap .i64 (t10 - 1)).toNat) (dflt Y_impl_Group))).bind fun r13 =>
                              some (t0, (t8.getD t10.toNat (dflt Y_impl_Group)), t8, t9, t10, (decide ((((t8.getD t10.toNat (dflt Y_impl_Group)).2).1) < (IntKind.wrap .i64 ((((t0.getD ((IntKind.wrap .i64 (t10 - 1)).toNat) (dflt Y_impl_Group)).2).1) + (r13.1.1.length : Int))))), ())
                          else
                            none
                        else
                          none
                  else
                    none
                else
                  none
              else
                some (t0, (t8.getD t10.toNat (dflt Y_impl_Group)), t8, t9, t10, false, ()) : Option ((PV S_impl_Group × PV Y_impl_Group × PV S_impl_Group × PV (.int .i64) × PV (.int .i64) × PV .bool × Unit)))).bind fun j14 =>
            bif j14.2.2.2.2.2.1 then
              some (.inr (.inr (false, ())))
            else
              some (.inl (j14.1, j14.2.2.1, j14.2.2.2.1, (IntKind.wrap .i64 (j14.2.2.2.2.1 + 1)), ()))
    else
      none
  else
    some (.inr (.inl ()))
noncomputable def w_I_goodGroups_4 : PV S_impl_Group × PV S_impl_Group × PV (.int .i64) × PV (.int .i64) × Unit → Option ((Unit) ⊕ (PV .bool × Unit)) := fix fun d => b_I_goodGroups_4 d.1 d.2.1 d.2.2.1 d.2.2.2.1
noncomputable def lp_I_goodGroups_4 : Lp := ⟨⟨[], [0, 8, 9, 10, 21, 22, 23, 24, 25, 26, 27, 28, 29, 30, 31, 32, 33, 34, 35, 36, 37, 38, 39, 40, 41, 42, 43, 44, 45, 46, 47, 48, 49, 50, 51, 52, 53, 54, 55, 56]⟩, sh_I_goodGroups_4, o_I_goodGroups_4, fun d => b_I_goodGroups_4 d.1 d.2.1 d.2.2.1 d.2.2.2.1⟩
noncomputable def pl_I_goodGroups : Plan := ⟨[(9, o_I_goodGroups_9)], [(4, lp_I_goodGroups_4)], 0, 0⟩
noncomputable def f_I_goodGroups (t0 : PV S_impl_Group) : Option (PVs [.bool] × PVs []) :=
  bif (decide ((t0.length : Int) > 20)) then
    some ((false, ()), ())
  else
    (w_I_goodGroups_4 (t0, t0, (t0.length : Int), 0, ())).bind fun x19 =>
      match x19 with
      | .inl l17 =>
        some ((true, ()), ())
      | .inr l18 =>
        some ((l18.1, ()), ())
noncomputable def ct_I_goodGroups : Ct := ⟨[(.bor, S_impl_Group)], [(.bool, false)], fun x => f_I_goodGroups x.1⟩
noncomputable def cx_I_goodGroups : Cx := ⟨tab, arrs, [(151, ct_I_goodGroup), (152, ct_I_Group_old), (153, ct_I_Group_fresh)], []⟩
theorem eb_I_goodGroups_4 (t0 : PV S_impl_Group) (t8 : PV S_impl_Group) (t9 : PV (.int .i64)) (t10 : PV (.int .i64)) : denK cx_I_goodGroups (rcN cx_I_goodGroups 0) pl_I_goodGroups 0 ((loopsOf (bodyOf Try.f74)).getD 0 .skip) (fillS sh_I_goodGroups_4 (t0, t8, t9, t10, ())) (roundK 0 lp_I_goodGroups_4) = b_I_goodGroups_4 t0 t8 t9 t10 := by kernel_rfl
theorem ef_I_goodGroups (t0 : PV S_impl_Group) : denF cx_I_goodGroups 0 pl_I_goodGroups Try.f74.ntmps (bodyOf Try.f74) Try.f74.results.toList [(.bor, S_impl_Group)] [(.bool, false)] (t0, ()) = f_I_goodGroups t0 := by kernel_rfl
theorem ok_I_goodGroups : FnOk Try.prog 74 ct_I_goodGroups :=
  fnOk (cx := cx_I_goodGroups) (pl := pl_I_goodGroups) (dp := 0) (ok0_of tabOk (by unfold ArrOk; kernel_rfl) mix ⟨ok_I_goodGroup, ok_I_Group_old, ok_I_Group_fresh, trivial⟩ trivial) Try.func74 (by kernel_rfl) (by kernel_rfl) (by kernel_rfl)
    (by rw [show loopsOf (bodyOf Try.f74) = [((loopsOf (bodyOf Try.f74)).getD 0 .skip)] from by kernel_rfl]; exact ⟨(by rw [show lookup pl_I_goodGroups.loops (firstId ((loopsOf (bodyOf Try.f74)).getD 0 .skip)) = some lp_I_goodGroups_4 from by kernel_rfl]; exact fun d z h => (eb_I_goodGroups_4 d.1 d.2.1 d.2.2.1 d.2.2.2.1).trans h), trivial⟩) (fun x => ef_I_goodGroups x.1)
noncomputable def o_I_back_13 : List Out := [⟨.normal, ⟨[], [3, 4, 5, 11, 12, 13]⟩, mkSh 45 [(3, .var S_impl_Row (.row (.pr .b (.pr .b .b)))), (4, .var S_impl_Row (.row (.pr .b (.pr .b .b)))), (5, .fn 154 [⟨3, [], 0, 0⟩, ⟨4, [], 0, 0⟩]), (11, .val S_impl_Row .b), (12, .val (.int .i64) .b), (13, .val (.int .i64) .b)]⟩]
noncomputable def pl_I_back_154 : Plan := ⟨[], [], 0, 45⟩
noncomputable def sh_I_back_4 : List Sh := mkSh 45 [(3, .var S_impl_Row (.row (.pr .b (.pr .b .b)))), (4, .var S_impl_Row (.row (.pr .b (.pr .b .b)))), (5, .fn 154 [⟨3, [], 0, 0⟩, ⟨4, [], 0, 0⟩]), (11, .val S_impl_Row .b), (12, .val (.int .i64) .b), (13, .val (.int .i64) .b)]
noncomputable def o_I_back_4 : List Out := [⟨.exit 0, ⟨[], [3, 4, 5]⟩, mkSh 45 [(3, .var S_impl_Row (.row (.pr .b (.pr .b .b)))), (4, .var S_impl_Row (.row (.pr .b (.pr .b .b)))), (5, .fn 154 [⟨3, [], 0, 0⟩, ⟨4, [], 0, 0⟩])]⟩]
noncomputable def b_I_back_4 (t3 : PV S_impl_Row) (t4 : PV S_impl_Row) (t11 : PV S_impl_Row) (t12 : PV (.int .i64)) (t13 : PV (.int .i64)) : Option ((PV S_impl_Row × PV S_impl_Row × PV S_impl_Row × PV (.int .i64) × PV (.int .i64) × Unit) ⊕ ((PV S_impl_Row × PV S_impl_Row × Unit))) :=
  bif (decide (t13 < t12)) then
    ((
        bif inB t13 t11.length then
          bif (((t11.getD t13.toNat (dflt Y_impl_Row)).1) == 2) then
            bif roomB (t4.length + [(3, (((t11.getD t13.toNat (dflt Y_impl_Row)).2).1, ()))].length) then
              some (t3, (t4 ++ [(3, (((t11.getD t13.toNat (dflt Y_impl_Row)).2).1, ()))]), t11, t12, t13, ())
            else
              none
          else
            bif (((t11.getD t13.toNat (dflt Y_impl_Row)).1) == 3) then
              bif roomB (t3.length + [(2, (((t11.getD t13.toNat (dflt Y_impl_Row)).2).1, ()))].length) then
                some ((t3 ++ [(2, (((t11.getD t13.toNat (dflt Y_impl_Row)).2).1, ()))]), t4, t11, t12, t13, ())
              else
                none
            else
              bif roomB (t3.length + t4.length) then
                bif roomB ((t3 ++ t4).length + [(t11.getD t13.toNat (dflt Y_impl_Row))].length) then
                  some (((t3 ++ t4) ++ [(t11.getD t13.toNat (dflt Y_impl_Row))]), [], t11, t12, t13, ())
                else
                  none
              else
                none
        else
          none : Option ((PV S_impl_Row × PV S_impl_Row × PV S_impl_Row × PV (.int .i64) × PV (.int .i64) × Unit)))).bind fun j1 =>
      some (.inl (j1.1, j1.2.1, j1.2.2.1, j1.2.2.2.1, (IntKind.wrap .i64 (j1.2.2.2.2.1 + 1)), ()))
  else
    some (.inr (t3, t4, ()))
noncomputable def w_I_back_4 : PV S_impl_Row × PV S_impl_Row × PV S_impl_Row × PV (.int .i64) × PV (.int .i64) × Unit → Option ((PV S_impl_Row × PV S_impl_Row × Unit)) := fix fun d => b_I_back_4 d.1 d.2.1 d.2.2.1 d.2.2.2.1 d.2.2.2.2.1
noncomputable def lp_I_back_4 : Lp := ⟨⟨[], [3, 4, 5, 11, 12, 13]⟩, sh_I_back_4, o_I_back_4, fun d => b_I_back_4 d.1 d.2.1 d.2.2.1 d.2.2.2.1 d.2.2.2.2.1⟩
noncomputable def pl_I_back : Plan := ⟨[(13, o_I_back_13)], [(4, lp_I_back_4)], 1, 0⟩
noncomputable def f_I_back (t0 : PV S_impl_Row) : Option (PVs [S_impl_Row] × PVs []) :=
  (w_I_back_4 (([] : PV S_impl_Row), ([] : PV S_impl_Row), t0, (t0.length : Int), 0, ())).bind fun l3 =>
    bif roomB (l3.1.length + l3.2.1.length) then
      some (((l3.1 ++ l3.2.1), ()), ())
    else
      none
noncomputable def ct_I_back : Ct := ⟨[(.bor, S_impl_Row)], [(S_impl_Row, true)], fun x => f_I_back x.1⟩
noncomputable def cx_I_back : Cx := ⟨tab, arrs, [], [(154, Try.f154, pl_I_back_154)]⟩
theorem eb_I_back_4 (t3 : PV S_impl_Row) (t4 : PV S_impl_Row) (t11 : PV S_impl_Row) (t12 : PV (.int .i64)) (t13 : PV (.int .i64)) : denK cx_I_back (rcN cx_I_back 1) pl_I_back 0 ((loopsOf (bodyOf Try.f75)).getD 0 .skip) (fillS sh_I_back_4 (t3, t4, t11, t12, t13, ())) (roundK 0 lp_I_back_4) = b_I_back_4 t3 t4 t11 t12 t13 := by kernel_rfl
theorem ef_I_back (t0 : PV S_impl_Row) : denF cx_I_back 1 pl_I_back Try.f75.ntmps (bodyOf Try.f75) Try.f75.results.toList [(.bor, S_impl_Row)] [(S_impl_Row, true)] (t0, ()) = f_I_back t0 := by kernel_rfl
theorem ok_I_back : FnOk Try.prog 75 ct_I_back :=
  fnOk (cx := cx_I_back) (pl := pl_I_back) (dp := 1) (ok0_of tabOk (by unfold ArrOk; kernel_rfl) mix trivial ⟨⟨Try.func154, by kernel_rfl, (by rw [show loopsOf (bodyOf Try.f154) = [] from by kernel_rfl]; exact trivial)⟩, trivial⟩) Try.func75 (by kernel_rfl) (by kernel_rfl) (by kernel_rfl)
    (by rw [show loopsOf (bodyOf Try.f75) = [((loopsOf (bodyOf Try.f75)).getD 0 .skip)] from by kernel_rfl]; exact ⟨(by rw [show lookup pl_I_back.loops (firstId ((loopsOf (bodyOf Try.f75)).getD 0 .skip)) = some lp_I_back_4 from by kernel_rfl]; exact fun d z h => (eb_I_back_4 d.1 d.2.1 d.2.2.1 d.2.2.2.1 d.2.2.2.2.1).trans h), trivial⟩) (fun x => ef_I_back x.1)
noncomputable def sh_I_BackGroups_5 : List Sh := mkSh 30 [(4, .val S_impl_Group (.row (.pr .b (.pr .b (.pr (.row (.pr .b (.pr .b .b))) .b))))), (11, .val S_impl_Group .b), (12, .val (.int .i64) .b), (13, .val (.int .i64) .b)]
noncomputable def o_I_BackGroups_5 : List Out := [⟨.exit 0, ⟨[], [4]⟩, mkSh 30 [(4, .val S_impl_Group (.row (.pr .b (.pr .b (.pr (.row (.pr .b (.pr .b .b))) .b)))))]⟩]
noncomputable def b_I_BackGroups_5 (t4 : PV S_impl_Group) (t11 : PV S_impl_Group) (t12 : PV (.int .i64)) (t13 : PV (.int .i64)) : Option ((PV S_impl_Group × PV S_impl_Group × PV (.int .i64) × PV (.int .i64) × Unit) ⊕ ((PV S_impl_Group × Unit))) :=
  bif (decide (t13 < t12)) then
    bif inB t13 t11.length then
      (f_I_back ((((t11.getD t13.toNat (dflt Y_impl_Group)).2).2).1)).bind fun r6 =>
        bif roomB (t4.length + [(((t11.getD t13.toNat (dflt Y_impl_Group)).2).1, ((t11.getD t13.toNat (dflt Y_impl_Group)).1, (r6.1.1, ())))].length) then
          some (.inl ((t4 ++ [(((t11.getD t13.toNat (dflt Y_impl_Group)).2).1, ((t11.getD t13.toNat (dflt Y_impl_Group)).1, (r6.1.1, ())))]), t11, t12, (IntKind.wrap .i64 (t13 + 1)), ()))
        else
          none
    else
      none
  else
    some (.inr (t4, ()))
noncomputable def w_I_BackGroups_5 : PV S_impl_Group × PV S_impl_Group × PV (.int .i64) × PV (.int .i64) × Unit → Option ((PV S_impl_Group × Unit)) := fix fun d => b_I_BackGroups_5 d.1 d.2.1 d.2.2.1 d.2.2.2.1
noncomputable def lp_I_BackGroups_5 : Lp := ⟨⟨[], [4, 11, 12, 13]⟩, sh_I_BackGroups_5, o_I_BackGroups_5, fun d => b_I_BackGroups_5 d.1 d.2.1 d.2.2.1 d.2.2.2.1⟩
noncomputable def pl_I_BackGroups : Plan := ⟨[], [(5, lp_I_BackGroups_5)], 0, 0⟩
noncomputable def f_I_BackGroups (t0 : PV S_impl_Group) : Option (PVs [S_impl_Group, .bool] × PVs []) :=
  (f_I_goodGroups t0).bind fun r4 =>
    bif (!r4.1.1) then
      some (([], false, ()), ())
    else
      (w_I_BackGroups_5 (([] : PV S_impl_Group), t0, (t0.length : Int), 0, ())).bind fun l8 =>
        some ((l8.1, true, ()), ())
noncomputable def ct_I_BackGroups : Ct := ⟨[(.bor, S_impl_Group)], [(S_impl_Group, true), (.bool, false)], fun x => f_I_BackGroups x.1⟩
noncomputable def cx_I_BackGroups : Cx := ⟨tab, arrs, [(74, ct_I_goodGroups), (75, ct_I_back)], []⟩
theorem eb_I_BackGroups_5 (t4 : PV S_impl_Group) (t11 : PV S_impl_Group) (t12 : PV (.int .i64)) (t13 : PV (.int .i64)) : denK cx_I_BackGroups (rcN cx_I_BackGroups 0) pl_I_BackGroups 0 ((loopsOf (bodyOf Try.f17)).getD 0 .skip) (fillS sh_I_BackGroups_5 (t4, t11, t12, t13, ())) (roundK 0 lp_I_BackGroups_5) = b_I_BackGroups_5 t4 t11 t12 t13 := by kernel_rfl
theorem ef_I_BackGroups (t0 : PV S_impl_Group) : denF cx_I_BackGroups 0 pl_I_BackGroups Try.f17.ntmps (bodyOf Try.f17) Try.f17.results.toList [(.bor, S_impl_Group)] [(S_impl_Group, true), (.bool, false)] (t0, ()) = f_I_BackGroups t0 := by kernel_rfl
theorem ok_I_BackGroups : FnOk Try.prog 17 ct_I_BackGroups :=
  fnOk (cx := cx_I_BackGroups) (pl := pl_I_BackGroups) (dp := 0) (ok0_of tabOk (by unfold ArrOk; kernel_rfl) mix ⟨ok_I_goodGroups, ok_I_back, trivial⟩ trivial) Try.func17 (by kernel_rfl) (by kernel_rfl) (by kernel_rfl)
    (by rw [show loopsOf (bodyOf Try.f17) = [((loopsOf (bodyOf Try.f17)).getD 0 .skip)] from by kernel_rfl]; exact ⟨(by rw [show lookup pl_I_BackGroups.loops (firstId ((loopsOf (bodyOf Try.f17)).getD 0 .skip)) = some lp_I_BackGroups_5 from by kernel_rfl]; exact fun d z h => (eb_I_BackGroups_5 d.1 d.2.1 d.2.2.1 d.2.2.2.1).trans h), trivial⟩) (fun x => ef_I_BackGroups x.1)
noncomputable def pl_L_eqRow : Plan := ⟨[], [], 0, 0⟩
noncomputable def f_L_eqRow (t0 : PV Y_impl_Row) (t1 : PV Y_impl_Row) : Option (PVs [.bool] × PVs []) :=
  bif (!(t0.1 == t1.1)) then
    some ((false, ()), ())
  else
    bif (!(t0.2.1 == t1.2.1)) then
      some ((false, ()), ())
    else
      some ((true, ()), ())
noncomputable def ct_L_eqRow : Ct := ⟨[(.bor, Y_impl_Row), (.bor, Y_impl_Row)], [(.bool, false)], fun x => f_L_eqRow x.1 x.2.1⟩
noncomputable def cx_L_eqRow : Cx := ⟨tab, arrs, [], []⟩
theorem ef_L_eqRow (t0 : PV Y_impl_Row) (t1 : PV Y_impl_Row) : denF cx_L_eqRow 0 pl_L_eqRow Try.f199.ntmps (bodyOf Try.f199) Try.f199.results.toList [(.bor, Y_impl_Row), (.bor, Y_impl_Row)] [(.bool, false)] (t0, t1, ()) = f_L_eqRow t0 t1 := by kernel_rfl
theorem ok_L_eqRow : FnOk Try.prog 199 ct_L_eqRow :=
  fnOk (cx := cx_L_eqRow) (pl := pl_L_eqRow) (dp := 0) (ok0_of tabOk (by unfold ArrOk; kernel_rfl) mix trivial trivial) Try.func199 (by kernel_rfl) (by kernel_rfl) (by kernel_rfl)
    (by rw [show loopsOf (bodyOf Try.f199) = [] from by kernel_rfl]; exact trivial) (fun x => ef_L_eqRow x.1 x.2.1)
noncomputable def sh_L_eqRowS_4 : List Sh := mkSh 27 [(0, .val S_impl_Row .b), (1, .val S_impl_Row .b), (5, .val (.int .i64) .b)]
noncomputable def o_L_eqRowS_4 : List Out := [⟨.exit 0, ⟨[], []⟩, mkSh 27 []⟩, ⟨.ret, ⟨[], [4]⟩, mkSh 27 [(4, .val .bool .b)]⟩]
noncomputable def b_L_eqRowS_4 (t0 : PV S_impl_Row) (t1 : PV S_impl_Row) (t5 : PV (.int .i64)) : Option ((PV S_impl_Row × PV S_impl_Row × PV (.int .i64) × Unit) ⊕ ((Unit) ⊕ (PV .bool × Unit))) :=
  bif (decide (t5 < (t0.length : Int))) then
    bif inB t5 t0.length then
      bif inB t5 t1.length then
        (f_L_eqRow (t0.getD t5.toNat (dflt Y_impl_Row)) (t1.getD t5.toNat (dflt Y_impl_Row))).bind fun r4 =>
          bif (!r4.1.1) then
            some (.inr (.inr (false, ())))
          else
            some (.inl (t0, t1, (IntKind.wrap .i64 (t5 + 1)), ()))
      else
        none
    else
      none
  else
    some (.inr (.inl ()))
noncomputable def w_L_eqRowS_4 : PV S_impl_Row × PV S_impl_Row × PV (.int .i64) × Unit → Option ((Unit) ⊕ (PV .bool × Unit)) := fix fun d => b_L_eqRowS_4 d.1 d.2.1 d.2.2.1
noncomputable def lp_L_eqRowS_4 : Lp := ⟨⟨[], [0, 1, 5]⟩, sh_L_eqRowS_4, o_L_eqRowS_4, fun d => b_L_eqRowS_4 d.1 d.2.1 d.2.2.1⟩
noncomputable def pl_L_eqRowS : Plan := ⟨[], [(4, lp_L_eqRowS_4)], 0, 0⟩
noncomputable def f_L_eqRowS (t0 : PV S_impl_Row) (t1 : PV S_impl_Row) : Option (PVs [.bool] × PVs []) :=
  bif (!((t0.length : Int) == (t1.length : Int))) then
    some ((false, ()), ())
  else
    (w_L_eqRowS_4 (t0, t1, 0, ())).bind fun x9 =>
      match x9 with
      | .inl l7 =>
        some ((true, ()), ())
      | .inr l8 =>
        some ((l8.1, ()), ())
noncomputable def ct_L_eqRowS : Ct := ⟨[(.bor, S_impl_Row), (.bor, S_impl_Row)], [(.bool, false)], fun x => f_L_eqRowS x.1 x.2.1⟩
noncomputable def cx_L_eqRowS : Cx := ⟨tab, arrs, [(199, ct_L_eqRow)], []⟩
theorem eb_L_eqRowS_4 (t0 : PV S_impl_Row) (t1 : PV S_impl_Row) (t5 : PV (.int .i64)) : denK cx_L_eqRowS (rcN cx_L_eqRowS 0) pl_L_eqRowS 0 ((loopsOf (bodyOf Try.f155)).getD 0 .skip) (fillS sh_L_eqRowS_4 (t0, t1, t5, ())) (roundK 0 lp_L_eqRowS_4) = b_L_eqRowS_4 t0 t1 t5 := by kernel_rfl
theorem ef_L_eqRowS (t0 : PV S_impl_Row) (t1 : PV S_impl_Row) : denF cx_L_eqRowS 0 pl_L_eqRowS Try.f155.ntmps (bodyOf Try.f155) Try.f155.results.toList [(.bor, S_impl_Row), (.bor, S_impl_Row)] [(.bool, false)] (t0, t1, ()) = f_L_eqRowS t0 t1 := by kernel_rfl
theorem ok_L_eqRowS : FnOk Try.prog 155 ct_L_eqRowS :=
  fnOk (cx := cx_L_eqRowS) (pl := pl_L_eqRowS) (dp := 0) (ok0_of tabOk (by unfold ArrOk; kernel_rfl) mix ⟨ok_L_eqRow, trivial⟩ trivial) Try.func155 (by kernel_rfl) (by kernel_rfl) (by kernel_rfl)
    (by rw [show loopsOf (bodyOf Try.f155) = [((loopsOf (bodyOf Try.f155)).getD 0 .skip)] from by kernel_rfl]; exact ⟨(by rw [show lookup pl_L_eqRowS.loops (firstId ((loopsOf (bodyOf Try.f155)).getD 0 .skip)) = some lp_L_eqRowS_4 from by kernel_rfl]; exact fun d z h => (eb_L_eqRowS_4 d.1 d.2.1 d.2.2.1).trans h), trivial⟩) (fun x => ef_L_eqRowS x.1 x.2.1)
noncomputable def pl_L_eqGroup : Plan := ⟨[], [], 0, 0⟩
noncomputable def f_L_eqGroup (t0 : PV Y_impl_Group) (t1 : PV Y_impl_Group) : Option (PVs [.bool] × PVs []) :=
  bif (!(t0.1 == t1.1)) then
    some ((false, ()), ())
  else
    bif (!(t0.2.1 == t1.2.1)) then
      some ((false, ()), ())
    else
      (f_L_eqRowS t0.2.2.1 t1.2.2.1).bind fun r4 =>
        bif (!r4.1.1) then
          some ((false, ()), ())
        else
          some ((true, ()), ())
noncomputable def ct_L_eqGroup : Ct := ⟨[(.bor, Y_impl_Group), (.bor, Y_impl_Group)], [(.bool, false)], fun x => f_L_eqGroup x.1 x.2.1⟩
noncomputable def cx_L_eqGroup : Cx := ⟨tab, arrs, [(155, ct_L_eqRowS)], []⟩
theorem ef_L_eqGroup (t0 : PV Y_impl_Group) (t1 : PV Y_impl_Group) : denF cx_L_eqGroup 0 pl_L_eqGroup Try.f76.ntmps (bodyOf Try.f76) Try.f76.results.toList [(.bor, Y_impl_Group), (.bor, Y_impl_Group)] [(.bool, false)] (t0, t1, ()) = f_L_eqGroup t0 t1 := by kernel_rfl
theorem ok_L_eqGroup : FnOk Try.prog 76 ct_L_eqGroup :=
  fnOk (cx := cx_L_eqGroup) (pl := pl_L_eqGroup) (dp := 0) (ok0_of tabOk (by unfold ArrOk; kernel_rfl) mix ⟨ok_L_eqRowS, trivial⟩ trivial) Try.func76 (by kernel_rfl) (by kernel_rfl) (by kernel_rfl)
    (by rw [show loopsOf (bodyOf Try.f76) = [] from by kernel_rfl]; exact trivial) (fun x => ef_L_eqGroup x.1 x.2.1)
noncomputable def sh_L_eqGroupS_4 : List Sh := mkSh 27 [(0, .val S_impl_Group .b), (1, .val S_impl_Group .b), (5, .val (.int .i64) .b)]
noncomputable def o_L_eqGroupS_4 : List Out := [⟨.exit 0, ⟨[], []⟩, mkSh 27 []⟩, ⟨.ret, ⟨[], [4]⟩, mkSh 27 [(4, .val .bool .b)]⟩]
noncomputable def b_L_eqGroupS_4 (t0 : PV S_impl_Group) (t1 : PV S_impl_Group) (t5 : PV (.int .i64)) : Option ((PV S_impl_Group × PV S_impl_Group × PV (.int .i64) × Unit) ⊕ ((Unit) ⊕ (PV .bool × Unit))) :=
  bif (decide (t5 < (t0.length : Int))) then
    bif inB t5 t0.length then
      bif inB t5 t1.length then
        (f_L_eqGroup (t0.getD t5.toNat (dflt Y_impl_Group)) (t1.getD t5.toNat (dflt Y_impl_Group))).bind fun r4 =>
          bif (!r4.1.1) then
            some (.inr (.inr (false, ())))
          else
            some (.inl (t0, t1, (IntKind.wrap .i64 (t5 + 1)), ()))
      else
        none
    else
      none
  else
    some (.inr (.inl ()))
noncomputable def w_L_eqGroupS_4 : PV S_impl_Group × PV S_impl_Group × PV (.int .i64) × Unit → Option ((Unit) ⊕ (PV .bool × Unit)) := fix fun d => b_L_eqGroupS_4 d.1 d.2.1 d.2.2.1
noncomputable def lp_L_eqGroupS_4 : Lp := ⟨⟨[], [0, 1, 5]⟩, sh_L_eqGroupS_4, o_L_eqGroupS_4, fun d => b_L_eqGroupS_4 d.1 d.2.1 d.2.2.1⟩
noncomputable def pl_L_eqGroupS : Plan := ⟨[], [(4, lp_L_eqGroupS_4)], 0, 0⟩
noncomputable def f_L_eqGroupS (t0 : PV S_impl_Group) (t1 : PV S_impl_Group) : Option (PVs [.bool] × PVs []) :=
  bif (!((t0.length : Int) == (t1.length : Int))) then
    some ((false, ()), ())
  else
    (w_L_eqGroupS_4 (t0, t1, 0, ())).bind fun x9 =>
      match x9 with
      | .inl l7 =>
        some ((true, ()), ())
      | .inr l8 =>
        some ((l8.1, ()), ())
noncomputable def ct_L_eqGroupS : Ct := ⟨[(.bor, S_impl_Group), (.bor, S_impl_Group)], [(.bool, false)], fun x => f_L_eqGroupS x.1 x.2.1⟩
noncomputable def cx_L_eqGroupS : Cx := ⟨tab, arrs, [(76, ct_L_eqGroup)], []⟩
theorem eb_L_eqGroupS_4 (t0 : PV S_impl_Group) (t1 : PV S_impl_Group) (t5 : PV (.int .i64)) : denK cx_L_eqGroupS (rcN cx_L_eqGroupS 0) pl_L_eqGroupS 0 ((loopsOf (bodyOf Try.f18)).getD 0 .skip) (fillS sh_L_eqGroupS_4 (t0, t1, t5, ())) (roundK 0 lp_L_eqGroupS_4) = b_L_eqGroupS_4 t0 t1 t5 := by kernel_rfl
theorem ef_L_eqGroupS (t0 : PV S_impl_Group) (t1 : PV S_impl_Group) : denF cx_L_eqGroupS 0 pl_L_eqGroupS Try.f18.ntmps (bodyOf Try.f18) Try.f18.results.toList [(.bor, S_impl_Group), (.bor, S_impl_Group)] [(.bool, false)] (t0, t1, ()) = f_L_eqGroupS t0 t1 := by kernel_rfl
theorem ok_L_eqGroupS : FnOk Try.prog 18 ct_L_eqGroupS :=
  fnOk (cx := cx_L_eqGroupS) (pl := pl_L_eqGroupS) (dp := 0) (ok0_of tabOk (by unfold ArrOk; kernel_rfl) mix ⟨ok_L_eqGroup, trivial⟩ trivial) Try.func18 (by kernel_rfl) (by kernel_rfl) (by kernel_rfl)
    (by rw [show loopsOf (bodyOf Try.f18) = [((loopsOf (bodyOf Try.f18)).getD 0 .skip)] from by kernel_rfl]; exact ⟨(by rw [show lookup pl_L_eqGroupS.loops (firstId ((loopsOf (bodyOf Try.f18)).getD 0 .skip)) = some lp_L_eqGroupS_4 from by kernel_rfl]; exact fun d z h => (eb_L_eqGroupS_4 d.1 d.2.1 d.2.2.1).trans h), trivial⟩) (fun x => ef_L_eqGroupS x.1 x.2.1)
noncomputable def sh_L_markText_4 : List Sh := mkSh 20 [(0, .val (.int .i64) .b), (3, .val .str .b)]
noncomputable def o_L_markText_4 : List Out := [⟨.exit 0, ⟨[], [3]⟩, mkSh 20 [(3, .val .str .b)]⟩]
noncomputable def b_L_markText_4 (t0 : PV (.int .i64)) (t3 : PV .str) : Option ((PV (.int .i64) × PV .str × Unit) ⊕ ((PV .str × Unit))) :=
  bif (decide (t0 > 0)) then
    bif 10 == 0 then
      none
    else
      bif decide ((bytesOfInts [(IntKind.wrap .u8 (IntKind.wrap .i64 (48 + (t0.tmod 10))))]).length + t3.length ≤ 1099511627776) then
        bif 10 == 0 then
          none
        else
          some (.inl ((IntKind.wrap .i64 (t0.tdiv 10)), ((bytesOfInts [(IntKind.wrap .u8 (IntKind.wrap .i64 (48 + (t0.tmod 10))))]) ++ t3), ()))
      else
        none
  else
    some (.inr (t3, ()))
noncomputable def w_L_markText_4 : PV (.int .i64) × PV .str × Unit → Option ((PV .str × Unit)) := fix fun d => b_L_markText_4 d.1 d.2.1
noncomputable def lp_L_markText_4 : Lp := ⟨⟨[], [0, 3]⟩, sh_L_markText_4, o_L_markText_4, fun d => b_L_markText_4 d.1 d.2.1⟩
noncomputable def pl_L_markText : Plan := ⟨[], [(4, lp_L_markText_4)], 0, 0⟩
noncomputable def f_L_markText (t0 : PV (.int .i64)) : Option (PVs [.str] × PVs []) :=
  bif (decide (t0 ≤ 0)) then
    some (([109, 48], ()), ())
  else
    (w_L_markText_4 (t0, [], ())).bind fun l2 =>
      bif decide ([109].length + l2.1.length ≤ 1099511627776) then
        some ((([109] ++ l2.1), ()), ())
      else
        none
noncomputable def ct_L_markText : Ct := ⟨[(.bor, (.int .i64))], [(.str, false)], fun x => f_L_markText x.1⟩
noncomputable def cx_L_markText : Cx := ⟨tab, arrs, [], []⟩
theorem eb_L_markText_4 (t0 : PV (.int .i64)) (t3 : PV .str) : denK cx_L_markText (rcN cx_L_markText 0) pl_L_markText 0 ((loopsOf (bodyOf Try.f98)).getD 0 .skip) (fillS sh_L_markText_4 (t0, t3, ())) (roundK 0 lp_L_markText_4) = b_L_markText_4 t0 t3 := by kernel_rfl
theorem ef_L_markText (t0 : PV (.int .i64)) : denF cx_L_markText 0 pl_L_markText Try.f98.ntmps (bodyOf Try.f98) Try.f98.results.toList [(.bor, (.int .i64))] [(.str, false)] (t0, ()) = f_L_markText t0 := by kernel_rfl
theorem ok_L_markText : FnOk Try.prog 98 ct_L_markText :=
  fnOk (cx := cx_L_markText) (pl := pl_L_markText) (dp := 0) (ok0_of tabOk (by unfold ArrOk; kernel_rfl) mix trivial trivial) Try.func98 (by kernel_rfl) (by kernel_rfl) (by kernel_rfl)
    (by rw [show loopsOf (bodyOf Try.f98) = [((loopsOf (bodyOf Try.f98)).getD 0 .skip)] from by kernel_rfl]; exact ⟨(by rw [show lookup pl_L_markText.loops (firstId ((loopsOf (bodyOf Try.f98)).getD 0 .skip)) = some lp_L_markText_4 from by kernel_rfl]; exact fun d z h => (eb_L_markText_4 d.1 d.2.1).trans h), trivial⟩) (fun x => ef_L_markText x.1)
noncomputable def sh_L_markRowS_2 : List Sh := mkSh 29 [(0, .val S_impl_Row (.row (.pr .b (.pr .b .b)))), (1, .sub ⟨0, [], 0, 0⟩), (2, .val (.int .i64) .b), (6, .val (.int .i64) .b)]
noncomputable def o_L_markRowS_2 : List Out := [⟨.exit 0, ⟨[], [1]⟩, mkSh 29 [(0, .val S_impl_Row (.row (.pr .b (.pr .b .b)))), (2, .val (.int .i64) .b)]⟩]
noncomputable def b_L_markRowS_2 (t0 : PV S_impl_Row) (t2 : PV (.int .i64)) (t6 : PV (.int .i64)) : Option ((PV S_impl_Row × PV (.int .i64) × PV (.int .i64) × Unit) ⊕ ((PV S_impl_Row × PV (.int .i64) × Unit))) :=
  bif (decide (t6 < (t0.length : Int))) then
    bif inB t6 t0.length then
      (f_L_markText (IntKind.wrap .i64 (t2 + 1))).bind fun r4 =>
        bif inB t6 (t0.set t6.toNat (t2, (t0.getD t6.toNat (dflt Y_impl_Row)).2)).length then
          some (.inl (((t0.set t6.toNat (t2, (t0.getD t6.toNat (dflt Y_impl_Row)).2)).set t6.toNat (((t0.set t6.toNat (t2, (t0.getD t6.toNat (dflt Y_impl_Row)).2)).getD t6.toNat (dflt Y_impl_Row)).1, (r4.1.1, (((t0.set t6.toNat (t2, (t0.getD t6.toNat (dflt Y_impl_Row)).2)).getD t6.toNat (dflt Y_impl_Row)).2).2))), (IntKind.wrap .i64 ((IntKind.wrap .i64 (t2 + 1)) + 1)), (IntKind.wrap .i64 (t6 + 1)), ()))
        else
          none
    else
      none
  else
    some (.inr (t0, t2, ()))
noncomputable def w_L_markRowS_2 : PV S_impl_Row × PV (.int .i64) × PV (.int .i64) × Unit → Option ((PV S_impl_Row × PV (.int .i64) × Unit)) := fix fun d => b_L_markRowS_2 d.1 d.2.1 d.2.2.1
noncomputable def lp_L_markRowS_2 : Lp := ⟨⟨[], [0, 1, 5]⟩, sh_L_markRowS_2, o_L_markRowS_2, fun d => b_L_markRowS_2 d.1 d.2.1 d.2.2.1⟩
noncomputable def pl_L_markRowS : Plan := ⟨[], [(2, lp_L_markRowS_2)], 0, 1⟩
noncomputable def f_L_markRowS (t0 : PV S_impl_Row) (t1 : PV (.int .i64)) : Option (PVs [(.int .i64)] × PVs [S_impl_Row]) :=
  (w_L_markRowS_2 (t0, t1, 0, ())).bind fun l6 =>
    some ((l6.2.1, ()), (l6.1, ()))
noncomputable def ct_L_markRowS : Ct := ⟨[(.mut, S_impl_Row), (.bor, (.int .i64))], [((.int .i64), false)], fun x => f_L_markRowS x.1 x.2.1⟩
noncomputable def cx_L_markRowS : Cx := ⟨tab, arrs, [(98, ct_L_markText)], []⟩
theorem eb_L_markRowS_2 (t0 : PV S_impl_Row) (t2 : PV (.int .i64)) (t6 : PV (.int .i64)) : denK cx_L_markRowS (rcN cx_L_markRowS 0) pl_L_markRowS 1 ((loopsOf (bodyOf Try.f77)).getD 0 .skip) (fillS sh_L_markRowS_2 (t0, t2, t6, ())) (roundK 1 lp_L_markRowS_2) = b_L_markRowS_2 t0 t2 t6 := by kernel_rfl
theorem ef_L_markRowS (t0 : PV S_impl_Row) (t1 : PV (.int .i64)) : denF cx_L_markRowS 0 pl_L_markRowS Try.f77.ntmps (bodyOf Try.f77) Try.f77.results.toList [(.mut, S_impl_Row), (.bor, (.int .i64))] [((.int .i64), false)] (t0, t1, ()) = f_L_markRowS t0 t1 := by kernel_rfl
theorem ok_L_markRowS : FnOk Try.prog 77 ct_L_markRowS :=
  fnOk (cx := cx_L_markRowS) (pl := pl_L_markRowS) (dp := 0) (ok0_of tabOk (by unfold ArrOk; kernel_rfl) mix ⟨ok_L_markText, trivial⟩ trivial) Try.func77 (by kernel_rfl) (by kernel_rfl) (by kernel_rfl)
    (by rw [show loopsOf (bodyOf Try.f77) = [((loopsOf (bodyOf Try.f77)).getD 0 .skip)] from by kernel_rfl]; exact ⟨(by rw [show lookup pl_L_markRowS.loops (firstId ((loopsOf (bodyOf Try.f77)).getD 0 .skip)) = some lp_L_markRowS_2 from by kernel_rfl]; exact fun d z h => (eb_L_markRowS_2 d.1 d.2.1 d.2.2.1).trans h), trivial⟩) (fun x => ef_L_markRowS x.1 x.2.1)
noncomputable def sh_L_markGroupS_2 : List Sh := mkSh 35 [(0, .val S_impl_Group (.row (.pr .b (.pr .b (.pr (.row (.pr .b (.pr .b .b))) .b))))), (1, .sub ⟨0, [], 0, 0⟩), (2, .val (.int .i64) .b), (6, .val (.int .i64) .b)]
noncomputable def o_L_markGroupS_2 : List Out := [⟨.exit 0, ⟨[], [1]⟩, mkSh 35 [(0, .val S_impl_Group (.row (.pr .b (.pr .b (.pr (.row (.pr .b (.pr .b .b))) .b))))), (2, .val (.int .i64) .b)]⟩]
noncomputable def b_L_markGroupS_2 (t0 : PV S_impl_Group) (t2 : PV (.int .i64)) (t6 : PV (.int .i64)) : Option ((PV S_impl_Group × PV (.int .i64) × PV (.int .i64) × Unit) ⊕ ((PV S_impl_Group × PV (.int .i64) × Unit))) :=
  bif (decide (t6 < (t0.length : Int))) then
    bif inB t6 t0.length then
      bif inB t6 (t0.set t6.toNat (t2, (t0.getD t6.toNat (dflt Y_impl_Group)).2)).length then
        bif inB t6 ((t0.set t6.toNat (t2, (t0.getD t6.toNat (dflt Y_impl_Group)).2)).set t6.toNat (((t0.set t6.toNat (t2, (t0.getD t6.toNat (dflt Y_impl_Group)).2)).getD t6.toNat (dflt Y_impl_Group)).1, ((IntKind.wrap .i64 (t2 + 1)), (((t0.set t6.toNat (t2, (t0.getD t6.toNat (dflt Y_impl_Group)).2)).getD t6.toNat (dflt Y_impl_Group)).2).2))).length then
          (f_L_markRowS ((((((t0.set t6.toNat (t2, (t0.getD t6.toNat (dflt Y_impl_Group)).2)).set t6.toNat (((t0.set t6.toNat (t2, (t0.getD t6.toNat (dflt Y_impl_Group)).2)).getD t6.toNat (dflt Y_impl_Group)).1, ((IntKind.wrap .i64 (t2 + 1)), (((t0.set t6.toNat (t2, (t0.getD t6.toNat (dflt Y_impl_Group)).2)).getD t6.toNat (dflt Y_impl_Group)).2).2))).getD t6.toNat (dflt Y_impl_Group)).2).2).1) (IntKind.wrap .i64 ((IntKind.wrap .i64 (t2 + 1)) + 1))).bind fun r2 =>
            some (.inl ((((t0.set t6.toNat (t2, (t0.getD t6.toNat (dflt Y_impl_Group)).2)).set t6.toNat (((t0.set t6.toNat (t2, (t0.getD t6.toNat (dflt Y_impl_Group)).2)).getD t6.toNat (dflt Y_impl_Group)).1, ((IntKind.wrap .i64 (t2 + 1)), (((t0.set t6.toNat (t2, (t0.getD t6.toNat (dflt Y_impl_Group)).2)).getD t6.toNat (dflt Y_impl_Group)).2).2))).set t6.toNat ((((t0.set t6.toNat (t2, (t0.getD t6.toNat (dflt Y_impl_Group)).2)).set t6.toNat (((t0.set t6.toNat (t2, (t0.getD t6.toNat (dflt Y_impl_Group)).2)).getD t6.toNat (dflt Y_impl_Group)).1, ((IntKind.wrap .i64 (t2 + 1)), (((t0.set t6.toNat (t2, (t0.getD t6.toNat (dflt Y_impl_Group)).2)).getD t6.toNat (dflt Y_impl_Group)).2).2))).getD t6.toNat (dflt Y_impl_Group)).1, (((((t0.set t6.toNat (t2, (t0.getD t6.toNat (dflt Y_impl_Group)).2)).set t6.toNat (((t0.set t6.toNat (t2, (t0.getD t6.toNat (dflt Y_impl_Group)).2)).getD t6.toNat (dflt Y_impl_Group)).1, ((IntKind.wrap .i64 (t2 + 1)), (((t0.set t6.toNat (t2, (t0.getD t6.toNat (dflt Y_impl_Group)).2)).getD t6.toNat (dflt Y_impl_Group)).2).2))).getD t6.toNat (dflt Y_impl_Group)).2).1, (r2.2.1, (((((t0.set t6.toNat (t2, (t0.getD t6.toNat (dflt Y_impl_Group)).2)).set t6.toNat (((t0.set t6.toNat (t2, (t0.getD t6.toNat (dflt Y_impl_Group)).2)).getD t6.toNat (dflt Y_impl_Group)).1, ((IntKind.wrap .i64 (t2 + 1)), (((t0.set t6.toNat (t2, (t0.getD t6.toNat (dflt Y_impl_Group)).2)).getD t6.toNat (dflt Y_impl_Group)).2).2))).getD t6.toNat (dflt Y_impl_Group)).2).2).2)))), r2.1.1, (IntKind.wrap .i64 (t6 + 1)), ()))
        else
          none
      else
        none
    else
      none
  else
    some (.inr (t0, t2, ()))
noncomputable def w_L_markGroupS_2 : PV S_impl_Group × PV (.int .i64) × PV (.int .i64) × Unit → Option ((PV S_impl_Group × PV (.int .i64) × Unit)) := fix fun d => b_L_markGroupS_2 d.1 d.2.1 d.2.2.1
noncomputable def lp_L_markGroupS_2 : Lp := ⟨⟨[], [0, 1, 5]⟩, sh_L_markGroupS_2, o_L_markGroupS_2, fun d => b_L_markGroupS_2 d.1 d.2.1 d.2.2.1⟩
noncomputable def pl_L_markGroupS : Plan := ⟨[], [(2, lp_L_markGroupS_2)], 0, 1⟩
noncomputable def f_L_markGroupS (t0 : PV S_impl_Group) (t1 : PV (.int .i64)) : Option (PVs [(.int .i64)] × PVs [S_impl_Group]) :=
  (w_L_markGroupS_2 (t0, t1, 0, ())).bind fun l4 =>
    some ((l4.2.1, ()), (l4.1, ()))
noncomputable def ct_L_markGroupS : Ct := ⟨[(.mut, S_impl_Group), (.bor, (.int .i64))], [((.int .i64), false)], fun x => f_L_markGroupS x.1 x.2.1⟩
noncomputable def cx_L_markGroupS : Cx := ⟨tab, arrs, [(77, ct_L_markRowS)], []⟩
theorem eb_L_markGroupS_2 (t0 : PV S_impl_Group) (t2 : PV (.int .i64)) (t6 : PV (.int .i64)) : denK cx_L_markGroupS (rcN cx_L_markGroupS 0) pl_L_markGroupS 1 ((loopsOf (bodyOf Try.f19)).getD 0 .skip) (fillS sh_L_markGroupS_2 (t0, t2, t6, ())) (roundK 1 lp_L_markGroupS_2) = b_L_markGroupS_2 t0 t2 t6 := by kernel_rfl
theorem ef_L_markGroupS (t0 : PV S_impl_Group) (t1 : PV (.int .i64)) : denF cx_L_markGroupS 0 pl_L_markGroupS Try.f19.ntmps (bodyOf Try.f19) Try.f19.results.toList [(.mut, S_impl_Group), (.bor, (.int .i64))] [((.int .i64), false)] (t0, t1, ()) = f_L_markGroupS t0 t1 := by kernel_rfl
theorem ok_L_markGroupS : FnOk Try.prog 19 ct_L_markGroupS :=
  fnOk (cx := cx_L_markGroupS) (pl := pl_L_markGroupS) (dp := 0) (ok0_of tabOk (by unfold ArrOk; kernel_rfl) mix ⟨ok_L_markRowS, trivial⟩ trivial) Try.func19 (by kernel_rfl) (by kernel_rfl) (by kernel_rfl)
    (by rw [show loopsOf (bodyOf Try.f19) = [((loopsOf (bodyOf Try.f19)).getD 0 .skip)] from by kernel_rfl]; exact ⟨(by rw [show lookup pl_L_markGroupS.loops (firstId ((loopsOf (bodyOf Try.f19)).getD 0 .skip)) = some lp_L_markGroupS_2 from by kernel_rfl]; exact fun d z h => (eb_L_markGroupS_2 d.1 d.2.1 d.2.2.1).trans h), trivial⟩) (fun x => ef_L_markGroupS x.1 x.2.1)
noncomputable def sh_L_heldRowS_2 : List Sh := mkSh 32 [(0, .val S_impl_Row .b), (1, .val (.int .i64) .b), (5, .val (.int .i64) .b)]
noncomputable def o_L_heldRowS_2 : List Out := [⟨.exit 0, ⟨[], [1]⟩, mkSh 32 [(1, .val (.int .i64) .b)]⟩, ⟨.ret, ⟨[], [4]⟩, mkSh 32 [(4, .val (.int .i64) .b)]⟩]
noncomputable def b_L_heldRowS_2 (t0 : PV S_impl_Row) (t1 : PV (.int .i64)) (t5 : PV (.int .i64)) : Option ((PV S_impl_Row × PV (.int .i64) × PV (.int .i64) × Unit) ⊕ ((PV (.int .i64) × Unit) ⊕ (PV (.int .i64) × Unit))) :=
  bif (decide (t5 < (t0.length : Int))) then
    bif inB t5 t0.length then
      bif (!(((t0.getD t5.toNat (dflt Y_impl_Row)).1) == t1)) then
        some (.inr (.inr ((-1), ())))
      else
        bif inB t5 t0.length then
          (f_L_markText (IntKind.wrap .i64 (t1 + 1))).bind fun r8 =>
            bif (!((((t0.getD t5.toNat (dflt Y_impl_Row)).2).1) == r8.1.1)) then
              some (.inr (.inr ((-1), ())))
            else
              some (.inl (t0, (IntKind.wrap .i64 ((IntKind.wrap .i64 (t1 + 1)) + 1)), (IntKind.wrap .i64 (t5 + 1)), ()))
        else
          none
    else
      none
  else
    some (.inr (.inl (t1, ())))
noncomputable def w_L_heldRowS_2 : PV S_impl_Row × PV (.int .i64) × PV (.int .i64) × Unit → Option ((PV (.int .i64) × Unit) ⊕ (PV (.int .i64) × Unit)) := fix fun d => b_L_heldRowS_2 d.1 d.2.1 d.2.2.1
noncomputable def lp_L_heldRowS_2 : Lp := ⟨⟨[], [0, 1, 5]⟩, sh_L_heldRowS_2, o_L_heldRowS_2, fun d => b_L_heldRowS_2 d.1 d.2.1 d.2.2.1⟩
noncomputable def pl_L_heldRowS : Plan := ⟨[], [(2, lp_L_heldRowS_2)], 0, 0⟩
noncomputable def f_L_heldRowS (t0 : PV S_impl_Row) (t1 : PV (.int .i64)) : Option (PVs [(.int .i64)] × PVs []) :=
  (w_L_heldRowS_2 (t0, t1, 0, ())).bind fun x13 =>
    match x13 with
    | .inl l11 =>
      some ((l11.1, ()), ())
    | .inr l12 =>
      some ((l12.1, ()), ())
noncomputable def ct_L_heldRowS : Ct := ⟨[(.bor, S_impl_Row), (.bor, (.int .i64))], [((.int .i64), false)], fun x => f_L_heldRowS x.1 x.2.1⟩
noncomputable def cx_L_heldRowS : Cx := ⟨tab, arrs, [(98, ct_L_markText)], []⟩
theorem eb_L_heldRowS_2 (t0 : PV S_impl_Row) (t1 : PV (.int .i64)) (t5 : PV (.int .i64)) : denK cx_L_heldRowS (rcN cx_L_heldRowS 0) pl_L_heldRowS 0 ((loopsOf (bodyOf Try.f78)).getD 0 .skip) (fillS sh_L_heldRowS_2 (t0, t1, t5, ())) (roundK 0 lp_L_heldRowS_2) = b_L_heldRowS_2 t0 t1 t5 := by kernel_rfl
theorem ef_L_heldRowS (t0 : PV S_impl_Row) (t1 : PV (.int .i64)) : denF cx_L_heldRowS 0 pl_L_heldRowS Try.f78.ntmps (bodyOf Try.f78) Try.f78.results.toList [(.bor, S_impl_Row), (.bor, (.int .i64))] [((.int .i64), false)] (t0, t1, ()) = f_L_heldRowS t0 t1 := by kernel_rfl
theorem ok_L_heldRowS : FnOk Try.prog 78 ct_L_heldRowS :=
  fnOk (cx := cx_L_heldRowS) (pl := pl_L_heldRowS) (dp := 0) (ok0_of tabOk (by unfold ArrOk; kernel_rfl) mix ⟨ok_L_markText, trivial⟩ trivial) Try.func78 (by kernel_rfl) (by kernel_rfl) (by kernel_rfl)
    (by rw [show loopsOf (bodyOf Try.f78) = [((loopsOf (bodyOf Try.f78)).getD 0 .skip)] from by kernel_rfl]; exact ⟨(by rw [show lookup pl_L_heldRowS.loops (firstId ((loopsOf (bodyOf Try.f78)).getD 0 .skip)) = some lp_L_heldRowS_2 from by kernel_rfl]; exact fun d z h => (eb_L_heldRowS_2 d.1 d.2.1 d.2.2.1).trans h), trivial⟩) (fun x => ef_L_heldRowS x.1 x.2.1)
noncomputable def sh_L_heldGroupS_2 : List Sh := mkSh 40 [(0, .val S_impl_Group .b), (1, .val (.int .i64) .b), (5, .val (.int .i64) .b)]
noncomputable def o_L_heldGroupS_2 : List Out := [⟨.exit 0, ⟨[], [1]⟩, mkSh 40 [(1, .val (.int .i64) .b)]⟩, ⟨.ret, ⟨[], [4]⟩, mkSh 40 [(4, .val (.int .i64) .b)]⟩]
noncomputable def b_L_heldGroupS_2 (t0 : PV S_impl_Group) (t1 : PV (.int .i64)) (t5 : PV (.int .i64)) : Option ((PV S_impl_Group × PV (.int .i64) × PV (.int .i64) × Unit) ⊕ ((PV (.int .i64) × Unit) ⊕ (PV (.int .i64) × Unit))) :=
  bif (decide (t5 < (t0.length : Int))) then
    bif inB t5 t0.length then
      bif (!(((t0.getD t5.toNat (dflt Y_impl_Group)).1) == t1)) then
        some (.inr (.inr ((-1), ())))
      else
        bif inB t5 t0.length then
          bif (!((((t0.getD t5.toNat (dflt Y_impl_Group)).2).1) == (IntKind.wrap .i64 (t1 + 1)))) then
            some (.inr (.inr ((-1), ())))
          else
            bif inB t5 t0.length then
              (f_L_heldRowS ((((t0.getD t5.toNat (dflt Y_impl_Group)).2).2).1) (IntKind.wrap .i64 ((IntKind.wrap .i64 (t1 + 1)) + 1))).bind fun r4 =>
                bif (decide (r4.1.1 < 0)) then
                  some (.inr (.inr ((-1), ())))
                else
                  some (.inl (t0, r4.1.1, (IntKind.wrap .i64 (t5 + 1)), ()))
            else
              none
        else
          none
    else
      none
  else
    some (.inr (.inl (t1, ())))
noncomputable def w_L_heldGroupS_2 : PV S_impl_Group × PV (.int .i64) × PV (.int .i64) × Unit → Option ((PV (.int .i64) × Unit) ⊕ (PV (.int .i64) × Unit)) := fix fun d => b_L_heldGroupS_2 d.1 d.2.1 d.2.2.1
noncomputable def lp_L_heldGroupS_2 : Lp := ⟨⟨[], [0, 1, 5]⟩, sh_L_heldGroupS_2, o_L_heldGroupS_2, fun d => b_L_heldGroupS_2 d.1 d.2.1 d.2.2.1⟩
noncomputable def pl_L_heldGroupS : Plan := ⟨[], [(2, lp_L_heldGroupS_2)], 0, 0⟩
noncomputable def f_L_heldGroupS (t0 : PV S_impl_Group) (t1 : PV (.int .i64)) : Option (PVs [(.int .i64)] × PVs []) :=
  (w_L_heldGroupS_2 (t0, t1, 0, ())).bind fun x9 =>
    match x9 with
    | .inl l7 =>
      some ((l7.1, ()), ())
    | .inr l8 =>
      some ((l8.1, ()), ())
noncomputable def ct_L_heldGroupS : Ct := ⟨[(.bor, S_impl_Group), (.bor, (.int .i64))], [((.int .i64), false)], fun x => f_L_heldGroupS x.1 x.2.1⟩
noncomputable def cx_L_heldGroupS : Cx := ⟨tab, arrs, [(78, ct_L_heldRowS)], []⟩
theorem eb_L_heldGroupS_2 (t0 : PV S_impl_Group) (t1 : PV (.int .i64)) (t5 : PV (.int .i64)) : denK cx_L_heldGroupS (rcN cx_L_heldGroupS 0) pl_L_heldGroupS 0 ((loopsOf (bodyOf Try.f20)).getD 0 .skip) (fillS sh_L_heldGroupS_2 (t0, t1, t5, ())) (roundK 0 lp_L_heldGroupS_2) = b_L_heldGroupS_2 t0 t1 t5 := by kernel_rfl
theorem ef_L_heldGroupS (t0 : PV S_impl_Group) (t1 : PV (.int .i64)) : denF cx_L_heldGroupS 0 pl_L_heldGroupS Try.f20.ntmps (bodyOf Try.f20) Try.f20.results.toList [(.bor, S_impl_Group), (.bor, (.int .i64))] [((.int .i64), false)] (t0, t1, ()) = f_L_heldGroupS t0 t1 := by kernel_rfl
theorem ok_L_heldGroupS : FnOk Try.prog 20 ct_L_heldGroupS :=
  fnOk (cx := cx_L_heldGroupS) (pl := pl_L_heldGroupS) (dp := 0) (ok0_of tabOk (by unfold ArrOk; kernel_rfl) mix ⟨ok_L_heldRowS, trivial⟩ trivial) Try.func20 (by kernel_rfl) (by kernel_rfl) (by kernel_rfl)
    (by rw [show loopsOf (bodyOf Try.f20) = [((loopsOf (bodyOf Try.f20)).getD 0 .skip)] from by kernel_rfl]; exact ⟨(by rw [show lookup pl_L_heldGroupS.loops (firstId ((loopsOf (bodyOf Try.f20)).getD 0 .skip)) = some lp_L_heldGroupS_2 from by kernel_rfl]; exact fun d z h => (eb_L_heldGroupS_2 d.1 d.2.1 d.2.2.1).trans h), trivial⟩) (fun x => ef_L_heldGroupS x.1 x.2.1)
noncomputable def o_L_FnExactBackGroups_9 : List Out := [⟨.normal, ⟨[], [0, 4, 5, 6, 7, 8, 40, 52, 53, 54, 55, 58, 59, 60, 84, 85, 86]⟩, mkSh 96 [(0, .val S_laws_Group .b), (4, .val S_impl_Group (.row (.pr .b (.pr .b (.pr (.row (.pr .b (.pr .b .b))) .b))))), (5, .val .bool .b), (6, .val S_impl_Group (.row (.pr .b (.pr .b (.pr (.row (.pr .b (.pr .b .b))) .b))))), (7, .val S_impl_Group (.row (.pr .b (.pr .b (.pr (.row (.pr .b (.pr .b .b))) .b))))), (8, .val .bool .b), (40, .val .bool .b)]⟩]
noncomputable def o_L_FnExactBackGroups_15 : List Out := [⟨.normal, ⟨[], [0, 4, 5, 7, 61, 84, 85, 86]⟩, mkSh 96 [(0, .val S_laws_Group .b), (4, .val S_impl_Group (.row (.pr .b (.pr .b (.pr (.row (.pr .b (.pr .b .b))) .b))))), (5, .val .bool .b), (7, .val S_impl_Group (.row (.pr .b (.pr .b (.pr (.row (.pr .b (.pr .b .b))) .b))))), (61, .val .bool .b)]⟩]
noncomputable def o_L_FnExactBackGroups_26 : List Out := [⟨.normal, ⟨[], [7, 10, 87]⟩, mkSh 96 [(7, .val S_impl_Group (.row (.pr .b (.pr .b (.pr (.row (.pr .b (.pr .b .b))) .b))))), (10, .val (.int .i64) .b), (87, .val .bool .b)]⟩]
noncomputable def pl_L_FnExactBackGroups : Plan := ⟨[(9, o_L_FnExactBackGroups_9), (15, o_L_FnExactBackGroups_15), (26, o_L_FnExactBackGroups_26)], [], 0, 0⟩
noncomputable def f_L_FnExactBackGroups (t0 : PV S_laws_Group) : Option (PVs [.bool] × PVs []) :=
  (f_L_szGroupS t0 1048576).bind fun r2 =>
    bif (decide (r2.1.1 < 0)) then
      some ((true, ()), ())
    else
      (f_L_toGroupS t0).bind fun r5 =>
        (f_S_BackGroups r5.1.1).bind fun r6 =>
          (f_L_toGroupS t0).bind fun r8 =>
            (f_I_BackGroups r8.1.1).bind fun r10 =>
              ((
                  (f_L_eqGroupS r10.1.1 r6.1.1).bind fun r14 =>
                    bif (!r14.1.1) then
                      some (t0, r6.1.1, r6.1.2.1, r8.1.1, r10.1.1, r10.1.2.1, true, ())
                    else
                      some (t0, r6.1.1, r6.1.2.1, r8.1.1, r10.1.1, r10.1.2.1, (!(r10.1.2.1 == r6.1.2.1)), ()) : Option ((PV S_laws_Group × PV S_impl_Group × PV .bool × PV S_impl_Group × PV S_impl_Group × PV .bool × PV .bool × Unit)))).bind fun j15 =>
                bif j15.2.2.2.2.2.2.1 then
                  some ((false, ()), ())
                else
                  (f_L_toGroupS j15.1).bind fun r22 =>
                    (f_L_eqGroupS j15.2.2.2.1 r22.1.1).bind fun r23 =>
                      bif (!r23.1.1) then
                        some ((false, ()), ())
                      else
                        (f_L_markGroupS j15.2.2.2.1 1).bind fun r25 =>
                          ((
                              bif (decide (r25.1.1 < 0)) then
                                some (j15.1, j15.2.1, j15.2.2.1, j15.2.2.2.2.1, true, ())
                              else
                                (f_L_eqGroupS j15.2.2.2.2.1 j15.2.1).bind fun r29 =>
                                  bif (!r29.1.1) then
                                    some (j15.1, j15.2.1, j15.2.2.1, j15.2.2.2.2.1, true, ())
                                  else
                                    some (j15.1, j15.2.1, j15.2.2.1, j15.2.2.2.2.1, (!(j15.2.2.2.2.2.1 == j15.2.2.1)), ()) : Option ((PV S_laws_Group × PV S_impl_Group × PV .bool × PV S_impl_Group × PV .bool × Unit)))).bind fun j30 =>
                            bif j30.2.2.2.2.1 then
                              some ((false, ()), ())
                            else
                              (f_L_markGroupS j30.2.2.2.1 1).bind fun r32 =>
                                (f_L_heldGroupS r32.2.1 1).bind fun r34 =>
                                  bif (decide (r34.1.1 < 0)) then
                                    some ((false, ()), ())
                                  else
                                    bif (!(r34.1.1 == r32.1.1)) then
                                      some ((false, ()), ())
                                    else
                                      (f_L_toGroupS j30.1).bind fun r37 =>
                                        (f_I_BackGroups r37.1.1).bind fun r38 =>
                                          ((
                                              (f_L_eqGroupS r38.1.1 j30.2.1).bind fun r42 =>
                                                bif (!r42.1.1) then
                                                  some (r32.2.1, r32.1.1, true, ())
                                                else
                                                  some (r32.2.1, r32.1.1, (!(r38.1.2.1 == j30.2.2.1)), ()) : Option ((PV S_impl_Group × PV (.int .i64) × PV .bool × Unit)))).bind fun j43 =>
                                            bif j43.2.2.1 then
                                              some ((false, ()), ())
                                            else
                                              (f_L_heldGroupS j43.1 1).bind fun r45 =>
                                                bif (decide (r45.1.1 < 0)) then
                                                  some ((false, ()), ())
                                                else
                                                  bif (!(r45.1.1 == j43.2.1)) then
                                                    some ((false, ()), ())
                                                  else
                                                    some ((true, ()), ())
noncomputable def ct_L_FnExactBackGroups : Ct := ⟨[(.bor, S_laws_Group)], [(.bool, false)], fun x => f_L_FnExactBackGroups x.1⟩
noncomputable def cx_L_FnExactBackGroups : Cx := ⟨tab, arrs, [(14, ct_L_szGroupS), (15, ct_S_BackGroups), (16, ct_L_toGroupS), (17, ct_I_BackGroups), (18, ct_L_eqGroupS), (19, ct_L_markGroupS), (20, ct_L_heldGroupS)], []⟩
theorem ef_L_FnExactBackGroups (t0 : PV S_laws_Group) : denF cx_L_FnExactBackGroups 0 pl_L_FnExactBackGroups Try.f3.ntmps (bodyOf Try.f3) Try.f3.results.toList [(.bor, S_laws_Group)] [(.bool, false)] (t0, ()) = f_L_FnExactBackGroups t0 := by kernel_rfl
theorem ok_L_FnExactBackGroups : FnOk Try.prog 3 ct_L_FnExactBackGroups :=
  fnOk (cx := cx_L_FnExactBackGroups) (pl := pl_L_FnExactBackGroups) (dp := 0) (ok0_of tabOk (by unfold ArrOk; kernel_rfl) mix ⟨ok_L_szGroupS, ok_S_BackGroups, ok_L_toGroupS, ok_I_BackGroups, ok_L_eqGroupS, ok_L_markGroupS, ok_L_heldGroupS, trivial⟩ trivial) Try.func3 (by kernel_rfl) (by kernel_rfl) (by kernel_rfl)
    (by rw [show loopsOf (bodyOf Try.f3) = [] from by kernel_rfl]; exact trivial) (fun x => ef_L_FnExactBackGroups x.1)
noncomputable def sh_L_szStringS_5 : List Sh := mkSh 28 [(0, .val S_string .b), (1, .val (.int .i64) .b), (5, .val (.int .i64) .b)]
noncomputable def o_L_szStringS_5 : List Out := [⟨.exit 0, ⟨[], [1]⟩, mkSh 28 [(1, .val (.int .i64) .b)]⟩, ⟨.ret, ⟨[], [4]⟩, mkSh 28 [(4, .val (.int .i64) .b)]⟩]
noncomputable def b_L_szStringS_5 (t0 : PV S_string) (t1 : PV (.int .i64)) (t5 : PV (.int .i64)) : Option ((PV S_string × PV (.int .i64) × PV (.int .i64) × Unit) ⊕ ((PV (.int .i64) × Unit) ⊕ (PV (.int .i64) × Unit))) :=
  bif (decide (t5 < (t0.length : Int))) then
    bif inB t5 t0.length then
      bif (decide ((IntKind.wrap .i64 (t1 - ((t0.getD t5.toNat []).length : Int))) < 0)) then
        some (.inr (.inr ((-1), ())))
      else
        some (.inl (t0, (IntKind.wrap .i64 (t1 - ((t0.getD t5.toNat []).length : Int))), (IntKind.wrap .i64 (t5 + 1)), ()))
    else
      none
  else
    some (.inr (.inl (t1, ())))
noncomputable def w_L_szStringS_5 : PV S_string × PV (.int .i64) × PV (.int .i64) × Unit → Option ((PV (.int .i64) × Unit) ⊕ (PV (.int .i64) × Unit)) := fix fun d => b_L_szStringS_5 d.1 d.2.1 d.2.2.1
noncomputable def lp_L_szStringS_5 : Lp := ⟨⟨[], [0, 1, 5]⟩, sh_L_szStringS_5, o_L_szStringS_5, fun d => b_L_szStringS_5 d.1 d.2.1 d.2.2.1⟩
noncomputable def pl_L_szStringS : Plan := ⟨[], [(5, lp_L_szStringS_5)], 0, 0⟩
noncomputable def f_L_szStringS (t0 : PV S_string) (t1 : PV (.int .i64)) : Option (PVs [(.int .i64)] × PVs []) :=
  bif (decide ((IntKind.wrap .i64 (t1 - (t0.length : Int))) < 0)) then
    some (((-1), ()), ())
  else
    (w_L_szStringS_5 (t0, (IntKind.wrap .i64 (t1 - (t0.length : Int))), 0, ())).bind fun x5 =>
      match x5 with
      | .inl l3 =>
        some ((l3.1, ()), ())
      | .inr l4 =>
        some ((l4.1, ()), ())
noncomputable def ct_L_szStringS : Ct := ⟨[(.bor, S_string), (.bor, (.int .i64))], [((.int .i64), false)], fun x => f_L_szStringS x.1 x.2.1⟩
noncomputable def cx_L_szStringS : Cx := ⟨tab, arrs, [], []⟩
theorem eb_L_szStringS_5 (t0 : PV S_string) (t1 : PV (.int .i64)) (t5 : PV (.int .i64)) : denK cx_L_szStringS (rcN cx_L_szStringS 0) pl_L_szStringS 0 ((loopsOf (bodyOf Try.f21)).getD 0 .skip) (fillS sh_L_szStringS_5 (t0, t1, t5, ())) (roundK 0 lp_L_szStringS_5) = b_L_szStringS_5 t0 t1 t5 := by kernel_rfl
theorem ef_L_szStringS (t0 : PV S_string) (t1 : PV (.int .i64)) : denF cx_L_szStringS 0 pl_L_szStringS Try.f21.ntmps (bodyOf Try.f21) Try.f21.results.toList [(.bor, S_string), (.bor, (.int .i64))] [((.int .i64), false)] (t0, t1, ()) = f_L_szStringS t0 t1 := by kernel_rfl
theorem ok_L_szStringS : FnOk Try.prog 21 ct_L_szStringS :=
  fnOk (cx := cx_L_szStringS) (pl := pl_L_szStringS) (dp := 0) (ok0_of tabOk (by unfold ArrOk; kernel_rfl) mix trivial trivial) Try.func21 (by kernel_rfl) (by kernel_rfl) (by kernel_rfl)
    (by rw [show loopsOf (bodyOf Try.f21) = [((loopsOf (bodyOf Try.f21)).getD 0 .skip)] from by kernel_rfl]; exact ⟨(by rw [show lookup pl_L_szStringS.loops (firstId ((loopsOf (bodyOf Try.f21)).getD 0 .skip)) = some lp_L_szStringS_5 from by kernel_rfl]; exact fun d z h => (eb_L_szStringS_5 d.1 d.2.1 d.2.2.1).trans h), trivial⟩) (fun x => ef_L_szStringS x.1 x.2.1)
noncomputable def sh_L_toStringS_3 : List Sh := mkSh 22 [(0, .val S_string .b), (3, .val S_string (.row .b)), (4, .val (.int .i64) .b)]
noncomputable def o_L_toStringS_3 : List Out := [⟨.exit 0, ⟨[], [3]⟩, mkSh 22 [(3, .val S_string (.row .b))]⟩]
noncomputable def b_L_toStringS_3 (t0 : PV S_string) (t3 : PV S_string) (t4 : PV (.int .i64)) : Option ((PV S_string × PV S_string × PV (.int .i64) × Unit) ⊕ ((PV S_string × Unit))) :=
  bif (decide (t4 < (t0.length : Int))) then
    bif inB t4 t0.length then
      bif inB t4 t3.length then
        some (.inl (t0, (t3.set t4.toNat (t0.getD t4.toNat [])), (IntKind.wrap .i64 (t4 + 1)), ()))
      else
        none
    else
      none
  else
    some (.inr (t3, ()))
noncomputable def w_L_toStringS_3 : PV S_string × PV S_string × PV (.int .i64) × Unit → Option ((PV S_string × Unit)) := fix fun d => b_L_toStringS_3 d.1 d.2.1 d.2.2.1
noncomputable def lp_L_toStringS_3 : Lp := ⟨⟨[], [0, 3, 4]⟩, sh_L_toStringS_3, o_L_toStringS_3, fun d => b_L_toStringS_3 d.1 d.2.1 d.2.2.1⟩
noncomputable def pl_L_toStringS : Plan := ⟨[], [(3, lp_L_toStringS_3)], 0, 0⟩
noncomputable def f_L_toStringS (t0 : PV S_string) : Option (PVs [S_string] × PVs []) :=
  bif decide (0 ≤ (t0.length : Int)) && (decide ((t0.length : Int) ≤ (t0.length : Int)) && roomB (t0.length : Int).toNat) then
    (w_L_toStringS_3 (t0, (List.replicate (t0.length : Int).toNat ([] : PV .str)), 0, ())).bind fun l2 =>
      some ((l2.1, ()), ())
  else
    none
noncomputable def ct_L_toStringS : Ct := ⟨[(.bor, S_string)], [(S_string, true)], fun x => f_L_toStringS x.1⟩
noncomputable def cx_L_toStringS : Cx := ⟨tab, arrs, [], []⟩
theorem eb_L_toStringS_3 (t0 : PV S_string) (t3 : PV S_string) (t4 : PV (.int .i64)) : denK cx_L_toStringS (rcN cx_L_toStringS 0) pl_L_toStringS 0 ((loopsOf (bodyOf Try.f24)).getD 0 .skip) (fillS sh_L_toStringS_3 (t0, t3, t4, ())) (roundK 0 lp_L_toStringS_3) = b_L_toStringS_3 t0 t3 t4 := by kernel_rfl
theorem ef_L_toStringS (t0 : PV S_string) : denF cx_L_toStringS 0 pl_L_toStringS Try.f24.ntmps (bodyOf Try.f24) Try.f24.results.toList [(.bor, S_string)] [(S_string, true)] (t0, ()) = f_L_toStringS t0 := by kernel_rfl
theorem ok_L_toStringS : FnOk Try.prog 24 ct_L_toStringS :=
  fnOk (cx := cx_L_toStringS) (pl := pl_L_toStringS) (dp := 0) (ok0_of tabOk (by unfold ArrOk; kernel_rfl) mix trivial trivial) Try.func24 (by kernel_rfl) (by kernel_rfl) (by kernel_rfl)
    (by rw [show loopsOf (bodyOf Try.f24) = [((loopsOf (bodyOf Try.f24)).getD 0 .skip)] from by kernel_rfl]; exact ⟨(by rw [show lookup pl_L_toStringS.loops (firstId ((loopsOf (bodyOf Try.f24)).getD 0 .skip)) = some lp_L_toStringS_3 from by kernel_rfl]; exact fun d z h => (eb_L_toStringS_3 d.1 d.2.1 d.2.2.1).trans h), trivial⟩) (fun x => ef_L_toStringS x.1)
noncomputable def o_S_l1Good_5 : List Out := [⟨.normal, ⟨[], [0, 5, 6, 7, 26]⟩, mkSh 31 [(0, .val S_string .b), (5, .val S_string .b), (6, .val (.int .i64) .b), (7, .val (.int .i64) .b), (26, .val .bool .b)]⟩]
noncomputable def sh_S_l1Good_2 : List Sh := mkSh 31 [(0, .val S_string .b), (5, .val S_string .b), (6, .val (.int .i64) .b), (7, .val (.int .i64) .b)]
noncomputable def o_S_l1Good_2 : List Out := [⟨.exit 0, ⟨[], [0]⟩, mkSh 31 [(0, .val S_string .b)]⟩, ⟨.ret, ⟨[], [2]⟩, mkSh 31 [(2, .val .bool .b)]⟩]
noncomputable def b_S_l1Good_2 (t0 : PV S_string) (t5 : PV S_string) (t6 : PV (.int .i64)) (t7 : PV (.int .i64)) : Option ((PV S_string × PV S_string × PV (.int .i64) × PV (.int .i64) × Unit) ⊕ ((PV S_string × Unit) ⊕ (PV .bool × Unit))) :=
  bif (decide (t7 < t6)) then
    bif inB t7 t5.length then
      ((
          (f_S_l1Line (t5.getD t7.toNat [])).bind fun r4 =>
            bif (!r4.1.1) then
              some (t0, t5, t6, t7, true, ())
            else
              bif (decide (t7 < (IntKind.wrap .i64 ((t0.length : Int) - 1)))) then
                (f_S_l1Ends (t5.getD t7.toNat [])).bind fun r5 =>
                  some (t0, t5, t6, t7, (!r5.1.1), ())
              else
                some (t0, t5, t6, t7, false, ()) : Option ((PV S_string × PV S_string × PV (.int .i64) × PV (.int .i64) × PV .bool × Unit)))).bind fun j6 =>
        bif j6.2.2.2.2.1 then
          some (.inr (.inr (false, ())))
        else
          some (.inl (j6.1, j6.2.1, j6.2.2.1, (IntKind.wrap .i64 (j6.2.2.2.1 + 1)), ()))
    else
      none
  else
    some (.inr (.inl (t0, ())))
noncomputable def w_S_l1Good_2 : PV S_string × PV S_string × PV (.int .i64) × PV (.int .i64) × Unit → Option ((PV S_string × Unit) ⊕ (PV .bool × Unit)) := fix fun d => b_S_l1Good_2 d.1 d.2.1 d.2.2.1 d.2.2.2.1
noncomputable def lp_S_l1Good_2 : Lp := ⟨⟨[], [0, 5, 6, 7, 16, 17, 18, 19, 20, 21, 22, 23, 24, 25]⟩, sh_S_l1Good_2, o_S_l1Good_2, fun d => b_S_l1Good_2 d.1 d.2.1 d.2.2.1 d.2.2.2.1⟩
noncomputable def pl_S_l1Good : Plan := ⟨[(5, o_S_l1Good_5)], [(2, lp_S_l1Good_2)], 0, 0⟩
noncomputable def f_S_l1Good (t0 : PV S_string) : Option (PVs [.bool] × PVs []) :=
  (w_S_l1Good_2 (t0, t0, (t0.length : Int), 0, ())).bind fun x11 =>
    match x11 with
    | .inl l9 =>
      some (((decide ((l9.1.length : Int) ≤ 40)), ()), ())
    | .inr l10 =>
      some ((l10.1, ()), ())
noncomputable def ct_S_l1Good : Ct := ⟨[(.bor, S_string)], [(.bool, false)], fun x => f_S_l1Good x.1⟩
noncomputable def cx_S_l1Good : Cx := ⟨tab, arrs, [(161, ct_S_l1Line), (177, ct_S_l1Ends)], []⟩
theorem eb_S_l1Good_2 (t0 : PV S_string) (t5 : PV S_string) (t6 : PV (.int .i64)) (t7 : PV (.int .i64)) : denK cx_S_l1Good (rcN cx_S_l1Good 0) pl_S_l1Good 0 ((loopsOf (bodyOf Try.f126)).getD 0 .skip) (fillS sh_S_l1Good_2 (t0, t5, t6, t7, ())) (roundK 0 lp_S_l1Good_2) = b_S_l1Good_2 t0 t5 t6 t7 := by kernel_rfl
theorem ef_S_l1Good (t0 : PV S_string) : denF cx_S_l1Good 0 pl_S_l1Good Try.f126.ntmps (bodyOf Try.f126) Try.f126.results.toList [(.bor, S_string)] [(.bool, false)] (t0, ()) = f_S_l1Good t0 := by kernel_rfl
theorem ok_S_l1Good : FnOk Try.prog 126 ct_S_l1Good :=
  fnOk (cx := cx_S_l1Good) (pl := pl_S_l1Good) (dp := 0) (ok0_of tabOk (by unfold ArrOk; kernel_rfl) mix ⟨ok_S_l1Line, ok_S_l1Ends, trivial⟩ trivial) Try.func126 (by kernel_rfl) (by kernel_rfl) (by kernel_rfl)
    (by rw [show loopsOf (bodyOf Try.f126) = [((loopsOf (bodyOf Try.f126)).getD 0 .skip)] from by kernel_rfl]; exact ⟨(by rw [show lookup pl_S_l1Good.loops (firstId ((loopsOf (bodyOf Try.f126)).getD 0 .skip)) = some lp_S_l1Good_2 from by kernel_rfl]; exact fun d z h => (eb_S_l1Good_2 d.1 d.2.1 d.2.2.1 d.2.2.2.1).trans h), trivial⟩) (fun x => ef_S_l1Good x.1)
noncomputable def sh_S_l1SameT_4 : List Sh := mkSh 26 [(0, .val S_string .b), (1, .val S_string .b), (12, .val (.int .i64) .b), (13, .val (.int .i64) .b)]
noncomputable def o_S_l1SameT_4 : List Out := [⟨.exit 0, ⟨[], []⟩, mkSh 26 []⟩, ⟨.ret, ⟨[], [4]⟩, mkSh 26 [(4, .val .bool .b)]⟩]
noncomputable def b_S_l1SameT_4 (t0 : PV S_string) (t1 : PV S_string) (t12 : PV (.int .i64)) (t13 : PV (.int .i64)) : Option ((PV S_string × PV S_string × PV (.int .i64) × PV (.int .i64) × Unit) ⊕ ((Unit) ⊕ (PV .bool × Unit))) :=
  bif (decide (t13 < t12)) then
    bif inB t13 t0.length then
      bif inB t13 t1.length then
        bif (!((t0.getD t13.toNat []) == (t1.getD t13.toNat []))) then
          some (.inr (.inr (false, ())))
        else
          some (.inl (t0, t1, t12, (IntKind.wrap .i64 (t13 + 1)), ()))
      else
        none
    else
      none
  else
    some (.inr (.inl ()))
noncomputable def w_S_l1SameT_4 : PV S_string × PV S_string × PV (.int .i64) × PV (.int .i64) × Unit → Option ((Unit) ⊕ (PV .bool × Unit)) := fix fun d => b_S_l1SameT_4 d.1 d.2.1 d.2.2.1 d.2.2.2.1
noncomputable def lp_S_l1SameT_4 : Lp := ⟨⟨[], [0, 1, 12, 13]⟩, sh_S_l1SameT_4, o_S_l1SameT_4, fun d => b_S_l1SameT_4 d.1 d.2.1 d.2.2.1 d.2.2.2.1⟩
noncomputable def pl_S_l1SameT : Plan := ⟨[], [(4, lp_S_l1SameT_4)], 0, 0⟩
noncomputable def f_S_l1SameT (t0 : PV S_string) (t1 : PV S_string) : Option (PVs [.bool] × PVs []) :=
  bif (!((t0.length : Int) == (t1.length : Int))) then
    some ((false, ()), ())
  else
    (w_S_l1SameT_4 (t0, t1, (t0.length : Int), 0, ())).bind fun x5 =>
      match x5 with
      | .inl l3 =>
        some ((true, ()), ())
      | .inr l4 =>
        some ((l4.1, ()), ())
noncomputable def ct_S_l1SameT : Ct := ⟨[(.bor, S_string), (.bor, S_string)], [(.bool, false)], fun x => f_S_l1SameT x.1 x.2.1⟩
noncomputable def cx_S_l1SameT : Cx := ⟨tab, arrs, [], []⟩
theorem eb_S_l1SameT_4 (t0 : PV S_string) (t1 : PV S_string) (t12 : PV (.int .i64)) (t13 : PV (.int .i64)) : denK cx_S_l1SameT (rcN cx_S_l1SameT 0) pl_S_l1SameT 0 ((loopsOf (bodyOf Try.f83)).getD 0 .skip) (fillS sh_S_l1SameT_4 (t0, t1, t12, t13, ())) (roundK 0 lp_S_l1SameT_4) = b_S_l1SameT_4 t0 t1 t12 t13 := by kernel_rfl
theorem ef_S_l1SameT (t0 : PV S_string) (t1 : PV S_string) : denF cx_S_l1SameT 0 pl_S_l1SameT Try.f83.ntmps (bodyOf Try.f83) Try.f83.results.toList [(.bor, S_string), (.bor, S_string)] [(.bool, false)] (t0, t1, ()) = f_S_l1SameT t0 t1 := by kernel_rfl
theorem ok_S_l1SameT : FnOk Try.prog 83 ct_S_l1SameT :=
  fnOk (cx := cx_S_l1SameT) (pl := pl_S_l1SameT) (dp := 0) (ok0_of tabOk (by unfold ArrOk; kernel_rfl) mix trivial trivial) Try.func83 (by kernel_rfl) (by kernel_rfl) (by kernel_rfl)
    (by rw [show loopsOf (bodyOf Try.f83) = [((loopsOf (bodyOf Try.f83)).getD 0 .skip)] from by kernel_rfl]; exact ⟨(by rw [show lookup pl_S_l1SameT.loops (firstId ((loopsOf (bodyOf Try.f83)).getD 0 .skip)) = some lp_S_l1SameT_4 from by kernel_rfl]; exact fun d z h => (eb_S_l1SameT_4 d.1 d.2.1 d.2.2.1 d.2.2.2.1).trans h), trivial⟩) (fun x => ef_S_l1SameT x.1 x.2.1)
noncomputable def o_S_l6Hunks_13 : List Out := [⟨.normal, ⟨[], [3, 4, 5, 7, 12, 13, 14]⟩, mkSh 60 [(3, .val S_impl_Hunk (.row (.pr .b (.pr .b (.pr (.row .b) .b))))), (4, .val (.int .i64) .b), (5, .val .bool .b), (7, .var Y_impl_Row .b), (12, .val S_impl_Row .b), (13, .val (.int .i64) .b), (14, .val (.int .i64) .b)]⟩]
noncomputable def o_S_l6Hunks_18 : List Out := [⟨.normal, ⟨[], [3, 4, 5, 12, 13, 14]⟩, mkSh 60 [(3, .val S_impl_Hunk (.row (.pr .b (.pr .b (.pr (.row .b) .b))))), (4, .val (.int .i64) .b), (5, .val .bool .b), (12, .val S_impl_Row .b), (13, .val (.int .i64) .b), (14, .val (.int .i64) .b)]⟩]
noncomputable def sh_S_l6Hunks_5 : List Sh := mkSh 60 [(3, .val S_impl_Hunk (.row (.pr .b (.pr .b (.pr (.row .b) .b))))), (4, .val (.int .i64) .b), (5, .val .bool .b), (12, .val S_impl_Row .b), (13, .val (.int .i64) .b), (14, .val (.int .i64) .b)]
noncomputable def o_S_l6Hunks_5 : List Out := [⟨.exit 0, ⟨[], [3]⟩, mkSh 60 [(3, .val S_impl_Hunk (.row (.pr .b (.pr .b (.pr (.row .b) .b)))))]⟩]
noncomputable def b_S_l6Hunks_5 (t3 : PV S_impl_Hunk) (t4 : PV (.int .i64)) (t5 : PV .bool) (t12 : PV S_impl_Row) (t13 : PV (.int .i64)) (t14 : PV (.int .i64)) : Option ((PV S_impl_Hunk × PV (.int .i64) × PV .bool × PV S_impl_Row × PV (.int .i64) × PV (.int .i64) × Unit) ⊕ ((PV S_impl_Hunk × Unit))) :=
  bif (decide (t14 < t13)) then
    ((
        bif inB t14 t12.length then
          bif (((t12.getD t14.toNat (dflt Y_impl_Row)).1) == 1) then
            some (t3, (IntKind.wrap .i64 (t4 + 1)), false, t12, t13, t14, ())
          else
            ((
                bif (!t5) then
                  bif roomB (t3.length + [(t4, (0, (([] : PV S_string), ())))].length) then
                    some ((t3 ++ [(t4, (0, (([] : PV S_string), ())))]), t4, true, (t12.getD t14.toNat (dflt Y_impl_Row)), t12, t13, t14, ())
                  else
                    none
                else
                  some (t3, t4, t5, (t12.getD t14.toNat (dflt Y_impl_Row)), t12, t13, t14, ()) : Option ((PV S_impl_Hunk × PV (.int .i64) × PV .bool × PV Y_impl_Row × PV S_impl_Row × PV (.int .i64) × PV (.int .i64) × Unit)))).bind fun j1 =>
              bif inB (IntKind.wrap .i64 ((j1.1.length : Int) - 1)) j1.1.length then
                bif (j1.2.2.2.1.1 == 2) then
                  some ((j1.1.set ((IntKind.wrap .i64 ((j1.1.length : Int) - 1)).toNat) ((j1.1.getD ((IntKind.wrap .i64 ((j1.1.length : Int) - 1)).toNat) (dflt Y_impl_Hunk)).1, ((IntKind.wrap .i64 ((((j1.1.getD ((IntKind.wrap .i64 ((j1.1.length : Int) - 1)).toNat) (dflt Y_impl_Hunk)).2).1) + 1)), ((j1.1.getD ((IntKind.wrap .i64 ((j1.1.length : Int) - 1)).toNat) (dflt Y_impl_Hunk)).2).2))), (IntKind.wrap .i64 (j1.2.1 + 1)), j1.2.2.1, j1.2.2.2.2.1, j1.2.2.2.2.2.1, j1.2.2.2.2.2.2.1, ())
                else
                  bif roomB (((((j1.1.getD ((IntKind.wrap .i64 ((j1.1.length : Int) - 1)).toNat) (dflt Y_impl_Hunk)).2).2).1).length + [j1.2.2.2.1.2.1].length) then
                    bif (((IntKind.wrap .i64 ((j1.1.length : Int) - 1)).toNat == (IntKind.wrap .i64 ((j1.1.length : Int) - 1)).toNat) && true) then
                      bif (((IntKind.wrap .i64 ((j1.1.length : Int) - 1)).toNat == (IntKind.wrap .i64 ((j1.1.length : Int) - 1)).toNat) && true) then
                        bif (((IntKind.wrap .i64 ((j1.1.length : Int) - 1)).toNat == (IntKind.wrap .i64 ((j1.1.length : Int) - 1)).toNat) && true) then
                          some ((j1.1.set ((IntKind.wrap .i64 ((j1.1.length : Int) - 1)).toNat) ((j1.1.getD ((IntKind.wrap .i64 ((j1.1.length : Int) - 1)).toNat) (dflt Y_impl_Hunk)).1, (((j1.1.getD ((IntKind.wrap .i64 ((j1.1.length : Int) - 1)).toNat) (dflt Y_impl_Hunk)).2).1, ((((((j1.1.getD ((IntKind.wrap .i64 ((j1.1.length : Int) - 1)).toNat) (dflt Y_impl_Hunk)).2).2).1) ++ [j1.2.2.2.1.2.1]), (((j1.1.getD ((IntKind.wrap .i64 ((j1.1.length : Int) - 1)).toNat) (dflt Y_impl_Hunk)).2).2).2)))), j1.2.1, j1.2.2.1, j1.2.2.2.2.1, j1.2.2.2.2.2.1, j1.2.2.2.2.2.2.1, ())
                        else
                          none
                      else
                        none
                    else
                      none
                  else
                    none
              else
                none
        else
          none : Option ((PV S_impl_Hunk × PV (.int .i64) × PV .bool × PV S_impl_Row × PV (.int .i64) × PV (.int .i64) × Unit)))).bind fun j2 =>
      some (.inl (j2.1, j2.2.1, j2.2.2.1, j2.2.2.2.1, j2.2.2.2.2.1, (IntKind.wrap .i64 (j2.2.2.2.2.2.1 + 1)), ()))
  else
    some (.inr (t3, ()))
noncomputable def w_S_l6Hunks_5 : PV S_impl_Hunk × PV (.int .i64) × PV .bool × PV S_impl_Row × PV (.int .i64) × PV (.int .i64) × Unit → Option ((PV S_impl_Hunk × Unit)) := fix fun d => b_S_l6Hunks_5 d.1 d.2.1 d.2.2.1 d.2.2.2.1 d.2.2.2.2.1 d.2.2.2.2.2.1
noncomputable def lp_S_l6Hunks_5 : Lp := ⟨⟨[], [3, 4, 5, 12, 13, 14]⟩, sh_S_l6Hunks_5, o_S_l6Hunks_5, fun d => b_S_l6Hunks_5 d.1 d.2.1 d.2.2.1 d.2.2.2.1 d.2.2.2.2.1 d.2.2.2.2.2.1⟩
noncomputable def pl_S_l6Hunks : Plan := ⟨[(13, o_S_l6Hunks_13), (18, o_S_l6Hunks_18)], [(5, lp_S_l6Hunks_5)], 0, 0⟩
noncomputable def f_S_l6Hunks (t0 : PV Y_impl_Group) : Option (PVs [S_impl_Hunk] × PVs []) :=
  (w_S_l6Hunks_5 ([], t0.1, false, t0.2.2.1, (t0.2.2.1.length : Int), 0, ())).bind fun l4 =>
    some ((l4.1, ()), ())
noncomputable def ct_S_l6Hunks : Ct := ⟨[(.bor, Y_impl_Group)], [(S_impl_Hunk, true)], fun x => f_S_l6Hunks x.1⟩
noncomputable def cx_S_l6Hunks : Cx := ⟨tab, arrs, [], []⟩
theorem eb_S_l6Hunks_5 (t3 : PV S_impl_Hunk) (t4 : PV (.int .i64)) (t5 : PV .bool) (t12 : PV S_impl_Row) (t13 : PV (.int .i64)) (t14 : PV (.int .i64)) : denK cx_S_l6Hunks (rcN cx_S_l6Hunks 0) pl_S_l6Hunks 0 ((loopsOf (bodyOf Try.f213)).getD 0 .skip) (fillS sh_S_l6Hunks_5 (t3, t4, t5, t12, t13, t14, ())) (roundK 0 lp_S_l6Hunks_5) = b_S_l6Hunks_5 t3 t4 t5 t12 t13 t14 := by kernel_rfl
theorem ef_S_l6Hunks (t0 : PV Y_impl_Group) : denF cx_S_l6Hunks 0 pl_S_l6Hunks Try.f213.ntmps (bodyOf Try.f213) Try.f213.results.toList [(.bor, Y_impl_Group)] [(S_impl_Hunk, true)] (t0, ()) = f_S_l6Hunks t0 := by kernel_rfl
theorem ok_S_l6Hunks : FnOk Try.prog 213 ct_S_l6Hunks :=
  fnOk (cx := cx_S_l6Hunks) (pl := pl_S_l6Hunks) (dp := 0) (ok0_of tabOk (by unfold ArrOk; kernel_rfl) mix trivial trivial) Try.func213 (by kernel_rfl) (by kernel_rfl) (by kernel_rfl)
    (by rw [show loopsOf (bodyOf Try.f213) = [((loopsOf (bodyOf Try.f213)).getD 0 .skip)] from by kernel_rfl]; exact ⟨(by rw [show lookup pl_S_l6Hunks.loops (firstId ((loopsOf (bodyOf Try.f213)).getD 0 .skip)) = some lp_S_l6Hunks_5 from by kernel_rfl]; exact fun d z h => (eb_S_l6Hunks_5 d.1 d.2.1 d.2.2.1 d.2.2.2.1 d.2.2.2.2.1 d.2.2.2.2.2.1).trans h), trivial⟩) (fun x => ef_S_l6Hunks x.1)
noncomputable def o_S_l6All_14 : List Out := [⟨.normal, ⟨[], [0, 8, 9, 11, 12, 29, 30, 31, 57]⟩, mkSh 72 [(0, .val S_string .b), (8, .val (.int .i64) .b), (9, .val S_impl_Hunk (.row (.pr .b (.pr .b (.pr (.row .b) .b))))), (11, .var Y_impl_Group .b), (12, .val S_string (.row .b)), (29, .val S_impl_Group .b), (30, .val (.int .i64) .b), (31, .val (.int .i64) .b), (57, .val .bool .b)]⟩]
noncomputable def sh_S_l6All_2 : List Sh := mkSh 72 [(0, .val S_string .b), (1, .val S_impl_Group .b), (13, .val S_impl_Group .b), (14, .val (.int .i64) .b), (15, .val (.int .i64) .b)]
noncomputable def o_S_l6All_2 : List Out := [⟨.exit 0, ⟨[], [0, 1, 50, 51, 52, 53, 54, 55, 56]⟩, mkSh 72 [(0, .val S_string .b), (1, .val S_impl_Group .b)]⟩, ⟨.ret, ⟨[], [4, 5]⟩, mkSh 72 [(4, .val S_impl_Hunk (.row (.pr .b (.pr .b (.pr (.row .b) .b))))), (5, .val (.int .i64) .b)]⟩]
noncomputable def b_S_l6All_2 (t0 : PV S_string) (t1 : PV S_impl_Group) (t13 : PV S_impl_Group) (t14 : PV (.int .i64)) (t15 : PV (.int .i64)) : Option ((PV S_string × PV S_impl_Group × PV S_impl_Group × PV (.int .i64) × PV (.int .i64) × Unit) ⊕ ((PV S_string × PV S_impl_Group × Unit) ⊕ (PV S_impl_Hunk × PV (.int .i64) × Unit))) :=
  bif (decide (t15 < t14)) then
    bif inB t15 t13.length then
      (f_S_l6Old (t13.getD t15.toNat (dflt Y_impl_Group))).bind fun r4 =>
        bif (decide ((IntKind.wrap .i64 (((t13.getD t15.toNat (dflt Y_impl_Group)).1) + (r4.1.1.length : Int))) > (t0.length : Int))) then
          some (.inr (.inr ([], 3, ())))
        else
          some (.inl (t0, t1, t13, t14, (IntKind.wrap .i64 (t15 + 1)), ()))
    else
      none
  else
    some (.inr (.inl (t0, t1, ())))
noncomputable def w_S_l6All_2 : PV S_string × PV S_impl_Group × PV S_impl_Group × PV (.int .i64) × PV (.int .i64) × Unit → Option ((PV S_string × PV S_impl_Group × Unit) ⊕ (PV S_impl_Hunk × PV (.int .i64) × Unit)) := fix fun d => b_S_l6All_2 d.1 d.2.1 d.2.2.1 d.2.2.2.1 d.2.2.2.2.1
noncomputable def lp_S_l6All_2 : Lp := ⟨⟨[], [0, 1, 13, 14, 15, 50, 51, 52, 53, 54, 55, 56]⟩, sh_S_l6All_2, o_S_l6All_2, fun d => b_S_l6All_2 d.1 d.2.1 d.2.2.1 d.2.2.2.1 d.2.2.2.2.1⟩
noncomputable def sh_S_l6All_10 : List Sh := mkSh 72 [(0, .val S_string .b), (8, .val (.int .i64) .b), (9, .val S_impl_Hunk (.row (.pr .b (.pr .b (.pr (.row .b) .b))))), (29, .val S_impl_Group .b), (30, .val (.int .i64) .b), (31, .val (.int .i64) .b)]
noncomputable def o_S_l6All_10 : List Out := [⟨.exit 2, ⟨[], [9]⟩, mkSh 72 [(9, .val S_impl_Hunk (.row (.pr .b (.pr .b (.pr (.row .b) .b)))))]⟩, ⟨.ret, ⟨[], [4, 5]⟩, mkSh 72 [(4, .val S_impl_Hunk (.row (.pr .b (.pr .b (.pr (.row .b) .b))))), (5, .val (.int .i64) .b)]⟩]
noncomputable def b_S_l6All_10 (t0 : PV S_string) (t8 : PV (.int .i64)) (t9 : PV S_impl_Hunk) (t29 : PV S_impl_Group) (t30 : PV (.int .i64)) (t31 : PV (.int .i64)) : Option ((PV S_string × PV (.int .i64) × PV S_impl_Hunk × PV S_impl_Group × PV (.int .i64) × PV (.int .i64) × Unit) ⊕ ((PV S_impl_Hunk × Unit) ⊕ (PV S_impl_Hunk × PV (.int .i64) × Unit))) :=
  bif (decide (t31 < t30)) then
    bif inB t31 t29.length then
      (f_S_l6Old (t29.getD t31.toNat (dflt Y_impl_Group))).bind fun r18 =>
        ((
            bif cutB ((t29.getD t31.toNat (dflt Y_impl_Group)).1) (IntKind.wrap .i64 (((t29.getD t31.toNat (dflt Y_impl_Group)).1) + (r18.1.1.length : Int))) t0.length then
              (f_S_l1SameT (cutL ((t29.getD t31.toNat (dflt Y_impl_Group)).1) (IntKind.wrap .i64 (((t29.getD t31.toNat (dflt Y_impl_Group)).1) + (r18.1.1.length : Int))) t0) r18.1.1).bind fun r21 =>
                bif (!r21.1.1) then
                  some (t0, t8, t9, (t29.getD t31.toNat (dflt Y_impl_Group)), r18.1.1, t29, t30, t31, true, ())
                else
                  some (t0, t8, t9, (t29.getD t31.toNat (dflt Y_impl_Group)), r18.1.1, t29, t30, t31, (!((((t29.getD t31.toNat (dflt Y_impl_Group)).2).1) == (IntKind.wrap .i64 (((t29.getD t31.toNat (dflt Y_impl_Group)).1) + t8)))), ())
            else
              none : Option ((PV S_string × PV (.int .i64) × PV S_impl_Hunk × PV Y_impl_Group × PV S_string × PV S_impl_Group × PV (.int .i64) × PV (.int .i64) × PV .bool × Unit)))).bind fun j22 =>
          bif j22.2.2.2.2.2.2.2.2.1 then
            some (.inr (.inr ([], 2, ())))
          else
            (f_S_l6New j22.2.2.2.1).bind fun r24 =>
              (f_S_l6Hunks j22.2.2.2.1).bind fun r25 =>
                bif roomB (j22.2.2.1.length + r25.1.1.length) then
                  some (.inl (j22.1, (IntKind.wrap .i64 (j22.2.1 + (IntKind.wrap .i64 ((r24.1.1.length : Int) - (j22.2.2.2.2.1.length : Int))))), (j22.2.2.1 ++ r25.1.1), j22.2.2.2.2.2.1, j22.2.2.2.2.2.2.1, (IntKind.wrap .i64 (j22.2.2.2.2.2.2.2.1 + 1)), ()))
                else
                  none
    else
      none
  else
    some (.inr (.inl (t9, ())))
noncomputable def w_S_l6All_10 : PV S_string × PV (.int .i64) × PV S_impl_Hunk × PV S_impl_Group × PV (.int .i64) × PV (.int .i64) × Unit → Option ((PV S_impl_Hunk × Unit) ⊕ (PV S_impl_Hunk × PV (.int .i64) × Unit)) := fix fun d => b_S_l6All_10 d.1 d.2.1 d.2.2.1 d.2.2.2.1 d.2.2.2.2.1 d.2.2.2.2.2.1
noncomputable def lp_S_l6All_10 : Lp := ⟨⟨[], [0, 8, 9, 29, 30, 31, 50, 51, 52, 53, 54, 55, 56]⟩, sh_S_l6All_10, o_S_l6All_10, fun d => b_S_l6All_10 d.1 d.2.1 d.2.2.1 d.2.2.2.1 d.2.2.2.2.1 d.2.2.2.2.2.1⟩
noncomputable def pl_S_l6All : Plan := ⟨[(14, o_S_l6All_14)], [(2, lp_S_l6All_2), (10, lp_S_l6All_10)], 0, 0⟩
noncomputable def f_S_l6All (t0 : PV S_string) (t1 : PV S_impl_Group) : Option (PVs [S_impl_Hunk, (.int .i64)] × PVs []) :=
  (w_S_l6All_2 (t0, t1, t1, (t1.length : Int), 0, ())).bind fun x31 =>
    match x31 with
    | .inl l7 =>
      (w_S_l6All_10 (l7.1, 0, [], l7.2.1, (l7.2.1.length : Int), 0, ())).bind fun x32 =>
        match x32 with
        | .inl l28 =>
          some ((l28.1, 0, ()), ())
        | .inr l29 =>
          some ((l29.1, l29.2.1, ()), ())
    | .inr l30 =>
      some ((l30.1, l30.2.1, ()), ())
noncomputable def ct_S_l6All : Ct := ⟨[(.bor, S_string), (.bor, S_impl_Group)], [(S_impl_Hunk, true), ((.int .i64), false)], fun x => f_S_l6All x.1 x.2.1⟩
noncomputable def cx_S_l6All : Cx := ⟨tab, arrs, [(83, ct_S_l1SameT), (148, ct_S_l6Old), (149, ct_S_l6New), (213, ct_S_l6Hunks)], []⟩
theorem eb_S_l6All_2 (t0 : PV S_string) (t1 : PV S_impl_Group) (t13 : PV S_impl_Group) (t14 : PV (.int .i64)) (t15 : PV (.int .i64)) : denK cx_S_l6All (rcN cx_S_l6All 0) pl_S_l6All 0 ((loopsOf (bodyOf Try.f185)).getD 0 .skip) (fillS sh_S_l6All_2 (t0, t1, t13, t14, t15, ())) (roundK 0 lp_S_l6All_2) = b_S_l6All_2 t0 t1 t13 t14 t15 := by kernel_rfl
theorem eb_S_l6All_10 (t0 : PV S_string) (t8 : PV (.int .i64)) (t9 : PV S_impl_Hunk) (t29 : PV S_impl_Group) (t30 : PV (.int .i64)) (t31 : PV (.int .i64)) : denK cx_S_l6All (rcN cx_S_l6All 0) pl_S_l6All 0 ((loopsOf (bodyOf Try.f185)).getD 1 .skip) (fillS sh_S_l6All_10 (t0, t8, t9, t29, t30, t31, ())) (roundK 0 lp_S_l6All_10) = b_S_l6All_10 t0 t8 t9 t29 t30 t31 := by kernel_rfl
theorem ef_S_l6All (t0 : PV S_string) (t1 : PV S_impl_Group) : denF cx_S_l6All 0 pl_S_l6All Try.f185.ntmps (bodyOf Try.f185) Try.f185.results.toList [(.bor, S_string), (.bor, S_impl_Group)] [(S_impl_Hunk, true), ((.int .i64), false)] (t0, t1, ()) = f_S_l6All t0 t1 := by kernel_rfl
theorem ok_S_l6All : FnOk Try.prog 185 ct_S_l6All :=
  fnOk (cx := cx_S_l6All) (pl := pl_S_l6All) (dp := 0) (ok0_of tabOk (by unfold ArrOk; kernel_rfl) mix ⟨ok_S_l1SameT, ok_S_l6Old, ok_S_l6New, ok_S_l6Hunks, trivial⟩ trivial) Try.func185 (by kernel_rfl) (by kernel_rfl) (by kernel_rfl)
    (by rw [show loopsOf (bodyOf Try.f185) = [((loopsOf (bodyOf Try.f185)).getD 0 .skip), ((loopsOf (bodyOf Try.f185)).getD 1 .skip)] from by kernel_rfl]; exact ⟨(by rw [show lookup pl_S_l6All.loops (firstId ((loopsOf (bodyOf Try.f185)).getD 0 .skip)) = some lp_S_l6All_2 from by kernel_rfl]; exact fun d z h => (eb_S_l6All_2 d.1 d.2.1 d.2.2.1 d.2.2.2.1 d.2.2.2.2.1).trans h), (by rw [show lookup pl_S_l6All.loops (firstId ((loopsOf (bodyOf Try.f185)).getD 1 .skip)) = some lp_S_l6All_10 from by kernel_rfl]; exact fun d z h => (eb_S_l6All_10 d.1 d.2.1 d.2.2.1 d.2.2.2.1 d.2.2.2.2.1 d.2.2.2.2.2.1).trans h), trivial⟩) (fun x => ef_S_l6All x.1 x.2.1)
noncomputable def o_S_GroupHunks_2 : List Out := [⟨.normal, ⟨[], [0, 1, 16]⟩, mkSh 25 [(0, .val S_string .b), (1, .val S_impl_Group .b), (16, .val .bool .b)]⟩]
noncomputable def pl_S_GroupHunks : Plan := ⟨[(2, o_S_GroupHunks_2)], [], 0, 0⟩
noncomputable def f_S_GroupHunks (t0 : PV S_string) (t1 : PV S_impl_Group) : Option (PVs [S_impl_Hunk, (.int .i64), .bool] × PVs []) :=
  ((
      (f_S_l1Good t0).bind fun r6 =>
        bif (!r6.1.1) then
          some (t0, t1, true, ())
        else
          (f_S_l6Good t1).bind fun r7 =>
            some (t0, t1, (!r7.1.1), ()) : Option ((PV S_string × PV S_impl_Group × PV .bool × Unit)))).bind fun j8 =>
    bif j8.2.2.1 then
      some (([], 0, false, ()), ())
    else
      (f_S_l6All j8.1 j8.2.1).bind fun r10 =>
        some ((r10.1.1, r10.1.2.1, true, ()), ())
noncomputable def ct_S_GroupHunks : Ct := ⟨[(.bor, S_string), (.bor, S_impl_Group)], [(S_impl_Hunk, true), ((.int .i64), false), (.bool, false)], fun x => f_S_GroupHunks x.1 x.2.1⟩
noncomputable def cx_S_GroupHunks : Cx := ⟨tab, arrs, [(71, ct_S_l6Good), (126, ct_S_l1Good), (185, ct_S_l6All)], []⟩
theorem ef_S_GroupHunks (t0 : PV S_string) (t1 : PV S_impl_Group) : denF cx_S_GroupHunks 0 pl_S_GroupHunks Try.f138.ntmps (bodyOf Try.f138) Try.f138.results.toList [(.bor, S_string), (.bor, S_impl_Group)] [(S_impl_Hunk, true), ((.int .i64), false), (.bool, false)] (t0, t1, ()) = f_S_GroupHunks t0 t1 := by kernel_rfl
theorem ok_S_GroupHunks : FnOk Try.prog 138 ct_S_GroupHunks :=
  fnOk (cx := cx_S_GroupHunks) (pl := pl_S_GroupHunks) (dp := 0) (ok0_of tabOk (by unfold ArrOk; kernel_rfl) mix ⟨ok_S_l6Good, ok_S_l1Good, ok_S_l6All, trivial⟩ trivial) Try.func138 (by kernel_rfl) (by kernel_rfl) (by kernel_rfl)
    (by rw [show loopsOf (bodyOf Try.f138) = [] from by kernel_rfl]; exact trivial) (fun x => ef_S_GroupHunks x.1 x.2.1)
end R
