/- The functions that L_FnExactGroupsText, L_FnExactSidesText reach, as pure functions, and that the program computes them. -/
import Derived.Test.YtegfhigkmghmjaaDoorFd
import Derived.Test.YtegfhigkmghmjaaDoorFe
import Derived.Test.YtegfhigkmghmjaaDoorFg
import Derived.Test.YtegfhigkmghmjaaDoorFh
import Derived.Test.YtegfhigkmghmjaaDoorEd
import Derived.Test.YtegfhigkmghmjaaDoorChecked
import Derived.KernelRfl
open Go Go.Dn Go.Proofs
namespace R
set_option linter.unusedVariables false
@[reducible] def S_string : Ty := (.slice 9 .str)
@[reducible] def S_bool : Ty := (.slice 4 .bool)
@[reducible] def S_uint8 : Ty := (.slice 5 (.int .u8))
@[reducible] def S_int : Ty := (.slice 3 (.int .i64))
@[reducible] def Y_impl_Row : Ty := (.pair (.int .i64) (.pair .str .unit))
@[reducible] def S_laws_Row : Ty := (.slice 160 Y_impl_Row)
@[reducible] def S_impl_Row : Ty := (.slice 132 Y_impl_Row)
@[reducible] def Y_laws_Group : Ty := (.pair (.int .i64) (.pair (.int .i64) (.pair S_laws_Row .unit)))
@[reducible] def Y_impl_Group : Ty := (.pair (.int .i64) (.pair (.int .i64) (.pair S_impl_Row .unit)))
@[reducible] def S_laws_Group : Ty := (.slice 85 Y_laws_Group)
@[reducible] def S_impl_Group : Ty := (.slice 90 Y_impl_Group)
noncomputable def tab : List (TypeId × Ty) := [(3, (.int .i64)), (4, .bool), (5, (.int .u8)), (9, .str), (30, S_laws_Group), (33, S_impl_Group), (43, S_uint8), (46, S_int), (54, S_string), (83, S_laws_Row), (85, Y_laws_Group), (88, S_impl_Row), (90, Y_impl_Group), (132, Y_impl_Row), (160, Y_impl_Row), (165, S_bool)]
noncomputable def arrs : List TypeId := []
theorem tabOk : TabOk Tryd.prog tab := by unfold TabOk; kernel_rfl
theorem mix : Tryd.prog.follows .mixedOrders = true := by kernel_rfl
noncomputable def gl : Glob := tabGlob Tryd.prog 2
open Go.Shelf
set_option maxRecDepth 20000
def lays_strconv_Itoa_ren : Go.Shelf.Ren := ⟨fun | 0 => 0 | 1 => 1 | 2 => 2 | 100 => 186 | 102 => 117 | 129 => 206 | 143 => 204 | 144 => 185 | 156 => 57 | 165 => 95 | 166 => 96 | 169 => 97 | 171 => 71 | 207 => 193 | 209 => 161 | 212 => 174 | 217 => 213 | 219 => 210 | 224 => 215 | 225 => 214 | 240 => 149 | 241 => 150 | 243 => 116 | 246 => 160 | 263 => 198 | 264 => 199 | 266 => 217 | 267 => 216 | 276 => 187 | 277 => 188 | 283 => 189 | 284 => 190 | 285 => 191 | 286 => 192 | 314 => 218 | 317 => 205 | 318 => 207 | 319 => 208 | 320 => 209 | 337 => 211 | 338 => 212 | 347 => 219 | 348 => 220 | 349 => 221 | 350 => 222 | 351 => 223 | 352 => 224 | 353 => 225 | 354 => 226 | 355 => 227 | 356 => 228 | 357 => 229 | 358 => 230 | 359 => 231 | 360 => 232 | 361 => 233 | 362 => 235 | 366 => 236 | 367 => 244 | n => n, fun | 0 => 0 | 1 => 1 | 2 => 2 | 3 => 3 | 4 => 4 | 5 => 5 | 6 => 6 | 7 => 7 | 8 => 8 | 9 => 9 | 10 => 10 | 11 => 11 | 12 => 12 | 13 => 13 | 14 => 14 | 15 => 15 | 16 => 16 | 17 => 17 | 18 => 18 | 19 => 19 | 20 => 20 | 21 => 21 | 22 => 183 | 23 => 133 | 24 => 24 | 27 => 199 | 28 => 46 | 31 => 54 | 34 => 52 | 37 => 43 | 38 => 44 | 43 => 141 | 46 => 173 | 47 => 203 | 51 => 193 | 52 => 204 | 53 => 97 | 54 => 188 | 55 => 205 | 67 => 79 | 69 => 95 | 70 => 119 | 71 => 120 | 72 => 121 | 73 => 122 | 74 => 123 | 75 => 124 | 76 => 125 | 77 => 126 | 80 => 127 | 81 => 171 | 83 => 94 | 84 => 164 | 101 => 65 | 102 => 62 | 104 => 138 | 109 => 174 | 110 => 175 | 111 => 142 | 112 => 170 | 114 => 143 | 127 => 158 | 146 => 194 | 147 => 195 | 148 => 196 | 149 => 197 | 151 => 208 | 164 => 184 | 165 => 185 | 166 => 186 | 171 => 187 | 172 => 189 | 173 => 190 | 174 => 191 | 211 => 200 | 212 => 201 | 213 => 202 | 232 => 206 | 233 => 207 | 238 => 209 | 239 => 210 | 240 => 211 | 241 => 212 | 242 => 213 | 243 => 214 | 244 => 215 | 245 => 216 | 246 => 217 | 247 => 218 | 248 => 219 | 249 => 220 | n => n, fun | 1 => 1 | 17 => 2 | 18 => 3 | 19 => 4 | n => n⟩
theorem lays_strconv_Itoa : Go.Proofs.LaysM.n171 Tryd.prog lays_strconv_Itoa_ren where
  mixed := by kernel_rfl
  f129 := Tryd.func206.trans (congrArg some (by kernel_rfl))
  f171 := Tryd.func71.trans (congrArg some (by kernel_rfl))
  f243 := Tryd.func116.trans (congrArg some (by kernel_rfl))
  f246 := Tryd.func160.trans (congrArg some (by kernel_rfl))
  f283 := Tryd.func189.trans (congrArg some (by kernel_rfl))
  f284 := Tryd.func190.trans (congrArg some (by kernel_rfl))
  f285 := Tryd.func191.trans (congrArg some (by kernel_rfl))
  f286 := Tryd.func192.trans (congrArg some (by kernel_rfl))
  f317 := Tryd.func205.trans (congrArg some (by kernel_rfl))
  f318 := Tryd.func207.trans (congrArg some (by kernel_rfl))
  f319 := Tryd.func208.trans (congrArg some (by kernel_rfl))
  f320 := Tryd.func209.trans (congrArg some (by kernel_rfl))
  f337 := Tryd.func211.trans (congrArg some (by kernel_rfl))
  f338 := Tryd.func212.trans (congrArg some (by kernel_rfl))
  t0 := Tryd.underlying0
  a0 := Tryd.isAgg0
  z0 := Tryd.sizeOf0
  v0 := Tryd.zeroValue0
  t2 := Tryd.underlying2
  a2 := Tryd.isAgg2
  z2 := Tryd.sizeOf2
  v2 := Tryd.zeroValue2
  t3 := Tryd.underlying3
  a3 := Tryd.isAgg3
  z3 := Tryd.sizeOf3
  v3 := Tryd.zeroValue3
  t4 := Tryd.underlying4
  a4 := Tryd.isAgg4
  z4 := Tryd.sizeOf4
  v4 := Tryd.zeroValue4
  t5 := Tryd.underlying5
  a5 := Tryd.isAgg5
  z5 := Tryd.sizeOf5
  v5 := Tryd.zeroValue5
  t9 := Tryd.underlying9
  a9 := Tryd.isAgg9
  z9 := Tryd.sizeOf9
  v9 := Tryd.zeroValue9
  t20 := Tryd.underlying20
  a20 := Tryd.isAgg20
  z20 := Tryd.sizeOf20
  v20 := Tryd.zeroValue20
  t37 := Tryd.underlying43
  a37 := Tryd.isAgg43
  z37 := Tryd.sizeOf43
  v37 := Tryd.zeroValue43
  t46 := Tryd.underlying173
  a46 := Tryd.isAgg173
  z46 := Tryd.sizeOf173
  v46 := Tryd.zeroValue173
  t51 := Tryd.underlying193
  a51 := Tryd.isAgg193
  z51 := Tryd.sizeOf193
  v51 := Tryd.zeroValue193
  t53 := Tryd.underlying97
  a53 := Tryd.isAgg97
  z53 := Tryd.sizeOf97
  v53 := Tryd.zeroValue97
  t171 := Tryd.underlying187
  a171 := Tryd.isAgg187
  z171 := Tryd.sizeOf187
  v171 := Tryd.zeroValue187
  t173 := Tryd.underlying190
  a173 := Tryd.isAgg190
  z173 := Tryd.sizeOf190
  v173 := Tryd.zeroValue190
  t212 := Tryd.underlying201
  a212 := Tryd.isAgg201
  z212 := Tryd.sizeOf201
  v212 := Tryd.zeroValue201
  t213 := Tryd.underlying202
  a213 := Tryd.isAgg202
  z213 := Tryd.sizeOf202
  t232 := Tryd.underlying206
  a232 := Tryd.isAgg206
  z232 := Tryd.sizeOf206
  v232 := Tryd.zeroValue206
  t233 := Tryd.underlying207
  a233 := Tryd.isAgg207
  z233 := Tryd.sizeOf207
  v233 := Tryd.zeroValue207
  g17 := by kernel_rfl
  g18 := by kernel_rfl
  g19 := by kernel_rfl
  i0 := by kernel_rfl
  i2 := by kernel_rfl
  i3 := by kernel_rfl
  i4 := by kernel_rfl
  i5 := by kernel_rfl
  i9 := by kernel_rfl
  i20 := by kernel_rfl
  i37 := by kernel_rfl
  i46 := by kernel_rfl
  i51 := by kernel_rfl
  i53 := by kernel_rfl
  i171 := by kernel_rfl
  i173 := by kernel_rfl
  i212 := by kernel_rfl
  i232 := by kernel_rfl
  i233 := by kernel_rfl
  m17 := by kernel_rfl
  m18 := by kernel_rfl
  m19 := by kernel_rfl
noncomputable def f_strconv_Itoa (t0 : PV (.int .i64)) : Option (PVs [.str] × PVs []) := Go.Dn.itoaF t0
noncomputable def ct_strconv_Itoa : Ct := ⟨[(.bor, (.int .i64))], [(.str, false)], fun x => f_strconv_Itoa x.1⟩
theorem ok_strconv_Itoa : FnOk gl Tryd.prog 71 ct_strconv_Itoa := Go.Dn.itoa_ok tabGlob_tab lays_strconv_Itoa
def lays_strings_Contains_ren : Go.Shelf.Ren := ⟨fun | 0 => 0 | 1 => 1 | 2 => 2 | 100 => 186 | 102 => 117 | 129 => 206 | 143 => 204 | 144 => 185 | 156 => 57 | 165 => 95 | 166 => 96 | 169 => 97 | 171 => 71 | 207 => 193 | 209 => 161 | 212 => 174 | 217 => 213 | 219 => 210 | 224 => 215 | 225 => 214 | 240 => 149 | 241 => 150 | 243 => 116 | 246 => 160 | 263 => 198 | 264 => 199 | 266 => 217 | 267 => 216 | 276 => 187 | 277 => 188 | 283 => 189 | 284 => 190 | 285 => 191 | 286 => 192 | 314 => 218 | 317 => 205 | 318 => 207 | 319 => 208 | 320 => 209 | 337 => 211 | 338 => 212 | 347 => 219 | 348 => 220 | 349 => 221 | 350 => 222 | 351 => 223 | 352 => 224 | 353 => 225 | 354 => 226 | 355 => 227 | 356 => 228 | 357 => 229 | 358 => 230 | 359 => 231 | 360 => 232 | 361 => 233 | 362 => 235 | 366 => 236 | 367 => 244 | n => n, fun | 0 => 0 | 1 => 1 | 2 => 2 | 3 => 3 | 4 => 4 | 5 => 5 | 6 => 6 | 7 => 7 | 8 => 8 | 9 => 9 | 10 => 10 | 11 => 11 | 12 => 12 | 13 => 13 | 14 => 14 | 15 => 15 | 16 => 16 | 17 => 17 | 18 => 18 | 19 => 19 | 20 => 20 | 21 => 21 | 22 => 183 | 23 => 133 | 24 => 24 | 27 => 199 | 28 => 46 | 31 => 54 | 34 => 52 | 37 => 43 | 38 => 44 | 43 => 141 | 46 => 173 | 47 => 203 | 51 => 193 | 52 => 204 | 53 => 97 | 54 => 188 | 55 => 205 | 67 => 79 | 69 => 95 | 70 => 119 | 71 => 120 | 72 => 121 | 73 => 122 | 74 => 123 | 75 => 124 | 76 => 125 | 77 => 126 | 80 => 127 | 81 => 171 | 83 => 94 | 84 => 164 | 101 => 65 | 102 => 62 | 104 => 138 | 109 => 174 | 110 => 175 | 111 => 142 | 112 => 170 | 114 => 143 | 127 => 158 | 146 => 194 | 147 => 195 | 148 => 196 | 149 => 197 | 151 => 208 | 164 => 184 | 165 => 185 | 166 => 186 | 171 => 187 | 172 => 189 | 173 => 190 | 174 => 191 | 211 => 200 | 212 => 201 | 213 => 202 | 232 => 206 | 233 => 207 | 238 => 209 | 239 => 210 | 240 => 211 | 241 => 212 | 242 => 213 | 243 => 214 | 244 => 215 | 245 => 216 | 246 => 217 | 247 => 218 | 248 => 219 | 249 => 220 | n => n, fun | 1 => 1 | 17 => 2 | 18 => 3 | 19 => 4 | n => n⟩
theorem lays_strings_Contains : Go.Proofs.Lays.n144 Tryd.prog lays_strings_Contains_ren where
  mixed := by kernel_rfl
  f143 := Tryd.func204.trans (congrArg some (by kernel_rfl))
  f144 := Tryd.func185.trans (congrArg some (by kernel_rfl))
  f217 := Tryd.func213.trans (congrArg some (by kernel_rfl))
  f219 := Tryd.func210.trans (congrArg some (by kernel_rfl))
  f224 := Tryd.func215.trans (congrArg some (by kernel_rfl))
  f225 := Tryd.func214.trans (congrArg some (by kernel_rfl))
  f266 := Tryd.func217.trans (congrArg some (by kernel_rfl))
  f267 := Tryd.func216.trans (congrArg some (by kernel_rfl))
  f314 := Tryd.func218.trans (congrArg some (by kernel_rfl))
  t3 := Tryd.underlying3
  a3 := Tryd.isAgg3
  z3 := Tryd.sizeOf3
  v3 := Tryd.zeroValue3
  t4 := Tryd.underlying4
  a4 := Tryd.isAgg4
  z4 := Tryd.sizeOf4
  v4 := Tryd.zeroValue4
  t5 := Tryd.underlying5
  a5 := Tryd.isAgg5
  z5 := Tryd.sizeOf5
  v5 := Tryd.zeroValue5
  t9 := Tryd.underlying9
  a9 := Tryd.isAgg9
  z9 := Tryd.sizeOf9
  v9 := Tryd.zeroValue9
  t46 := Tryd.underlying173
  a46 := Tryd.isAgg173
  z46 := Tryd.sizeOf173
  v46 := Tryd.zeroValue173
  t51 := Tryd.underlying193
  a51 := Tryd.isAgg193
  z51 := Tryd.sizeOf193
  v51 := Tryd.zeroValue193
  t146 := Tryd.underlying194
  a146 := Tryd.isAgg194
  z146 := Tryd.sizeOf194
  v146 := Tryd.zeroValue194
  g1 := by kernel_rfl
noncomputable def f_strings_Contains (t0 : PV .str) (t1 : PV .str) : Option (PVs [.bool] × PVs []) := Go.Dn.containsF t0 t1
noncomputable def ct_strings_Contains : Ct := ⟨[(.bor, .str), (.bor, .str)], [(.bool, false)], fun x => f_strings_Contains x.1 x.2.1⟩
theorem ok_strings_Contains : FnOk gl Tryd.prog 185 ct_strings_Contains := Go.Dn.contains_ok  lays_strings_Contains
noncomputable def pl_L_szRow : Plan := ⟨[], [], 0, 0⟩
noncomputable def f_L_szRow (t0 : PV Y_impl_Row) (t1 : PV (.int .i64)) : Option (PVs [(.int .i64)] × PVs []) :=
  bif (decide ((IntKind.wrap .i64 (t1 - (t0.2.1.length : Int))) < 0)) then
    some (((-1), ()), ())
  else
    some (((IntKind.wrap .i64 (t1 - (t0.2.1.length : Int))), ()), ())
noncomputable def ct_L_szRow : Ct := ⟨[(.bor, Y_impl_Row), (.bor, (.int .i64))], [((.int .i64), false)], fun x => f_L_szRow x.1 x.2.1⟩
noncomputable def cx_L_szRow : Cx := ⟨tab, arrs, [], [], gl⟩
theorem ef_L_szRow (t0 : PV Y_impl_Row) (t1 : PV (.int .i64)) : denF cx_L_szRow 0 pl_L_szRow Tryd.f151.ntmps (bodyOf Tryd.f151) Tryd.f151.results.toList [(.bor, Y_impl_Row), (.bor, (.int .i64))] [((.int .i64), false)] (t0, t1, ()) = f_L_szRow t0 t1 := by kernel_rfl
theorem ok_L_szRow : FnOk gl Tryd.prog 151 ct_L_szRow :=
  fnOk (cx := cx_L_szRow) (pl := pl_L_szRow) (dp := 0) (ok0_of tabOk (by unfold ArrOk; kernel_rfl) mix trivial trivial) Tryd.func151 (by kernel_rfl) (by kernel_rfl) (by kernel_rfl)
    (by rw [show loopsOf (bodyOf Tryd.f151) = [] from by kernel_rfl]; exact trivial) (fun x => ef_L_szRow x.1 x.2.1)
noncomputable def sh_L_szRowS_5 : List Sh := mkSh 27 [(0, .val S_laws_Row .b), (1, .val (.int .i64) .b), (5, .val (.int .i64) .b)]
noncomputable def o_L_szRowS_5 : List Out := [⟨.exit 0, ⟨[], [1]⟩, mkSh 27 [(1, .val (.int .i64) .b)]⟩, ⟨.ret, ⟨[], [4]⟩, mkSh 27 [(4, .val (.int .i64) .b)]⟩]
noncomputable def b_L_szRowS_5 (t0 : PV S_laws_Row) (t1 : PV (.int .i64)) (t5 : PV (.int .i64)) : Option ((PV S_laws_Row × PV (.int .i64) × PV (.int .i64) × Unit) ⊕ ((PV (.int .i64) × Unit) ⊕ (PV (.int .i64) × Unit))) :=
  bif (decide (t5 < (t0.length : Int))) then
    bif inB t5 t0.length then
      (f_L_szRow (t0.getD t5.toNat (dflt Y_impl_Row)) t1).bind fun r4 =>
        bif (decide (r4.1.1 < 0)) then
          some (.inr (.inr ((-1), ())))
        else
          some (.inl (t0, r4.1.1, (IntKind.wrap .i64 (t5 + 1)), ()))
    else
      none
  else
    some (.inr (.inl (t1, ())))
noncomputable def w_L_szRowS_5 : PV S_laws_Row × PV (.int .i64) × PV (.int .i64) × Unit → Option ((PV (.int .i64) × Unit) ⊕ (PV (.int .i64) × Unit)) := fix fun d => b_L_szRowS_5 d.1 d.2.1 d.2.2.1
noncomputable def lp_L_szRowS_5 : Lp := ⟨⟨[], [0, 1, 5]⟩, sh_L_szRowS_5, o_L_szRowS_5, fun d => b_L_szRowS_5 d.1 d.2.1 d.2.2.1⟩
noncomputable def pl_L_szRowS : Plan := ⟨[], [(5, lp_L_szRowS_5)], 0, 0⟩
noncomputable def f_L_szRowS (t0 : PV S_laws_Row) (t1 : PV (.int .i64)) : Option (PVs [(.int .i64)] × PVs []) :=
  bif (decide ((IntKind.wrap .i64 (t1 - (t0.length : Int))) < 0)) then
    some (((-1), ()), ())
  else
    (w_L_szRowS_5 (t0, (IntKind.wrap .i64 (t1 - (t0.length : Int))), 0, ())).bind fun x9 =>
      match x9 with
      | .inl l7 =>
        some ((l7.1, ()), ())
      | .inr l8 =>
        some ((l8.1, ()), ())
noncomputable def ct_L_szRowS : Ct := ⟨[(.bor, S_laws_Row), (.bor, (.int .i64))], [((.int .i64), false)], fun x => f_L_szRowS x.1 x.2.1⟩
noncomputable def cx_L_szRowS : Cx := ⟨tab, arrs, [(151, ct_L_szRow)], [], gl⟩
theorem eb_L_szRowS_5 (t0 : PV S_laws_Row) (t1 : PV (.int .i64)) (t5 : PV (.int .i64)) : denK cx_L_szRowS (rcN cx_L_szRowS 0) pl_L_szRowS 0 ((loopsOf (bodyOf Tryd.f98)).getD 0 .skip) (fillS sh_L_szRowS_5 (t0, t1, t5, ())) (roundK 0 lp_L_szRowS_5) = b_L_szRowS_5 t0 t1 t5 := by kernel_rfl
theorem ef_L_szRowS (t0 : PV S_laws_Row) (t1 : PV (.int .i64)) : denF cx_L_szRowS 0 pl_L_szRowS Tryd.f98.ntmps (bodyOf Tryd.f98) Tryd.f98.results.toList [(.bor, S_laws_Row), (.bor, (.int .i64))] [((.int .i64), false)] (t0, t1, ()) = f_L_szRowS t0 t1 := by kernel_rfl
theorem ok_L_szRowS : FnOk gl Tryd.prog 98 ct_L_szRowS :=
  fnOk (cx := cx_L_szRowS) (pl := pl_L_szRowS) (dp := 0) (ok0_of tabOk (by unfold ArrOk; kernel_rfl) mix ⟨ok_L_szRow, trivial⟩ trivial) Tryd.func98 (by kernel_rfl) (by kernel_rfl) (by kernel_rfl)
    (by rw [show loopsOf (bodyOf Tryd.f98) = [((loopsOf (bodyOf Tryd.f98)).getD 0 .skip)] from by kernel_rfl]; exact ⟨(by rw [show lookup pl_L_szRowS.loops (firstId ((loopsOf (bodyOf Tryd.f98)).getD 0 .skip)) = some lp_L_szRowS_5 from by kernel_rfl]; exact fun d z h => (eb_L_szRowS_5 d.1 d.2.1 d.2.2.1).trans h), trivial⟩) (fun x => ef_L_szRowS x.1 x.2.1)
noncomputable def pl_L_szGroup : Plan := ⟨[], [], 0, 0⟩
noncomputable def f_L_szGroup (t0 : PV Y_laws_Group) (t1 : PV (.int .i64)) : Option (PVs [(.int .i64)] × PVs []) :=
  (f_L_szRowS t0.2.2.1 t1).bind fun r2 =>
    bif (decide (r2.1.1 < 0)) then
      some (((-1), ()), ())
    else
      some ((r2.1.1, ()), ())
noncomputable def ct_L_szGroup : Ct := ⟨[(.bor, Y_laws_Group), (.bor, (.int .i64))], [((.int .i64), false)], fun x => f_L_szGroup x.1 x.2.1⟩
noncomputable def cx_L_szGroup : Cx := ⟨tab, arrs, [(98, ct_L_szRowS)], [], gl⟩
theorem ef_L_szGroup (t0 : PV Y_laws_Group) (t1 : PV (.int .i64)) : denF cx_L_szGroup 0 pl_L_szGroup Tryd.f60.ntmps (bodyOf Tryd.f60) Tryd.f60.results.toList [(.bor, Y_laws_Group), (.bor, (.int .i64))] [((.int .i64), false)] (t0, t1, ()) = f_L_szGroup t0 t1 := by kernel_rfl
theorem ok_L_szGroup : FnOk gl Tryd.prog 60 ct_L_szGroup :=
  fnOk (cx := cx_L_szGroup) (pl := pl_L_szGroup) (dp := 0) (ok0_of tabOk (by unfold ArrOk; kernel_rfl) mix ⟨ok_L_szRowS, trivial⟩ trivial) Tryd.func60 (by kernel_rfl) (by kernel_rfl) (by kernel_rfl)
    (by rw [show loopsOf (bodyOf Tryd.f60) = [] from by kernel_rfl]; exact trivial) (fun x => ef_L_szGroup x.1 x.2.1)
noncomputable def sh_L_szGroupS_5 : List Sh := mkSh 27 [(0, .val S_laws_Group .b), (1, .val (.int .i64) .b), (5, .val (.int .i64) .b)]
noncomputable def o_L_szGroupS_5 : List Out := [⟨.exit 0, ⟨[], [1]⟩, mkSh 27 [(1, .val (.int .i64) .b)]⟩, ⟨.ret, ⟨[], [4]⟩, mkSh 27 [(4, .val (.int .i64) .b)]⟩]
noncomputable def b_L_szGroupS_5 (t0 : PV S_laws_Group) (t1 : PV (.int .i64)) (t5 : PV (.int .i64)) : Option ((PV S_laws_Group × PV (.int .i64) × PV (.int .i64) × Unit) ⊕ ((PV (.int .i64) × Unit) ⊕ (PV (.int .i64) × Unit))) :=
  bif (decide (t5 < (t0.length : Int))) then
    bif inB t5 t0.length then
      (f_L_szGroup (t0.getD t5.toNat (dflt Y_laws_Group)) t1).bind fun r4 =>
        bif (decide (r4.1.1 < 0)) then
          some (.inr (.inr ((-1), ())))
        else
          some (.inl (t0, r4.1.1, (IntKind.wrap .i64 (t5 + 1)), ()))
    else
      none
  else
    some (.inr (.inl (t1, ())))
noncomputable def w_L_szGroupS_5 : PV S_laws_Group × PV (.int .i64) × PV (.int .i64) × Unit → Option ((PV (.int .i64) × Unit) ⊕ (PV (.int .i64) × Unit)) := fix fun d => b_L_szGroupS_5 d.1 d.2.1 d.2.2.1
noncomputable def lp_L_szGroupS_5 : Lp := ⟨⟨[], [0, 1, 5]⟩, sh_L_szGroupS_5, o_L_szGroupS_5, fun d => b_L_szGroupS_5 d.1 d.2.1 d.2.2.1⟩
noncomputable def pl_L_szGroupS : Plan := ⟨[], [(5, lp_L_szGroupS_5)], 0, 0⟩
noncomputable def f_L_szGroupS (t0 : PV S_laws_Group) (t1 : PV (.int .i64)) : Option (PVs [(.int .i64)] × PVs []) :=
  bif (decide ((IntKind.wrap .i64 (t1 - (t0.length : Int))) < 0)) then
    some (((-1), ()), ())
  else
    (w_L_szGroupS_5 (t0, (IntKind.wrap .i64 (t1 - (t0.length : Int))), 0, ())).bind fun x9 =>
      match x9 with
      | .inl l7 =>
        some ((l7.1, ()), ())
      | .inr l8 =>
        some ((l8.1, ()), ())
noncomputable def ct_L_szGroupS : Ct := ⟨[(.bor, S_laws_Group), (.bor, (.int .i64))], [((.int .i64), false)], fun x => f_L_szGroupS x.1 x.2.1⟩
noncomputable def cx_L_szGroupS : Cx := ⟨tab, arrs, [(60, ct_L_szGroup)], [], gl⟩
theorem eb_L_szGroupS_5 (t0 : PV S_laws_Group) (t1 : PV (.int .i64)) (t5 : PV (.int .i64)) : denK cx_L_szGroupS (rcN cx_L_szGroupS 0) pl_L_szGroupS 0 ((loopsOf (bodyOf Tryd.f16)).getD 0 .skip) (fillS sh_L_szGroupS_5 (t0, t1, t5, ())) (roundK 0 lp_L_szGroupS_5) = b_L_szGroupS_5 t0 t1 t5 := by kernel_rfl
theorem ef_L_szGroupS (t0 : PV S_laws_Group) (t1 : PV (.int .i64)) : denF cx_L_szGroupS 0 pl_L_szGroupS Tryd.f16.ntmps (bodyOf Tryd.f16) Tryd.f16.results.toList [(.bor, S_laws_Group), (.bor, (.int .i64))] [((.int .i64), false)] (t0, t1, ()) = f_L_szGroupS t0 t1 := by kernel_rfl
theorem ok_L_szGroupS : FnOk gl Tryd.prog 16 ct_L_szGroupS :=
  fnOk (cx := cx_L_szGroupS) (pl := pl_L_szGroupS) (dp := 0) (ok0_of tabOk (by unfold ArrOk; kernel_rfl) mix ⟨ok_L_szGroup, trivial⟩ trivial) Tryd.func16 (by kernel_rfl) (by kernel_rfl) (by kernel_rfl)
    (by rw [show loopsOf (bodyOf Tryd.f16) = [((loopsOf (bodyOf Tryd.f16)).getD 0 .skip)] from by kernel_rfl]; exact ⟨(by rw [show lookup pl_L_szGroupS.loops (firstId ((loopsOf (bodyOf Tryd.f16)).getD 0 .skip)) = some lp_L_szGroupS_5 from by kernel_rfl]; exact fun d z h => (eb_L_szGroupS_5 d.1 d.2.1 d.2.2.1).trans h), trivial⟩) (fun x => ef_L_szGroupS x.1 x.2.1)
noncomputable def pl_L_toRow : Plan := ⟨[], [], 0, 0⟩
noncomputable def f_L_toRow (t0 : PV Y_impl_Row) : Option (PVs [Y_impl_Row] × PVs []) :=
  some (((t0.1, (t0.2.1, ())), ()), ())
noncomputable def ct_L_toRow : Ct := ⟨[(.bor, Y_impl_Row)], [(Y_impl_Row, false)], fun x => f_L_toRow x.1⟩
noncomputable def cx_L_toRow : Cx := ⟨tab, arrs, [], [], gl⟩
theorem ef_L_toRow (t0 : PV Y_impl_Row) : denF cx_L_toRow 0 pl_L_toRow Tryd.f155.ntmps (bodyOf Tryd.f155) Tryd.f155.results.toList [(.bor, Y_impl_Row)] [(Y_impl_Row, false)] (t0, ()) = f_L_toRow t0 := by kernel_rfl
theorem ok_L_toRow : FnOk gl Tryd.prog 155 ct_L_toRow :=
  fnOk (cx := cx_L_toRow) (pl := pl_L_toRow) (dp := 0) (ok0_of tabOk (by unfold ArrOk; kernel_rfl) mix trivial trivial) Tryd.func155 (by kernel_rfl) (by kernel_rfl) (by kernel_rfl)
    (by rw [show loopsOf (bodyOf Tryd.f155) = [] from by kernel_rfl]; exact trivial) (fun x => ef_L_toRow x.1)
noncomputable def sh_L_toRowS_3 : List Sh := mkSh 23 [(0, .val S_laws_Row .b), (3, .val S_impl_Row (.row (.pr .b (.pr .b .b)))), (4, .val (.int .i64) .b)]
noncomputable def o_L_toRowS_3 : List Out := [⟨.exit 0, ⟨[], [3]⟩, mkSh 23 [(3, .val S_impl_Row (.row (.pr .b (.pr .b .b))))]⟩]
noncomputable def b_L_toRowS_3 (t0 : PV S_laws_Row) (t3 : PV S_impl_Row) (t4 : PV (.int .i64)) : Option ((PV S_laws_Row × PV S_impl_Row × PV (.int .i64) × Unit) ⊕ ((PV S_impl_Row × Unit))) :=
  bif (decide (t4 < (t0.length : Int))) then
    bif inB t4 t0.length then
      (f_L_toRow (t0.getD t4.toNat (dflt Y_impl_Row))).bind fun r2 =>
        bif inB t4 t3.length then
          some (.inl (t0, (t3.set t4.toNat r2.1.1), (IntKind.wrap .i64 (t4 + 1)), ()))
        else
          none
    else
      none
  else
    some (.inr (t3, ()))
noncomputable def w_L_toRowS_3 : PV S_laws_Row × PV S_impl_Row × PV (.int .i64) × Unit → Option ((PV S_impl_Row × Unit)) := fix fun d => b_L_toRowS_3 d.1 d.2.1 d.2.2.1
noncomputable def lp_L_toRowS_3 : Lp := ⟨⟨[], [0, 3, 4]⟩, sh_L_toRowS_3, o_L_toRowS_3, fun d => b_L_toRowS_3 d.1 d.2.1 d.2.2.1⟩
noncomputable def pl_L_toRowS : Plan := ⟨[], [(3, lp_L_toRowS_3)], 0, 0⟩
noncomputable def f_L_toRowS (t0 : PV S_laws_Row) : Option (PVs [S_impl_Row] × PVs []) :=
  bif decide (0 ≤ (t0.length : Int)) && (decide ((t0.length : Int) ≤ (t0.length : Int)) && roomB (t0.length : Int).toNat) then
    (w_L_toRowS_3 (t0, (List.replicate (t0.length : Int).toNat (dflt Y_impl_Row)), 0, ())).bind fun l4 =>
      some ((l4.1, ()), ())
  else
    none
noncomputable def ct_L_toRowS : Ct := ⟨[(.bor, S_laws_Row)], [(S_impl_Row, true)], fun x => f_L_toRowS x.1⟩
noncomputable def cx_L_toRowS : Cx := ⟨tab, arrs, [(155, ct_L_toRow)], [], gl⟩
theorem eb_L_toRowS_3 (t0 : PV S_laws_Row) (t3 : PV S_impl_Row) (t4 : PV (.int .i64)) : denK cx_L_toRowS (rcN cx_L_toRowS 0) pl_L_toRowS 0 ((loopsOf (bodyOf Tryd.f105)).getD 0 .skip) (fillS sh_L_toRowS_3 (t0, t3, t4, ())) (roundK 0 lp_L_toRowS_3) = b_L_toRowS_3 t0 t3 t4 := by kernel_rfl
theorem ef_L_toRowS (t0 : PV S_laws_Row) : denF cx_L_toRowS 0 pl_L_toRowS Tryd.f105.ntmps (bodyOf Tryd.f105) Tryd.f105.results.toList [(.bor, S_laws_Row)] [(S_impl_Row, true)] (t0, ()) = f_L_toRowS t0 := by kernel_rfl
theorem ok_L_toRowS : FnOk gl Tryd.prog 105 ct_L_toRowS :=
  fnOk (cx := cx_L_toRowS) (pl := pl_L_toRowS) (dp := 0) (ok0_of tabOk (by unfold ArrOk; kernel_rfl) mix ⟨ok_L_toRow, trivial⟩ trivial) Tryd.func105 (by kernel_rfl) (by kernel_rfl) (by kernel_rfl)
    (by rw [show loopsOf (bodyOf Tryd.f105) = [((loopsOf (bodyOf Tryd.f105)).getD 0 .skip)] from by kernel_rfl]; exact ⟨(by rw [show lookup pl_L_toRowS.loops (firstId ((loopsOf (bodyOf Tryd.f105)).getD 0 .skip)) = some lp_L_toRowS_3 from by kernel_rfl]; exact fun d z h => (eb_L_toRowS_3 d.1 d.2.1 d.2.2.1).trans h), trivial⟩) (fun x => ef_L_toRowS x.1)
noncomputable def pl_L_toGroup : Plan := ⟨[], [], 0, 0⟩
noncomputable def f_L_toGroup (t0 : PV Y_laws_Group) : Option (PVs [Y_impl_Group] × PVs []) :=
  (f_L_toRowS t0.2.2.1).bind fun r2 =>
    some (((t0.1, (t0.2.1, (r2.1.1, ()))), ()), ())
noncomputable def ct_L_toGroup : Ct := ⟨[(.bor, Y_laws_Group)], [(Y_impl_Group, true)], fun x => f_L_toGroup x.1⟩
noncomputable def cx_L_toGroup : Cx := ⟨tab, arrs, [(105, ct_L_toRowS)], [], gl⟩
theorem ef_L_toGroup (t0 : PV Y_laws_Group) : denF cx_L_toGroup 0 pl_L_toGroup Tryd.f63.ntmps (bodyOf Tryd.f63) Tryd.f63.results.toList [(.bor, Y_laws_Group)] [(Y_impl_Group, true)] (t0, ()) = f_L_toGroup t0 := by kernel_rfl
theorem ok_L_toGroup : FnOk gl Tryd.prog 63 ct_L_toGroup :=
  fnOk (cx := cx_L_toGroup) (pl := pl_L_toGroup) (dp := 0) (ok0_of tabOk (by unfold ArrOk; kernel_rfl) mix ⟨ok_L_toRowS, trivial⟩ trivial) Tryd.func63 (by kernel_rfl) (by kernel_rfl) (by kernel_rfl)
    (by rw [show loopsOf (bodyOf Tryd.f63) = [] from by kernel_rfl]; exact trivial) (fun x => ef_L_toGroup x.1)
noncomputable def sh_L_toGroupS_3 : List Sh := mkSh 23 [(0, .val S_laws_Group .b), (3, .val S_impl_Group (.row (.pr .b (.pr .b (.pr (.row (.pr .b (.pr .b .b))) .b))))), (4, .val (.int .i64) .b)]
noncomputable def o_L_toGroupS_3 : List Out := [⟨.exit 0, ⟨[], [3]⟩, mkSh 23 [(3, .val S_impl_Group (.row (.pr .b (.pr .b (.pr (.row (.pr .b (.pr .b .b))) .b)))))]⟩]
noncomputable def b_L_toGroupS_3 (t0 : PV S_laws_Group) (t3 : PV S_impl_Group) (t4 : PV (.int .i64)) : Option ((PV S_laws_Group × PV S_impl_Group × PV (.int .i64) × Unit) ⊕ ((PV S_impl_Group × Unit))) :=
  bif (decide (t4 < (t0.length : Int))) then
    bif inB t4 t0.length then
      (f_L_toGroup (t0.getD t4.toNat (dflt Y_laws_Group))).bind fun r2 =>
        bif inB t4 t3.length then
          some (.inl (t0, (t3.set t4.toNat r2.1.1), (IntKind.wrap .i64 (t4 + 1)), ()))
        else
          none
    else
      none
  else
    some (.inr (t3, ()))
noncomputable def w_L_toGroupS_3 : PV S_laws_Group × PV S_impl_Group × PV (.int .i64) × Unit → Option ((PV S_impl_Group × Unit)) := fix fun d => b_L_toGroupS_3 d.1 d.2.1 d.2.2.1
noncomputable def lp_L_toGroupS_3 : Lp := ⟨⟨[], [0, 3, 4]⟩, sh_L_toGroupS_3, o_L_toGroupS_3, fun d => b_L_toGroupS_3 d.1 d.2.1 d.2.2.1⟩
noncomputable def pl_L_toGroupS : Plan := ⟨[], [(3, lp_L_toGroupS_3)], 0, 0⟩
noncomputable def f_L_toGroupS (t0 : PV S_laws_Group) : Option (PVs [S_impl_Group] × PVs []) :=
  bif decide (0 ≤ (t0.length : Int)) && (decide ((t0.length : Int) ≤ (t0.length : Int)) && roomB (t0.length : Int).toNat) then
    (w_L_toGroupS_3 (t0, (List.replicate (t0.length : Int).toNat (dflt Y_impl_Group)), 0, ())).bind fun l4 =>
      some ((l4.1, ()), ())
  else
    none
noncomputable def ct_L_toGroupS : Ct := ⟨[(.bor, S_laws_Group)], [(S_impl_Group, true)], fun x => f_L_toGroupS x.1⟩
noncomputable def cx_L_toGroupS : Cx := ⟨tab, arrs, [(63, ct_L_toGroup)], [], gl⟩
theorem eb_L_toGroupS_3 (t0 : PV S_laws_Group) (t3 : PV S_impl_Group) (t4 : PV (.int .i64)) : denK cx_L_toGroupS (rcN cx_L_toGroupS 0) pl_L_toGroupS 0 ((loopsOf (bodyOf Tryd.f18)).getD 0 .skip) (fillS sh_L_toGroupS_3 (t0, t3, t4, ())) (roundK 0 lp_L_toGroupS_3) = b_L_toGroupS_3 t0 t3 t4 := by kernel_rfl
theorem ef_L_toGroupS (t0 : PV S_laws_Group) : denF cx_L_toGroupS 0 pl_L_toGroupS Tryd.f18.ntmps (bodyOf Tryd.f18) Tryd.f18.results.toList [(.bor, S_laws_Group)] [(S_impl_Group, true)] (t0, ()) = f_L_toGroupS t0 := by kernel_rfl
theorem ok_L_toGroupS : FnOk gl Tryd.prog 18 ct_L_toGroupS :=
  fnOk (cx := cx_L_toGroupS) (pl := pl_L_toGroupS) (dp := 0) (ok0_of tabOk (by unfold ArrOk; kernel_rfl) mix ⟨ok_L_toGroup, trivial⟩ trivial) Tryd.func18 (by kernel_rfl) (by kernel_rfl) (by kernel_rfl)
    (by rw [show loopsOf (bodyOf Tryd.f18) = [((loopsOf (bodyOf Tryd.f18)).getD 0 .skip)] from by kernel_rfl]; exact ⟨(by rw [show lookup pl_L_toGroupS.loops (firstId ((loopsOf (bodyOf Tryd.f18)).getD 0 .skip)) = some lp_L_toGroupS_3 from by kernel_rfl]; exact fun d z h => (eb_L_toGroupS_3 d.1 d.2.1 d.2.2.1).trans h), trivial⟩) (fun x => ef_L_toGroupS x.1)
noncomputable def pl_S_l1In : Plan := ⟨[], [], 0, 0⟩
noncomputable def f_S_l1In (t0 : PV (.int .i64)) (t1 : PV (.int .i64)) (t2 : PV (.int .i64)) : Option (PVs [.bool] × PVs []) :=
  bif (decide (t0 ≥ t1)) then
    some (((decide (t0 ≤ t2)), ()), ())
  else
    some ((false, ()), ())
noncomputable def ct_S_l1In : Ct := ⟨[(.bor, (.int .i64)), (.bor, (.int .i64)), (.bor, (.int .i64))], [(.bool, false)], fun x => f_S_l1In x.1 x.2.1 x.2.2.1⟩
noncomputable def cx_S_l1In : Cx := ⟨tab, arrs, [], [], gl⟩
theorem ef_S_l1In (t0 : PV (.int .i64)) (t1 : PV (.int .i64)) (t2 : PV (.int .i64)) : denF cx_S_l1In 0 pl_S_l1In Tryd.f114.ntmps (bodyOf Tryd.f114) Tryd.f114.results.toList [(.bor, (.int .i64)), (.bor, (.int .i64)), (.bor, (.int .i64))] [(.bool, false)] (t0, t1, t2, ()) = f_S_l1In t0 t1 t2 := by kernel_rfl
theorem ok_S_l1In : FnOk gl Tryd.prog 114 ct_S_l1In :=
  fnOk (cx := cx_S_l1In) (pl := pl_S_l1In) (dp := 0) (ok0_of tabOk (by unfold ArrOk; kernel_rfl) mix trivial trivial) Tryd.func114 (by kernel_rfl) (by kernel_rfl) (by kernel_rfl)
    (by rw [show loopsOf (bodyOf Tryd.f114) = [] from by kernel_rfl]; exact trivial) (fun x => ef_S_l1In x.1 x.2.1 x.2.2.1)
noncomputable def sh_S_l1Line_2 : List Sh := mkSh 18 [(0, .val .str .b), (3, .val (.int .i64) .b)]
noncomputable def o_S_l1Line_2 : List Out := [⟨.exit 0, ⟨[], [0]⟩, mkSh 18 [(0, .val .str .b)]⟩, ⟨.ret, ⟨[], [2]⟩, mkSh 18 [(2, .val .bool .b)]⟩]
noncomputable def b_S_l1Line_2 (t0 : PV .str) (t3 : PV (.int .i64)) : Option ((PV .str × PV (.int .i64) × Unit) ⊕ ((PV .str × Unit) ⊕ (PV .bool × Unit))) :=
  bif (decide (t3 < (IntKind.wrap .i64 ((t0.length : Int) - 1)))) then
    bif inB t3 t0.length then
      bif (((t0.getD t3.toNat 0).toNat : Int) == 10) then
        some (.inr (.inr (false, ())))
      else
        some (.inl (t0, (IntKind.wrap .i64 (t3 + 1)), ()))
    else
      none
  else
    some (.inr (.inl (t0, ())))
noncomputable def w_S_l1Line_2 : PV .str × PV (.int .i64) × Unit → Option ((PV .str × Unit) ⊕ (PV .bool × Unit)) := fix fun d => b_S_l1Line_2 d.1 d.2.1
noncomputable def lp_S_l1Line_2 : Lp := ⟨⟨[], [0, 3]⟩, sh_S_l1Line_2, o_S_l1Line_2, fun d => b_S_l1Line_2 d.1 d.2.1⟩
noncomputable def pl_S_l1Line : Plan := ⟨[], [(2, lp_S_l1Line_2)], 0, 0⟩
noncomputable def f_S_l1Line (t0 : PV .str) : Option (PVs [.bool] × PVs []) :=
  (w_S_l1Line_2 (t0, 0, ())).bind fun x6 =>
    match x6 with
    | .inl l3 =>
      (f_S_l1In (l3.1.length : Int) 1 30).bind fun r4 =>
        some ((r4.1.1, ()), ())
    | .inr l5 =>
      some ((l5.1, ()), ())
noncomputable def ct_S_l1Line : Ct := ⟨[(.bor, .str)], [(.bool, false)], fun x => f_S_l1Line x.1⟩
noncomputable def cx_S_l1Line : Cx := ⟨tab, arrs, [(114, ct_S_l1In)], [], gl⟩
theorem eb_S_l1Line_2 (t0 : PV .str) (t3 : PV (.int .i64)) : denK cx_S_l1Line (rcN cx_S_l1Line 0) pl_S_l1Line 0 ((loopsOf (bodyOf Tryd.f152)).getD 0 .skip) (fillS sh_S_l1Line_2 (t0, t3, ())) (roundK 0 lp_S_l1Line_2) = b_S_l1Line_2 t0 t3 := by kernel_rfl
theorem ef_S_l1Line (t0 : PV .str) : denF cx_S_l1Line 0 pl_S_l1Line Tryd.f152.ntmps (bodyOf Tryd.f152) Tryd.f152.results.toList [(.bor, .str)] [(.bool, false)] (t0, ()) = f_S_l1Line t0 := by kernel_rfl
theorem ok_S_l1Line : FnOk gl Tryd.prog 152 ct_S_l1Line :=
  fnOk (cx := cx_S_l1Line) (pl := pl_S_l1Line) (dp := 0) (ok0_of tabOk (by unfold ArrOk; kernel_rfl) mix ⟨ok_S_l1In, trivial⟩ trivial) Tryd.func152 (by kernel_rfl) (by kernel_rfl) (by kernel_rfl)
    (by rw [show loopsOf (bodyOf Tryd.f152) = [((loopsOf (bodyOf Tryd.f152)).getD 0 .skip)] from by kernel_rfl]; exact ⟨(by rw [show lookup pl_S_l1Line.loops (firstId ((loopsOf (bodyOf Tryd.f152)).getD 0 .skip)) = some lp_S_l1Line_2 from by kernel_rfl]; exact fun d z h => (eb_S_l1Line_2 d.1 d.2.1).trans h), trivial⟩) (fun x => ef_S_l1Line x.1)
noncomputable def o_S_l6Old_7 : List Out := [⟨.normal, ⟨[], [3, 7, 8, 9]⟩, mkSh 23 [(3, .val S_string (.row .b)), (7, .val S_impl_Row .b), (8, .val (.int .i64) .b), (9, .val (.int .i64) .b)]⟩]
noncomputable def sh_S_l6Old_3 : List Sh := mkSh 23 [(3, .val S_string (.row .b)), (7, .val S_impl_Row .b), (8, .val (.int .i64) .b), (9, .val (.int .i64) .b)]
noncomputable def o_S_l6Old_3 : List Out := [⟨.exit 0, ⟨[], [3]⟩, mkSh 23 [(3, .val S_string (.row .b))]⟩]
noncomputable def b_S_l6Old_3 (t3 : PV S_string) (t7 : PV S_impl_Row) (t8 : PV (.int .i64)) (t9 : PV (.int .i64)) : Option ((PV S_string × PV S_impl_Row × PV (.int .i64) × PV (.int .i64) × Unit) ⊕ ((PV S_string × Unit))) :=
  bif (decide (t9 < t8)) then
    ((
        bif inB t9 t7.length then
          bif (!(((t7.getD t9.toNat (dflt Y_impl_Row)).1) == 3)) then
            bif roomB (t3.length + [((t7.getD t9.toNat (dflt Y_impl_Row)).2).1].length) then
              some ((t3 ++ [((t7.getD t9.toNat (dflt Y_impl_Row)).2).1]), t7, t8, t9, ())
            else
              none
          else
            some (t3, t7, t8, t9, ())
        else
          none : Option ((PV S_string × PV S_impl_Row × PV (.int .i64) × PV (.int .i64) × Unit)))).bind fun j1 =>
      some (.inl (j1.1, j1.2.1, j1.2.2.1, (IntKind.wrap .i64 (j1.2.2.2.1 + 1)), ()))
  else
    some (.inr (t3, ()))
noncomputable def w_S_l6Old_3 : PV S_string × PV S_impl_Row × PV (.int .i64) × PV (.int .i64) × Unit → Option ((PV S_string × Unit)) := fix fun d => b_S_l6Old_3 d.1 d.2.1 d.2.2.1 d.2.2.2.1
noncomputable def lp_S_l6Old_3 : Lp := ⟨⟨[], [3, 7, 8, 9]⟩, sh_S_l6Old_3, o_S_l6Old_3, fun d => b_S_l6Old_3 d.1 d.2.1 d.2.2.1 d.2.2.2.1⟩
noncomputable def pl_S_l6Old : Plan := ⟨[(7, o_S_l6Old_7)], [(3, lp_S_l6Old_3)], 0, 0⟩
noncomputable def f_S_l6Old (t0 : PV Y_impl_Group) : Option (PVs [S_string] × PVs []) :=
  (w_S_l6Old_3 ([], t0.2.2.1, (t0.2.2.1.length : Int), 0, ())).bind fun l3 =>
    some ((l3.1, ()), ())
noncomputable def ct_S_l6Old : Ct := ⟨[(.bor, Y_impl_Group)], [(S_string, true)], fun x => f_S_l6Old x.1⟩
noncomputable def cx_S_l6Old : Cx := ⟨tab, arrs, [], [], gl⟩
theorem eb_S_l6Old_3 (t3 : PV S_string) (t7 : PV S_impl_Row) (t8 : PV (.int .i64)) (t9 : PV (.int .i64)) : denK cx_S_l6Old (rcN cx_S_l6Old 0) pl_S_l6Old 0 ((loopsOf (bodyOf Tryd.f100)).getD 0 .skip) (fillS sh_S_l6Old_3 (t3, t7, t8, t9, ())) (roundK 0 lp_S_l6Old_3) = b_S_l6Old_3 t3 t7 t8 t9 := by kernel_rfl
theorem ef_S_l6Old (t0 : PV Y_impl_Group) : denF cx_S_l6Old 0 pl_S_l6Old Tryd.f100.ntmps (bodyOf Tryd.f100) Tryd.f100.results.toList [(.bor, Y_impl_Group)] [(S_string, true)] (t0, ()) = f_S_l6Old t0 := by kernel_rfl
theorem ok_S_l6Old : FnOk gl Tryd.prog 100 ct_S_l6Old :=
  fnOk (cx := cx_S_l6Old) (pl := pl_S_l6Old) (dp := 0) (ok0_of tabOk (by unfold ArrOk; kernel_rfl) mix trivial trivial) Tryd.func100 (by kernel_rfl) (by kernel_rfl) (by kernel_rfl)
    (by rw [show loopsOf (bodyOf Tryd.f100) = [((loopsOf (bodyOf Tryd.f100)).getD 0 .skip)] from by kernel_rfl]; exact ⟨(by rw [show lookup pl_S_l6Old.loops (firstId ((loopsOf (bodyOf Tryd.f100)).getD 0 .skip)) = some lp_S_l6Old_3 from by kernel_rfl]; exact fun d z h => (eb_S_l6Old_3 d.1 d.2.1 d.2.2.1 d.2.2.2.1).trans h), trivial⟩) (fun x => ef_S_l6Old x.1)
noncomputable def o_S_l6New_7 : List Out := [⟨.normal, ⟨[], [3, 7, 8, 9]⟩, mkSh 23 [(3, .val S_string (.row .b)), (7, .val S_impl_Row .b), (8, .val (.int .i64) .b), (9, .val (.int .i64) .b)]⟩]
noncomputable def sh_S_l6New_3 : List Sh := mkSh 23 [(3, .val S_string (.row .b)), (7, .val S_impl_Row .b), (8, .val (.int .i64) .b), (9, .val (.int .i64) .b)]
noncomputable def o_S_l6New_3 : List Out := [⟨.exit 0, ⟨[], [3]⟩, mkSh 23 [(3, .val S_string (.row .b))]⟩]
noncomputable def b_S_l6New_3 (t3 : PV S_string) (t7 : PV S_impl_Row) (t8 : PV (.int .i64)) (t9 : PV (.int .i64)) : Option ((PV S_string × PV S_impl_Row × PV (.int .i64) × PV (.int .i64) × Unit) ⊕ ((PV S_string × Unit))) :=
  bif (decide (t9 < t8)) then
    ((
        bif inB t9 t7.length then
          bif (!(((t7.getD t9.toNat (dflt Y_impl_Row)).1) == 2)) then
            bif roomB (t3.length + [((t7.getD t9.toNat (dflt Y_impl_Row)).2).1].length) then
              some ((t3 ++ [((t7.getD t9.toNat (dflt Y_impl_Row)).2).1]), t7, t8, t9, ())
            else
              none
          else
            some (t3, t7, t8, t9, ())
        else
          none : Option ((PV S_string × PV S_impl_Row × PV (.int .i64) × PV (.int .i64) × Unit)))).bind fun j1 =>
      some (.inl (j1.1, j1.2.1, j1.2.2.1, (IntKind.wrap .i64 (j1.2.2.2.1 + 1)), ()))
  else
    some (.inr (t3, ()))
noncomputable def w_S_l6New_3 : PV S_string × PV S_impl_Row × PV (.int .i64) × PV (.int .i64) × Unit → Option ((PV S_string × Unit)) := fix fun d => b_S_l6New_3 d.1 d.2.1 d.2.2.1 d.2.2.2.1
noncomputable def lp_S_l6New_3 : Lp := ⟨⟨[], [3, 7, 8, 9]⟩, sh_S_l6New_3, o_S_l6New_3, fun d => b_S_l6New_3 d.1 d.2.1 d.2.2.1 d.2.2.2.1⟩
noncomputable def pl_S_l6New : Plan := ⟨[(7, o_S_l6New_7)], [(3, lp_S_l6New_3)], 0, 0⟩
noncomputable def f_S_l6New (t0 : PV Y_impl_Group) : Option (PVs [S_string] × PVs []) :=
  (w_S_l6New_3 ([], t0.2.2.1, (t0.2.2.1.length : Int), 0, ())).bind fun l3 =>
    some ((l3.1, ()), ())
noncomputable def ct_S_l6New : Ct := ⟨[(.bor, Y_impl_Group)], [(S_string, true)], fun x => f_S_l6New x.1⟩
noncomputable def cx_S_l6New : Cx := ⟨tab, arrs, [], [], gl⟩
theorem eb_S_l6New_3 (t3 : PV S_string) (t7 : PV S_impl_Row) (t8 : PV (.int .i64)) (t9 : PV (.int .i64)) : denK cx_S_l6New (rcN cx_S_l6New 0) pl_S_l6New 0 ((loopsOf (bodyOf Tryd.f101)).getD 0 .skip) (fillS sh_S_l6New_3 (t3, t7, t8, t9, ())) (roundK 0 lp_S_l6New_3) = b_S_l6New_3 t3 t7 t8 t9 := by kernel_rfl
theorem ef_S_l6New (t0 : PV Y_impl_Group) : denF cx_S_l6New 0 pl_S_l6New Tryd.f101.ntmps (bodyOf Tryd.f101) Tryd.f101.results.toList [(.bor, Y_impl_Group)] [(S_string, true)] (t0, ()) = f_S_l6New t0 := by kernel_rfl
theorem ok_S_l6New : FnOk gl Tryd.prog 101 ct_S_l6New :=
  fnOk (cx := cx_S_l6New) (pl := pl_S_l6New) (dp := 0) (ok0_of tabOk (by unfold ArrOk; kernel_rfl) mix trivial trivial) Tryd.func101 (by kernel_rfl) (by kernel_rfl) (by kernel_rfl)
    (by rw [show loopsOf (bodyOf Tryd.f101) = [((loopsOf (bodyOf Tryd.f101)).getD 0 .skip)] from by kernel_rfl]; exact ⟨(by rw [show lookup pl_S_l6New.loops (firstId ((loopsOf (bodyOf Tryd.f101)).getD 0 .skip)) = some lp_S_l6New_3 from by kernel_rfl]; exact fun d z h => (eb_S_l6New_3 d.1 d.2.1 d.2.2.1 d.2.2.2.1).trans h), trivial⟩) (fun x => ef_S_l6New x.1)
noncomputable def pl_S_l1Ends : Plan := ⟨[], [], 0, 0⟩
noncomputable def f_S_l1Ends (t0 : PV .str) : Option (PVs [.bool] × PVs []) :=
  bif inB (IntKind.wrap .i64 ((t0.length : Int) - 1)) t0.length then
    some (((((t0.getD (IntKind.wrap .i64 ((t0.length : Int) - 1)).toNat 0).toNat : Int) == 10), ()), ())
  else
    none
noncomputable def ct_S_l1Ends : Ct := ⟨[(.bor, .str)], [(.bool, false)], fun x => f_S_l1Ends x.1⟩
noncomputable def cx_S_l1Ends : Cx := ⟨tab, arrs, [], [], gl⟩
theorem ef_S_l1Ends (t0 : PV .str) : denF cx_S_l1Ends 0 pl_S_l1Ends Tryd.f115.ntmps (bodyOf Tryd.f115) Tryd.f115.results.toList [(.bor, .str)] [(.bool, false)] (t0, ()) = f_S_l1Ends t0 := by kernel_rfl
theorem ok_S_l1Ends : FnOk gl Tryd.prog 115 ct_S_l1Ends :=
  fnOk (cx := cx_S_l1Ends) (pl := pl_S_l1Ends) (dp := 0) (ok0_of tabOk (by unfold ArrOk; kernel_rfl) mix trivial trivial) Tryd.func115 (by kernel_rfl) (by kernel_rfl) (by kernel_rfl)
    (by rw [show loopsOf (bodyOf Tryd.f115) = [] from by kernel_rfl]; exact trivial) (fun x => ef_S_l1Ends x.1)
noncomputable def o_S_l5Lines_5 : List Out := [⟨.normal, ⟨[], [0, 5, 6, 7, 26]⟩, mkSh 31 [(0, .val S_string .b), (5, .val S_string .b), (6, .val (.int .i64) .b), (7, .val (.int .i64) .b), (26, .val .bool .b)]⟩]
noncomputable def sh_S_l5Lines_2 : List Sh := mkSh 31 [(0, .val S_string .b), (5, .val S_string .b), (6, .val (.int .i64) .b), (7, .val (.int .i64) .b)]
noncomputable def o_S_l5Lines_2 : List Out := [⟨.exit 0, ⟨[], [0]⟩, mkSh 31 [(0, .val S_string .b)]⟩, ⟨.ret, ⟨[], [2]⟩, mkSh 31 [(2, .val .bool .b)]⟩]
noncomputable def b_S_l5Lines_2 (t0 : PV S_string) (t5 : PV S_string) (t6 : PV (.int .i64)) (t7 : PV (.int .i64)) : Option ((PV S_string × PV S_string × PV (.int .i64) × PV (.int .i64) × Unit) ⊕ ((PV S_string × Unit) ⊕ (PV .bool × Unit))) :=
  bif (decide (t7 < t6)) then
    bif inB t7 t5.length then
      ((
          (f_S_l1Line (t5.getD t7.toNat [])).bind fun r4 =>
            bif (!r4.1.1) then
              some (t0, t5, t6, t7, true, ())
            else
              bif (decide (t7 < (IntKind.wrap .i64 ((t0.length : Int) - 1)))) then
                (f_S_l1Ends (t5.getD t7.toNat [])).bind fun r5 =>
                  some (t0, t5, t6, t7, (!r5.1.1), ())
              else
                some (t0, t5, t6, t7, false, ()) : Option ((PV S_string × PV S_string × PV (.int .i64) × PV (.int .i64) × PV .bool × Unit)))).bind fun j6 =>
        bif j6.2.2.2.2.1 then
          some (.inr (.inr (false, ())))
        else
          some (.inl (j6.1, j6.2.1, j6.2.2.1, (IntKind.wrap .i64 (j6.2.2.2.1 + 1)), ()))
    else
      none
  else
    some (.inr (.inl (t0, ())))
noncomputable def w_S_l5Lines_2 : PV S_string × PV S_string × PV (.int .i64) × PV (.int .i64) × Unit → Option ((PV S_string × Unit) ⊕ (PV .bool × Unit)) := fix fun d => b_S_l5Lines_2 d.1 d.2.1 d.2.2.1 d.2.2.2.1
noncomputable def lp_S_l5Lines_2 : Lp := ⟨⟨[], [0, 5, 6, 7, 16, 17, 18, 19, 20, 21, 22, 23, 24, 25]⟩, sh_S_l5Lines_2, o_S_l5Lines_2, fun d => b_S_l5Lines_2 d.1 d.2.1 d.2.2.1 d.2.2.2.1⟩
noncomputable def pl_S_l5Lines : Plan := ⟨[(5, o_S_l5Lines_5)], [(2, lp_S_l5Lines_2)], 0, 0⟩
noncomputable def f_S_l5Lines (t0 : PV S_string) : Option (PVs [.bool] × PVs []) :=
  (w_S_l5Lines_2 (t0, t0, (t0.length : Int), 0, ())).bind fun x11 =>
    match x11 with
    | .inl l9 =>
      some (((decide ((l9.1.length : Int) ≤ 40)), ()), ())
    | .inr l10 =>
      some ((l10.1, ()), ())
noncomputable def ct_S_l5Lines : Ct := ⟨[(.bor, S_string)], [(.bool, false)], fun x => f_S_l5Lines x.1⟩
noncomputable def cx_S_l5Lines : Cx := ⟨tab, arrs, [(115, ct_S_l1Ends), (152, ct_S_l1Line)], [], gl⟩
theorem eb_S_l5Lines_2 (t0 : PV S_string) (t5 : PV S_string) (t6 : PV (.int .i64)) (t7 : PV (.int .i64)) : denK cx_S_l5Lines (rcN cx_S_l5Lines 0) pl_S_l5Lines 0 ((loopsOf (bodyOf Tryd.f153)).getD 0 .skip) (fillS sh_S_l5Lines_2 (t0, t5, t6, t7, ())) (roundK 0 lp_S_l5Lines_2) = b_S_l5Lines_2 t0 t5 t6 t7 := by kernel_rfl
theorem ef_S_l5Lines (t0 : PV S_string) : denF cx_S_l5Lines 0 pl_S_l5Lines Tryd.f153.ntmps (bodyOf Tryd.f153) Tryd.f153.results.toList [(.bor, S_string)] [(.bool, false)] (t0, ()) = f_S_l5Lines t0 := by kernel_rfl
theorem ok_S_l5Lines : FnOk gl Tryd.prog 153 ct_S_l5Lines :=
  fnOk (cx := cx_S_l5Lines) (pl := pl_S_l5Lines) (dp := 0) (ok0_of tabOk (by unfold ArrOk; kernel_rfl) mix ⟨ok_S_l1Ends, ok_S_l1Line, trivial⟩ trivial) Tryd.func153 (by kernel_rfl) (by kernel_rfl) (by kernel_rfl)
    (by rw [show loopsOf (bodyOf Tryd.f153) = [((loopsOf (bodyOf Tryd.f153)).getD 0 .skip)] from by kernel_rfl]; exact ⟨(by rw [show lookup pl_S_l5Lines.loops (firstId ((loopsOf (bodyOf Tryd.f153)).getD 0 .skip)) = some lp_S_l5Lines_2 from by kernel_rfl]; exact fun d z h => (eb_S_l5Lines_2 d.1 d.2.1 d.2.2.1 d.2.2.2.1).trans h), trivial⟩) (fun x => ef_S_l5Lines x.1)
noncomputable def o_S_l6Group_6 : List Out := [⟨.normal, ⟨[], [1, 3, 5, 7, 8, 9, 42, 45, 46, 47, 52, 53, 54, 57, 58, 59, 62, 63, 64, 65, 66, 67, 68, 71, 72, 73, 74, 75, 76, 77, 80, 81, 82, 83, 86, 87, 88, 91, 92, 93]⟩, mkSh 95 [(1, .var Y_impl_Group .b), (3, .val .bool .b), (5, .var Y_impl_Row .b), (7, .val S_impl_Row .b), (8, .val (.int .i64) .b), (9, .val (.int .i64) .b), (42, .val .bool .b)]⟩]
noncomputable def o_S_l6Group_8 : List Out := [⟨.normal, ⟨[], [1, 3, 5, 7, 8, 9, 19, 20, 21, 22, 25, 26, 27, 28, 29, 30, 31, 32, 33, 34, 35, 36, 37, 38, 39, 40, 41, 52, 53, 54, 57, 58, 59, 62, 63, 64, 65, 66, 67, 68, 71, 72, 73, 74, 75, 76, 77, 80, 81, 82, 83, 86, 87, 88, 91, 92, 93]⟩, mkSh 95 [(1, .var Y_impl_Group .b), (3, .val .bool .b), (5, .var Y_impl_Row .b), (7, .val S_impl_Row .b), (8, .val (.int .i64) .b), (9, .val (.int .i64) .b)]⟩, ⟨.ret, ⟨[], [2]⟩, mkSh 95 [(2, .val .bool .b)]⟩]
noncomputable def sh_S_l6Group_3 : List Sh := mkSh 95 [(1, .var Y_impl_Group .b), (3, .val .bool .b), (7, .val S_impl_Row .b), (8, .val (.int .i64) .b), (9, .val (.int .i64) .b)]
noncomputable def o_S_l6Group_3 : List Out := [⟨.exit 0, ⟨[], [1, 3, 52, 53, 54, 57, 58, 59, 62, 63, 64, 65, 66, 67, 68, 71, 72, 73, 74, 75, 76, 77, 80, 81, 82, 83, 86, 87, 88, 91, 92, 93]⟩, mkSh 95 [(1, .var Y_impl_Group .b), (3, .val .bool .b)]⟩, ⟨.ret, ⟨[], [2]⟩, mkSh 95 [(2, .val .bool .b)]⟩]
noncomputable def b_S_l6Group_3 (t1 : PV Y_impl_Group) (t3 : PV .bool) (t7 : PV S_impl_Row) (t8 : PV (.int .i64)) (t9 : PV (.int .i64)) : Option ((PV Y_impl_Group × PV .bool × PV S_impl_Row × PV (.int .i64) × PV (.int .i64) × Unit) ⊕ ((PV Y_impl_Group × PV .bool × Unit) ⊕ (PV .bool × Unit))) :=
  bif (decide (t9 < t8)) then
    ((
        bif inB t9 t7.length then
          ((
              (f_S_l1In ((t7.getD t9.toNat (dflt Y_impl_Row)).1) 1 3).bind fun r4 =>
                bif (!r4.1.1) then
                  some (t1, t3, (t7.getD t9.toNat (dflt Y_impl_Row)), t7, t8, t9, true, ())
                else
                  (f_S_l1Line (((t7.getD t9.toNat (dflt Y_impl_Row)).2).1)).bind fun r5 =>
                    bif (!r5.1.1) then
                      some (t1, t3, (t7.getD t9.toNat (dflt Y_impl_Row)), t7, t8, t9, true, ())
                    else
                      bif (decide (t9 > 0)) then
                        bif (((t7.getD t9.toNat (dflt Y_impl_Row)).1) == 2) then
                          bif inB (IntKind.wrap .i64 (t9 - 1)) t1.2.2.1.length then
                            some (t1, t3, (t7.getD t9.toNat (dflt Y_impl_Row)), t7, t8, t9, (((t1.2.2.1.getD ((IntKind.wrap .i64 (t9 - 1)).toNat) (dflt Y_impl_Row)).1) == 3), ())
                          else
                            none
                        else
                          some (t1, t3, (t7.getD t9.toNat (dflt Y_impl_Row)), t7, t8, t9, false, ())
                      else
                        some (t1, t3, (t7.getD t9.toNat (dflt Y_impl_Row)), t7, t8, t9, false, ()) : Option ((PV Y_impl_Group × PV .bool × PV Y_impl_Row × PV S_impl_Row × PV (.int .i64) × PV (.int .i64) × PV .bool × Unit)))).bind fun j6 =>
            bif j6.2.2.2.2.2.2.1 then
              some (.inr (false, ()))
            else
              bif j6.2.1 then
                some (.inl (j6.1, true, j6.2.2.1, j6.2.2.2.1, j6.2.2.2.2.1, j6.2.2.2.2.2.1, ()))
              else
                some (.inl (j6.1, (!(j6.2.2.1.1 == 1)), j6.2.2.1, j6.2.2.2.1, j6.2.2.2.2.1, j6.2.2.2.2.2.1, ()))
        else
          none : Option ((PV Y_impl_Group × PV .bool × PV Y_impl_Row × PV S_impl_Row × PV (.int .i64) × PV (.int .i64) × Unit) ⊕ (PV .bool × Unit)))).bind fun x21 =>
      match x21 with
      | .inl j7 =>
        some (.inl (j7.1, j7.2.1, j7.2.2.2.1, j7.2.2.2.2.1, (IntKind.wrap .i64 (j7.2.2.2.2.2.1 + 1)), ()))
      | .inr j8 =>
        some (.inr (.inr (j8.1, ())))
  else
    some (.inr (.inl (t1, t3, ())))
noncomputable def w_S_l6Group_3 : PV Y_impl_Group × PV .bool × PV S_impl_Row × PV (.int .i64) × PV (.int .i64) × Unit → Option ((PV Y_impl_Group × PV .bool × Unit) ⊕ (PV .bool × Unit)) := fix fun d => b_S_l6Group_3 d.1 d.2.1 d.2.2.1 d.2.2.2.1 d.2.2.2.2.1
noncomputable def lp_S_l6Group_3 : Lp := ⟨⟨[], [1, 3, 7, 8, 9, 19, 20, 21, 22, 25, 26, 27, 28, 29, 30, 31, 32, 33, 34, 35, 36, 37, 38, 39, 40, 41, 45, 46, 47, 52, 53, 54, 57, 58, 59, 62, 63, 64, 65, 66, 67, 68, 71, 72, 73, 74, 75, 76, 77, 80, 81, 82, 83, 86, 87, 88, 91, 92, 93]⟩, sh_S_l6Group_3, o_S_l6Group_3, fun d => b_S_l6Group_3 d.1 d.2.1 d.2.2.1 d.2.2.2.1 d.2.2.2.2.1⟩
noncomputable def pl_S_l6Group : Plan := ⟨[(6, o_S_l6Group_6), (8, o_S_l6Group_8)], [(3, lp_S_l6Group_3)], 0, 0⟩
noncomputable def f_S_l6Group (t0 : PV Y_impl_Group) : Option (PVs [.bool] × PVs []) :=
  (w_S_l6Group_3 (t0, false, t0.2.2.1, (t0.2.2.1.length : Int), 0, ())).bind fun x22 =>
    match x22 with
    | .inl l11 =>
      bif l11.2.1 then
        (f_S_l1In l11.1.1 0 999).bind fun r12 =>
          bif r12.1.1 then
            (f_S_l1In l11.1.2.1 0 999).bind fun r13 =>
              bif r13.1.1 then
                (f_S_l6Old l11.1).bind fun r14 =>
                  bif (decide ((IntKind.wrap .i64 (l11.1.1 + (r14.1.1.length : Int))) ≤ 1000)) then
                    (f_S_l6New l11.1).bind fun r15 =>
                      bif (decide ((IntKind.wrap .i64 (l11.1.2.1 + (r15.1.1.length : Int))) ≤ 1000)) then
                        bif (decide ((l11.1.2.2.1.length : Int) ≤ 80)) then
                          (f_S_l6Old l11.1).bind fun r16 =>
                            (f_S_l5Lines r16.1.1).bind fun r17 =>
                              bif r17.1.1 then
                                (f_S_l6New l11.1).bind fun r18 =>
                                  (f_S_l5Lines r18.1.1).bind fun r19 =>
                                    some ((r19.1.1, ()), ())
                              else
                                some ((false, ()), ())
                        else
                          some ((false, ()), ())
                      else
                        some ((false, ()), ())
                  else
                    some ((false, ()), ())
              else
                some ((false, ()), ())
          else
            some ((false, ()), ())
      else
        some ((false, ()), ())
    | .inr l20 =>
      some ((l20.1, ()), ())
noncomputable def ct_S_l6Group : Ct := ⟨[(.bor, Y_impl_Group)], [(.bool, false)], fun x => f_S_l6Group x.1⟩
noncomputable def cx_S_l6Group : Cx := ⟨tab, arrs, [(100, ct_S_l6Old), (101, ct_S_l6New), (114, ct_S_l1In), (152, ct_S_l1Line), (153, ct_S_l5Lines)], [], gl⟩
theorem eb_S_l6Group_3 (t1 : PV Y_impl_Group) (t3 : PV .bool) (t7 : PV S_impl_Row) (t8 : PV (.int .i64)) (t9 : PV (.int .i64)) : denK cx_S_l6Group (rcN cx_S_l6Group 0) pl_S_l6Group 0 ((loopsOf (bodyOf Tryd.f99)).getD 0 .skip) (fillS sh_S_l6Group_3 (t1, t3, t7, t8, t9, ())) (roundK 0 lp_S_l6Group_3) = b_S_l6Group_3 t1 t3 t7 t8 t9 := by kernel_rfl
theorem ef_S_l6Group (t0 : PV Y_impl_Group) : denF cx_S_l6Group 0 pl_S_l6Group Tryd.f99.ntmps (bodyOf Tryd.f99) Tryd.f99.results.toList [(.bor, Y_impl_Group)] [(.bool, false)] (t0, ()) = f_S_l6Group t0 := by kernel_rfl
theorem ok_S_l6Group : FnOk gl Tryd.prog 99 ct_S_l6Group :=
  fnOk (cx := cx_S_l6Group) (pl := pl_S_l6Group) (dp := 0) (ok0_of tabOk (by unfold ArrOk; kernel_rfl) mix ⟨ok_S_l6Old, ok_S_l6New, ok_S_l1In, ok_S_l1Line, ok_S_l5Lines, trivial⟩ trivial) Tryd.func99 (by kernel_rfl) (by kernel_rfl) (by kernel_rfl)
    (by rw [show loopsOf (bodyOf Tryd.f99) = [((loopsOf (bodyOf Tryd.f99)).getD 0 .skip)] from by kernel_rfl]; exact ⟨(by rw [show lookup pl_S_l6Group.loops (firstId ((loopsOf (bodyOf Tryd.f99)).getD 0 .skip)) = some lp_S_l6Group_3 from by kernel_rfl]; exact fun d z h => (eb_S_l6Group_3 d.1 d.2.1 d.2.2.1 d.2.2.2.1 d.2.2.2.2.1).trans h), trivial⟩) (fun x => ef_S_l6Group x.1)
noncomputable def o_S_l6Good_7 : List Out := [⟨.normal, ⟨[], [0, 4, 5, 6, 7, 54]⟩, mkSh 59 [(0, .val S_impl_Group .b), (4, .var Y_impl_Group .b), (5, .val S_impl_Group .b), (6, .val (.int .i64) .b), (7, .val (.int .i64) .b), (54, .val .bool .b)]⟩]
noncomputable def sh_S_l6Good_2 : List Sh := mkSh 59 [(0, .val S_impl_Group .b), (5, .val S_impl_Group .b), (6, .val (.int .i64) .b), (7, .val (.int .i64) .b)]
noncomputable def o_S_l6Good_2 : List Out := [⟨.exit 0, ⟨[], [0]⟩, mkSh 59 [(0, .val S_impl_Group .b)]⟩, ⟨.ret, ⟨[], [2]⟩, mkSh 59 [(2, .val .bool .b)]⟩]
noncomputable def b_S_l6Good_2 (t0 : PV S_impl_Group) (t5 : PV S_impl_Group) (t6 : PV (.int .i64)) (t7 : PV (.int .i64)) : Option ((PV S_impl_Group × PV S_impl_Group × PV (.int .i64) × PV (.int .i64) × Unit) ⊕ ((PV S_impl_Group × Unit) ⊕ (PV .bool × Unit))) :=
  bif (decide (t7 < t6)) then
    bif inB t7 t5.length then
      (f_S_l6Group (t5.getD t7.toNat (dflt Y_impl_Group))).bind fun r11 =>
        bif (!r11.1.1) then
          some (.inr (.inr (false, ())))
        else
          ((
              bif (decide (t7 > 0)) then
                bif inB (IntKind.wrap .i64 (t7 - 1)) t0.length then
                  bif inB (IntKind.wrap .i64 (t7 - 1)) t0.length then
                    (f_S_l6Old (t0.getD ((IntKind.wrap .i64 (t7 - 1)).toNat) (dflt Y_impl_Group))).bind fun r12 =>
                      bif (decide (((t5.getD t7.toNat (dflt Y_impl_Group)).1) < (IntKind.wrap .i64 (((t0.getD ((IntKind.wrap .i64 (t7 - 1)).toNat) (dflt Y_impl_Group)).1) + (r12.1.1.length : Int))))) then
                        some (t0, (t5.getD t7.toNat (dflt Y_impl_Group)), t5, t6, t7, true, ())
                      else
                        bif inB (IntKind.wrap .i64 (t7 - 1)) t0.length then
                          bif inB (IntKind.wrap .i64 (t7 - 1)) t0.length then
                            (f_S_l6New (t0.getD ((IntKind.wrap .i64 (t7 - 1)).toNat) (dflt Y_impl_Group))).bind fun r13 =>
                              some (t0, (t5.getD t7.toNat (dflt Y_impl_Group)), t5, t6, t7, (decide ((((t5.getD t7.toNat (dflt Y_impl_Group)).2).1) < (IntKind.wrap .i64 ((((t0.getD ((IntKind.wrap .i64 (t7 - 1)).toNat) (dflt Y_impl_Group)).2).1) + (r13.1.1.length : Int))))), ())
                          else
                            none
                        else
                          none
                  else
                    none
                else
                  none
              else
                some (t0, (t5.getD t7.toNat (dflt Y_impl_Group)), t5, t6, t7, false, ()) : Option ((PV S_impl_Group × PV Y_impl_Group × PV S_impl_Group × PV (.int .i64) × PV (.int .i64) × PV .bool × Unit)))).bind fun j14 =>
            bif j14.2.2.2.2.2.1 then
              some (.inr (.inr (false, ())))
            else
              some (.inl (j14.1, j14.2.2.1, j14.2.2.2.1, (IntKind.wrap .i64 (j14.2.2.2.2.1 + 1)), ()))
    else
      none
  else
    some (.inr (.inl (t0, ())))
noncomputable def w_S_l6Good_2 : PV S_impl_Group × PV S_impl_Group × PV (.int .i64) × PV (.int .i64) × Unit → Option ((PV S_impl_Group × Unit) ⊕ (PV .bool × Unit)) := fix fun d => b_S_l6Good_2 d.1 d.2.1 d.2.2.1 d.2.2.2.1
noncomputable def lp_S_l6Good_2 : Lp := ⟨⟨[], [0, 5, 6, 7, 18, 19, 20, 21, 22, 23, 24, 25, 26, 27, 28, 29, 30, 31, 32, 33, 34, 35, 36, 37, 38, 39, 40, 41, 42, 43, 44, 45, 46, 47, 48, 49, 50, 51, 52, 53]⟩, sh_S_l6Good_2, o_S_l6Good_2, fun d => b_S_l6Good_2 d.1 d.2.1 d.2.2.1 d.2.2.2.1⟩
noncomputable def pl_S_l6Good : Plan := ⟨[(7, o_S_l6Good_7)], [(2, lp_S_l6Good_2)], 0, 0⟩
noncomputable def f_S_l6Good (t0 : PV S_impl_Group) : Option (PVs [.bool] × PVs []) :=
  (w_S_l6Good_2 (t0, t0, (t0.length : Int), 0, ())).bind fun x19 =>
    match x19 with
    | .inl l17 =>
      some (((decide ((l17.1.length : Int) ≤ 20)), ()), ())
    | .inr l18 =>
      some ((l18.1, ()), ())
noncomputable def ct_S_l6Good : Ct := ⟨[(.bor, S_impl_Group)], [(.bool, false)], fun x => f_S_l6Good x.1⟩
noncomputable def cx_S_l6Good : Cx := ⟨tab, arrs, [(99, ct_S_l6Group), (100, ct_S_l6Old), (101, ct_S_l6New)], [], gl⟩
theorem eb_S_l6Good_2 (t0 : PV S_impl_Group) (t5 : PV S_impl_Group) (t6 : PV (.int .i64)) (t7 : PV (.int .i64)) : denK cx_S_l6Good (rcN cx_S_l6Good 0) pl_S_l6Good 0 ((loopsOf (bodyOf Tryd.f61)).getD 0 .skip) (fillS sh_S_l6Good_2 (t0, t5, t6, t7, ())) (roundK 0 lp_S_l6Good_2) = b_S_l6Good_2 t0 t5 t6 t7 := by kernel_rfl
theorem ef_S_l6Good (t0 : PV S_impl_Group) : denF cx_S_l6Good 0 pl_S_l6Good Tryd.f61.ntmps (bodyOf Tryd.f61) Tryd.f61.results.toList [(.bor, S_impl_Group)] [(.bool, false)] (t0, ()) = f_S_l6Good t0 := by kernel_rfl
theorem ok_S_l6Good : FnOk gl Tryd.prog 61 ct_S_l6Good :=
  fnOk (cx := cx_S_l6Good) (pl := pl_S_l6Good) (dp := 0) (ok0_of tabOk (by unfold ArrOk; kernel_rfl) mix ⟨ok_S_l6Group, ok_S_l6Old, ok_S_l6New, trivial⟩ trivial) Tryd.func61 (by kernel_rfl) (by kernel_rfl) (by kernel_rfl)
    (by rw [show loopsOf (bodyOf Tryd.f61) = [((loopsOf (bodyOf Tryd.f61)).getD 0 .skip)] from by kernel_rfl]; exact ⟨(by rw [show lookup pl_S_l6Good.loops (firstId ((loopsOf (bodyOf Tryd.f61)).getD 0 .skip)) = some lp_S_l6Good_2 from by kernel_rfl]; exact fun d z h => (eb_S_l6Good_2 d.1 d.2.1 d.2.2.1 d.2.2.2.1).trans h), trivial⟩) (fun x => ef_S_l6Good x.1)
noncomputable def pl_S_l4Number : Plan := ⟨[], [], 0, 0⟩
noncomputable def f_S_l4Number (t0 : PV (.int .i64)) (t1 : PV (.int .i64)) : Option (PVs [(.int .i64)] × PVs []) :=
  bif (decide (t1 > 0)) then
    some (((IntKind.wrap .i64 (t0 + 1)), ()), ())
  else
    some ((t0, ()), ())
noncomputable def ct_S_l4Number : Ct := ⟨[(.bor, (.int .i64)), (.bor, (.int .i64))], [((.int .i64), false)], fun x => f_S_l4Number x.1 x.2.1⟩
noncomputable def cx_S_l4Number : Cx := ⟨tab, arrs, [], [], gl⟩
theorem ef_S_l4Number (t0 : PV (.int .i64)) (t1 : PV (.int .i64)) : denF cx_S_l4Number 0 pl_S_l4Number Tryd.f154.ntmps (bodyOf Tryd.f154) Tryd.f154.results.toList [(.bor, (.int .i64)), (.bor, (.int .i64))] [((.int .i64), false)] (t0, t1, ()) = f_S_l4Number t0 t1 := by kernel_rfl
theorem ok_S_l4Number : FnOk gl Tryd.prog 154 ct_S_l4Number :=
  fnOk (cx := cx_S_l4Number) (pl := pl_S_l4Number) (dp := 0) (ok0_of tabOk (by unfold ArrOk; kernel_rfl) mix trivial trivial) Tryd.func154 (by kernel_rfl) (by kernel_rfl) (by kernel_rfl)
    (by rw [show loopsOf (bodyOf Tryd.f154) = [] from by kernel_rfl]; exact trivial) (fun x => ef_S_l4Number x.1 x.2.1)
noncomputable def fr_S_l1Num (ih : PV (.int .i64) → Option (PVs [.str] × PVs [])) (t0 : PV (.int .i64)) : Option (PVs [.str] × PVs []) :=
  bif (decide (t0 < 10)) then
    some (((bytesOfInts [(IntKind.wrap .u8 (IntKind.wrap .i64 (48 + t0)))]), ()), ())
  else
    bif 10 == 0 then
      none
    else
      (ih (IntKind.wrap .i64 (t0.tdiv 10))).bind fun r1 =>
        bif 10 == 0 then
          none
        else
          bif decide (r1.1.1.length + (bytesOfInts [(IntKind.wrap .u8 (IntKind.wrap .i64 (48 + (t0.tmod 10))))]).length ≤ 1099511627776) then
            some (((r1.1.1 ++ (bytesOfInts [(IntKind.wrap .u8 (IntKind.wrap .i64 (48 + (t0.tmod 10))))])), ()), ())
          else
            none
noncomputable def fn_S_l1Num : Nat → PV (.int .i64) → Option (PVs [.str] × PVs []) := fun n => Nat.rec (motive := fun _ => PV (.int .i64) → Option (PVs [.str] × PVs [])) (fun _ => none) (fun _ ih => fr_S_l1Num ih) n
noncomputable def f_S_l1Num (t0 : PV (.int .i64)) : Option (PVs [.str] × PVs []) := fn_S_l1Num (t0.toNat + 1) t0
noncomputable def ct_S_l1Num : Ct := ⟨[(.bor, (.int .i64))], [(.str, false)], fun x => f_S_l1Num x.1⟩
noncomputable def ctn_S_l1Num (n : Nat) : Ct := ⟨[(.bor, (.int .i64))], [(.str, false)], fun x => fn_S_l1Num n x.1⟩
noncomputable def cxn_S_l1Num (n : Nat) : Cx := ⟨tab, arrs, [(69, ctn_S_l1Num n)], [], gl⟩
noncomputable def pl_S_l1Num : Plan := ⟨[], [], 0, 0⟩
theorem efn_S_l1Num (n : Nat) (t0 : PV (.int .i64)) : denF (cxn_S_l1Num n) 0 pl_S_l1Num Tryd.f69.ntmps (bodyOf Tryd.f69) Tryd.f69.results.toList [(.bor, (.int .i64))] [(.str, false)] (t0, ()) = fr_S_l1Num (fn_S_l1Num n) t0 := by kernel_rfl
theorem okn_S_l1Num : ∀ n, FnOk gl Tryd.prog 69 (ctn_S_l1Num n)
  | 0 => fnOk_none (by kernel_rfl)
  | n + 1 => fnOk (cx := cxn_S_l1Num n) (pl := pl_S_l1Num) (dp := 0) (ct := ctn_S_l1Num (n + 1)) (ok0_of tabOk (by unfold ArrOk; kernel_rfl) mix ⟨okn_S_l1Num n, trivial⟩ trivial) Tryd.func69 (by kernel_rfl) (by kernel_rfl) (by kernel_rfl)
    (by rw [show loopsOf (bodyOf Tryd.f69) = [] from by kernel_rfl]; exact trivial) (fun x => efn_S_l1Num n x.1)
theorem ok_S_l1Num : FnOk gl Tryd.prog 69 ct_S_l1Num := fnOk_fuel (pars := [(.bor, (.int .i64))]) (rets := [(.str, false)]) (Fs := fun n x => fn_S_l1Num n x.1) (N := fun x => x.1.toNat + 1) okn_S_l1Num
noncomputable def o_S_l4Count_4 : List Out := [⟨.normal, ⟨[], [5]⟩, mkSh 18 [(5, .val .str .b)]⟩]
noncomputable def pl_S_l4Count : Plan := ⟨[(4, o_S_l4Count_4)], [], 0, 0⟩
noncomputable def f_S_l4Count (t0 : PV (.int .i64)) (t1 : PV (.int .i64)) : Option (PVs [.str] × PVs []) :=
  (f_S_l4Number t0 t1).bind fun r3 =>
    (f_S_l1Num r3.1.1).bind fun r4 =>
      ((
          bif (!(t1 == 1)) then
            (f_S_l1Num t1).bind fun r6 =>
              bif decide ([44].length + r6.1.1.length ≤ 1099511627776) then
                bif decide (r4.1.1.length + ([44] ++ r6.1.1).length ≤ 1099511627776) then
                  some ((r4.1.1 ++ ([44] ++ r6.1.1)), ())
                else
                  none
              else
                none
          else
            some (r4.1.1, ()) : Option ((PV .str × Unit)))).bind fun j7 =>
        some ((j7.1, ()), ())
noncomputable def ct_S_l4Count : Ct := ⟨[(.bor, (.int .i64)), (.bor, (.int .i64))], [(.str, false)], fun x => f_S_l4Count x.1 x.2.1⟩
noncomputable def cx_S_l4Count : Cx := ⟨tab, arrs, [(69, ct_S_l1Num), (154, ct_S_l4Number)], [], gl⟩
theorem ef_S_l4Count (t0 : PV (.int .i64)) (t1 : PV (.int .i64)) : denF cx_S_l4Count 0 pl_S_l4Count Tryd.f102.ntmps (bodyOf Tryd.f102) Tryd.f102.results.toList [(.bor, (.int .i64)), (.bor, (.int .i64))] [(.str, false)] (t0, t1, ()) = f_S_l4Count t0 t1 := by kernel_rfl
theorem ok_S_l4Count : FnOk gl Tryd.prog 102 ct_S_l4Count :=
  fnOk (cx := cx_S_l4Count) (pl := pl_S_l4Count) (dp := 0) (ok0_of tabOk (by unfold ArrOk; kernel_rfl) mix ⟨ok_S_l1Num, ok_S_l4Number, trivial⟩ trivial) Tryd.func102 (by kernel_rfl) (by kernel_rfl) (by kernel_rfl)
    (by rw [show loopsOf (bodyOf Tryd.f102) = [] from by kernel_rfl]; exact trivial) (fun x => ef_S_l4Count x.1 x.2.1)
noncomputable def pl_S_l7Sign : Plan := ⟨[], [], 0, 0⟩
noncomputable def f_S_l7Sign (t0 : PV (.int .i64)) : Option (PVs [.str] × PVs []) :=
  bif cutB t0 (IntKind.wrap .i64 (t0 + 1)) [63, 32, 45, 43].length then
    some (((cutL t0 (IntKind.wrap .i64 (t0 + 1)) [63, 32, 45, 43]), ()), ())
  else
    none
noncomputable def ct_S_l7Sign : Ct := ⟨[(.bor, (.int .i64))], [(.str, false)], fun x => f_S_l7Sign x.1⟩
noncomputable def cx_S_l7Sign : Cx := ⟨tab, arrs, [], [], gl⟩
theorem ef_S_l7Sign (t0 : PV (.int .i64)) : denF cx_S_l7Sign 0 pl_S_l7Sign Tryd.f104.ntmps (bodyOf Tryd.f104) Tryd.f104.results.toList [(.bor, (.int .i64))] [(.str, false)] (t0, ()) = f_S_l7Sign t0 := by kernel_rfl
theorem ok_S_l7Sign : FnOk gl Tryd.prog 104 ct_S_l7Sign :=
  fnOk (cx := cx_S_l7Sign) (pl := pl_S_l7Sign) (dp := 0) (ok0_of tabOk (by unfold ArrOk; kernel_rfl) mix trivial trivial) Tryd.func104 (by kernel_rfl) (by kernel_rfl) (by kernel_rfl)
    (by rw [show loopsOf (bodyOf Tryd.f104) = [] from by kernel_rfl]; exact trivial) (fun x => ef_S_l7Sign x.1)
noncomputable def pl_S_l5Shown : Plan := ⟨[], [], 0, 0⟩
noncomputable def f_S_l5Shown (t0 : PV .str) (t1 : PV .str) : Option (PVs [.str] × PVs []) :=
  (f_S_l1Ends t1).bind fun r4 =>
    bif r4.1.1 then
      bif decide (t0.length + t1.length ≤ 1099511627776) then
        some (((t0 ++ t1), ()), ())
      else
        none
    else
      bif decide (t0.length + t1.length ≤ 1099511627776) then
        bif decide ((t0 ++ t1).length + [10, 92, 32, 110, 111, 110, 101, 10].length ≤ 1099511627776) then
          some ((((t0 ++ t1) ++ [10, 92, 32, 110, 111, 110, 101, 10]), ()), ())
        else
          none
      else
        none
noncomputable def ct_S_l5Shown : Ct := ⟨[(.bor, .str), (.bor, .str)], [(.str, false)], fun x => f_S_l5Shown x.1 x.2.1⟩
noncomputable def cx_S_l5Shown : Cx := ⟨tab, arrs, [(115, ct_S_l1Ends)], [], gl⟩
theorem ef_S_l5Shown (t0 : PV .str) (t1 : PV .str) : denF cx_S_l5Shown 0 pl_S_l5Shown Tryd.f103.ntmps (bodyOf Tryd.f103) Tryd.f103.results.toList [(.bor, .str), (.bor, .str)] [(.str, false)] (t0, t1, ()) = f_S_l5Shown t0 t1 := by kernel_rfl
theorem ok_S_l5Shown : FnOk gl Tryd.prog 103 ct_S_l5Shown :=
  fnOk (cx := cx_S_l5Shown) (pl := pl_S_l5Shown) (dp := 0) (ok0_of tabOk (by unfold ArrOk; kernel_rfl) mix ⟨ok_S_l1Ends, trivial⟩ trivial) Tryd.func103 (by kernel_rfl) (by kernel_rfl) (by kernel_rfl)
    (by rw [show loopsOf (bodyOf Tryd.f103) = [] from by kernel_rfl]; exact trivial) (fun x => ef_S_l5Shown x.1 x.2.1)
noncomputable def sh_S_l7Text_7 : List Sh := mkSh 50 [(3, .val .str .b), (8, .val S_impl_Group .b), (9, .val (.int .i64) .b), (10, .val (.int .i64) .b), (33, .val S_impl_Row .b), (34, .val (.int .i64) .b), (35, .val (.int .i64) .b)]
noncomputable def o_S_l7Text_7 : List Out := [⟨.exit 2, ⟨[], [3, 8, 9, 10]⟩, mkSh 50 [(3, .val .str .b), (8, .val S_impl_Group .b), (9, .val (.int .i64) .b), (10, .val (.int .i64) .b)]⟩]
noncomputable def b_S_l7Text_7 (t3 : PV .str) (t8 : PV S_impl_Group) (t9 : PV (.int .i64)) (t10 : PV (.int .i64)) (t33 : PV S_impl_Row) (t34 : PV (.int .i64)) (t35 : PV (.int .i64)) : Option ((PV .str × PV S_impl_Group × PV (.int .i64) × PV (.int .i64) × PV S_impl_Row × PV (.int .i64) × PV (.int .i64) × Unit) ⊕ ((PV .str × PV S_impl_Group × PV (.int .i64) × PV (.int .i64) × Unit))) :=
  bif (decide (t35 < t34)) then
    bif inB t35 t33.length then
      (f_S_l7Sign ((t33.getD t35.toNat (dflt Y_impl_Row)).1)).bind fun r11 =>
        (f_S_l5Shown r11.1.1 (((t33.getD t35.toNat (dflt Y_impl_Row)).2).1)).bind fun r12 =>
          bif decide (t3.length + r12.1.1.length ≤ 1099511627776) then
            some (.inl ((t3 ++ r12.1.1), t8, t9, t10, t33, t34, (IntKind.wrap .i64 (t35 + 1)), ()))
          else
            none
    else
      none
  else
    some (.inr (t3, t8, t9, t10, ()))
noncomputable def w_S_l7Text_7 : PV .str × PV S_impl_Group × PV (.int .i64) × PV (.int .i64) × PV S_impl_Row × PV (.int .i64) × PV (.int .i64) × Unit → Option ((PV .str × PV S_impl_Group × PV (.int .i64) × PV (.int .i64) × Unit)) := fix fun d => b_S_l7Text_7 d.1 d.2.1 d.2.2.1 d.2.2.2.1 d.2.2.2.2.1 d.2.2.2.2.2.1 d.2.2.2.2.2.2.1
noncomputable def lp_S_l7Text_7 : Lp := ⟨⟨[], [3, 8, 9, 10, 33, 34, 35]⟩, sh_S_l7Text_7, o_S_l7Text_7, fun d => b_S_l7Text_7 d.1 d.2.1 d.2.2.1 d.2.2.2.1 d.2.2.2.2.1 d.2.2.2.2.2.1 d.2.2.2.2.2.2.1⟩
noncomputable def sh_S_l7Text_3 : List Sh := mkSh 50 [(3, .val .str .b), (8, .val S_impl_Group .b), (9, .val (.int .i64) .b), (10, .val (.int .i64) .b)]
noncomputable def o_S_l7Text_3 : List Out := [⟨.exit 0, ⟨[], [3]⟩, mkSh 50 [(3, .val .str .b)]⟩]
noncomputable def b_S_l7Text_3 (t3 : PV .str) (t8 : PV S_impl_Group) (t9 : PV (.int .i64)) (t10 : PV (.int .i64)) : Option ((PV .str × PV S_impl_Group × PV (.int .i64) × PV (.int .i64) × Unit) ⊕ ((PV .str × Unit))) :=
  bif (decide (t10 < t9)) then
    bif inB t10 t8.length then
      (f_S_l6Old (t8.getD t10.toNat (dflt Y_impl_Group))).bind fun r14 =>
        (f_S_l4Count ((t8.getD t10.toNat (dflt Y_impl_Group)).1) (r14.1.1.length : Int)).bind fun r15 =>
          bif decide ([64, 64, 32, 45].length + r15.1.1.length ≤ 1099511627776) then
            bif decide (([64, 64, 32, 45] ++ r15.1.1).length + [32, 43].length ≤ 1099511627776) then
              (f_S_l6New (t8.getD t10.toNat (dflt Y_impl_Group))).bind fun r16 =>
                (f_S_l4Count (((t8.getD t10.toNat (dflt Y_impl_Group)).2).1) (r16.1.1.length : Int)).bind fun r17 =>
                  bif decide ((([64, 64, 32, 45] ++ r15.1.1) ++ [32, 43]).length + r17.1.1.length ≤ 1099511627776) then
                    bif decide (((([64, 64, 32, 45] ++ r15.1.1) ++ [32, 43]) ++ r17.1.1).length + [32, 64, 64, 10].length ≤ 1099511627776) then
                      bif decide (t3.length + (((([64, 64, 32, 45] ++ r15.1.1) ++ [32, 43]) ++ r17.1.1) ++ [32, 64, 64, 10]).length ≤ 1099511627776) then
                        (w_S_l7Text_7 ((t3 ++ (((([64, 64, 32, 45] ++ r15.1.1) ++ [32, 43]) ++ r17.1.1) ++ [32, 64, 64, 10])), t8, t9, t10, (((t8.getD t10.toNat (dflt Y_impl_Group)).2).2).1, (((((t8.getD t10.toNat (dflt Y_impl_Group)).2).2).1).length : Int), 0, ())).bind fun l18 =>
                          some (.inl (l18.1, l18.2.1, l18.2.2.1, (IntKind.wrap .i64 (l18.2.2.2.1 + 1)), ()))
                      else
                        none
                    else
                      none
                  else
                    none
            else
              none
          else
            none
    else
      none
  else
    some (.inr (t3, ()))
noncomputable def w_S_l7Text_3 : PV .str × PV S_impl_Group × PV (.int .i64) × PV (.int .i64) × Unit → Option ((PV .str × Unit)) := fix fun d => b_S_l7Text_3 d.1 d.2.1 d.2.2.1 d.2.2.2.1
noncomputable def lp_S_l7Text_3 : Lp := ⟨⟨[], [3, 8, 9, 10]⟩, sh_S_l7Text_3, o_S_l7Text_3, fun d => b_S_l7Text_3 d.1 d.2.1 d.2.2.1 d.2.2.2.1⟩
noncomputable def pl_S_l7Text : Plan := ⟨[], [(7, lp_S_l7Text_7), (3, lp_S_l7Text_3)], 0, 0⟩
noncomputable def f_S_l7Text (t0 : PV S_impl_Group) : Option (PVs [.str] × PVs []) :=
  (w_S_l7Text_3 ([], t0, (t0.length : Int), 0, ())).bind fun l20 =>
    some ((l20.1, ()), ())
noncomputable def ct_S_l7Text : Ct := ⟨[(.bor, S_impl_Group)], [(.str, false)], fun x => f_S_l7Text x.1⟩
noncomputable def cx_S_l7Text : Cx := ⟨tab, arrs, [(100, ct_S_l6Old), (101, ct_S_l6New), (102, ct_S_l4Count), (103, ct_S_l5Shown), (104, ct_S_l7Sign)], [], gl⟩
theorem eb_S_l7Text_3 (t3 : PV .str) (t8 : PV S_impl_Group) (t9 : PV (.int .i64)) (t10 : PV (.int .i64)) : denK cx_S_l7Text (rcN cx_S_l7Text 0) pl_S_l7Text 0 ((loopsOf (bodyOf Tryd.f62)).getD 0 .skip) (fillS sh_S_l7Text_3 (t3, t8, t9, t10, ())) (roundK 0 lp_S_l7Text_3) = b_S_l7Text_3 t3 t8 t9 t10 := by kernel_rfl
theorem eb_S_l7Text_7 (t3 : PV .str) (t8 : PV S_impl_Group) (t9 : PV (.int .i64)) (t10 : PV (.int .i64)) (t33 : PV S_impl_Row) (t34 : PV (.int .i64)) (t35 : PV (.int .i64)) : denK cx_S_l7Text (rcN cx_S_l7Text 0) pl_S_l7Text 0 ((loopsOf (bodyOf Tryd.f62)).getD 1 .skip) (fillS sh_S_l7Text_7 (t3, t8, t9, t10, t33, t34, t35, ())) (roundK 0 lp_S_l7Text_7) = b_S_l7Text_7 t3 t8 t9 t10 t33 t34 t35 := by kernel_rfl
theorem ef_S_l7Text (t0 : PV S_impl_Group) : denF cx_S_l7Text 0 pl_S_l7Text Tryd.f62.ntmps (bodyOf Tryd.f62) Tryd.f62.results.toList [(.bor, S_impl_Group)] [(.str, false)] (t0, ()) = f_S_l7Text t0 := by kernel_rfl
theorem ok_S_l7Text : FnOk gl Tryd.prog 62 ct_S_l7Text :=
  fnOk (cx := cx_S_l7Text) (pl := pl_S_l7Text) (dp := 0) (ok0_of tabOk (by unfold ArrOk; kernel_rfl) mix ⟨ok_S_l6Old, ok_S_l6New, ok_S_l4Count, ok_S_l5Shown, ok_S_l7Sign, trivial⟩ trivial) Tryd.func62 (by kernel_rfl) (by kernel_rfl) (by kernel_rfl)
    (by rw [show loopsOf (bodyOf Tryd.f62) = [((loopsOf (bodyOf Tryd.f62)).getD 0 .skip), ((loopsOf (bodyOf Tryd.f62)).getD 1 .skip)] from by kernel_rfl]; exact ⟨(by rw [show lookup pl_S_l7Text.loops (firstId ((loopsOf (bodyOf Tryd.f62)).getD 0 .skip)) = some lp_S_l7Text_3 from by kernel_rfl]; exact fun d z h => (eb_S_l7Text_3 d.1 d.2.1 d.2.2.1 d.2.2.2.1).trans h), (by rw [show lookup pl_S_l7Text.loops (firstId ((loopsOf (bodyOf Tryd.f62)).getD 1 .skip)) = some lp_S_l7Text_7 from by kernel_rfl]; exact fun d z h => (eb_S_l7Text_7 d.1 d.2.1 d.2.2.1 d.2.2.2.1 d.2.2.2.2.1 d.2.2.2.2.2.1 d.2.2.2.2.2.2.1).trans h), trivial⟩) (fun x => ef_S_l7Text x.1)
noncomputable def o_S_GroupsText_2 : List Out := [⟨.normal, ⟨[], [0, 12]⟩, mkSh 15 [(0, .val S_impl_Group .b), (12, .val .bool .b)]⟩]
noncomputable def pl_S_GroupsText : Plan := ⟨[(2, o_S_GroupsText_2)], [], 0, 0⟩
noncomputable def f_S_GroupsText (t0 : PV S_impl_Group) : Option (PVs [.str, .bool] × PVs []) :=
  ((
      (f_S_l6Good t0).bind fun r6 =>
        bif (!r6.1.1) then
          some (t0, true, ())
        else
          (f_S_l7Text t0).bind fun r7 =>
            some (t0, (decide ((r7.1.1.length : Int) > 3000)), ()) : Option ((PV S_impl_Group × PV .bool × Unit)))).bind fun j8 =>
    bif j8.2.1 then
      some (([], false, ()), ())
    else
      (f_S_l7Text j8.1).bind fun r9 =>
        some ((r9.1.1, true, ()), ())
noncomputable def ct_S_GroupsText : Ct := ⟨[(.bor, S_impl_Group)], [(.str, false), (.bool, false)], fun x => f_S_GroupsText x.1⟩
noncomputable def cx_S_GroupsText : Cx := ⟨tab, arrs, [(61, ct_S_l6Good), (62, ct_S_l7Text)], [], gl⟩
theorem ef_S_GroupsText (t0 : PV S_impl_Group) : denF cx_S_GroupsText 0 pl_S_GroupsText Tryd.f17.ntmps (bodyOf Tryd.f17) Tryd.f17.results.toList [(.bor, S_impl_Group)] [(.str, false), (.bool, false)] (t0, ()) = f_S_GroupsText t0 := by kernel_rfl
theorem ok_S_GroupsText : FnOk gl Tryd.prog 17 ct_S_GroupsText :=
  fnOk (cx := cx_S_GroupsText) (pl := pl_S_GroupsText) (dp := 0) (ok0_of tabOk (by unfold ArrOk; kernel_rfl) mix ⟨ok_S_l6Good, ok_S_l7Text, trivial⟩ trivial) Tryd.func17 (by kernel_rfl) (by kernel_rfl) (by kernel_rfl)
    (by rw [show loopsOf (bodyOf Tryd.f17) = [] from by kernel_rfl]; exact trivial) (fun x => ef_S_GroupsText x.1)
noncomputable def pl_I_in : Plan := ⟨[], [], 0, 0⟩
noncomputable def f_I_in (t0 : PV (.int .i64)) (t1 : PV (.int .i64)) (t2 : PV (.int .i64)) : Option (PVs [.bool] × PVs []) :=
  bif (decide (t0 ≥ t1)) then
    some (((decide (t0 ≤ t2)), ()), ())
  else
    some ((false, ()), ())
noncomputable def ct_I_in : Ct := ⟨[(.bor, (.int .i64)), (.bor, (.int .i64)), (.bor, (.int .i64))], [(.bool, false)], fun x => f_I_in x.1 x.2.1 x.2.2.1⟩
noncomputable def cx_I_in : Cx := ⟨tab, arrs, [], [], gl⟩
theorem ef_I_in (t0 : PV (.int .i64)) (t1 : PV (.int .i64)) (t2 : PV (.int .i64)) : denF cx_I_in 0 pl_I_in Tryd.f80.ntmps (bodyOf Tryd.f80) Tryd.f80.results.toList [(.bor, (.int .i64)), (.bor, (.int .i64)), (.bor, (.int .i64))] [(.bool, false)] (t0, t1, t2, ()) = f_I_in t0 t1 t2 := by kernel_rfl
theorem ok_I_in : FnOk gl Tryd.prog 80 ct_I_in :=
  fnOk (cx := cx_I_in) (pl := pl_I_in) (dp := 0) (ok0_of tabOk (by unfold ArrOk; kernel_rfl) mix trivial trivial) Tryd.func80 (by kernel_rfl) (by kernel_rfl) (by kernel_rfl)
    (by rw [show loopsOf (bodyOf Tryd.f80) = [] from by kernel_rfl]; exact trivial) (fun x => ef_I_in x.1 x.2.1 x.2.2.1)
noncomputable def pl_I_isLine : Plan := ⟨[], [], 0, 0⟩
noncomputable def f_I_isLine (t0 : PV .str) : Option (PVs [.bool] × PVs []) :=
  (f_I_in (t0.length : Int) 1 30).bind fun r1 =>
    bif r1.1.1 then
      bif cutB 0 (IntKind.wrap .i64 ((t0.length : Int) - 1)) t0.length then
        (f_strings_Contains (cutL 0 (IntKind.wrap .i64 ((t0.length : Int) - 1)) t0) [10]).bind fun r2 =>
          some (((!r2.1.1), ()), ())
      else
        none
    else
      some ((false, ()), ())
noncomputable def ct_I_isLine : Ct := ⟨[(.bor, .str)], [(.bool, false)], fun x => f_I_isLine x.1⟩
noncomputable def cx_I_isLine : Cx := ⟨tab, arrs, [(80, ct_I_in), (185, ct_strings_Contains)], [], gl⟩
theorem ef_I_isLine (t0 : PV .str) : denF cx_I_isLine 0 pl_I_isLine Tryd.f147.ntmps (bodyOf Tryd.f147) Tryd.f147.results.toList [(.bor, .str)] [(.bool, false)] (t0, ()) = f_I_isLine t0 := by kernel_rfl
theorem ok_I_isLine : FnOk gl Tryd.prog 147 ct_I_isLine :=
  fnOk (cx := cx_I_isLine) (pl := pl_I_isLine) (dp := 0) (ok0_of tabOk (by unfold ArrOk; kernel_rfl) mix ⟨ok_I_in, ok_strings_Contains, trivial⟩ trivial) Tryd.func147 (by kernel_rfl) (by kernel_rfl) (by kernel_rfl)
    (by rw [show loopsOf (bodyOf Tryd.f147) = [] from by kernel_rfl]; exact trivial) (fun x => ef_I_isLine x.1)
noncomputable def o_I_sideOf_7 : List Out := [⟨.normal, ⟨[], [1, 5, 9, 10, 11]⟩, mkSh 26 [(1, .val (.int .i64) .b), (5, .val S_string (.row .b)), (9, .val S_impl_Row .b), (10, .val (.int .i64) .b), (11, .val (.int .i64) .b)]⟩]
noncomputable def sh_I_sideOf_3 : List Sh := mkSh 26 [(1, .val (.int .i64) .b), (5, .val S_string (.row .b)), (9, .val S_impl_Row .b), (10, .val (.int .i64) .b), (11, .val (.int .i64) .b)]
noncomputable def o_I_sideOf_3 : List Out := [⟨.exit 0, ⟨[], [5]⟩, mkSh 26 [(5, .val S_string (.row .b))]⟩]
noncomputable def b_I_sideOf_3 (t1 : PV (.int .i64)) (t5 : PV S_string) (t9 : PV S_impl_Row) (t10 : PV (.int .i64)) (t11 : PV (.int .i64)) : Option ((PV (.int .i64) × PV S_string × PV S_impl_Row × PV (.int .i64) × PV (.int .i64) × Unit) ⊕ ((PV S_string × Unit))) :=
  bif (decide (t11 < t10)) then
    ((
        bif inB t11 t9.length then
          bif (!(((t9.getD t11.toNat (dflt Y_impl_Row)).1) == t1)) then
            bif roomB (t5.length + [((t9.getD t11.toNat (dflt Y_impl_Row)).2).1].length) then
              some (t1, (t5 ++ [((t9.getD t11.toNat (dflt Y_impl_Row)).2).1]), t9, t10, t11, ())
            else
              none
          else
            some (t1, t5, t9, t10, t11, ())
        else
          none : Option ((PV (.int .i64) × PV S_string × PV S_impl_Row × PV (.int .i64) × PV (.int .i64) × Unit)))).bind fun j1 =>
      some (.inl (j1.1, j1.2.1, j1.2.2.1, j1.2.2.2.1, (IntKind.wrap .i64 (j1.2.2.2.2.1 + 1)), ()))
  else
    some (.inr (t5, ()))
noncomputable def w_I_sideOf_3 : PV (.int .i64) × PV S_string × PV S_impl_Row × PV (.int .i64) × PV (.int .i64) × Unit → Option ((PV S_string × Unit)) := fix fun d => b_I_sideOf_3 d.1 d.2.1 d.2.2.1 d.2.2.2.1 d.2.2.2.2.1
noncomputable def lp_I_sideOf_3 : Lp := ⟨⟨[], [1, 5, 9, 10, 11]⟩, sh_I_sideOf_3, o_I_sideOf_3, fun d => b_I_sideOf_3 d.1 d.2.1 d.2.2.1 d.2.2.2.1 d.2.2.2.2.1⟩
noncomputable def pl_I_sideOf : Plan := ⟨[(7, o_I_sideOf_7)], [(3, lp_I_sideOf_3)], 0, 0⟩
noncomputable def f_I_sideOf (t0 : PV S_impl_Row) (t1 : PV (.int .i64)) : Option (PVs [S_string] × PVs []) :=
  (w_I_sideOf_3 (t1, ([] : PV S_string), t0, (t0.length : Int), 0, ())).bind fun l3 =>
    some ((l3.1, ()), ())
noncomputable def ct_I_sideOf : Ct := ⟨[(.bor, S_impl_Row), (.bor, (.int .i64))], [(S_string, true)], fun x => f_I_sideOf x.1 x.2.1⟩
noncomputable def cx_I_sideOf : Cx := ⟨tab, arrs, [], [], gl⟩
theorem eb_I_sideOf_3 (t1 : PV (.int .i64)) (t5 : PV S_string) (t9 : PV S_impl_Row) (t10 : PV (.int .i64)) (t11 : PV (.int .i64)) : denK cx_I_sideOf (rcN cx_I_sideOf 0) pl_I_sideOf 0 ((loopsOf (bodyOf Tryd.f156)).getD 0 .skip) (fillS sh_I_sideOf_3 (t1, t5, t9, t10, t11, ())) (roundK 0 lp_I_sideOf_3) = b_I_sideOf_3 t1 t5 t9 t10 t11 := by kernel_rfl
theorem ef_I_sideOf (t0 : PV S_impl_Row) (t1 : PV (.int .i64)) : denF cx_I_sideOf 0 pl_I_sideOf Tryd.f156.ntmps (bodyOf Tryd.f156) Tryd.f156.results.toList [(.bor, S_impl_Row), (.bor, (.int .i64))] [(S_string, true)] (t0, t1, ()) = f_I_sideOf t0 t1 := by kernel_rfl
theorem ok_I_sideOf : FnOk gl Tryd.prog 156 ct_I_sideOf :=
  fnOk (cx := cx_I_sideOf) (pl := pl_I_sideOf) (dp := 0) (ok0_of tabOk (by unfold ArrOk; kernel_rfl) mix trivial trivial) Tryd.func156 (by kernel_rfl) (by kernel_rfl) (by kernel_rfl)
    (by rw [show loopsOf (bodyOf Tryd.f156) = [((loopsOf (bodyOf Tryd.f156)).getD 0 .skip)] from by kernel_rfl]; exact ⟨(by rw [show lookup pl_I_sideOf.loops (firstId ((loopsOf (bodyOf Tryd.f156)).getD 0 .skip)) = some lp_I_sideOf_3 from by kernel_rfl]; exact fun d z h => (eb_I_sideOf_3 d.1 d.2.1 d.2.2.1 d.2.2.2.1 d.2.2.2.2.1).trans h), trivial⟩) (fun x => ef_I_sideOf x.1 x.2.1)
noncomputable def pl_I_Group_old : Plan := ⟨[], [], 0, 0⟩
noncomputable def f_I_Group_old (t0 : PV Y_impl_Group) : Option (PVs [S_string] × PVs []) :=
  (f_I_sideOf t0.2.2.1 3).bind fun r1 =>
    some ((r1.1.1, ()), ())
noncomputable def ct_I_Group_old : Ct := ⟨[(.bor, Y_impl_Group)], [(S_string, true)], fun x => f_I_Group_old x.1⟩
noncomputable def cx_I_Group_old : Cx := ⟨tab, arrs, [(156, ct_I_sideOf)], [], gl⟩
theorem ef_I_Group_old (t0 : PV Y_impl_Group) : denF cx_I_Group_old 0 pl_I_Group_old Tryd.f107.ntmps (bodyOf Tryd.f107) Tryd.f107.results.toList [(.bor, Y_impl_Group)] [(S_string, true)] (t0, ()) = f_I_Group_old t0 := by kernel_rfl
theorem ok_I_Group_old : FnOk gl Tryd.prog 107 ct_I_Group_old :=
  fnOk (cx := cx_I_Group_old) (pl := pl_I_Group_old) (dp := 0) (ok0_of tabOk (by unfold ArrOk; kernel_rfl) mix ⟨ok_I_sideOf, trivial⟩ trivial) Tryd.func107 (by kernel_rfl) (by kernel_rfl) (by kernel_rfl)
    (by rw [show loopsOf (bodyOf Tryd.f107) = [] from by kernel_rfl]; exact trivial) (fun x => ef_I_Group_old x.1)
noncomputable def pl_I_Group_fresh : Plan := ⟨[], [], 0, 0⟩
noncomputable def f_I_Group_fresh (t0 : PV Y_impl_Group) : Option (PVs [S_string] × PVs []) :=
  (f_I_sideOf t0.2.2.1 2).bind fun r1 =>
    some ((r1.1.1, ()), ())
noncomputable def ct_I_Group_fresh : Ct := ⟨[(.bor, Y_impl_Group)], [(S_string, true)], fun x => f_I_Group_fresh x.1⟩
noncomputable def cx_I_Group_fresh : Cx := ⟨tab, arrs, [(156, ct_I_sideOf)], [], gl⟩
theorem ef_I_Group_fresh (t0 : PV Y_impl_Group) : denF cx_I_Group_fresh 0 pl_I_Group_fresh Tryd.f108.ntmps (bodyOf Tryd.f108) Tryd.f108.results.toList [(.bor, Y_impl_Group)] [(S_string, true)] (t0, ()) = f_I_Group_fresh t0 := by kernel_rfl
theorem ok_I_Group_fresh : FnOk gl Tryd.prog 108 ct_I_Group_fresh :=
  fnOk (cx := cx_I_Group_fresh) (pl := pl_I_Group_fresh) (dp := 0) (ok0_of tabOk (by unfold ArrOk; kernel_rfl) mix ⟨ok_I_sideOf, trivial⟩ trivial) Tryd.func108 (by kernel_rfl) (by kernel_rfl) (by kernel_rfl)
    (by rw [show loopsOf (bodyOf Tryd.f108) = [] from by kernel_rfl]; exact trivial) (fun x => ef_I_Group_fresh x.1)
noncomputable def pl_I_areLines_1 : Plan := ⟨[], [], 0, 0⟩
noncomputable def f_I_areLines_1 (t0 : PV .str) : Option (PVs [.bool] × PVs []) :=
  (f_I_isLine t0).bind fun r1 =>
    some (((!r1.1.1), ()), ())
noncomputable def ct_I_areLines_1 : Ct := ⟨[(.bor, .str)], [(.bool, false)], fun x => f_I_areLines_1 x.1⟩
noncomputable def cx_I_areLines_1 : Cx := ⟨tab, arrs, [(147, ct_I_isLine)], [], gl⟩
theorem ef_I_areLines_1 (t0 : PV .str) : denF cx_I_areLines_1 0 pl_I_areLines_1 Tryd.f197.ntmps (bodyOf Tryd.f197) Tryd.f197.results.toList [(.bor, .str)] [(.bool, false)] (t0, ()) = f_I_areLines_1 t0 := by kernel_rfl
theorem ok_I_areLines_1 : FnOk gl Tryd.prog 197 ct_I_areLines_1 :=
  fnOk (cx := cx_I_areLines_1) (pl := pl_I_areLines_1) (dp := 0) (ok0_of tabOk (by unfold ArrOk; kernel_rfl) mix ⟨ok_I_isLine, trivial⟩ trivial) Tryd.func197 (by kernel_rfl) (by kernel_rfl) (by kernel_rfl)
    (by rw [show loopsOf (bodyOf Tryd.f197) = [] from by kernel_rfl]; exact trivial) (fun x => ef_I_areLines_1 x.1)
noncomputable def pl_I_areLines_145 : Plan := ⟨[], [], 1, 11⟩
noncomputable def sh_I_areLines_184_2 : List Sh := mkSh 39 [(0, .val S_string .b), (2, .val .bool .b), (3, .val S_string .b), (4, .val (.int .i64) .b), (5, .val .bool .b), (6, .val .bool .b), (7, .val S_string .b), (11, .val S_string .b), (12, .fn 197 []), (15, .val .bool .b), (16, .val S_string .b), (17, .fn 197 []), (20, .val S_string .b), (21, .fn 197 []), (27, .val (.int .i64) .b), (28, .val (.int .i64) .b)]
noncomputable def o_I_areLines_184_2 : List Out := [⟨.exit 0, ⟨[], []⟩, mkSh 39 [(0, .val S_string .b), (2, .val .bool .b), (3, .val S_string .b), (4, .val (.int .i64) .b), (5, .val .bool .b), (6, .val .bool .b), (7, .val S_string .b), (11, .val S_string .b), (12, .fn 197 []), (15, .val .bool .b), (16, .val S_string .b), (17, .fn 197 [])]⟩, ⟨.ret, ⟨[], [4]⟩, mkSh 39 [(0, .val S_string .b), (2, .val .bool .b), (3, .val S_string .b), (4, .val (.int .i64) .b), (5, .val .bool .b), (6, .val .bool .b), (7, .val S_string .b), (11, .val S_string .b), (12, .fn 197 []), (15, .val .bool .b), (16, .val S_string .b), (17, .fn 197 []), (24, .val (.int .i64) .b)]⟩]
noncomputable def b_I_areLines_184_2 (t0 : PV S_string) (t2 : PV .bool) (t3 : PV S_string) (t4 : PV (.int .i64)) (t5 : PV .bool) (t6 : PV .bool) (t7 : PV S_string) (t11 : PV S_string) (t15 : PV .bool) (t16 : PV S_string) (t20 : PV S_string) (t27 : PV (.int .i64)) (t28 : PV (.int .i64)) : Option ((PV S_string × PV .bool × PV S_string × PV (.int .i64) × PV .bool × PV .bool × PV S_string × PV S_string × PV .bool × PV S_string × PV S_string × PV (.int .i64) × PV (.int .i64) × Unit) ⊕ ((PV S_string × PV .bool × PV S_string × PV (.int .i64) × PV .bool × PV .bool × PV S_string × PV S_string × PV .bool × PV S_string × Unit) ⊕ (PV S_string × PV .bool × PV S_string × PV (.int .i64) × PV .bool × PV .bool × PV S_string × PV S_string × PV .bool × PV S_string × PV (.int .i64) × Unit))) :=
  bif (decide (t28 < t27)) then
    bif inB t28 t20.length then
      (f_I_areLines_1 (t20.getD t28.toNat [])).bind fun r4 =>
        bif r4.1.1 then
          some (.inr (.inr (t0, t2, t3, t4, t5, t6, t7, t11, t15, t16, t28, ())))
        else
          some (.inl (t0, t2, t3, t4, t5, t6, t7, t11, t15, t16, t20, t27, (IntKind.wrap .i64 (t28 + 1)), ()))
    else
      none
  else
    some (.inr (.inl (t0, t2, t3, t4, t5, t6, t7, t11, t15, t16, ())))
noncomputable def w_I_areLines_184_2 : PV S_string × PV .bool × PV S_string × PV (.int .i64) × PV .bool × PV .bool × PV S_string × PV S_string × PV .bool × PV S_string × PV S_string × PV (.int .i64) × PV (.int .i64) × Unit → Option ((PV S_string × PV .bool × PV S_string × PV (.int .i64) × PV .bool × PV .bool × PV S_string × PV S_string × PV .bool × PV S_string × Unit) ⊕ (PV S_string × PV .bool × PV S_string × PV (.int .i64) × PV .bool × PV .bool × PV S_string × PV S_string × PV .bool × PV S_string × PV (.int .i64) × Unit)) := fix fun d => b_I_areLines_184_2 d.1 d.2.1 d.2.2.1 d.2.2.2.1 d.2.2.2.2.1 d.2.2.2.2.2.1 d.2.2.2.2.2.2.1 d.2.2.2.2.2.2.2.1 d.2.2.2.2.2.2.2.2.1 d.2.2.2.2.2.2.2.2.2.1 d.2.2.2.2.2.2.2.2.2.2.1 d.2.2.2.2.2.2.2.2.2.2.2.1 d.2.2.2.2.2.2.2.2.2.2.2.2.1
noncomputable def lp_I_areLines_184_2 : Lp := ⟨⟨[], [0, 1, 7, 8]⟩, sh_I_areLines_184_2, o_I_areLines_184_2, fun d => b_I_areLines_184_2 d.1 d.2.1 d.2.2.1 d.2.2.2.1 d.2.2.2.2.1 d.2.2.2.2.2.1 d.2.2.2.2.2.2.1 d.2.2.2.2.2.2.2.1 d.2.2.2.2.2.2.2.2.1 d.2.2.2.2.2.2.2.2.2.1 d.2.2.2.2.2.2.2.2.2.2.1 d.2.2.2.2.2.2.2.2.2.2.2.1 d.2.2.2.2.2.2.2.2.2.2.2.2.1⟩
noncomputable def pl_I_areLines_184 : Plan := ⟨[], [(2, lp_I_areLines_184_2)], 0, 20⟩
noncomputable def pl_I_areLines : Plan := ⟨[], [], 2, 0⟩
noncomputable def f_I_areLines (t0 : PV S_string) : Option (PVs [.bool] × PVs []) :=
  bif (decide ((t0.length : Int) ≤ 40)) then
    (w_I_areLines_184_2 (t0, false, t0, (t0.length : Int), (decide ((t0.length : Int) ≤ 40)), true, t0, t0, false, t0, t0, (t0.length : Int), 0, ())).bind fun x9 =>
      match x9 with
      | .inl l7 =>
        bif l7.2.2.2.2.2.1 then
          some (((!(decide ((-1) ≥ 0))), ()), ())
        else
          some ((false, ()), ())
      | .inr l8 =>
        bif l8.2.2.2.2.2.1 then
          some (((!(decide (l8.2.2.2.2.2.2.2.2.2.2.1 ≥ 0))), ()), ())
        else
          some ((false, ()), ())
  else
    some ((false, ()), ())
noncomputable def ct_I_areLines : Ct := ⟨[(.bor, S_string)], [(.bool, false)], fun x => f_I_areLines x.1⟩
noncomputable def cx_I_areLines : Cx := ⟨tab, arrs, [(197, ct_I_areLines_1)], [(145, Tryd.f145, pl_I_areLines_145), (184, Tryd.f184, pl_I_areLines_184)], gl⟩
theorem eb_I_areLines_184_2 (t0 : PV S_string) (t2 : PV .bool) (t3 : PV S_string) (t4 : PV (.int .i64)) (t5 : PV .bool) (t6 : PV .bool) (t7 : PV S_string) (t11 : PV S_string) (t15 : PV .bool) (t16 : PV S_string) (t20 : PV S_string) (t27 : PV (.int .i64)) (t28 : PV (.int .i64)) : denK cx_I_areLines (rcN cx_I_areLines 0) pl_I_areLines_184 20 ((loopsOf (bodyOf Tryd.f184)).getD 0 .skip) (fillS sh_I_areLines_184_2 (t0, t2, t3, t4, t5, t6, t7, t11, t15, t16, t20, t27, t28, ())) (roundK 20 lp_I_areLines_184_2) = b_I_areLines_184_2 t0 t2 t3 t4 t5 t6 t7 t11 t15 t16 t20 t27 t28 := by kernel_rfl
theorem ef_I_areLines (t0 : PV S_string) : denF cx_I_areLines 2 pl_I_areLines Tryd.f173.ntmps (bodyOf Tryd.f173) Tryd.f173.results.toList [(.bor, S_string)] [(.bool, false)] (t0, ()) = f_I_areLines t0 := by kernel_rfl
theorem ok_I_areLines : FnOk gl Tryd.prog 173 ct_I_areLines :=
  fnOk (cx := cx_I_areLines) (pl := pl_I_areLines) (dp := 2) (ok0_of tabOk (by unfold ArrOk; kernel_rfl) mix ⟨ok_I_areLines_1, trivial⟩ ⟨⟨Tryd.func145, by kernel_rfl, (by rw [show loopsOf (bodyOf Tryd.f145) = [] from by kernel_rfl]; exact trivial)⟩, ⟨Tryd.func184, by kernel_rfl, (by rw [show loopsOf (bodyOf Tryd.f184) = [((loopsOf (bodyOf Tryd.f184)).getD 0 .skip)] from by kernel_rfl]; exact ⟨(by rw [show lookup pl_I_areLines_184.loops (firstId ((loopsOf (bodyOf Tryd.f184)).getD 0 .skip)) = some lp_I_areLines_184_2 from by kernel_rfl]; exact fun d z h => (eb_I_areLines_184_2 d.1 d.2.1 d.2.2.1 d.2.2.2.1 d.2.2.2.2.1 d.2.2.2.2.2.1 d.2.2.2.2.2.2.1 d.2.2.2.2.2.2.2.1 d.2.2.2.2.2.2.2.2.1 d.2.2.2.2.2.2.2.2.2.1 d.2.2.2.2.2.2.2.2.2.2.1 d.2.2.2.2.2.2.2.2.2.2.2.1 d.2.2.2.2.2.2.2.2.2.2.2.2.1).trans h), trivial⟩)⟩, trivial⟩) Tryd.func173 (by kernel_rfl) (by kernel_rfl) (by kernel_rfl)
    (by rw [show loopsOf (bodyOf Tryd.f173) = [] from by kernel_rfl]; exact trivial) (fun x => ef_I_areLines x.1)
noncomputable def pl_internal_stringslite_HasSuffix : Plan := ⟨[], [], 0, 0⟩
noncomputable def f_internal_stringslite_HasSuffix (t0 : PV .str) (t1 : PV .str) : Option (PVs [.bool] × PVs []) :=
  bif (decide ((t0.length : Int) ≥ (t1.length : Int))) then
    bif cutB (IntKind.wrap .i64 ((t0.length : Int) - (t1.length : Int))) (t0.length : Int) t0.length then
      some ((((cutL (IntKind.wrap .i64 ((t0.length : Int) - (t1.length : Int))) (t0.length : Int) t0) == t1), ()), ())
    else
      none
  else
    some ((false, ()), ())
noncomputable def ct_internal_stringslite_HasSuffix : Ct := ⟨[(.bor, .str), (.bor, .str)], [(.bool, false)], fun x => f_internal_stringslite_HasSuffix x.1 x.2.1⟩
noncomputable def cx_internal_stringslite_HasSuffix : Cx := ⟨tab, arrs, [], [], gl⟩
theorem ef_internal_stringslite_HasSuffix (t0 : PV .str) (t1 : PV .str) : denF cx_internal_stringslite_HasSuffix 0 pl_internal_stringslite_HasSuffix Tryd.f193.ntmps (bodyOf Tryd.f193) Tryd.f193.results.toList [(.bor, .str), (.bor, .str)] [(.bool, false)] (t0, t1, ()) = f_internal_stringslite_HasSuffix t0 t1 := by kernel_rfl
theorem ok_internal_stringslite_HasSuffix : FnOk gl Tryd.prog 193 ct_internal_stringslite_HasSuffix :=
  fnOk (cx := cx_internal_stringslite_HasSuffix) (pl := pl_internal_stringslite_HasSuffix) (dp := 0) (ok0_of tabOk (by unfold ArrOk; kernel_rfl) mix trivial trivial) Tryd.func193 (by kernel_rfl) (by kernel_rfl) (by kernel_rfl)
    (by rw [show loopsOf (bodyOf Tryd.f193) = [] from by kernel_rfl]; exact trivial) (fun x => ef_internal_stringslite_HasSuffix x.1 x.2.1)
noncomputable def pl_strings_HasSuffix : Plan := ⟨[], [], 0, 0⟩
noncomputable def f_strings_HasSuffix (t0 : PV .str) (t1 : PV .str) : Option (PVs [.bool] × PVs []) :=
  (f_internal_stringslite_HasSuffix t0 t1).bind fun r1 =>
    some ((r1.1.1, ()), ())
noncomputable def ct_strings_HasSuffix : Ct := ⟨[(.bor, .str), (.bor, .str)], [(.bool, false)], fun x => f_strings_HasSuffix x.1 x.2.1⟩
noncomputable def cx_strings_HasSuffix : Cx := ⟨tab, arrs, [(193, ct_internal_stringslite_HasSuffix)], [], gl⟩
theorem ef_strings_HasSuffix (t0 : PV .str) (t1 : PV .str) : denF cx_strings_HasSuffix 0 pl_strings_HasSuffix Tryd.f186.ntmps (bodyOf Tryd.f186) Tryd.f186.results.toList [(.bor, .str), (.bor, .str)] [(.bool, false)] (t0, t1, ()) = f_strings_HasSuffix t0 t1 := by kernel_rfl
theorem ok_strings_HasSuffix : FnOk gl Tryd.prog 186 ct_strings_HasSuffix :=
  fnOk (cx := cx_strings_HasSuffix) (pl := pl_strings_HasSuffix) (dp := 0) (ok0_of tabOk (by unfold ArrOk; kernel_rfl) mix ⟨ok_internal_stringslite_HasSuffix, trivial⟩ trivial) Tryd.func186 (by kernel_rfl) (by kernel_rfl) (by kernel_rfl)
    (by rw [show loopsOf (bodyOf Tryd.f186) = [] from by kernel_rfl]; exact trivial) (fun x => ef_strings_HasSuffix x.1 x.2.1)
noncomputable def pl_I_isEnded : Plan := ⟨[], [], 0, 0⟩
noncomputable def f_I_isEnded (t0 : PV .str) : Option (PVs [.bool] × PVs []) :=
  (f_strings_HasSuffix t0 [10]).bind fun r1 =>
    some ((r1.1.1, ()), ())
noncomputable def ct_I_isEnded : Ct := ⟨[(.bor, .str)], [(.bool, false)], fun x => f_I_isEnded x.1⟩
noncomputable def cx_I_isEnded : Cx := ⟨tab, arrs, [(186, ct_strings_HasSuffix)], [], gl⟩
theorem ef_I_isEnded (t0 : PV .str) : denF cx_I_isEnded 0 pl_I_isEnded Tryd.f148.ntmps (bodyOf Tryd.f148) Tryd.f148.results.toList [(.bor, .str)] [(.bool, false)] (t0, ()) = f_I_isEnded t0 := by kernel_rfl
theorem ok_I_isEnded : FnOk gl Tryd.prog 148 ct_I_isEnded :=
  fnOk (cx := cx_I_isEnded) (pl := pl_I_isEnded) (dp := 0) (ok0_of tabOk (by unfold ArrOk; kernel_rfl) mix ⟨ok_strings_HasSuffix, trivial⟩ trivial) Tryd.func148 (by kernel_rfl) (by kernel_rfl) (by kernel_rfl)
    (by rw [show loopsOf (bodyOf Tryd.f148) = [] from by kernel_rfl]; exact trivial) (fun x => ef_I_isEnded x.1)
noncomputable def o_I_goodLines_7 : List Out := [⟨.normal, ⟨[], [0, 8, 9, 10, 24]⟩, mkSh 26 [(0, .val S_string .b), (8, .val S_string .b), (9, .val (.int .i64) .b), (10, .val (.int .i64) .b), (24, .val .bool .b)]⟩]
noncomputable def sh_I_goodLines_4 : List Sh := mkSh 26 [(0, .val S_string .b), (8, .val S_string .b), (9, .val (.int .i64) .b), (10, .val (.int .i64) .b)]
noncomputable def o_I_goodLines_4 : List Out := [⟨.exit 0, ⟨[], []⟩, mkSh 26 []⟩, ⟨.ret, ⟨[], [2]⟩, mkSh 26 [(2, .val .bool .b)]⟩]
noncomputable def b_I_goodLines_4 (t0 : PV S_string) (t8 : PV S_string) (t9 : PV (.int .i64)) (t10 : PV (.int .i64)) : Option ((PV S_string × PV S_string × PV (.int .i64) × PV (.int .i64) × Unit) ⊕ ((Unit) ⊕ (PV .bool × Unit))) :=
  bif (decide (t10 < t9)) then
    bif inB t10 t8.length then
      ((
          bif (decide (t10 < (IntKind.wrap .i64 ((t0.length : Int) - 1)))) then
            (f_I_isEnded (t8.getD t10.toNat [])).bind fun r7 =>
              some (t0, t8, t9, t10, (!r7.1.1), ())
          else
            some (t0, t8, t9, t10, false, ()) : Option ((PV S_string × PV S_string × PV (.int .i64) × PV (.int .i64) × PV .bool × Unit)))).bind fun j8 =>
        bif j8.2.2.2.2.1 then
          some (.inr (.inr (false, ())))
        else
          some (.inl (j8.1, j8.2.1, j8.2.2.1, (IntKind.wrap .i64 (j8.2.2.2.1 + 1)), ()))
    else
      none
  else
    some (.inr (.inl ()))
noncomputable def w_I_goodLines_4 : PV S_string × PV S_string × PV (.int .i64) × PV (.int .i64) × Unit → Option ((Unit) ⊕ (PV .bool × Unit)) := fix fun d => b_I_goodLines_4 d.1 d.2.1 d.2.2.1 d.2.2.2.1
noncomputable def lp_I_goodLines_4 : Lp := ⟨⟨[], [0, 8, 9, 10, 21, 22, 23]⟩, sh_I_goodLines_4, o_I_goodLines_4, fun d => b_I_goodLines_4 d.1 d.2.1 d.2.2.1 d.2.2.2.1⟩
noncomputable def pl_I_goodLines : Plan := ⟨[(7, o_I_goodLines_7)], [(4, lp_I_goodLines_4)], 0, 0⟩
noncomputable def f_I_goodLines (t0 : PV S_string) : Option (PVs [.bool] × PVs []) :=
  (f_I_areLines t0).bind fun r4 =>
    bif (!r4.1.1) then
      some ((false, ()), ())
    else
      (w_I_goodLines_4 (t0, t0, (t0.length : Int), 0, ())).bind fun x13 =>
        match x13 with
        | .inl l11 =>
          some ((true, ()), ())
        | .inr l12 =>
          some ((l12.1, ()), ())
noncomputable def ct_I_goodLines : Ct := ⟨[(.bor, S_string)], [(.bool, false)], fun x => f_I_goodLines x.1⟩
noncomputable def cx_I_goodLines : Cx := ⟨tab, arrs, [(148, ct_I_isEnded), (173, ct_I_areLines)], [], gl⟩
theorem eb_I_goodLines_4 (t0 : PV S_string) (t8 : PV S_string) (t9 : PV (.int .i64)) (t10 : PV (.int .i64)) : denK cx_I_goodLines (rcN cx_I_goodLines 0) pl_I_goodLines 0 ((loopsOf (bodyOf Tryd.f130)).getD 0 .skip) (fillS sh_I_goodLines_4 (t0, t8, t9, t10, ())) (roundK 0 lp_I_goodLines_4) = b_I_goodLines_4 t0 t8 t9 t10 := by kernel_rfl
theorem ef_I_goodLines (t0 : PV S_string) : denF cx_I_goodLines 0 pl_I_goodLines Tryd.f130.ntmps (bodyOf Tryd.f130) Tryd.f130.results.toList [(.bor, S_string)] [(.bool, false)] (t0, ()) = f_I_goodLines t0 := by kernel_rfl
theorem ok_I_goodLines : FnOk gl Tryd.prog 130 ct_I_goodLines :=
  fnOk (cx := cx_I_goodLines) (pl := pl_I_goodLines) (dp := 0) (ok0_of tabOk (by unfold ArrOk; kernel_rfl) mix ⟨ok_I_isEnded, ok_I_areLines, trivial⟩ trivial) Tryd.func130 (by kernel_rfl) (by kernel_rfl) (by kernel_rfl)
    (by rw [show loopsOf (bodyOf Tryd.f130) = [((loopsOf (bodyOf Tryd.f130)).getD 0 .skip)] from by kernel_rfl]; exact ⟨(by rw [show lookup pl_I_goodLines.loops (firstId ((loopsOf (bodyOf Tryd.f130)).getD 0 .skip)) = some lp_I_goodLines_4 from by kernel_rfl]; exact fun d z h => (eb_I_goodLines_4 d.1 d.2.1 d.2.2.1 d.2.2.2.1).trans h), trivial⟩) (fun x => ef_I_goodLines x.1)
noncomputable def o_I_goodGroup_2 : List Out := [⟨.normal, ⟨[], [1, 24, 38, 39, 40, 41, 44, 45, 46, 47, 48, 49, 50, 51, 52, 53, 54, 55, 56, 57, 58, 59, 60, 64, 65, 66, 75, 76, 79, 80, 83, 84, 85, 86, 87, 88, 91, 92, 93, 94, 95, 96]⟩, mkSh 98 [(1, .var Y_impl_Group .b), (24, .val .bool .b)]⟩]
noncomputable def o_I_goodGroup_8 : List Out := [⟨.normal, ⟨[], [1, 3, 5, 26, 27, 28, 61, 64, 65, 66, 75, 76, 79, 80, 83, 84, 85, 86, 87, 88, 91, 92, 93, 94, 95, 96]⟩, mkSh 98 [(1, .var Y_impl_Group .b), (3, .val .bool .b), (5, .var Y_impl_Row .b), (26, .val S_impl_Row .b), (27, .val (.int .i64) .b), (28, .val (.int .i64) .b), (61, .val .bool .b)]⟩]
noncomputable def o_I_goodGroup_10 : List Out := [⟨.normal, ⟨[], [1, 3, 5, 26, 27, 28, 38, 39, 40, 41, 44, 45, 46, 47, 48, 49, 50, 51, 52, 53, 54, 55, 56, 57, 58, 59, 60, 75, 76, 79, 80, 83, 84, 85, 86, 87, 88, 91, 92, 93, 94, 95, 96]⟩, mkSh 98 [(1, .var Y_impl_Group .b), (3, .val .bool .b), (5, .var Y_impl_Row .b), (26, .val S_impl_Row .b), (27, .val (.int .i64) .b), (28, .val (.int .i64) .b)]⟩, ⟨.ret, ⟨[], [2]⟩, mkSh 98 [(2, .val .bool .b)]⟩]
noncomputable def sh_I_goodGroup_5 : List Sh := mkSh 98 [(1, .var Y_impl_Group .b), (3, .val .bool .b), (26, .val S_impl_Row .b), (27, .val (.int .i64) .b), (28, .val (.int .i64) .b)]
noncomputable def o_I_goodGroup_5 : List Out := [⟨.exit 0, ⟨[], [1, 3, 75, 76, 79, 80, 83, 84, 85, 86, 87, 88, 91, 92, 93, 94, 95, 96]⟩, mkSh 98 [(1, .var Y_impl_Group .b), (3, .val .bool .b)]⟩, ⟨.ret, ⟨[], [2]⟩, mkSh 98 [(2, .val .bool .b)]⟩]
noncomputable def b_I_goodGroup_5 (t1 : PV Y_impl_Group) (t3 : PV .bool) (t26 : PV S_impl_Row) (t27 : PV (.int .i64)) (t28 : PV (.int .i64)) : Option ((PV Y_impl_Group × PV .bool × PV S_impl_Row × PV (.int .i64) × PV (.int .i64) × Unit) ⊕ ((PV Y_impl_Group × PV .bool × Unit) ⊕ (PV .bool × Unit))) :=
  bif (decide (t28 < t27)) then
    ((
        bif inB t28 t26.length then
          ((
              (f_I_in ((t26.getD t28.toNat (dflt Y_impl_Row)).1) 1 3).bind fun r15 =>
                bif (!r15.1.1) then
                  some (t1, t3, (t26.getD t28.toNat (dflt Y_impl_Row)), t26, t27, t28, true, ())
                else
                  (f_I_isLine (((t26.getD t28.toNat (dflt Y_impl_Row)).2).1)).bind fun r16 =>
                    bif (!r16.1.1) then
                      some (t1, t3, (t26.getD t28.toNat (dflt Y_impl_Row)), t26, t27, t28, true, ())
                    else
                      bif (decide (t28 > 0)) then
                        bif (((t26.getD t28.toNat (dflt Y_impl_Row)).1) == 2) then
                          bif inB (IntKind.wrap .i64 (t28 - 1)) t1.2.2.1.length then
                            some (t1, t3, (t26.getD t28.toNat (dflt Y_impl_Row)), t26, t27, t28, (((t1.2.2.1.getD ((IntKind.wrap .i64 (t28 - 1)).toNat) (dflt Y_impl_Row)).1) == 3), ())
                          else
                            none
                        else
                          some (t1, t3, (t26.getD t28.toNat (dflt Y_impl_Row)), t26, t27, t28, false, ())
                      else
                        some (t1, t3, (t26.getD t28.toNat (dflt Y_impl_Row)), t26, t27, t28, false, ()) : Option ((PV Y_impl_Group × PV .bool × PV Y_impl_Row × PV S_impl_Row × PV (.int .i64) × PV (.int .i64) × PV .bool × Unit)))).bind fun j17 =>
            bif j17.2.2.2.2.2.2.1 then
              some (.inr (false, ()))
            else
              bif j17.2.1 then
                some (.inl (j17.1, true, j17.2.2.1, j17.2.2.2.1, j17.2.2.2.2.1, j17.2.2.2.2.2.1, ()))
              else
                some (.inl (j17.1, (!(j17.2.2.1.1 == 1)), j17.2.2.1, j17.2.2.2.1, j17.2.2.2.2.1, j17.2.2.2.2.2.1, ()))
        else
          none : Option ((PV Y_impl_Group × PV .bool × PV Y_impl_Row × PV S_impl_Row × PV (.int .i64) × PV (.int .i64) × Unit) ⊕ (PV .bool × Unit)))).bind fun x30 =>
      match x30 with
      | .inl j18 =>
        some (.inl (j18.1, j18.2.1, j18.2.2.2.1, j18.2.2.2.2.1, (IntKind.wrap .i64 (j18.2.2.2.2.2.1 + 1)), ()))
      | .inr j19 =>
        some (.inr (.inr (j19.1, ())))
  else
    some (.inr (.inl (t1, t3, ())))
noncomputable def w_I_goodGroup_5 : PV Y_impl_Group × PV .bool × PV S_impl_Row × PV (.int .i64) × PV (.int .i64) × Unit → Option ((PV Y_impl_Group × PV .bool × Unit) ⊕ (PV .bool × Unit)) := fix fun d => b_I_goodGroup_5 d.1 d.2.1 d.2.2.1 d.2.2.2.1 d.2.2.2.2.1
noncomputable def lp_I_goodGroup_5 : Lp := ⟨⟨[], [1, 3, 26, 27, 28, 38, 39, 40, 41, 44, 45, 46, 47, 48, 49, 50, 51, 52, 53, 54, 55, 56, 57, 58, 59, 60, 64, 65, 66, 75, 76, 79, 80, 83, 84, 85, 86, 87, 88, 91, 92, 93, 94, 95, 96]⟩, sh_I_goodGroup_5, o_I_goodGroup_5, fun d => b_I_goodGroup_5 d.1 d.2.1 d.2.2.1 d.2.2.2.1 d.2.2.2.2.1⟩
noncomputable def pl_I_goodGroup : Plan := ⟨[(2, o_I_goodGroup_2), (8, o_I_goodGroup_8), (10, o_I_goodGroup_10)], [(5, lp_I_goodGroup_5)], 0, 0⟩
noncomputable def f_I_goodGroup (t0 : PV Y_impl_Group) : Option (PVs [.bool] × PVs []) :=
  ((
      (f_I_in t0.1 0 999).bind fun r8 =>
        bif (!r8.1.1) then
          some (t0, true, ())
        else
          (f_I_in t0.2.1 0 999).bind fun r9 =>
            bif (!r9.1.1) then
              some (t0, true, ())
            else
              (f_I_in (t0.2.2.1.length : Int) 1 80).bind fun r10 =>
                some (t0, (!r10.1.1), ()) : Option ((PV Y_impl_Group × PV .bool × Unit)))).bind fun j11 =>
    bif j11.2.1 then
      some ((false, ()), ())
    else
      (w_I_goodGroup_5 (j11.1, false, j11.1.2.2.1, (j11.1.2.2.1.length : Int), 0, ())).bind fun x31 =>
        match x31 with
        | .inl l22 =>
          (f_I_Group_old l22.1).bind fun r25 =>
            (f_I_Group_fresh l22.1).bind fun r26 =>
              bif l22.2.1 then
                (f_I_goodLines r25.1.1).bind fun r27 =>
                  bif r27.1.1 then
                    (f_I_goodLines r26.1.1).bind fun r28 =>
                      bif r28.1.1 then
                        bif (decide ((IntKind.wrap .i64 (l22.1.1 + (r25.1.1.length : Int))) ≤ 1000)) then
                          some (((decide ((IntKind.wrap .i64 (l22.1.2.1 + (r26.1.1.length : Int))) ≤ 1000)), ()), ())
                        else
                          some ((false, ()), ())
                      else
                        some ((false, ()), ())
                  else
                    some ((false, ()), ())
              else
                some ((false, ()), ())
        | .inr l29 =>
          some ((l29.1, ()), ())
noncomputable def ct_I_goodGroup : Ct := ⟨[(.bor, Y_impl_Group)], [(.bool, false)], fun x => f_I_goodGroup x.1⟩
noncomputable def cx_I_goodGroup : Cx := ⟨tab, arrs, [(80, ct_I_in), (107, ct_I_Group_old), (108, ct_I_Group_fresh), (130, ct_I_goodLines), (147, ct_I_isLine)], [], gl⟩
theorem eb_I_goodGroup_5 (t1 : PV Y_impl_Group) (t3 : PV .bool) (t26 : PV S_impl_Row) (t27 : PV (.int .i64)) (t28 : PV (.int .i64)) : denK cx_I_goodGroup (rcN cx_I_goodGroup 0) pl_I_goodGroup 0 ((loopsOf (bodyOf Tryd.f106)).getD 0 .skip) (fillS sh_I_goodGroup_5 (t1, t3, t26, t27, t28, ())) (roundK 0 lp_I_goodGroup_5) = b_I_goodGroup_5 t1 t3 t26 t27 t28 := by kernel_rfl
theorem ef_I_goodGroup (t0 : PV Y_impl_Group) : denF cx_I_goodGroup 0 pl_I_goodGroup Tryd.f106.ntmps (bodyOf Tryd.f106) Tryd.f106.results.toList [(.bor, Y_impl_Group)] [(.bool, false)] (t0, ()) = f_I_goodGroup t0 := by kernel_rfl
theorem ok_I_goodGroup : FnOk gl Tryd.prog 106 ct_I_goodGroup :=
  fnOk (cx := cx_I_goodGroup) (pl := pl_I_goodGroup) (dp := 0) (ok0_of tabOk (by unfold ArrOk; kernel_rfl) mix ⟨ok_I_in, ok_I_Group_old, ok_I_Group_fresh, ok_I_goodLines, ok_I_isLine, trivial⟩ trivial) Tryd.func106 (by kernel_rfl) (by kernel_rfl) (by kernel_rfl)
    (by rw [show loopsOf (bodyOf Tryd.f106) = [((loopsOf (bodyOf Tryd.f106)).getD 0 .skip)] from by kernel_rfl]; exact ⟨(by rw [show lookup pl_I_goodGroup.loops (firstId ((loopsOf (bodyOf Tryd.f106)).getD 0 .skip)) = some lp_I_goodGroup_5 from by kernel_rfl]; exact fun d z h => (eb_I_goodGroup_5 d.1 d.2.1 d.2.2.1 d.2.2.2.1 d.2.2.2.2.1).trans h), trivial⟩) (fun x => ef_I_goodGroup x.1)
noncomputable def o_I_goodGroups_9 : List Out := [⟨.normal, ⟨[], [0, 4, 8, 9, 10, 57]⟩, mkSh 59 [(0, .val S_impl_Group .b), (4, .var Y_impl_Group .b), (8, .val S_impl_Group .b), (9, .val (.int .i64) .b), (10, .val (.int .i64) .b), (57, .val .bool .b)]⟩]
noncomputable def sh_I_goodGroups_4 : List Sh := mkSh 59 [(0, .val S_impl_Group .b), (8, .val S_impl_Group .b), (9, .val (.int .i64) .b), (10, .val (.int .i64) .b)]
noncomputable def o_I_goodGroups_4 : List Out := [⟨.exit 0, ⟨[], []⟩, mkSh 59 []⟩, ⟨.ret, ⟨[], [2]⟩, mkSh 59 [(2, .val .bool .b)]⟩]
noncomputable def b_I_goodGroups_4 (t0 : PV S_impl_Group) (t8 : PV S_impl_Group) (t9 : PV (.int .i64)) (t10 : PV (.int .i64)) : Option ((PV S_impl_Group × PV S_impl_Group × PV (.int .i64) × PV (.int .i64) × Unit) ⊕ ((Unit) ⊕ (PV .bool × Unit))) :=
  bif (decide (t10 < t9)) then
    bif inB t10 t8.length then
      (f_I_goodGroup (t8.getD t10.toNat (dflt Y_impl_Group))).bind fun r11 =>
        bif (!r11.1.1) then
          some (.inr (.inr (false, ())))
        else
          ((
              bif (decide (t10 > 0)) then
                bif inB (IntKind.wrap .i64 (t10 - 1)) t0.length then
                  bif inB (IntKind.wrap .i64 (t10 - 1)) t0.length then
                    (f_I_Group_old (t0.getD ((IntKind.wrap .i64 (t10 - 1)).toNat) (dflt Y_impl_Group))).bind fun r12 =>
                      bif (decide (((t8.getD t10.toNat (dflt Y_impl_Group)).1) < (IntKind.wrap .i64 (((t0.getD ((IntKind.wrap .i64 (t10 - 1)).toNat) (dflt Y_impl_Group)).1) + (r12.1.1.length : Int))))) then
                        some (t0, (t8.getD t10.toNat (dflt Y_impl_Group)), t8, t9, t10, true, ())
                      else
                        bif inB (IntKind.wrap .i64 (t10 - 1)) t0.length then
                          bif inB (IntKind.wrap .i64 (t10 - 1)) t0.length then
                            (f_I_Group_fresh (t0.getD ((IntKind.wrap .i64 (t10 - 1)).toNat) (dflt Y_impl_Group))).bind fun r13 =>
                              some (t0, (t8.getD t10.toNat (dflt Y_impl_Group)), t8, t9, t10, (decide ((((t8.getD t10.toNat (dflt Y_impl_Group)).2).1) < (IntKind.wrap .i64 ((((t0.getD ((IntKind.wrap .i64 (t10 - 1)).toNat) (dflt Y_impl_Group)).2).1) + (r13.1.1.length : Int))))), ())
                          else
                            none
                        else
                          none
                  else
                    none
                else
                  none
              else
                some (t0, (t8.getD t10.toNat (dflt Y_impl_Group)), t8, t9, t10, false, ()) : Option ((PV S_impl_Group × PV Y_impl_Group × PV S_impl_Group × PV (.int .i64) × PV (.int .i64) × PV .bool × Unit)))).bind fun j14 =>
            bif j14.2.2.2.2.2.1 then
              some (.inr (.inr (false, ())))
            else
              some (.inl (j14.1, j14.2.2.1, j14.2.2.2.1, (IntKind.wrap .i64 (j14.2.2.2.2.1 + 1)), ()))
    else
      none
  else
    some (.inr (.inl ()))
noncomputable def w_I_goodGroups_4 : PV S_impl_Group × PV S_impl_Group × PV (.int .i64) × PV (.int .i64) × Unit → Option ((Unit) ⊕ (PV .bool × Unit)) := fix fun d => b_I_goodGroups_4 d.1 d.2.1 d.2.2.1 d.2.2.2.1
noncomputable def lp_I_goodGroups_4 : Lp := ⟨⟨[], [0, 8, 9, 10, 21, 22, 23, 24, 25, 26, 27, 28, 29, 30, 31, 32, 33, 34, 35, 36, 37, 38, 39, 40, 41, 42, 43, 44, 45, 46, 47, 48, 49, 50, 51, 52, 53, 54, 55, 56]⟩, sh_I_goodGroups_4, o_I_goodGroups_4, fun d => b_I_goodGroups_4 d.1 d.2.1 d.2.2.1 d.2.2.2.1⟩
noncomputable def pl_I_goodGroups : Plan := ⟨[(9, o_I_goodGroups_9)], [(4, lp_I_goodGroups_4)], 0, 0⟩
noncomputable def f_I_goodGroups (t0 : PV S_impl_Group) : Option (PVs [.bool] × PVs []) :=
  bif (decide ((t0.length : Int) > 20)) then
    some ((false, ()), ())
  else
    (w_I_goodGroups_4 (t0, t0, (t0.length : Int), 0, ())).bind fun x19 =>
      match x19 with
      | .inl l17 =>
        some ((true, ()), ())
      | .inr l18 =>
        some ((l18.1, ()), ())
noncomputable def ct_I_goodGroups : Ct := ⟨[(.bor, S_impl_Group)], [(.bool, false)], fun x => f_I_goodGroups x.1⟩
noncomputable def cx_I_goodGroups : Cx := ⟨tab, arrs, [(106, ct_I_goodGroup), (107, ct_I_Group_old), (108, ct_I_Group_fresh)], [], gl⟩
theorem eb_I_goodGroups_4 (t0 : PV S_impl_Group) (t8 : PV S_impl_Group) (t9 : PV (.int .i64)) (t10 : PV (.int .i64)) : denK cx_I_goodGroups (rcN cx_I_goodGroups 0) pl_I_goodGroups 0 ((loopsOf (bodyOf Tryd.f64)).getD 0 .skip) (fillS sh_I_goodGroups_4 (t0, t8, t9, t10, ())) (roundK 0 lp_I_goodGroups_4) = b_I_goodGroups_4 t0 t8 t9 t10 := by kernel_rfl
theorem ef_I_goodGroups (t0 : PV S_impl_Group) : denF cx_I_goodGroups 0 pl_I_goodGroups Tryd.f64.ntmps (bodyOf Tryd.f64) Tryd.f64.results.toList [(.bor, S_impl_Group)] [(.bool, false)] (t0, ()) = f_I_goodGroups t0 := by kernel_rfl
theorem ok_I_goodGroups : FnOk gl Tryd.prog 64 ct_I_goodGroups :=
  fnOk (cx := cx_I_goodGroups) (pl := pl_I_goodGroups) (dp := 0) (ok0_of tabOk (by unfold ArrOk; kernel_rfl) mix ⟨ok_I_goodGroup, ok_I_Group_old, ok_I_Group_fresh, trivial⟩ trivial) Tryd.func64 (by kernel_rfl) (by kernel_rfl) (by kernel_rfl)
    (by rw [show loopsOf (bodyOf Tryd.f64) = [((loopsOf (bodyOf Tryd.f64)).getD 0 .skip)] from by kernel_rfl]; exact ⟨(by rw [show lookup pl_I_goodGroups.loops (firstId ((loopsOf (bodyOf Tryd.f64)).getD 0 .skip)) = some lp_I_goodGroups_4 from by kernel_rfl]; exact fun d z h => (eb_I_goodGroups_4 d.1 d.2.1 d.2.2.1 d.2.2.2.1).trans h), trivial⟩) (fun x => ef_I_goodGroups x.1)
noncomputable def pl_I_numberOf : Plan := ⟨[], [], 0, 0⟩
noncomputable def f_I_numberOf (t0 : PV (.int .i64)) (t1 : PV (.int .i64)) : Option (PVs [(.int .i64)] × PVs []) :=
  bif (decide (t1 > 0)) then
    some (((IntKind.wrap .i64 (t0 + 1)), ()), ())
  else
    some ((t0, ()), ())
noncomputable def ct_I_numberOf : Ct := ⟨[(.bor, (.int .i64)), (.bor, (.int .i64))], [((.int .i64), false)], fun x => f_I_numberOf x.1 x.2.1⟩
noncomputable def cx_I_numberOf : Cx := ⟨tab, arrs, [], [], gl⟩
theorem ef_I_numberOf (t0 : PV (.int .i64)) (t1 : PV (.int .i64)) : denF cx_I_numberOf 0 pl_I_numberOf Tryd.f121.ntmps (bodyOf Tryd.f121) Tryd.f121.results.toList [(.bor, (.int .i64)), (.bor, (.int .i64))] [((.int .i64), false)] (t0, t1, ()) = f_I_numberOf t0 t1 := by kernel_rfl
theorem ok_I_numberOf : FnOk gl Tryd.prog 121 ct_I_numberOf :=
  fnOk (cx := cx_I_numberOf) (pl := pl_I_numberOf) (dp := 0) (ok0_of tabOk (by unfold ArrOk; kernel_rfl) mix trivial trivial) Tryd.func121 (by kernel_rfl) (by kernel_rfl) (by kernel_rfl)
    (by rw [show loopsOf (bodyOf Tryd.f121) = [] from by kernel_rfl]; exact trivial) (fun x => ef_I_numberOf x.1 x.2.1)
noncomputable def o_I_countOf_4 : List Out := [⟨.normal, ⟨[], [5]⟩, mkSh 18 [(5, .val .str .b)]⟩]
noncomputable def pl_I_countOf : Plan := ⟨[(4, o_I_countOf_4)], [], 0, 0⟩
noncomputable def f_I_countOf (t0 : PV (.int .i64)) (t1 : PV (.int .i64)) : Option (PVs [.str] × PVs []) :=
  (f_I_numberOf t0 t1).bind fun r3 =>
    (f_strconv_Itoa r3.1.1).bind fun r4 =>
      ((
          bif (!(t1 == 1)) then
            (f_strconv_Itoa t1).bind fun r6 =>
              bif decide ([44].length + r6.1.1.length ≤ 1099511627776) then
                bif decide (r4.1.1.length + ([44] ++ r6.1.1).length ≤ 1099511627776) then
                  some ((r4.1.1 ++ ([44] ++ r6.1.1)), ())
                else
                  none
              else
                none
          else
            some (r4.1.1, ()) : Option ((PV .str × Unit)))).bind fun j7 =>
        some ((j7.1, ()), ())
noncomputable def ct_I_countOf : Ct := ⟨[(.bor, (.int .i64)), (.bor, (.int .i64))], [(.str, false)], fun x => f_I_countOf x.1 x.2.1⟩
noncomputable def cx_I_countOf : Cx := ⟨tab, arrs, [(71, ct_strconv_Itoa), (121, ct_I_numberOf)], [], gl⟩
theorem ef_I_countOf (t0 : PV (.int .i64)) (t1 : PV (.int .i64)) : denF cx_I_countOf 0 pl_I_countOf Tryd.f110.ntmps (bodyOf Tryd.f110) Tryd.f110.results.toList [(.bor, (.int .i64)), (.bor, (.int .i64))] [(.str, false)] (t0, t1, ()) = f_I_countOf t0 t1 := by kernel_rfl
theorem ok_I_countOf : FnOk gl Tryd.prog 110 ct_I_countOf :=
  fnOk (cx := cx_I_countOf) (pl := pl_I_countOf) (dp := 0) (ok0_of tabOk (by unfold ArrOk; kernel_rfl) mix ⟨ok_strconv_Itoa, ok_I_numberOf, trivial⟩ trivial) Tryd.func110 (by kernel_rfl) (by kernel_rfl) (by kernel_rfl)
    (by rw [show loopsOf (bodyOf Tryd.f110) = [] from by kernel_rfl]; exact trivial) (fun x => ef_I_countOf x.1 x.2.1)
noncomputable def pl_I_headText : Plan := ⟨[], [], 0, 0⟩
noncomputable def f_I_headText (t0 : PV .str) (t1 : PV .str) : Option (PVs [.str] × PVs []) :=
  bif decide ([64, 64, 32, 45].length + t0.length ≤ 1099511627776) then
    bif decide (([64, 64, 32, 45] ++ t0).length + [32, 43].length ≤ 1099511627776) then
      bif decide ((([64, 64, 32, 45] ++ t0) ++ [32, 43]).length + t1.length ≤ 1099511627776) then
        bif decide (((([64, 64, 32, 45] ++ t0) ++ [32, 43]) ++ t1).length + [32, 64, 64, 10].length ≤ 1099511627776) then
          some (((((([64, 64, 32, 45] ++ t0) ++ [32, 43]) ++ t1) ++ [32, 64, 64, 10]), ()), ())
        else
          none
      else
        none
    else
      none
  else
    none
noncomputable def ct_I_headText : Ct := ⟨[(.bor, .str), (.bor, .str)], [(.str, false)], fun x => f_I_headText x.1 x.2.1⟩
noncomputable def cx_I_headText : Cx := ⟨tab, arrs, [], [], gl⟩
theorem ef_I_headText (t0 : PV .str) (t1 : PV .str) : denF cx_I_headText 0 pl_I_headText Tryd.f109.ntmps (bodyOf Tryd.f109) Tryd.f109.results.toList [(.bor, .str), (.bor, .str)] [(.str, false)] (t0, t1, ()) = f_I_headText t0 t1 := by kernel_rfl
theorem ok_I_headText : FnOk gl Tryd.prog 109 ct_I_headText :=
  fnOk (cx := cx_I_headText) (pl := pl_I_headText) (dp := 0) (ok0_of tabOk (by unfold ArrOk; kernel_rfl) mix trivial trivial) Tryd.func109 (by kernel_rfl) (by kernel_rfl) (by kernel_rfl)
    (by rw [show loopsOf (bodyOf Tryd.f109) = [] from by kernel_rfl]; exact trivial) (fun x => ef_I_headText x.1 x.2.1)
noncomputable def pl_I_Row_sign : Plan := ⟨[], [], 0, 0⟩
noncomputable def f_I_Row_sign (t0 : PV Y_impl_Row) : Option (PVs [.str] × PVs []) :=
  bif cutB t0.1 (IntKind.wrap .i64 (t0.1 + 1)) [63, 32, 45, 43].length then
    some (((cutL t0.1 (IntKind.wrap .i64 (t0.1 + 1)) [63, 32, 45, 43]), ()), ())
  else
    none
noncomputable def ct_I_Row_sign : Ct := ⟨[(.bor, Y_impl_Row)], [(.str, false)], fun x => f_I_Row_sign x.1⟩
noncomputable def cx_I_Row_sign : Cx := ⟨tab, arrs, [], [], gl⟩
theorem ef_I_Row_sign (t0 : PV Y_impl_Row) : denF cx_I_Row_sign 0 pl_I_Row_sign Tryd.f158.ntmps (bodyOf Tryd.f158) Tryd.f158.results.toList [(.bor, Y_impl_Row)] [(.str, false)] (t0, ()) = f_I_Row_sign t0 := by kernel_rfl
theorem ok_I_Row_sign : FnOk gl Tryd.prog 158 ct_I_Row_sign :=
  fnOk (cx := cx_I_Row_sign) (pl := pl_I_Row_sign) (dp := 0) (ok0_of tabOk (by unfold ArrOk; kernel_rfl) mix trivial trivial) Tryd.func158 (by kernel_rfl) (by kernel_rfl) (by kernel_rfl)
    (by rw [show loopsOf (bodyOf Tryd.f158) = [] from by kernel_rfl]; exact trivial) (fun x => ef_I_Row_sign x.1)
noncomputable def pl_I_shown : Plan := ⟨[], [], 0, 0⟩
noncomputable def f_I_shown (t0 : PV .str) (t1 : PV .str) : Option (PVs [.str] × PVs []) :=
  (f_I_isEnded t1).bind fun r4 =>
    bif r4.1.1 then
      bif decide (t0.length + t1.length ≤ 1099511627776) then
        some (((t0 ++ t1), ()), ())
      else
        none
    else
      bif decide (t0.length + t1.length ≤ 1099511627776) then
        bif decide ((t0 ++ t1).length + [10].length ≤ 1099511627776) then
          bif decide (((t0 ++ t1) ++ [10]).length + [92, 32, 110, 111, 110, 101, 10].length ≤ 1099511627776) then
            some (((((t0 ++ t1) ++ [10]) ++ [92, 32, 110, 111, 110, 101, 10]), ()), ())
          else
            none
        else
          none
      else
        none
noncomputable def ct_I_shown : Ct := ⟨[(.bor, .str), (.bor, .str)], [(.str, false)], fun x => f_I_shown x.1 x.2.1⟩
noncomputable def cx_I_shown : Cx := ⟨tab, arrs, [(148, ct_I_isEnded)], [], gl⟩
theorem ef_I_shown (t0 : PV .str) (t1 : PV .str) : denF cx_I_shown 0 pl_I_shown Tryd.f157.ntmps (bodyOf Tryd.f157) Tryd.f157.results.toList [(.bor, .str), (.bor, .str)] [(.str, false)] (t0, t1, ()) = f_I_shown t0 t1 := by kernel_rfl
theorem ok_I_shown : FnOk gl Tryd.prog 157 ct_I_shown :=
  fnOk (cx := cx_I_shown) (pl := pl_I_shown) (dp := 0) (ok0_of tabOk (by unfold ArrOk; kernel_rfl) mix ⟨ok_I_isEnded, trivial⟩ trivial) Tryd.func157 (by kernel_rfl) (by kernel_rfl) (by kernel_rfl)
    (by rw [show loopsOf (bodyOf Tryd.f157) = [] from by kernel_rfl]; exact trivial) (fun x => ef_I_shown x.1 x.2.1)
noncomputable def sh_I_rowsText_3 : List Sh := mkSh 21 [(3, .val .str .b), (6, .val S_impl_Row .b), (7, .val (.int .i64) .b), (8, .val (.int .i64) .b)]
noncomputable def o_I_rowsText_3 : List Out := [⟨.exit 0, ⟨[], [3]⟩, mkSh 21 [(3, .val .str .b)]⟩]
noncomputable def b_I_rowsText_3 (t3 : PV .str) (t6 : PV S_impl_Row) (t7 : PV (.int .i64)) (t8 : PV (.int .i64)) : Option ((PV .str × PV S_impl_Row × PV (.int .i64) × PV (.int .i64) × Unit) ⊕ ((PV .str × Unit))) :=
  bif (decide (t8 < t7)) then
    bif inB t8 t6.length then
      (f_I_Row_sign (t6.getD t8.toNat (dflt Y_impl_Row))).bind fun r3 =>
        (f_I_shown r3.1.1 (((t6.getD t8.toNat (dflt Y_impl_Row)).2).1)).bind fun r4 =>
          bif decide (t3.length + r4.1.1.length ≤ 1099511627776) then
            some (.inl ((t3 ++ r4.1.1), t6, t7, (IntKind.wrap .i64 (t8 + 1)), ()))
          else
            none
    else
      none
  else
    some (.inr (t3, ()))
noncomputable def w_I_rowsText_3 : PV .str × PV S_impl_Row × PV (.int .i64) × PV (.int .i64) × Unit → Option ((PV .str × Unit)) := fix fun d => b_I_rowsText_3 d.1 d.2.1 d.2.2.1 d.2.2.2.1
noncomputable def lp_I_rowsText_3 : Lp := ⟨⟨[], [3, 6, 7, 8]⟩, sh_I_rowsText_3, o_I_rowsText_3, fun d => b_I_rowsText_3 d.1 d.2.1 d.2.2.1 d.2.2.2.1⟩
noncomputable def pl_I_rowsText : Plan := ⟨[], [(3, lp_I_rowsText_3)], 0, 0⟩
noncomputable def f_I_rowsText (t0 : PV S_impl_Row) : Option (PVs [.str] × PVs []) :=
  (w_I_rowsText_3 ([], t0, (t0.length : Int), 0, ())).bind fun l6 =>
    some ((l6.1, ()), ())
noncomputable def ct_I_rowsText : Ct := ⟨[(.bor, S_impl_Row)], [(.str, false)], fun x => f_I_rowsText x.1⟩
noncomputable def cx_I_rowsText : Cx := ⟨tab, arrs, [(157, ct_I_shown), (158, ct_I_Row_sign)], [], gl⟩
theorem eb_I_rowsText_3 (t3 : PV .str) (t6 : PV S_impl_Row) (t7 : PV (.int .i64)) (t8 : PV (.int .i64)) : denK cx_I_rowsText (rcN cx_I_rowsText 0) pl_I_rowsText 0 ((loopsOf (bodyOf Tryd.f111)).getD 0 .skip) (fillS sh_I_rowsText_3 (t3, t6, t7, t8, ())) (roundK 0 lp_I_rowsText_3) = b_I_rowsText_3 t3 t6 t7 t8 := by kernel_rfl
theorem ef_I_rowsText (t0 : PV S_impl_Row) : denF cx_I_rowsText 0 pl_I_rowsText Tryd.f111.ntmps (bodyOf Tryd.f111) Tryd.f111.results.toList [(.bor, S_impl_Row)] [(.str, false)] (t0, ()) = f_I_rowsText t0 := by kernel_rfl
theorem ok_I_rowsText : FnOk gl Tryd.prog 111 ct_I_rowsText :=
  fnOk (cx := cx_I_rowsText) (pl := pl_I_rowsText) (dp := 0) (ok0_of tabOk (by unfold ArrOk; kernel_rfl) mix ⟨ok_I_shown, ok_I_Row_sign, trivial⟩ trivial) Tryd.func111 (by kernel_rfl) (by kernel_rfl) (by kernel_rfl)
    (by rw [show loopsOf (bodyOf Tryd.f111) = [((loopsOf (bodyOf Tryd.f111)).getD 0 .skip)] from by kernel_rfl]; exact ⟨(by rw [show lookup pl_I_rowsText.loops (firstId ((loopsOf (bodyOf Tryd.f111)).getD 0 .skip)) = some lp_I_rowsText_3 from by kernel_rfl]; exact fun d z h => (eb_I_rowsText_3 d.1 d.2.1 d.2.2.1 d.2.2.2.1).trans h), trivial⟩) (fun x => ef_I_rowsText x.1)
noncomputable def sh_I_groupsText_3 : List Sh := mkSh 33 [(3, .val .str .b), (6, .val S_impl_Group .b), (7, .val (.int .i64) .b), (8, .val (.int .i64) .b)]
noncomputable def o_I_groupsText_3 : List Out := [⟨.exit 0, ⟨[], [3]⟩, mkSh 33 [(3, .val .str .b)]⟩]
noncomputable def b_I_groupsText_3 (t3 : PV .str) (t6 : PV S_impl_Group) (t7 : PV (.int .i64)) (t8 : PV (.int .i64)) : Option ((PV .str × PV S_impl_Group × PV (.int .i64) × PV (.int .i64) × Unit) ⊕ ((PV .str × Unit))) :=
  bif (decide (t8 < t7)) then
    bif inB t8 t6.length then
      (f_I_Group_old (t6.getD t8.toNat (dflt Y_impl_Group))).bind fun r7 =>
        (f_I_countOf ((t6.getD t8.toNat (dflt Y_impl_Group)).1) (r7.1.1.length : Int)).bind fun r8 =>
          (f_I_Group_fresh (t6.getD t8.toNat (dflt Y_impl_Group))).bind fun r9 =>
            (f_I_countOf (((t6.getD t8.toNat (dflt Y_impl_Group)).2).1) (r9.1.1.length : Int)).bind fun r10 =>
              (f_I_headText r8.1.1 r10.1.1).bind fun r11 =>
                (f_I_rowsText ((((t6.getD t8.toNat (dflt Y_impl_Group)).2).2).1)).bind fun r12 =>
                  bif decide (r11.1.1.length + r12.1.1.length ≤ 1099511627776) then
                    bif decide (t3.length + (r11.1.1 ++ r12.1.1).length ≤ 1099511627776) then
                      some (.inl ((t3 ++ (r11.1.1 ++ r12.1.1)), t6, t7, (IntKind.wrap .i64 (t8 + 1)), ()))
                    else
                      none
                  else
                    none
    else
      none
  else
    some (.inr (t3, ()))
noncomputable def w_I_groupsText_3 : PV .str × PV S_impl_Group × PV (.int .i64) × PV (.int .i64) × Unit → Option ((PV .str × Unit)) := fix fun d => b_I_groupsText_3 d.1 d.2.1 d.2.2.1 d.2.2.2.1
noncomputable def lp_I_groupsText_3 : Lp := ⟨⟨[], [3, 6, 7, 8]⟩, sh_I_groupsText_3, o_I_groupsText_3, fun d => b_I_groupsText_3 d.1 d.2.1 d.2.2.1 d.2.2.2.1⟩
noncomputable def pl_I_groupsText : Plan := ⟨[], [(3, lp_I_groupsText_3)], 0, 0⟩
noncomputable def f_I_groupsText (t0 : PV S_impl_Group) : Option (PVs [.str] × PVs []) :=
  (w_I_groupsText_3 ([], t0, (t0.length : Int), 0, ())).bind fun l14 =>
    some ((l14.1, ()), ())
noncomputable def ct_I_groupsText : Ct := ⟨[(.bor, S_impl_Group)], [(.str, false)], fun x => f_I_groupsText x.1⟩
noncomputable def cx_I_groupsText : Cx := ⟨tab, arrs, [(107, ct_I_Group_old), (108, ct_I_Group_fresh), (109, ct_I_headText), (110, ct_I_countOf), (111, ct_I_rowsText)], [], gl⟩
theorem eb_I_groupsText_3 (t3 : PV .str) (t6 : PV S_impl_Group) (t7 : PV (.int .i64)) (t8 : PV (.int .i64)) : denK cx_I_groupsText (rcN cx_I_groupsText 0) pl_I_groupsText 0 ((loopsOf (bodyOf Tryd.f65)).getD 0 .skip) (fillS sh_I_groupsText_3 (t3, t6, t7, t8, ())) (roundK 0 lp_I_groupsText_3) = b_I_groupsText_3 t3 t6 t7 t8 := by kernel_rfl
theorem ef_I_groupsText (t0 : PV S_impl_Group) : denF cx_I_groupsText 0 pl_I_groupsText Tryd.f65.ntmps (bodyOf Tryd.f65) Tryd.f65.results.toList [(.bor, S_impl_Group)] [(.str, false)] (t0, ()) = f_I_groupsText t0 := by kernel_rfl
theorem ok_I_groupsText : FnOk gl Tryd.prog 65 ct_I_groupsText :=
  fnOk (cx := cx_I_groupsText) (pl := pl_I_groupsText) (dp := 0) (ok0_of tabOk (by unfold ArrOk; kernel_rfl) mix ⟨ok_I_Group_old, ok_I_Group_fresh, ok_I_headText, ok_I_countOf, ok_I_rowsText, trivial⟩ trivial) Tryd.func65 (by kernel_rfl) (by kernel_rfl) (by kernel_rfl)
    (by rw [show loopsOf (bodyOf Tryd.f65) = [((loopsOf (bodyOf Tryd.f65)).getD 0 .skip)] from by kernel_rfl]; exact ⟨(by rw [show lookup pl_I_groupsText.loops (firstId ((loopsOf (bodyOf Tryd.f65)).getD 0 .skip)) = some lp_I_groupsText_3 from by kernel_rfl]; exact fun d z h => (eb_I_groupsText_3 d.1 d.2.1 d.2.2.1 d.2.2.2.1).trans h), trivial⟩) (fun x => ef_I_groupsText x.1)
noncomputable def pl_I_short : Plan := ⟨[], [], 0, 0⟩
noncomputable def f_I_short (t0 : PV .str) : Option (PVs [.str, .bool] × PVs []) :=
  bif (decide ((t0.length : Int) > 3000)) then
    some (([], false, ()), ())
  else
    some ((t0, true, ()), ())
noncomputable def ct_I_short : Ct := ⟨[(.bor, .str)], [(.str, false), (.bool, false)], fun x => f_I_short x.1⟩
noncomputable def cx_I_short : Cx := ⟨tab, arrs, [], [], gl⟩
theorem ef_I_short (t0 : PV .str) : denF cx_I_short 0 pl_I_short Tryd.f58.ntmps (bodyOf Tryd.f58) Tryd.f58.results.toList [(.bor, .str)] [(.str, false), (.bool, false)] (t0, ()) = f_I_short t0 := by kernel_rfl
theorem ok_I_short : FnOk gl Tryd.prog 58 ct_I_short :=
  fnOk (cx := cx_I_short) (pl := pl_I_short) (dp := 0) (ok0_of tabOk (by unfold ArrOk; kernel_rfl) mix trivial trivial) Tryd.func58 (by kernel_rfl) (by kernel_rfl) (by kernel_rfl)
    (by rw [show loopsOf (bodyOf Tryd.f58) = [] from by kernel_rfl]; exact trivial) (fun x => ef_I_short x.1)
noncomputable def pl_I_GroupsText : Plan := ⟨[], [], 0, 0⟩
noncomputable def f_I_GroupsText (t0 : PV S_impl_Group) : Option (PVs [.str, .bool] × PVs []) :=
  (f_I_goodGroups t0).bind fun r4 =>
    bif (!r4.1.1) then
      some (([], false, ()), ())
    else
      (f_I_groupsText t0).bind fun r5 =>
        (f_I_short r5.1.1).bind fun r6 =>
          some ((r6.1.1, r6.1.2.1, ()), ())
noncomputable def ct_I_GroupsText : Ct := ⟨[(.bor, S_impl_Group)], [(.str, false), (.bool, false)], fun x => f_I_GroupsText x.1⟩
noncomputable def cx_I_GroupsText : Cx := ⟨tab, arrs, [(58, ct_I_short), (64, ct_I_goodGroups), (65, ct_I_groupsText)], [], gl⟩
theorem ef_I_GroupsText (t0 : PV S_impl_Group) : denF cx_I_GroupsText 0 pl_I_GroupsText Tryd.f19.ntmps (bodyOf Tryd.f19) Tryd.f19.results.toList [(.bor, S_impl_Group)] [(.str, false), (.bool, false)] (t0, ()) = f_I_GroupsText t0 := by kernel_rfl
theorem ok_I_GroupsText : FnOk gl Tryd.prog 19 ct_I_GroupsText :=
  fnOk (cx := cx_I_GroupsText) (pl := pl_I_GroupsText) (dp := 0) (ok0_of tabOk (by unfold ArrOk; kernel_rfl) mix ⟨ok_I_short, ok_I_goodGroups, ok_I_groupsText, trivial⟩ trivial) Tryd.func19 (by kernel_rfl) (by kernel_rfl) (by kernel_rfl)
    (by rw [show loopsOf (bodyOf Tryd.f19) = [] from by kernel_rfl]; exact trivial) (fun x => ef_I_GroupsText x.1)
noncomputable def pl_L_eqRow : Plan := ⟨[], [], 0, 0⟩
noncomputable def f_L_eqRow (t0 : PV Y_impl_Row) (t1 : PV Y_impl_Row) : Option (PVs [.bool] × PVs []) :=
  bif (!(t0.1 == t1.1)) then
    some ((false, ()), ())
  else
    bif (!(t0.2.1 == t1.2.1)) then
      some ((false, ()), ())
    else
      some ((true, ()), ())
noncomputable def ct_L_eqRow : Ct := ⟨[(.bor, Y_impl_Row), (.bor, Y_impl_Row)], [(.bool, false)], fun x => f_L_eqRow x.1 x.2.1⟩
noncomputable def cx_L_eqRow : Cx := ⟨tab, arrs, [], [], gl⟩
theorem ef_L_eqRow (t0 : PV Y_impl_Row) (t1 : PV Y_impl_Row) : denF cx_L_eqRow 0 pl_L_eqRow Tryd.f159.ntmps (bodyOf Tryd.f159) Tryd.f159.results.toList [(.bor, Y_impl_Row), (.bor, Y_impl_Row)] [(.bool, false)] (t0, t1, ()) = f_L_eqRow t0 t1 := by kernel_rfl
theorem ok_L_eqRow : FnOk gl Tryd.prog 159 ct_L_eqRow :=
  fnOk (cx := cx_L_eqRow) (pl := pl_L_eqRow) (dp := 0) (ok0_of tabOk (by unfold ArrOk; kernel_rfl) mix trivial trivial) Tryd.func159 (by kernel_rfl) (by kernel_rfl) (by kernel_rfl)
    (by rw [show loopsOf (bodyOf Tryd.f159) = [] from by kernel_rfl]; exact trivial) (fun x => ef_L_eqRow x.1 x.2.1)
noncomputable def sh_L_eqRowS_4 : List Sh := mkSh 27 [(0, .val S_impl_Row .b), (1, .val S_impl_Row .b), (5, .val (.int .i64) .b)]
noncomputable def o_L_eqRowS_4 : List Out := [⟨.exit 0, ⟨[], []⟩, mkSh 27 []⟩, ⟨.ret, ⟨[], [4]⟩, mkSh 27 [(4, .val .bool .b)]⟩]
noncomputable def b_L_eqRowS_4 (t0 : PV S_impl_Row) (t1 : PV S_impl_Row) (t5 : PV (.int .i64)) : Option ((PV S_impl_Row × PV S_impl_Row × PV (.int .i64) × Unit) ⊕ ((Unit) ⊕ (PV .bool × Unit))) :=
  bif (decide (t5 < (t0.length : Int))) then
    bif inB t5 t0.length then
      bif inB t5 t1.length then
        (f_L_eqRow (t0.getD t5.toNat (dflt Y_impl_Row)) (t1.getD t5.toNat (dflt Y_impl_Row))).bind fun r4 =>
          bif (!r4.1.1) then
            some (.inr (.inr (false, ())))
          else
            some (.inl (t0, t1, (IntKind.wrap .i64 (t5 + 1)), ()))
      else
        none
    else
      none
  else
    some (.inr (.inl ()))
noncomputable def w_L_eqRowS_4 : PV S_impl_Row × PV S_impl_Row × PV (.int .i64) × Unit → Option ((Unit) ⊕ (PV .bool × Unit)) := fix fun d => b_L_eqRowS_4 d.1 d.2.1 d.2.2.1
noncomputable def lp_L_eqRowS_4 : Lp := ⟨⟨[], [0, 1, 5]⟩, sh_L_eqRowS_4, o_L_eqRowS_4, fun d => b_L_eqRowS_4 d.1 d.2.1 d.2.2.1⟩
noncomputable def pl_L_eqRowS : Plan := ⟨[], [(4, lp_L_eqRowS_4)], 0, 0⟩
noncomputable def f_L_eqRowS (t0 : PV S_impl_Row) (t1 : PV S_impl_Row) : Option (PVs [.bool] × PVs []) :=
  bif (!((t0.length : Int) == (t1.length : Int))) then
    some ((false, ()), ())
  else
    (w_L_eqRowS_4 (t0, t1, 0, ())).bind fun x9 =>
      match x9 with
      | .inl l7 =>
        some ((true, ()), ())
      | .inr l8 =>
        some ((l8.1, ()), ())
noncomputable def ct_L_eqRowS : Ct := ⟨[(.bor, S_impl_Row), (.bor, S_impl_Row)], [(.bool, false)], fun x => f_L_eqRowS x.1 x.2.1⟩
noncomputable def cx_L_eqRowS : Cx := ⟨tab, arrs, [(159, ct_L_eqRow)], [], gl⟩
theorem eb_L_eqRowS_4 (t0 : PV S_impl_Row) (t1 : PV S_impl_Row) (t5 : PV (.int .i64)) : denK cx_L_eqRowS (rcN cx_L_eqRowS 0) pl_L_eqRowS 0 ((loopsOf (bodyOf Tryd.f112)).getD 0 .skip) (fillS sh_L_eqRowS_4 (t0, t1, t5, ())) (roundK 0 lp_L_eqRowS_4) = b_L_eqRowS_4 t0 t1 t5 := by kernel_rfl
theorem ef_L_eqRowS (t0 : PV S_impl_Row) (t1 : PV S_impl_Row) : denF cx_L_eqRowS 0 pl_L_eqRowS Tryd.f112.ntmps (bodyOf Tryd.f112) Tryd.f112.results.toList [(.bor, S_impl_Row), (.bor, S_impl_Row)] [(.bool, false)] (t0, t1, ()) = f_L_eqRowS t0 t1 := by kernel_rfl
theorem ok_L_eqRowS : FnOk gl Tryd.prog 112 ct_L_eqRowS :=
  fnOk (cx := cx_L_eqRowS) (pl := pl_L_eqRowS) (dp := 0) (ok0_of tabOk (by unfold ArrOk; kernel_rfl) mix ⟨ok_L_eqRow, trivial⟩ trivial) Tryd.func112 (by kernel_rfl) (by kernel_rfl) (by kernel_rfl)
    (by rw [show loopsOf (bodyOf Tryd.f112) = [((loopsOf (bodyOf Tryd.f112)).getD 0 .skip)] from by kernel_rfl]; exact ⟨(by rw [show lookup pl_L_eqRowS.loops (firstId ((loopsOf (bodyOf Tryd.f112)).getD 0 .skip)) = some lp_L_eqRowS_4 from by kernel_rfl]; exact fun d z h => (eb_L_eqRowS_4 d.1 d.2.1 d.2.2.1).trans h), trivial⟩) (fun x => ef_L_eqRowS x.1 x.2.1)
noncomputable def pl_L_eqGroup : Plan := ⟨[], [], 0, 0⟩
noncomputable def f_L_eqGroup (t0 : PV Y_impl_Group) (t1 : PV Y_impl_Group) : Option (PVs [.bool] × PVs []) :=
  bif (!(t0.1 == t1.1)) then
    some ((false, ()), ())
  else
    bif (!(t0.2.1 == t1.2.1)) then
      some ((false, ()), ())
    else
      (f_L_eqRowS t0.2.2.1 t1.2.2.1).bind fun r4 =>
        bif (!r4.1.1) then
          some ((false, ()), ())
        else
          some ((true, ()), ())
noncomputable def ct_L_eqGroup : Ct := ⟨[(.bor, Y_impl_Group), (.bor, Y_impl_Group)], [(.bool, false)], fun x => f_L_eqGroup x.1 x.2.1⟩
noncomputable def cx_L_eqGroup : Cx := ⟨tab, arrs, [(112, ct_L_eqRowS)], [], gl⟩
theorem ef_L_eqGroup (t0 : PV Y_impl_Group) (t1 : PV Y_impl_Group) : denF cx_L_eqGroup 0 pl_L_eqGroup Tryd.f66.ntmps (bodyOf Tryd.f66) Tryd.f66.results.toList [(.bor, Y_impl_Group), (.bor, Y_impl_Group)] [(.bool, false)] (t0, t1, ()) = f_L_eqGroup t0 t1 := by kernel_rfl
theorem ok_L_eqGroup : FnOk gl Tryd.prog 66 ct_L_eqGroup :=
  fnOk (cx := cx_L_eqGroup) (pl := pl_L_eqGroup) (dp := 0) (ok0_of tabOk (by unfold ArrOk; kernel_rfl) mix ⟨ok_L_eqRowS, trivial⟩ trivial) Tryd.func66 (by kernel_rfl) (by kernel_rfl) (by kernel_rfl)
    (by rw [show loopsOf (bodyOf Tryd.f66) = [] from by kernel_rfl]; exact trivial) (fun x => ef_L_eqGroup x.1 x.2.1)
noncomputable def sh_L_eqGroupS_4 : List Sh := mkSh 27 [(0, .val S_impl_Group .b), (1, .val S_impl_Group .b), (5, .val (.int .i64) .b)]
noncomputable def o_L_eqGroupS_4 : List Out := [⟨.exit 0, ⟨[], []⟩, mkSh 27 []⟩, ⟨.ret, ⟨[], [4]⟩, mkSh 27 [(4, .val .bool .b)]⟩]
noncomputable def b_L_eqGroupS_4 (t0 : PV S_impl_Group) (t1 : PV S_impl_Group) (t5 : PV (.int .i64)) : Option ((PV S_impl_Group × PV S_impl_Group × PV (.int .i64) × Unit) ⊕ ((Unit) ⊕ (PV .bool × Unit))) :=
  bif (decide (t5 < (t0.length : Int))) then
    bif inB t5 t0.length then
      bif inB t5 t1.length then
        (f_L_eqGroup (t0.getD t5.toNat (dflt Y_impl_Group)) (t1.getD t5.toNat (dflt Y_impl_Group))).bind fun r4 =>
          bif (!r4.1.1) then
            some (.inr (.inr (false, ())))
          else
            some (.inl (t0, t1, (IntKind.wrap .i64 (t5 + 1)), ()))
      else
        none
    else
      none
  else
    some (.inr (.inl ()))
noncomputable def w_L_eqGroupS_4 : PV S_impl_Group × PV S_impl_Group × PV (.int .i64) × Unit → Option ((Unit) ⊕ (PV .bool × Unit)) := fix fun d => b_L_eqGroupS_4 d.1 d.2.1 d.2.2.1
noncomputable def lp_L_eqGroupS_4 : Lp := ⟨⟨[], [0, 1, 5]⟩, sh_L_eqGroupS_4, o_L_eqGroupS_4, fun d => b_L_eqGroupS_4 d.1 d.2.1 d.2.2.1⟩
noncomputable def pl_L_eqGroupS : Plan := ⟨[], [(4, lp_L_eqGroupS_4)], 0, 0⟩
noncomputable def f_L_eqGroupS (t0 : PV S_impl_Group) (t1 : PV S_impl_Group) : Option (PVs [.bool] × PVs []) :=
  bif (!((t0.length : Int) == (t1.length : Int))) then
    some ((false, ()), ())
  else
    (w_L_eqGroupS_4 (t0, t1, 0, ())).bind fun x9 =>
      match x9 with
      | .inl l7 =>
        some ((true, ()), ())
      | .inr l8 =>
        some ((l8.1, ()), ())
noncomputable def ct_L_eqGroupS : Ct := ⟨[(.bor, S_impl_Group), (.bor, S_impl_Group)], [(.bool, false)], fun x => f_L_eqGroupS x.1 x.2.1⟩
noncomputable def cx_L_eqGroupS : Cx := ⟨tab, arrs, [(66, ct_L_eqGroup)], [], gl⟩
theorem eb_L_eqGroupS_4 (t0 : PV S_impl_Group) (t1 : PV S_impl_Group) (t5 : PV (.int .i64)) : denK cx_L_eqGroupS (rcN cx_L_eqGroupS 0) pl_L_eqGroupS 0 ((loopsOf (bodyOf Tryd.f20)).getD 0 .skip) (fillS sh_L_eqGroupS_4 (t0, t1, t5, ())) (roundK 0 lp_L_eqGroupS_4) = b_L_eqGroupS_4 t0 t1 t5 := by kernel_rfl
theorem ef_L_eqGroupS (t0 : PV S_impl_Group) (t1 : PV S_impl_Group) : denF cx_L_eqGroupS 0 pl_L_eqGroupS Tryd.f20.ntmps (bodyOf Tryd.f20) Tryd.f20.results.toList [(.bor, S_impl_Group), (.bor, S_impl_Group)] [(.bool, false)] (t0, t1, ()) = f_L_eqGroupS t0 t1 := by kernel_rfl
theorem ok_L_eqGroupS : FnOk gl Tryd.prog 20 ct_L_eqGroupS :=
  fnOk (cx := cx_L_eqGroupS) (pl := pl_L_eqGroupS) (dp := 0) (ok0_of tabOk (by unfold ArrOk; kernel_rfl) mix ⟨ok_L_eqGroup, trivial⟩ trivial) Tryd.func20 (by kernel_rfl) (by kernel_rfl) (by kernel_rfl)
    (by rw [show loopsOf (bodyOf Tryd.f20) = [((loopsOf (bodyOf Tryd.f20)).getD 0 .skip)] from by kernel_rfl]; exact ⟨(by rw [show lookup pl_L_eqGroupS.loops (firstId ((loopsOf (bodyOf Tryd.f20)).getD 0 .skip)) = some lp_L_eqGroupS_4 from by kernel_rfl]; exact fun d z h => (eb_L_eqGroupS_4 d.1 d.2.1 d.2.2.1).trans h), trivial⟩) (fun x => ef_L_eqGroupS x.1 x.2.1)
noncomputable def o_L_FnExactGroupsText_9 : List Out := [⟨.normal, ⟨[], [0, 6, 34]⟩, mkSh 40 [(0, .val S_laws_Group .b), (6, .val S_impl_Group (.row (.pr .b (.pr .b (.pr (.row (.pr .b (.pr .b .b))) .b))))), (34, .val .bool .b)]⟩]
noncomputable def pl_L_FnExactGroupsText : Plan := ⟨[(9, o_L_FnExactGroupsText_9)], [], 0, 0⟩
noncomputable def f_L_FnExactGroupsText (t0 : PV S_laws_Group) : Option (PVs [.bool] × PVs []) :=
  (f_L_szGroupS t0 1048576).bind fun r2 =>
    bif (decide (r2.1.1 < 0)) then
      some ((true, ()), ())
    else
      (f_L_toGroupS t0).bind fun r5 =>
        (f_S_GroupsText r5.1.1).bind fun r6 =>
          (f_L_toGroupS t0).bind fun r8 =>
            (f_I_GroupsText r8.1.1).bind fun r10 =>
              ((
                  bif (!(r10.1.1 == r6.1.1)) then
                    some (t0, r8.1.1, true, ())
                  else
                    some (t0, r8.1.1, (!(r10.1.2.1 == r6.1.2.1)), ()) : Option ((PV S_laws_Group × PV S_impl_Group × PV .bool × Unit)))).bind fun j12 =>
                bif j12.2.2.1 then
                  some ((false, ()), ())
                else
                  (f_L_toGroupS j12.1).bind fun r19 =>
                    (f_L_eqGroupS j12.2.1 r19.1.1).bind fun r20 =>
                      bif (!r20.1.1) then
                        some ((false, ()), ())
                      else
                        some ((true, ()), ())
noncomputable def ct_L_FnExactGroupsText : Ct := ⟨[(.bor, S_laws_Group)], [(.bool, false)], fun x => f_L_FnExactGroupsText x.1⟩
noncomputable def cx_L_FnExactGroupsText : Cx := ⟨tab, arrs, [(16, ct_L_szGroupS), (17, ct_S_GroupsText), (18, ct_L_toGroupS), (19, ct_I_GroupsText), (20, ct_L_eqGroupS)], [], gl⟩
theorem ef_L_FnExactGroupsText (t0 : PV S_laws_Group) : denF cx_L_FnExactGroupsText 0 pl_L_FnExactGroupsText Tryd.f4.ntmps (bodyOf Tryd.f4) Tryd.f4.results.toList [(.bor, S_laws_Group)] [(.bool, false)] (t0, ()) = f_L_FnExactGroupsText t0 := by kernel_rfl
theorem ok_L_FnExactGroupsText : FnOk gl Tryd.prog 4 ct_L_FnExactGroupsText :=
  fnOk (cx := cx_L_FnExactGroupsText) (pl := pl_L_FnExactGroupsText) (dp := 0) (ok0_of tabOk (by unfold ArrOk; kernel_rfl) mix ⟨ok_L_szGroupS, ok_S_GroupsText, ok_L_toGroupS, ok_I_GroupsText, ok_L_eqGroupS, trivial⟩ trivial) Tryd.func4 (by kernel_rfl) (by kernel_rfl) (by kernel_rfl)
    (by rw [show loopsOf (bodyOf Tryd.f4) = [] from by kernel_rfl]; exact trivial) (fun x => ef_L_FnExactGroupsText x.1)
noncomputable def o_S_l4Pair_4 : List Out := [⟨.normal, ⟨[], [5]⟩, mkSh 20 [(5, .val .str .b)]⟩]
noncomputable def pl_S_l4Pair : Plan := ⟨[(4, o_S_l4Pair_4)], [], 0, 0⟩
noncomputable def f_S_l4Pair (t0 : PV (.int .i64)) (t1 : PV (.int .i64)) : Option (PVs [.str] × PVs []) :=
  (f_S_l4Number t0 t1).bind fun r3 =>
    (f_S_l1Num r3.1.1).bind fun r4 =>
      ((
          bif (decide (t1 > 1)) then
            (f_S_l1Num (IntKind.wrap .i64 (t0 + t1))).bind fun r6 =>
              bif decide ([44].length + r6.1.1.length ≤ 1099511627776) then
                bif decide (r4.1.1.length + ([44] ++ r6.1.1).length ≤ 1099511627776) then
                  some ((r4.1.1 ++ ([44] ++ r6.1.1)), ())
                else
                  none
              else
                none
          else
            some (r4.1.1, ()) : Option ((PV .str × Unit)))).bind fun j7 =>
        some ((j7.1, ()), ())
noncomputable def ct_S_l4Pair : Ct := ⟨[(.bor, (.int .i64)), (.bor, (.int .i64))], [(.str, false)], fun x => f_S_l4Pair x.1 x.2.1⟩
noncomputable def cx_S_l4Pair : Cx := ⟨tab, arrs, [(69, ct_S_l1Num), (154, ct_S_l4Number)], [], gl⟩
theorem ef_S_l4Pair (t0 : PV (.int .i64)) (t1 : PV (.int .i64)) : denF cx_S_l4Pair 0 pl_S_l4Pair Tryd.f118.ntmps (bodyOf Tryd.f118) Tryd.f118.results.toList [(.bor, (.int .i64)), (.bor, (.int .i64))] [(.str, false)] (t0, t1, ()) = f_S_l4Pair t0 t1 := by kernel_rfl
theorem ok_S_l4Pair : FnOk gl Tryd.prog 118 ct_S_l4Pair :=
  fnOk (cx := cx_S_l4Pair) (pl := pl_S_l4Pair) (dp := 0) (ok0_of tabOk (by unfold ArrOk; kernel_rfl) mix ⟨ok_S_l1Num, ok_S_l4Number, trivial⟩ trivial) Tryd.func118 (by kernel_rfl) (by kernel_rfl) (by kernel_rfl)
    (by rw [show loopsOf (bodyOf Tryd.f118) = [] from by kernel_rfl]; exact trivial) (fun x => ef_S_l4Pair x.1 x.2.1)
noncomputable def sh_S_l8Some_2 : List Sh := mkSh 19 [(1, .val (.int .i64) .b), (8, .val S_impl_Row .b), (9, .val (.int .i64) .b), (10, .val (.int .i64) .b)]
noncomputable def o_S_l8Some_2 : List Out := [⟨.exit 0, ⟨[], []⟩, mkSh 19 []⟩, ⟨.ret, ⟨[], [4]⟩, mkSh 19 [(4, .val .bool .b)]⟩]
noncomputable def b_S_l8Some_2 (t1 : PV (.int .i64)) (t8 : PV S_impl_Row) (t9 : PV (.int .i64)) (t10 : PV (.int .i64)) : Option ((PV (.int .i64) × PV S_impl_Row × PV (.int .i64) × PV (.int .i64) × Unit) ⊕ ((Unit) ⊕ (PV .bool × Unit))) :=
  bif (decide (t10 < t9)) then
    bif inB t10 t8.length then
      bif (((t8.getD t10.toNat (dflt Y_impl_Row)).1) == t1) then
        some (.inr (.inr (true, ())))
      else
        some (.inl (t1, t8, t9, (IntKind.wrap .i64 (t10 + 1)), ()))
    else
      none
  else
    some (.inr (.inl ()))
noncomputable def w_S_l8Some_2 : PV (.int .i64) × PV S_impl_Row × PV (.int .i64) × PV (.int .i64) × Unit → Option ((Unit) ⊕ (PV .bool × Unit)) := fix fun d => b_S_l8Some_2 d.1 d.2.1 d.2.2.1 d.2.2.2.1
noncomputable def lp_S_l8Some_2 : Lp := ⟨⟨[], [1, 8, 9, 10]⟩, sh_S_l8Some_2, o_S_l8Some_2, fun d => b_S_l8Some_2 d.1 d.2.1 d.2.2.1 d.2.2.2.1⟩
noncomputable def pl_S_l8Some : Plan := ⟨[], [(2, lp_S_l8Some_2)], 0, 0⟩
noncomputable def f_S_l8Some (t0 : PV Y_impl_Group) (t1 : PV (.int .i64)) : Option (PVs [.bool] × PVs []) :=
  (w_S_l8Some_2 (t1, t0.2.2.1, (t0.2.2.1.length : Int), 0, ())).bind fun x5 =>
    match x5 with
    | .inl l3 =>
      some ((false, ()), ())
    | .inr l4 =>
      some ((l4.1, ()), ())
noncomputable def ct_S_l8Some : Ct := ⟨[(.bor, Y_impl_Group), (.bor, (.int .i64))], [(.bool, false)], fun x => f_S_l8Some x.1 x.2.1⟩
noncomputable def cx_S_l8Some : Cx := ⟨tab, arrs, [], [], gl⟩
theorem eb_S_l8Some_2 (t1 : PV (.int .i64)) (t8 : PV S_impl_Row) (t9 : PV (.int .i64)) (t10 : PV (.int .i64)) : denK cx_S_l8Some (rcN cx_S_l8Some 0) pl_S_l8Some 0 ((loopsOf (bodyOf Tryd.f119)).getD 0 .skip) (fillS sh_S_l8Some_2 (t1, t8, t9, t10, ())) (roundK 0 lp_S_l8Some_2) = b_S_l8Some_2 t1 t8 t9 t10 := by kernel_rfl
theorem ef_S_l8Some (t0 : PV Y_impl_Group) (t1 : PV (.int .i64)) : denF cx_S_l8Some 0 pl_S_l8Some Tryd.f119.ntmps (bodyOf Tryd.f119) Tryd.f119.results.toList [(.bor, Y_impl_Group), (.bor, (.int .i64))] [(.bool, false)] (t0, t1, ()) = f_S_l8Some t0 t1 := by kernel_rfl
theorem ok_S_l8Some : FnOk gl Tryd.prog 119 ct_S_l8Some :=
  fnOk (cx := cx_S_l8Some) (pl := pl_S_l8Some) (dp := 0) (ok0_of tabOk (by unfold ArrOk; kernel_rfl) mix trivial trivial) Tryd.func119 (by kernel_rfl) (by kernel_rfl) (by kernel_rfl)
    (by rw [show loopsOf (bodyOf Tryd.f119) = [((loopsOf (bodyOf Tryd.f119)).getD 0 .skip)] from by kernel_rfl]; exact ⟨(by rw [show lookup pl_S_l8Some.loops (firstId ((loopsOf (bodyOf Tryd.f119)).getD 0 .skip)) = some lp_S_l8Some_2 from by kernel_rfl]; exact fun d z h => (eb_S_l8Some_2 d.1 d.2.1 d.2.2.1 d.2.2.2.1).trans h), trivial⟩) (fun x => ef_S_l8Some x.1 x.2.1)
noncomputable def pl_S_l1Most : Plan := ⟨[], [], 0, 0⟩
noncomputable def f_S_l1Most (t0 : PV (.int .i64)) (t1 : PV (.int .i64)) : Option (PVs [(.int .i64)] × PVs []) :=
  bif (decide (t0 > t1)) then
    some ((t0, ()), ())
  else
    some ((t1, ()), ())
noncomputable def ct_S_l1Most : Ct := ⟨[(.bor, (.int .i64)), (.bor, (.int .i64))], [((.int .i64), false)], fun x => f_S_l1Most x.1 x.2.1⟩
noncomputable def cx_S_l1Most : Cx := ⟨tab, arrs, [], [], gl⟩
theorem ef_S_l1Most (t0 : PV (.int .i64)) (t1 : PV (.int .i64)) : denF cx_S_l1Most 0 pl_S_l1Most Tryd.f194.ntmps (bodyOf Tryd.f194) Tryd.f194.results.toList [(.bor, (.int .i64)), (.bor, (.int .i64))] [((.int .i64), false)] (t0, t1, ()) = f_S_l1Most t0 t1 := by kernel_rfl
theorem ok_S_l1Most : FnOk gl Tryd.prog 194 ct_S_l1Most :=
  fnOk (cx := cx_S_l1Most) (pl := pl_S_l1Most) (dp := 0) (ok0_of tabOk (by unfold ArrOk; kernel_rfl) mix trivial trivial) Tryd.func194 (by kernel_rfl) (by kernel_rfl) (by kernel_rfl)
    (by rw [show loopsOf (bodyOf Tryd.f194) = [] from by kernel_rfl]; exact trivial) (fun x => ef_S_l1Most x.1 x.2.1)
noncomputable def o_S_l8Runs_9 : List Out := [⟨.normal, ⟨[], [1, 4, 5, 6, 7, 8, 9, 10, 27, 28, 29, 30, 31, 32, 33, 47, 48, 49, 50, 51, 52, 53]⟩, mkSh 77 [(1, .var Y_impl_Group .b), (4, .val (.int .i64) .b), (5, .val S_bool (.row .b)), (6, .val S_bool (.row .b)), (7, .val (.int .i64) .b), (8, .val (.int .i64) .b), (9, .val .bool .b), (10, .val .bool .b), (27, .addr ⟨1, [.r, .r, .l], 0, 0⟩), (28, .val S_impl_Row .b), (29, .val (.int .i64) .b), (30, .bad Y_impl_Row), (31, .bad (.int .i64)), (32, .val (.int .i64) .b), (33, .val .bool .b)]⟩]
noncomputable def o_S_l8Runs_10 : List Out := [⟨.normal, ⟨[], [1, 4, 5, 6, 7, 8, 9, 10, 27, 28, 29, 30, 31, 32, 33, 37, 38, 39, 40, 41, 42, 43]⟩, mkSh 77 [(1, .var Y_impl_Group .b), (4, .val (.int .i64) .b), (5, .val S_bool (.row .b)), (6, .val S_bool (.row .b)), (7, .val (.int .i64) .b), (8, .val (.int .i64) .b), (9, .val .bool .b), (10, .val .bool .b), (27, .addr ⟨1, [.r, .r, .l], 0, 0⟩), (28, .val S_impl_Row .b), (29, .val (.int .i64) .b), (30, .bad Y_impl_Row), (31, .bad (.int .i64)), (32, .val (.int .i64) .b), (33, .val .bool .b)]⟩]
noncomputable def sh_S_l8Runs_7 : List Sh := mkSh 77 [(1, .var Y_impl_Group .b), (4, .val (.int .i64) .b), (5, .val S_bool (.row .b)), (6, .val S_bool (.row .b)), (7, .val (.int .i64) .b), (8, .val (.int .i64) .b), (9, .val .bool .b), (10, .val .bool .b)]
noncomputable def o_S_l8Runs_7 : List Out := [⟨.exit 2, ⟨[], [1, 4, 5, 6, 7, 8, 9, 10, 37, 38, 39, 40, 41, 42, 43, 47, 48, 49, 50, 51, 52, 53]⟩, mkSh 77 [(1, .var Y_impl_Group .b), (4, .val (.int .i64) .b), (5, .val S_bool (.row .b)), (6, .val S_bool (.row .b)), (7, .val (.int .i64) .b), (8, .val (.int .i64) .b), (9, .val .bool .b), (10, .val .bool .b)]⟩]
noncomputable def b_S_l8Runs_7 (t1 : PV Y_impl_Group) (t4 : PV (.int .i64)) (t5 : PV S_bool) (t6 : PV S_bool) (t7 : PV (.int .i64)) (t8 : PV (.int .i64)) (t9 : PV .bool) (t10 : PV .bool) : Option ((PV Y_impl_Group × PV (.int .i64) × PV S_bool × PV S_bool × PV (.int .i64) × PV (.int .i64) × PV .bool × PV .bool × Unit) ⊕ ((PV Y_impl_Group × PV (.int .i64) × PV S_bool × PV S_bool × PV (.int .i64) × PV (.int .i64) × PV .bool × PV .bool × Unit))) :=
  bif (decide (t8 < t4)) then
    bif inB t8 t1.2.2.1.length then
      bif (!(((t1.2.2.1.getD t8.toNat (dflt Y_impl_Row)).1) == 1)) then
        ((
            bif t9 then
              some (t1, t4, t5, t6, t7, t8, true, t10, t1.2.2.1, t8, (t1.2.2.1.getD t8.toNat (dflt Y_impl_Row)), (t1.2.2.1.getD t8.toNat (dflt Y_impl_Row)).1, (t1.2.2.1.getD t8.toNat (dflt Y_impl_Row)).1, (!(((t1.2.2.1.getD t8.toNat (dflt Y_impl_Row)).1) == 1)), ())
            else
              bif inB t8 t1.2.2.1.length then
                some (t1, t4, t5, t6, t7, t8, (((t1.2.2.1.getD t8.toNat (dflt Y_impl_Row)).1) == 2), t10, t1.2.2.1, t8, (t1.2.2.1.getD t8.toNat (dflt Y_impl_Row)), (t1.2.2.1.getD t8.toNat (dflt Y_impl_Row)).1, (t1.2.2.1.getD t8.toNat (dflt Y_impl_Row)).1, (!(((t1.2.2.1.getD t8.toNat (dflt Y_impl_Row)).1) == 1)), ())
              else
                none : Option ((PV Y_impl_Group × PV (.int .i64) × PV S_bool × PV S_bool × PV (.int .i64) × PV (.int .i64) × PV .bool × PV .bool × PV S_impl_Row × PV (.int .i64) × PV Y_impl_Row × PV (.int .i64) × PV (.int .i64) × PV .bool × Unit)))).bind fun j3 =>
          ((
              bif j3.2.2.2.2.2.2.2.1 then
                some (j3.1, j3.2.1, j3.2.2.1, j3.2.2.2.1, j3.2.2.2.2.1, j3.2.2.2.2.2.1, j3.2.2.2.2.2.2.1, true, j3.2.2.2.2.2.2.2.2.1, j3.2.2.2.2.2.2.2.2.2.1, j3.2.2.2.2.2.2.2.2.2.2.1, j3.2.2.2.2.2.2.2.2.2.2.2.1, j3.2.2.2.2.2.2.2.2.2.2.2.2.1, j3.2.2.2.2.2.2.2.2.2.2.2.2.2.1, ())
              else
                bif inB j3.2.2.2.2.2.1 j3.1.2.2.1.length then
                  some (j3.1, j3.2.1, j3.2.2.1, j3.2.2.2.1, j3.2.2.2.2.1, j3.2.2.2.2.2.1, j3.2.2.2.2.2.2.1, (((j3.1.2.2.1.getD j3.2.2.2.2.2.1.toNat (dflt Y_impl_Row)).1) == 3), j3.2.2.2.2.2.2.2.2.1, j3.2.2.2.2.2.2.2.2.2.1, j3.2.2.2.2.2.2.2.2.2.2.1, j3.2.2.2.2.2.2.2.2.2.2.2.1, j3.2.2.2.2.2.2.2.2.2.2.2.2.1, j3.2.2.2.2.2.2.2.2.2.2.2.2.2.1, ())
                else
                  none : Option ((PV Y_impl_Group × PV (.int .i64) × PV S_bool × PV S_bool × PV (.int .i64) × PV (.int .i64) × PV .bool × PV .bool × PV S_impl_Row × PV (.int .i64) × PV Y_impl_Row × PV (.int .i64) × PV (.int .i64) × PV .bool × Unit)))).bind fun j4 =>
            some (.inl (j4.1, j4.2.1, j4.2.2.1, j4.2.2.2.1, j4.2.2.2.2.1, (IntKind.wrap .i64 (j4.2.2.2.2.2.1 + 1)), j4.2.2.2.2.2.2.1, j4.2.2.2.2.2.2.2.1, ()))
      else
        some (.inr (t1, t4, t5, t6, t7, t8, t9, t10, ()))
    else
      none
  else
    some (.inr (t1, t4, t5, t6, t7, t8, t9, t10, ()))
noncomputable def w_S_l8Runs_7 : PV Y_impl_Group × PV (.int .i64) × PV S_bool × PV S_bool × PV (.int .i64) × PV (.int .i64) × PV .bool × PV .bool × Unit → Option ((PV Y_impl_Group × PV (.int .i64) × PV S_bool × PV S_bool × PV (.int .i64) × PV (.int .i64) × PV .bool × PV .bool × Unit)) := fix fun d => b_S_l8Runs_7 d.1 d.2.1 d.2.2.1 d.2.2.2.1 d.2.2.2.2.1 d.2.2.2.2.2.1 d.2.2.2.2.2.2.1 d.2.2.2.2.2.2.2.1
noncomputable def lp_S_l8Runs_7 : Lp := ⟨⟨[], [1, 4, 5, 6, 7, 8, 9, 10, 37, 38, 39, 40, 41, 42, 43, 47, 48, 49, 50, 51, 52, 53]⟩, sh_S_l8Runs_7, o_S_l8Runs_7, fun d => b_S_l8Runs_7 d.1 d.2.1 d.2.2.1 d.2.2.2.1 d.2.2.2.2.1 d.2.2.2.2.2.1 d.2.2.2.2.2.2.1 d.2.2.2.2.2.2.2.1⟩
noncomputable def sh_S_l8Runs_12 : List Sh := mkSh 77 [(1, .var Y_impl_Group .b), (4, .val (.int .i64) .b), (5, .val S_bool (.row .b)), (6, .val S_bool (.row .b)), (7, .val (.int .i64) .b), (8, .val (.int .i64) .b), (9, .val .bool .b), (10, .val .bool .b), (11, .val (.int .i64) .b)]
noncomputable def o_S_l8Runs_12 : List Out := [⟨.exit 4, ⟨[], [1, 4, 5, 6, 7, 8, 27, 28, 29, 30, 31, 32, 33, 37, 38, 39, 40, 41, 42, 43, 47, 48, 49, 50, 51, 52, 53]⟩, mkSh 77 [(1, .var Y_impl_Group .b), (4, .val (.int .i64) .b), (5, .val S_bool (.row .b)), (6, .val S_bool (.row .b)), (7, .val (.int .i64) .b), (8, .val (.int .i64) .b)]⟩]
noncomputable def b_S_l8Runs_12 (t1 : PV Y_impl_Group) (t4 : PV (.int .i64)) (t5 : PV S_bool) (t6 : PV S_bool) (t7 : PV (.int .i64)) (t8 : PV (.int .i64)) (t9 : PV .bool) (t10 : PV .bool) (t11 : PV (.int .i64)) : Option ((PV Y_impl_Group × PV (.int .i64) × PV S_bool × PV S_bool × PV (.int .i64) × PV (.int .i64) × PV .bool × PV .bool × PV (.int .i64) × Unit) ⊕ ((PV Y_impl_Group × PV (.int .i64) × PV S_bool × PV S_bool × PV (.int .i64) × PV (.int .i64) × Unit))) :=
  bif (decide (t11 < t8)) then
    bif inB t11 t5.length then
      bif inB t11 t6.length then
        some (.inl (t1, t4, (t5.set t11.toNat t9), (t6.set t11.toNat t10), t7, t8, t9, t10, (IntKind.wrap .i64 (t11 + 1)), ()))
      else
        none
    else
      none
  else
    some (.inr (t1, t4, t5, t6, t7, t8, ()))
noncomputable def w_S_l8Runs_12 : PV Y_impl_Group × PV (.int .i64) × PV S_bool × PV S_bool × PV (.int .i64) × PV (.int .i64) × PV .bool × PV .bool × PV (.int .i64) × Unit → Option ((PV Y_impl_Group × PV (.int .i64) × PV S_bool × PV S_bool × PV (.int .i64) × PV (.int .i64) × Unit)) := fix fun d => b_S_l8Runs_12 d.1 d.2.1 d.2.2.1 d.2.2.2.1 d.2.2.2.2.1 d.2.2.2.2.2.1 d.2.2.2.2.2.2.1 d.2.2.2.2.2.2.2.1 d.2.2.2.2.2.2.2.2.1
noncomputable def lp_S_l8Runs_12 : Lp := ⟨⟨[], [1, 4, 5, 6, 7, 8, 9, 10, 11, 27, 28, 29, 30, 31, 32, 33, 37, 38, 39, 40, 41, 42, 43, 47, 48, 49, 50, 51, 52, 53]⟩, sh_S_l8Runs_12, o_S_l8Runs_12, fun d => b_S_l8Runs_12 d.1 d.2.1 d.2.2.1 d.2.2.2.1 d.2.2.2.2.1 d.2.2.2.2.2.1 d.2.2.2.2.2.2.1 d.2.2.2.2.2.2.2.1 d.2.2.2.2.2.2.2.2.1⟩
noncomputable def sh_S_l8Runs_4 : List Sh := mkSh 77 [(1, .var Y_impl_Group .b), (4, .val (.int .i64) .b), (5, .val S_bool (.row .b)), (6, .val S_bool (.row .b)), (7, .val (.int .i64) .b)]
noncomputable def o_S_l8Runs_4 : List Out := [⟨.exit 0, ⟨[], [5, 6]⟩, mkSh 77 [(5, .val S_bool (.row .b)), (6, .val S_bool (.row .b))]⟩]
noncomputable def b_S_l8Runs_4 (t1 : PV Y_impl_Group) (t4 : PV (.int .i64)) (t5 : PV S_bool) (t6 : PV S_bool) (t7 : PV (.int .i64)) : Option ((PV Y_impl_Group × PV (.int .i64) × PV S_bool × PV S_bool × PV (.int .i64) × Unit) ⊕ ((PV S_bool × PV S_bool × Unit))) :=
  bif (decide (t7 < t4)) then
    (w_S_l8Runs_7 (t1, t4, t5, t6, t7, t7, false, false, ())).bind fun l2 =>
      (w_S_l8Runs_12 (l2.1, l2.2.1, l2.2.2.1, l2.2.2.2.1, l2.2.2.2.2.1, l2.2.2.2.2.2.1, l2.2.2.2.2.2.2.1, l2.2.2.2.2.2.2.2.1, l2.2.2.2.2.1, ())).bind fun l4 =>
        (f_S_l1Most l4.2.2.2.2.2.1 (IntKind.wrap .i64 (l4.2.2.2.2.1 + 1))).bind fun r5 =>
          some (.inl (l4.1, l4.2.1, l4.2.2.1, l4.2.2.2.1, r5.1.1, ()))
  else
    some (.inr (t5, t6, ()))
noncomputable def w_S_l8Runs_4 : PV Y_impl_Group × PV (.int .i64) × PV S_bool × PV S_bool × PV (.int .i64) × Unit → Option ((PV S_bool × PV S_bool × Unit)) := fix fun d => b_S_l8Runs_4 d.1 d.2.1 d.2.2.1 d.2.2.2.1 d.2.2.2.2.1
noncomputable def lp_S_l8Runs_4 : Lp := ⟨⟨[], [1, 4, 5, 6, 7, 27, 28, 29, 30, 31, 32, 33, 37, 38, 39, 40, 41, 42, 43, 47, 48, 49, 50, 51, 52, 53]⟩, sh_S_l8Runs_4, o_S_l8Runs_4, fun d => b_S_l8Runs_4 d.1 d.2.1 d.2.2.1 d.2.2.2.1 d.2.2.2.2.1⟩
noncomputable def pl_S_l8Runs : Plan := ⟨[(9, o_S_l8Runs_9), (10, o_S_l8Runs_10)], [(7, lp_S_l8Runs_7), (12, lp_S_l8Runs_12), (4, lp_S_l8Runs_4)], 0, 0⟩
noncomputable def f_S_l8Runs (t0 : PV Y_impl_Group) : Option (PVs [S_bool, S_bool] × PVs []) :=
  bif decide (0 ≤ (t0.2.2.1.length : Int)) && (decide ((t0.2.2.1.length : Int) ≤ (t0.2.2.1.length : Int)) && roomB (t0.2.2.1.length : Int).toNat) then
    bif decide (0 ≤ (t0.2.2.1.length : Int)) && (decide ((t0.2.2.1.length : Int) ≤ (t0.2.2.1.length : Int)) && roomB (t0.2.2.1.length : Int).toNat) then
      (w_S_l8Runs_4 (t0, (t0.2.2.1.length : Int), (List.replicate (t0.2.2.1.length : Int).toNat false), (List.replicate (t0.2.2.1.length : Int).toNat false), 0, ())).bind fun l7 =>
        some ((l7.1, l7.2.1, ()), ())
    else
      none
  else
    none
noncomputable def ct_S_l8Runs : Ct := ⟨[(.bor, Y_impl_Group)], [(S_bool, true), (S_bool, true)], fun x => f_S_l8Runs x.1⟩
noncomputable def cx_S_l8Runs : Cx := ⟨tab, arrs, [(194, ct_S_l1Most)], [], gl⟩
theorem eb_S_l8Runs_4 (t1 : PV Y_impl_Group) (t4 : PV (.int .i64)) (t5 : PV S_bool) (t6 : PV S_bool) (t7 : PV (.int .i64)) : denK cx_S_l8Runs (rcN cx_S_l8Runs 0) pl_S_l8Runs 0 ((loopsOf (bodyOf Tryd.f162)).getD 0 .skip) (fillS sh_S_l8Runs_4 (t1, t4, t5, t6, t7, ())) (roundK 0 lp_S_l8Runs_4) = b_S_l8Runs_4 t1 t4 t5 t6 t7 := by kernel_rfl
theorem eb_S_l8Runs_7 (t1 : PV Y_impl_Group) (t4 : PV (.int .i64)) (t5 : PV S_bool) (t6 : PV S_bool) (t7 : PV (.int .i64)) (t8 : PV (.int .i64)) (t9 : PV .bool) (t10 : PV .bool) : denK cx_S_l8Runs (rcN cx_S_l8Runs 0) pl_S_l8Runs 0 ((loopsOf (bodyOf Tryd.f162)).getD 1 .skip) (fillS sh_S_l8Runs_7 (t1, t4, t5, t6, t7, t8, t9, t10, ())) (roundK 0 lp_S_l8Runs_7) = b_S_l8Runs_7 t1 t4 t5 t6 t7 t8 t9 t10 := by kernel_rfl
theorem eb_S_l8Runs_12 (t1 : PV Y_impl_Group) (t4 : PV (.int .i64)) (t5 : PV S_bool) (t6 : PV S_bool) (t7 : PV (.int .i64)) (t8 : PV (.int .i64)) (t9 : PV .bool) (t10 : PV .bool) (t11 : PV (.int .i64)) : denK cx_S_l8Runs (rcN cx_S_l8Runs 0) pl_S_l8Runs 0 ((loopsOf (bodyOf Tryd.f162)).getD 2 .skip) (fillS sh_S_l8Runs_12 (t1, t4, t5, t6, t7, t8, t9, t10, t11, ())) (roundK 0 lp_S_l8Runs_12) = b_S_l8Runs_12 t1 t4 t5 t6 t7 t8 t9 t10 t11 := by kernel_rfl
theorem ef_S_l8Runs (t0 : PV Y_impl_Group) : denF cx_S_l8Runs 0 pl_S_l8Runs Tryd.f162.ntmps (bodyOf Tryd.f162) Tryd.f162.results.toList [(.bor, Y_impl_Group)] [(S_bool, true), (S_bool, true)] (t0, ()) = f_S_l8Runs t0 := by kernel_rfl
theorem ok_S_l8Runs : FnOk gl Tryd.prog 162 ct_S_l8Runs :=
  fnOk (cx := cx_S_l8Runs) (pl := pl_S_l8Runs) (dp := 0) (ok0_of tabOk (by unfold ArrOk; kernel_rfl) mix ⟨ok_S_l1Most, trivial⟩ trivial) Tryd.func162 (by kernel_rfl) (by kernel_rfl) (by kernel_rfl)
    (by rw [show loopsOf (bodyOf Tryd.f162) = [((loopsOf (bodyOf Tryd.f162)).getD 0 .skip), ((loopsOf (bodyOf Tryd.f162)).getD 1 .skip), ((loopsOf (bodyOf Tryd.f162)).getD 2 .skip)] from by kernel_rfl]; exact ⟨(by rw [show lookup pl_S_l8Runs.loops (firstId ((loopsOf (bodyOf Tryd.f162)).getD 0 .skip)) = some lp_S_l8Runs_4 from by kernel_rfl]; exact fun d z h => (eb_S_l8Runs_4 d.1 d.2.1 d.2.2.1 d.2.2.2.1 d.2.2.2.2.1).trans h), (by rw [show lookup pl_S_l8Runs.loops (firstId ((loopsOf (bodyOf Tryd.f162)).getD 1 .skip)) = some lp_S_l8Runs_7 from by kernel_rfl]; exact fun d z h => (eb_S_l8Runs_7 d.1 d.2.1 d.2.2.1 d.2.2.2.1 d.2.2.2.2.1 d.2.2.2.2.2.1 d.2.2.2.2.2.2.1 d.2.2.2.2.2.2.2.1).trans h), (by rw [show lookup pl_S_l8Runs.loops (firstId ((loopsOf (bodyOf Tryd.f162)).getD 2 .skip)) = some lp_S_l8Runs_12 from by kernel_rfl]; exact fun d z h => (eb_S_l8Runs_12 d.1 d.2.1 d.2.2.1 d.2.2.2.1 d.2.2.2.2.1 d.2.2.2.2.2.1 d.2.2.2.2.2.2.1 d.2.2.2.2.2.2.2.1 d.2.2.2.2.2.2.2.2.1).trans h), trivial⟩) (fun x => ef_S_l8Runs x.1)
noncomputable def o_S_l8Half_8 : List Out := [⟨.normal, ⟨[], [1, 5, 6, 7, 8, 9, 10, 17, 18, 19, 24, 45, 46, 47, 48, 51, 52, 53, 54]⟩, mkSh 72 [(1, .val .bool .b), (5, .val S_bool (.row .b)), (6, .val S_bool (.row .b)), (7, .val .str .b), (8, .val (.int .i64) .b), (9, .var Y_impl_Row .b), (10, .val .str .b), (17, .val S_impl_Row .b), (18, .val (.int .i64) .b), (19, .val (.int .i64) .b), (24, .val .bool .b)]⟩]
noncomputable def o_S_l8Half_9 : List Out := [⟨.normal, ⟨[], [1, 5, 6, 7, 9, 10, 17, 18, 19, 29, 30, 33, 34, 35, 36, 37, 38, 40]⟩, mkSh 72 [(1, .val .bool .b), (5, .val S_bool (.row .b)), (6, .val S_bool (.row .b)), (7, .val .str .b), (9, .var Y_impl_Row .b), (10, .val .str .b), (17, .val S_impl_Row .b), (18, .val (.int .i64) .b), (19, .val (.int .i64) .b), (40, .val .bool .b)]⟩]
noncomputable def o_S_l8Half_14 : List Out := [⟨.exit 1, ⟨[], [1, 5, 6, 7, 17, 18, 19, 29, 30, 33, 34, 35, 36, 37, 38, 45, 46, 47, 48, 51, 52, 53, 54]⟩, mkSh 72 [(1, .val .bool .b), (5, .val S_bool (.row .b)), (6, .val S_bool (.row .b)), (7, .val .str .b), (17, .val S_impl_Row .b), (18, .val (.int .i64) .b), (19, .val (.int .i64) .b)]⟩, ⟨.normal, ⟨[], [1, 5, 6, 7, 9, 10, 17, 18, 19, 29, 30, 33, 34, 35, 36, 37, 38, 45, 46, 47, 48, 51, 52, 53, 54]⟩, mkSh 72 [(1, .val .bool .b), (5, .val S_bool (.row .b)), (6, .val S_bool (.row .b)), (7, .val .str .b), (9, .var Y_impl_Row .b), (10, .val .str .b), (17, .val S_impl_Row .b), (18, .val (.int .i64) .b), (19, .val (.int .i64) .b)]⟩]
noncomputable def o_S_l8Half_15 : List Out := [⟨.normal, ⟨[], [1, 5, 6, 7, 17, 18, 19, 29, 30, 33, 34, 35, 36, 37, 38, 45, 46, 47, 48, 51, 52, 53, 54]⟩, mkSh 72 [(1, .val .bool .b), (5, .val S_bool (.row .b)), (6, .val S_bool (.row .b)), (7, .val .str .b), (17, .val S_impl_Row .b), (18, .val (.int .i64) .b), (19, .val (.int .i64) .b)]⟩]
noncomputable def sh_S_l8Half_4 : List Sh := mkSh 72 [(1, .val .bool .b), (5, .val S_bool (.row .b)), (6, .val S_bool (.row .b)), (7, .val .str .b), (17, .val S_impl_Row .b), (18, .val (.int .i64) .b), (19, .val (.int .i64) .b)]
noncomputable def o_S_l8Half_4 : List Out := [⟨.exit 0, ⟨[], [7]⟩, mkSh 72 [(7, .val .str .b)]⟩]
noncomputable def b_S_l8Half_4 (t1 : PV .bool) (t5 : PV S_bool) (t6 : PV S_bool) (t7 : PV .str) (t17 : PV S_impl_Row) (t18 : PV (.int .i64)) (t19 : PV (.int .i64)) : Option ((PV .bool × PV S_bool × PV S_bool × PV .str × PV S_impl_Row × PV (.int .i64) × PV (.int .i64) × Unit) ⊕ ((PV .str × Unit))) :=
  bif (decide (t19 < t18)) then
    ((
        bif inB t19 t17.length then
          ((
              ((
                  bif (((t17.getD t19.toNat (dflt Y_impl_Row)).1) == 2) then
                    bif (!t1) then
                      some (t1, t5, t6, t7, t19, (t17.getD t19.toNat (dflt Y_impl_Row)), [32, 32], t17, t18, t19, true, ())
                    else
                      bif (((t17.getD t19.toNat (dflt Y_impl_Row)).1) == 3) then
                        some (t1, t5, t6, t7, t19, (t17.getD t19.toNat (dflt Y_impl_Row)), [32, 32], t17, t18, t19, t1, ())
                      else
                        some (t1, t5, t6, t7, t19, (t17.getD t19.toNat (dflt Y_impl_Row)), [32, 32], t17, t18, t19, false, ())
                  else
                    bif (((t17.getD t19.toNat (dflt Y_impl_Row)).1) == 3) then
                      some (t1, t5, t6, t7, t19, (t17.getD t19.toNat (dflt Y_impl_Row)), [32, 32], t17, t18, t19, t1, ())
                    else
                      some (t1, t5, t6, t7, t19, (t17.getD t19.toNat (dflt Y_impl_Row)), [32, 32], t17, t18, t19, false, ()) : Option ((PV .bool × PV S_bool × PV S_bool × PV .str × PV (.int .i64) × PV Y_impl_Row × PV .str × PV S_impl_Row × PV (.int .i64) × PV (.int .i64) × PV .bool × Unit)))).bind fun j3 =>
                bif j3.2.2.2.2.2.2.2.2.2.2.1 then
                  some (.inl (j3.1, j3.2.1, j3.2.2.1, j3.2.2.2.1, j3.2.2.2.2.2.2.2.1, j3.2.2.2.2.2.2.2.2.1, j3.2.2.2.2.2.2.2.2.2.1, ()))
                else
                  ((
                      bif (!(j3.2.2.2.2.2.1.1 == 1)) then
                        bif inB j3.2.2.2.2.1 j3.2.1.length then
                          bif (j3.2.1.getD j3.2.2.2.2.1.toNat false) then
                            bif inB j3.2.2.2.2.1 j3.2.2.1.length then
                              some (j3.1, j3.2.1, j3.2.2.1, j3.2.2.2.1, j3.2.2.2.2.2.1, j3.2.2.2.2.2.2.1, j3.2.2.2.2.2.2.2.1, j3.2.2.2.2.2.2.2.2.1, j3.2.2.2.2.2.2.2.2.2.1, (j3.2.2.1.getD j3.2.2.2.2.1.toNat false), ())
                            else
                              none
                          else
                            some (j3.1, j3.2.1, j3.2.2.1, j3.2.2.2.1, j3.2.2.2.2.2.1, j3.2.2.2.2.2.2.1, j3.2.2.2.2.2.2.2.1, j3.2.2.2.2.2.2.2.2.1, j3.2.2.2.2.2.2.2.2.2.1, false, ())
                        else
                          none
                      else
                        some (j3.1, j3.2.1, j3.2.2.1, j3.2.2.2.1, j3.2.2.2.2.2.1, j3.2.2.2.2.2.2.1, j3.2.2.2.2.2.2.2.1, j3.2.2.2.2.2.2.2.2.1, j3.2.2.2.2.2.2.2.2.2.1, false, ()) : Option ((PV .bool × PV S_bool × PV S_bool × PV .str × PV Y_impl_Row × PV .str × PV S_impl_Row × PV (.int .i64) × PV (.int .i64) × PV .bool × Unit)))).bind fun j4 =>
                    bif j4.2.2.2.2.2.2.2.2.2.1 then
                      some (.inr (j4.1, j4.2.1, j4.2.2.1, j4.2.2.2.1, j4.2.2.2.2.1, [33, 32], j4.2.2.2.2.2.2.1, j4.2.2.2.2.2.2.2.1, j4.2.2.2.2.2.2.2.2.1, ()))
                    else
                      bif (j4.2.2.2.2.1.1 == 2) then
                        some (.inr (j4.1, j4.2.1, j4.2.2.1, j4.2.2.2.1, j4.2.2.2.2.1, [45, 32], j4.2.2.2.2.2.2.1, j4.2.2.2.2.2.2.2.1, j4.2.2.2.2.2.2.2.2.1, ()))
                      else
                        bif (j4.2.2.2.2.1.1 == 3) then
                          some (.inr (j4.1, j4.2.1, j4.2.2.1, j4.2.2.2.1, j4.2.2.2.2.1, [43, 32], j4.2.2.2.2.2.2.1, j4.2.2.2.2.2.2.2.1, j4.2.2.2.2.2.2.2.2.1, ()))
                        else
                          some (.inr (j4.1, j4.2.1, j4.2.2.1, j4.2.2.2.1, j4.2.2.2.2.1, j4.2.2.2.2.2.1, j4.2.2.2.2.2.2.1, j4.2.2.2.2.2.2.2.1, j4.2.2.2.2.2.2.2.2.1, ())) : Option ((PV .bool × PV S_bool × PV S_bool × PV .str × PV S_impl_Row × PV (.int .i64) × PV (.int .i64) × Unit) ⊕ (PV .bool × PV S_bool × PV S_bool × PV .str × PV Y_impl_Row × PV .str × PV S_impl_Row × PV (.int .i64) × PV (.int .i64) × Unit)))).bind fun x11 =>
            match x11 with
            | .inl j5 =>
              some (j5.1, j5.2.1, j5.2.2.1, j5.2.2.2.1, j5.2.2.2.2.1, j5.2.2.2.2.2.1, j5.2.2.2.2.2.2.1, ())
            | .inr j6 =>
              (f_S_l5Shown j6.2.2.2.2.2.1 j6.2.2.2.2.1.2.1).bind fun r7 =>
                bif decide (j6.2.2.2.1.length + r7.1.1.length ≤ 1099511627776) then
                  some (j6.1, j6.2.1, j6.2.2.1, (j6.2.2.2.1 ++ r7.1.1), j6.2.2.2.2.2.2.1, j6.2.2.2.2.2.2.2.1, j6.2.2.2.2.2.2.2.2.1, ())
                else
                  none
        else
          none : Option ((PV .bool × PV S_bool × PV S_bool × PV .str × PV S_impl_Row × PV (.int .i64) × PV (.int .i64) × Unit)))).bind fun j8 =>
      some (.inl (j8.1, j8.2.1, j8.2.2.1, j8.2.2.2.1, j8.2.2.2.2.1, j8.2.2.2.2.2.1, (IntKind.wrap .i64 (j8.2.2.2.2.2.2.1 + 1)), ()))
  else
    some (.inr (t7, ()))
noncomputable def w_S_l8Half_4 : PV .bool × PV S_bool × PV S_bool × PV .str × PV S_impl_Row × PV (.int .i64) × PV (.int .i64) × Unit → Option ((PV .str × Unit)) := fix fun d => b_S_l8Half_4 d.1 d.2.1 d.2.2.1 d.2.2.2.1 d.2.2.2.2.1 d.2.2.2.2.2.1 d.2.2.2.2.2.2.1
noncomputable def lp_S_l8Half_4 : Lp := ⟨⟨[], [1, 5, 6, 7, 17, 18, 19, 29, 30, 33, 34, 35, 36, 37, 38, 45, 46, 47, 48, 51, 52, 53, 54]⟩, sh_S_l8Half_4, o_S_l8Half_4, fun d => b_S_l8Half_4 d.1 d.2.1 d.2.2.1 d.2.2.2.1 d.2.2.2.2.1 d.2.2.2.2.2.1 d.2.2.2.2.2.2.1⟩
noncomputable def pl_S_l8Half : Plan := ⟨[(8, o_S_l8Half_8), (9, o_S_l8Half_9), (14, o_S_l8Half_14), (15, o_S_l8Half_15)], [(4, lp_S_l8Half_4)], 0, 0⟩
noncomputable def f_S_l8Half (t0 : PV Y_impl_Group) (t1 : PV .bool) : Option (PVs [.str] × PVs []) :=
  (f_S_l8Runs t0).bind fun r2 =>
    (w_S_l8Half_4 (t1, r2.1.1, r2.1.2.1, [], t0.2.2.1, (t0.2.2.1.length : Int), 0, ())).bind fun l10 =>
      some ((l10.1, ()), ())
noncomputable def ct_S_l8Half : Ct := ⟨[(.bor, Y_impl_Group), (.bor, .bool)], [(.str, false)], fun x => f_S_l8Half x.1 x.2.1⟩
noncomputable def cx_S_l8Half : Cx := ⟨tab, arrs, [(103, ct_S_l5Shown), (162, ct_S_l8Runs)], [], gl⟩
theorem eb_S_l8Half_4 (t1 : PV .bool) (t5 : PV S_bool) (t6 : PV S_bool) (t7 : PV .str) (t17 : PV S_impl_Row) (t18 : PV (.int .i64)) (t19 : PV (.int .i64)) : denK cx_S_l8Half (rcN cx_S_l8Half 0) pl_S_l8Half 0 ((loopsOf (bodyOf Tryd.f120)).getD 0 .skip) (fillS sh_S_l8Half_4 (t1, t5, t6, t7, t17, t18, t19, ())) (roundK 0 lp_S_l8Half_4) = b_S_l8Half_4 t1 t5 t6 t7 t17 t18 t19 := by kernel_rfl
theorem ef_S_l8Half (t0 : PV Y_impl_Group) (t1 : PV .bool) : denF cx_S_l8Half 0 pl_S_l8Half Tryd.f120.ntmps (bodyOf Tryd.f120) Tryd.f120.results.toList [(.bor, Y_impl_Group), (.bor, .bool)] [(.str, false)] (t0, t1, ()) = f_S_l8Half t0 t1 := by kernel_rfl
theorem ok_S_l8Half : FnOk gl Tryd.prog 120 ct_S_l8Half :=
  fnOk (cx := cx_S_l8Half) (pl := pl_S_l8Half) (dp := 0) (ok0_of tabOk (by unfold ArrOk; kernel_rfl) mix ⟨ok_S_l5Shown, ok_S_l8Runs, trivial⟩ trivial) Tryd.func120 (by kernel_rfl) (by kernel_rfl) (by kernel_rfl)
    (by rw [show loopsOf (bodyOf Tryd.f120) = [((loopsOf (bodyOf Tryd.f120)).getD 0 .skip)] from by kernel_rfl]; exact ⟨(by rw [show lookup pl_S_l8Half.loops (firstId ((loopsOf (bodyOf Tryd.f120)).getD 0 .skip)) = some lp_S_l8Half_4 from by kernel_rfl]; exact fun d z h => (eb_S_l8Half_4 d.1 d.2.1 d.2.2.1 d.2.2.2.1 d.2.2.2.2.1 d.2.2.2.2.2.1 d.2.2.2.2.2.2.1).trans h), trivial⟩) (fun x => ef_S_l8Half x.1 x.2.1)
noncomputable def o_S_l8Text_8 : List Out := [⟨.normal, ⟨[], [3, 5, 6, 7, 8]⟩, mkSh 46 [(3, .val .str .b), (5, .var Y_impl_Group .b), (6, .val S_impl_Group .b), (7, .val (.int .i64) .b), (8, .val (.int .i64) .b)]⟩]
noncomputable def o_S_l8Text_11 : List Out := [⟨.normal, ⟨[], [3, 6, 7, 8]⟩, mkSh 46 [(3, .val .str .b), (6, .val S_impl_Group .b), (7, .val (.int .i64) .b), (8, .val (.int .i64) .b)]⟩]
noncomputable def sh_S_l8Text_3 : List Sh := mkSh 46 [(3, .val .str .b), (6, .val S_impl_Group .b), (7, .val (.int .i64) .b), (8, .val (.int .i64) .b)]
noncomputable def o_S_l8Text_3 : List Out := [⟨.exit 0, ⟨[], [3]⟩, mkSh 46 [(3, .val .str .b)]⟩]
noncomputable def b_S_l8Text_3 (t3 : PV .str) (t6 : PV S_impl_Group) (t7 : PV (.int .i64)) (t8 : PV (.int .i64)) : Option ((PV .str × PV S_impl_Group × PV (.int .i64) × PV (.int .i64) × Unit) ⊕ ((PV .str × Unit))) :=
  bif (decide (t8 < t7)) then
    ((
        bif inB t8 t6.length then
          (f_S_l6Old (t6.getD t8.toNat (dflt Y_impl_Group))).bind fun r3 =>
            (f_S_l4Pair ((t6.getD t8.toNat (dflt Y_impl_Group)).1) (r3.1.1.length : Int)).bind fun r4 =>
              bif decide ([42, 42, 42, 42, 42, 42, 42, 42, 42, 42, 42, 42, 42, 42, 42, 10, 42, 42, 42, 32].length + r4.1.1.length ≤ 1099511627776) then
                bif decide (([42, 42, 42, 42, 42, 42, 42, 42, 42, 42, 42, 42, 42, 42, 42, 10, 42, 42, 42, 32] ++ r4.1.1).length + [32, 42, 42, 42, 42, 10].length ≤ 1099511627776) then
                  bif decide (t3.length + (([42, 42, 42, 42, 42, 42, 42, 42, 42, 42, 42, 42, 42, 42, 42, 10, 42, 42, 42, 32] ++ r4.1.1) ++ [32, 42, 42, 42, 42, 10]).length ≤ 1099511627776) then
                    ((
                        (f_S_l8Some (t6.getD t8.toNat (dflt Y_impl_Group)) 2).bind fun r6 =>
                          bif r6.1.1 then
                            (f_S_l8Half (t6.getD t8.toNat (dflt Y_impl_Group)) true).bind fun r7 =>
                              bif decide ((t3 ++ (([42, 42, 42, 42, 42, 42, 42, 42, 42, 42, 42, 42, 42, 42, 42, 10, 42, 42, 42, 32] ++ r4.1.1) ++ [32, 42, 42, 42, 42, 10])).length + r7.1.1.length ≤ 1099511627776) then
                                some (((t3 ++ (([42, 42, 42, 42, 42, 42, 42, 42, 42, 42, 42, 42, 42, 42, 42, 10, 42, 42, 42, 32] ++ r4.1.1) ++ [32, 42, 42, 42, 42, 10])) ++ r7.1.1), (t6.getD t8.toNat (dflt Y_impl_Group)), t6, t7, t8, ())
                              else
                                none
                          else
                            some ((t3 ++ (([42, 42, 42, 42, 42, 42, 42, 42, 42, 42, 42, 42, 42, 42, 42, 10, 42, 42, 42, 32] ++ r4.1.1) ++ [32, 42, 42, 42, 42, 10])), (t6.getD t8.toNat (dflt Y_impl_Group)), t6, t7, t8, ()) : Option ((PV .str × PV Y_impl_Group × PV S_impl_Group × PV (.int .i64) × PV (.int .i64) × Unit)))).bind fun j8 =>
                      (f_S_l6New j8.2.1).bind fun r11 =>
                        (f_S_l4Pair j8.2.1.2.1 (r11.1.1.length : Int)).bind fun r12 =>
                          bif decide ([45, 45, 45, 32].length + r12.1.1.length ≤ 1099511627776) then
                            bif decide (([45, 45, 45, 32] ++ r12.1.1).length + [32, 45, 45, 45, 45, 10].length ≤ 1099511627776) then
                              bif decide (j8.1.length + (([45, 45, 45, 32] ++ r12.1.1) ++ [32, 45, 45, 45, 45, 10]).length ≤ 1099511627776) then
                                (f_S_l8Some j8.2.1 3).bind fun r14 =>
                                  bif r14.1.1 then
                                    (f_S_l8Half j8.2.1 false).bind fun r15 =>
                                      bif decide ((j8.1 ++ (([45, 45, 45, 32] ++ r12.1.1) ++ [32, 45, 45, 45, 45, 10])).length + r15.1.1.length ≤ 1099511627776) then
                                        some (((j8.1 ++ (([45, 45, 45, 32] ++ r12.1.1) ++ [32, 45, 45, 45, 45, 10])) ++ r15.1.1), j8.2.2.1, j8.2.2.2.1, j8.2.2.2.2.1, ())
                                      else
                                        none
                                  else
                                    some ((j8.1 ++ (([45, 45, 45, 32] ++ r12.1.1) ++ [32, 45, 45, 45, 45, 10])), j8.2.2.1, j8.2.2.2.1, j8.2.2.2.2.1, ())
                              else
                                none
                            else
                              none
                          else
                            none
                  else
                    none
                else
                  none
              else
                none
        else
          none : Option ((PV .str × PV S_impl_Group × PV (.int .i64) × PV (.int .i64) × Unit)))).bind fun j16 =>
      some (.inl (j16.1, j16.2.1, j16.2.2.1, (IntKind.wrap .i64 (j16.2.2.2.1 + 1)), ()))
  else
    some (.inr (t3, ()))
noncomputable def w_S_l8Text_3 : PV .str × PV S_impl_Group × PV (.int .i64) × PV (.int .i64) × Unit → Option ((PV .str × Unit)) := fix fun d => b_S_l8Text_3 d.1 d.2.1 d.2.2.1 d.2.2.2.1
noncomputable def lp_S_l8Text_3 : Lp := ⟨⟨[], [3, 6, 7, 8]⟩, sh_S_l8Text_3, o_S_l8Text_3, fun d => b_S_l8Text_3 d.1 d.2.1 d.2.2.1 d.2.2.2.1⟩
noncomputable def pl_S_l8Text : Plan := ⟨[(8, o_S_l8Text_8), (11, o_S_l8Text_11)], [(3, lp_S_l8Text_3)], 0, 0⟩
noncomputable def f_S_l8Text (t0 : PV S_impl_Group) : Option (PVs [.str] × PVs []) :=
  (w_S_l8Text_3 ([], t0, (t0.length : Int), 0, ())).bind fun l18 =>
    some ((l18.1, ()), ())
noncomputable def ct_S_l8Text : Ct := ⟨[(.bor, S_impl_Group)], [(.str, false)], fun x => f_S_l8Text x.1⟩
noncomputable def cx_S_l8Text : Cx := ⟨tab, arrs, [(100, ct_S_l6Old), (101, ct_S_l6New), (118, ct_S_l4Pair), (119, ct_S_l8Some), (120, ct_S_l8Half)], [], gl⟩
theorem eb_S_l8Text_3 (t3 : PV .str) (t6 : PV S_impl_Group) (t7 : PV (.int .i64)) (t8 : PV (.int .i64)) : denK cx_S_l8Text (rcN cx_S_l8Text 0) pl_S_l8Text 0 ((loopsOf (bodyOf Tryd.f73)).getD 0 .skip) (fillS sh_S_l8Text_3 (t3, t6, t7, t8, ())) (roundK 0 lp_S_l8Text_3) = b_S_l8Text_3 t3 t6 t7 t8 := by kernel_rfl
theorem ef_S_l8Text (t0 : PV S_impl_Group) : denF cx_S_l8Text 0 pl_S_l8Text Tryd.f73.ntmps (bodyOf Tryd.f73) Tryd.f73.results.toList [(.bor, S_impl_Group)] [(.str, false)] (t0, ()) = f_S_l8Text t0 := by kernel_rfl
theorem ok_S_l8Text : FnOk gl Tryd.prog 73 ct_S_l8Text :=
  fnOk (cx := cx_S_l8Text) (pl := pl_S_l8Text) (dp := 0) (ok0_of tabOk (by unfold ArrOk; kernel_rfl) mix ⟨ok_S_l6Old, ok_S_l6New, ok_S_l4Pair, ok_S_l8Some, ok_S_l8Half, trivial⟩ trivial) Tryd.func73 (by kernel_rfl) (by kernel_rfl) (by kernel_rfl)
    (by rw [show loopsOf (bodyOf Tryd.f73) = [((loopsOf (bodyOf Tryd.f73)).getD 0 .skip)] from by kernel_rfl]; exact ⟨(by rw [show lookup pl_S_l8Text.loops (firstId ((loopsOf (bodyOf Tryd.f73)).getD 0 .skip)) = some lp_S_l8Text_3 from by kernel_rfl]; exact fun d z h => (eb_S_l8Text_3 d.1 d.2.1 d.2.2.1 d.2.2.2.1).trans h), trivial⟩) (fun x => ef_S_l8Text x.1)
noncomputable def o_S_SidesText_2 : List Out := [⟨.normal, ⟨[], [0, 12]⟩, mkSh 15 [(0, .val S_impl_Group .b), (12, .val .bool .b)]⟩]
noncomputable def pl_S_SidesText : Plan := ⟨[(2, o_S_SidesText_2)], [], 0, 0⟩
noncomputable def f_S_SidesText (t0 : PV S_impl_Group) : Option (PVs [.str, .bool] × PVs []) :=
  ((
      (f_S_l6Good t0).bind fun r6 =>
        bif (!r6.1.1) then
          some (t0, true, ())
        else
          (f_S_l8Text t0).bind fun r7 =>
            some (t0, (decide ((r7.1.1.length : Int) > 3000)), ()) : Option ((PV S_impl_Group × PV .bool × Unit)))).bind fun j8 =>
    bif j8.2.1 then
      some (([], false, ()), ())
    else
      (f_S_l8Text j8.1).bind fun r9 =>
        some ((r9.1.1, true, ()), ())
noncomputable def ct_S_SidesText : Ct := ⟨[(.bor, S_impl_Group)], [(.str, false), (.bool, false)], fun x => f_S_SidesText x.1⟩
noncomputable def cx_S_SidesText : Cx := ⟨tab, arrs, [(61, ct_S_l6Good), (73, ct_S_l8Text)], [], gl⟩
theorem ef_S_SidesText (t0 : PV S_impl_Group) : denF cx_S_SidesText 0 pl_S_SidesText Tryd.f26.ntmps (bodyOf Tryd.f26) Tryd.f26.results.toList [(.bor, S_impl_Group)] [(.str, false), (.bool, false)] (t0, ()) = f_S_SidesText t0 := by kernel_rfl
theorem ok_S_SidesText : FnOk gl Tryd.prog 26 ct_S_SidesText :=
  fnOk (cx := cx_S_SidesText) (pl := pl_S_SidesText) (dp := 0) (ok0_of tabOk (by unfold ArrOk; kernel_rfl) mix ⟨ok_S_l6Good, ok_S_l8Text, trivial⟩ trivial) Tryd.func26 (by kernel_rfl) (by kernel_rfl) (by kernel_rfl)
    (by rw [show loopsOf (bodyOf Tryd.f26) = [] from by kernel_rfl]; exact trivial) (fun x => ef_S_SidesText x.1)
end R
