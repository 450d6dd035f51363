/- The functions that L_FnExactUnifiedText, L_FnExactContextText reach, as pure functions, and that the program computes them. -/
import Derived.Test.YtegfhigkmghmjaaDoorL3
import Derived.Test.YtegfhigkmghmjaaDoorChecked
import Derived.KernelRfl
open Go Go.Dn Go.Proofs
namespace R
set_option linter.unusedVariables false
@[reducible] def S_string : Ty := (.slice 9 .str)
@[reducible] def S_bool : Ty := (.slice 4 .bool)
@[reducible] def S_uint8 : Ty := (.slice 5 (.int .u8))
@[reducible] def S_int : Ty := (.slice 3 (.int .i64))
@[reducible] def Y_impl_Row : Ty := (.pair (.int .i64) (.pair .str .unit))
@[reducible] def S_impl_Row : Ty := (.slice 132 Y_impl_Row)
@[reducible] def Y_impl_Hunk : Ty := (.pair (.int .i64) (.pair (.int .i64) (.pair S_string .unit)))
@[reducible] def S_laws_Hunk : Ty := (.slice 107 Y_impl_Hunk)
@[reducible] def S_impl_Hunk : Ty := (.slice 110 Y_impl_Hunk)
@[reducible] def Y_impl_Group : Ty := (.pair (.int .i64) (.pair (.int .i64) (.pair S_impl_Row .unit)))
@[reducible] def S_impl_Group : Ty := (.slice 90 Y_impl_Group)
noncomputable def tab : List (TypeId × Ty) := [(3, (.int .i64)), (4, .bool), (5, (.int .u8)), (9, .str), (33, S_impl_Group), (43, S_uint8), (46, S_int), (54, S_string), (58, S_laws_Hunk), (63, S_impl_Hunk), (88, S_impl_Row), (90, Y_impl_Group), (107, Y_impl_Hunk), (110, Y_impl_Hunk), (132, Y_impl_Row), (165, S_bool)]
noncomputable def arrs : List TypeId := []
theorem tabOk : TabOk Tryd.prog tab := by unfold TabOk; kernel_rfl
theorem mix : Tryd.prog.follows .mixedOrders = true := by kernel_rfl
noncomputable def gl : Glob := tabGlob Tryd.prog 2
open Go.Shelf
set_option maxRecDepth 20000
def lays_strconv_Itoa_ren : Go.Shelf.Ren := ⟨fun | 0 => 0 | 1 => 1 | 2 => 2 | 100 => 186 | 102 => 117 | 129 => 206 | 143 => 204 | 144 => 185 | 156 => 57 | 165 => 95 | 166 => 96 | 169 => 97 | 171 => 71 | 207 => 193 | 209 => 161 | 212 => 174 | 217 => 213 | 219 => 210 | 224 => 215 | 225 => 214 | 240 => 149 | 241 => 150 | 243 => 116 | 246 => 160 | 263 => 198 | 264 => 199 | 266 => 217 | 267 => 216 | 276 => 187 | 277 => 188 | 283 => 189 | 284 => 190 | 285 => 191 | 286 => 192 | 314 => 218 | 317 => 205 | 318 => 207 | 319 => 208 | 320 => 209 | 337 => 211 | 338 => 212 | 347 => 219 | 348 => 220 | 349 => 221 | 350 => 222 | 351 => 223 | 352 => 224 | 353 => 225 | 354 => 226 | 355 => 227 | 356 => 228 | 357 => 229 | 358 => 230 | 359 => 231 | 360 => 232 | 361 => 233 | 362 => 235 | 366 => 236 | 367 => 244 | n => n, fun | 0 => 0 | 1 => 1 | 2 => 2 | 3 => 3 | 4 => 4 | 5 => 5 | 6 => 6 | 7 => 7 | 8 => 8 | 9 => 9 | 10 => 10 | 11 => 11 | 12 => 12 | 13 => 13 | 14 => 14 | 15 => 15 | 16 => 16 | 17 => 17 | 18 => 18 | 19 => 19 | 20 => 20 | 21 => 21 | 22 => 183 | 23 => 133 | 24 => 24 | 27 => 199 | 28 => 46 | 31 => 54 | 34 => 52 | 37 => 43 | 38 => 44 | 43 => 141 | 46 => 173 | 47 => 203 | 51 => 193 | 52 => 204 | 53 => 97 | 54 => 188 | 55 => 205 | 67 => 79 | 69 => 95 | 70 => 119 | 71 => 120 | 72 => 121 | 73 => 122 | 74 => 123 | 75 => 124 | 76 => 125 | 77 => 126 | 80 => 127 | 81 => 171 | 83 => 94 | 84 => 164 | 101 => 65 | 102 => 62 | 104 => 138 | 109 => 174 | 110 => 175 | 111 => 142 | 112 => 170 | 114 => 143 | 127 => 158 | 146 => 194 | 147 => 195 | 148 => 196 | 149 => 197 | 151 => 208 | 164 => 184 | 165 => 185 | 166 => 186 | 171 => 187 | 172 => 189 | 173 => 190 | 174 => 191 | 211 => 200 | 212 => 201 | 213 => 202 | 232 => 206 | 233 => 207 | 238 => 209 | 239 => 210 | 240 => 211 | 241 => 212 | 242 => 213 | 243 => 214 | 244 => 215 | 245 => 216 | 246 => 217 | 247 => 218 | 248 => 219 | 249 => 220 | n => n, fun | 1 => 1 | 17 => 2 | 18 => 3 | 19 => 4 | n => n⟩
theorem lays_strconv_Itoa : Go.Proofs.LaysM.n171 Tryd.prog lays_strconv_Itoa_ren where
  mixed := by kernel_rfl
  f129 := Tryd.func206.trans (congrArg some (by kernel_rfl))
  f171 := Tryd.func71.trans (congrArg some (by kernel_rfl))
  f243 := Tryd.func116.trans (congrArg some (by kernel_rfl))
  f246 := Tryd.func160.trans (congrArg some (by kernel_rfl))
  f283 := Tryd.func189.trans (congrArg some (by kernel_rfl))
  f284 := Tryd.func190.trans (congrArg some (by kernel_rfl))
  f285 := Tryd.func191.trans (congrArg some (by kernel_rfl))
  f286 := Tryd.func192.trans (congrArg some (by kernel_rfl))
  f317 := Tryd.func205.trans (congrArg some (by kernel_rfl))
  f318 := Tryd.func207.trans (congrArg some (by kernel_rfl))
  f319 := Tryd.func208.trans (congrArg some (by kernel_rfl))
  f320 := Tryd.func209.trans (congrArg some (by kernel_rfl))
  f337 := Tryd.func211.trans (congrArg some (by kernel_rfl))
  f338 := Tryd.func212.trans (congrArg some (by kernel_rfl))
  t0 := Tryd.underlying0
  a0 := Tryd.isAgg0
  z0 := Tryd.sizeOf0
  v0 := Tryd.zeroValue0
  t2 := Tryd.underlying2
  a2 := Tryd.isAgg2
  z2 := Tryd.sizeOf2
  v2 := Tryd.zeroValue2
  t3 := Tryd.underlying3
  a3 := Tryd.isAgg3
  z3 := Tryd.sizeOf3
  v3 := Tryd.zeroValue3
  t4 := Tryd.underlying4
  a4 := Tryd.isAgg4
  z4 := Tryd.sizeOf4
  v4 := Tryd.zeroValue4
  t5 := Tryd.underlying5
  a5 := Tryd.isAgg5
  z5 := Tryd.sizeOf5
  v5 := Tryd.zeroValue5
  t9 := Tryd.underlying9
  a9 := Tryd.isAgg9
  z9 := Tryd.sizeOf9
  v9 := Tryd.zeroValue9
  t20 := Tryd.underlying20
  a20 := Tryd.isAgg20
  z20 := Tryd.sizeOf20
  v20 := Tryd.zeroValue20
  t37 := Tryd.underlying43
  a37 := Tryd.isAgg43
  z37 := Tryd.sizeOf43
  v37 := Tryd.zeroValue43
  t46 := Tryd.underlying173
  a46 := Tryd.isAgg173
  z46 := Tryd.sizeOf173
  v46 := Tryd.zeroValue173
  t51 := Tryd.underlying193
  a51 := Tryd.isAgg193
  z51 := Tryd.sizeOf193
  v51 := Tryd.zeroValue193
  t53 := Tryd.underlying97
  a53 := Tryd.isAgg97
  z53 := Tryd.sizeOf97
  v53 := Tryd.zeroValue97
  t171 := Tryd.underlying187
  a171 := Tryd.isAgg187
  z171 := Tryd.sizeOf187
  v171 := Tryd.zeroValue187
  t173 := Tryd.underlying190
  a173 := Tryd.isAgg190
  z173 := Tryd.sizeOf190
  v173 := Tryd.zeroValue190
  t212 := Tryd.underlying201
  a212 := Tryd.isAgg201
  z212 := Tryd.sizeOf201
  v212 := Tryd.zeroValue201
  t213 := Tryd.underlying202
  a213 := Tryd.isAgg202
  z213 := Tryd.sizeOf202
  t232 := Tryd.underlying206
  a232 := Tryd.isAgg206
  z232 := Tryd.sizeOf206
  v232 := Tryd.zeroValue206
  t233 := Tryd.underlying207
  a233 := Tryd.isAgg207
  z233 := Tryd.sizeOf207
  v233 := Tryd.zeroValue207
  g17 := by kernel_rfl
  g18 := by kernel_rfl
  g19 := by kernel_rfl
  i0 := by kernel_rfl
  i2 := by kernel_rfl
  i3 := by kernel_rfl
  i4 := by kernel_rfl
  i5 := by kernel_rfl
  i9 := by kernel_rfl
  i20 := by kernel_rfl
  i37 := by kernel_rfl
  i46 := by kernel_rfl
  i51 := by kernel_rfl
  i53 := by kernel_rfl
  i171 := by kernel_rfl
  i173 := by kernel_rfl
  i212 := by kernel_rfl
  i232 := by kernel_rfl
  i233 := by kernel_rfl
  m17 := by kernel_rfl
  m18 := by kernel_rfl
  m19 := by kernel_rfl
noncomputable def f_strconv_Itoa (t0 : PV (.int .i64)) : Option (PVs [.str] × PVs []) := Go.Dn.itoaF t0
noncomputable def ct_strconv_Itoa : Ct := ⟨[(.bor, (.int .i64))], [(.str, false)], fun x => f_strconv_Itoa x.1⟩
theorem ok_strconv_Itoa : FnOk gl Tryd.prog 71 ct_strconv_Itoa := Go.Dn.itoa_ok tabGlob_tab lays_strconv_Itoa
def lays_strings_Contains_ren : Go.Shelf.Ren := ⟨fun | 0 => 0 | 1 => 1 | 2 => 2 | 100 => 186 | 102 => 117 | 129 => 206 | 143 => 204 | 144 => 185 | 156 => 57 | 165 => 95 | 166 => 96 | 169 => 97 | 171 => 71 | 207 => 193 | 209 => 161 | 212 => 174 | 217 => 213 | 219 => 210 | 224 => 215 | 225 => 214 | 240 => 149 | 241 => 150 | 243 => 116 | 246 => 160 | 263 => 198 | 264 => 199 | 266 => 217 | 267 => 216 | 276 => 187 | 277 => 188 | 283 => 189 | 284 => 190 | 285 => 191 | 286 => 192 | 314 => 218 | 317 => 205 | 318 => 207 | 319 => 208 | 320 => 209 | 337 => 211 | 338 => 212 | 347 => 219 | 348 => 220 | 349 => 221 | 350 => 222 | 351 => 223 | 352 => 224 | 353 => 225 | 354 => 226 | 355 => 227 | 356 => 228 | 357 => 229 | 358 => 230 | 359 => 231 | 360 => 232 | 361 => 233 | 362 => 235 | 366 => 236 | 367 => 244 | n => n, fun | 0 => 0 | 1 => 1 | 2 => 2 | 3 => 3 | 4 => 4 | 5 => 5 | 6 => 6 | 7 => 7 | 8 => 8 | 9 => 9 | 10 => 10 | 11 => 11 | 12 => 12 | 13 => 13 | 14 => 14 | 15 => 15 | 16 => 16 | 17 => 17 | 18 => 18 | 19 => 19 | 20 => 20 | 21 => 21 | 22 => 183 | 23 => 133 | 24 => 24 | 27 => 199 | 28 => 46 | 31 => 54 | 34 => 52 | 37 => 43 | 38 => 44 | 43 => 141 | 46 => 173 | 47 => 203 | 51 => 193 | 52 => 204 | 53 => 97 | 54 => 188 | 55 => 205 | 67 => 79 | 69 => 95 | 70 => 119 | 71 => 120 | 72 => 121 | 73 => 122 | 74 => 123 | 75 => 124 | 76 => 125 | 77 => 126 | 80 => 127 | 81 => 171 | 83 => 94 | 84 => 164 | 101 => 65 | 102 => 62 | 104 => 138 | 109 => 174 | 110 => 175 | 111 => 142 | 112 => 170 | 114 => 143 | 127 => 158 | 146 => 194 | 147 => 195 | 148 => 196 | 149 => 197 | 151 => 208 | 164 => 184 | 165 => 185 | 166 => 186 | 171 => 187 | 172 => 189 | 173 => 190 | 174 => 191 | 211 => 200 | 212 => 201 | 213 => 202 | 232 => 206 | 233 => 207 | 238 => 209 | 239 => 210 | 240 => 211 | 241 => 212 | 242 => 213 | 243 => 214 | 244 => 215 | 245 => 216 | 246 => 217 | 247 => 218 | 248 => 219 | 249 => 220 | n => n, fun | 1 => 1 | 17 => 2 | 18 => 3 | 19 => 4 | n => n⟩
theorem lays_strings_Contains : Go.Proofs.Lays.n144 Tryd.prog lays_strings_Contains_ren where
  mixed := by kernel_rfl
  f143 := Tryd.func204.trans (congrArg some (by kernel_rfl))
  f144 := Tryd.func185.trans (congrArg some (by kernel_rfl))
  f217 := Tryd.func213.trans (congrArg some (by kernel_rfl))
  f219 := Tryd.func210.trans (congrArg some (by kernel_rfl))
  f224 := Tryd.func215.trans (congrArg some (by kernel_rfl))
  f225 := Tryd.func214.trans (congrArg some (by kernel_rfl))
  f266 := Tryd.func217.trans (congrArg some (by kernel_rfl))
  f267 := Tryd.func216.trans (congrArg some (by kernel_rfl))
  f314 := Tryd.func218.trans (congrArg some (by kernel_rfl))
  t3 := Tryd.underlying3
  a3 := Tryd.isAgg3
  z3 := Tryd.sizeOf3
  v3 := Tryd.zeroValue3
  t4 := Tryd.underlying4
  a4 := Tryd.isAgg4
  z4 := Tryd.sizeOf4
  v4 := Tryd.zeroValue4
  t5 := Tryd.underlying5
  a5 := Tryd.isAgg5
  z5 := Tryd.sizeOf5
  v5 := Tryd.zeroValue5
  t9 := Tryd.underlying9
  a9 := Tryd.isAgg9
  z9 := Tryd.sizeOf9
  v9 := Tryd.zeroValue9
  t46 := Tryd.underlying173
  a46 := Tryd.isAgg173
  z46 := Tryd.sizeOf173
  v46 := Tryd.zeroValue173
  t51 := Tryd.underlying193
  a51 := Tryd.isAgg193
  z51 := Tryd.sizeOf193
  v51 := Tryd.zeroValue193
  t146 := Tryd.underlying194
  a146 := Tryd.isAgg194
  z146 := Tryd.sizeOf194
  v146 := Tryd.zeroValue194
  g1 := by kernel_rfl
noncomputable def f_strings_Contains (t0 : PV .str) (t1 : PV .str) : Option (PVs [.bool] × PVs []) := Go.Dn.containsF t0 t1
noncomputable def ct_strings_Contains : Ct := ⟨[(.bor, .str), (.bor, .str)], [(.bool, false)], fun x => f_strings_Contains x.1 x.2.1⟩
theorem ok_strings_Contains : FnOk gl Tryd.prog 185 ct_strings_Contains := Go.Dn.contains_ok  lays_strings_Contains
noncomputable def sh_L_szStringS_5 : List Sh := mkSh 28 [(0, .val S_string .b), (1, .val (.int .i64) .b), (5, .val (.int .i64) .b)]
noncomputable def o_L_szStringS_5 : List Out := [⟨.exit 0, ⟨[], [1], []⟩, mkSh 28 [(1, .val (.int .i64) .b)]⟩, ⟨.ret, ⟨[], [4], []⟩, mkSh 28 [(4, .val (.int .i64) .b)]⟩]
noncomputable def b_L_szStringS_5 (t0 : PV S_string) (t1 : PV (.int .i64)) (t5 : PV (.int .i64)) : Option ((PV S_string × PV (.int .i64) × PV (.int .i64) × Unit) ⊕ ((PV (.int .i64) × Unit) ⊕ (PV (.int .i64) × Unit))) :=
  bif (decide (t5 < (t0.length : Int))) then
    bif inB t5 t0.length then
      bif (decide ((IntKind.wrap .i64 (t1 - ((t0.getD t5.toNat []).length : Int))) < 0)) then
        some (.inr (.inr ((-1), ())))
      else
        some (.inl (t0, (IntKind.wrap .i64 (t1 - ((t0.getD t5.toNat []).length : Int))), (IntKind.wrap .i64 (t5 + 1)), ()))
    else
      none
  else
    some (.inr (.inl (t1, ())))
noncomputable def w_L_szStringS_5 : PV S_string × PV (.int .i64) × PV (.int .i64) × Unit → Option ((PV (.int .i64) × Unit) ⊕ (PV (.int .i64) × Unit)) := fix fun d => b_L_szStringS_5 d.1 d.2.1 d.2.2.1
noncomputable def lp_L_szStringS_5 : Lp := ⟨⟨[], [0, 1, 5], []⟩, sh_L_szStringS_5, o_L_szStringS_5, fun d => b_L_szStringS_5 d.1 d.2.1 d.2.2.1⟩
noncomputable def pl_L_szStringS : Plan := ⟨[], [(5, lp_L_szStringS_5)], 0, 0⟩
noncomputable def f_L_szStringS (t0 : PV S_string) (t1 : PV (.int .i64)) : Option (PVs [(.int .i64)] × PVs []) :=
  bif (decide ((IntKind.wrap .i64 (t1 - (t0.length : Int))) < 0)) then
    some (((-1), ()), ())
  else
    (w_L_szStringS_5 (t0, (IntKind.wrap .i64 (t1 - (t0.length : Int))), 0, ())).bind fun x5 =>
      match x5 with
      | .inl l3 =>
        some ((l3.1, ()), ())
      | .inr l4 =>
        some ((l4.1, ()), ())
noncomputable def ct_L_szStringS : Ct := ⟨[(.bor, S_string), (.bor, (.int .i64))], [((.int .i64), false)], fun x => f_L_szStringS x.1 x.2.1⟩
noncomputable def cx_L_szStringS : Cx := ⟨tab, arrs, [], [], gl, []⟩
theorem eb_L_szStringS_5 (t0 : PV S_string) (t1 : PV (.int .i64)) (t5 : PV (.int .i64)) : denK cx_L_szStringS (rcN cx_L_szStringS 0) pl_L_szStringS 0 ((loopsOf (bodyOf Tryd.f39)).getD 0 .skip) (fillS sh_L_szStringS_5 (t0, t1, t5, ())) (roundK 0 lp_L_szStringS_5) = b_L_szStringS_5 t0 t1 t5 := by kernel_rfl
theorem ef_L_szStringS (t0 : PV S_string) (t1 : PV (.int .i64)) : denF cx_L_szStringS 0 pl_L_szStringS Tryd.f39.ntmps (bodyOf Tryd.f39) Tryd.f39.results.toList [(.bor, S_string), (.bor, (.int .i64))] [((.int .i64), false)] (t0, t1, ()) = f_L_szStringS t0 t1 := by kernel_rfl
theorem ok_L_szStringS : FnOk gl Tryd.prog 39 ct_L_szStringS :=
  fnOk (cx := cx_L_szStringS) (pl := pl_L_szStringS) (dp := 0) (ok0_of tabOk (by unfold ArrOk; kernel_rfl) mix trivial trivial) Tryd.func39 (by kernel_rfl) (by kernel_rfl) (by kernel_rfl)
    (by rw [show loopsOf (bodyOf Tryd.f39) = [((loopsOf (bodyOf Tryd.f39)).getD 0 .skip)] from by kernel_rfl]; exact ⟨(by rw [show lookup pl_L_szStringS.loops (firstId ((loopsOf (bodyOf Tryd.f39)).getD 0 .skip)) = some lp_L_szStringS_5 from by kernel_rfl]; exact fun d z h => (eb_L_szStringS_5 d.1 d.2.1 d.2.2.1).trans h), trivial⟩) (fun x => ef_L_szStringS x.1 x.2.1)
noncomputable def pl_L_szHunk : Plan := ⟨[], [], 0, 0⟩
noncomputable def f_L_szHunk (t0 : PV Y_impl_Hunk) (t1 : PV (.int .i64)) : Option (PVs [(.int .i64)] × PVs []) :=
  (f_L_szStringS t0.2.2.1 t1).bind fun r2 =>
    bif (decide (r2.1.1 < 0)) then
      some (((-1), ()), ())
    else
      some ((r2.1.1, ()), ())
noncomputable def ct_L_szHunk : Ct := ⟨[(.bor, Y_impl_Hunk), (.bor, (.int .i64))], [((.int .i64), false)], fun x => f_L_szHunk x.1 x.2.1⟩
noncomputable def cx_L_szHunk : Cx := ⟨tab, arrs, [(39, ct_L_szStringS)], [], gl, []⟩
theorem ef_L_szHunk (t0 : PV Y_impl_Hunk) (t1 : PV (.int .i64)) : denF cx_L_szHunk 0 pl_L_szHunk Tryd.f81.ntmps (bodyOf Tryd.f81) Tryd.f81.results.toList [(.bor, Y_impl_Hunk), (.bor, (.int .i64))] [((.int .i64), false)] (t0, t1, ()) = f_L_szHunk t0 t1 := by kernel_rfl
theorem ok_L_szHunk : FnOk gl Tryd.prog 81 ct_L_szHunk :=
  fnOk (cx := cx_L_szHunk) (pl := pl_L_szHunk) (dp := 0) (ok0_of tabOk (by unfold ArrOk; kernel_rfl) mix ⟨ok_L_szStringS, trivial⟩ trivial) Tryd.func81 (by kernel_rfl) (by kernel_rfl) (by kernel_rfl)
    (by rw [show loopsOf (bodyOf Tryd.f81) = [] from by kernel_rfl]; exact trivial) (fun x => ef_L_szHunk x.1 x.2.1)
noncomputable def sh_L_szHunkS_5 : List Sh := mkSh 27 [(0, .val S_laws_Hunk .b), (1, .val (.int .i64) .b), (5, .val (.int .i64) .b)]
noncomputable def o_L_szHunkS_5 : List Out := [⟨.exit 0, ⟨[], [1], []⟩, mkSh 27 [(1, .val (.int .i64) .b)]⟩, ⟨.ret, ⟨[], [4], []⟩, mkSh 27 [(4, .val (.int .i64) .b)]⟩]
noncomputable def b_L_szHunkS_5 (t0 : PV S_laws_Hunk) (t1 : PV (.int .i64)) (t5 : PV (.int .i64)) : Option ((PV S_laws_Hunk × PV (.int .i64) × PV (.int .i64) × Unit) ⊕ ((PV (.int .i64) × Unit) ⊕ (PV (.int .i64) × Unit))) :=
  bif (decide (t5 < (t0.length : Int))) then
    bif inB t5 t0.length then
      (f_L_szHunk (t0.getD t5.toNat (dflt Y_impl_Hunk)) t1).bind fun r4 =>
        bif (decide (r4.1.1 < 0)) then
          some (.inr (.inr ((-1), ())))
        else
          some (.inl (t0, r4.1.1, (IntKind.wrap .i64 (t5 + 1)), ()))
    else
      none
  else
    some (.inr (.inl (t1, ())))
noncomputable def w_L_szHunkS_5 : PV S_laws_Hunk × PV (.int .i64) × PV (.int .i64) × Unit → Option ((PV (.int .i64) × Unit) ⊕ (PV (.int .i64) × Unit)) := fix fun d => b_L_szHunkS_5 d.1 d.2.1 d.2.2.1
noncomputable def lp_L_szHunkS_5 : Lp := ⟨⟨[], [0, 1, 5], []⟩, sh_L_szHunkS_5, o_L_szHunkS_5, fun d => b_L_szHunkS_5 d.1 d.2.1 d.2.2.1⟩
noncomputable def pl_L_szHunkS : Plan := ⟨[], [(5, lp_L_szHunkS_5)], 0, 0⟩
noncomputable def f_L_szHunkS (t0 : PV S_laws_Hunk) (t1 : PV (.int .i64)) : Option (PVs [(.int .i64)] × PVs []) :=
  bif (decide ((IntKind.wrap .i64 (t1 - (t0.length : Int))) < 0)) then
    some (((-1), ()), ())
  else
    (w_L_szHunkS_5 (t0, (IntKind.wrap .i64 (t1 - (t0.length : Int))), 0, ())).bind fun x9 =>
      match x9 with
      | .inl l7 =>
        some ((l7.1, ()), ())
      | .inr l8 =>
        some ((l8.1, ()), ())
noncomputable def ct_L_szHunkS : Ct := ⟨[(.bor, S_laws_Hunk), (.bor, (.int .i64))], [((.int .i64), false)], fun x => f_L_szHunkS x.1 x.2.1⟩
noncomputable def cx_L_szHunkS : Cx := ⟨tab, arrs, [(81, ct_L_szHunk)], [], gl, []⟩
theorem eb_L_szHunkS_5 (t0 : PV S_laws_Hunk) (t1 : PV (.int .i64)) (t5 : PV (.int .i64)) : denK cx_L_szHunkS (rcN cx_L_szHunkS 0) pl_L_szHunkS 0 ((loopsOf (bodyOf Tryd.f40)).getD 0 .skip) (fillS sh_L_szHunkS_5 (t0, t1, t5, ())) (roundK 0 lp_L_szHunkS_5) = b_L_szHunkS_5 t0 t1 t5 := by kernel_rfl
theorem ef_L_szHunkS (t0 : PV S_laws_Hunk) (t1 : PV (.int .i64)) : denF cx_L_szHunkS 0 pl_L_szHunkS Tryd.f40.ntmps (bodyOf Tryd.f40) Tryd.f40.results.toList [(.bor, S_laws_Hunk), (.bor, (.int .i64))] [((.int .i64), false)] (t0, t1, ()) = f_L_szHunkS t0 t1 := by kernel_rfl
theorem ok_L_szHunkS : FnOk gl Tryd.prog 40 ct_L_szHunkS :=
  fnOk (cx := cx_L_szHunkS) (pl := pl_L_szHunkS) (dp := 0) (ok0_of tabOk (by unfold ArrOk; kernel_rfl) mix ⟨ok_L_szHunk, trivial⟩ trivial) Tryd.func40 (by kernel_rfl) (by kernel_rfl) (by kernel_rfl)
    (by rw [show loopsOf (bodyOf Tryd.f40) = [((loopsOf (bodyOf Tryd.f40)).getD 0 .skip)] from by kernel_rfl]; exact ⟨(by rw [show lookup pl_L_szHunkS.loops (firstId ((loopsOf (bodyOf Tryd.f40)).getD 0 .skip)) = some lp_L_szHunkS_5 from by kernel_rfl]; exact fun d z h => (eb_L_szHunkS_5 d.1 d.2.1 d.2.2.1).trans h), trivial⟩) (fun x => ef_L_szHunkS x.1 x.2.1)
noncomputable def sh_L_toStringS_3 : List Sh := mkSh 22 [(0, .val S_string .b), (3, .val S_string (.row .b)), (4, .val (.int .i64) .b)]
noncomputable def o_L_toStringS_3 : List Out := [⟨.exit 0, ⟨[], [3], []⟩, mkSh 22 [(3, .val S_string (.row .b))]⟩]
noncomputable def b_L_toStringS_3 (t0 : PV S_string) (t3 : PV S_string) (t4 : PV (.int .i64)) : Option ((PV S_string × PV S_string × PV (.int .i64) × Unit) ⊕ ((PV S_string × Unit))) :=
  bif (decide (t4 < (t0.length : Int))) then
    bif inB t4 t0.length then
      bif inB t4 t3.length then
        some (.inl (t0, (t3.set t4.toNat (t0.getD t4.toNat [])), (IntKind.wrap .i64 (t4 + 1)), ()))
      else
        none
    else
      none
  else
    some (.inr (t3, ()))
noncomputable def w_L_toStringS_3 : PV S_string × PV S_string × PV (.int .i64) × Unit → Option ((PV S_string × Unit)) := fix fun d => b_L_toStringS_3 d.1 d.2.1 d.2.2.1
noncomputable def lp_L_toStringS_3 : Lp := ⟨⟨[], [0, 3, 4], []⟩, sh_L_toStringS_3, o_L_toStringS_3, fun d => b_L_toStringS_3 d.1 d.2.1 d.2.2.1⟩
noncomputable def pl_L_toStringS : Plan := ⟨[], [(3, lp_L_toStringS_3)], 0, 0⟩
noncomputable def f_L_toStringS (t0 : PV S_string) : Option (PVs [S_string] × PVs []) :=
  bif decide (0 ≤ (t0.length : Int)) && (decide ((t0.length : Int) ≤ (t0.length : Int)) && roomB (t0.length : Int).toNat) then
    (w_L_toStringS_3 (t0, (List.replicate (t0.length : Int).toNat ([] : PV .str)), 0, ())).bind fun l2 =>
      some ((l2.1, ()), ())
  else
    none
noncomputable def ct_L_toStringS : Ct := ⟨[(.bor, S_string)], [(S_string, true)], fun x => f_L_toStringS x.1⟩
noncomputable def cx_L_toStringS : Cx := ⟨tab, arrs, [], [], gl, []⟩
theorem eb_L_toStringS_3 (t0 : PV S_string) (t3 : PV S_string) (t4 : PV (.int .i64)) : denK cx_L_toStringS (rcN cx_L_toStringS 0) pl_L_toStringS 0 ((loopsOf (bodyOf Tryd.f42)).getD 0 .skip) (fillS sh_L_toStringS_3 (t0, t3, t4, ())) (roundK 0 lp_L_toStringS_3) = b_L_toStringS_3 t0 t3 t4 := by kernel_rfl
theorem ef_L_toStringS (t0 : PV S_string) : denF cx_L_toStringS 0 pl_L_toStringS Tryd.f42.ntmps (bodyOf Tryd.f42) Tryd.f42.results.toList [(.bor, S_string)] [(S_string, true)] (t0, ()) = f_L_toStringS t0 := by kernel_rfl
theorem ok_L_toStringS : FnOk gl Tryd.prog 42 ct_L_toStringS :=
  fnOk (cx := cx_L_toStringS) (pl := pl_L_toStringS) (dp := 0) (ok0_of tabOk (by unfold ArrOk; kernel_rfl) mix trivial trivial) Tryd.func42 (by kernel_rfl) (by kernel_rfl) (by kernel_rfl)
    (by rw [show loopsOf (bodyOf Tryd.f42) = [((loopsOf (bodyOf Tryd.f42)).getD 0 .skip)] from by kernel_rfl]; exact ⟨(by rw [show lookup pl_L_toStringS.loops (firstId ((loopsOf (bodyOf Tryd.f42)).getD 0 .skip)) = some lp_L_toStringS_3 from by kernel_rfl]; exact fun d z h => (eb_L_toStringS_3 d.1 d.2.1 d.2.2.1).trans h), trivial⟩) (fun x => ef_L_toStringS x.1)
noncomputable def pl_L_toHunk : Plan := ⟨[], [], 0, 0⟩
noncomputable def f_L_toHunk (t0 : PV Y_impl_Hunk) : Option (PVs [Y_impl_Hunk] × PVs []) :=
  (f_L_toStringS t0.2.2.1).bind fun r2 =>
    some (((t0.1, (t0.2.1, (r2.1.1, ()))), ()), ())
noncomputable def ct_L_toHunk : Ct := ⟨[(.bor, Y_impl_Hunk)], [(Y_impl_Hunk, true)], fun x => f_L_toHunk x.1⟩
noncomputable def cx_L_toHunk : Cx := ⟨tab, arrs, [(42, ct_L_toStringS)], [], gl, []⟩
theorem ef_L_toHunk (t0 : PV Y_impl_Hunk) : denF cx_L_toHunk 0 pl_L_toHunk Tryd.f83.ntmps (bodyOf Tryd.f83) Tryd.f83.results.toList [(.bor, Y_impl_Hunk)] [(Y_impl_Hunk, true)] (t0, ()) = f_L_toHunk t0 := by kernel_rfl
theorem ok_L_toHunk : FnOk gl Tryd.prog 83 ct_L_toHunk :=
  fnOk (cx := cx_L_toHunk) (pl := pl_L_toHunk) (dp := 0) (ok0_of tabOk (by unfold ArrOk; kernel_rfl) mix ⟨ok_L_toStringS, trivial⟩ trivial) Tryd.func83 (by kernel_rfl) (by kernel_rfl) (by kernel_rfl)
    (by rw [show loopsOf (bodyOf Tryd.f83) = [] from by kernel_rfl]; exact trivial) (fun x => ef_L_toHunk x.1)
noncomputable def sh_L_toHunkS_3 : List Sh := mkSh 23 [(0, .val S_laws_Hunk .b), (3, .val S_impl_Hunk (.row (.pr .b (.pr .b (.pr (.row .b) .b))))), (4, .val (.int .i64) .b)]
noncomputable def o_L_toHunkS_3 : List Out := [⟨.exit 0, ⟨[], [3], []⟩, mkSh 23 [(3, .val S_impl_Hunk (.row (.pr .b (.pr .b (.pr (.row .b) .b)))))]⟩]
noncomputable def b_L_toHunkS_3 (t0 : PV S_laws_Hunk) (t3 : PV S_impl_Hunk) (t4 : PV (.int .i64)) : Option ((PV S_laws_Hunk × PV S_impl_Hunk × PV (.int .i64) × Unit) ⊕ ((PV S_impl_Hunk × Unit))) :=
  bif (decide (t4 < (t0.length : Int))) then
    bif inB t4 t0.length then
      (f_L_toHunk (t0.getD t4.toNat (dflt Y_impl_Hunk))).bind fun r2 =>
        bif inB t4 t3.length then
          some (.inl (t0, (t3.set t4.toNat r2.1.1), (IntKind.wrap .i64 (t4 + 1)), ()))
        else
          none
    else
      none
  else
    some (.inr (t3, ()))
noncomputable def w_L_toHunkS_3 : PV S_laws_Hunk × PV S_impl_Hunk × PV (.int .i64) × Unit → Option ((PV S_impl_Hunk × Unit)) := fix fun d => b_L_toHunkS_3 d.1 d.2.1 d.2.2.1
noncomputable def lp_L_toHunkS_3 : Lp := ⟨⟨[], [0, 3, 4], []⟩, sh_L_toHunkS_3, o_L_toHunkS_3, fun d => b_L_toHunkS_3 d.1 d.2.1 d.2.2.1⟩
noncomputable def pl_L_toHunkS : Plan := ⟨[], [(3, lp_L_toHunkS_3)], 0, 0⟩
noncomputable def f_L_toHunkS (t0 : PV S_laws_Hunk) : Option (PVs [S_impl_Hunk] × PVs []) :=
  bif decide (0 ≤ (t0.length : Int)) && (decide ((t0.length : Int) ≤ (t0.length : Int)) && roomB (t0.length : Int).toNat) then
    (w_L_toHunkS_3 (t0, (List.replicate (t0.length : Int).toNat (dflt Y_impl_Hunk)), 0, ())).bind fun l4 =>
      some ((l4.1, ()), ())
  else
    none
noncomputable def ct_L_toHunkS : Ct := ⟨[(.bor, S_laws_Hunk)], [(S_impl_Hunk, true)], fun x => f_L_toHunkS x.1⟩
noncomputable def cx_L_toHunkS : Cx := ⟨tab, arrs, [(83, ct_L_toHunk)], [], gl, []⟩
theorem eb_L_toHunkS_3 (t0 : PV S_laws_Hunk) (t3 : PV S_impl_Hunk) (t4 : PV (.int .i64)) : denK cx_L_toHunkS (rcN cx_L_toHunkS 0) pl_L_toHunkS 0 ((loopsOf (bodyOf Tryd.f43)).getD 0 .skip) (fillS sh_L_toHunkS_3 (t0, t3, t4, ())) (roundK 0 lp_L_toHunkS_3) = b_L_toHunkS_3 t0 t3 t4 := by kernel_rfl
theorem ef_L_toHunkS (t0 : PV S_laws_Hunk) : denF cx_L_toHunkS 0 pl_L_toHunkS Tryd.f43.ntmps (bodyOf Tryd.f43) Tryd.f43.results.toList [(.bor, S_laws_Hunk)] [(S_impl_Hunk, true)] (t0, ()) = f_L_toHunkS t0 := by kernel_rfl
theorem ok_L_toHunkS : FnOk gl Tryd.prog 43 ct_L_toHunkS :=
  fnOk (cx := cx_L_toHunkS) (pl := pl_L_toHunkS) (dp := 0) (ok0_of tabOk (by unfold ArrOk; kernel_rfl) mix ⟨ok_L_toHunk, trivial⟩ trivial) Tryd.func43 (by kernel_rfl) (by kernel_rfl) (by kernel_rfl)
    (by rw [show loopsOf (bodyOf Tryd.f43) = [((loopsOf (bodyOf Tryd.f43)).getD 0 .skip)] from by kernel_rfl]; exact ⟨(by rw [show lookup pl_L_toHunkS.loops (firstId ((loopsOf (bodyOf Tryd.f43)).getD 0 .skip)) = some lp_L_toHunkS_3 from by kernel_rfl]; exact fun d z h => (eb_L_toHunkS_3 d.1 d.2.1 d.2.2.1).trans h), trivial⟩) (fun x => ef_L_toHunkS x.1)
noncomputable def pl_S_l1In : Plan := ⟨[], [], 0, 0⟩
noncomputable def f_S_l1In (t0 : PV (.int .i64)) (t1 : PV (.int .i64)) (t2 : PV (.int .i64)) : Option (PVs [.bool] × PVs []) :=
  bif (decide (t0 ≥ t1)) then
    some (((decide (t0 ≤ t2)), ()), ())
  else
    some ((false, ()), ())
noncomputable def ct_S_l1In : Ct := ⟨[(.bor, (.int .i64)), (.bor, (.int .i64)), (.bor, (.int .i64))], [(.bool, false)], fun x => f_S_l1In x.1 x.2.1 x.2.2.1⟩
noncomputable def cx_S_l1In : Cx := ⟨tab, arrs, [], [], gl, []⟩
theorem ef_S_l1In (t0 : PV (.int .i64)) (t1 : PV (.int .i64)) (t2 : PV (.int .i64)) : denF cx_S_l1In 0 pl_S_l1In Tryd.f114.ntmps (bodyOf Tryd.f114) Tryd.f114.results.toList [(.bor, (.int .i64)), (.bor, (.int .i64)), (.bor, (.int .i64))] [(.bool, false)] (t0, t1, t2, ()) = f_S_l1In t0 t1 t2 := by kernel_rfl
theorem ok_S_l1In : FnOk gl Tryd.prog 114 ct_S_l1In :=
  fnOk (cx := cx_S_l1In) (pl := pl_S_l1In) (dp := 0) (ok0_of tabOk (by unfold ArrOk; kernel_rfl) mix trivial trivial) Tryd.func114 (by kernel_rfl) (by kernel_rfl) (by kernel_rfl)
    (by rw [show loopsOf (bodyOf Tryd.f114) = [] from by kernel_rfl]; exact trivial) (fun x => ef_S_l1In x.1 x.2.1 x.2.2.1)
noncomputable def sh_S_l1Line_2 : List Sh := mkSh 18 [(0, .val .str .b), (3, .val (.int .i64) .b)]
noncomputable def o_S_l1Line_2 : List Out := [⟨.exit 0, ⟨[], [0], []⟩, mkSh 18 [(0, .val .str .b)]⟩, ⟨.ret, ⟨[], [2], []⟩, mkSh 18 [(2, .val .bool .b)]⟩]
noncomputable def b_S_l1Line_2 (t0 : PV .str) (t3 : PV (.int .i64)) : Option ((PV .str × PV (.int .i64) × Unit) ⊕ ((PV .str × Unit) ⊕ (PV .bool × Unit))) :=
  bif (decide (t3 < (IntKind.wrap .i64 ((t0.length : Int) - 1)))) then
    bif inB t3 t0.length then
      bif (((t0.getD t3.toNat 0).toNat : Int) == 10) then
        some (.inr (.inr (false, ())))
      else
        some (.inl (t0, (IntKind.wrap .i64 (t3 + 1)), ()))
    else
      none
  else
    some (.inr (.inl (t0, ())))
noncomputable def w_S_l1Line_2 : PV .str × PV (.int .i64) × Unit → Option ((PV .str × Unit) ⊕ (PV .bool × Unit)) := fix fun d => b_S_l1Line_2 d.1 d.2.1
noncomputable def lp_S_l1Line_2 : Lp := ⟨⟨[], [0, 3], []⟩, sh_S_l1Line_2, o_S_l1Line_2, fun d => b_S_l1Line_2 d.1 d.2.1⟩
noncomputable def pl_S_l1Line : Plan := ⟨[], [(2, lp_S_l1Line_2)], 0, 0⟩
noncomputable def f_S_l1Line (t0 : PV .str) : Option (PVs [.bool] × PVs []) :=
  (w_S_l1Line_2 (t0, 0, ())).bind fun x6 =>
    match x6 with
    | .inl l3 =>
      (f_S_l1In (l3.1.length : Int) 1 30).bind fun r4 =>
        some ((r4.1.1, ()), ())
    | .inr l5 =>
      some ((l5.1, ()), ())
noncomputable def ct_S_l1Line : Ct := ⟨[(.bor, .str)], [(.bool, false)], fun x => f_S_l1Line x.1⟩
noncomputable def cx_S_l1Line : Cx := ⟨tab, arrs, [(114, ct_S_l1In)], [], gl, []⟩
theorem eb_S_l1Line_2 (t0 : PV .str) (t3 : PV (.int .i64)) : denK cx_S_l1Line (rcN cx_S_l1Line 0) pl_S_l1Line 0 ((loopsOf (bodyOf Tryd.f152)).getD 0 .skip) (fillS sh_S_l1Line_2 (t0, t3, ())) (roundK 0 lp_S_l1Line_2) = b_S_l1Line_2 t0 t3 := by kernel_rfl
theorem ef_S_l1Line (t0 : PV .str) : denF cx_S_l1Line 0 pl_S_l1Line Tryd.f152.ntmps (bodyOf Tryd.f152) Tryd.f152.results.toList [(.bor, .str)] [(.bool, false)] (t0, ()) = f_S_l1Line t0 := by kernel_rfl
theorem ok_S_l1Line : FnOk gl Tryd.prog 152 ct_S_l1Line :=
  fnOk (cx := cx_S_l1Line) (pl := pl_S_l1Line) (dp := 0) (ok0_of tabOk (by unfold ArrOk; kernel_rfl) mix ⟨ok_S_l1In, trivial⟩ trivial) Tryd.func152 (by kernel_rfl) (by kernel_rfl) (by kernel_rfl)
    (by rw [show loopsOf (bodyOf Tryd.f152) = [((loopsOf (bodyOf Tryd.f152)).getD 0 .skip)] from by kernel_rfl]; exact ⟨(by rw [show lookup pl_S_l1Line.loops (firstId ((loopsOf (bodyOf Tryd.f152)).getD 0 .skip)) = some lp_S_l1Line_2 from by kernel_rfl]; exact fun d z h => (eb_S_l1Line_2 d.1 d.2.1).trans h), trivial⟩) (fun x => ef_S_l1Line x.1)
noncomputable def pl_S_l1Ends : Plan := ⟨[], [], 0, 0⟩
noncomputable def f_S_l1Ends (t0 : PV .str) : Option (PVs [.bool] × PVs []) :=
  bif inB (IntKind.wrap .i64 ((t0.length : Int) - 1)) t0.length then
    some (((((t0.getD (IntKind.wrap .i64 ((t0.length : Int) - 1)).toNat 0).toNat : Int) == 10), ()), ())
  else
    none
noncomputable def ct_S_l1Ends : Ct := ⟨[(.bor, .str)], [(.bool, false)], fun x => f_S_l1Ends x.1⟩
noncomputable def cx_S_l1Ends : Cx := ⟨tab, arrs, [], [], gl, []⟩
theorem ef_S_l1Ends (t0 : PV .str) : denF cx_S_l1Ends 0 pl_S_l1Ends Tryd.f115.ntmps (bodyOf Tryd.f115) Tryd.f115.results.toList [(.bor, .str)] [(.bool, false)] (t0, ()) = f_S_l1Ends t0 := by kernel_rfl
theorem ok_S_l1Ends : FnOk gl Tryd.prog 115 ct_S_l1Ends :=
  fnOk (cx := cx_S_l1Ends) (pl := pl_S_l1Ends) (dp := 0) (ok0_of tabOk (by unfold ArrOk; kernel_rfl) mix trivial trivial) Tryd.func115 (by kernel_rfl) (by kernel_rfl) (by kernel_rfl)
    (by rw [show loopsOf (bodyOf Tryd.f115) = [] from by kernel_rfl]; exact trivial) (fun x => ef_S_l1Ends x.1)
noncomputable def o_S_l1Good_5 : List Out := [⟨.normal, ⟨[], [0, 5, 6, 7, 26], []⟩, mkSh 31 [(0, .val S_string .b), (5, .val S_string .b), (6, .val (.int .i64) .b), (7, .val (.int .i64) .b), (26, .val .bool .b)]⟩]
noncomputable def sh_S_l1Good_2 : List Sh := mkSh 31 [(0, .val S_string .b), (5, .val S_string .b), (6, .val (.int .i64) .b), (7, .val (.int .i64) .b)]
noncomputable def o_S_l1Good_2 : List Out := [⟨.exit 0, ⟨[], [0], []⟩, mkSh 31 [(0, .val S_string .b)]⟩, ⟨.ret, ⟨[], [2], []⟩, mkSh 31 [(2, .val .bool .b)]⟩]
noncomputable def b_S_l1Good_2 (t0 : PV S_string) (t5 : PV S_string) (t6 : PV (.int .i64)) (t7 : PV (.int .i64)) : Option ((PV S_string × PV S_string × PV (.int .i64) × PV (.int .i64) × Unit) ⊕ ((PV S_string × Unit) ⊕ (PV .bool × Unit))) :=
  bif (decide (t7 < t6)) then
    bif inB t7 t5.length then
      ((
          (f_S_l1Line (t5.getD t7.toNat [])).bind fun r4 =>
            bif (!r4.1.1) then
              some (t0, t5, t6, t7, true, ())
            else
              bif (decide (t7 < (IntKind.wrap .i64 ((t0.length : Int) - 1)))) then
                (f_S_l1Ends (t5.getD t7.toNat [])).bind fun r5 =>
                  some (t0, t5, t6, t7, (!r5.1.1), ())
              else
                some (t0, t5, t6, t7, false, ()) : Option ((PV S_string × PV S_string × PV (.int .i64) × PV (.int .i64) × PV .bool × Unit)))).bind fun j6 =>
        bif j6.2.2.2.2.1 then
          some (.inr (.inr (false, ())))
        else
          some (.inl (j6.1, j6.2.1, j6.2.2.1, (IntKind.wrap .i64 (j6.2.2.2.1 + 1)), ()))
    else
      none
  else
    some (.inr (.inl (t0, ())))
noncomputable def w_S_l1Good_2 : PV S_string × PV S_string × PV (.int .i64) × PV (.int .i64) × Unit → Option ((PV S_string × Unit) ⊕ (PV .bool × Unit)) := fix fun d => b_S_l1Good_2 d.1 d.2.1 d.2.2.1 d.2.2.2.1
noncomputable def lp_S_l1Good_2 : Lp := ⟨⟨[], [0, 5, 6, 7, 16, 17, 18, 19, 20, 21, 22, 23, 24, 25], []⟩, sh_S_l1Good_2, o_S_l1Good_2, fun d => b_S_l1Good_2 d.1 d.2.1 d.2.2.1 d.2.2.2.1⟩
noncomputable def pl_S_l1Good : Plan := ⟨[(5, o_S_l1Good_5)], [(2, lp_S_l1Good_2)], 0, 0⟩
noncomputable def f_S_l1Good (t0 : PV S_string) : Option (PVs [.bool] × PVs []) :=
  (w_S_l1Good_2 (t0, t0, (t0.length : Int), 0, ())).bind fun x11 =>
    match x11 with
    | .inl l9 =>
      some (((decide ((l9.1.length : Int) ≤ 40)), ()), ())
    | .inr l10 =>
      some ((l10.1, ()), ())
noncomputable def ct_S_l1Good : Ct := ⟨[(.bor, S_string)], [(.bool, false)], fun x => f_S_l1Good x.1⟩
noncomputable def cx_S_l1Good : Cx := ⟨tab, arrs, [(115, ct_S_l1Ends), (152, ct_S_l1Line)], [], gl, []⟩
theorem eb_S_l1Good_2 (t0 : PV S_string) (t5 : PV S_string) (t6 : PV (.int .i64)) (t7 : PV (.int .i64)) : denK cx_S_l1Good (rcN cx_S_l1Good 0) pl_S_l1Good 0 ((loopsOf (bodyOf Tryd.f113)).getD 0 .skip) (fillS sh_S_l1Good_2 (t0, t5, t6, t7, ())) (roundK 0 lp_S_l1Good_2) = b_S_l1Good_2 t0 t5 t6 t7 := by kernel_rfl
theorem ef_S_l1Good (t0 : PV S_string) : denF cx_S_l1Good 0 pl_S_l1Good Tryd.f113.ntmps (bodyOf Tryd.f113) Tryd.f113.results.toList [(.bor, S_string)] [(.bool, false)] (t0, ()) = f_S_l1Good t0 := by kernel_rfl
theorem ok_S_l1Good : FnOk gl Tryd.prog 113 ct_S_l1Good :=
  fnOk (cx := cx_S_l1Good) (pl := pl_S_l1Good) (dp := 0) (ok0_of tabOk (by unfold ArrOk; kernel_rfl) mix ⟨ok_S_l1Ends, ok_S_l1Line, trivial⟩ trivial) Tryd.func113 (by kernel_rfl) (by kernel_rfl) (by kernel_rfl)
    (by rw [show loopsOf (bodyOf Tryd.f113) = [((loopsOf (bodyOf Tryd.f113)).getD 0 .skip)] from by kernel_rfl]; exact ⟨(by rw [show lookup pl_S_l1Good.loops (firstId ((loopsOf (bodyOf Tryd.f113)).getD 0 .skip)) = some lp_S_l1Good_2 from by kernel_rfl]; exact fun d z h => (eb_S_l1Good_2 d.1 d.2.1 d.2.2.1 d.2.2.2.1).trans h), trivial⟩) (fun x => ef_S_l1Good x.1)
noncomputable def o_S_l2Hunks_5 : List Out := [⟨.normal, ⟨[], [0, 1, 6, 9, 10, 11, 75, 92, 93], []⟩, mkSh 95 [(0, .val (.int .i64) .b), (1, .val S_impl_Hunk .b), (6, .var Y_impl_Hunk .b), (9, .val S_impl_Hunk .b), (10, .val (.int .i64) .b), (11, .val (.int .i64) .b), (75, .val .bool .b)]⟩]
noncomputable def sh_S_l2Hunks_7 : List Sh := mkSh 95 [(0, .val (.int .i64) .b), (1, .val S_impl_Hunk .b), (9, .val S_impl_Hunk .b), (10, .val (.int .i64) .b), (11, .val (.int .i64) .b), (77, .val S_string .b), (78, .val (.int .i64) .b), (79, .val (.int .i64) .b)]
noncomputable def o_S_l2Hunks_7 : List Out := [⟨.exit 2, ⟨[], [0, 1, 9, 10, 11, 20, 21, 22, 25, 26, 27, 28, 31, 32, 33, 34, 35, 36, 37, 40, 41, 42, 43, 44, 45, 46, 49, 50, 51, 52, 55, 56, 57, 58, 59, 60, 61, 62, 63, 64, 65, 66, 67, 68, 69, 70, 71, 72, 73, 74, 92, 93], []⟩, mkSh 95 [(0, .val (.int .i64) .b), (1, .val S_impl_Hunk .b), (9, .val S_impl_Hunk .b), (10, .val (.int .i64) .b), (11, .val (.int .i64) .b)]⟩, ⟨.ret, ⟨[], [4], []⟩, mkSh 95 [(4, .val .bool .b)]⟩]
noncomputable def b_S_l2Hunks_7 (t0 : PV (.int .i64)) (t1 : PV S_impl_Hunk) (t9 : PV S_impl_Hunk) (t10 : PV (.int .i64)) (t11 : PV (.int .i64)) (t77 : PV S_string) (t78 : PV (.int .i64)) (t79 : PV (.int .i64)) : Option ((PV (.int .i64) × PV S_impl_Hunk × PV S_impl_Hunk × PV (.int .i64) × PV (.int .i64) × PV S_string × PV (.int .i64) × PV (.int .i64) × Unit) ⊕ ((PV (.int .i64) × PV S_impl_Hunk × PV S_impl_Hunk × PV (.int .i64) × PV (.int .i64) × Unit) ⊕ (PV .bool × Unit))) :=
  bif (decide (t79 < t78)) then
    bif inB t79 t77.length then
      (f_S_l1Line (t77.getD t79.toNat [])).bind fun r6 =>
        bif (!r6.1.1) then
          some (.inr (.inr (false, ())))
        else
          some (.inl (t0, t1, t9, t10, t11, t77, t78, (IntKind.wrap .i64 (t79 + 1)), ()))
    else
      none
  else
    some (.inr (.inl (t0, t1, t9, t10, t11, ())))
noncomputable def w_S_l2Hunks_7 : PV (.int .i64) × PV S_impl_Hunk × PV S_impl_Hunk × PV (.int .i64) × PV (.int .i64) × PV S_string × PV (.int .i64) × PV (.int .i64) × Unit → Option ((PV (.int .i64) × PV S_impl_Hunk × PV S_impl_Hunk × PV (.int .i64) × PV (.int .i64) × Unit) ⊕ (PV .bool × Unit)) := fix fun d => b_S_l2Hunks_7 d.1 d.2.1 d.2.2.1 d.2.2.2.1 d.2.2.2.2.1 d.2.2.2.2.2.1 d.2.2.2.2.2.2.1 d.2.2.2.2.2.2.2.1
noncomputable def lp_S_l2Hunks_7 : Lp := ⟨⟨[], [0, 1, 9, 10, 11, 20, 21, 22, 25, 26, 27, 28, 31, 32, 33, 34, 35, 36, 37, 40, 41, 42, 43, 44, 45, 46, 49, 50, 51, 52, 55, 56, 57, 58, 59, 60, 61, 62, 63, 64, 65, 66, 67, 68, 69, 70, 71, 72, 73, 74, 77, 78, 79, 92, 93], []⟩, sh_S_l2Hunks_7, o_S_l2Hunks_7, fun d => b_S_l2Hunks_7 d.1 d.2.1 d.2.2.1 d.2.2.2.1 d.2.2.2.2.1 d.2.2.2.2.2.1 d.2.2.2.2.2.2.1 d.2.2.2.2.2.2.2.1⟩
noncomputable def sh_S_l2Hunks_2 : List Sh := mkSh 95 [(0, .val (.int .i64) .b), (1, .val S_impl_Hunk .b), (9, .val S_impl_Hunk .b), (10, .val (.int .i64) .b), (11, .val (.int .i64) .b)]
noncomputable def o_S_l2Hunks_2 : List Out := [⟨.exit 0, ⟨[], [0, 1, 92, 93], []⟩, mkSh 95 [(0, .val (.int .i64) .b), (1, .val S_impl_Hunk .b)]⟩, ⟨.ret, ⟨[], [4], []⟩, mkSh 95 [(4, .val .bool .b)]⟩]
noncomputable def b_S_l2Hunks_2 (t0 : PV (.int .i64)) (t1 : PV S_impl_Hunk) (t9 : PV S_impl_Hunk) (t10 : PV (.int .i64)) (t11 : PV (.int .i64)) : Option ((PV (.int .i64) × PV S_impl_Hunk × PV S_impl_Hunk × PV (.int .i64) × PV (.int .i64) × Unit) ⊕ ((PV (.int .i64) × PV S_impl_Hunk × Unit) ⊕ (PV .bool × Unit))) :=
  bif (decide (t11 < t10)) then
    bif inB t11 t9.length then
      ((
          bif (decide (((t9.getD t11.toNat (dflt Y_impl_Hunk)).1) < 0)) then
            some (t0, t1, (t9.getD t11.toNat (dflt Y_impl_Hunk)), t9, t10, t11, true, ())
          else
            bif (decide ((((t9.getD t11.toNat (dflt Y_impl_Hunk)).2).1) < 0)) then
              some (t0, t1, (t9.getD t11.toNat (dflt Y_impl_Hunk)), t9, t10, t11, true, ())
            else
              bif (decide ((((t9.getD t11.toNat (dflt Y_impl_Hunk)).2).1) > t0)) then
                some (t0, t1, (t9.getD t11.toNat (dflt Y_impl_Hunk)), t9, t10, t11, true, ())
              else
                bif (decide (((t9.getD t11.toNat (dflt Y_impl_Hunk)).1) > (IntKind.wrap .i64 (t0 - (((t9.getD t11.toNat (dflt Y_impl_Hunk)).2).1))))) then
                  some (t0, t1, (t9.getD t11.toNat (dflt Y_impl_Hunk)), t9, t10, t11, true, ())
                else
                  bif ((IntKind.wrap .i64 ((((t9.getD t11.toNat (dflt Y_impl_Hunk)).2).1) + (((((t9.getD t11.toNat (dflt Y_impl_Hunk)).2).2).1).length : Int))) == 0) then
                    some (t0, t1, (t9.getD t11.toNat (dflt Y_impl_Hunk)), t9, t10, t11, true, ())
                  else
                    bif (decide ((((((t9.getD t11.toNat (dflt Y_impl_Hunk)).2).2).1).length : Int) > 40)) then
                      some (t0, t1, (t9.getD t11.toNat (dflt Y_impl_Hunk)), t9, t10, t11, true, ())
                    else
                      bif (decide (t11 > 0)) then
                        bif inB (IntKind.wrap .i64 (t11 - 1)) t1.length then
                          bif inB (IntKind.wrap .i64 (t11 - 1)) t1.length then
                            some (t0, t1, (t9.getD t11.toNat (dflt Y_impl_Hunk)), t9, t10, t11, (decide (((t9.getD t11.toNat (dflt Y_impl_Hunk)).1) ≤ (IntKind.wrap .i64 (((t1.getD ((IntKind.wrap .i64 (t11 - 1)).toNat) (dflt Y_impl_Hunk)).1) + (((t1.getD ((IntKind.wrap .i64 (t11 - 1)).toNat) (dflt Y_impl_Hunk)).2).1))))), ())
                          else
                            none
                        else
                          none
                      else
                        some (t0, t1, (t9.getD t11.toNat (dflt Y_impl_Hunk)), t9, t10, t11, false, ()) : Option ((PV (.int .i64) × PV S_impl_Hunk × PV Y_impl_Hunk × PV S_impl_Hunk × PV (.int .i64) × PV (.int .i64) × PV .bool × Unit)))).bind fun j6 =>
        bif j6.2.2.2.2.2.2.1 then
          some (.inr (.inr (false, ())))
        else
          (w_S_l2Hunks_7 (j6.1, j6.2.1, j6.2.2.2.1, j6.2.2.2.2.1, j6.2.2.2.2.2.1, j6.2.2.1.2.2.1, (j6.2.2.1.2.2.1.length : Int), 0, ())).bind fun x14 =>
            match x14 with
            | .inl l7 =>
              some (.inl (l7.1, l7.2.1, l7.2.2.1, l7.2.2.2.1, (IntKind.wrap .i64 (l7.2.2.2.2.1 + 1)), ()))
            | .inr l8 =>
              some (.inr (.inr (l8.1, ())))
    else
      none
  else
    some (.inr (.inl (t0, t1, ())))
noncomputable def w_S_l2Hunks_2 : PV (.int .i64) × PV S_impl_Hunk × PV S_impl_Hunk × PV (.int .i64) × PV (.int .i64) × Unit → Option ((PV (.int .i64) × PV S_impl_Hunk × Unit) ⊕ (PV .bool × Unit)) := fix fun d => b_S_l2Hunks_2 d.1 d.2.1 d.2.2.1 d.2.2.2.1 d.2.2.2.2.1
noncomputable def lp_S_l2Hunks_2 : Lp := ⟨⟨[], [0, 1, 9, 10, 11, 20, 21, 22, 25, 26, 27, 28, 31, 32, 33, 34, 35, 36, 37, 40, 41, 42, 43, 44, 45, 46, 49, 50, 51, 52, 55, 56, 57, 58, 59, 60, 61, 62, 63, 64, 65, 66, 67, 68, 69, 70, 71, 72, 73, 74, 92, 93], []⟩, sh_S_l2Hunks_2, o_S_l2Hunks_2, fun d => b_S_l2Hunks_2 d.1 d.2.1 d.2.2.1 d.2.2.2.1 d.2.2.2.2.1⟩
noncomputable def pl_S_l2Hunks : Plan := ⟨[(5, o_S_l2Hunks_5)], [(7, lp_S_l2Hunks_7), (2, lp_S_l2Hunks_2)], 0, 0⟩
noncomputable def f_S_l2Hunks (t0 : PV (.int .i64)) (t1 : PV S_impl_Hunk) : Option (PVs [.bool] × PVs []) :=
  (w_S_l2Hunks_2 (t0, t1, t1, (t1.length : Int), 0, ())).bind fun x15 =>
    match x15 with
    | .inl l11 =>
      bif (decide ((l11.2.1.length : Int) ≤ 20)) then
        (f_S_l1In l11.1 0 40).bind fun r12 =>
          some ((r12.1.1, ()), ())
      else
        some ((false, ()), ())
    | .inr l13 =>
      some ((l13.1, ()), ())
noncomputable def ct_S_l2Hunks : Ct := ⟨[(.bor, (.int .i64)), (.bor, S_impl_Hunk)], [(.bool, false)], fun x => f_S_l2Hunks x.1 x.2.1⟩
noncomputable def cx_S_l2Hunks : Cx := ⟨tab, arrs, [(114, ct_S_l1In), (152, ct_S_l1Line)], [], gl, []⟩
theorem eb_S_l2Hunks_2 (t0 : PV (.int .i64)) (t1 : PV S_impl_Hunk) (t9 : PV S_impl_Hunk) (t10 : PV (.int .i64)) (t11 : PV (.int .i64)) : denK cx_S_l2Hunks (rcN cx_S_l2Hunks 0) pl_S_l2Hunks 0 ((loopsOf (bodyOf Tryd.f201)).getD 0 .skip) (fillS sh_S_l2Hunks_2 (t0, t1, t9, t10, t11, ())) (roundK 0 lp_S_l2Hunks_2) = b_S_l2Hunks_2 t0 t1 t9 t10 t11 := by kernel_rfl
theorem eb_S_l2Hunks_7 (t0 : PV (.int .i64)) (t1 : PV S_impl_Hunk) (t9 : PV S_impl_Hunk) (t10 : PV (.int .i64)) (t11 : PV (.int .i64)) (t77 : PV S_string) (t78 : PV (.int .i64)) (t79 : PV (.int .i64)) : denK cx_S_l2Hunks (rcN cx_S_l2Hunks 0) pl_S_l2Hunks 0 ((loopsOf (bodyOf Tryd.f201)).getD 1 .skip) (fillS sh_S_l2Hunks_7 (t0, t1, t9, t10, t11, t77, t78, t79, ())) (roundK 0 lp_S_l2Hunks_7) = b_S_l2Hunks_7 t0 t1 t9 t10 t11 t77 t78 t79 := by kernel_rfl
theorem ef_S_l2Hunks (t0 : PV (.int .i64)) (t1 : PV S_impl_Hunk) : denF cx_S_l2Hunks 0 pl_S_l2Hunks Tryd.f201.ntmps (bodyOf Tryd.f201) Tryd.f201.results.toList [(.bor, (.int .i64)), (.bor, S_impl_Hunk)] [(.bool, false)] (t0, t1, ()) = f_S_l2Hunks t0 t1 := by kernel_rfl
theorem ok_S_l2Hunks : FnOk gl Tryd.prog 201 ct_S_l2Hunks :=
  fnOk (cx := cx_S_l2Hunks) (pl := pl_S_l2Hunks) (dp := 0) (ok0_of tabOk (by unfold ArrOk; kernel_rfl) mix ⟨ok_S_l1In, ok_S_l1Line, trivial⟩ trivial) Tryd.func201 (by kernel_rfl) (by kernel_rfl) (by kernel_rfl)
    (by rw [show loopsOf (bodyOf Tryd.f201) = [((loopsOf (bodyOf Tryd.f201)).getD 0 .skip), ((loopsOf (bodyOf Tryd.f201)).getD 1 .skip)] from by kernel_rfl]; exact ⟨(by rw [show lookup pl_S_l2Hunks.loops (firstId ((loopsOf (bodyOf Tryd.f201)).getD 0 .skip)) = some lp_S_l2Hunks_2 from by kernel_rfl]; exact fun d z h => (eb_S_l2Hunks_2 d.1 d.2.1 d.2.2.1 d.2.2.2.1 d.2.2.2.2.1).trans h), (by rw [show lookup pl_S_l2Hunks.loops (firstId ((loopsOf (bodyOf Tryd.f201)).getD 1 .skip)) = some lp_S_l2Hunks_7 from by kernel_rfl]; exact fun d z h => (eb_S_l2Hunks_7 d.1 d.2.1 d.2.2.1 d.2.2.2.1 d.2.2.2.2.1 d.2.2.2.2.2.1 d.2.2.2.2.2.2.1 d.2.2.2.2.2.2.2.1).trans h), trivial⟩) (fun x => ef_S_l2Hunks x.1 x.2.1)
noncomputable def pl_S_l2Asked : Plan := ⟨[], [], 0, 0⟩
noncomputable def f_S_l2Asked (t0 : PV S_string) (t1 : PV S_impl_Hunk) : Option (PVs [.bool] × PVs []) :=
  (f_S_l1Good t0).bind fun r1 =>
    bif r1.1.1 then
      (f_S_l2Hunks (t0.length : Int) t1).bind fun r2 =>
        some ((r2.1.1, ()), ())
    else
      some ((false, ()), ())
noncomputable def ct_S_l2Asked : Ct := ⟨[(.bor, S_string), (.bor, S_impl_Hunk)], [(.bool, false)], fun x => f_S_l2Asked x.1 x.2.1⟩
noncomputable def cx_S_l2Asked : Cx := ⟨tab, arrs, [(113, ct_S_l1Good), (201, ct_S_l2Hunks)], [], gl, []⟩
theorem ef_S_l2Asked (t0 : PV S_string) (t1 : PV S_impl_Hunk) : denF cx_S_l2Asked 0 pl_S_l2Asked Tryd.f180.ntmps (bodyOf Tryd.f180) Tryd.f180.results.toList [(.bor, S_string), (.bor, S_impl_Hunk)] [(.bool, false)] (t0, t1, ()) = f_S_l2Asked t0 t1 := by kernel_rfl
theorem ok_S_l2Asked : FnOk gl Tryd.prog 180 ct_S_l2Asked :=
  fnOk (cx := cx_S_l2Asked) (pl := pl_S_l2Asked) (dp := 0) (ok0_of tabOk (by unfold ArrOk; kernel_rfl) mix ⟨ok_S_l1Good, ok_S_l2Hunks, trivial⟩ trivial) Tryd.func180 (by kernel_rfl) (by kernel_rfl) (by kernel_rfl)
    (by rw [show loopsOf (bodyOf Tryd.f180) = [] from by kernel_rfl]; exact trivial) (fun x => ef_S_l2Asked x.1 x.2.1)
noncomputable def sh_S_l2Patch_4 : List Sh := mkSh 37 [(0, .val S_string .b), (5, .val S_string (.row .b)), (6, .val (.int .i64) .b), (9, .val S_impl_Hunk .b), (10, .val (.int .i64) .b), (11, .val (.int .i64) .b)]
noncomputable def o_S_l2Patch_4 : List Out := [⟨.exit 0, ⟨[], [0, 5, 6], []⟩, mkSh 37 [(0, .val S_string .b), (5, .val S_string (.row .b)), (6, .val (.int .i64) .b)]⟩]
noncomputable def b_S_l2Patch_4 (t0 : PV S_string) (t5 : PV S_string) (t6 : PV (.int .i64)) (t9 : PV S_impl_Hunk) (t10 : PV (.int .i64)) (t11 : PV (.int .i64)) : Option ((PV S_string × PV S_string × PV (.int .i64) × PV S_impl_Hunk × PV (.int .i64) × PV (.int .i64) × Unit) ⊕ ((PV S_string × PV S_string × PV (.int .i64) × Unit))) :=
  bif (decide (t11 < t10)) then
    bif inB t11 t9.length then
      bif cutB t6 ((t9.getD t11.toNat (dflt Y_impl_Hunk)).1) t0.length then
        bif roomB (t5.length + (cutL t6 ((t9.getD t11.toNat (dflt Y_impl_Hunk)).1) t0).length) then
          bif roomB ((t5 ++ (cutL t6 ((t9.getD t11.toNat (dflt Y_impl_Hunk)).1) t0)).length + ((((t9.getD t11.toNat (dflt Y_impl_Hunk)).2).2).1).length) then
            some (.inl (t0, ((t5 ++ (cutL t6 ((t9.getD t11.toNat (dflt Y_impl_Hunk)).1) t0)) ++ ((((t9.getD t11.toNat (dflt Y_impl_Hunk)).2).2).1)), (IntKind.wrap .i64 (((t9.getD t11.toNat (dflt Y_impl_Hunk)).1) + (((t9.getD t11.toNat (dflt Y_impl_Hunk)).2).1))), t9, t10, (IntKind.wrap .i64 (t11 + 1)), ()))
          else
            none
        else
          none
      else
        none
    else
      none
  else
    some (.inr (t0, t5, t6, ()))
noncomputable def w_S_l2Patch_4 : PV S_string × PV S_string × PV (.int .i64) × PV S_impl_Hunk × PV (.int .i64) × PV (.int .i64) × Unit → Option ((PV S_string × PV S_string × PV (.int .i64) × Unit)) := fix fun d => b_S_l2Patch_4 d.1 d.2.1 d.2.2.1 d.2.2.2.1 d.2.2.2.2.1 d.2.2.2.2.2.1
noncomputable def lp_S_l2Patch_4 : Lp := ⟨⟨[], [0, 5, 6, 9, 10, 11], []⟩, sh_S_l2Patch_4, o_S_l2Patch_4, fun d => b_S_l2Patch_4 d.1 d.2.1 d.2.2.1 d.2.2.2.1 d.2.2.2.2.1 d.2.2.2.2.2.1⟩
noncomputable def pl_S_l2Patch : Plan := ⟨[], [(4, lp_S_l2Patch_4)], 0, 0⟩
noncomputable def f_S_l2Patch (t0 : PV S_string) (t1 : PV S_impl_Hunk) : Option (PVs [S_string] × PVs []) :=
  (w_S_l2Patch_4 (t0, [], 0, t1, (t1.length : Int), 0, ())).bind fun l2 =>
    bif cutB l2.2.2.1 (l2.1.length : Int) l2.1.length then
      bif roomB (l2.2.1.length + (cutL l2.2.2.1 (l2.1.length : Int) l2.1).length) then
        some (((l2.2.1 ++ (cutL l2.2.2.1 (l2.1.length : Int) l2.1)), ()), ())
      else
        none
    else
      none
noncomputable def ct_S_l2Patch : Ct := ⟨[(.bor, S_string), (.bor, S_impl_Hunk)], [(S_string, true)], fun x => f_S_l2Patch x.1 x.2.1⟩
noncomputable def cx_S_l2Patch : Cx := ⟨tab, arrs, [], [], gl, []⟩
theorem eb_S_l2Patch_4 (t0 : PV S_string) (t5 : PV S_string) (t6 : PV (.int .i64)) (t9 : PV S_impl_Hunk) (t10 : PV (.int .i64)) (t11 : PV (.int .i64)) : denK cx_S_l2Patch (rcN cx_S_l2Patch 0) pl_S_l2Patch 0 ((loopsOf (bodyOf Tryd.f181)).getD 0 .skip) (fillS sh_S_l2Patch_4 (t0, t5, t6, t9, t10, t11, ())) (roundK 0 lp_S_l2Patch_4) = b_S_l2Patch_4 t0 t5 t6 t9 t10 t11 := by kernel_rfl
theorem ef_S_l2Patch (t0 : PV S_string) (t1 : PV S_impl_Hunk) : denF cx_S_l2Patch 0 pl_S_l2Patch Tryd.f181.ntmps (bodyOf Tryd.f181) Tryd.f181.results.toList [(.bor, S_string), (.bor, S_impl_Hunk)] [(S_string, true)] (t0, t1, ()) = f_S_l2Patch t0 t1 := by kernel_rfl
theorem ok_S_l2Patch : FnOk gl Tryd.prog 181 ct_S_l2Patch :=
  fnOk (cx := cx_S_l2Patch) (pl := pl_S_l2Patch) (dp := 0) (ok0_of tabOk (by unfold ArrOk; kernel_rfl) mix trivial trivial) Tryd.func181 (by kernel_rfl) (by kernel_rfl) (by kernel_rfl)
    (by rw [show loopsOf (bodyOf Tryd.f181) = [((loopsOf (bodyOf Tryd.f181)).getD 0 .skip)] from by kernel_rfl]; exact ⟨(by rw [show lookup pl_S_l2Patch.loops (firstId ((loopsOf (bodyOf Tryd.f181)).getD 0 .skip)) = some lp_S_l2Patch_4 from by kernel_rfl]; exact fun d z h => (eb_S_l2Patch_4 d.1 d.2.1 d.2.2.1 d.2.2.2.1 d.2.2.2.2.1 d.2.2.2.2.2.1).trans h), trivial⟩) (fun x => ef_S_l2Patch x.1 x.2.1)
noncomputable def pl_S_Patch : Plan := ⟨[], [], 0, 0⟩
noncomputable def f_S_Patch (t0 : PV S_string) (t1 : PV S_impl_Hunk) : Option (PVs [S_string, .bool] × PVs []) :=
  (f_S_l2Asked t0 t1).bind fun r4 =>
    bif (!r4.1.1) then
      some (([], false, ()), ())
    else
      (f_S_l2Patch t0 t1).bind fun r6 =>
        (f_S_l1Good r6.1.1).bind fun r10 =>
          bif (!r10.1.1) then
            some (([], false, ()), ())
          else
            some ((r6.1.1, true, ()), ())
noncomputable def ct_S_Patch : Ct := ⟨[(.bor, S_string), (.bor, S_impl_Hunk)], [(S_string, true), (.bool, false)], fun x => f_S_Patch x.1 x.2.1⟩
noncomputable def cx_S_Patch : Cx := ⟨tab, arrs, [(113, ct_S_l1Good), (180, ct_S_l2Asked), (181, ct_S_l2Patch)], [], gl, []⟩
theorem ef_S_Patch (t0 : PV S_string) (t1 : PV S_impl_Hunk) : denF cx_S_Patch 0 pl_S_Patch Tryd.f139.ntmps (bodyOf Tryd.f139) Tryd.f139.results.toList [(.bor, S_string), (.bor, S_impl_Hunk)] [(S_string, true), (.bool, false)] (t0, t1, ()) = f_S_Patch t0 t1 := by kernel_rfl
theorem ok_S_Patch : FnOk gl Tryd.prog 139 ct_S_Patch :=
  fnOk (cx := cx_S_Patch) (pl := pl_S_Patch) (dp := 0) (ok0_of tabOk (by unfold ArrOk; kernel_rfl) mix ⟨ok_S_l1Good, ok_S_l2Asked, ok_S_l2Patch, trivial⟩ trivial) Tryd.func139 (by kernel_rfl) (by kernel_rfl) (by kernel_rfl)
    (by rw [show loopsOf (bodyOf Tryd.f139) = [] from by kernel_rfl]; exact trivial) (fun x => ef_S_Patch x.1 x.2.1)
noncomputable def pl_S_l1Most : Plan := ⟨[], [], 0, 0⟩
noncomputable def f_S_l1Most (t0 : PV (.int .i64)) (t1 : PV (.int .i64)) : Option (PVs [(.int .i64)] × PVs []) :=
  bif (decide (t0 > t1)) then
    some ((t0, ()), ())
  else
    some ((t1, ()), ())
noncomputable def ct_S_l1Most : Ct := ⟨[(.bor, (.int .i64)), (.bor, (.int .i64))], [((.int .i64), false)], fun x => f_S_l1Most x.1 x.2.1⟩
noncomputable def cx_S_l1Most : Cx := ⟨tab, arrs, [], [], gl, []⟩
theorem ef_S_l1Most (t0 : PV (.int .i64)) (t1 : PV (.int .i64)) : denF cx_S_l1Most 0 pl_S_l1Most Tryd.f194.ntmps (bodyOf Tryd.f194) Tryd.f194.results.toList [(.bor, (.int .i64)), (.bor, (.int .i64))] [((.int .i64), false)] (t0, t1, ()) = f_S_l1Most t0 t1 := by kernel_rfl
theorem ok_S_l1Most : FnOk gl Tryd.prog 194 ct_S_l1Most :=
  fnOk (cx := cx_S_l1Most) (pl := pl_S_l1Most) (dp := 0) (ok0_of tabOk (by unfold ArrOk; kernel_rfl) mix trivial trivial) Tryd.func194 (by kernel_rfl) (by kernel_rfl) (by kernel_rfl)
    (by rw [show loopsOf (bodyOf Tryd.f194) = [] from by kernel_rfl]; exact trivial) (fun x => ef_S_l1Most x.1 x.2.1)
noncomputable def sh_S_l6Rows_3 : List Sh := mkSh 22 [(0, .val (.int .i64) .b), (5, .val S_impl_Row (.row (.pr .b (.pr .b .b)))), (8, .val S_string .b), (9, .val (.int .i64) .b), (10, .val (.int .i64) .b)]
noncomputable def o_S_l6Rows_3 : List Out := [⟨.exit 0, ⟨[], [5], []⟩, mkSh 22 [(5, .val S_impl_Row (.row (.pr .b (.pr .b .b))))]⟩]
noncomputable def b_S_l6Rows_3 (t0 : PV (.int .i64)) (t5 : PV S_impl_Row) (t8 : PV S_string) (t9 : PV (.int .i64)) (t10 : PV (.int .i64)) : Option ((PV (.int .i64) × PV S_impl_Row × PV S_string × PV (.int .i64) × PV (.int .i64) × Unit) ⊕ ((PV S_impl_Row × Unit))) :=
  bif (decide (t10 < t9)) then
    bif inB t10 t8.length then
      bif roomB (t5.length + [(t0, ((t8.getD t10.toNat []), ()))].length) then
        some (.inl (t0, (t5 ++ [(t0, ((t8.getD t10.toNat []), ()))]), t8, t9, (IntKind.wrap .i64 (t10 + 1)), ()))
      else
        none
    else
      none
  else
    some (.inr (t5, ()))
noncomputable def w_S_l6Rows_3 : PV (.int .i64) × PV S_impl_Row × PV S_string × PV (.int .i64) × PV (.int .i64) × Unit → Option ((PV S_impl_Row × Unit)) := fix fun d => b_S_l6Rows_3 d.1 d.2.1 d.2.2.1 d.2.2.2.1 d.2.2.2.2.1
noncomputable def lp_S_l6Rows_3 : Lp := ⟨⟨[], [0, 5, 8, 9, 10], []⟩, sh_S_l6Rows_3, o_S_l6Rows_3, fun d => b_S_l6Rows_3 d.1 d.2.1 d.2.2.1 d.2.2.2.1 d.2.2.2.2.1⟩
noncomputable def pl_S_l6Rows : Plan := ⟨[], [(3, lp_S_l6Rows_3)], 0, 0⟩
noncomputable def f_S_l6Rows (t0 : PV (.int .i64)) (t1 : PV S_string) : Option (PVs [S_impl_Row] × PVs []) :=
  (w_S_l6Rows_3 (t0, [], t1, (t1.length : Int), 0, ())).bind fun l2 =>
    some ((l2.1, ()), ())
noncomputable def ct_S_l6Rows : Ct := ⟨[(.bor, (.int .i64)), (.bor, S_string)], [(S_impl_Row, true)], fun x => f_S_l6Rows x.1 x.2.1⟩
noncomputable def cx_S_l6Rows : Cx := ⟨tab, arrs, [], [], gl, []⟩
theorem eb_S_l6Rows_3 (t0 : PV (.int .i64)) (t5 : PV S_impl_Row) (t8 : PV S_string) (t9 : PV (.int .i64)) (t10 : PV (.int .i64)) : denK cx_S_l6Rows (rcN cx_S_l6Rows 0) pl_S_l6Rows 0 ((loopsOf (bodyOf Tryd.f202)).getD 0 .skip) (fillS sh_S_l6Rows_3 (t0, t5, t8, t9, t10, ())) (roundK 0 lp_S_l6Rows_3) = b_S_l6Rows_3 t0 t5 t8 t9 t10 := by kernel_rfl
theorem ef_S_l6Rows (t0 : PV (.int .i64)) (t1 : PV S_string) : denF cx_S_l6Rows 0 pl_S_l6Rows Tryd.f202.ntmps (bodyOf Tryd.f202) Tryd.f202.results.toList [(.bor, (.int .i64)), (.bor, S_string)] [(S_impl_Row, true)] (t0, t1, ()) = f_S_l6Rows t0 t1 := by kernel_rfl
theorem ok_S_l6Rows : FnOk gl Tryd.prog 202 ct_S_l6Rows :=
  fnOk (cx := cx_S_l6Rows) (pl := pl_S_l6Rows) (dp := 0) (ok0_of tabOk (by unfold ArrOk; kernel_rfl) mix trivial trivial) Tryd.func202 (by kernel_rfl) (by kernel_rfl) (by kernel_rfl)
    (by rw [show loopsOf (bodyOf Tryd.f202) = [((loopsOf (bodyOf Tryd.f202)).getD 0 .skip)] from by kernel_rfl]; exact ⟨(by rw [show lookup pl_S_l6Rows.loops (firstId ((loopsOf (bodyOf Tryd.f202)).getD 0 .skip)) = some lp_S_l6Rows_3 from by kernel_rfl]; exact fun d z h => (eb_S_l6Rows_3 d.1 d.2.1 d.2.2.1 d.2.2.2.1 d.2.2.2.2.1).trans h), trivial⟩) (fun x => ef_S_l6Rows x.1 x.2.1)
noncomputable def pl_S_l1Least : Plan := ⟨[], [], 0, 0⟩
noncomputable def f_S_l1Least (t0 : PV (.int .i64)) (t1 : PV (.int .i64)) : Option (PVs [(.int .i64)] × PVs []) :=
  bif (decide (t0 < t1)) then
    some ((t0, ()), ())
  else
    some ((t1, ()), ())
noncomputable def ct_S_l1Least : Ct := ⟨[(.bor, (.int .i64)), (.bor, (.int .i64))], [((.int .i64), false)], fun x => f_S_l1Least x.1 x.2.1⟩
noncomputable def cx_S_l1Least : Cx := ⟨tab, arrs, [], [], gl, []⟩
theorem ef_S_l1Least (t0 : PV (.int .i64)) (t1 : PV (.int .i64)) : denF cx_S_l1Least 0 pl_S_l1Least Tryd.f203.ntmps (bodyOf Tryd.f203) Tryd.f203.results.toList [(.bor, (.int .i64)), (.bor, (.int .i64))] [((.int .i64), false)] (t0, t1, ()) = f_S_l1Least t0 t1 := by kernel_rfl
theorem ok_S_l1Least : FnOk gl Tryd.prog 203 ct_S_l1Least :=
  fnOk (cx := cx_S_l1Least) (pl := pl_S_l1Least) (dp := 0) (ok0_of tabOk (by unfold ArrOk; kernel_rfl) mix trivial trivial) Tryd.func203 (by kernel_rfl) (by kernel_rfl) (by kernel_rfl)
    (by rw [show loopsOf (bodyOf Tryd.f203) = [] from by kernel_rfl]; exact trivial) (fun x => ef_S_l1Least x.1 x.2.1)
noncomputable def sh_S_l6One_6 : List Sh := mkSh 98 [(0, .val S_string .b), (2, .val (.int .i64) .b), (8, .var Y_impl_Group (.pr .b (.pr .b (.pr (.row (.pr .b (.pr .b .b))) .b)))), (10, .var Y_impl_Hunk .b), (11, .var Y_impl_Group (.pr .b (.pr .b (.pr (.row (.pr .b (.pr .b .b))) .b)))), (12, .val (.int .i64) .b), (35, .val S_impl_Hunk .b), (36, .val (.int .i64) .b), (37, .val (.int .i64) .b)]
noncomputable def o_S_l6One_6 : List Out := [⟨.exit 0, ⟨[], [0, 2, 8, 10, 11, 12], []⟩, mkSh 98 [(0, .val S_string .b), (2, .val (.int .i64) .b), (8, .var Y_impl_Group (.pr .b (.pr .b (.pr (.row (.pr .b (.pr .b .b))) .b)))), (10, .var Y_impl_Hunk .b), (11, .var Y_impl_Group (.pr .b (.pr .b (.pr (.row (.pr .b (.pr .b .b))) .b)))), (12, .val (.int .i64) .b)]⟩]
noncomputable def b_S_l6One_6 (t0 : PV S_string) (t2 : PV (.int .i64)) (t8 : PV Y_impl_Group) (t10 : PV Y_impl_Hunk) (t11 : PV Y_impl_Group) (t12 : PV (.int .i64)) (t35 : PV S_impl_Hunk) (t36 : PV (.int .i64)) (t37 : PV (.int .i64)) : Option ((PV S_string × PV (.int .i64) × PV Y_impl_Group × PV Y_impl_Hunk × PV Y_impl_Group × PV (.int .i64) × PV S_impl_Hunk × PV (.int .i64) × PV (.int .i64) × Unit) ⊕ ((PV S_string × PV (.int .i64) × PV Y_impl_Group × PV Y_impl_Hunk × PV Y_impl_Group × PV (.int .i64) × Unit))) :=
  bif (decide (t37 < t36)) then
    bif inB t37 t35.length then
      bif cutB t12 ((t35.getD t37.toNat (dflt Y_impl_Hunk)).1) t0.length then
        (f_S_l6Rows 1 (cutL t12 ((t35.getD t37.toNat (dflt Y_impl_Hunk)).1) t0)).bind fun r10 =>
          bif roomB (t11.2.2.1.length + r10.1.1.length) then
            bif cutB ((t35.getD t37.toNat (dflt Y_impl_Hunk)).1) (IntKind.wrap .i64 (((t35.getD t37.toNat (dflt Y_impl_Hunk)).1) + (((t35.getD t37.toNat (dflt Y_impl_Hunk)).2).1))) t0.length then
              (f_S_l6Rows 2 (cutL ((t35.getD t37.toNat (dflt Y_impl_Hunk)).1) (IntKind.wrap .i64 (((t35.getD t37.toNat (dflt Y_impl_Hunk)).1) + (((t35.getD t37.toNat (dflt Y_impl_Hunk)).2).1))) t0)).bind fun r12 =>
                bif roomB ((t11.2.2.1 ++ r10.1.1).length + r12.1.1.length) then
                  (f_S_l6Rows 3 ((((t35.getD t37.toNat (dflt Y_impl_Hunk)).2).2).1)).bind fun r14 =>
                    bif roomB (((t11.2.2.1 ++ r10.1.1) ++ r12.1.1).length + r14.1.1.length) then
                      some (.inl (t0, t2, t8, t10, (t11.1, (t11.2.1, ((((t11.2.2.1 ++ r10.1.1) ++ r12.1.1) ++ r14.1.1), t11.2.2.2))), (IntKind.wrap .i64 (((t35.getD t37.toNat (dflt Y_impl_Hunk)).1) + (((t35.getD t37.toNat (dflt Y_impl_Hunk)).2).1))), t35, t36, (IntKind.wrap .i64 (t37 + 1)), ()))
                    else
                      none
                else
                  none
            else
              none
          else
            none
      else
        none
    else
      none
  else
    some (.inr (t0, t2, t8, t10, t11, t12, ()))
noncomputable def w_S_l6One_6 : PV S_string × PV (.int .i64) × PV Y_impl_Group × PV Y_impl_Hunk × PV Y_impl_Group × PV (.int .i64) × PV S_impl_Hunk × PV (.int .i64) × PV (.int .i64) × Unit → Option ((PV S_string × PV (.int .i64) × PV Y_impl_Group × PV Y_impl_Hunk × PV Y_impl_Group × PV (.int .i64) × Unit)) := fix fun d => b_S_l6One_6 d.1 d.2.1 d.2.2.1 d.2.2.2.1 d.2.2.2.2.1 d.2.2.2.2.2.1 d.2.2.2.2.2.2.1 d.2.2.2.2.2.2.2.1 d.2.2.2.2.2.2.2.2.1
noncomputable def lp_S_l6One_6 : Lp := ⟨⟨[], [0, 2, 8, 10, 11, 12, 35, 36, 37], []⟩, sh_S_l6One_6, o_S_l6One_6, fun d => b_S_l6One_6 d.1 d.2.1 d.2.2.1 d.2.2.2.1 d.2.2.2.2.1 d.2.2.2.2.2.1 d.2.2.2.2.2.2.1 d.2.2.2.2.2.2.2.1 d.2.2.2.2.2.2.2.2.1⟩
noncomputable def pl_S_l6One : Plan := ⟨[], [(6, lp_S_l6One_6)], 0, 0⟩
noncomputable def f_S_l6One (t0 : PV S_string) (t1 : PV S_impl_Hunk) (t2 : PV (.int .i64)) (t3 : PV (.int .i64)) : Option (PVs [Y_impl_Group] × PVs []) :=
  bif inB 0 t1.length then
    (f_S_l1Most 0 (IntKind.wrap .i64 (((t1.getD ((0 : Int).toNat) (dflt Y_impl_Hunk)).1) - t2))).bind fun r2 =>
      bif inB (IntKind.wrap .i64 ((t1.length : Int) - 1)) t1.length then
        (w_S_l6One_6 (t0, t2, (0, (0, (([] : PV S_impl_Row), ()))), (t1.getD ((IntKind.wrap .i64 ((t1.length : Int) - 1)).toNat) (dflt Y_impl_Hunk)), (r2.1.1, ((IntKind.wrap .i64 (r2.1.1 + t3)), (([] : PV S_impl_Row), ()))), r2.1.1, t1, (t1.length : Int), 0, ())).bind fun l16 =>
          (f_S_l1Least (l16.1.length : Int) (IntKind.wrap .i64 ((IntKind.wrap .i64 (l16.2.2.2.1.1 + l16.2.2.2.1.2.1)) + l16.2.1))).bind fun r18 =>
            bif cutB l16.2.2.2.2.2.1 r18.1.1 l16.1.length then
              (f_S_l6Rows 1 (cutL l16.2.2.2.2.2.1 r18.1.1 l16.1)).bind fun r20 =>
                bif roomB (l16.2.2.2.2.1.2.2.1.length + r20.1.1.length) then
                  some (((l16.2.2.2.2.1.1, (l16.2.2.2.2.1.2.1, ((l16.2.2.2.2.1.2.2.1 ++ r20.1.1), l16.2.2.2.2.1.2.2.2))), ()), ())
                else
                  none
            else
              none
      else
        none
  else
    none
noncomputable def ct_S_l6One : Ct := ⟨[(.bor, S_string), (.bor, S_impl_Hunk), (.bor, (.int .i64)), (.bor, (.int .i64))], [(Y_impl_Group, true)], fun x => f_S_l6One x.1 x.2.1 x.2.2.1 x.2.2.2.1⟩
noncomputable def cx_S_l6One : Cx := ⟨tab, arrs, [(194, ct_S_l1Most), (202, ct_S_l6Rows), (203, ct_S_l1Least)], [], gl, []⟩
theorem eb_S_l6One_6 (t0 : PV S_string) (t2 : PV (.int .i64)) (t8 : PV Y_impl_Group) (t10 : PV Y_impl_Hunk) (t11 : PV Y_impl_Group) (t12 : PV (.int .i64)) (t35 : PV S_impl_Hunk) (t36 : PV (.int .i64)) (t37 : PV (.int .i64)) : denK cx_S_l6One (rcN cx_S_l6One 0) pl_S_l6One 0 ((loopsOf (bodyOf Tryd.f182)).getD 0 .skip) (fillS sh_S_l6One_6 (t0, t2, t8, t10, t11, t12, t35, t36, t37, ())) (roundK 0 lp_S_l6One_6) = b_S_l6One_6 t0 t2 t8 t10 t11 t12 t35 t36 t37 := by kernel_rfl
theorem ef_S_l6One (t0 : PV S_string) (t1 : PV S_impl_Hunk) (t2 : PV (.int .i64)) (t3 : PV (.int .i64)) : denF cx_S_l6One 0 pl_S_l6One Tryd.f182.ntmps (bodyOf Tryd.f182) Tryd.f182.results.toList [(.bor, S_string), (.bor, S_impl_Hunk), (.bor, (.int .i64)), (.bor, (.int .i64))] [(Y_impl_Group, true)] (t0, t1, t2, t3, ()) = f_S_l6One t0 t1 t2 t3 := by kernel_rfl
theorem ok_S_l6One : FnOk gl Tryd.prog 182 ct_S_l6One :=
  fnOk (cx := cx_S_l6One) (pl := pl_S_l6One) (dp := 0) (ok0_of tabOk (by unfold ArrOk; kernel_rfl) mix ⟨ok_S_l1Most, ok_S_l6Rows, ok_S_l1Least, trivial⟩ trivial) Tryd.func182 (by kernel_rfl) (by kernel_rfl) (by kernel_rfl)
    (by rw [show loopsOf (bodyOf Tryd.f182) = [((loopsOf (bodyOf Tryd.f182)).getD 0 .skip)] from by kernel_rfl]; exact ⟨(by rw [show lookup pl_S_l6One.loops (firstId ((loopsOf (bodyOf Tryd.f182)).getD 0 .skip)) = some lp_S_l6One_6 from by kernel_rfl]; exact fun d z h => (eb_S_l6One_6 d.1 d.2.1 d.2.2.1 d.2.2.2.1 d.2.2.2.2.1 d.2.2.2.2.2.1 d.2.2.2.2.2.2.1 d.2.2.2.2.2.2.2.1 d.2.2.2.2.2.2.2.2.1).trans h), trivial⟩) (fun x => ef_S_l6One x.1 x.2.1 x.2.2.1 x.2.2.2.1)
noncomputable def sh_S_l6Groups_6 : List Sh := mkSh 80 [(0, .val S_string .b), (1, .val S_impl_Hunk .b), (2, .val (.int .i64) .b), (7, .val S_impl_Group (.row (.pr .b (.pr .b (.pr (.row (.pr .b (.pr .b .b))) .b))))), (8, .val (.int .i64) .b), (9, .val (.int .i64) .b), (10, .val (.int .i64) .b)]
noncomputable def o_S_l6Groups_6 : List Out := [⟨.exit 2, ⟨[], [0, 1, 2, 7, 8, 9, 10], []⟩, mkSh 80 [(0, .val S_string .b), (1, .val S_impl_Hunk .b), (2, .val (.int .i64) .b), (7, .val S_impl_Group (.row (.pr .b (.pr .b (.pr (.row (.pr .b (.pr .b .b))) .b))))), (8, .val (.int .i64) .b), (9, .val (.int .i64) .b), (10, .val (.int .i64) .b)]⟩]
noncomputable def b_S_l6Groups_6 (t0 : PV S_string) (t1 : PV S_impl_Hunk) (t2 : PV (.int .i64)) (t7 : PV S_impl_Group) (t8 : PV (.int .i64)) (t9 : PV (.int .i64)) (t10 : PV (.int .i64)) : Option ((PV S_string × PV S_impl_Hunk × PV (.int .i64) × PV S_impl_Group × PV (.int .i64) × PV (.int .i64) × PV (.int .i64) × Unit) ⊕ ((PV S_string × PV S_impl_Hunk × PV (.int .i64) × PV S_impl_Group × PV (.int .i64) × PV (.int .i64) × PV (.int .i64) × Unit))) :=
  bif (decide (t10 < (t1.length : Int))) then
    bif inB t10 t1.length then
      bif inB (IntKind.wrap .i64 (t10 - 1)) t1.length then
        bif inB (IntKind.wrap .i64 (t10 - 1)) t1.length then
          bif (decide ((IntKind.wrap .i64 (((t1.getD t10.toNat (dflt Y_impl_Hunk)).1) - (IntKind.wrap .i64 (((t1.getD ((IntKind.wrap .i64 (t10 - 1)).toNat) (dflt Y_impl_Hunk)).1) + (((t1.getD ((IntKind.wrap .i64 (t10 - 1)).toNat) (dflt Y_impl_Hunk)).2).1))))) ≤ (IntKind.wrap .i64 (2 * t2)))) then
            some (.inl (t0, t1, t2, t7, t8, t9, (IntKind.wrap .i64 (t10 + 1)), ()))
          else
            some (.inr (t0, t1, t2, t7, t8, t9, t10, ()))
        else
          none
      else
        none
    else
      none
  else
    some (.inr (t0, t1, t2, t7, t8, t9, t10, ()))
noncomputable def w_S_l6Groups_6 : PV S_string × PV S_impl_Hunk × PV (.int .i64) × PV S_impl_Group × PV (.int .i64) × PV (.int .i64) × PV (.int .i64) × Unit → Option ((PV S_string × PV S_impl_Hunk × PV (.int .i64) × PV S_impl_Group × PV (.int .i64) × PV (.int .i64) × PV (.int .i64) × Unit)) := fix fun d => b_S_l6Groups_6 d.1 d.2.1 d.2.2.1 d.2.2.2.1 d.2.2.2.2.1 d.2.2.2.2.2.1 d.2.2.2.2.2.2.1
noncomputable def lp_S_l6Groups_6 : Lp := ⟨⟨[], [0, 1, 2, 7, 8, 9, 10], []⟩, sh_S_l6Groups_6, o_S_l6Groups_6, fun d => b_S_l6Groups_6 d.1 d.2.1 d.2.2.1 d.2.2.2.1 d.2.2.2.2.1 d.2.2.2.2.2.1 d.2.2.2.2.2.2.1⟩
noncomputable def sh_S_l6Groups_10 : List Sh := mkSh 80 [(0, .val S_string .b), (1, .val S_impl_Hunk .b), (2, .val (.int .i64) .b), (7, .val S_impl_Group (.row (.pr .b (.pr .b (.pr (.row (.pr .b (.pr .b .b))) .b))))), (8, .val (.int .i64) .b), (10, .val (.int .i64) .b), (63, .val S_impl_Hunk .b), (64, .val (.int .i64) .b), (65, .val (.int .i64) .b)]
noncomputable def o_S_l6Groups_10 : List Out := [⟨.exit 4, ⟨[], [0, 1, 2, 7, 8, 10, 24, 25, 26, 27, 28, 29, 30, 31, 32, 33, 34, 35, 36, 37, 38, 39, 40, 41, 42, 43, 44, 45], []⟩, mkSh 80 [(0, .val S_string .b), (1, .val S_impl_Hunk .b), (2, .val (.int .i64) .b), (7, .val S_impl_Group (.row (.pr .b (.pr .b (.pr (.row (.pr .b (.pr .b .b))) .b))))), (8, .val (.int .i64) .b), (10, .val (.int .i64) .b)]⟩]
noncomputable def b_S_l6Groups_10 (t0 : PV S_string) (t1 : PV S_impl_Hunk) (t2 : PV (.int .i64)) (t7 : PV S_impl_Group) (t8 : PV (.int .i64)) (t10 : PV (.int .i64)) (t63 : PV S_impl_Hunk) (t64 : PV (.int .i64)) (t65 : PV (.int .i64)) : Option ((PV S_string × PV S_impl_Hunk × PV (.int .i64) × PV S_impl_Group × PV (.int .i64) × PV (.int .i64) × PV S_impl_Hunk × PV (.int .i64) × PV (.int .i64) × Unit) ⊕ ((PV S_string × PV S_impl_Hunk × PV (.int .i64) × PV S_impl_Group × PV (.int .i64) × PV (.int .i64) × Unit))) :=
  bif (decide (t65 < t64)) then
    bif inB t65 t63.length then
      some (.inl (t0, t1, t2, t7, (IntKind.wrap .i64 (t8 + (IntKind.wrap .i64 ((((((t63.getD t65.toNat (dflt Y_impl_Hunk)).2).2).1).length : Int) - (((t63.getD t65.toNat (dflt Y_impl_Hunk)).2).1))))), t10, t63, t64, (IntKind.wrap .i64 (t65 + 1)), ()))
    else
      none
  else
    some (.inr (t0, t1, t2, t7, t8, t10, ()))
noncomputable def w_S_l6Groups_10 : PV S_string × PV S_impl_Hunk × PV (.int .i64) × PV S_impl_Group × PV (.int .i64) × PV (.int .i64) × PV S_impl_Hunk × PV (.int .i64) × PV (.int .i64) × Unit → Option ((PV S_string × PV S_impl_Hunk × PV (.int .i64) × PV S_impl_Group × PV (.int .i64) × PV (.int .i64) × Unit)) := fix fun d => b_S_l6Groups_10 d.1 d.2.1 d.2.2.1 d.2.2.2.1 d.2.2.2.2.1 d.2.2.2.2.2.1 d.2.2.2.2.2.2.1 d.2.2.2.2.2.2.2.1 d.2.2.2.2.2.2.2.2.1
noncomputable def lp_S_l6Groups_10 : Lp := ⟨⟨[], [0, 1, 2, 7, 8, 10, 24, 25, 26, 27, 28, 29, 30, 31, 32, 33, 34, 35, 36, 37, 38, 39, 40, 41, 42, 43, 44, 45, 63, 64, 65], []⟩, sh_S_l6Groups_10, o_S_l6Groups_10, fun d => b_S_l6Groups_10 d.1 d.2.1 d.2.2.1 d.2.2.2.1 d.2.2.2.2.1 d.2.2.2.2.2.1 d.2.2.2.2.2.2.1 d.2.2.2.2.2.2.2.1 d.2.2.2.2.2.2.2.2.1⟩
noncomputable def sh_S_l6Groups_4 : List Sh := mkSh 80 [(0, .val S_string .b), (1, .val S_impl_Hunk .b), (2, .val (.int .i64) .b), (7, .val S_impl_Group (.row (.pr .b (.pr .b (.pr (.row (.pr .b (.pr .b .b))) .b))))), (8, .val (.int .i64) .b), (9, .val (.int .i64) .b)]
noncomputable def o_S_l6Groups_4 : List Out := [⟨.exit 0, ⟨[], [7], []⟩, mkSh 80 [(7, .val S_impl_Group (.row (.pr .b (.pr .b (.pr (.row (.pr .b (.pr .b .b))) .b)))))]⟩]
noncomputable def b_S_l6Groups_4 (t0 : PV S_string) (t1 : PV S_impl_Hunk) (t2 : PV (.int .i64)) (t7 : PV S_impl_Group) (t8 : PV (.int .i64)) (t9 : PV (.int .i64)) : Option ((PV S_string × PV S_impl_Hunk × PV (.int .i64) × PV S_impl_Group × PV (.int .i64) × PV (.int .i64) × Unit) ⊕ ((PV S_impl_Group × Unit))) :=
  bif (decide (t9 < (t1.length : Int))) then
    (w_S_l6Groups_6 (t0, t1, t2, t7, t8, t9, (IntKind.wrap .i64 (t9 + 1)), ())).bind fun l2 =>
      bif cutB l2.2.2.2.2.2.1 l2.2.2.2.2.2.2.1 l2.2.1.length then
        (f_S_l6One l2.1 (cutL l2.2.2.2.2.2.1 l2.2.2.2.2.2.2.1 l2.2.1) l2.2.2.1 l2.2.2.2.2.1).bind fun r4 =>
          bif roomB (l2.2.2.2.1.length + [r4.1.1].length) then
            bif cutB l2.2.2.2.2.2.1 l2.2.2.2.2.2.2.1 l2.2.1.length then
              (w_S_l6Groups_10 (l2.1, l2.2.1, l2.2.2.1, (l2.2.2.2.1 ++ [r4.1.1]), l2.2.2.2.2.1, l2.2.2.2.2.2.2.1, (cutL l2.2.2.2.2.2.1 l2.2.2.2.2.2.2.1 l2.2.1), ((cutL l2.2.2.2.2.2.1 l2.2.2.2.2.2.2.1 l2.2.1).length : Int), 0, ())).bind fun l6 =>
                some (.inl (l6.1, l6.2.1, l6.2.2.1, l6.2.2.2.1, l6.2.2.2.2.1, l6.2.2.2.2.2.1, ()))
            else
              none
          else
            none
      else
        none
  else
    some (.inr (t7, ()))
noncomputable def w_S_l6Groups_4 : PV S_string × PV S_impl_Hunk × PV (.int .i64) × PV S_impl_Group × PV (.int .i64) × PV (.int .i64) × Unit → Option ((PV S_impl_Group × Unit)) := fix fun d => b_S_l6Groups_4 d.1 d.2.1 d.2.2.1 d.2.2.2.1 d.2.2.2.2.1 d.2.2.2.2.2.1
noncomputable def lp_S_l6Groups_4 : Lp := ⟨⟨[], [0, 1, 2, 7, 8, 9, 24, 25, 26, 27, 28, 29, 30, 31, 32, 33, 34, 35, 36, 37, 38, 39, 40, 41, 42, 43, 44, 45], []⟩, sh_S_l6Groups_4, o_S_l6Groups_4, fun d => b_S_l6Groups_4 d.1 d.2.1 d.2.2.1 d.2.2.2.1 d.2.2.2.2.1 d.2.2.2.2.2.1⟩
noncomputable def pl_S_l6Groups : Plan := ⟨[], [(6, lp_S_l6Groups_6), (10, lp_S_l6Groups_10), (4, lp_S_l6Groups_4)], 0, 0⟩
noncomputable def f_S_l6Groups (t0 : PV S_string) (t1 : PV S_impl_Hunk) (t2 : PV (.int .i64)) : Option (PVs [S_impl_Group] × PVs []) :=
  (w_S_l6Groups_4 (t0, t1, t2, [], 0, 0, ())).bind fun l8 =>
    some ((l8.1, ()), ())
noncomputable def ct_S_l6Groups : Ct := ⟨[(.bor, S_string), (.bor, S_impl_Hunk), (.bor, (.int .i64))], [(S_impl_Group, true)], fun x => f_S_l6Groups x.1 x.2.1 x.2.2.1⟩
noncomputable def cx_S_l6Groups : Cx := ⟨tab, arrs, [(182, ct_S_l6One)], [], gl, []⟩
theorem eb_S_l6Groups_4 (t0 : PV S_string) (t1 : PV S_impl_Hunk) (t2 : PV (.int .i64)) (t7 : PV S_impl_Group) (t8 : PV (.int .i64)) (t9 : PV (.int .i64)) : denK cx_S_l6Groups (rcN cx_S_l6Groups 0) pl_S_l6Groups 0 ((loopsOf (bodyOf Tryd.f140)).getD 0 .skip) (fillS sh_S_l6Groups_4 (t0, t1, t2, t7, t8, t9, ())) (roundK 0 lp_S_l6Groups_4) = b_S_l6Groups_4 t0 t1 t2 t7 t8 t9 := by kernel_rfl
theorem eb_S_l6Groups_6 (t0 : PV S_string) (t1 : PV S_impl_Hunk) (t2 : PV (.int .i64)) (t7 : PV S_impl_Group) (t8 : PV (.int .i64)) (t9 : PV (.int .i64)) (t10 : PV (.int .i64)) : denK cx_S_l6Groups (rcN cx_S_l6Groups 0) pl_S_l6Groups 0 ((loopsOf (bodyOf Tryd.f140)).getD 1 .skip) (fillS sh_S_l6Groups_6 (t0, t1, t2, t7, t8, t9, t10, ())) (roundK 0 lp_S_l6Groups_6) = b_S_l6Groups_6 t0 t1 t2 t7 t8 t9 t10 := by kernel_rfl
theorem eb_S_l6Groups_10 (t0 : PV S_string) (t1 : PV S_impl_Hunk) (t2 : PV (.int .i64)) (t7 : PV S_impl_Group) (t8 : PV (.int .i64)) (t10 : PV (.int .i64)) (t63 : PV S_impl_Hunk) (t64 : PV (.int .i64)) (t65 : PV (.int .i64)) : denK cx_S_l6Groups (rcN cx_S_l6Groups 0) pl_S_l6Groups 0 ((loopsOf (bodyOf Tryd.f140)).getD 2 .skip) (fillS sh_S_l6Groups_10 (t0, t1, t2, t7, t8, t10, t63, t64, t65, ())) (roundK 0 lp_S_l6Groups_10) = b_S_l6Groups_10 t0 t1 t2 t7 t8 t10 t63 t64 t65 := by kernel_rfl
theorem ef_S_l6Groups (t0 : PV S_string) (t1 : PV S_impl_Hunk) (t2 : PV (.int .i64)) : denF cx_S_l6Groups 0 pl_S_l6Groups Tryd.f140.ntmps (bodyOf Tryd.f140) Tryd.f140.results.toList [(.bor, S_string), (.bor, S_impl_Hunk), (.bor, (.int .i64))] [(S_impl_Group, true)] (t0, t1, t2, ()) = f_S_l6Groups t0 t1 t2 := by kernel_rfl
theorem ok_S_l6Groups : FnOk gl Tryd.prog 140 ct_S_l6Groups :=
  fnOk (cx := cx_S_l6Groups) (pl := pl_S_l6Groups) (dp := 0) (ok0_of tabOk (by unfold ArrOk; kernel_rfl) mix ⟨ok_S_l6One, trivial⟩ trivial) Tryd.func140 (by kernel_rfl) (by kernel_rfl) (by kernel_rfl)
    (by rw [show loopsOf (bodyOf Tryd.f140) = [((loopsOf (bodyOf Tryd.f140)).getD 0 .skip), ((loopsOf (bodyOf Tryd.f140)).getD 1 .skip), ((loopsOf (bodyOf Tryd.f140)).getD 2 .skip)] from by kernel_rfl]; exact ⟨(by rw [show lookup pl_S_l6Groups.loops (firstId ((loopsOf (bodyOf Tryd.f140)).getD 0 .skip)) = some lp_S_l6Groups_4 from by kernel_rfl]; exact fun d z h => (eb_S_l6Groups_4 d.1 d.2.1 d.2.2.1 d.2.2.2.1 d.2.2.2.2.1 d.2.2.2.2.2.1).trans h), (by rw [show lookup pl_S_l6Groups.loops (firstId ((loopsOf (bodyOf Tryd.f140)).getD 1 .skip)) = some lp_S_l6Groups_6 from by kernel_rfl]; exact fun d z h => (eb_S_l6Groups_6 d.1 d.2.1 d.2.2.1 d.2.2.2.1 d.2.2.2.2.1 d.2.2.2.2.2.1 d.2.2.2.2.2.2.1).trans h), (by rw [show lookup pl_S_l6Groups.loops (firstId ((loopsOf (bodyOf Tryd.f140)).getD 2 .skip)) = some lp_S_l6Groups_10 from by kernel_rfl]; exact fun d z h => (eb_S_l6Groups_10 d.1 d.2.1 d.2.2.1 d.2.2.2.1 d.2.2.2.2.1 d.2.2.2.2.2.1 d.2.2.2.2.2.2.1 d.2.2.2.2.2.2.2.1 d.2.2.2.2.2.2.2.2.1).trans h), trivial⟩) (fun x => ef_S_l6Groups x.1 x.2.1 x.2.2.1)
noncomputable def o_S_GroupsOf_3 : List Out := [⟨.normal, ⟨[], [0, 1, 2, 22], []⟩, mkSh 27 [(0, .val S_string .b), (1, .val S_impl_Hunk .b), (2, .val (.int .i64) .b), (22, .val .bool .b)]⟩]
noncomputable def pl_S_GroupsOf : Plan := ⟨[(3, o_S_GroupsOf_3)], [], 0, 0⟩
noncomputable def f_S_GroupsOf (t0 : PV S_string) (t1 : PV S_impl_Hunk) (t2 : PV (.int .i64)) : Option (PVs [S_impl_Group, .bool] × PVs []) :=
  (f_S_Patch t0 t1).bind fun r7 =>
    ((
        bif (!r7.1.2.1) then
          some (t0, t1, t2, true, ())
        else
          (f_S_l1In t2 0 20).bind fun r8 =>
            some (t0, t1, t2, (!r8.1.1), ()) : Option ((PV S_string × PV S_impl_Hunk × PV (.int .i64) × PV .bool × Unit)))).bind fun j9 =>
      bif j9.2.2.2.1 then
        some (([], false, ()), ())
      else
        (f_S_l6Groups j9.1 j9.2.1 j9.2.2.1).bind fun r10 =>
          some ((r10.1.1, true, ()), ())
noncomputable def ct_S_GroupsOf : Ct := ⟨[(.bor, S_string), (.bor, S_impl_Hunk), (.bor, (.int .i64))], [(S_impl_Group, true), (.bool, false)], fun x => f_S_GroupsOf x.1 x.2.1 x.2.2.1⟩
noncomputable def cx_S_GroupsOf : Cx := ⟨tab, arrs, [(114, ct_S_l1In), (139, ct_S_Patch), (140, ct_S_l6Groups)], [], gl, []⟩
theorem ef_S_GroupsOf (t0 : PV S_string) (t1 : PV S_impl_Hunk) (t2 : PV (.int .i64)) : denF cx_S_GroupsOf 0 pl_S_GroupsOf Tryd.f86.ntmps (bodyOf Tryd.f86) Tryd.f86.results.toList [(.bor, S_string), (.bor, S_impl_Hunk), (.bor, (.int .i64))] [(S_impl_Group, true), (.bool, false)] (t0, t1, t2, ()) = f_S_GroupsOf t0 t1 t2 := by kernel_rfl
theorem ok_S_GroupsOf : FnOk gl Tryd.prog 86 ct_S_GroupsOf :=
  fnOk (cx := cx_S_GroupsOf) (pl := pl_S_GroupsOf) (dp := 0) (ok0_of tabOk (by unfold ArrOk; kernel_rfl) mix ⟨ok_S_l1In, ok_S_Patch, ok_S_l6Groups, trivial⟩ trivial) Tryd.func86 (by kernel_rfl) (by kernel_rfl) (by kernel_rfl)
    (by rw [show loopsOf (bodyOf Tryd.f86) = [] from by kernel_rfl]; exact trivial) (fun x => ef_S_GroupsOf x.1 x.2.1 x.2.2.1)
noncomputable def o_S_l6Old_7 : List Out := [⟨.normal, ⟨[], [3, 7, 8, 9], []⟩, mkSh 23 [(3, .val S_string (.row .b)), (7, .val S_impl_Row .b), (8, .val (.int .i64) .b), (9, .val (.int .i64) .b)]⟩]
noncomputable def sh_S_l6Old_3 : List Sh := mkSh 23 [(3, .val S_string (.row .b)), (7, .val S_impl_Row .b), (8, .val (.int .i64) .b), (9, .val (.int .i64) .b)]
noncomputable def o_S_l6Old_3 : List Out := [⟨.exit 0, ⟨[], [3], []⟩, mkSh 23 [(3, .val S_string (.row .b))]⟩]
noncomputable def b_S_l6Old_3 (t3 : PV S_string) (t7 : PV S_impl_Row) (t8 : PV (.int .i64)) (t9 : PV (.int .i64)) : Option ((PV S_string × PV S_impl_Row × PV (.int .i64) × PV (.int .i64) × Unit) ⊕ ((PV S_string × Unit))) :=
  bif (decide (t9 < t8)) then
    ((
        bif inB t9 t7.length then
          bif (!(((t7.getD t9.toNat (dflt Y_impl_Row)).1) == 3)) then
            bif roomB (t3.length + [((t7.getD t9.toNat (dflt Y_impl_Row)).2).1].length) then
              some ((t3 ++ [((t7.getD t9.toNat (dflt Y_impl_Row)).2).1]), t7, t8, t9, ())
            else
              none
          else
            some (t3, t7, t8, t9, ())
        else
          none : Option ((PV S_string × PV S_impl_Row × PV (.int .i64) × PV (.int .i64) × Unit)))).bind fun j1 =>
      some (.inl (j1.1, j1.2.1, j1.2.2.1, (IntKind.wrap .i64 (j1.2.2.2.1 + 1)), ()))
  else
    some (.inr (t3, ()))
noncomputable def w_S_l6Old_3 : PV S_string × PV S_impl_Row × PV (.int .i64) × PV (.int .i64) × Unit → Option ((PV S_string × Unit)) := fix fun d => b_S_l6Old_3 d.1 d.2.1 d.2.2.1 d.2.2.2.1
noncomputable def lp_S_l6Old_3 : Lp := ⟨⟨[], [3, 7, 8, 9], []⟩, sh_S_l6Old_3, o_S_l6Old_3, fun d => b_S_l6Old_3 d.1 d.2.1 d.2.2.1 d.2.2.2.1⟩
noncomputable def pl_S_l6Old : Plan := ⟨[(7, o_S_l6Old_7)], [(3, lp_S_l6Old_3)], 0, 0⟩
noncomputable def f_S_l6Old (t0 : PV Y_impl_Group) : Option (PVs [S_string] × PVs []) :=
  (w_S_l6Old_3 ([], t0.2.2.1, (t0.2.2.1.length : Int), 0, ())).bind fun l3 =>
    some ((l3.1, ()), ())
noncomputable def ct_S_l6Old : Ct := ⟨[(.bor, Y_impl_Group)], [(S_string, true)], fun x => f_S_l6Old x.1⟩
noncomputable def cx_S_l6Old : Cx := ⟨tab, arrs, [], [], gl, []⟩
theorem eb_S_l6Old_3 (t3 : PV S_string) (t7 : PV S_impl_Row) (t8 : PV (.int .i64)) (t9 : PV (.int .i64)) : denK cx_S_l6Old (rcN cx_S_l6Old 0) pl_S_l6Old 0 ((loopsOf (bodyOf Tryd.f100)).getD 0 .skip) (fillS sh_S_l6Old_3 (t3, t7, t8, t9, ())) (roundK 0 lp_S_l6Old_3) = b_S_l6Old_3 t3 t7 t8 t9 := by kernel_rfl
theorem ef_S_l6Old (t0 : PV Y_impl_Group) : denF cx_S_l6Old 0 pl_S_l6Old Tryd.f100.ntmps (bodyOf Tryd.f100) Tryd.f100.results.toList [(.bor, Y_impl_Group)] [(S_string, true)] (t0, ()) = f_S_l6Old t0 := by kernel_rfl
theorem ok_S_l6Old : FnOk gl Tryd.prog 100 ct_S_l6Old :=
  fnOk (cx := cx_S_l6Old) (pl := pl_S_l6Old) (dp := 0) (ok0_of tabOk (by unfold ArrOk; kernel_rfl) mix trivial trivial) Tryd.func100 (by kernel_rfl) (by kernel_rfl) (by kernel_rfl)
    (by rw [show loopsOf (bodyOf Tryd.f100) = [((loopsOf (bodyOf Tryd.f100)).getD 0 .skip)] from by kernel_rfl]; exact ⟨(by rw [show lookup pl_S_l6Old.loops (firstId ((loopsOf (bodyOf Tryd.f100)).getD 0 .skip)) = some lp_S_l6Old_3 from by kernel_rfl]; exact fun d z h => (eb_S_l6Old_3 d.1 d.2.1 d.2.2.1 d.2.2.2.1).trans h), trivial⟩) (fun x => ef_S_l6Old x.1)
noncomputable def o_S_l6New_7 : List Out := [⟨.normal, ⟨[], [3, 7, 8, 9], []⟩, mkSh 23 [(3, .val S_string (.row .b)), (7, .val S_impl_Row .b), (8, .val (.int .i64) .b), (9, .val (.int .i64) .b)]⟩]
noncomputable def sh_S_l6New_3 : List Sh := mkSh 23 [(3, .val S_string (.row .b)), (7, .val S_impl_Row .b), (8, .val (.int .i64) .b), (9, .val (.int .i64) .b)]
noncomputable def o_S_l6New_3 : List Out := [⟨.exit 0, ⟨[], [3], []⟩, mkSh 23 [(3, .val S_string (.row .b))]⟩]
noncomputable def b_S_l6New_3 (t3 : PV S_string) (t7 : PV S_impl_Row) (t8 : PV (.int .i64)) (t9 : PV (.int .i64)) : Option ((PV S_string × PV S_impl_Row × PV (.int .i64) × PV (.int .i64) × Unit) ⊕ ((PV S_string × Unit))) :=
  bif (decide (t9 < t8)) then
    ((
        bif inB t9 t7.length then
          bif (!(((t7.getD t9.toNat (dflt Y_impl_Row)).1) == 2)) then
            bif roomB (t3.length + [((t7.getD t9.toNat (dflt Y_impl_Row)).2).1].length) then
              some ((t3 ++ [((t7.getD t9.toNat (dflt Y_impl_Row)).2).1]), t7, t8, t9, ())
            else
              none
          else
            some (t3, t7, t8, t9, ())
        else
          none : Option ((PV S_string × PV S_impl_Row × PV (.int .i64) × PV (.int .i64) × Unit)))).bind fun j1 =>
      some (.inl (j1.1, j1.2.1, j1.2.2.1, (IntKind.wrap .i64 (j1.2.2.2.1 + 1)), ()))
  else
    some (.inr (t3, ()))
noncomputable def w_S_l6New_3 : PV S_string × PV S_impl_Row × PV (.int .i64) × PV (.int .i64) × Unit → Option ((PV S_string × Unit)) := fix fun d => b_S_l6New_3 d.1 d.2.1 d.2.2.1 d.2.2.2.1
noncomputable def lp_S_l6New_3 : Lp := ⟨⟨[], [3, 7, 8, 9], []⟩, sh_S_l6New_3, o_S_l6New_3, fun d => b_S_l6New_3 d.1 d.2.1 d.2.2.1 d.2.2.2.1⟩
noncomputable def pl_S_l6New : Plan := ⟨[(7, o_S_l6New_7)], [(3, lp_S_l6New_3)], 0, 0⟩
noncomputable def f_S_l6New (t0 : PV Y_impl_Group) : Option (PVs [S_string] × PVs []) :=
  (w_S_l6New_3 ([], t0.2.2.1, (t0.2.2.1.length : Int), 0, ())).bind fun l3 =>
    some ((l3.1, ()), ())
noncomputable def ct_S_l6New : Ct := ⟨[(.bor, Y_impl_Group)], [(S_string, true)], fun x => f_S_l6New x.1⟩
noncomputable def cx_S_l6New : Cx := ⟨tab, arrs, [], [], gl, []⟩
theorem eb_S_l6New_3 (t3 : PV S_string) (t7 : PV S_impl_Row) (t8 : PV (.int .i64)) (t9 : PV (.int .i64)) : denK cx_S_l6New (rcN cx_S_l6New 0) pl_S_l6New 0 ((loopsOf (bodyOf Tryd.f101)).getD 0 .skip) (fillS sh_S_l6New_3 (t3, t7, t8, t9, ())) (roundK 0 lp_S_l6New_3) = b_S_l6New_3 t3 t7 t8 t9 := by kernel_rfl
theorem ef_S_l6New (t0 : PV Y_impl_Group) : denF cx_S_l6New 0 pl_S_l6New Tryd.f101.ntmps (bodyOf Tryd.f101) Tryd.f101.results.toList [(.bor, Y_impl_Group)] [(S_string, true)] (t0, ()) = f_S_l6New t0 := by kernel_rfl
theorem ok_S_l6New : FnOk gl Tryd.prog 101 ct_S_l6New :=
  fnOk (cx := cx_S_l6New) (pl := pl_S_l6New) (dp := 0) (ok0_of tabOk (by unfold ArrOk; kernel_rfl) mix trivial trivial) Tryd.func101 (by kernel_rfl) (by kernel_rfl) (by kernel_rfl)
    (by rw [show loopsOf (bodyOf Tryd.f101) = [((loopsOf (bodyOf Tryd.f101)).getD 0 .skip)] from by kernel_rfl]; exact ⟨(by rw [show lookup pl_S_l6New.loops (firstId ((loopsOf (bodyOf Tryd.f101)).getD 0 .skip)) = some lp_S_l6New_3 from by kernel_rfl]; exact fun d z h => (eb_S_l6New_3 d.1 d.2.1 d.2.2.1 d.2.2.2.1).trans h), trivial⟩) (fun x => ef_S_l6New x.1)
noncomputable def o_S_l5Lines_5 : List Out := [⟨.normal, ⟨[], [0, 5, 6, 7, 26], []⟩, mkSh 31 [(0, .val S_string .b), (5, .val S_string .b), (6, .val (.int .i64) .b), (7, .val (.int .i64) .b), (26, .val .bool .b)]⟩]
noncomputable def sh_S_l5Lines_2 : List Sh := mkSh 31 [(0, .val S_string .b), (5, .val S_string .b), (6, .val (.int .i64) .b), (7, .val (.int .i64) .b)]
noncomputable def o_S_l5Lines_2 : List Out := [⟨.exit 0, ⟨[], [0], []⟩, mkSh 31 [(0, .val S_string .b)]⟩, ⟨.ret, ⟨[], [2], []⟩, mkSh 31 [(2, .val .bool .b)]⟩]
noncomputable def b_S_l5Lines_2 (t0 : PV S_string) (t5 : PV S_string) (t6 : PV (.int .i64)) (t7 : PV (.int .i64)) : Option ((PV S_string × PV S_string × PV (.int .i64) × PV (.int .i64) × Unit) ⊕ ((PV S_string × Unit) ⊕ (PV .bool × Unit))) :=
  bif (decide (t7 < t6)) then
    bif inB t7 t5.length then
      ((
          (f_S_l1Line (t5.getD t7.toNat [])).bind fun r4 =>
            bif (!r4.1.1) then
              some (t0, t5, t6, t7, true, ())
            else
              bif (decide (t7 < (IntKind.wrap .i64 ((t0.length : Int) - 1)))) then
                (f_S_l1Ends (t5.getD t7.toNat [])).bind fun r5 =>
                  some (t0, t5, t6, t7, (!r5.1.1), ())
              else
                some (t0, t5, t6, t7, false, ()) : Option ((PV S_string × PV S_string × PV (.int .i64) × PV (.int .i64) × PV .bool × Unit)))).bind fun j6 =>
        bif j6.2.2.2.2.1 then
          some (.inr (.inr (false, ())))
        else
          some (.inl (j6.1, j6.2.1, j6.2.2.1, (IntKind.wrap .i64 (j6.2.2.2.1 + 1)), ()))
    else
      none
  else
    some (.inr (.inl (t0, ())))
noncomputable def w_S_l5Lines_2 : PV S_string × PV S_string × PV (.int .i64) × PV (.int .i64) × Unit → Option ((PV S_string × Unit) ⊕ (PV .bool × Unit)) := fix fun d => b_S_l5Lines_2 d.1 d.2.1 d.2.2.1 d.2.2.2.1
noncomputable def lp_S_l5Lines_2 : Lp := ⟨⟨[], [0, 5, 6, 7, 16, 17, 18, 19, 20, 21, 22, 23, 24, 25], []⟩, sh_S_l5Lines_2, o_S_l5Lines_2, fun d => b_S_l5Lines_2 d.1 d.2.1 d.2.2.1 d.2.2.2.1⟩
noncomputable def pl_S_l5Lines : Plan := ⟨[(5, o_S_l5Lines_5)], [(2, lp_S_l5Lines_2)], 0, 0⟩
noncomputable def f_S_l5Lines (t0 : PV S_string) : Option (PVs [.bool] × PVs []) :=
  (w_S_l5Lines_2 (t0, t0, (t0.length : Int), 0, ())).bind fun x11 =>
    match x11 with
    | .inl l9 =>
      some (((decide ((l9.1.length : Int) ≤ 40)), ()), ())
    | .inr l10 =>
      some ((l10.1, ()), ())
noncomputable def ct_S_l5Lines : Ct := ⟨[(.bor, S_string)], [(.bool, false)], fun x => f_S_l5Lines x.1⟩
noncomputable def cx_S_l5Lines : Cx := ⟨tab, arrs, [(115, ct_S_l1Ends), (152, ct_S_l1Line)], [], gl, []⟩
theorem eb_S_l5Lines_2 (t0 : PV S_string) (t5 : PV S_string) (t6 : PV (.int .i64)) (t7 : PV (.int .i64)) : denK cx_S_l5Lines (rcN cx_S_l5Lines 0) pl_S_l5Lines 0 ((loopsOf (bodyOf Tryd.f153)).getD 0 .skip) (fillS sh_S_l5Lines_2 (t0, t5, t6, t7, ())) (roundK 0 lp_S_l5Lines_2) = b_S_l5Lines_2 t0 t5 t6 t7 := by kernel_rfl
theorem ef_S_l5Lines (t0 : PV S_string) : denF cx_S_l5Lines 0 pl_S_l5Lines Tryd.f153.ntmps (bodyOf Tryd.f153) Tryd.f153.results.toList [(.bor, S_string)] [(.bool, false)] (t0, ()) = f_S_l5Lines t0 := by kernel_rfl
theorem ok_S_l5Lines : FnOk gl Tryd.prog 153 ct_S_l5Lines :=
  fnOk (cx := cx_S_l5Lines) (pl := pl_S_l5Lines) (dp := 0) (ok0_of tabOk (by unfold ArrOk; kernel_rfl) mix ⟨ok_S_l1Ends, ok_S_l1Line, trivial⟩ trivial) Tryd.func153 (by kernel_rfl) (by kernel_rfl) (by kernel_rfl)
    (by rw [show loopsOf (bodyOf Tryd.f153) = [((loopsOf (bodyOf Tryd.f153)).getD 0 .skip)] from by kernel_rfl]; exact ⟨(by rw [show lookup pl_S_l5Lines.loops (firstId ((loopsOf (bodyOf Tryd.f153)).getD 0 .skip)) = some lp_S_l5Lines_2 from by kernel_rfl]; exact fun d z h => (eb_S_l5Lines_2 d.1 d.2.1 d.2.2.1 d.2.2.2.1).trans h), trivial⟩) (fun x => ef_S_l5Lines x.1)
noncomputable def o_S_l6Group_6 : List Out := [⟨.normal, ⟨[], [1, 3, 5, 7, 8, 9, 42, 45, 46, 47, 52, 53, 54, 57, 58, 59, 62, 63, 64, 65, 66, 67, 68, 71, 72, 73, 74, 75, 76, 77, 80, 81, 82, 83, 86, 87, 88, 91, 92, 93], []⟩, mkSh 95 [(1, .var Y_impl_Group .b), (3, .val .bool .b), (5, .var Y_impl_Row .b), (7, .val S_impl_Row .b), (8, .val (.int .i64) .b), (9, .val (.int .i64) .b), (42, .val .bool .b)]⟩]
noncomputable def o_S_l6Group_8 : List Out := [⟨.normal, ⟨[], [1, 3, 5, 7, 8, 9, 19, 20, 21, 22, 25, 26, 27, 28, 29, 30, 31, 32, 33, 34, 35, 36, 37, 38, 39, 40, 41, 52, 53, 54, 57, 58, 59, 62, 63, 64, 65, 66, 67, 68, 71, 72, 73, 74, 75, 76, 77, 80, 81, 82, 83, 86, 87, 88, 91, 92, 93], []⟩, mkSh 95 [(1, .var Y_impl_Group .b), (3, .val .bool .b), (5, .var Y_impl_Row .b), (7, .val S_impl_Row .b), (8, .val (.int .i64) .b), (9, .val (.int .i64) .b)]⟩, ⟨.ret, ⟨[], [2], []⟩, mkSh 95 [(2, .val .bool .b)]⟩]
noncomputable def sh_S_l6Group_3 : List Sh := mkSh 95 [(1, .var Y_impl_Group .b), (3, .val .bool .b), (7, .val S_impl_Row .b), (8, .val (.int .i64) .b), (9, .val (.int .i64) .b)]
noncomputable def o_S_l6Group_3 : List Out := [⟨.exit 0, ⟨[], [1, 3, 52, 53, 54, 57, 58, 59, 62, 63, 64, 65, 66, 67, 68, 71, 72, 73, 74, 75, 76, 77, 80, 81, 82, 83, 86, 87, 88, 91, 92, 93], []⟩, mkSh 95 [(1, .var Y_impl_Group .b), (3, .val .bool .b)]⟩, ⟨.ret, ⟨[], [2], []⟩, mkSh 95 [(2, .val .bool .b)]⟩]
noncomputable def b_S_l6Group_3 (t1 : PV Y_impl_Group) (t3 : PV .bool) (t7 : PV S_impl_Row) (t8 : PV (.int .i64)) (t9 : PV (.int .i64)) : Option ((PV Y_impl_Group × PV .bool × PV S_impl_Row × PV (.int .i64) × PV (.int .i64) × Unit) ⊕ ((PV Y_impl_Group × PV .bool × Unit) ⊕ (PV .bool × Unit))) :=
  bif (decide (t9 < t8)) then
    ((
        bif inB t9 t7.length then
          ((
              (f_S_l1In ((t7.getD t9.toNat (dflt Y_impl_Row)).1) 1 3).bind fun r4 =>
                bif (!r4.1.1) then
                  some (t1, t3, (t7.getD t9.toNat (dflt Y_impl_Row)), t7, t8, t9, true, ())
                else
                  (f_S_l1Line (((t7.getD t9.toNat (dflt Y_impl_Row)).2).1)).bind fun r5 =>
                    bif (!r5.1.1) then
                      some (t1, t3, (t7.getD t9.toNat (dflt Y_impl_Row)), t7, t8, t9, true, ())
                    else
                      bif (decide (t9 > 0)) then
                        bif (((t7.getD t9.toNat (dflt Y_impl_Row)).1) == 2) then
                          bif inB (IntKind.wrap .i64 (t9 - 1)) t1.2.2.1.length then
                            some (t1, t3, (t7.getD t9.toNat (dflt Y_impl_Row)), t7, t8, t9, (((t1.2.2.1.getD ((IntKind.wrap .i64 (t9 - 1)).toNat) (dflt Y_impl_Row)).1) == 3), ())
                          else
                            none
                        else
                          some (t1, t3, (t7.getD t9.toNat (dflt Y_impl_Row)), t7, t8, t9, false, ())
                      else
                        some (t1, t3, (t7.getD t9.toNat (dflt Y_impl_Row)), t7, t8, t9, false, ()) : Option ((PV Y_impl_Group × PV .bool × PV Y_impl_Row × PV S_impl_Row × PV (.int .i64) × PV (.int .i64) × PV .bool × Unit)))).bind fun j6 =>
            bif j6.2.2.2.2.2.2.1 then
              some (.inr (false, ()))
            else
              bif j6.2.1 then
                some (.inl (j6.1, true, j6.2.2.1, j6.2.2.2.1, j6.2.2.2.2.1, j6.2.2.2.2.2.1, ()))
              else
                some (.inl (j6.1, (!(j6.2.2.1.1 == 1)), j6.2.2.1, j6.2.2.2.1, j6.2.2.2.2.1, j6.2.2.2.2.2.1, ()))
        else
          none : Option ((PV Y_impl_Group × PV .bool × PV Y_impl_Row × PV S_impl_Row × PV (.int .i64) × PV (.int .i64) × Unit) ⊕ (PV .bool × Unit)))).bind fun x21 =>
      match x21 with
      | .inl j7 =>
        some (.inl (j7.1, j7.2.1, j7.2.2.2.1, j7.2.2.2.2.1, (IntKind.wrap .i64 (j7.2.2.2.2.2.1 + 1)), ()))
      | .inr j8 =>
        some (.inr (.inr (j8.1, ())))
  else
    some (.inr (.inl (t1, t3, ())))
noncomputable def w_S_l6Group_3 : PV Y_impl_Group × PV .bool × PV S_impl_Row × PV (.int .i64) × PV (.int .i64) × Unit → Option ((PV Y_impl_Group × PV .bool × Unit) ⊕ (PV .bool × Unit)) := fix fun d => b_S_l6Group_3 d.1 d.2.1 d.2.2.1 d.2.2.2.1 d.2.2.2.2.1
noncomputable def lp_S_l6Group_3 : Lp := ⟨⟨[], [1, 3, 7, 8, 9, 19, 20, 21, 22, 25, 26, 27, 28, 29, 30, 31, 32, 33, 34, 35, 36, 37, 38, 39, 40, 41, 45, 46, 47, 52, 53, 54, 57, 58, 59, 62, 63, 64, 65, 66, 67, 68, 71, 72, 73, 74, 75, 76, 77, 80, 81, 82, 83, 86, 87, 88, 91, 92, 93], []⟩, sh_S_l6Group_3, o_S_l6Group_3, fun d => b_S_l6Group_3 d.1 d.2.1 d.2.2.1 d.2.2.2.1 d.2.2.2.2.1⟩
noncomputable def pl_S_l6Group : Plan := ⟨[(6, o_S_l6Group_6), (8, o_S_l6Group_8)], [(3, lp_S_l6Group_3)], 0, 0⟩
noncomputable def f_S_l6Group (t0 : PV Y_impl_Group) : Option (PVs [.bool] × PVs []) :=
  (w_S_l6Group_3 (t0, false, t0.2.2.1, (t0.2.2.1.length : Int), 0, ())).bind fun x22 =>
    match x22 with
    | .inl l11 =>
      bif l11.2.1 then
        (f_S_l1In l11.1.1 0 999).bind fun r12 =>
          bif r12.1.1 then
            (f_S_l1In l11.1.2.1 0 999).bind fun r13 =>
              bif r13.1.1 then
                (f_S_l6Old l11.1).bind fun r14 =>
                  bif (decide ((IntKind.wrap .i64 (l11.1.1 + (r14.1.1.length : Int))) ≤ 1000)) then
                    (f_S_l6New l11.1).bind fun r15 =>
                      bif (decide ((IntKind.wrap .i64 (l11.1.2.1 + (r15.1.1.length : Int))) ≤ 1000)) then
                        bif (decide ((l11.1.2.2.1.length : Int) ≤ 80)) then
                          (f_S_l6Old l11.1).bind fun r16 =>
                            (f_S_l5Lines r16.1.1).bind fun r17 =>
                              bif r17.1.1 then
                                (f_S_l6New l11.1).bind fun r18 =>
                                  (f_S_l5Lines r18.1.1).bind fun r19 =>
                                    some ((r19.1.1, ()), ())
                              else
                                some ((false, ()), ())
                        else
                          some ((false, ()), ())
                      else
                        some ((false, ()), ())
                  else
                    some ((false, ()), ())
              else
                some ((false, ()), ())
          else
            some ((false, ()), ())
      else
        some ((false, ()), ())
    | .inr l20 =>
      some ((l20.1, ()), ())
noncomputable def ct_S_l6Group : Ct := ⟨[(.bor, Y_impl_Group)], [(.bool, false)], fun x => f_S_l6Group x.1⟩
noncomputable def cx_S_l6Group : Cx := ⟨tab, arrs, [(100, ct_S_l6Old), (101, ct_S_l6New), (114, ct_S_l1In), (152, ct_S_l1Line), (153, ct_S_l5Lines)], [], gl, []⟩
theorem eb_S_l6Group_3 (t1 : PV Y_impl_Group) (t3 : PV .bool) (t7 : PV S_impl_Row) (t8 : PV (.int .i64)) (t9 : PV (.int .i64)) : denK cx_S_l6Group (rcN cx_S_l6Group 0) pl_S_l6Group 0 ((loopsOf (bodyOf Tryd.f99)).getD 0 .skip) (fillS sh_S_l6Group_3 (t1, t3, t7, t8, t9, ())) (roundK 0 lp_S_l6Group_3) = b_S_l6Group_3 t1 t3 t7 t8 t9 := by kernel_rfl
theorem ef_S_l6Group (t0 : PV Y_impl_Group) : denF cx_S_l6Group 0 pl_S_l6Group Tryd.f99.ntmps (bodyOf Tryd.f99) Tryd.f99.results.toList [(.bor, Y_impl_Group)] [(.bool, false)] (t0, ()) = f_S_l6Group t0 := by kernel_rfl
theorem ok_S_l6Group : FnOk gl Tryd.prog 99 ct_S_l6Group :=
  fnOk (cx := cx_S_l6Group) (pl := pl_S_l6Group) (dp := 0) (ok0_of tabOk (by unfold ArrOk; kernel_rfl) mix ⟨ok_S_l6Old, ok_S_l6New, ok_S_l1In, ok_S_l1Line, ok_S_l5Lines, trivial⟩ trivial) Tryd.func99 (by kernel_rfl) (by kernel_rfl) (by kernel_rfl)
    (by rw [show loopsOf (bodyOf Tryd.f99) = [((loopsOf (bodyOf Tryd.f99)).getD 0 .skip)] from by kernel_rfl]; exact ⟨(by rw [show lookup pl_S_l6Group.loops (firstId ((loopsOf (bodyOf Tryd.f99)).getD 0 .skip)) = some lp_S_l6Group_3 from by kernel_rfl]; exact fun d z h => (eb_S_l6Group_3 d.1 d.2.1 d.2.2.1 d.2.2.2.1 d.2.2.2.2.1).trans h), trivial⟩) (fun x => ef_S_l6Group x.1)
noncomputable def o_S_l6Good_7 : List Out := [⟨.normal, ⟨[], [0, 4, 5, 6, 7, 54], []⟩, mkSh 59 [(0, .val S_impl_Group .b), (4, .var Y_impl_Group .b), (5, .val S_impl_Group .b), (6, .val (.int .i64) .b), (7, .val (.int .i64) .b), (54, .val .bool .b)]⟩]
noncomputable def sh_S_l6Good_2 : List Sh := mkSh 59 [(0, .val S_impl_Group .b), (5, .val S_impl_Group .b), (6, .val (.int .i64) .b), (7, .val (.int .i64) .b)]
noncomputable def o_S_l6Good_2 : List Out := [⟨.exit 0, ⟨[], [0], []⟩, mkSh 59 [(0, .val S_impl_Group .b)]⟩, ⟨.ret, ⟨[], [2], []⟩, mkSh 59 [(2, .val .bool .b)]⟩]
noncomputable def b_S_l6Good_2 (t0 : PV S_impl_Group) (t5 : PV S_impl_Group) (t6 : PV (.int .i64)) (t7 : PV (.int .i64)) : Option ((PV S_impl_Group × PV S_impl_Group × PV (.int .i64) × PV (.int .i64) × Unit) ⊕ ((PV S_impl_Group × Unit) ⊕ (PV .bool × Unit))) :=
  bif (decide (t7 < t6)) then
    bif inB t7 t5.length then
      (f_S_l6Group (t5.getD t7.toNat (dflt Y_impl_Group))).bind fun r11 =>
        bif (!r11.1.1) then
          some (.inr (.inr (false, ())))
        else
          ((
              bif (decide (t7 > 0)) then
                bif inB (IntKind.wrap .i64 (t7 - 1)) t0.length then
                  bif inB (IntKind.wrap .i64 (t7 - 1)) t0.length then
                    (f_S_l6Old (t0.getD ((IntKind.wrap .i64 (t7 - 1)).toNat) (dflt Y_impl_Group))).bind fun r12 =>
                      bif (decide (((t5.getD t7.toNat (dflt Y_impl_Group)).1) < (IntKind.wrap .i64 (((t0.getD ((IntKind.wrap .i64 (t7 - 1)).toNat) (dflt Y_impl_Group)).1) + (r12.1.1.length : Int))))) then
                        some (t0, (t5.getD t7.toNat (dflt Y_impl_Group)), t5, t6, t7, true, ())
                      else
                        bif inB (IntKind.wrap .i64 (t7 - 1)) t0.length then
                          bif inB (IntKind.wrap .i64 (t7 - 1)) t0.length then
                            (f_S_l6New (t0.getD ((IntKind.wrap .i64 (t7 - 1)).toNat) (dflt Y_impl_Group))).bind fun r13 =>
                              some (t0, (t5.getD t7.toNat (dflt Y_impl_Group)), t5, t6, t7, (decide ((((t5.getD t7.toNat (dflt Y_impl_Group)).2).1) < (IntKind.wrap .i64 ((((t0.getD ((IntKind.wrap .i64 (t7 - 1)).toNat) (dflt Y_impl_Group)).2).1) + (r13.1.1.length : Int))))), ())
                          else
                            none
                        else
                          none
                  else
                    none
                else
                  none
              else
                some (t0, (t5.getD t7.toNat (dflt Y_impl_Group)), t5, t6, t7, false, ()) : Option ((PV S_impl_Group × PV Y_impl_Group × PV S_impl_Group × PV (.int .i64) × PV (.int .i64) × PV .bool × Unit)))).bind fun j14 =>
            bif j14.2.2.2.2.2.1 then
              some (.inr (.inr (false, ())))
            else
              some (.inl (j14.1, j14.2.2.1, j14.2.2.2.1, (IntKind.wrap .i64 (j14.2.2.2.2.1 + 1)), ()))
    else
      none
  else
    some (.inr (.inl (t0, ())))
noncomputable def w_S_l6Good_2 : PV S_impl_Group × PV S_impl_Group × PV (.int .i64) × PV (.int .i64) × Unit → Option ((PV S_impl_Group × Unit) ⊕ (PV .bool × Unit)) := fix fun d => b_S_l6Good_2 d.1 d.2.1 d.2.2.1 d.2.2.2.1
noncomputable def lp_S_l6Good_2 : Lp := ⟨⟨[], [0, 5, 6, 7, 18, 19, 20, 21, 22, 23, 24, 25, 26, 27, 28, 29, 30, 31, 32, 33, 34, 35, 36, 37, 38, 39, 40, 41, 42, 43, 44, 45, 46, 47, 48, 49, 50, 51, 52, 53], []⟩, sh_S_l6Good_2, o_S_l6Good_2, fun d => b_S_l6Good_2 d.1 d.2.1 d.2.2.1 d.2.2.2.1⟩
noncomputable def pl_S_l6Good : Plan := ⟨[(7, o_S_l6Good_7)], [(2, lp_S_l6Good_2)], 0, 0⟩
noncomputable def f_S_l6Good (t0 : PV S_impl_Group) : Option (PVs [.bool] × PVs []) :=
  (w_S_l6Good_2 (t0, t0, (t0.length : Int), 0, ())).bind fun x19 =>
    match x19 with
    | .inl l17 =>
      some (((decide ((l17.1.length : Int) ≤ 20)), ()), ())
    | .inr l18 =>
      some ((l18.1, ()), ())
noncomputable def ct_S_l6Good : Ct := ⟨[(.bor, S_impl_Group)], [(.bool, false)], fun x => f_S_l6Good x.1⟩
noncomputable def cx_S_l6Good : Cx := ⟨tab, arrs, [(99, ct_S_l6Group), (100, ct_S_l6Old), (101, ct_S_l6New)], [], gl, []⟩
theorem eb_S_l6Good_2 (t0 : PV S_impl_Group) (t5 : PV S_impl_Group) (t6 : PV (.int .i64)) (t7 : PV (.int .i64)) : denK cx_S_l6Good (rcN cx_S_l6Good 0) pl_S_l6Good 0 ((loopsOf (bodyOf Tryd.f61)).getD 0 .skip) (fillS sh_S_l6Good_2 (t0, t5, t6, t7, ())) (roundK 0 lp_S_l6Good_2) = b_S_l6Good_2 t0 t5 t6 t7 := by kernel_rfl
theorem ef_S_l6Good (t0 : PV S_impl_Group) : denF cx_S_l6Good 0 pl_S_l6Good Tryd.f61.ntmps (bodyOf Tryd.f61) Tryd.f61.results.toList [(.bor, S_impl_Group)] [(.bool, false)] (t0, ()) = f_S_l6Good t0 := by kernel_rfl
theorem ok_S_l6Good : FnOk gl Tryd.prog 61 ct_S_l6Good :=
  fnOk (cx := cx_S_l6Good) (pl := pl_S_l6Good) (dp := 0) (ok0_of tabOk (by unfold ArrOk; kernel_rfl) mix ⟨ok_S_l6Group, ok_S_l6Old, ok_S_l6New, trivial⟩ trivial) Tryd.func61 (by kernel_rfl) (by kernel_rfl) (by kernel_rfl)
    (by rw [show loopsOf (bodyOf Tryd.f61) = [((loopsOf (bodyOf Tryd.f61)).getD 0 .skip)] from by kernel_rfl]; exact ⟨(by rw [show lookup pl_S_l6Good.loops (firstId ((loopsOf (bodyOf Tryd.f61)).getD 0 .skip)) = some lp_S_l6Good_2 from by kernel_rfl]; exact fun d z h => (eb_S_l6Good_2 d.1 d.2.1 d.2.2.1 d.2.2.2.1).trans h), trivial⟩) (fun x => ef_S_l6Good x.1)
noncomputable def pl_S_l4Number : Plan := ⟨[], [], 0, 0⟩
noncomputable def f_S_l4Number (t0 : PV (.int .i64)) (t1 : PV (.int .i64)) : Option (PVs [(.int .i64)] × PVs []) :=
  bif (decide (t1 > 0)) then
    some (((IntKind.wrap .i64 (t0 + 1)), ()), ())
  else
    some ((t0, ()), ())
noncomputable def ct_S_l4Number : Ct := ⟨[(.bor, (.int .i64)), (.bor, (.int .i64))], [((.int .i64), false)], fun x => f_S_l4Number x.1 x.2.1⟩
noncomputable def cx_S_l4Number : Cx := ⟨tab, arrs, [], [], gl, []⟩
theorem ef_S_l4Number (t0 : PV (.int .i64)) (t1 : PV (.int .i64)) : denF cx_S_l4Number 0 pl_S_l4Number Tryd.f154.ntmps (bodyOf Tryd.f154) Tryd.f154.results.toList [(.bor, (.int .i64)), (.bor, (.int .i64))] [((.int .i64), false)] (t0, t1, ()) = f_S_l4Number t0 t1 := by kernel_rfl
theorem ok_S_l4Number : FnOk gl Tryd.prog 154 ct_S_l4Number :=
  fnOk (cx := cx_S_l4Number) (pl := pl_S_l4Number) (dp := 0) (ok0_of tabOk (by unfold ArrOk; kernel_rfl) mix trivial trivial) Tryd.func154 (by kernel_rfl) (by kernel_rfl) (by kernel_rfl)
    (by rw [show loopsOf (bodyOf Tryd.f154) = [] from by kernel_rfl]; exact trivial) (fun x => ef_S_l4Number x.1 x.2.1)
noncomputable def fr_S_l1Num (ih : PV (.int .i64) → Option (PVs [.str] × PVs [])) (t0 : PV (.int .i64)) : Option (PVs [.str] × PVs []) :=
  bif (decide (t0 < 10)) then
    some (((bytesOfInts [(IntKind.wrap .u8 (IntKind.wrap .i64 (48 + t0)))]), ()), ())
  else
    bif 10 == 0 then
      none
    else
      (ih (IntKind.wrap .i64 (t0.tdiv 10))).bind fun r1 =>
        bif 10 == 0 then
          none
        else
          bif decide (r1.1.1.length + (bytesOfInts [(IntKind.wrap .u8 (IntKind.wrap .i64 (48 + (t0.tmod 10))))]).length ≤ 1099511627776) then
            some (((r1.1.1 ++ (bytesOfInts [(IntKind.wrap .u8 (IntKind.wrap .i64 (48 + (t0.tmod 10))))])), ()), ())
          else
            none
noncomputable def fn_S_l1Num : Nat → PV (.int .i64) → Option (PVs [.str] × PVs []) := fun n => Nat.rec (motive := fun _ => PV (.int .i64) → Option (PVs [.str] × PVs [])) (fun _ => none) (fun _ ih => fr_S_l1Num ih) n
noncomputable def f_S_l1Num (t0 : PV (.int .i64)) : Option (PVs [.str] × PVs []) := fn_S_l1Num (t0.toNat + 1) t0
noncomputable def ct_S_l1Num : Ct := ⟨[(.bor, (.int .i64))], [(.str, false)], fun x => f_S_l1Num x.1⟩
noncomputable def ctn_S_l1Num (n : Nat) : Ct := ⟨[(.bor, (.int .i64))], [(.str, false)], fun x => fn_S_l1Num n x.1⟩
noncomputable def cxn_S_l1Num (n : Nat) : Cx := ⟨tab, arrs, [(69, ctn_S_l1Num n)], [], gl, []⟩
noncomputable def pl_S_l1Num : Plan := ⟨[], [], 0, 0⟩
theorem efn_S_l1Num (n : Nat) (t0 : PV (.int .i64)) : denF (cxn_S_l1Num n) 0 pl_S_l1Num Tryd.f69.ntmps (bodyOf Tryd.f69) Tryd.f69.results.toList [(.bor, (.int .i64))] [(.str, false)] (t0, ()) = fr_S_l1Num (fn_S_l1Num n) t0 := by kernel_rfl
theorem okn_S_l1Num : ∀ n, FnOk gl Tryd.prog 69 (ctn_S_l1Num n)
  | 0 => fnOk_none (by kernel_rfl)
  | n + 1 => fnOk (cx := cxn_S_l1Num n) (pl := pl_S_l1Num) (dp := 0) (ct := ctn_S_l1Num (n + 1)) (ok0_of tabOk (by unfold ArrOk; kernel_rfl) mix ⟨okn_S_l1Num n, trivial⟩ trivial) Tryd.func69 (by kernel_rfl) (by kernel_rfl) (by kernel_rfl)
    (by rw [show loopsOf (bodyOf Tryd.f69) = [] from by kernel_rfl]; exact trivial) (fun x => efn_S_l1Num n x.1)
theorem ok_S_l1Num : FnOk gl Tryd.prog 69 ct_S_l1Num := fnOk_fuel (pars := [(.bor, (.int .i64))]) (rets := [(.str, false)]) (Fs := fun n x => fn_S_l1Num n x.1) (N := fun x => x.1.toNat + 1) okn_S_l1Num
noncomputable def o_S_l4Count_4 : List Out := [⟨.normal, ⟨[], [5], []⟩, mkSh 18 [(5, .val .str .b)]⟩]
noncomputable def pl_S_l4Count : Plan := ⟨[(4, o_S_l4Count_4)], [], 0, 0⟩
noncomputable def f_S_l4Count (t0 : PV (.int .i64)) (t1 : PV (.int .i64)) : Option (PVs [.str] × PVs []) :=
  (f_S_l4Number t0 t1).bind fun r3 =>
    (f_S_l1Num r3.1.1).bind fun r4 =>
      ((
          bif (!(t1 == 1)) then
            (f_S_l1Num t1).bind fun r6 =>
              bif decide ([44].length + r6.1.1.length ≤ 1099511627776) then
                bif decide (r4.1.1.length + ([44] ++ r6.1.1).length ≤ 1099511627776) then
                  some ((r4.1.1 ++ ([44] ++ r6.1.1)), ())
                else
                  none
              else
                none
          else
            some (r4.1.1, ()) : Option ((PV .str × Unit)))).bind fun j7 =>
        some ((j7.1, ()), ())
noncomputable def ct_S_l4Count : Ct := ⟨[(.bor, (.int .i64)), (.bor, (.int .i64))], [(.str, false)], fun x => f_S_l4Count x.1 x.2.1⟩
noncomputable def cx_S_l4Count : Cx := ⟨tab, arrs, [(69, ct_S_l1Num), (154, ct_S_l4Number)], [], gl, []⟩
theorem ef_S_l4Count (t0 : PV (.int .i64)) (t1 : PV (.int .i64)) : denF cx_S_l4Count 0 pl_S_l4Count Tryd.f102.ntmps (bodyOf Tryd.f102) Tryd.f102.results.toList [(.bor, (.int .i64)), (.bor, (.int .i64))] [(.str, false)] (t0, t1, ()) = f_S_l4Count t0 t1 := by kernel_rfl
theorem ok_S_l4Count : FnOk gl Tryd.prog 102 ct_S_l4Count :=
  fnOk (cx := cx_S_l4Count) (pl := pl_S_l4Count) (dp := 0) (ok0_of tabOk (by unfold ArrOk; kernel_rfl) mix ⟨ok_S_l1Num, ok_S_l4Number, trivial⟩ trivial) Tryd.func102 (by kernel_rfl) (by kernel_rfl) (by kernel_rfl)
    (by rw [show loopsOf (bodyOf Tryd.f102) = [] from by kernel_rfl]; exact trivial) (fun x => ef_S_l4Count x.1 x.2.1)
noncomputable def pl_S_l7Sign : Plan := ⟨[], [], 0, 0⟩
noncomputable def f_S_l7Sign (t0 : PV (.int .i64)) : Option (PVs [.str] × PVs []) :=
  bif cutB t0 (IntKind.wrap .i64 (t0 + 1)) [63, 32, 45, 43].length then
    some (((cutL t0 (IntKind.wrap .i64 (t0 + 1)) [63, 32, 45, 43]), ()), ())
  else
    none
noncomputable def ct_S_l7Sign : Ct := ⟨[(.bor, (.int .i64))], [(.str, false)], fun x => f_S_l7Sign x.1⟩
noncomputable def cx_S_l7Sign : Cx := ⟨tab, arrs, [], [], gl, []⟩
theorem ef_S_l7Sign (t0 : PV (.int .i64)) : denF cx_S_l7Sign 0 pl_S_l7Sign Tryd.f104.ntmps (bodyOf Tryd.f104) Tryd.f104.results.toList [(.bor, (.int .i64))] [(.str, false)] (t0, ()) = f_S_l7Sign t0 := by kernel_rfl
theorem ok_S_l7Sign : FnOk gl Tryd.prog 104 ct_S_l7Sign :=
  fnOk (cx := cx_S_l7Sign) (pl := pl_S_l7Sign) (dp := 0) (ok0_of tabOk (by unfold ArrOk; kernel_rfl) mix trivial trivial) Tryd.func104 (by kernel_rfl) (by kernel_rfl) (by kernel_rfl)
    (by rw [show loopsOf (bodyOf Tryd.f104) = [] from by kernel_rfl]; exact trivial) (fun x => ef_S_l7Sign x.1)
noncomputable def pl_S_l5Shown : Plan := ⟨[], [], 0, 0⟩
noncomputable def f_S_l5Shown (t0 : PV .str) (t1 : PV .str) : Option (PVs [.str] × PVs []) :=
  (f_S_l1Ends t1).bind fun r4 =>
    bif r4.1.1 then
      bif decide (t0.length + t1.length ≤ 1099511627776) then
        some (((t0 ++ t1), ()), ())
      else
        none
    else
      bif decide (t0.length + t1.length ≤ 1099511627776) then
        bif decide ((t0 ++ t1).length + [10, 92, 32, 110, 111, 110, 101, 10].length ≤ 1099511627776) then
          some ((((t0 ++ t1) ++ [10, 92, 32, 110, 111, 110, 101, 10]), ()), ())
        else
          none
      else
        none
noncomputable def ct_S_l5Shown : Ct := ⟨[(.bor, .str), (.bor, .str)], [(.str, false)], fun x => f_S_l5Shown x.1 x.2.1⟩
noncomputable def cx_S_l5Shown : Cx := ⟨tab, arrs, [(115, ct_S_l1Ends)], [], gl, []⟩
theorem ef_S_l5Shown (t0 : PV .str) (t1 : PV .str) : denF cx_S_l5Shown 0 pl_S_l5Shown Tryd.f103.ntmps (bodyOf Tryd.f103) Tryd.f103.results.toList [(.bor, .str), (.bor, .str)] [(.str, false)] (t0, t1, ()) = f_S_l5Shown t0 t1 := by kernel_rfl
theorem ok_S_l5Shown : FnOk gl Tryd.prog 103 ct_S_l5Shown :=
  fnOk (cx := cx_S_l5Shown) (pl := pl_S_l5Shown) (dp := 0) (ok0_of tabOk (by unfold ArrOk; kernel_rfl) mix ⟨ok_S_l1Ends, trivial⟩ trivial) Tryd.func103 (by kernel_rfl) (by kernel_rfl) (by kernel_rfl)
    (by rw [show loopsOf (bodyOf Tryd.f103) = [] from by kernel_rfl]; exact trivial) (fun x => ef_S_l5Shown x.1 x.2.1)
noncomputable def sh_S_l7Text_7 : List Sh := mkSh 50 [(3, .val .str .b), (8, .val S_impl_Group .b), (9, .val (.int .i64) .b), (10, .val (.int .i64) .b), (33, .val S_impl_Row .b), (34, .val (.int .i64) .b), (35, .val (.int .i64) .b)]
noncomputable def o_S_l7Text_7 : List Out := [⟨.exit 2, ⟨[], [3, 8, 9, 10], []⟩, mkSh 50 [(3, .val .str .b), (8, .val S_impl_Group .b), (9, .val (.int .i64) .b), (10, .val (.int .i64) .b)]⟩]
noncomputable def b_S_l7Text_7 (t3 : PV .str) (t8 : PV S_impl_Group) (t9 : PV (.int .i64)) (t10 : PV (.int .i64)) (t33 : PV S_impl_Row) (t34 : PV (.int .i64)) (t35 : PV (.int .i64)) : Option ((PV .str × PV S_impl_Group × PV (.int .i64) × PV (.int .i64) × PV S_impl_Row × PV (.int .i64) × PV (.int .i64) × Unit) ⊕ ((PV .str × PV S_impl_Group × PV (.int .i64) × PV (.int .i64) × Unit))) :=
  bif (decide (t35 < t34)) then
    bif inB t35 t33.length then
      (f_S_l7Sign ((t33.getD t35.toNat (dflt Y_impl_Row)).1)).bind fun r11 =>
        (f_S_l5Shown r11.1.1 (((t33.getD t35.toNat (dflt Y_impl_Row)).2).1)).bind fun r12 =>
          bif decide (t3.length + r12.1.1.length ≤ 1099511627776) then
            some (.inl ((t3 ++ r12.1.1), t8, t9, t10, t33, t34, (IntKind.wrap .i64 (t35 + 1)), ()))
          else
            none
    else
      none
  else
    some (.inr (t3, t8, t9, t10, ()))
noncomputable def w_S_l7Text_7 : PV .str × PV S_impl_Group × PV (.int .i64) × PV (.int .i64) × PV S_impl_Row × PV (.int .i64) × PV (.int .i64) × Unit → Option ((PV .str × PV S_impl_Group × PV (.int .i64) × PV (.int .i64) × Unit)) := fix fun d => b_S_l7Text_7 d.1 d.2.1 d.2.2.1 d.2.2.2.1 d.2.2.2.2.1 d.2.2.2.2.2.1 d.2.2.2.2.2.2.1
noncomputable def lp_S_l7Text_7 : Lp := ⟨⟨[], [3, 8, 9, 10, 33, 34, 35], []⟩, sh_S_l7Text_7, o_S_l7Text_7, fun d => b_S_l7Text_7 d.1 d.2.1 d.2.2.1 d.2.2.2.1 d.2.2.2.2.1 d.2.2.2.2.2.1 d.2.2.2.2.2.2.1⟩
noncomputable def sh_S_l7Text_3 : List Sh := mkSh 50 [(3, .val .str .b), (8, .val S_impl_Group .b), (9, .val (.int .i64) .b), (10, .val (.int .i64) .b)]
noncomputable def o_S_l7Text_3 : List Out := [⟨.exit 0, ⟨[], [3], []⟩, mkSh 50 [(3, .val .str .b)]⟩]
noncomputable def b_S_l7Text_3 (t3 : PV .str) (t8 : PV S_impl_Group) (t9 : PV (.int .i64)) (t10 : PV (.int .i64)) : Option ((PV .str × PV S_impl_Group × PV (.int .i64) × PV (.int .i64) × Unit) ⊕ ((PV .str × Unit))) :=
  bif (decide (t10 < t9)) then
    bif inB t10 t8.length then
      (f_S_l6Old (t8.getD t10.toNat (dflt Y_impl_Group))).bind fun r14 =>
        (f_S_l4Count ((t8.getD t10.toNat (dflt Y_impl_Group)).1) (r14.1.1.length : Int)).bind fun r15 =>
          bif decide ([64, 64, 32, 45].length + r15.1.1.length ≤ 1099511627776) then
            bif decide (([64, 64, 32, 45] ++ r15.1.1).length + [32, 43].length ≤ 1099511627776) then
              (f_S_l6New (t8.getD t10.toNat (dflt Y_impl_Group))).bind fun r16 =>
                (f_S_l4Count (((t8.getD t10.toNat (dflt Y_impl_Group)).2).1) (r16.1.1.length : Int)).bind fun r17 =>
                  bif decide ((([64, 64, 32, 45] ++ r15.1.1) ++ [32, 43]).length + r17.1.1.length ≤ 1099511627776) then
                    bif decide (((([64, 64, 32, 45] ++ r15.1.1) ++ [32, 43]) ++ r17.1.1).length + [32, 64, 64, 10].length ≤ 1099511627776) then
                      bif decide (t3.length + (((([64, 64, 32, 45] ++ r15.1.1) ++ [32, 43]) ++ r17.1.1) ++ [32, 64, 64, 10]).length ≤ 1099511627776) then
                        (w_S_l7Text_7 ((t3 ++ (((([64, 64, 32, 45] ++ r15.1.1) ++ [32, 43]) ++ r17.1.1) ++ [32, 64, 64, 10])), t8, t9, t10, (((t8.getD t10.toNat (dflt Y_impl_Group)).2).2).1, (((((t8.getD t10.toNat (dflt Y_impl_Group)).2).2).1).length : Int), 0, ())).bind fun l18 =>
                          some (.inl (l18.1, l18.2.1, l18.2.2.1, (IntKind.wrap .i64 (l18.2.2.2.1 + 1)), ()))
                      else
                        none
                    else
                      none
                  else
                    none
            else
              none
          else
            none
    else
      none
  else
    some (.inr (t3, ()))
noncomputable def w_S_l7Text_3 : PV .str × PV S_impl_Group × PV (.int .i64) × PV (.int .i64) × Unit → Option ((PV .str × Unit)) := fix fun d => b_S_l7Text_3 d.1 d.2.1 d.2.2.1 d.2.2.2.1
noncomputable def lp_S_l7Text_3 : Lp := ⟨⟨[], [3, 8, 9, 10], []⟩, sh_S_l7Text_3, o_S_l7Text_3, fun d => b_S_l7Text_3 d.1 d.2.1 d.2.2.1 d.2.2.2.1⟩
noncomputable def pl_S_l7Text : Plan := ⟨[], [(7, lp_S_l7Text_7), (3, lp_S_l7Text_3)], 0, 0⟩
noncomputable def f_S_l7Text (t0 : PV S_impl_Group) : Option (PVs [.str] × PVs []) :=
  (w_S_l7Text_3 ([], t0, (t0.length : Int), 0, ())).bind fun l20 =>
    some ((l20.1, ()), ())
noncomputable def ct_S_l7Text : Ct := ⟨[(.bor, S_impl_Group)], [(.str, false)], fun x => f_S_l7Text x.1⟩
noncomputable def cx_S_l7Text : Cx := ⟨tab, arrs, [(100, ct_S_l6Old), (101, ct_S_l6New), (102, ct_S_l4Count), (103, ct_S_l5Shown), (104, ct_S_l7Sign)], [], gl, []⟩
theorem eb_S_l7Text_3 (t3 : PV .str) (t8 : PV S_impl_Group) (t9 : PV (.int .i64)) (t10 : PV (.int .i64)) : denK cx_S_l7Text (rcN cx_S_l7Text 0) pl_S_l7Text 0 ((loopsOf (bodyOf Tryd.f62)).getD 0 .skip) (fillS sh_S_l7Text_3 (t3, t8, t9, t10, ())) (roundK 0 lp_S_l7Text_3) = b_S_l7Text_3 t3 t8 t9 t10 := by kernel_rfl
theorem eb_S_l7Text_7 (t3 : PV .str) (t8 : PV S_impl_Group) (t9 : PV (.int .i64)) (t10 : PV (.int .i64)) (t33 : PV S_impl_Row) (t34 : PV (.int .i64)) (t35 : PV (.int .i64)) : denK cx_S_l7Text (rcN cx_S_l7Text 0) pl_S_l7Text 0 ((loopsOf (bodyOf Tryd.f62)).getD 1 .skip) (fillS sh_S_l7Text_7 (t3, t8, t9, t10, t33, t34, t35, ())) (roundK 0 lp_S_l7Text_7) = b_S_l7Text_7 t3 t8 t9 t10 t33 t34 t35 := by kernel_rfl
theorem ef_S_l7Text (t0 : PV S_impl_Group) : denF cx_S_l7Text 0 pl_S_l7Text Tryd.f62.ntmps (bodyOf Tryd.f62) Tryd.f62.results.toList [(.bor, S_impl_Group)] [(.str, false)] (t0, ()) = f_S_l7Text t0 := by kernel_rfl
theorem ok_S_l7Text : FnOk gl Tryd.prog 62 ct_S_l7Text :=
  fnOk (cx := cx_S_l7Text) (pl := pl_S_l7Text) (dp := 0) (ok0_of tabOk (by unfold ArrOk; kernel_rfl) mix ⟨ok_S_l6Old, ok_S_l6New, ok_S_l4Count, ok_S_l5Shown, ok_S_l7Sign, trivial⟩ trivial) Tryd.func62 (by kernel_rfl) (by kernel_rfl) (by kernel_rfl)
    (by rw [show loopsOf (bodyOf Tryd.f62) = [((loopsOf (bodyOf Tryd.f62)).getD 0 .skip), ((loopsOf (bodyOf Tryd.f62)).getD 1 .skip)] from by kernel_rfl]; exact ⟨(by rw [show lookup pl_S_l7Text.loops (firstId ((loopsOf (bodyOf Tryd.f62)).getD 0 .skip)) = some lp_S_l7Text_3 from by kernel_rfl]; exact fun d z h => (eb_S_l7Text_3 d.1 d.2.1 d.2.2.1 d.2.2.2.1).trans h), (by rw [show lookup pl_S_l7Text.loops (firstId ((loopsOf (bodyOf Tryd.f62)).getD 1 .skip)) = some lp_S_l7Text_7 from by kernel_rfl]; exact fun d z h => (eb_S_l7Text_7 d.1 d.2.1 d.2.2.1 d.2.2.2.1 d.2.2.2.2.1 d.2.2.2.2.2.1 d.2.2.2.2.2.2.1).trans h), trivial⟩) (fun x => ef_S_l7Text x.1)
noncomputable def o_S_GroupsText_2 : List Out := [⟨.normal, ⟨[], [0, 12], []⟩, mkSh 15 [(0, .val S_impl_Group .b), (12, .val .bool .b)]⟩]
noncomputable def pl_S_GroupsText : Plan := ⟨[(2, o_S_GroupsText_2)], [], 0, 0⟩
noncomputable def f_S_GroupsText (t0 : PV S_impl_Group) : Option (PVs [.str, .bool] × PVs []) :=
  ((
      (f_S_l6Good t0).bind fun r6 =>
        bif (!r6.1.1) then
          some (t0, true, ())
        else
          (f_S_l7Text t0).bind fun r7 =>
            some (t0, (decide ((r7.1.1.length : Int) > 3000)), ()) : Option ((PV S_impl_Group × PV .bool × Unit)))).bind fun j8 =>
    bif j8.2.1 then
      some (([], false, ()), ())
    else
      (f_S_l7Text j8.1).bind fun r9 =>
        some ((r9.1.1, true, ()), ())
noncomputable def ct_S_GroupsText : Ct := ⟨[(.bor, S_impl_Group)], [(.str, false), (.bool, false)], fun x => f_S_GroupsText x.1⟩
noncomputable def cx_S_GroupsText : Cx := ⟨tab, arrs, [(61, ct_S_l6Good), (62, ct_S_l7Text)], [], gl, []⟩
theorem ef_S_GroupsText (t0 : PV S_impl_Group) : denF cx_S_GroupsText 0 pl_S_GroupsText Tryd.f17.ntmps (bodyOf Tryd.f17) Tryd.f17.results.toList [(.bor, S_impl_Group)] [(.str, false), (.bool, false)] (t0, ()) = f_S_GroupsText t0 := by kernel_rfl
theorem ok_S_GroupsText : FnOk gl Tryd.prog 17 ct_S_GroupsText :=
  fnOk (cx := cx_S_GroupsText) (pl := pl_S_GroupsText) (dp := 0) (ok0_of tabOk (by unfold ArrOk; kernel_rfl) mix ⟨ok_S_l6Good, ok_S_l7Text, trivial⟩ trivial) Tryd.func17 (by kernel_rfl) (by kernel_rfl) (by kernel_rfl)
    (by rw [show loopsOf (bodyOf Tryd.f17) = [] from by kernel_rfl]; exact trivial) (fun x => ef_S_GroupsText x.1)
noncomputable def pl_S_UnifiedText : Plan := ⟨[], [], 0, 0⟩
noncomputable def f_S_UnifiedText (t0 : PV S_string) (t1 : PV S_impl_Hunk) (t2 : PV (.int .i64)) : Option (PVs [.str, .bool] × PVs []) :=
  (f_S_GroupsOf t0 t1 t2).bind fun r2 =>
    bif (!r2.1.2.1) then
      some (([], false, ()), ())
    else
      (f_S_GroupsText r2.1.1).bind fun r3 =>
        some ((r3.1.1, r3.1.2.1, ()), ())
noncomputable def ct_S_UnifiedText : Ct := ⟨[(.bor, S_string), (.bor, S_impl_Hunk), (.bor, (.int .i64))], [(.str, false), (.bool, false)], fun x => f_S_UnifiedText x.1 x.2.1 x.2.2.1⟩
noncomputable def cx_S_UnifiedText : Cx := ⟨tab, arrs, [(17, ct_S_GroupsText), (86, ct_S_GroupsOf)], [], gl, []⟩
theorem ef_S_UnifiedText (t0 : PV S_string) (t1 : PV S_impl_Hunk) (t2 : PV (.int .i64)) : denF cx_S_UnifiedText 0 pl_S_UnifiedText Tryd.f47.ntmps (bodyOf Tryd.f47) Tryd.f47.results.toList [(.bor, S_string), (.bor, S_impl_Hunk), (.bor, (.int .i64))] [(.str, false), (.bool, false)] (t0, t1, t2, ()) = f_S_UnifiedText t0 t1 t2 := by kernel_rfl
theorem ok_S_UnifiedText : FnOk gl Tryd.prog 47 ct_S_UnifiedText :=
  fnOk (cx := cx_S_UnifiedText) (pl := pl_S_UnifiedText) (dp := 0) (ok0_of tabOk (by unfold ArrOk; kernel_rfl) mix ⟨ok_S_GroupsText, ok_S_GroupsOf, trivial⟩ trivial) Tryd.func47 (by kernel_rfl) (by kernel_rfl) (by kernel_rfl)
    (by rw [show loopsOf (bodyOf Tryd.f47) = [] from by kernel_rfl]; exact trivial) (fun x => ef_S_UnifiedText x.1 x.2.1 x.2.2.1)
noncomputable def pl_I_in : Plan := ⟨[], [], 0, 0⟩
noncomputable def f_I_in (t0 : PV (.int .i64)) (t1 : PV (.int .i64)) (t2 : PV (.int .i64)) : Option (PVs [.bool] × PVs []) :=
  bif (decide (t0 ≥ t1)) then
    some (((decide (t0 ≤ t2)), ()), ())
  else
    some ((false, ()), ())
noncomputable def ct_I_in : Ct := ⟨[(.bor, (.int .i64)), (.bor, (.int .i64)), (.bor, (.int .i64))], [(.bool, false)], fun x => f_I_in x.1 x.2.1 x.2.2.1⟩
noncomputable def cx_I_in : Cx := ⟨tab, arrs, [], [], gl, []⟩
theorem ef_I_in (t0 : PV (.int .i64)) (t1 : PV (.int .i64)) (t2 : PV (.int .i64)) : denF cx_I_in 0 pl_I_in Tryd.f80.ntmps (bodyOf Tryd.f80) Tryd.f80.results.toList [(.bor, (.int .i64)), (.bor, (.int .i64)), (.bor, (.int .i64))] [(.bool, false)] (t0, t1, t2, ()) = f_I_in t0 t1 t2 := by kernel_rfl
theorem ok_I_in : FnOk gl Tryd.prog 80 ct_I_in :=
  fnOk (cx := cx_I_in) (pl := pl_I_in) (dp := 0) (ok0_of tabOk (by unfold ArrOk; kernel_rfl) mix trivial trivial) Tryd.func80 (by kernel_rfl) (by kernel_rfl) (by kernel_rfl)
    (by rw [show loopsOf (bodyOf Tryd.f80) = [] from by kernel_rfl]; exact trivial) (fun x => ef_I_in x.1 x.2.1 x.2.2.1)
noncomputable def pl_I_isLine : Plan := ⟨[], [], 0, 0⟩
noncomputable def f_I_isLine (t0 : PV .str) : Option (PVs [.bool] × PVs []) :=
  (f_I_in (t0.length : Int) 1 30).bind fun r1 =>
    bif r1.1.1 then
      bif cutB 0 (IntKind.wrap .i64 ((t0.length : Int) - 1)) t0.length then
        (f_strings_Contains (cutL 0 (IntKind.wrap .i64 ((t0.length : Int) - 1)) t0) [10]).bind fun r2 =>
          some (((!r2.1.1), ()), ())
      else
        none
    else
      some ((false, ()), ())
noncomputable def ct_I_isLine : Ct := ⟨[(.bor, .str)], [(.bool, false)], fun x => f_I_isLine x.1⟩
noncomputable def cx_I_isLine : Cx := ⟨tab, arrs, [(80, ct_I_in), (185, ct_strings_Contains)], [], gl, []⟩
theorem ef_I_isLine (t0 : PV .str) : denF cx_I_isLine 0 pl_I_isLine Tryd.f147.ntmps (bodyOf Tryd.f147) Tryd.f147.results.toList [(.bor, .str)] [(.bool, false)] (t0, ()) = f_I_isLine t0 := by kernel_rfl
theorem ok_I_isLine : FnOk gl Tryd.prog 147 ct_I_isLine :=
  fnOk (cx := cx_I_isLine) (pl := pl_I_isLine) (dp := 0) (ok0_of tabOk (by unfold ArrOk; kernel_rfl) mix ⟨ok_I_in, ok_strings_Contains, trivial⟩ trivial) Tryd.func147 (by kernel_rfl) (by kernel_rfl) (by kernel_rfl)
    (by rw [show loopsOf (bodyOf Tryd.f147) = [] from by kernel_rfl]; exact trivial) (fun x => ef_I_isLine x.1)
noncomputable def pl_I_areLines_1 : Plan := ⟨[], [], 0, 0⟩
noncomputable def f_I_areLines_1 (t0 : PV .str) : Option (PVs [.bool] × PVs []) :=
  (f_I_isLine t0).bind fun r1 =>
    some (((!r1.1.1), ()), ())
noncomputable def ct_I_areLines_1 : Ct := ⟨[(.bor, .str)], [(.bool, false)], fun x => f_I_areLines_1 x.1⟩
noncomputable def cx_I_areLines_1 : Cx := ⟨tab, arrs, [(147, ct_I_isLine)], [], gl, []⟩
theorem ef_I_areLines_1 (t0 : PV .str) : denF cx_I_areLines_1 0 pl_I_areLines_1 Tryd.f197.ntmps (bodyOf Tryd.f197) Tryd.f197.results.toList [(.bor, .str)] [(.bool, false)] (t0, ()) = f_I_areLines_1 t0 := by kernel_rfl
theorem ok_I_areLines_1 : FnOk gl Tryd.prog 197 ct_I_areLines_1 :=
  fnOk (cx := cx_I_areLines_1) (pl := pl_I_areLines_1) (dp := 0) (ok0_of tabOk (by unfold ArrOk; kernel_rfl) mix ⟨ok_I_isLine, trivial⟩ trivial) Tryd.func197 (by kernel_rfl) (by kernel_rfl) (by kernel_rfl)
    (by rw [show loopsOf (bodyOf Tryd.f197) = [] from by kernel_rfl]; exact trivial) (fun x => ef_I_areLines_1 x.1)
noncomputable def pl_I_areLines_145 : Plan := ⟨[], [], 1, 11⟩
noncomputable def sh_I_areLines_184_2 : List Sh := mkSh 39 [(0, .val S_string .b), (2, .val .bool .b), (3, .val S_string .b), (4, .val (.int .i64) .b), (5, .val .bool .b), (6, .val .bool .b), (7, .val S_string .b), (11, .val S_string .b), (12, .fn 197 []), (15, .val .bool .b), (16, .val S_string .b), (17, .fn 197 []), (20, .val S_string .b), (21, .fn 197 []), (27, .val (.int .i64) .b), (28, .val (.int .i64) .b)]
noncomputable def o_I_areLines_184_2 : List Out := [⟨.exit 0, ⟨[], [], []⟩, mkSh 39 [(0, .val S_string .b), (2, .val .bool .b), (3, .val S_string .b), (4, .val (.int .i64) .b), (5, .val .bool .b), (6, .val .bool .b), (7, .val S_string .b), (11, .val S_string .b), (12, .fn 197 []), (15, .val .bool .b), (16, .val S_string .b), (17, .fn 197 [])]⟩, ⟨.ret, ⟨[], [4], []⟩, mkSh 39 [(0, .val S_string .b), (2, .val .bool .b), (3, .val S_string .b), (4, .val (.int .i64) .b), (5, .val .bool .b), (6, .val .bool .b), (7, .val S_string .b), (11, .val S_string .b), (12, .fn 197 []), (15, .val .bool .b), (16, .val S_string .b), (17, .fn 197 []), (24, .val (.int .i64) .b)]⟩]
noncomputable def b_I_areLines_184_2 (t0 : PV S_string) (t2 : PV .bool) (t3 : PV S_string) (t4 : PV (.int .i64)) (t5 : PV .bool) (t6 : PV .bool) (t7 : PV S_string) (t11 : PV S_string) (t15 : PV .bool) (t16 : PV S_string) (t20 : PV S_string) (t27 : PV (.int .i64)) (t28 : PV (.int .i64)) : Option ((PV S_string × PV .bool × PV S_string × PV (.int .i64) × PV .bool × PV .bool × PV S_string × PV S_string × PV .bool × PV S_string × PV S_string × PV (.int .i64) × PV (.int .i64) × Unit) ⊕ ((PV S_string × PV .bool × PV S_string × PV (.int .i64) × PV .bool × PV .bool × PV S_string × PV S_string × PV .bool × PV S_string × Unit) ⊕ (PV S_string × PV .bool × PV S_string × PV (.int .i64) × PV .bool × PV .bool × PV S_string × PV S_string × PV .bool × PV S_string × PV (.int .i64) × Unit))) :=
  bif (decide (t28 < t27)) then
    bif inB t28 t20.length then
      (f_I_areLines_1 (t20.getD t28.toNat [])).bind fun r4 =>
        bif r4.1.1 then
          some (.inr (.inr (t0, t2, t3, t4, t5, t6, t7, t11, t15, t16, t28, ())))
        else
          some (.inl (t0, t2, t3, t4, t5, t6, t7, t11, t15, t16, t20, t27, (IntKind.wrap .i64 (t28 + 1)), ()))
    else
      none
  else
    some (.inr (.inl (t0, t2, t3, t4, t5, t6, t7, t11, t15, t16, ())))
noncomputable def w_I_areLines_184_2 : PV S_string × PV .bool × PV S_string × PV (.int .i64) × PV .bool × PV .bool × PV S_string × PV S_string × PV .bool × PV S_string × PV S_string × PV (.int .i64) × PV (.int .i64) × Unit → Option ((PV S_string × PV .bool × PV S_string × PV (.int .i64) × PV .bool × PV .bool × PV S_string × PV S_string × PV .bool × PV S_string × Unit) ⊕ (PV S_string × PV .bool × PV S_string × PV (.int .i64) × PV .bool × PV .bool × PV S_string × PV S_string × PV .bool × PV S_string × PV (.int .i64) × Unit)) := fix fun d => b_I_areLines_184_2 d.1 d.2.1 d.2.2.1 d.2.2.2.1 d.2.2.2.2.1 d.2.2.2.2.2.1 d.2.2.2.2.2.2.1 d.2.2.2.2.2.2.2.1 d.2.2.2.2.2.2.2.2.1 d.2.2.2.2.2.2.2.2.2.1 d.2.2.2.2.2.2.2.2.2.2.1 d.2.2.2.2.2.2.2.2.2.2.2.1 d.2.2.2.2.2.2.2.2.2.2.2.2.1
noncomputable def lp_I_areLines_184_2 : Lp := ⟨⟨[], [0, 1, 7, 8], []⟩, sh_I_areLines_184_2, o_I_areLines_184_2, fun d => b_I_areLines_184_2 d.1 d.2.1 d.2.2.1 d.2.2.2.1 d.2.2.2.2.1 d.2.2.2.2.2.1 d.2.2.2.2.2.2.1 d.2.2.2.2.2.2.2.1 d.2.2.2.2.2.2.2.2.1 d.2.2.2.2.2.2.2.2.2.1 d.2.2.2.2.2.2.2.2.2.2.1 d.2.2.2.2.2.2.2.2.2.2.2.1 d.2.2.2.2.2.2.2.2.2.2.2.2.1⟩
noncomputable def pl_I_areLines_184 : Plan := ⟨[], [(2, lp_I_areLines_184_2)], 0, 20⟩
noncomputable def pl_I_areLines : Plan := ⟨[], [], 2, 0⟩
noncomputable def f_I_areLines (t0 : PV S_string) : Option (PVs [.bool] × PVs []) :=
  bif (decide ((t0.length : Int) ≤ 40)) then
    (w_I_areLines_184_2 (t0, false, t0, (t0.length : Int), (decide ((t0.length : Int) ≤ 40)), true, t0, t0, false, t0, t0, (t0.length : Int), 0, ())).bind fun x9 =>
      match x9 with
      | .inl l7 =>
        bif l7.2.2.2.2.2.1 then
          some (((!(decide ((-1) ≥ 0))), ()), ())
        else
          some ((false, ()), ())
      | .inr l8 =>
        bif l8.2.2.2.2.2.1 then
          some (((!(decide (l8.2.2.2.2.2.2.2.2.2.2.1 ≥ 0))), ()), ())
        else
          some ((false, ()), ())
  else
    some ((false, ()), ())
noncomputable def ct_I_areLines : Ct := ⟨[(.bor, S_string)], [(.bool, false)], fun x => f_I_areLines x.1⟩
noncomputable def cx_I_areLines : Cx := ⟨tab, arrs, [(197, ct_I_areLines_1)], [(145, Tryd.f145, pl_I_areLines_145), (184, Tryd.f184, pl_I_areLines_184)], gl, []⟩
theorem eb_I_areLines_184_2 (t0 : PV S_string) (t2 : PV .bool) (t3 : PV S_string) (t4 : PV (.int .i64)) (t5 : PV .bool) (t6 : PV .bool) (t7 : PV S_string) (t11 : PV S_string) (t15 : PV .bool) (t16 : PV S_string) (t20 : PV S_string) (t27 : PV (.int .i64)) (t28 : PV (.int .i64)) : denK cx_I_areLines (rcN cx_I_areLines 0) pl_I_areLines_184 20 ((loopsOf (bodyOf Tryd.f184)).getD 0 .skip) (fillS sh_I_areLines_184_2 (t0, t2, t3, t4, t5, t6, t7, t11, t15, t16, t20, t27, t28, ())) (roundK 20 lp_I_areLines_184_2) = b_I_areLines_184_2 t0 t2 t3 t4 t5 t6 t7 t11 t15 t16 t20 t27 t28 := by kernel_rfl
theorem ef_I_areLines (t0 : PV S_string) : denF cx_I_areLines 2 pl_I_areLines Tryd.f173.ntmps (bodyOf Tryd.f173) Tryd.f173.results.toList [(.bor, S_string)] [(.bool, false)] (t0, ()) = f_I_areLines t0 := by kernel_rfl
theorem ok_I_areLines : FnOk gl Tryd.prog 173 ct_I_areLines :=
  fnOk (cx := cx_I_areLines) (pl := pl_I_areLines) (dp := 2) (ok0_of tabOk (by unfold ArrOk; kernel_rfl) mix ⟨ok_I_areLines_1, trivial⟩ ⟨⟨Tryd.func145, by kernel_rfl, (by rw [show loopsOf (bodyOf Tryd.f145) = [] from by kernel_rfl]; exact trivial)⟩, ⟨Tryd.func184, by kernel_rfl, (by rw [show loopsOf (bodyOf Tryd.f184) = [((loopsOf (bodyOf Tryd.f184)).getD 0 .skip)] from by kernel_rfl]; exact ⟨(by rw [show lookup pl_I_areLines_184.loops (firstId ((loopsOf (bodyOf Tryd.f184)).getD 0 .skip)) = some lp_I_areLines_184_2 from by kernel_rfl]; exact fun d z h => (eb_I_areLines_184_2 d.1 d.2.1 d.2.2.1 d.2.2.2.1 d.2.2.2.2.1 d.2.2.2.2.2.1 d.2.2.2.2.2.2.1 d.2.2.2.2.2.2.2.1 d.2.2.2.2.2.2.2.2.1 d.2.2.2.2.2.2.2.2.2.1 d.2.2.2.2.2.2.2.2.2.2.1 d.2.2.2.2.2.2.2.2.2.2.2.1 d.2.2.2.2.2.2.2.2.2.2.2.2.1).trans h), trivial⟩)⟩, trivial⟩) Tryd.func173 (by kernel_rfl) (by kernel_rfl) (by kernel_rfl)
    (by rw [show loopsOf (bodyOf Tryd.f173) = [] from by kernel_rfl]; exact trivial) (fun x => ef_I_areLines x.1)
noncomputable def pl_internal_stringslite_HasSuffix : Plan := ⟨[], [], 0, 0⟩
noncomputable def f_internal_stringslite_HasSuffix (t0 : PV .str) (t1 : PV .str) : Option (PVs [.bool] × PVs []) :=
  bif (decide ((t0.length : Int) ≥ (t1.length : Int))) then
    bif cutB (IntKind.wrap .i64 ((t0.length : Int) - (t1.length : Int))) (t0.length : Int) t0.length then
      some ((((cutL (IntKind.wrap .i64 ((t0.length : Int) - (t1.length : Int))) (t0.length : Int) t0) == t1), ()), ())
    else
      none
  else
    some ((false, ()), ())
noncomputable def ct_internal_stringslite_HasSuffix : Ct := ⟨[(.bor, .str), (.bor, .str)], [(.bool, false)], fun x => f_internal_stringslite_HasSuffix x.1 x.2.1⟩
noncomputable def cx_internal_stringslite_HasSuffix : Cx := ⟨tab, arrs, [], [], gl, []⟩
theorem ef_internal_stringslite_HasSuffix (t0 : PV .str) (t1 : PV .str) : denF cx_internal_stringslite_HasSuffix 0 pl_internal_stringslite_HasSuffix Tryd.f193.ntmps (bodyOf Tryd.f193) Tryd.f193.results.toList [(.bor, .str), (.bor, .str)] [(.bool, false)] (t0, t1, ()) = f_internal_stringslite_HasSuffix t0 t1 := by kernel_rfl
theorem ok_internal_stringslite_HasSuffix : FnOk gl Tryd.prog 193 ct_internal_stringslite_HasSuffix :=
  fnOk (cx := cx_internal_stringslite_HasSuffix) (pl := pl_internal_stringslite_HasSuffix) (dp := 0) (ok0_of tabOk (by unfold ArrOk; kernel_rfl) mix trivial trivial) Tryd.func193 (by kernel_rfl) (by kernel_rfl) (by kernel_rfl)
    (by rw [show loopsOf (bodyOf Tryd.f193) = [] from by kernel_rfl]; exact trivial) (fun x => ef_internal_stringslite_HasSuffix x.1 x.2.1)
noncomputable def pl_strings_HasSuffix : Plan := ⟨[], [], 0, 0⟩
noncomputable def f_strings_HasSuffix (t0 : PV .str) (t1 : PV .str) : Option (PVs [.bool] × PVs []) :=
  (f_internal_stringslite_HasSuffix t0 t1).bind fun r1 =>
    some ((r1.1.1, ()), ())
noncomputable def ct_strings_HasSuffix : Ct := ⟨[(.bor, .str), (.bor, .str)], [(.bool, false)], fun x => f_strings_HasSuffix x.1 x.2.1⟩
noncomputable def cx_strings_HasSuffix : Cx := ⟨tab, arrs, [(193, ct_internal_stringslite_HasSuffix)], [], gl, []⟩
theorem ef_strings_HasSuffix (t0 : PV .str) (t1 : PV .str) : denF cx_strings_HasSuffix 0 pl_strings_HasSuffix Tryd.f186.ntmps (bodyOf Tryd.f186) Tryd.f186.results.toList [(.bor, .str), (.bor, .str)] [(.bool, false)] (t0, t1, ()) = f_strings_HasSuffix t0 t1 := by kernel_rfl
theorem ok_strings_HasSuffix : FnOk gl Tryd.prog 186 ct_strings_HasSuffix :=
  fnOk (cx := cx_strings_HasSuffix) (pl := pl_strings_HasSuffix) (dp := 0) (ok0_of tabOk (by unfold ArrOk; kernel_rfl) mix ⟨ok_internal_stringslite_HasSuffix, trivial⟩ trivial) Tryd.func186 (by kernel_rfl) (by kernel_rfl) (by kernel_rfl)
    (by rw [show loopsOf (bodyOf Tryd.f186) = [] from by kernel_rfl]; exact trivial) (fun x => ef_strings_HasSuffix x.1 x.2.1)
noncomputable def pl_I_isEnded : Plan := ⟨[], [], 0, 0⟩
noncomputable def f_I_isEnded (t0 : PV .str) : Option (PVs [.bool] × PVs []) :=
  (f_strings_HasSuffix t0 [10]).bind fun r1 =>
    some ((r1.1.1, ()), ())
noncomputable def ct_I_isEnded : Ct := ⟨[(.bor, .str)], [(.bool, false)], fun x => f_I_isEnded x.1⟩
noncomputable def cx_I_isEnded : Cx := ⟨tab, arrs, [(186, ct_strings_HasSuffix)], [], gl, []⟩
theorem ef_I_isEnded (t0 : PV .str) : denF cx_I_isEnded 0 pl_I_isEnded Tryd.f148.ntmps (bodyOf Tryd.f148) Tryd.f148.results.toList [(.bor, .str)] [(.bool, false)] (t0, ()) = f_I_isEnded t0 := by kernel_rfl
theorem ok_I_isEnded : FnOk gl Tryd.prog 148 ct_I_isEnded :=
  fnOk (cx := cx_I_isEnded) (pl := pl_I_isEnded) (dp := 0) (ok0_of tabOk (by unfold ArrOk; kernel_rfl) mix ⟨ok_strings_HasSuffix, trivial⟩ trivial) Tryd.func148 (by kernel_rfl) (by kernel_rfl) (by kernel_rfl)
    (by rw [show loopsOf (bodyOf Tryd.f148) = [] from by kernel_rfl]; exact trivial) (fun x => ef_I_isEnded x.1)
noncomputable def o_I_goodLines_7 : List Out := [⟨.normal, ⟨[], [0, 8, 9, 10, 24], []⟩, mkSh 26 [(0, .val S_string .b), (8, .val S_string .b), (9, .val (.int .i64) .b), (10, .val (.int .i64) .b), (24, .val .bool .b)]⟩]
noncomputable def sh_I_goodLines_4 : List Sh := mkSh 26 [(0, .val S_string .b), (8, .val S_string .b), (9, .val (.int .i64) .b), (10, .val (.int .i64) .b)]
noncomputable def o_I_goodLines_4 : List Out := [⟨.exit 0, ⟨[], [], []⟩, mkSh 26 []⟩, ⟨.ret, ⟨[], [2], []⟩, mkSh 26 [(2, .val .bool .b)]⟩]
noncomputable def b_I_goodLines_4 (t0 : PV S_string) (t8 : PV S_string) (t9 : PV (.int .i64)) (t10 : PV (.int .i64)) : Option ((PV S_string × PV S_string × PV (.int .i64) × PV (.int .i64) × Unit) ⊕ ((Unit) ⊕ (PV .bool × Unit))) :=
  bif (decide (t10 < t9)) then
    bif inB t10 t8.length then
      ((
          bif (decide (t10 < (IntKind.wrap .i64 ((t0.length : Int) - 1)))) then
            (f_I_isEnded (t8.getD t10.toNat [])).bind fun r7 =>
              some (t0, t8, t9, t10, (!r7.1.1), ())
          else
            some (t0, t8, t9, t10, false, ()) : Option ((PV S_string × PV S_string × PV (.int .i64) × PV (.int .i64) × PV .bool × Unit)))).bind fun j8 =>
        bif j8.2.2.2.2.1 then
          some (.inr (.inr (false, ())))
        else
          some (.inl (j8.1, j8.2.1, j8.2.2.1, (IntKind.wrap .i64 (j8.2.2.2.1 + 1)), ()))
    else
      none
  else
    some (.inr (.inl ()))
noncomputable def w_I_goodLines_4 : PV S_string × PV S_string × PV (.int .i64) × PV (.int .i64) × Unit → Option ((Unit) ⊕ (PV .bool × Unit)) := fix fun d => b_I_goodLines_4 d.1 d.2.1 d.2.2.1 d.2.2.2.1
noncomputable def lp_I_goodLines_4 : Lp := ⟨⟨[], [0, 8, 9, 10, 21, 22, 23], []⟩, sh_I_goodLines_4, o_I_goodLines_4, fun d => b_I_goodLines_4 d.1 d.2.1 d.2.2.1 d.2.2.2.1⟩
noncomputable def pl_I_goodLines : Plan := ⟨[(7, o_I_goodLines_7)], [(4, lp_I_goodLines_4)], 0, 0⟩
noncomputable def f_I_goodLines (t0 : PV S_string) : Option (PVs [.bool] × PVs []) :=
  (f_I_areLines t0).bind fun r4 =>
    bif (!r4.1.1) then
      some ((false, ()), ())
    else
      (w_I_goodLines_4 (t0, t0, (t0.length : Int), 0, ())).bind fun x13 =>
        match x13 with
        | .inl l11 =>
          some ((true, ()), ())
        | .inr l12 =>
          some ((l12.1, ()), ())
noncomputable def ct_I_goodLines : Ct := ⟨[(.bor, S_string)], [(.bool, false)], fun x => f_I_goodLines x.1⟩
noncomputable def cx_I_goodLines : Cx := ⟨tab, arrs, [(148, ct_I_isEnded), (173, ct_I_areLines)], [], gl, []⟩
theorem eb_I_goodLines_4 (t0 : PV S_string) (t8 : PV S_string) (t9 : PV (.int .i64)) (t10 : PV (.int .i64)) : denK cx_I_goodLines (rcN cx_I_goodLines 0) pl_I_goodLines 0 ((loopsOf (bodyOf Tryd.f130)).getD 0 .skip) (fillS sh_I_goodLines_4 (t0, t8, t9, t10, ())) (roundK 0 lp_I_goodLines_4) = b_I_goodLines_4 t0 t8 t9 t10 := by kernel_rfl
theorem ef_I_goodLines (t0 : PV S_string) : denF cx_I_goodLines 0 pl_I_goodLines Tryd.f130.ntmps (bodyOf Tryd.f130) Tryd.f130.results.toList [(.bor, S_string)] [(.bool, false)] (t0, ()) = f_I_goodLines t0 := by kernel_rfl
theorem ok_I_goodLines : FnOk gl Tryd.prog 130 ct_I_goodLines :=
  fnOk (cx := cx_I_goodLines) (pl := pl_I_goodLines) (dp := 0) (ok0_of tabOk (by unfold ArrOk; kernel_rfl) mix ⟨ok_I_isEnded, ok_I_areLines, trivial⟩ trivial) Tryd.func130 (by kernel_rfl) (by kernel_rfl) (by kernel_rfl)
    (by rw [show loopsOf (bodyOf Tryd.f130) = [((loopsOf (bodyOf Tryd.f130)).getD 0 .skip)] from by kernel_rfl]; exact ⟨(by rw [show lookup pl_I_goodLines.loops (firstId ((loopsOf (bodyOf Tryd.f130)).getD 0 .skip)) = some lp_I_goodLines_4 from by kernel_rfl]; exact fun d z h => (eb_I_goodLines_4 d.1 d.2.1 d.2.2.1 d.2.2.2.1).trans h), trivial⟩) (fun x => ef_I_goodLines x.1)
noncomputable def o_I_goodHunks_2 : List Out := [⟨.normal, ⟨[], [0, 1, 14, 28, 29, 30, 31, 32, 33, 34, 35, 38, 39, 40, 41, 44, 45, 46, 47, 48, 49, 50, 51, 52, 57, 58, 59, 60, 61, 62, 63, 64, 65, 66, 67, 68, 69, 70, 71, 72], []⟩, mkSh 75 [(0, .val (.int .i64) .b), (1, .val S_impl_Hunk .b), (14, .val .bool .b)]⟩]
noncomputable def o_I_goodHunks_7 : List Out := [⟨.normal, ⟨[], [0, 1, 5, 6, 15, 16, 17, 53, 57, 58, 59, 60, 61, 62, 63, 64, 65, 66, 67, 68, 69, 70, 71, 72], []⟩, mkSh 75 [(0, .val (.int .i64) .b), (1, .val S_impl_Hunk .b), (5, .val (.int .i64) .b), (6, .var Y_impl_Hunk .b), (15, .val S_impl_Hunk .b), (16, .val (.int .i64) .b), (17, .val (.int .i64) .b), (53, .val .bool .b)]⟩]
noncomputable def o_I_goodHunks_9 : List Out := [⟨.normal, ⟨[], [0, 1, 6, 15, 16, 17, 28, 29, 30, 31, 32, 33, 34, 35, 38, 39, 40, 41, 44, 45, 46, 47, 48, 49, 50, 51, 52, 73], []⟩, mkSh 75 [(0, .val (.int .i64) .b), (1, .val S_impl_Hunk .b), (6, .var Y_impl_Hunk .b), (15, .val S_impl_Hunk .b), (16, .val (.int .i64) .b), (17, .val (.int .i64) .b), (73, .val .bool .b)]⟩]
noncomputable def sh_I_goodHunks_4 : List Sh := mkSh 75 [(0, .val (.int .i64) .b), (1, .val S_impl_Hunk .b), (15, .val S_impl_Hunk .b), (16, .val (.int .i64) .b), (17, .val (.int .i64) .b)]
noncomputable def o_I_goodHunks_4 : List Out := [⟨.exit 0, ⟨[], [], []⟩, mkSh 75 []⟩, ⟨.ret, ⟨[], [4], []⟩, mkSh 75 [(4, .val .bool .b)]⟩]
noncomputable def b_I_goodHunks_4 (t0 : PV (.int .i64)) (t1 : PV S_impl_Hunk) (t15 : PV S_impl_Hunk) (t16 : PV (.int .i64)) (t17 : PV (.int .i64)) : Option ((PV (.int .i64) × PV S_impl_Hunk × PV S_impl_Hunk × PV (.int .i64) × PV (.int .i64) × Unit) ⊕ ((Unit) ⊕ (PV .bool × Unit))) :=
  bif (decide (t17 < t16)) then
    bif inB t17 t15.length then
      ((
          (f_I_in ((t15.getD t17.toNat (dflt Y_impl_Hunk)).1) 0 t0).bind fun r19 =>
            bif (!r19.1.1) then
              some (t0, t1, t17, (t15.getD t17.toNat (dflt Y_impl_Hunk)), t15, t16, t17, true, ())
            else
              (f_I_in (((t15.getD t17.toNat (dflt Y_impl_Hunk)).2).1) 0 (IntKind.wrap .i64 (t0 - ((t15.getD t17.toNat (dflt Y_impl_Hunk)).1)))).bind fun r20 =>
                bif (!r20.1.1) then
                  some (t0, t1, t17, (t15.getD t17.toNat (dflt Y_impl_Hunk)), t15, t16, t17, true, ())
                else
                  (f_I_areLines ((((t15.getD t17.toNat (dflt Y_impl_Hunk)).2).2).1)).bind fun r21 =>
                    bif (!r21.1.1) then
                      some (t0, t1, t17, (t15.getD t17.toNat (dflt Y_impl_Hunk)), t15, t16, t17, true, ())
                    else
                      bif ((((t15.getD t17.toNat (dflt Y_impl_Hunk)).2).1) == 0) then
                        some (t0, t1, t17, (t15.getD t17.toNat (dflt Y_impl_Hunk)), t15, t16, t17, ((((((t15.getD t17.toNat (dflt Y_impl_Hunk)).2).2).1).length : Int) == 0), ())
                      else
                        some (t0, t1, t17, (t15.getD t17.toNat (dflt Y_impl_Hunk)), t15, t16, t17, false, ()) : Option ((PV (.int .i64) × PV S_impl_Hunk × PV (.int .i64) × PV Y_impl_Hunk × PV S_impl_Hunk × PV (.int .i64) × PV (.int .i64) × PV .bool × Unit)))).bind fun j22 =>
        bif j22.2.2.2.2.2.2.2.1 then
          some (.inr (.inr (false, ())))
        else
          ((
              bif (decide (j22.2.2.1 > 0)) then
                bif inB (IntKind.wrap .i64 (j22.2.2.1 - 1)) j22.2.1.length then
                  bif inB (IntKind.wrap .i64 (j22.2.2.1 - 1)) j22.2.1.length then
                    some (j22.1, j22.2.1, j22.2.2.2.1, j22.2.2.2.2.1, j22.2.2.2.2.2.1, j22.2.2.2.2.2.2.1, (decide (j22.2.2.2.1.1 ≤ (IntKind.wrap .i64 (((j22.2.1.getD ((IntKind.wrap .i64 (j22.2.2.1 - 1)).toNat) (dflt Y_impl_Hunk)).1) + (((j22.2.1.getD ((IntKind.wrap .i64 (j22.2.2.1 - 1)).toNat) (dflt Y_impl_Hunk)).2).1))))), ())
                  else
                    none
                else
                  none
              else
                some (j22.1, j22.2.1, j22.2.2.2.1, j22.2.2.2.2.1, j22.2.2.2.2.2.1, j22.2.2.2.2.2.2.1, false, ()) : Option ((PV (.int .i64) × PV S_impl_Hunk × PV Y_impl_Hunk × PV S_impl_Hunk × PV (.int .i64) × PV (.int .i64) × PV .bool × Unit)))).bind fun j23 =>
            bif j23.2.2.2.2.2.2.1 then
              some (.inr (.inr (false, ())))
            else
              some (.inl (j23.1, j23.2.1, j23.2.2.2.1, j23.2.2.2.2.1, (IntKind.wrap .i64 (j23.2.2.2.2.2.1 + 1)), ()))
    else
      none
  else
    some (.inr (.inl ()))
noncomputable def w_I_goodHunks_4 : PV (.int .i64) × PV S_impl_Hunk × PV S_impl_Hunk × PV (.int .i64) × PV (.int .i64) × Unit → Option ((Unit) ⊕ (PV .bool × Unit)) := fix fun d => b_I_goodHunks_4 d.1 d.2.1 d.2.2.1 d.2.2.2.1 d.2.2.2.2.1
noncomputable def lp_I_goodHunks_4 : Lp := ⟨⟨[], [0, 1, 15, 16, 17, 28, 29, 30, 31, 32, 33, 34, 35, 38, 39, 40, 41, 44, 45, 46, 47, 48, 49, 50, 51, 52, 57, 58, 59, 60, 61, 62, 63, 64, 65, 66, 67, 68, 69, 70, 71, 72], []⟩, sh_I_goodHunks_4, o_I_goodHunks_4, fun d => b_I_goodHunks_4 d.1 d.2.1 d.2.2.1 d.2.2.2.1 d.2.2.2.2.1⟩
noncomputable def pl_I_goodHunks : Plan := ⟨[(2, o_I_goodHunks_2), (7, o_I_goodHunks_7), (9, o_I_goodHunks_9)], [(4, lp_I_goodHunks_4)], 0, 0⟩
noncomputable def f_I_goodHunks (t0 : PV (.int .i64)) (t1 : PV S_impl_Hunk) : Option (PVs [.bool] × PVs []) :=
  ((
      (f_I_in t0 0 40).bind fun r4 =>
        bif (!r4.1.1) then
          some (t0, t1, true, ())
        else
          some (t0, t1, (decide ((t1.length : Int) > 20)), ()) : Option ((PV (.int .i64) × PV S_impl_Hunk × PV .bool × Unit)))).bind fun j5 =>
    bif j5.2.2.1 then
      some ((false, ()), ())
    else
      (w_I_goodHunks_4 (j5.1, j5.2.1, j5.2.1, (j5.2.1.length : Int), 0, ())).bind fun x28 =>
        match x28 with
        | .inl l26 =>
          some ((true, ()), ())
        | .inr l27 =>
          some ((l27.1, ()), ())
noncomputable def ct_I_goodHunks : Ct := ⟨[(.bor, (.int .i64)), (.bor, S_impl_Hunk)], [(.bool, false)], fun x => f_I_goodHunks x.1 x.2.1⟩
noncomputable def cx_I_goodHunks : Cx := ⟨tab, arrs, [(80, ct_I_in), (173, ct_I_areLines)], [], gl, []⟩
theorem eb_I_goodHunks_4 (t0 : PV (.int .i64)) (t1 : PV S_impl_Hunk) (t15 : PV S_impl_Hunk) (t16 : PV (.int .i64)) (t17 : PV (.int .i64)) : denK cx_I_goodHunks (rcN cx_I_goodHunks 0) pl_I_goodHunks 0 ((loopsOf (bodyOf Tryd.f177)).getD 0 .skip) (fillS sh_I_goodHunks_4 (t0, t1, t15, t16, t17, ())) (roundK 0 lp_I_goodHunks_4) = b_I_goodHunks_4 t0 t1 t15 t16 t17 := by kernel_rfl
theorem ef_I_goodHunks (t0 : PV (.int .i64)) (t1 : PV S_impl_Hunk) : denF cx_I_goodHunks 0 pl_I_goodHunks Tryd.f177.ntmps (bodyOf Tryd.f177) Tryd.f177.results.toList [(.bor, (.int .i64)), (.bor, S_impl_Hunk)] [(.bool, false)] (t0, t1, ()) = f_I_goodHunks t0 t1 := by kernel_rfl
theorem ok_I_goodHunks : FnOk gl Tryd.prog 177 ct_I_goodHunks :=
  fnOk (cx := cx_I_goodHunks) (pl := pl_I_goodHunks) (dp := 0) (ok0_of tabOk (by unfold ArrOk; kernel_rfl) mix ⟨ok_I_in, ok_I_areLines, trivial⟩ trivial) Tryd.func177 (by kernel_rfl) (by kernel_rfl) (by kernel_rfl)
    (by rw [show loopsOf (bodyOf Tryd.f177) = [((loopsOf (bodyOf Tryd.f177)).getD 0 .skip)] from by kernel_rfl]; exact ⟨(by rw [show lookup pl_I_goodHunks.loops (firstId ((loopsOf (bodyOf Tryd.f177)).getD 0 .skip)) = some lp_I_goodHunks_4 from by kernel_rfl]; exact fun d z h => (eb_I_goodHunks_4 d.1 d.2.1 d.2.2.1 d.2.2.2.1 d.2.2.2.2.1).trans h), trivial⟩) (fun x => ef_I_goodHunks x.1 x.2.1)
noncomputable def sh_I_patched_3 : List Sh := mkSh 37 [(0, .val S_string .b), (5, .val S_string (.row .b)), (6, .val (.int .i64) .b), (10, .val S_impl_Hunk .b), (11, .val (.int .i64) .b), (12, .val (.int .i64) .b)]
noncomputable def o_I_patched_3 : List Out := [⟨.exit 0, ⟨[], [0, 5, 6], []⟩, mkSh 37 [(0, .val S_string .b), (5, .val S_string (.row .b)), (6, .val (.int .i64) .b)]⟩]
noncomputable def b_I_patched_3 (t0 : PV S_string) (t5 : PV S_string) (t6 : PV (.int .i64)) (t10 : PV S_impl_Hunk) (t11 : PV (.int .i64)) (t12 : PV (.int .i64)) : Option ((PV S_string × PV S_string × PV (.int .i64) × PV S_impl_Hunk × PV (.int .i64) × PV (.int .i64) × Unit) ⊕ ((PV S_string × PV S_string × PV (.int .i64) × Unit))) :=
  bif (decide (t12 < t11)) then
    bif inB t12 t10.length then
      bif cutB t6 ((t10.getD t12.toNat (dflt Y_impl_Hunk)).1) t0.length then
        bif roomB (t5.length + (cutL t6 ((t10.getD t12.toNat (dflt Y_impl_Hunk)).1) t0).length) then
          bif roomB ((t5 ++ (cutL t6 ((t10.getD t12.toNat (dflt Y_impl_Hunk)).1) t0)).length + ((((t10.getD t12.toNat (dflt Y_impl_Hunk)).2).2).1).length) then
            some (.inl (t0, ((t5 ++ (cutL t6 ((t10.getD t12.toNat (dflt Y_impl_Hunk)).1) t0)) ++ ((((t10.getD t12.toNat (dflt Y_impl_Hunk)).2).2).1)), (IntKind.wrap .i64 (((t10.getD t12.toNat (dflt Y_impl_Hunk)).1) + (((t10.getD t12.toNat (dflt Y_impl_Hunk)).2).1))), t10, t11, (IntKind.wrap .i64 (t12 + 1)), ()))
          else
            none
        else
          none
      else
        none
    else
      none
  else
    some (.inr (t0, t5, t6, ()))
noncomputable def w_I_patched_3 : PV S_string × PV S_string × PV (.int .i64) × PV S_impl_Hunk × PV (.int .i64) × PV (.int .i64) × Unit → Option ((PV S_string × PV S_string × PV (.int .i64) × Unit)) := fix fun d => b_I_patched_3 d.1 d.2.1 d.2.2.1 d.2.2.2.1 d.2.2.2.2.1 d.2.2.2.2.2.1
noncomputable def lp_I_patched_3 : Lp := ⟨⟨[], [0, 5, 6, 10, 11, 12], []⟩, sh_I_patched_3, o_I_patched_3, fun d => b_I_patched_3 d.1 d.2.1 d.2.2.1 d.2.2.2.1 d.2.2.2.2.1 d.2.2.2.2.2.1⟩
noncomputable def pl_I_patched : Plan := ⟨[], [(3, lp_I_patched_3)], 0, 0⟩
noncomputable def f_I_patched (t0 : PV S_string) (t1 : PV S_impl_Hunk) : Option (PVs [S_string] × PVs []) :=
  (w_I_patched_3 (t0, ([] : PV S_string), 0, t1, (t1.length : Int), 0, ())).bind fun l2 =>
    bif cutB l2.2.2.1 (l2.1.length : Int) l2.1.length then
      bif roomB (l2.2.1.length + (cutL l2.2.2.1 (l2.1.length : Int) l2.1).length) then
        some (((l2.2.1 ++ (cutL l2.2.2.1 (l2.1.length : Int) l2.1)), ()), ())
      else
        none
    else
      none
noncomputable def ct_I_patched : Ct := ⟨[(.bor, S_string), (.bor, S_impl_Hunk)], [(S_string, true)], fun x => f_I_patched x.1 x.2.1⟩
noncomputable def cx_I_patched : Cx := ⟨tab, arrs, [], [], gl, []⟩
theorem eb_I_patched_3 (t0 : PV S_string) (t5 : PV S_string) (t6 : PV (.int .i64)) (t10 : PV S_impl_Hunk) (t11 : PV (.int .i64)) (t12 : PV (.int .i64)) : denK cx_I_patched (rcN cx_I_patched 0) pl_I_patched 0 ((loopsOf (bodyOf Tryd.f178)).getD 0 .skip) (fillS sh_I_patched_3 (t0, t5, t6, t10, t11, t12, ())) (roundK 0 lp_I_patched_3) = b_I_patched_3 t0 t5 t6 t10 t11 t12 := by kernel_rfl
theorem ef_I_patched (t0 : PV S_string) (t1 : PV S_impl_Hunk) : denF cx_I_patched 0 pl_I_patched Tryd.f178.ntmps (bodyOf Tryd.f178) Tryd.f178.results.toList [(.bor, S_string), (.bor, S_impl_Hunk)] [(S_string, true)] (t0, t1, ()) = f_I_patched t0 t1 := by kernel_rfl
theorem ok_I_patched : FnOk gl Tryd.prog 178 ct_I_patched :=
  fnOk (cx := cx_I_patched) (pl := pl_I_patched) (dp := 0) (ok0_of tabOk (by unfold ArrOk; kernel_rfl) mix trivial trivial) Tryd.func178 (by kernel_rfl) (by kernel_rfl) (by kernel_rfl)
    (by rw [show loopsOf (bodyOf Tryd.f178) = [((loopsOf (bodyOf Tryd.f178)).getD 0 .skip)] from by kernel_rfl]; exact ⟨(by rw [show lookup pl_I_patched.loops (firstId ((loopsOf (bodyOf Tryd.f178)).getD 0 .skip)) = some lp_I_patched_3 from by kernel_rfl]; exact fun d z h => (eb_I_patched_3 d.1 d.2.1 d.2.2.1 d.2.2.2.1 d.2.2.2.2.1 d.2.2.2.2.2.1).trans h), trivial⟩) (fun x => ef_I_patched x.1 x.2.1)
noncomputable def o_I_Patch_2 : List Out := [⟨.normal, ⟨[], [0, 1, 16], []⟩, mkSh 24 [(0, .val S_string .b), (1, .val S_impl_Hunk .b), (16, .val .bool .b)]⟩]
noncomputable def pl_I_Patch : Plan := ⟨[(2, o_I_Patch_2)], [], 0, 0⟩
noncomputable def f_I_Patch (t0 : PV S_string) (t1 : PV S_impl_Hunk) : Option (PVs [S_string, .bool] × PVs []) :=
  ((
      (f_I_goodLines t0).bind fun r6 =>
        bif (!r6.1.1) then
          some (t0, t1, true, ())
        else
          (f_I_goodHunks (t0.length : Int) t1).bind fun r7 =>
            some (t0, t1, (!r7.1.1), ()) : Option ((PV S_string × PV S_impl_Hunk × PV .bool × Unit)))).bind fun j8 =>
    bif j8.2.2.1 then
      some (([], false, ()), ())
    else
      (f_I_patched j8.1 j8.2.1).bind fun r10 =>
        (f_I_goodLines r10.1.1).bind fun r14 =>
          bif (!r14.1.1) then
            some (([], false, ()), ())
          else
            some ((r10.1.1, true, ()), ())
noncomputable def ct_I_Patch : Ct := ⟨[(.bor, S_string), (.bor, S_impl_Hunk)], [(S_string, true), (.bool, false)], fun x => f_I_Patch x.1 x.2.1⟩
noncomputable def cx_I_Patch : Cx := ⟨tab, arrs, [(130, ct_I_goodLines), (177, ct_I_goodHunks), (178, ct_I_patched)], [], gl, []⟩
theorem ef_I_Patch (t0 : PV S_string) (t1 : PV S_impl_Hunk) : denF cx_I_Patch 0 pl_I_Patch Tryd.f136.ntmps (bodyOf Tryd.f136) Tryd.f136.results.toList [(.bor, S_string), (.bor, S_impl_Hunk)] [(S_string, true), (.bool, false)] (t0, t1, ()) = f_I_Patch t0 t1 := by kernel_rfl
theorem ok_I_Patch : FnOk gl Tryd.prog 136 ct_I_Patch :=
  fnOk (cx := cx_I_Patch) (pl := pl_I_Patch) (dp := 0) (ok0_of tabOk (by unfold ArrOk; kernel_rfl) mix ⟨ok_I_goodLines, ok_I_goodHunks, ok_I_patched, trivial⟩ trivial) Tryd.func136 (by kernel_rfl) (by kernel_rfl) (by kernel_rfl)
    (by rw [show loopsOf (bodyOf Tryd.f136) = [] from by kernel_rfl]; exact trivial) (fun x => ef_I_Patch x.1 x.2.1)
noncomputable def pl_I_isWidth : Plan := ⟨[], [], 0, 0⟩
noncomputable def f_I_isWidth (t0 : PV (.int .i64)) : Option (PVs [.bool] × PVs []) :=
  (f_I_in t0 0 20).bind fun r1 =>
    some ((r1.1.1, ()), ())
noncomputable def ct_I_isWidth : Ct := ⟨[(.bor, (.int .i64))], [(.bool, false)], fun x => f_I_isWidth x.1⟩
noncomputable def cx_I_isWidth : Cx := ⟨tab, arrs, [(80, ct_I_in)], [], gl, []⟩
theorem ef_I_isWidth (t0 : PV (.int .i64)) : denF cx_I_isWidth 0 pl_I_isWidth Tryd.f141.ntmps (bodyOf Tryd.f141) Tryd.f141.results.toList [(.bor, (.int .i64))] [(.bool, false)] (t0, ()) = f_I_isWidth t0 := by kernel_rfl
theorem ok_I_isWidth : FnOk gl Tryd.prog 141 ct_I_isWidth :=
  fnOk (cx := cx_I_isWidth) (pl := pl_I_isWidth) (dp := 0) (ok0_of tabOk (by unfold ArrOk; kernel_rfl) mix ⟨ok_I_in, trivial⟩ trivial) Tryd.func141 (by kernel_rfl) (by kernel_rfl) (by kernel_rfl)
    (by rw [show loopsOf (bodyOf Tryd.f141) = [] from by kernel_rfl]; exact trivial) (fun x => ef_I_isWidth x.1)
end R
