/- The functions that L_FnExactReadUnified reach, as pure functions, and that the program computes them. -/
import Derived.Test.YtoaajkedncghgaaGreatDoorL3
import Derived.Test.YtoaajkedncghgaaGreatDoorChecked
import Derived.KernelRfl
open Go Go.Dn Go.Proofs
namespace R
set_option linter.unusedVariables false
@[reducible] def S_string : Ty := (.slice 9 .str)
@[reducible] def S_uint8 : Ty := (.slice 5 (.int .u8))
@[reducible] def S_int : Ty := (.slice 3 (.int .i64))
@[reducible] def Y_impl_Row : Ty := (.pair (.int .i64) (.pair .str .unit))
@[reducible] def S_impl_Row : Ty := (.slice 146 Y_impl_Row)
@[reducible] def Y_impl_Order : Ty := (.pair (.int .i64) (.pair (.int .i64) (.pair (.int .i64) (.pair S_string .unit))))
@[reducible] def S_impl_Order : Ty := (.slice 91 Y_impl_Order)
@[reducible] def Y_impl_Group : Ty := (.pair (.int .i64) (.pair (.int .i64) (.pair S_impl_Row .unit)))
@[reducible] def S_impl_Group : Ty := (.slice 77 Y_impl_Group)
noncomputable def tab : List (TypeId × Ty) := [(3, (.int .i64)), (4, .bool), (5, (.int .u8)), (9, .str), (25, S_int), (31, S_impl_Group), (36, S_impl_Order), (41, S_string), (53, S_uint8), (75, S_impl_Row), (77, Y_impl_Group), (91, Y_impl_Order), (146, Y_impl_Row)]
noncomputable def arrs : List TypeId := []
theorem tabOk : TabOk Tryz.prog tab := by unfold TabOk; kernel_rfl
theorem mix : Tryz.prog.follows .mixedOrders = true := by kernel_rfl
noncomputable def gl : Glob := (Glob.both (tabGlob Tryz.prog 2) (Glob.both (numGlob 1) (Glob.both (errGlob Tryz.prog "strconv.ErrSyntax" 5) (errGlob Tryz.prog "strconv.ErrRange" 6))))
theorem gl_tab : ∀ w, gl.ok w → Lib.TabIs Tryz.prog w "internal/strconv.uint64pow10" .u64 Lib.pow10Tab := fun w h => tabGlob_tab w h.1
theorem gl_max : ∀ w, gl.ok w → ∃ m, w.cell? ⟨1, 0, none⟩ = some (.int .i64 m) := fun w h => h.2.1
theorem gl_syn : ∀ w, gl.ok w → ∃ tp p, w.var? Tryz.prog "strconv.ErrSyntax" = some #[.iface tp p] := fun w h => h.2.2.1.2
theorem gl_rng : ∀ w, gl.ok w → ∃ tp p, w.var? Tryz.prog "strconv.ErrRange" = some #[.iface tp p] := fun w h => h.2.2.2.2
open Go.Shelf
set_option maxRecDepth 20000
def lays_strings_genSplit_ren : Go.Shelf.Ren := ⟨fun | 0 => 0 | 1 => 1 | 2 => 2 | 99 => 268 | 100 => 286 | 101 => 269 | 102 => 229 | 103 => 218 | 104 => 220 | 109 => 158 | 119 => 281 | 129 => 324 | 137 => 222 | 138 => 278 | 143 => 279 | 144 => 247 | 145 => 219 | 152 => 230 | 153 => 157 | 156 => 110 | 165 => 190 | 166 => 191 | 169 => 192 | 171 => 189 | 172 => 284 | 195 => 305 | 197 => 306 | 205 => 331 | 206 => 300 | 207 => 303 | 208 => 301 | 209 => 280 | 210 => 272 | 211 => 274 | 217 => 276 | 218 => 307 | 219 => 302 | 220 => 273 | 221 => 223 | 224 => 282 | 225 => 283 | 226 => 231 | 227 => 232 | 228 => 233 | 240 => 257 | 241 => 258 | 243 => 256 | 244 => 308 | 245 => 309 | 246 => 296 | 247 => 318 | 260 => 317 | 266 => 304 | 267 => 316 | 268 => 277 | 276 => 297 | 277 => 298 | 279 => 319 | 280 => 320 | 281 => 321 | 282 => 322 | 283 => 311 | 284 => 312 | 285 => 313 | 286 => 314 | 287 => 329 | 314 => 328 | 316 => 330 | 317 => 323 | 318 => 325 | 319 => 326 | 320 => 327 | 321 => 334 | 322 => 335 | 337 => 332 | 338 => 333 | 347 => 336 | 348 => 337 | 349 => 338 | 350 => 339 | 351 => 340 | 352 => 341 | 353 => 342 | 354 => 343 | 355 => 344 | 356 => 345 | 357 => 346 | 358 => 347 | 359 => 348 | 360 => 349 | 361 => 350 | 362 => 352 | 363 => 355 | 364 => 353 | 365 => 354 | 366 => 356 | 367 => 368 | n => n, fun | 0 => 0 | 1 => 1 | 2 => 2 | 3 => 3 | 4 => 4 | 5 => 5 | 6 => 6 | 7 => 7 | 8 => 8 | 9 => 9 | 10 => 10 | 11 => 11 | 12 => 12 | 13 => 13 | 14 => 14 | 15 => 15 | 16 => 16 | 17 => 17 | 18 => 18 | 19 => 19 | 20 => 20 | 21 => 21 | 22 => 71 | 23 => 124 | 24 => 56 | 25 => 203 | 27 => 157 | 28 => 25 | 30 => 29 | 31 => 41 | 32 => 158 | 34 => 28 | 36 => 194 | 37 => 53 | 38 => 54 | 40 => 236 | 41 => 215 | 43 => 148 | 46 => 232 | 47 => 268 | 48 => 144 | 51 => 266 | 52 => 280 | 53 => 118 | 54 => 253 | 55 => 206 | 59 => 204 | 60 => 205 | 61 => 153 | 64 => 210 | 67 => 115 | 68 => 74 | 69 => 80 | 70 => 182 | 71 => 183 | 72 => 184 | 73 => 185 | 74 => 186 | 75 => 187 | 76 => 188 | 77 => 189 | 80 => 190 | 81 => 192 | 83 => 147 | 84 => 244 | 85 => 259 | 86 => 260 | 101 => 50 | 102 => 47 | 103 => 234 | 104 => 30 | 105 => 249 | 106 => 250 | 108 => 279 | 111 => 73 | 112 => 72 | 113 => 207 | 114 => 123 | 115 => 211 | 116 => 212 | 117 => 213 | 118 => 214 | 119 => 271 | 124 => 237 | 127 => 230 | 128 => 251 | 131 => 201 | 137 => 272 | 138 => 273 | 139 => 274 | 143 => 282 | 144 => 283 | 145 => 284 | 146 => 269 | 150 => 235 | 151 => 270 | 164 => 245 | 165 => 246 | 166 => 247 | 167 => 258 | 168 => 261 | 169 => 262 | 170 => 263 | 171 => 252 | 172 => 254 | 173 => 255 | 174 => 256 | 175 => 275 | 176 => 276 | 209 => 277 | 210 => 278 | 211 => 264 | 212 => 265 | 213 => 267 | 214 => 281 | 232 => 285 | 233 => 286 | 238 => 287 | 239 => 288 | 240 => 289 | 241 => 290 | 242 => 291 | 243 => 292 | 244 => 293 | 245 => 294 | 246 => 295 | 247 => 296 | 248 => 297 | 249 => 298 | n => n, fun | 1 => 1 | 3 => 3 | 4 => 4 | 15 => 5 | 16 => 6 | 17 => 2 | 18 => 7 | 19 => 8 | n => n⟩
theorem lays_strings_genSplit : Go.Proofs.Lays.n221 Tryz.prog lays_strings_genSplit_ren where
  mixed := by kernel_rfl
  f138 := Tryz.func278.trans (congrArg some (by kernel_rfl))
  f143 := Tryz.func279.trans (congrArg some (by kernel_rfl))
  f195 := Tryz.func305.trans (congrArg some (by kernel_rfl))
  f197 := Tryz.func306.trans (congrArg some (by kernel_rfl))
  f217 := Tryz.func276.trans (congrArg some (by kernel_rfl))
  f218 := Tryz.func307.trans (congrArg some (by kernel_rfl))
  f219 := Tryz.func302.trans (congrArg some (by kernel_rfl))
  f221 := Tryz.func223.trans (congrArg some (by kernel_rfl))
  f224 := Tryz.func282.trans (congrArg some (by kernel_rfl))
  f225 := Tryz.func283.trans (congrArg some (by kernel_rfl))
  f260 := Tryz.func317.trans (congrArg some (by kernel_rfl))
  f266 := Tryz.func304.trans (congrArg some (by kernel_rfl))
  f267 := Tryz.func316.trans (congrArg some (by kernel_rfl))
  f268 := Tryz.func277.trans (congrArg some (by kernel_rfl))
  f314 := Tryz.func328.trans (congrArg some (by kernel_rfl))
  t0 := Tryz.underlying0
  a0 := Tryz.isAgg0
  z0 := Tryz.sizeOf0
  v0 := Tryz.zeroValue0
  t3 := Tryz.underlying3
  a3 := Tryz.isAgg3
  z3 := Tryz.sizeOf3
  v3 := Tryz.zeroValue3
  t4 := Tryz.underlying4
  a4 := Tryz.isAgg4
  z4 := Tryz.sizeOf4
  v4 := Tryz.zeroValue4
  t5 := Tryz.underlying5
  a5 := Tryz.isAgg5
  z5 := Tryz.sizeOf5
  v5 := Tryz.zeroValue5
  t9 := Tryz.underlying9
  a9 := Tryz.isAgg9
  z9 := Tryz.sizeOf9
  v9 := Tryz.zeroValue9
  t21 := Tryz.underlying21
  a21 := Tryz.isAgg21
  z21 := Tryz.sizeOf21
  v21 := Tryz.zeroValue21
  t31 := Tryz.underlying41
  a31 := Tryz.isAgg41
  z31 := Tryz.sizeOf41
  v31 := Tryz.zeroValue41
  t46 := Tryz.underlying232
  a46 := Tryz.isAgg232
  z46 := Tryz.sizeOf232
  v46 := Tryz.zeroValue232
  t51 := Tryz.underlying266
  a51 := Tryz.isAgg266
  z51 := Tryz.sizeOf266
  v51 := Tryz.zeroValue266
  t105 := Tryz.underlying249
  a105 := Tryz.isAgg249
  z105 := Tryz.sizeOf249
  v105 := Tryz.zeroValue249
  t119 := Tryz.underlying271
  a119 := Tryz.isAgg271
  z119 := Tryz.sizeOf271
  t138 := Tryz.underlying273
  a138 := Tryz.isAgg273
  z138 := Tryz.sizeOf273
  v138 := Tryz.zeroValue273
  t139 := Tryz.underlying274
  a139 := Tryz.isAgg274
  z139 := Tryz.sizeOf274
  v139 := Tryz.zeroValue274
  t146 := Tryz.underlying269
  a146 := Tryz.isAgg269
  z146 := Tryz.sizeOf269
  v146 := Tryz.zeroValue269
  g1 := by kernel_rfl
  g3 := by kernel_rfl
  g4 := by kernel_rfl

noncomputable def f_strings_genSplit (t0 : PV .str) (t1 : PV .str) (t2 : PV (.int .i64)) (t3 : PV (.int .i64)) : Option (PVs [S_string] × PVs []) := Go.Dn.splitF 9 t0 t1 t2 t3
noncomputable def ct_strings_genSplit : Ct := ⟨[(.bor, .str), (.bor, .str), (.bor, .int .i64), (.bor, .int .i64)], [(S_string, .row .b)], fun x => f_strings_genSplit x.1 x.2.1 x.2.2.1 x.2.2.2.1⟩
theorem ok_strings_genSplit : FnOk gl Tryz.prog 223 ct_strings_genSplit := Go.Dn.split_ok rfl lays_strings_genSplit (by kernel_rfl)
def lays_strconv_Atoi_ren : Go.Shelf.Ren := ⟨fun | 0 => 0 | 1 => 1 | 2 => 2 | 99 => 268 | 100 => 286 | 101 => 269 | 102 => 229 | 103 => 218 | 104 => 220 | 109 => 158 | 119 => 281 | 129 => 324 | 137 => 222 | 138 => 278 | 143 => 279 | 144 => 247 | 145 => 219 | 152 => 230 | 153 => 157 | 156 => 110 | 165 => 190 | 166 => 191 | 169 => 192 | 171 => 189 | 172 => 284 | 195 => 305 | 197 => 306 | 205 => 331 | 206 => 300 | 207 => 303 | 208 => 301 | 209 => 280 | 210 => 272 | 211 => 274 | 217 => 276 | 218 => 307 | 219 => 302 | 220 => 273 | 221 => 223 | 224 => 282 | 225 => 283 | 226 => 231 | 227 => 232 | 228 => 233 | 240 => 257 | 241 => 258 | 243 => 256 | 244 => 308 | 245 => 309 | 246 => 296 | 247 => 318 | 260 => 317 | 266 => 304 | 267 => 316 | 268 => 277 | 276 => 297 | 277 => 298 | 279 => 319 | 280 => 320 | 281 => 321 | 282 => 322 | 283 => 311 | 284 => 312 | 285 => 313 | 286 => 314 | 287 => 329 | 314 => 328 | 316 => 330 | 317 => 323 | 318 => 325 | 319 => 326 | 320 => 327 | 321 => 334 | 322 => 335 | 337 => 332 | 338 => 333 | 347 => 336 | 348 => 337 | 349 => 338 | 350 => 339 | 351 => 340 | 352 => 341 | 353 => 342 | 354 => 343 | 355 => 344 | 356 => 345 | 357 => 346 | 358 => 347 | 359 => 348 | 360 => 349 | 361 => 350 | 362 => 352 | 363 => 355 | 364 => 353 | 365 => 354 | 366 => 356 | 367 => 368 | n => n, fun | 0 => 0 | 1 => 1 | 2 => 2 | 3 => 3 | 4 => 4 | 5 => 5 | 6 => 6 | 7 => 7 | 8 => 8 | 9 => 9 | 10 => 10 | 11 => 11 | 12 => 12 | 13 => 13 | 14 => 14 | 15 => 15 | 16 => 16 | 17 => 17 | 18 => 18 | 19 => 19 | 20 => 20 | 21 => 21 | 22 => 71 | 23 => 124 | 24 => 56 | 25 => 203 | 27 => 157 | 28 => 25 | 30 => 29 | 31 => 41 | 32 => 158 | 34 => 28 | 36 => 194 | 37 => 53 | 38 => 54 | 40 => 236 | 41 => 215 | 43 => 148 | 46 => 232 | 47 => 268 | 48 => 144 | 51 => 266 | 52 => 280 | 53 => 118 | 54 => 253 | 55 => 206 | 59 => 204 | 60 => 205 | 61 => 153 | 64 => 210 | 67 => 115 | 68 => 74 | 69 => 80 | 70 => 182 | 71 => 183 | 72 => 184 | 73 => 185 | 74 => 186 | 75 => 187 | 76 => 188 | 77 => 189 | 80 => 190 | 81 => 192 | 83 => 147 | 84 => 244 | 85 => 259 | 86 => 260 | 101 => 50 | 102 => 47 | 103 => 234 | 104 => 30 | 105 => 249 | 106 => 250 | 108 => 279 | 111 => 73 | 112 => 72 | 113 => 207 | 114 => 123 | 115 => 211 | 116 => 212 | 117 => 213 | 118 => 214 | 119 => 271 | 124 => 237 | 127 => 230 | 128 => 251 | 131 => 201 | 137 => 272 | 138 => 273 | 139 => 274 | 143 => 282 | 144 => 283 | 145 => 284 | 146 => 269 | 150 => 235 | 151 => 270 | 164 => 245 | 165 => 246 | 166 => 247 | 167 => 258 | 168 => 261 | 169 => 262 | 170 => 263 | 171 => 252 | 172 => 254 | 173 => 255 | 174 => 256 | 175 => 275 | 176 => 276 | 209 => 277 | 210 => 278 | 211 => 264 | 212 => 265 | 213 => 267 | 214 => 281 | 232 => 285 | 233 => 286 | 238 => 287 | 239 => 288 | 240 => 289 | 241 => 290 | 242 => 291 | 243 => 292 | 244 => 293 | 245 => 294 | 246 => 295 | 247 => 296 | 248 => 297 | 249 => 298 | n => n, fun | 1 => 1 | 3 => 3 | 4 => 4 | 15 => 5 | 16 => 6 | 17 => 2 | 18 => 7 | 19 => 8 | n => n⟩
theorem lays_strconv_Atoi : Go.Proofs.LaysC.n172 Tryz.prog lays_strconv_Atoi_ren where
  mixed := by kernel_rfl
  f129 := Tryz.func324.trans (congrArg some (by kernel_rfl))
  f171 := Tryz.func189.trans (congrArg some (by kernel_rfl))
  f172 := Tryz.func284.trans (congrArg some (by kernel_rfl))
  f205 := Tryz.func331.trans (congrArg some (by kernel_rfl))
  f243 := Tryz.func256.trans (congrArg some (by kernel_rfl))
  f244 := Tryz.func308.trans (congrArg some (by kernel_rfl))
  f245 := Tryz.func309.trans (congrArg some (by kernel_rfl))
  f246 := Tryz.func296.trans (congrArg some (by kernel_rfl))
  f247 := Tryz.func318.trans (congrArg some (by kernel_rfl))
  f279 := Tryz.func319.trans (congrArg some (by kernel_rfl))
  f280 := Tryz.func320.trans (congrArg some (by kernel_rfl))
  f281 := Tryz.func321.trans (congrArg some (by kernel_rfl))
  f282 := Tryz.func322.trans (congrArg some (by kernel_rfl))
  f283 := Tryz.func311.trans (congrArg some (by kernel_rfl))
  f284 := Tryz.func312.trans (congrArg some (by kernel_rfl))
  f285 := Tryz.func313.trans (congrArg some (by kernel_rfl))
  f286 := Tryz.func314.trans (congrArg some (by kernel_rfl))
  f287 := Tryz.func329.trans (congrArg some (by kernel_rfl))
  f316 := Tryz.func330.trans (congrArg some (by kernel_rfl))
  f317 := Tryz.func323.trans (congrArg some (by kernel_rfl))
  f318 := Tryz.func325.trans (congrArg some (by kernel_rfl))
  f319 := Tryz.func326.trans (congrArg some (by kernel_rfl))
  f320 := Tryz.func327.trans (congrArg some (by kernel_rfl))
  f321 := Tryz.func334.trans (congrArg some (by kernel_rfl))
  f322 := Tryz.func335.trans (congrArg some (by kernel_rfl))
  f337 := Tryz.func332.trans (congrArg some (by kernel_rfl))
  f338 := Tryz.func333.trans (congrArg some (by kernel_rfl))
  t0 := Tryz.underlying0
  a0 := Tryz.isAgg0
  z0 := Tryz.sizeOf0
  v0 := Tryz.zeroValue0
  t2 := Tryz.underlying2
  a2 := Tryz.isAgg2
  z2 := Tryz.sizeOf2
  v2 := Tryz.zeroValue2
  t3 := Tryz.underlying3
  a3 := Tryz.isAgg3
  z3 := Tryz.sizeOf3
  v3 := Tryz.zeroValue3
  t4 := Tryz.underlying4
  a4 := Tryz.isAgg4
  z4 := Tryz.sizeOf4
  v4 := Tryz.zeroValue4
  t5 := Tryz.underlying5
  a5 := Tryz.isAgg5
  z5 := Tryz.sizeOf5
  v5 := Tryz.zeroValue5
  t9 := Tryz.underlying9
  a9 := Tryz.isAgg9
  z9 := Tryz.sizeOf9
  v9 := Tryz.zeroValue9
  t20 := Tryz.underlying20
  a20 := Tryz.isAgg20
  z20 := Tryz.sizeOf20
  v20 := Tryz.zeroValue20
  t21 := Tryz.underlying21
  a21 := Tryz.isAgg21
  z21 := Tryz.sizeOf21
  v21 := Tryz.zeroValue21
  t37 := Tryz.underlying53
  a37 := Tryz.isAgg53
  z37 := Tryz.sizeOf53
  v37 := Tryz.zeroValue53
  t46 := Tryz.underlying232
  a46 := Tryz.isAgg232
  z46 := Tryz.sizeOf232
  v46 := Tryz.zeroValue232
  t51 := Tryz.underlying266
  a51 := Tryz.isAgg266
  z51 := Tryz.sizeOf266
  v51 := Tryz.zeroValue266
  t53 := Tryz.underlying118
  a53 := Tryz.isAgg118
  z53 := Tryz.sizeOf118
  v53 := Tryz.zeroValue118
  t75 := Tryz.underlying187
  a75 := Tryz.isAgg187
  z75 := Tryz.sizeOf187
  v75 := Tryz.zeroValue187
  t76 := Tryz.underlying188
  a76 := Tryz.isAgg188
  z76 := Tryz.sizeOf188
  v76 := Tryz.zeroValue188
  t85 := Tryz.underlying259
  a85 := Tryz.isAgg259
  z85 := Tryz.sizeOf259
  v85 := Tryz.zeroValue259
  t127 := Tryz.underlying230
  a127 := Tryz.isAgg230
  z127 := Tryz.sizeOf230
  v127 := Tryz.zeroValue230
  t143 := Tryz.underlying282
  a143 := Tryz.isAgg282
  z143 := Tryz.sizeOf282
  v143 := Tryz.zeroValue282
  t145 := Tryz.underlying284
  a145 := Tryz.isAgg284
  z145 := Tryz.sizeOf284
  v145 := Tryz.zeroValue284
  t167 := Tryz.underlying258
  a167 := Tryz.isAgg258
  z167 := Tryz.sizeOf258
  v167 := Tryz.zeroValue258
  t168 := Tryz.underlying261
  a168 := Tryz.isAgg261
  z168 := Tryz.sizeOf261
  v168 := Tryz.zeroValue261
  t171 := Tryz.underlying252
  a171 := Tryz.isAgg252
  z171 := Tryz.sizeOf252
  v171 := Tryz.zeroValue252
  t173 := Tryz.underlying255
  a173 := Tryz.isAgg255
  z173 := Tryz.sizeOf255
  v173 := Tryz.zeroValue255
  t175 := Tryz.underlying275
  a175 := Tryz.isAgg275
  z175 := Tryz.sizeOf275
  v175 := Tryz.zeroValue275
  t210 := Tryz.underlying278
  a210 := Tryz.isAgg278
  z210 := Tryz.sizeOf278
  v210 := Tryz.zeroValue278
  t212 := Tryz.underlying265
  a212 := Tryz.isAgg265
  z212 := Tryz.sizeOf265
  v212 := Tryz.zeroValue265
  t213 := Tryz.underlying267
  a213 := Tryz.isAgg267
  z213 := Tryz.sizeOf267
  t232 := Tryz.underlying285
  a232 := Tryz.isAgg285
  z232 := Tryz.sizeOf285
  v232 := Tryz.zeroValue285
  t233 := Tryz.underlying286
  a233 := Tryz.isAgg286
  z233 := Tryz.sizeOf286
  v233 := Tryz.zeroValue286
  g15 := by kernel_rfl
  g16 := by kernel_rfl
  g17 := by kernel_rfl
  g18 := by kernel_rfl
  g19 := by kernel_rfl
  t80 := Tryz.underlying190
  a80 := Tryz.isAgg190
  z80 := Tryz.sizeOf190
  v80 := Tryz.zeroValue190
  i0 := by kernel_rfl
  i2 := by kernel_rfl
  i3 := by kernel_rfl
  i4 := by kernel_rfl
  i5 := by kernel_rfl
  i9 := by kernel_rfl
  i20 := by kernel_rfl
  i21 := by kernel_rfl
  i37 := by kernel_rfl
  i46 := by kernel_rfl
  i51 := by kernel_rfl
  i53 := by kernel_rfl
  i75 := by kernel_rfl
  i76 := by kernel_rfl
  i80 := by kernel_rfl
  i85 := by kernel_rfl
  i127 := by kernel_rfl
  i143 := by kernel_rfl
  i145 := by kernel_rfl
  i167 := by kernel_rfl
  i168 := by kernel_rfl
  i171 := by kernel_rfl
  i173 := by kernel_rfl
  i175 := by kernel_rfl
  i210 := by kernel_rfl
  i212 := by kernel_rfl
  i232 := by kernel_rfl
  i233 := by kernel_rfl
  m15 := by kernel_rfl
  m16 := by kernel_rfl
  m17 := by kernel_rfl
  m18 := by kernel_rfl
  m19 := by kernel_rfl
  c0 := by kernel_rfl
  c2 := by kernel_rfl
  c3 := by kernel_rfl
  c4 := by kernel_rfl
  c5 := by kernel_rfl
  c9 := by kernel_rfl
  c20 := by kernel_rfl
  c21 := by kernel_rfl
  c37 := by kernel_rfl
  c46 := by kernel_rfl
  c51 := by kernel_rfl
  c53 := by kernel_rfl
  c75 := by kernel_rfl
  c76 := by kernel_rfl
  c80 := by kernel_rfl
  c85 := by kernel_rfl
  c127 := by kernel_rfl
  c143 := by kernel_rfl
  c145 := by kernel_rfl
  c167 := by kernel_rfl
  c168 := by kernel_rfl
  c171 := by kernel_rfl
  c173 := by kernel_rfl
  c175 := by kernel_rfl
  c210 := by kernel_rfl
  c212 := by kernel_rfl
  c213 := by kernel_rfl
  c232 := by kernel_rfl
  c233 := by kernel_rfl
def lays_num_Itoa_ren : Go.Shelf.Ren := ⟨fun | 0 => 0 | 1 => 1 | 2 => 2 | 99 => 268 | 100 => 286 | 101 => 269 | 102 => 229 | 103 => 218 | 104 => 220 | 109 => 158 | 119 => 281 | 129 => 324 | 137 => 222 | 138 => 278 | 143 => 279 | 144 => 247 | 145 => 219 | 152 => 230 | 153 => 157 | 156 => 110 | 165 => 190 | 166 => 191 | 169 => 192 | 171 => 189 | 172 => 284 | 195 => 305 | 197 => 306 | 205 => 331 | 206 => 300 | 207 => 303 | 208 => 301 | 209 => 280 | 210 => 272 | 211 => 274 | 217 => 276 | 218 => 307 | 219 => 302 | 220 => 273 | 221 => 223 | 224 => 282 | 225 => 283 | 226 => 231 | 227 => 232 | 228 => 233 | 240 => 257 | 241 => 258 | 243 => 256 | 244 => 308 | 245 => 309 | 246 => 296 | 247 => 318 | 260 => 317 | 266 => 304 | 267 => 316 | 268 => 277 | 276 => 297 | 277 => 298 | 279 => 319 | 280 => 320 | 281 => 321 | 282 => 322 | 283 => 311 | 284 => 312 | 285 => 313 | 286 => 314 | 287 => 329 | 314 => 328 | 316 => 330 | 317 => 323 | 318 => 325 | 319 => 326 | 320 => 327 | 321 => 334 | 322 => 335 | 337 => 332 | 338 => 333 | 347 => 336 | 348 => 337 | 349 => 338 | 350 => 339 | 351 => 340 | 352 => 341 | 353 => 342 | 354 => 343 | 355 => 344 | 356 => 345 | 357 => 346 | 358 => 347 | 359 => 348 | 360 => 349 | 361 => 350 | 362 => 352 | 363 => 355 | 364 => 353 | 365 => 354 | 366 => 356 | 367 => 368 | n => n, fun | 0 => 0 | 1 => 1 | 2 => 2 | 3 => 3 | 4 => 4 | 5 => 5 | 6 => 6 | 7 => 7 | 8 => 8 | 9 => 9 | 10 => 10 | 11 => 11 | 12 => 12 | 13 => 13 | 14 => 14 | 15 => 15 | 16 => 16 | 17 => 17 | 18 => 18 | 19 => 19 | 20 => 20 | 21 => 21 | 22 => 71 | 23 => 124 | 24 => 56 | 25 => 203 | 27 => 157 | 28 => 25 | 30 => 29 | 31 => 41 | 32 => 158 | 34 => 28 | 36 => 194 | 37 => 53 | 38 => 54 | 40 => 236 | 41 => 215 | 43 => 148 | 46 => 232 | 47 => 268 | 48 => 144 | 51 => 266 | 52 => 280 | 53 => 118 | 54 => 253 | 55 => 206 | 59 => 204 | 60 => 205 | 61 => 153 | 64 => 210 | 67 => 115 | 68 => 74 | 69 => 80 | 70 => 182 | 71 => 183 | 72 => 184 | 73 => 185 | 74 => 186 | 75 => 187 | 76 => 188 | 77 => 189 | 80 => 190 | 81 => 192 | 83 => 147 | 84 => 244 | 85 => 259 | 86 => 260 | 101 => 50 | 102 => 47 | 103 => 234 | 104 => 30 | 105 => 249 | 106 => 250 | 108 => 279 | 111 => 73 | 112 => 72 | 113 => 207 | 114 => 123 | 115 => 211 | 116 => 212 | 117 => 213 | 118 => 214 | 119 => 271 | 124 => 237 | 127 => 230 | 128 => 251 | 131 => 201 | 137 => 272 | 138 => 273 | 139 => 274 | 143 => 282 | 144 => 283 | 145 => 284 | 146 => 269 | 150 => 235 | 151 => 270 | 164 => 245 | 165 => 246 | 166 => 247 | 167 => 258 | 168 => 261 | 169 => 262 | 170 => 263 | 171 => 252 | 172 => 254 | 173 => 255 | 174 => 256 | 175 => 275 | 176 => 276 | 209 => 277 | 210 => 278 | 211 => 264 | 212 => 265 | 213 => 267 | 214 => 281 | 232 => 285 | 233 => 286 | 238 => 287 | 239 => 288 | 240 => 289 | 241 => 290 | 242 => 291 | 243 => 292 | 244 => 293 | 245 => 294 | 246 => 295 | 247 => 296 | 248 => 297 | 249 => 298 | n => n, fun | 1 => 1 | 3 => 3 | 4 => 4 | 15 => 5 | 16 => 6 | 17 => 2 | 18 => 7 | 19 => 8 | n => n⟩
theorem lays_num_Itoa : Go.Proofs.LaysM.n171 Tryz.prog lays_num_Itoa_ren where
  mixed := by kernel_rfl
  f129 := Tryz.func324.trans (congrArg some (by kernel_rfl))
  f171 := Tryz.func189.trans (congrArg some (by kernel_rfl))
  f243 := Tryz.func256.trans (congrArg some (by kernel_rfl))
  f246 := Tryz.func296.trans (congrArg some (by kernel_rfl))
  f283 := Tryz.func311.trans (congrArg some (by kernel_rfl))
  f284 := Tryz.func312.trans (congrArg some (by kernel_rfl))
  f285 := Tryz.func313.trans (congrArg some (by kernel_rfl))
  f286 := Tryz.func314.trans (congrArg some (by kernel_rfl))
  f317 := Tryz.func323.trans (congrArg some (by kernel_rfl))
  f318 := Tryz.func325.trans (congrArg some (by kernel_rfl))
  f319 := Tryz.func326.trans (congrArg some (by kernel_rfl))
  f320 := Tryz.func327.trans (congrArg some (by kernel_rfl))
  f337 := Tryz.func332.trans (congrArg some (by kernel_rfl))
  f338 := Tryz.func333.trans (congrArg some (by kernel_rfl))
  t0 := Tryz.underlying0
  a0 := Tryz.isAgg0
  z0 := Tryz.sizeOf0
  v0 := Tryz.zeroValue0
  t2 := Tryz.underlying2
  a2 := Tryz.isAgg2
  z2 := Tryz.sizeOf2
  v2 := Tryz.zeroValue2
  t3 := Tryz.underlying3
  a3 := Tryz.isAgg3
  z3 := Tryz.sizeOf3
  v3 := Tryz.zeroValue3
  t4 := Tryz.underlying4
  a4 := Tryz.isAgg4
  z4 := Tryz.sizeOf4
  v4 := Tryz.zeroValue4
  t5 := Tryz.underlying5
  a5 := Tryz.isAgg5
  z5 := Tryz.sizeOf5
  v5 := Tryz.zeroValue5
  t9 := Tryz.underlying9
  a9 := Tryz.isAgg9
  z9 := Tryz.sizeOf9
  v9 := Tryz.zeroValue9
  t20 := Tryz.underlying20
  a20 := Tryz.isAgg20
  z20 := Tryz.sizeOf20
  v20 := Tryz.zeroValue20
  t37 := Tryz.underlying53
  a37 := Tryz.isAgg53
  z37 := Tryz.sizeOf53
  v37 := Tryz.zeroValue53
  t46 := Tryz.underlying232
  a46 := Tryz.isAgg232
  z46 := Tryz.sizeOf232
  v46 := Tryz.zeroValue232
  t51 := Tryz.underlying266
  a51 := Tryz.isAgg266
  z51 := Tryz.sizeOf266
  v51 := Tryz.zeroValue266
  t53 := Tryz.underlying118
  a53 := Tryz.isAgg118
  z53 := Tryz.sizeOf118
  v53 := Tryz.zeroValue118
  t171 := Tryz.underlying252
  a171 := Tryz.isAgg252
  z171 := Tryz.sizeOf252
  v171 := Tryz.zeroValue252
  t173 := Tryz.underlying255
  a173 := Tryz.isAgg255
  z173 := Tryz.sizeOf255
  v173 := Tryz.zeroValue255
  t212 := Tryz.underlying265
  a212 := Tryz.isAgg265
  z212 := Tryz.sizeOf265
  v212 := Tryz.zeroValue265
  t213 := Tryz.underlying267
  a213 := Tryz.isAgg267
  z213 := Tryz.sizeOf267
  t232 := Tryz.underlying285
  a232 := Tryz.isAgg285
  z232 := Tryz.sizeOf285
  v232 := Tryz.zeroValue285
  t233 := Tryz.underlying286
  a233 := Tryz.isAgg286
  z233 := Tryz.sizeOf286
  v233 := Tryz.zeroValue286
  g17 := by kernel_rfl
  g18 := by kernel_rfl
  g19 := by kernel_rfl
  i0 := by kernel_rfl
  i2 := by kernel_rfl
  i3 := by kernel_rfl
  i4 := by kernel_rfl
  i5 := by kernel_rfl
  i9 := by kernel_rfl
  i20 := by kernel_rfl
  i37 := by kernel_rfl
  i46 := by kernel_rfl
  i51 := by kernel_rfl
  i53 := by kernel_rfl
  i171 := by kernel_rfl
  i173 := by kernel_rfl
  i212 := by kernel_rfl
  i232 := by kernel_rfl
  i233 := by kernel_rfl
  m17 := by kernel_rfl
  m18 := by kernel_rfl
  m19 := by kernel_rfl
section
open Go.RowKit Go.Lib
theorem num_itoa (n : Int) (h1 : -9223372036854775808 ≤ n) (h2 : n ≤ 9223372036854775807) (w : World) (hT : Lib.TabIs Tryz.prog w "internal/strconv.uint64pow10" .u64 Lib.pow10Tab) :
    Calls Tryz.prog 189 #[.int .i64 n] w fun e w' => e = .returned (.string ⟨(Lib.itoa n).toArray⟩) ∧ Below w.heap.size w w' :=
  (Any.strconv_Itoa lays_num_Itoa n h1 h2 w hT).mono fun e w' ⟨e1, k, os, e2⟩ => ⟨e1, by
    subst e2
    exact ⟨rfl, rfl, rfl, by show w.heap.size ≤ (w.heap ++ os).size; simp, fun b hb => by show (w.heap ++ os)[b]? = _; rw [Array.getElem?_append_left hb]⟩⟩

set_option maxHeartbeats 1000000 in
set_option maxRecDepth 100000 in
theorem num_ok (s : ByteArray) (v : Int) (h : Lib.atoiAll s.data.toList = .ok v) (hs : s.size ≤ 1000000) (w : World) (hT : Lib.TabIs Tryz.prog w "internal/strconv.uint64pow10" .u64 Lib.pow10Tab) :
    Calls Tryz.prog 234 #[.string s] w fun e w' => e = .returned (.tuple #[.int .i64 v, .bool (decide (0 ≤ v) && (decide (s.size ≤ 4) && (Lib.itoa v == s.data.toList)))]) ∧ Below w.heap.size w w' := by
  obtain ⟨b1, b2⟩ := Go.Dn.atoi_bound h
  have hA : Calls Tryz.prog 284 #[.string s] w fun e w' => e = .returned (.tuple #[.int .i64 v, .nilIface]) ∧ Below w.heap.size w w' :=
    (Any.strconv_Atoi_ok lays_strconv_Atoi s (by omega) v h w).mono fun e w' ⟨e1, e2⟩ => ⟨e1, by
      rcases e2 with rfl | ⟨t, rfl⟩
      · exact Below.refl _ _
      · exact Lib.bytesWorld_below _ _ _⟩
  by_cases h0 : 0 ≤ v
  · by_cases h4 : s.size ≤ 4
    · rw [decide_eq_true h0, decide_eq_true h4]
      have h4' : (s.size : Int) ≤ 4 := by omega
      go_enter Tryz.func234, Tryz.ntmps234
      go_wp2_with (go_at_fn 284; go_fit hA; rintro e w' ⟨rfl, hb⟩)
      refine hA.mono ?_
      rintro e w1 ⟨rfl, hb⟩
      go_wp2_with (go_at_fn 189; go_fit hA; rintro e w' ⟨rfl, hb⟩)
      refine (num_itoa v b1 b2 w1 (Go.Dn.tab_below hT hb)).mono ?_
      rintro e w2 ⟨rfl, hb2⟩
      go_wp2
      go_ret2
      refine ⟨?_, hb.trans (hb2.mono hb.size)⟩
      simp [Lib.toList_data]
    · rw [decide_eq_true h0, decide_eq_false h4]
      have h4' : ¬ (s.size : Int) ≤ 4 := by omega
      go_enter Tryz.func234, Tryz.ntmps234
      go_wp2_with (go_at_fn 284; go_fit hA; rintro e w' ⟨rfl, hb⟩)
      refine hA.mono ?_
      rintro e w1 ⟨rfl, hb⟩
      go_wp2
      go_ret2
      exact ⟨rfl, hb⟩
  · rw [decide_eq_false h0]
    go_enter Tryz.func234, Tryz.ntmps234
    go_wp2_with (go_at_fn 284; go_fit hA; rintro e w' ⟨rfl, hb⟩)
    refine hA.mono ?_
    rintro e w1 ⟨rfl, hb⟩
    go_wp2
    go_ret2
    exact ⟨rfl, hb⟩

set_option maxHeartbeats 1000000 in
set_option maxRecDepth 100000 in
theorem num_no (s : ByteArray) (x : Int) (tp : TypeId) (w : World) (hA : Calls Tryz.prog 284 #[.string s] w fun e w' => ∃ N, e = .returned (.tuple #[.int .i64 x, .iface tp (.pointer (some ⟨N, 0, none⟩))]) ∧ Below w.heap.size w w') :
    Calls Tryz.prog 234 #[.string s] w fun e w' => e = .returned (.tuple #[.int .i64 x, .bool false]) ∧ Below w.heap.size w w' := by
  go_enter Tryz.func234, Tryz.ntmps234
  go_wp2_with (go_at_fn 284; go_fit hA; rintro e w' ⟨rfl, hb⟩)
  refine hA.mono ?_
  rintro e w1 ⟨N, rfl, hb⟩
  go_wp2
  go_ret2
  exact ⟨rfl, hb⟩

theorem num_any (s : ByteArray) (w : World) (hs : s.size ≤ 1000000) (hT : Lib.TabIs Tryz.prog w "internal/strconv.uint64pow10" .u64 Lib.pow10Tab) (h1 : ∃ tp p, w.var? Tryz.prog "strconv.ErrSyntax" = some #[.iface tp p]) (h2 : ∃ tp p, w.var? Tryz.prog "strconv.ErrRange" = some #[.iface tp p]) :
    Calls Tryz.prog 234 #[.string s] w fun e w' => e = .returned (.tuple #[.int .i64 (Go.Dn.numV s.data.toList), .bool (Go.Dn.numB s.data.toList)]) ∧ Below w.heap.size w w' := by
  unfold Go.Dn.numV Go.Dn.numB
  rcases h : Lib.atoiAll s.data.toList with v | _ | _
  · exact num_ok s v h hs w hT
  · obtain ⟨tp, p, hv⟩ := h1
    exact num_no s 0 _ w ((Any.strconv_Atoi_syntax_var lays_strconv_Atoi s (by omega) h tp p w hv).mono fun e w' ⟨N, e1, _, _, hb⟩ => ⟨N, e1, hb⟩)
  · obtain ⟨tp, p, hv⟩ := h2
    exact num_no s _ _ w ((Any.strconv_Atoi_range_var lays_strconv_Atoi s (by omega) h tp p w hv).mono fun e w' ⟨N, e1, _, _, hb⟩ => ⟨N, e1, hb⟩)
end

noncomputable def f_I_readNumber (t0 : PV .str) : Option (PVs [.int .i64, .bool] × PVs []) := Go.Dn.numF t0
noncomputable def ct_I_readNumber : Ct := ⟨[(.bor, .str)], [(.int .i64, .b), (.bool, .b)], fun x => f_I_readNumber x.1⟩
theorem ok_I_readNumber : FnOk gl Tryz.prog 234 ct_I_readNumber := Go.Dn.fnOk_number ⟨_, Tryz.func234, rfl, by kernel_rfl⟩ fun s w hs hg => num_any s w hs (gl_tab w hg) (gl_syn w hg) (gl_rng w hg)
def lays_strings_Contains_ren : Go.Shelf.Ren := ⟨fun | 0 => 0 | 1 => 1 | 2 => 2 | 99 => 268 | 100 => 286 | 101 => 269 | 102 => 229 | 103 => 218 | 104 => 220 | 109 => 158 | 119 => 281 | 129 => 324 | 137 => 222 | 138 => 278 | 143 => 279 | 144 => 247 | 145 => 219 | 152 => 230 | 153 => 157 | 156 => 110 | 165 => 190 | 166 => 191 | 169 => 192 | 171 => 189 | 172 => 284 | 195 => 305 | 197 => 306 | 205 => 331 | 206 => 300 | 207 => 303 | 208 => 301 | 209 => 280 | 210 => 272 | 211 => 274 | 217 => 276 | 218 => 307 | 219 => 302 | 220 => 273 | 221 => 223 | 224 => 282 | 225 => 283 | 226 => 231 | 227 => 232 | 228 => 233 | 240 => 257 | 241 => 258 | 243 => 256 | 244 => 308 | 245 => 309 | 246 => 296 | 247 => 318 | 260 => 317 | 266 => 304 | 267 => 316 | 268 => 277 | 276 => 297 | 277 => 298 | 279 => 319 | 280 => 320 | 281 => 321 | 282 => 322 | 283 => 311 | 284 => 312 | 285 => 313 | 286 => 314 | 287 => 329 | 314 => 328 | 316 => 330 | 317 => 323 | 318 => 325 | 319 => 326 | 320 => 327 | 321 => 334 | 322 => 335 | 337 => 332 | 338 => 333 | 347 => 336 | 348 => 337 | 349 => 338 | 350 => 339 | 351 => 340 | 352 => 341 | 353 => 342 | 354 => 343 | 355 => 344 | 356 => 345 | 357 => 346 | 358 => 347 | 359 => 348 | 360 => 349 | 361 => 350 | 362 => 352 | 363 => 355 | 364 => 353 | 365 => 354 | 366 => 356 | 367 => 368 | n => n, fun | 0 => 0 | 1 => 1 | 2 => 2 | 3 => 3 | 4 => 4 | 5 => 5 | 6 => 6 | 7 => 7 | 8 => 8 | 9 => 9 | 10 => 10 | 11 => 11 | 12 => 12 | 13 => 13 | 14 => 14 | 15 => 15 | 16 => 16 | 17 => 17 | 18 => 18 | 19 => 19 | 20 => 20 | 21 => 21 | 22 => 71 | 23 => 124 | 24 => 56 | 25 => 203 | 27 => 157 | 28 => 25 | 30 => 29 | 31 => 41 | 32 => 158 | 34 => 28 | 36 => 194 | 37 => 53 | 38 => 54 | 40 => 236 | 41 => 215 | 43 => 148 | 46 => 232 | 47 => 268 | 48 => 144 | 51 => 266 | 52 => 280 | 53 => 118 | 54 => 253 | 55 => 206 | 59 => 204 | 60 => 205 | 61 => 153 | 64 => 210 | 67 => 115 | 68 => 74 | 69 => 80 | 70 => 182 | 71 => 183 | 72 => 184 | 73 => 185 | 74 => 186 | 75 => 187 | 76 => 188 | 77 => 189 | 80 => 190 | 81 => 192 | 83 => 147 | 84 => 244 | 85 => 259 | 86 => 260 | 101 => 50 | 102 => 47 | 103 => 234 | 104 => 30 | 105 => 249 | 106 => 250 | 108 => 279 | 111 => 73 | 112 => 72 | 113 => 207 | 114 => 123 | 115 => 211 | 116 => 212 | 117 => 213 | 118 => 214 | 119 => 271 | 124 => 237 | 127 => 230 | 128 => 251 | 131 => 201 | 137 => 272 | 138 => 273 | 139 => 274 | 143 => 282 | 144 => 283 | 145 => 284 | 146 => 269 | 150 => 235 | 151 => 270 | 164 => 245 | 165 => 246 | 166 => 247 | 167 => 258 | 168 => 261 | 169 => 262 | 170 => 263 | 171 => 252 | 172 => 254 | 173 => 255 | 174 => 256 | 175 => 275 | 176 => 276 | 209 => 277 | 210 => 278 | 211 => 264 | 212 => 265 | 213 => 267 | 214 => 281 | 232 => 285 | 233 => 286 | 238 => 287 | 239 => 288 | 240 => 289 | 241 => 290 | 242 => 291 | 243 => 292 | 244 => 293 | 245 => 294 | 246 => 295 | 247 => 296 | 248 => 297 | 249 => 298 | n => n, fun | 1 => 1 | 3 => 3 | 4 => 4 | 15 => 5 | 16 => 6 | 17 => 2 | 18 => 7 | 19 => 8 | n => n⟩
theorem lays_strings_Contains : Go.Proofs.Lays.n144 Tryz.prog lays_strings_Contains_ren where
  mixed := by kernel_rfl
  f143 := Tryz.func279.trans (congrArg some (by kernel_rfl))
  f144 := Tryz.func247.trans (congrArg some (by kernel_rfl))
  f217 := Tryz.func276.trans (congrArg some (by kernel_rfl))
  f219 := Tryz.func302.trans (congrArg some (by kernel_rfl))
  f224 := Tryz.func282.trans (congrArg some (by kernel_rfl))
  f225 := Tryz.func283.trans (congrArg some (by kernel_rfl))
  f266 := Tryz.func304.trans (congrArg some (by kernel_rfl))
  f267 := Tryz.func316.trans (congrArg some (by kernel_rfl))
  f314 := Tryz.func328.trans (congrArg some (by kernel_rfl))
  t3 := Tryz.underlying3
  a3 := Tryz.isAgg3
  z3 := Tryz.sizeOf3
  v3 := Tryz.zeroValue3
  t4 := Tryz.underlying4
  a4 := Tryz.isAgg4
  z4 := Tryz.sizeOf4
  v4 := Tryz.zeroValue4
  t5 := Tryz.underlying5
  a5 := Tryz.isAgg5
  z5 := Tryz.sizeOf5
  v5 := Tryz.zeroValue5
  t9 := Tryz.underlying9
  a9 := Tryz.isAgg9
  z9 := Tryz.sizeOf9
  v9 := Tryz.zeroValue9
  t46 := Tryz.underlying232
  a46 := Tryz.isAgg232
  z46 := Tryz.sizeOf232
  v46 := Tryz.zeroValue232
  t51 := Tryz.underlying266
  a51 := Tryz.isAgg266
  z51 := Tryz.sizeOf266
  v51 := Tryz.zeroValue266
  t146 := Tryz.underlying269
  a146 := Tryz.isAgg269
  z146 := Tryz.sizeOf269
  v146 := Tryz.zeroValue269
  g1 := by kernel_rfl
noncomputable def f_strings_Contains (t0 : PV .str) (t1 : PV .str) : Option (PVs [.bool] × PVs []) := Go.Dn.containsF t0 t1
noncomputable def ct_strings_Contains : Ct := ⟨[(.bor, .str), (.bor, .str)], [(.bool, .b)], fun x => f_strings_Contains x.1 x.2.1⟩
theorem ok_strings_Contains : FnOk gl Tryz.prog 247 ct_strings_Contains := Go.Dn.contains_ok  lays_strings_Contains
def lays_internal_stringslite_IndexByte_ren : Go.Shelf.Ren := ⟨fun | 0 => 0 | 1 => 1 | 2 => 2 | 99 => 268 | 100 => 286 | 101 => 269 | 102 => 229 | 103 => 218 | 104 => 220 | 109 => 158 | 119 => 281 | 129 => 324 | 137 => 222 | 138 => 278 | 143 => 279 | 144 => 247 | 145 => 219 | 152 => 230 | 153 => 157 | 156 => 110 | 165 => 190 | 166 => 191 | 169 => 192 | 171 => 189 | 172 => 284 | 195 => 305 | 197 => 306 | 205 => 331 | 206 => 300 | 207 => 303 | 208 => 301 | 209 => 280 | 210 => 272 | 211 => 274 | 217 => 276 | 218 => 307 | 219 => 302 | 220 => 273 | 221 => 223 | 224 => 282 | 225 => 283 | 226 => 231 | 227 => 232 | 228 => 233 | 240 => 257 | 241 => 258 | 243 => 256 | 244 => 308 | 245 => 309 | 246 => 296 | 247 => 318 | 260 => 317 | 266 => 304 | 267 => 316 | 268 => 277 | 276 => 297 | 277 => 298 | 279 => 319 | 280 => 320 | 281 => 321 | 282 => 322 | 283 => 311 | 284 => 312 | 285 => 313 | 286 => 314 | 287 => 329 | 314 => 328 | 316 => 330 | 317 => 323 | 318 => 325 | 319 => 326 | 320 => 327 | 321 => 334 | 322 => 335 | 337 => 332 | 338 => 333 | 347 => 336 | 348 => 337 | 349 => 338 | 350 => 339 | 351 => 340 | 352 => 341 | 353 => 342 | 354 => 343 | 355 => 344 | 356 => 345 | 357 => 346 | 358 => 347 | 359 => 348 | 360 => 349 | 361 => 350 | 362 => 352 | 363 => 355 | 364 => 353 | 365 => 354 | 366 => 356 | 367 => 368 | n => n, fun | 0 => 0 | 1 => 1 | 2 => 2 | 3 => 3 | 4 => 4 | 5 => 5 | 6 => 6 | 7 => 7 | 8 => 8 | 9 => 9 | 10 => 10 | 11 => 11 | 12 => 12 | 13 => 13 | 14 => 14 | 15 => 15 | 16 => 16 | 17 => 17 | 18 => 18 | 19 => 19 | 20 => 20 | 21 => 21 | 22 => 71 | 23 => 124 | 24 => 56 | 25 => 203 | 27 => 157 | 28 => 25 | 30 => 29 | 31 => 41 | 32 => 158 | 34 => 28 | 36 => 194 | 37 => 53 | 38 => 54 | 40 => 236 | 41 => 215 | 43 => 148 | 46 => 232 | 47 => 268 | 48 => 144 | 51 => 266 | 52 => 280 | 53 => 118 | 54 => 253 | 55 => 206 | 59 => 204 | 60 => 205 | 61 => 153 | 64 => 210 | 67 => 115 | 68 => 74 | 69 => 80 | 70 => 182 | 71 => 183 | 72 => 184 | 73 => 185 | 74 => 186 | 75 => 187 | 76 => 188 | 77 => 189 | 80 => 190 | 81 => 192 | 83 => 147 | 84 => 244 | 85 => 259 | 86 => 260 | 101 => 50 | 102 => 47 | 103 => 234 | 104 => 30 | 105 => 249 | 106 => 250 | 108 => 279 | 111 => 73 | 112 => 72 | 113 => 207 | 114 => 123 | 115 => 211 | 116 => 212 | 117 => 213 | 118 => 214 | 119 => 271 | 124 => 237 | 127 => 230 | 128 => 251 | 131 => 201 | 137 => 272 | 138 => 273 | 139 => 274 | 143 => 282 | 144 => 283 | 145 => 284 | 146 => 269 | 150 => 235 | 151 => 270 | 164 => 245 | 165 => 246 | 166 => 247 | 167 => 258 | 168 => 261 | 169 => 262 | 170 => 263 | 171 => 252 | 172 => 254 | 173 => 255 | 174 => 256 | 175 => 275 | 176 => 276 | 209 => 277 | 210 => 278 | 211 => 264 | 212 => 265 | 213 => 267 | 214 => 281 | 232 => 285 | 233 => 286 | 238 => 287 | 239 => 288 | 240 => 289 | 241 => 290 | 242 => 291 | 243 => 292 | 244 => 293 | 245 => 294 | 246 => 295 | 247 => 296 | 248 => 297 | 249 => 298 | n => n, fun | 1 => 1 | 3 => 3 | 4 => 4 | 15 => 5 | 16 => 6 | 17 => 2 | 18 => 7 | 19 => 8 | n => n⟩
theorem lays_internal_stringslite_IndexByte : Go.Proofs.Lays.n217 Tryz.prog lays_internal_stringslite_IndexByte_ren where
  mixed := by kernel_rfl
  f217 := Tryz.func276.trans (congrArg some (by kernel_rfl))
  f266 := Tryz.func304.trans (congrArg some (by kernel_rfl))
  t3 := Tryz.underlying3
  a3 := Tryz.isAgg3
  z3 := Tryz.sizeOf3
  v3 := Tryz.zeroValue3
  t5 := Tryz.underlying5
  a5 := Tryz.isAgg5
  z5 := Tryz.sizeOf5
  v5 := Tryz.zeroValue5
  t9 := Tryz.underlying9
  a9 := Tryz.isAgg9
  z9 := Tryz.sizeOf9
  v9 := Tryz.zeroValue9
noncomputable def f_internal_stringslite_IndexByte (t0 : PV .str) (t1 : PV (.int .u8)) : Option (PVs [(.int .i64)] × PVs []) := Go.Dn.indexByteF t0 t1
noncomputable def ct_internal_stringslite_IndexByte : Ct := ⟨[(.bor, .str), (.bor, (.int .u8))], [((.int .i64), .b)], fun x => f_internal_stringslite_IndexByte x.1 x.2.1⟩
theorem ok_internal_stringslite_IndexByte : FnOk gl Tryz.prog 276 ct_internal_stringslite_IndexByte := Go.Dn.indexByte_ok  lays_internal_stringslite_IndexByte
def lays_internal_stringslite_Index_ren : Go.Shelf.Ren := ⟨fun | 0 => 0 | 1 => 1 | 2 => 2 | 99 => 268 | 100 => 286 | 101 => 269 | 102 => 229 | 103 => 218 | 104 => 220 | 109 => 158 | 119 => 281 | 129 => 324 | 137 => 222 | 138 => 278 | 143 => 279 | 144 => 247 | 145 => 219 | 152 => 230 | 153 => 157 | 156 => 110 | 165 => 190 | 166 => 191 | 169 => 192 | 171 => 189 | 172 => 284 | 195 => 305 | 197 => 306 | 205 => 331 | 206 => 300 | 207 => 303 | 208 => 301 | 209 => 280 | 210 => 272 | 211 => 274 | 217 => 276 | 218 => 307 | 219 => 302 | 220 => 273 | 221 => 223 | 224 => 282 | 225 => 283 | 226 => 231 | 227 => 232 | 228 => 233 | 240 => 257 | 241 => 258 | 243 => 256 | 244 => 308 | 245 => 309 | 246 => 296 | 247 => 318 | 260 => 317 | 266 => 304 | 267 => 316 | 268 => 277 | 276 => 297 | 277 => 298 | 279 => 319 | 280 => 320 | 281 => 321 | 282 => 322 | 283 => 311 | 284 => 312 | 285 => 313 | 286 => 314 | 287 => 329 | 314 => 328 | 316 => 330 | 317 => 323 | 318 => 325 | 319 => 326 | 320 => 327 | 321 => 334 | 322 => 335 | 337 => 332 | 338 => 333 | 347 => 336 | 348 => 337 | 349 => 338 | 350 => 339 | 351 => 340 | 352 => 341 | 353 => 342 | 354 => 343 | 355 => 344 | 356 => 345 | 357 => 346 | 358 => 347 | 359 => 348 | 360 => 349 | 361 => 350 | 362 => 352 | 363 => 355 | 364 => 353 | 365 => 354 | 366 => 356 | 367 => 368 | n => n, fun | 0 => 0 | 1 => 1 | 2 => 2 | 3 => 3 | 4 => 4 | 5 => 5 | 6 => 6 | 7 => 7 | 8 => 8 | 9 => 9 | 10 => 10 | 11 => 11 | 12 => 12 | 13 => 13 | 14 => 14 | 15 => 15 | 16 => 16 | 17 => 17 | 18 => 18 | 19 => 19 | 20 => 20 | 21 => 21 | 22 => 71 | 23 => 124 | 24 => 56 | 25 => 203 | 27 => 157 | 28 => 25 | 30 => 29 | 31 => 41 | 32 => 158 | 34 => 28 | 36 => 194 | 37 => 53 | 38 => 54 | 40 => 236 | 41 => 215 | 43 => 148 | 46 => 232 | 47 => 268 | 48 => 144 | 51 => 266 | 52 => 280 | 53 => 118 | 54 => 253 | 55 => 206 | 59 => 204 | 60 => 205 | 61 => 153 | 64 => 210 | 67 => 115 | 68 => 74 | 69 => 80 | 70 => 182 | 71 => 183 | 72 => 184 | 73 => 185 | 74 => 186 | 75 => 187 | 76 => 188 | 77 => 189 | 80 => 190 | 81 => 192 | 83 => 147 | 84 => 244 | 85 => 259 | 86 => 260 | 101 => 50 | 102 => 47 | 103 => 234 | 104 => 30 | 105 => 249 | 106 => 250 | 108 => 279 | 111 => 73 | 112 => 72 | 113 => 207 | 114 => 123 | 115 => 211 | 116 => 212 | 117 => 213 | 118 => 214 | 119 => 271 | 124 => 237 | 127 => 230 | 128 => 251 | 131 => 201 | 137 => 272 | 138 => 273 | 139 => 274 | 143 => 282 | 144 => 283 | 145 => 284 | 146 => 269 | 150 => 235 | 151 => 270 | 164 => 245 | 165 => 246 | 166 => 247 | 167 => 258 | 168 => 261 | 169 => 262 | 170 => 263 | 171 => 252 | 172 => 254 | 173 => 255 | 174 => 256 | 175 => 275 | 176 => 276 | 209 => 277 | 210 => 278 | 211 => 264 | 212 => 265 | 213 => 267 | 214 => 281 | 232 => 285 | 233 => 286 | 238 => 287 | 239 => 288 | 240 => 289 | 241 => 290 | 242 => 291 | 243 => 292 | 244 => 293 | 245 => 294 | 246 => 295 | 247 => 296 | 248 => 297 | 249 => 298 | n => n, fun | 1 => 1 | 3 => 3 | 4 => 4 | 15 => 5 | 16 => 6 | 17 => 2 | 18 => 7 | 19 => 8 | n => n⟩
theorem lays_internal_stringslite_Index : Go.Proofs.Lays.n219 Tryz.prog lays_internal_stringslite_Index_ren where
  mixed := by kernel_rfl
  f217 := Tryz.func276.trans (congrArg some (by kernel_rfl))
  f219 := Tryz.func302.trans (congrArg some (by kernel_rfl))
  f224 := Tryz.func282.trans (congrArg some (by kernel_rfl))
  f225 := Tryz.func283.trans (congrArg some (by kernel_rfl))
  f266 := Tryz.func304.trans (congrArg some (by kernel_rfl))
  f267 := Tryz.func316.trans (congrArg some (by kernel_rfl))
  f314 := Tryz.func328.trans (congrArg some (by kernel_rfl))
  t3 := Tryz.underlying3
  a3 := Tryz.isAgg3
  z3 := Tryz.sizeOf3
  v3 := Tryz.zeroValue3
  t4 := Tryz.underlying4
  a4 := Tryz.isAgg4
  z4 := Tryz.sizeOf4
  v4 := Tryz.zeroValue4
  t5 := Tryz.underlying5
  a5 := Tryz.isAgg5
  z5 := Tryz.sizeOf5
  v5 := Tryz.zeroValue5
  t9 := Tryz.underlying9
  a9 := Tryz.isAgg9
  z9 := Tryz.sizeOf9
  v9 := Tryz.zeroValue9
  t46 := Tryz.underlying232
  a46 := Tryz.isAgg232
  z46 := Tryz.sizeOf232
  v46 := Tryz.zeroValue232
  t51 := Tryz.underlying266
  a51 := Tryz.isAgg266
  z51 := Tryz.sizeOf266
  v51 := Tryz.zeroValue266
  t146 := Tryz.underlying269
  a146 := Tryz.isAgg269
  z146 := Tryz.sizeOf269
  v146 := Tryz.zeroValue269
  g1 := by kernel_rfl
noncomputable def f_internal_stringslite_Index (t0 : PV .str) (t1 : PV .str) : Option (PVs [(.int .i64)] × PVs []) := Go.Dn.indexF t0 t1
noncomputable def ct_internal_stringslite_Index : Ct := ⟨[(.bor, .str), (.bor, .str)], [((.int .i64), .b)], fun x => f_internal_stringslite_Index x.1 x.2.1⟩
theorem ok_internal_stringslite_Index : FnOk gl Tryz.prog 302 ct_internal_stringslite_Index := Go.Dn.indexLite_ok gl_max lays_internal_stringslite_Index
noncomputable def o_S_l1Cut_5 : List Out := [⟨.normal, ⟨[], [0, 3, 4, 5], []⟩, mkSh 37 [(0, .val .str .b), (3, .val S_string (.row .b)), (4, .val (.int .i64) .b), (5, .val (.int .i64) .b)]⟩]
noncomputable def o_S_l1Cut_11 : List Out := [⟨.normal, ⟨[], [3], []⟩, mkSh 37 [(3, .val S_string (.row .b))]⟩]
noncomputable def sh_S_l1Cut_4 : List Sh := mkSh 37 [(0, .val .str .b), (3, .val S_string (.row .b)), (4, .val (.int .i64) .b), (5, .val (.int .i64) .b)]
noncomputable def o_S_l1Cut_4 : List Out := [⟨.exit 0, ⟨[], [0, 3, 4], []⟩, mkSh 37 [(0, .val .str .b), (3, .val S_string (.row .b)), (4, .val (.int .i64) .b)]⟩]
noncomputable def b_S_l1Cut_4 (t0 : PV .str) (t3 : PV S_string) (t4 : PV (.int .i64)) (t5 : PV (.int .i64)) : Option ((PV .str × PV S_string × PV (.int .i64) × PV (.int .i64) × Unit) ⊕ ((PV .str × PV S_string × PV (.int .i64) × Unit))) :=
  bif (decide (t5 < (t0.length : Int))) then
    ((
        bif inB t5 t0.length then
          bif (((t0.getD t5.toNat 0).toNat : Int) == 10) then
            bif cutB t4 (IntKind.wrap .i64 (t5 + 1)) t0.length then
              bif roomB (t3.length + [(cutL t4 (IntKind.wrap .i64 (t5 + 1)) t0)].length) then
                some (t0, (t3 ++ [(cutL t4 (IntKind.wrap .i64 (t5 + 1)) t0)]), (IntKind.wrap .i64 (t5 + 1)), t5, ())
              else
                none
            else
              none
          else
            some (t0, t3, t4, t5, ())
        else
          none : Option ((PV .str × PV S_string × PV (.int .i64) × PV (.int .i64) × Unit)))).bind fun j1 =>
      some (.inl (j1.1, j1.2.1, j1.2.2.1, (IntKind.wrap .i64 (j1.2.2.2.1 + 1)), ()))
  else
    some (.inr (t0, t3, t4, ()))
noncomputable def w_S_l1Cut_4 : PV .str × PV S_string × PV (.int .i64) × PV (.int .i64) × Unit → Option ((PV .str × PV S_string × PV (.int .i64) × Unit)) := fix fun d => b_S_l1Cut_4 d.1 d.2.1 d.2.2.1 d.2.2.2.1
noncomputable def lp_S_l1Cut_4 : Lp := ⟨⟨[], [0, 3, 4, 5], []⟩, sh_S_l1Cut_4, o_S_l1Cut_4, fun d => b_S_l1Cut_4 d.1 d.2.1 d.2.2.1 d.2.2.2.1⟩
noncomputable def pl_S_l1Cut : Plan := ⟨[(5, o_S_l1Cut_5), (11, o_S_l1Cut_11)], [(4, lp_S_l1Cut_4)], 0, 0⟩
noncomputable def f_S_l1Cut (t0 : PV .str) : Option (PVs [S_string] × PVs []) :=
  (w_S_l1Cut_4 (t0, [], 0, 0, ())).bind fun l3 =>
    ((
        bif (decide (l3.2.2.1 < (l3.1.length : Int))) then
          bif cutB l3.2.2.1 (l3.1.length : Int) l3.1.length then
            bif roomB (l3.2.1.length + [(cutL l3.2.2.1 (l3.1.length : Int) l3.1)].length) then
              some ((l3.2.1 ++ [(cutL l3.2.2.1 (l3.1.length : Int) l3.1)]), ())
            else
              none
          else
            none
        else
          some (l3.2.1, ()) : Option ((PV S_string × Unit)))).bind fun j4 =>
      some ((j4.1, ()), ())
noncomputable def ct_S_l1Cut : Ct := ⟨[(.bor, .str)], [(S_string, .b)], fun x => f_S_l1Cut x.1⟩
noncomputable def cx_S_l1Cut : Cx := ⟨tab, arrs, [], [], gl, []⟩
theorem eb_S_l1Cut_4 (t0 : PV .str) (t3 : PV S_string) (t4 : PV (.int .i64)) (t5 : PV (.int .i64)) : denK cx_S_l1Cut (rcN cx_S_l1Cut 0) pl_S_l1Cut 0 ((loopsOf (bodyOf Tryz.f70)).getD 0 .skip) (fillS sh_S_l1Cut_4 (t0, t3, t4, t5, ())) (roundK 0 lp_S_l1Cut_4) = b_S_l1Cut_4 t0 t3 t4 t5 := by kernel_rfl
theorem ef_S_l1Cut (t0 : PV .str) : denF cx_S_l1Cut 0 pl_S_l1Cut Tryz.f70.ntmps (bodyOf Tryz.f70) Tryz.f70.results.toList [(.bor, .str)] [(S_string, .b)] (t0, ()) = f_S_l1Cut t0 := by kernel_rfl
theorem ok_S_l1Cut : FnOk gl Tryz.prog 70 ct_S_l1Cut :=
  fnOk (cx := cx_S_l1Cut) (pl := pl_S_l1Cut) (dp := 0) (ok0_of tabOk (by unfold ArrOk; kernel_rfl) mix trivial trivial) Tryz.func70 (by kernel_rfl) (by kernel_rfl) (by kernel_rfl)
    (by rw [show loopsOf (bodyOf Tryz.f70) = [((loopsOf (bodyOf Tryz.f70)).getD 0 .skip)] from by kernel_rfl]; exact ⟨(by rw [show lookup pl_S_l1Cut.loops (firstId ((loopsOf (bodyOf Tryz.f70)).getD 0 .skip)) = some lp_S_l1Cut_4 from by kernel_rfl]; exact fun d z h => (eb_S_l1Cut_4 d.1 d.2.1 d.2.2.1 d.2.2.2.1).trans h), trivial⟩) (fun x => ef_S_l1Cut x.1)
noncomputable def pl_S_l1Ends : Plan := ⟨[], [], 0, 0⟩
noncomputable def f_S_l1Ends (t0 : PV .str) : Option (PVs [.bool] × PVs []) :=
  bif inB (IntKind.wrap .i64 ((t0.length : Int) - 1)) t0.length then
    some (((((t0.getD (IntKind.wrap .i64 ((t0.length : Int) - 1)).toNat 0).toNat : Int) == 10), ()), ())
  else
    none
noncomputable def ct_S_l1Ends : Ct := ⟨[(.bor, .str)], [(.bool, .b)], fun x => f_S_l1Ends x.1⟩
noncomputable def cx_S_l1Ends : Cx := ⟨tab, arrs, [], [], gl, []⟩
theorem ef_S_l1Ends (t0 : PV .str) : denF cx_S_l1Ends 0 pl_S_l1Ends Tryz.f76.ntmps (bodyOf Tryz.f76) Tryz.f76.results.toList [(.bor, .str)] [(.bool, .b)] (t0, ()) = f_S_l1Ends t0 := by kernel_rfl
theorem ok_S_l1Ends : FnOk gl Tryz.prog 76 ct_S_l1Ends :=
  fnOk (cx := cx_S_l1Ends) (pl := pl_S_l1Ends) (dp := 0) (ok0_of tabOk (by unfold ArrOk; kernel_rfl) mix trivial trivial) Tryz.func76 (by kernel_rfl) (by kernel_rfl) (by kernel_rfl)
    (by rw [show loopsOf (bodyOf Tryz.f76) = [] from by kernel_rfl]; exact trivial) (fun x => ef_S_l1Ends x.1)
noncomputable def pl_S_l1Plain : Plan := ⟨[], [], 0, 0⟩
noncomputable def f_S_l1Plain (t0 : PV .str) : Option (PVs [.str] × PVs []) :=
  (f_S_l1Ends t0).bind fun r4 =>
    bif r4.1.1 then
      bif cutB 0 (IntKind.wrap .i64 ((t0.length : Int) - 1)) t0.length then
        some (((cutL 0 (IntKind.wrap .i64 ((t0.length : Int) - 1)) t0), ()), ())
      else
        none
    else
      some ((t0, ()), ())
noncomputable def ct_S_l1Plain : Ct := ⟨[(.bor, .str)], [(.str, .b)], fun x => f_S_l1Plain x.1⟩
noncomputable def cx_S_l1Plain : Cx := ⟨tab, arrs, [(76, ct_S_l1Ends)], [], gl, []⟩
theorem ef_S_l1Plain (t0 : PV .str) : denF cx_S_l1Plain 0 pl_S_l1Plain Tryz.f72.ntmps (bodyOf Tryz.f72) Tryz.f72.results.toList [(.bor, .str)] [(.str, .b)] (t0, ()) = f_S_l1Plain t0 := by kernel_rfl
theorem ok_S_l1Plain : FnOk gl Tryz.prog 72 ct_S_l1Plain :=
  fnOk (cx := cx_S_l1Plain) (pl := pl_S_l1Plain) (dp := 0) (ok0_of tabOk (by unfold ArrOk; kernel_rfl) mix ⟨ok_S_l1Ends, trivial⟩ trivial) Tryz.func72 (by kernel_rfl) (by kernel_rfl) (by kernel_rfl)
    (by rw [show loopsOf (bodyOf Tryz.f72) = [] from by kernel_rfl]; exact trivial) (fun x => ef_S_l1Plain x.1)
noncomputable def o_S_l1Split_5 : List Out := [⟨.normal, ⟨[], [0, 1, 5, 6, 7], []⟩, mkSh 34 [(0, .val .str .b), (1, .val (.int .u8) .b), (5, .val S_string (.row .b)), (6, .val (.int .i64) .b), (7, .val (.int .i64) .b)]⟩]
noncomputable def sh_S_l1Split_4 : List Sh := mkSh 34 [(0, .val .str .b), (1, .val (.int .u8) .b), (5, .val S_string (.row .b)), (6, .val (.int .i64) .b), (7, .val (.int .i64) .b)]
noncomputable def o_S_l1Split_4 : List Out := [⟨.exit 0, ⟨[], [0, 5, 6], []⟩, mkSh 34 [(0, .val .str .b), (5, .val S_string (.row .b)), (6, .val (.int .i64) .b)]⟩]
noncomputable def b_S_l1Split_4 (t0 : PV .str) (t1 : PV (.int .u8)) (t5 : PV S_string) (t6 : PV (.int .i64)) (t7 : PV (.int .i64)) : Option ((PV .str × PV (.int .u8) × PV S_string × PV (.int .i64) × PV (.int .i64) × Unit) ⊕ ((PV .str × PV S_string × PV (.int .i64) × Unit))) :=
  bif (decide (t7 < (t0.length : Int))) then
    ((
        bif inB t7 t0.length then
          bif (((t0.getD t7.toNat 0).toNat : Int) == t1) then
            bif cutB t6 t7 t0.length then
              bif roomB (t5.length + [(cutL t6 t7 t0)].length) then
                some (t0, t1, (t5 ++ [(cutL t6 t7 t0)]), (IntKind.wrap .i64 (t7 + 1)), t7, ())
              else
                none
            else
              none
          else
            some (t0, t1, t5, t6, t7, ())
        else
          none : Option ((PV .str × PV (.int .u8) × PV S_string × PV (.int .i64) × PV (.int .i64) × Unit)))).bind fun j1 =>
      some (.inl (j1.1, j1.2.1, j1.2.2.1, j1.2.2.2.1, (IntKind.wrap .i64 (j1.2.2.2.2.1 + 1)), ()))
  else
    some (.inr (t0, t5, t6, ()))
noncomputable def w_S_l1Split_4 : PV .str × PV (.int .u8) × PV S_string × PV (.int .i64) × PV (.int .i64) × Unit → Option ((PV .str × PV S_string × PV (.int .i64) × Unit)) := fix fun d => b_S_l1Split_4 d.1 d.2.1 d.2.2.1 d.2.2.2.1 d.2.2.2.2.1
noncomputable def lp_S_l1Split_4 : Lp := ⟨⟨[], [0, 1, 5, 6, 7], []⟩, sh_S_l1Split_4, o_S_l1Split_4, fun d => b_S_l1Split_4 d.1 d.2.1 d.2.2.1 d.2.2.2.1 d.2.2.2.2.1⟩
noncomputable def pl_S_l1Split : Plan := ⟨[(5, o_S_l1Split_5)], [(4, lp_S_l1Split_4)], 0, 0⟩
noncomputable def f_S_l1Split (t0 : PV .str) (t1 : PV (.int .u8)) : Option (PVs [S_string] × PVs []) :=
  (w_S_l1Split_4 (t0, t1, [], 0, 0, ())).bind fun l3 =>
    bif cutB l3.2.2.1 (l3.1.length : Int) l3.1.length then
      bif roomB (l3.2.1.length + [(cutL l3.2.2.1 (l3.1.length : Int) l3.1)].length) then
        some (((l3.2.1 ++ [(cutL l3.2.2.1 (l3.1.length : Int) l3.1)]), ()), ())
      else
        none
    else
      none
noncomputable def ct_S_l1Split : Ct := ⟨[(.bor, .str), (.bor, (.int .u8))], [(S_string, (.row .b))], fun x => f_S_l1Split x.1 x.2.1⟩
noncomputable def cx_S_l1Split : Cx := ⟨tab, arrs, [], [], gl, []⟩
theorem eb_S_l1Split_4 (t0 : PV .str) (t1 : PV (.int .u8)) (t5 : PV S_string) (t6 : PV (.int .i64)) (t7 : PV (.int .i64)) : denK cx_S_l1Split (rcN cx_S_l1Split 0) pl_S_l1Split 0 ((loopsOf (bodyOf Tryz.f135)).getD 0 .skip) (fillS sh_S_l1Split_4 (t0, t1, t5, t6, t7, ())) (roundK 0 lp_S_l1Split_4) = b_S_l1Split_4 t0 t1 t5 t6 t7 := by kernel_rfl
theorem ef_S_l1Split (t0 : PV .str) (t1 : PV (.int .u8)) : denF cx_S_l1Split 0 pl_S_l1Split Tryz.f135.ntmps (bodyOf Tryz.f135) Tryz.f135.results.toList [(.bor, .str), (.bor, (.int .u8))] [(S_string, (.row .b))] (t0, t1, ()) = f_S_l1Split t0 t1 := by kernel_rfl
theorem ok_S_l1Split : FnOk gl Tryz.prog 135 ct_S_l1Split :=
  fnOk (cx := cx_S_l1Split) (pl := pl_S_l1Split) (dp := 0) (ok0_of tabOk (by unfold ArrOk; kernel_rfl) mix trivial trivial) Tryz.func135 (by kernel_rfl) (by kernel_rfl) (by kernel_rfl)
    (by rw [show loopsOf (bodyOf Tryz.f135) = [((loopsOf (bodyOf Tryz.f135)).getD 0 .skip)] from by kernel_rfl]; exact ⟨(by rw [show lookup pl_S_l1Split.loops (firstId ((loopsOf (bodyOf Tryz.f135)).getD 0 .skip)) = some lp_S_l1Split_4 from by kernel_rfl]; exact fun d z h => (eb_S_l1Split_4 d.1 d.2.1 d.2.2.1 d.2.2.2.1 d.2.2.2.2.1).trans h), trivial⟩) (fun x => ef_S_l1Split x.1 x.2.1)
noncomputable def pl_S_l1In : Plan := ⟨[], [], 0, 0⟩
noncomputable def f_S_l1In (t0 : PV (.int .i64)) (t1 : PV (.int .i64)) (t2 : PV (.int .i64)) : Option (PVs [.bool] × PVs []) :=
  bif (decide (t0 ≥ t1)) then
    some (((decide (t0 ≤ t2)), ()), ())
  else
    some ((false, ()), ())
noncomputable def ct_S_l1In : Ct := ⟨[(.bor, (.int .i64)), (.bor, (.int .i64)), (.bor, (.int .i64))], [(.bool, .b)], fun x => f_S_l1In x.1 x.2.1 x.2.2.1⟩
noncomputable def cx_S_l1In : Cx := ⟨tab, arrs, [], [], gl, []⟩
theorem ef_S_l1In (t0 : PV (.int .i64)) (t1 : PV (.int .i64)) (t2 : PV (.int .i64)) : denF cx_S_l1In 0 pl_S_l1In Tryz.f133.ntmps (bodyOf Tryz.f133) Tryz.f133.results.toList [(.bor, (.int .i64)), (.bor, (.int .i64)), (.bor, (.int .i64))] [(.bool, .b)] (t0, t1, t2, ()) = f_S_l1In t0 t1 t2 := by kernel_rfl
theorem ok_S_l1In : FnOk gl Tryz.prog 133 ct_S_l1In :=
  fnOk (cx := cx_S_l1In) (pl := pl_S_l1In) (dp := 0) (ok0_of tabOk (by unfold ArrOk; kernel_rfl) mix trivial trivial) Tryz.func133 (by kernel_rfl) (by kernel_rfl) (by kernel_rfl)
    (by rw [show loopsOf (bodyOf Tryz.f133) = [] from by kernel_rfl]; exact trivial) (fun x => ef_S_l1In x.1 x.2.1 x.2.2.1)
noncomputable def o_S_l1Read_2 : List Out := [⟨.normal, ⟨[], [0, 18, 30, 31, 32, 33], []⟩, mkSh 44 [(0, .val .str .b), (18, .val .bool .b)]⟩]
noncomputable def o_S_l1Read_8 : List Out := [⟨.normal, ⟨[], [0, 3, 4, 34], []⟩, mkSh 44 [(0, .val .str .b), (3, .val (.int .i64) .b), (4, .val (.int .i64) .b), (34, .val .bool .b)]⟩]
noncomputable def sh_S_l1Read_5 : List Sh := mkSh 44 [(0, .val .str .b), (3, .val (.int .i64) .b), (4, .val (.int .i64) .b)]
noncomputable def o_S_l1Read_5 : List Out := [⟨.exit 0, ⟨[], [3], []⟩, mkSh 44 [(3, .val (.int .i64) .b)]⟩, ⟨.ret, ⟨[], [2], []⟩, mkSh 44 [(2, .val (.int .i64) .b)]⟩]
noncomputable def b_S_l1Read_5 (t0 : PV .str) (t3 : PV (.int .i64)) (t4 : PV (.int .i64)) : Option ((PV .str × PV (.int .i64) × PV (.int .i64) × Unit) ⊕ ((PV (.int .i64) × Unit) ⊕ (PV (.int .i64) × Unit))) :=
  bif (decide (t4 < (t0.length : Int))) then
    ((
        bif inB t4 t0.length then
          bif (decide (((t0.getD t4.toNat 0).toNat : Int) < 48)) then
            some (t0, t3, t4, true, ())
          else
            bif inB t4 t0.length then
              some (t0, t3, t4, (decide (((t0.getD t4.toNat 0).toNat : Int) > 57)), ())
            else
              none
        else
          none : Option ((PV .str × PV (.int .i64) × PV (.int .i64) × PV .bool × Unit)))).bind fun j9 =>
      bif j9.2.2.2.1 then
        some (.inr (.inr ((-1), ())))
      else
        bif inB j9.2.2.1 j9.1.length then
          some (.inl (j9.1, (IntKind.wrap .i64 ((IntKind.wrap .i64 (10 * j9.2.1)) + (IntKind.wrap .i64 (IntKind.wrap .u8 (((j9.1.getD j9.2.2.1.toNat 0).toNat : Int) - 48))))), (IntKind.wrap .i64 (j9.2.2.1 + 1)), ()))
        else
          none
  else
    some (.inr (.inl (t3, ())))
noncomputable def w_S_l1Read_5 : PV .str × PV (.int .i64) × PV (.int .i64) × Unit → Option ((PV (.int .i64) × Unit) ⊕ (PV (.int .i64) × Unit)) := fix fun d => b_S_l1Read_5 d.1 d.2.1 d.2.2.1
noncomputable def lp_S_l1Read_5 : Lp := ⟨⟨[], [0, 3, 4, 30, 31, 32, 33], []⟩, sh_S_l1Read_5, o_S_l1Read_5, fun d => b_S_l1Read_5 d.1 d.2.1 d.2.2.1⟩
noncomputable def pl_S_l1Read : Plan := ⟨[(2, o_S_l1Read_2), (8, o_S_l1Read_8)], [(5, lp_S_l1Read_5)], 0, 0⟩
noncomputable def f_S_l1Read (t0 : PV .str) : Option (PVs [(.int .i64)] × PVs []) :=
  ((
      (f_S_l1In (t0.length : Int) 1 6).bind fun r4 =>
        bif (!r4.1.1) then
          some (t0, true, ())
        else
          bif inB 0 t0.length then
            bif (((t0.getD (0 : Int).toNat 0).toNat : Int) == 48) then
              some (t0, (decide ((t0.length : Int) > 1)), ())
            else
              some (t0, false, ())
          else
            none : Option ((PV .str × PV .bool × Unit)))).bind fun j5 =>
    bif j5.2.1 then
      some (((-1), ()), ())
    else
      (w_S_l1Read_5 (j5.1, 0, 0, ())).bind fun x14 =>
        match x14 with
        | .inl l12 =>
          some ((l12.1, ()), ())
        | .inr l13 =>
          some ((l13.1, ()), ())
noncomputable def ct_S_l1Read : Ct := ⟨[(.bor, .str)], [((.int .i64), .b)], fun x => f_S_l1Read x.1⟩
noncomputable def cx_S_l1Read : Cx := ⟨tab, arrs, [(133, ct_S_l1In)], [], gl, []⟩
theorem eb_S_l1Read_5 (t0 : PV .str) (t3 : PV (.int .i64)) (t4 : PV (.int .i64)) : denK cx_S_l1Read (rcN cx_S_l1Read 0) pl_S_l1Read 0 ((loopsOf (bodyOf Tryz.f271)).getD 0 .skip) (fillS sh_S_l1Read_5 (t0, t3, t4, ())) (roundK 0 lp_S_l1Read_5) = b_S_l1Read_5 t0 t3 t4 := by kernel_rfl
theorem ef_S_l1Read (t0 : PV .str) : denF cx_S_l1Read 0 pl_S_l1Read Tryz.f271.ntmps (bodyOf Tryz.f271) Tryz.f271.results.toList [(.bor, .str)] [((.int .i64), .b)] (t0, ()) = f_S_l1Read t0 := by kernel_rfl
theorem ok_S_l1Read : FnOk gl Tryz.prog 271 ct_S_l1Read :=
  fnOk (cx := cx_S_l1Read) (pl := pl_S_l1Read) (dp := 0) (ok0_of tabOk (by unfold ArrOk; kernel_rfl) mix ⟨ok_S_l1In, trivial⟩ trivial) Tryz.func271 (by kernel_rfl) (by kernel_rfl) (by kernel_rfl)
    (by rw [show loopsOf (bodyOf Tryz.f271) = [((loopsOf (bodyOf Tryz.f271)).getD 0 .skip)] from by kernel_rfl]; exact ⟨(by rw [show lookup pl_S_l1Read.loops (firstId ((loopsOf (bodyOf Tryz.f271)).getD 0 .skip)) = some lp_S_l1Read_5 from by kernel_rfl]; exact fun d z h => (eb_S_l1Read_5 d.1 d.2.1 d.2.2.1).trans h), trivial⟩) (fun x => ef_S_l1Read x.1)
noncomputable def o_S_ReadNumber_3 : List Out := [⟨.normal, ⟨[], [4, 13], []⟩, mkSh 15 [(4, .val (.int .i64) .b), (13, .val .bool .b)]⟩]
noncomputable def pl_S_ReadNumber : Plan := ⟨[(3, o_S_ReadNumber_3)], [], 0, 0⟩
noncomputable def f_S_ReadNumber (t0 : PV .str) : Option (PVs [(.int .i64), .bool] × PVs []) :=
  (f_S_l1Read t0).bind fun r2 =>
    ((
        bif (decide ((t0.length : Int) > 4)) then
          some (r2.1.1, true, ())
        else
          some (r2.1.1, (decide (r2.1.1 < 0)), ()) : Option ((PV (.int .i64) × PV .bool × Unit)))).bind fun j4 =>
      bif j4.2.1 then
        some ((0, false, ()), ())
      else
        some ((j4.1, true, ()), ())
noncomputable def ct_S_ReadNumber : Ct := ⟨[(.bor, .str)], [((.int .i64), .b), (.bool, .b)], fun x => f_S_ReadNumber x.1⟩
noncomputable def cx_S_ReadNumber : Cx := ⟨tab, arrs, [(271, ct_S_l1Read)], [], gl, []⟩
theorem ef_S_ReadNumber (t0 : PV .str) : denF cx_S_ReadNumber 0 pl_S_ReadNumber Tryz.f214.ntmps (bodyOf Tryz.f214) Tryz.f214.results.toList [(.bor, .str)] [((.int .i64), .b), (.bool, .b)] (t0, ()) = f_S_ReadNumber t0 := by kernel_rfl
theorem ok_S_ReadNumber : FnOk gl Tryz.prog 214 ct_S_ReadNumber :=
  fnOk (cx := cx_S_ReadNumber) (pl := pl_S_ReadNumber) (dp := 0) (ok0_of tabOk (by unfold ArrOk; kernel_rfl) mix ⟨ok_S_l1Read, trivial⟩ trivial) Tryz.func214 (by kernel_rfl) (by kernel_rfl) (by kernel_rfl)
    (by rw [show loopsOf (bodyOf Tryz.f214) = [] from by kernel_rfl]; exact trivial) (fun x => ef_S_ReadNumber x.1)
noncomputable def pl_S_l4Range : Plan := ⟨[], [], 0, 0⟩
noncomputable def f_S_l4Range (t0 : PV (.int .i64)) (t1 : PV (.int .i64)) : Option (PVs [.bool] × PVs []) :=
  (f_S_l1In t0 0 999).bind fun r1 =>
    bif r1.1.1 then
      (f_S_l1In t1 0 999).bind fun r2 =>
        some ((r2.1.1, ()), ())
    else
      some ((false, ()), ())
noncomputable def ct_S_l4Range : Ct := ⟨[(.bor, (.int .i64)), (.bor, (.int .i64))], [(.bool, .b)], fun x => f_S_l4Range x.1 x.2.1⟩
noncomputable def cx_S_l4Range : Cx := ⟨tab, arrs, [(133, ct_S_l1In)], [], gl, []⟩
theorem ef_S_l4Range (t0 : PV (.int .i64)) (t1 : PV (.int .i64)) : denF cx_S_l4Range 0 pl_S_l4Range Tryz.f215.ntmps (bodyOf Tryz.f215) Tryz.f215.results.toList [(.bor, (.int .i64)), (.bor, (.int .i64))] [(.bool, .b)] (t0, t1, ()) = f_S_l4Range t0 t1 := by kernel_rfl
theorem ok_S_l4Range : FnOk gl Tryz.prog 215 ct_S_l4Range :=
  fnOk (cx := cx_S_l4Range) (pl := pl_S_l4Range) (dp := 0) (ok0_of tabOk (by unfold ArrOk; kernel_rfl) mix ⟨ok_S_l1In, trivial⟩ trivial) Tryz.func215 (by kernel_rfl) (by kernel_rfl) (by kernel_rfl)
    (by rw [show loopsOf (bodyOf Tryz.f215) = [] from by kernel_rfl]; exact trivial) (fun x => ef_S_l4Range x.1 x.2.1)
noncomputable def o_S_ReadCount_8 : List Out := [⟨.normal, ⟨[], [5, 6, 7, 8, 44, 45, 46, 49, 50, 51, 52], []⟩, mkSh 56 [(5, .val S_string (.row .b)), (6, .val (.int .i64) .b), (7, .val .bool .b), (8, .val (.int .i64) .b)]⟩]
noncomputable def o_S_ReadCount_11 : List Out := [⟨.normal, ⟨[], [5, 7, 8, 11, 44, 45, 46, 49, 50, 51, 52], []⟩, mkSh 56 [(5, .val S_string (.row .b)), (7, .val .bool .b), (8, .val (.int .i64) .b), (11, .val (.int .i64) .b)]⟩]
noncomputable def o_S_ReadCount_12 : List Out := [⟨.normal, ⟨[], [8, 11, 53], []⟩, mkSh 56 [(8, .val (.int .i64) .b), (11, .val (.int .i64) .b), (53, .val .bool .b)]⟩]
noncomputable def pl_S_ReadCount : Plan := ⟨[(8, o_S_ReadCount_8), (11, o_S_ReadCount_11), (12, o_S_ReadCount_12)], [], 0, 0⟩
noncomputable def f_S_ReadCount (t0 : PV .str) : Option (PVs [(.int .i64), (.int .i64), .bool] × PVs []) :=
  (f_S_l1Split t0 44).bind fun r2 =>
    bif inB 0 r2.1.1.length then
      (f_S_ReadNumber (r2.1.1.getD ((0 : Int).toNat) [])).bind fun r4 =>
        ((
            bif ((r2.1.1.length : Int) == 2) then
              bif inB 1 r2.1.1.length then
                (f_S_ReadNumber (r2.1.1.getD ((1 : Int).toNat) [])).bind fun r8 =>
                  bif r4.1.2.1 then
                    some (r2.1.1, r4.1.1, r8.1.2.1, r8.1.1, ())
                  else
                    some (r2.1.1, r4.1.1, false, r8.1.1, ())
              else
                none
            else
              some (r2.1.1, r4.1.1, r4.1.2.1, 1, ()) : Option ((PV S_string × PV (.int .i64) × PV .bool × PV (.int .i64) × Unit)))).bind fun j9 =>
          ((
              bif (decide (j9.2.2.2.1 > 0)) then
                some (j9.1, j9.2.2.1, j9.2.2.2.1, (IntKind.wrap .i64 (j9.2.1 - 1)), ())
              else
                some (j9.1, j9.2.2.1, j9.2.2.2.1, j9.2.1, ()) : Option ((PV S_string × PV .bool × PV (.int .i64) × PV (.int .i64) × Unit)))).bind fun j10 =>
            ((
                bif (!j10.2.1) then
                  some (j10.2.2.1, j10.2.2.2.1, true, ())
                else
                  bif (decide ((j10.1.length : Int) > 2)) then
                    some (j10.2.2.1, j10.2.2.2.1, true, ())
                  else
                    (f_S_l4Range j10.2.2.2.1 j10.2.2.1).bind fun r14 =>
                      some (j10.2.2.1, j10.2.2.2.1, (!r14.1.1), ()) : Option ((PV (.int .i64) × PV (.int .i64) × PV .bool × Unit)))).bind fun j15 =>
              bif j15.2.2.1 then
                some ((0, 0, false, ()), ())
              else
                some ((j15.2.1, j15.1, true, ()), ())
    else
      none
noncomputable def ct_S_ReadCount : Ct := ⟨[(.bor, .str)], [((.int .i64), .b), ((.int .i64), .b), (.bool, .b)], fun x => f_S_ReadCount x.1⟩
noncomputable def cx_S_ReadCount : Cx := ⟨tab, arrs, [(135, ct_S_l1Split), (214, ct_S_ReadNumber), (215, ct_S_l4Range)], [], gl, []⟩
theorem ef_S_ReadCount (t0 : PV .str) : denF cx_S_ReadCount 0 pl_S_ReadCount Tryz.f136.ntmps (bodyOf Tryz.f136) Tryz.f136.results.toList [(.bor, .str)] [((.int .i64), .b), ((.int .i64), .b), (.bool, .b)] (t0, ()) = f_S_ReadCount t0 := by kernel_rfl
theorem ok_S_ReadCount : FnOk gl Tryz.prog 136 ct_S_ReadCount :=
  fnOk (cx := cx_S_ReadCount) (pl := pl_S_ReadCount) (dp := 0) (ok0_of tabOk (by unfold ArrOk; kernel_rfl) mix ⟨ok_S_l1Split, ok_S_ReadNumber, ok_S_l4Range, trivial⟩ trivial) Tryz.func136 (by kernel_rfl) (by kernel_rfl) (by kernel_rfl)
    (by rw [show loopsOf (bodyOf Tryz.f136) = [] from by kernel_rfl]; exact trivial) (fun x => ef_S_ReadCount x.1)
noncomputable def o_S_l7Head_3 : List Out := [⟨.normal, ⟨[], [2, 6, 57, 84], []⟩, mkSh 86 [(2, .var Y_impl_Group (.pr .b (.pr .b (.pr (.row (.pr .b (.pr .b .b))) .b)))), (6, .val S_string (.row .b)), (57, .val .bool .b)]⟩]
noncomputable def pl_S_l7Head : Plan := ⟨[(3, o_S_l7Head_3)], [], 0, 0⟩
noncomputable def f_S_l7Head (t0 : PV .str) : Option (PVs [Y_impl_Group, (.int .i64), (.int .i64), .bool] × PVs []) :=
  (f_S_l1Split t0 32).bind fun r2 =>
    ((
        bif (!((r2.1.1.length : Int) == 4)) then
          some ((0, (0, (([] : PV S_impl_Row), ()))), r2.1.1, true, ())
        else
          bif inB 0 r2.1.1.length then
            bif (!((r2.1.1.getD ((0 : Int).toNat) []) == [64, 64])) then
              some ((0, (0, (([] : PV S_impl_Row), ()))), r2.1.1, true, ())
            else
              bif inB 3 r2.1.1.length then
                bif (!((r2.1.1.getD ((3 : Int).toNat) []) == [64, 64])) then
                  some ((0, (0, (([] : PV S_impl_Row), ()))), r2.1.1, true, ())
                else
                  bif inB 1 r2.1.1.length then
                    bif (decide (((r2.1.1.getD ((1 : Int).toNat) []).length : Int) < 2)) then
                      some ((0, (0, (([] : PV S_impl_Row), ()))), r2.1.1, true, ())
                    else
                      bif inB 2 r2.1.1.length then
                        bif (decide (((r2.1.1.getD ((2 : Int).toNat) []).length : Int) < 2)) then
                          some ((0, (0, (([] : PV S_impl_Row), ()))), r2.1.1, true, ())
                        else
                          bif inB 1 r2.1.1.length then
                            bif inB 0 (r2.1.1.getD ((1 : Int).toNat) []).length then
                              bif (!((((r2.1.1.getD ((1 : Int).toNat) []).getD (0 : Int).toNat 0).toNat : Int) == 45)) then
                                some ((0, (0, (([] : PV S_impl_Row), ()))), r2.1.1, true, ())
                              else
                                bif inB 2 r2.1.1.length then
                                  bif inB 0 (r2.1.1.getD ((2 : Int).toNat) []).length then
                                    some ((0, (0, (([] : PV S_impl_Row), ()))), r2.1.1, (!((((r2.1.1.getD ((2 : Int).toNat) []).getD (0 : Int).toNat 0).toNat : Int) == 43)), ())
                                  else
                                    none
                                else
                                  none
                            else
                              none
                          else
                            none
                      else
                        none
                  else
                    none
              else
                none
          else
            none : Option ((PV Y_impl_Group × PV S_string × PV .bool × Unit)))).bind fun j4 =>
      bif j4.2.2.1 then
        some (((0, (0, (([] : PV S_impl_Row), ()))), 0, 0, false, ()), ())
      else
        bif inB 1 j4.2.1.length then
          bif cutB 1 ((j4.2.1.getD ((1 : Int).toNat) []).length : Int) (j4.2.1.getD ((1 : Int).toNat) []).length then
            (f_S_ReadCount (cutL 1 ((j4.2.1.getD ((1 : Int).toNat) []).length : Int) (j4.2.1.getD ((1 : Int).toNat) []))).bind fun r6 =>
              bif inB 2 j4.2.1.length then
                bif cutB 1 ((j4.2.1.getD ((2 : Int).toNat) []).length : Int) (j4.2.1.getD ((2 : Int).toNat) []).length then
                  (f_S_ReadCount (cutL 1 ((j4.2.1.getD ((2 : Int).toNat) []).length : Int) (j4.2.1.getD ((2 : Int).toNat) []))).bind fun r8 =>
                    bif r6.1.2.2.1 then
                      some (((r6.1.1, (r8.1.1, (([] : PV S_impl_Row), ()))), r6.1.2.1, r8.1.2.1, r8.1.2.2.1, ()), ())
                    else
                      some (((r6.1.1, (r8.1.1, (([] : PV S_impl_Row), ()))), r6.1.2.1, r8.1.2.1, false, ()), ())
                else
                  none
              else
                none
          else
            none
        else
          none
noncomputable def ct_S_l7Head : Ct := ⟨[(.bor, .str)], [(Y_impl_Group, (.pr .b (.pr .b (.pr (.row (.pr .b (.pr .b .b))) .b)))), ((.int .i64), .b), ((.int .i64), .b), (.bool, .b)], fun x => f_S_l7Head x.1⟩
noncomputable def cx_S_l7Head : Cx := ⟨tab, arrs, [(135, ct_S_l1Split), (136, ct_S_ReadCount)], [], gl, []⟩
theorem ef_S_l7Head (t0 : PV .str) : denF cx_S_l7Head 0 pl_S_l7Head Tryz.f71.ntmps (bodyOf Tryz.f71) Tryz.f71.results.toList [(.bor, .str)] [(Y_impl_Group, (.pr .b (.pr .b (.pr (.row (.pr .b (.pr .b .b))) .b)))), ((.int .i64), .b), ((.int .i64), .b), (.bool, .b)] (t0, ()) = f_S_l7Head t0 := by kernel_rfl
theorem ok_S_l7Head : FnOk gl Tryz.prog 71 ct_S_l7Head :=
  fnOk (cx := cx_S_l7Head) (pl := pl_S_l7Head) (dp := 0) (ok0_of tabOk (by unfold ArrOk; kernel_rfl) mix ⟨ok_S_l1Split, ok_S_ReadCount, trivial⟩ trivial) Tryz.func71 (by kernel_rfl) (by kernel_rfl) (by kernel_rfl)
    (by rw [show loopsOf (bodyOf Tryz.f71) = [] from by kernel_rfl]; exact trivial) (fun x => ef_S_l7Head x.1)
noncomputable def pl_S_l7Kind : Plan := ⟨[], [], 0, 0⟩
noncomputable def f_S_l7Kind (t0 : PV (.int .u8)) : Option (PVs [(.int .i64)] × PVs []) :=
  bif (t0 == 32) then
    some ((1, ()), ())
  else
    bif (t0 == 45) then
      some ((2, ()), ())
    else
      bif (t0 == 43) then
        some ((3, ()), ())
      else
        some ((0, ()), ())
noncomputable def ct_S_l7Kind : Ct := ⟨[(.bor, (.int .u8))], [((.int .i64), .b)], fun x => f_S_l7Kind x.1⟩
noncomputable def cx_S_l7Kind : Cx := ⟨tab, arrs, [], [], gl, []⟩
theorem ef_S_l7Kind (t0 : PV (.int .u8)) : denF cx_S_l7Kind 0 pl_S_l7Kind Tryz.f137.ntmps (bodyOf Tryz.f137) Tryz.f137.results.toList [(.bor, (.int .u8))] [((.int .i64), .b)] (t0, ()) = f_S_l7Kind t0 := by kernel_rfl
theorem ok_S_l7Kind : FnOk gl Tryz.prog 137 ct_S_l7Kind :=
  fnOk (cx := cx_S_l7Kind) (pl := pl_S_l7Kind) (dp := 0) (ok0_of tabOk (by unfold ArrOk; kernel_rfl) mix trivial trivial) Tryz.func137 (by kernel_rfl) (by kernel_rfl) (by kernel_rfl)
    (by rw [show loopsOf (bodyOf Tryz.f137) = [] from by kernel_rfl]; exact trivial) (fun x => ef_S_l7Kind x.1)
noncomputable def o_S_l7Rows_9 : List Out := [⟨.normal, ⟨[], [0, 1, 2, 8, 9, 10, 11, 17, 18, 19, 20, 51], []⟩, mkSh 75 [(0, .val S_string .b), (1, .val (.int .i64) .b), (2, .val (.int .i64) .b), (8, .val S_impl_Row (.row (.pr .b (.pr .b .b)))), (9, .val (.int .i64) .b), (10, .val (.int .i64) .b), (11, .val .str .b), (17, .val (.int .i64) .b), (18, .val (.int .i64) .b), (19, .val (.int .i64) .b), (20, .val .bool .b), (51, .val .bool .b)]⟩]
noncomputable def o_S_l7Rows_11 : List Out := [⟨.normal, ⟨[], [0, 1, 2, 8, 9, 10, 11, 17, 18, 19, 20, 42, 43, 44, 45, 46, 49, 50], []⟩, mkSh 75 [(0, .val S_string .b), (1, .val (.int .i64) .b), (2, .val (.int .i64) .b), (8, .val S_impl_Row (.row (.pr .b (.pr .b .b)))), (9, .val (.int .i64) .b), (10, .val (.int .i64) .b), (11, .val .str .b), (17, .val (.int .i64) .b), (18, .val (.int .i64) .b), (19, .val (.int .i64) .b), (20, .val .bool .b)]⟩]
noncomputable def o_S_l7Rows_13 : List Out := [⟨.normal, ⟨[], [0, 1, 2, 8, 9, 10, 11, 17, 18, 19, 20, 42, 43, 44, 45, 46, 49, 50], []⟩, mkSh 75 [(0, .val S_string .b), (1, .val (.int .i64) .b), (2, .val (.int .i64) .b), (8, .val S_impl_Row (.row (.pr .b (.pr .b .b)))), (9, .val (.int .i64) .b), (10, .val (.int .i64) .b), (11, .val .str .b), (17, .val (.int .i64) .b), (18, .val (.int .i64) .b), (19, .val (.int .i64) .b), (20, .val .bool .b)]⟩]
noncomputable def o_S_l7Rows_15 : List Out := [⟨.normal, ⟨[], [0, 1, 2, 8, 9, 10, 11, 17, 18, 19, 20, 42, 43, 44, 45, 46, 49, 50], []⟩, mkSh 75 [(0, .val S_string .b), (1, .val (.int .i64) .b), (2, .val (.int .i64) .b), (8, .val S_impl_Row (.row (.pr .b (.pr .b .b)))), (9, .val (.int .i64) .b), (10, .val (.int .i64) .b), (11, .val .str .b), (17, .val (.int .i64) .b), (18, .val (.int .i64) .b), (19, .val (.int .i64) .b), (20, .val .bool .b)]⟩]
noncomputable def sh_S_l7Rows_3 : List Sh := mkSh 75 [(0, .val S_string .b), (1, .val (.int .i64) .b), (2, .val (.int .i64) .b), (8, .val S_impl_Row (.row (.pr .b (.pr .b .b)))), (9, .val (.int .i64) .b)]
noncomputable def o_S_l7Rows_3 : List Out := [⟨.exit 0, ⟨[], [8, 9], []⟩, mkSh 75 [(8, .val S_impl_Row (.row (.pr .b (.pr .b .b)))), (9, .val (.int .i64) .b)]⟩]
noncomputable def b_S_l7Rows_3 (t0 : PV S_string) (t1 : PV (.int .i64)) (t2 : PV (.int .i64)) (t8 : PV S_impl_Row) (t9 : PV (.int .i64)) : Option ((PV S_string × PV (.int .i64) × PV (.int .i64) × PV S_impl_Row × PV (.int .i64) × Unit) ⊕ ((PV S_impl_Row × PV (.int .i64) × Unit))) :=
  bif (decide (t9 < (t0.length : Int))) then
    bif (decide ((IntKind.wrap .i64 (t1 + t2)) > 0)) then
      bif inB t9 t0.length then
        bif inB 0 (t0.getD t9.toNat []).length then
          (f_S_l7Kind (((t0.getD t9.toNat []).getD (0 : Int).toNat 0).toNat : Int)).bind fun r9 =>
            bif (r9.1.1 == 0) then
              some (.inr (t8, t9, ()))
            else
              bif inB t9 t0.length then
                bif cutB 1 ((t0.getD t9.toNat []).length : Int) (t0.getD t9.toNat []).length then
                  ((
                      ((
                          bif (decide ((IntKind.wrap .i64 (t9 + 1)) < (t0.length : Int))) then
                            bif inB (IntKind.wrap .i64 (t9 + 1)) t0.length then
                              bif ((t0.getD ((IntKind.wrap .i64 (t9 + 1)).toNat) []) == [92, 32, 110, 111, 110, 101, 10]) then
                                some (t0, t1, t2, t8, (IntKind.wrap .i64 (t9 + 1)), r9.1.1, (cutL 1 ((t0.getD t9.toNat []).length : Int) (t0.getD t9.toNat [])), t1, t2, (IntKind.wrap .i64 (t1 + t2)), (decide ((IntKind.wrap .i64 (t1 + t2)) > 0)), (!((cutL 1 ((t0.getD t9.toNat []).length : Int) (t0.getD t9.toNat [])) == [])), ())
                              else
                                some (t0, t1, t2, t8, (IntKind.wrap .i64 (t9 + 1)), r9.1.1, (cutL 1 ((t0.getD t9.toNat []).length : Int) (t0.getD t9.toNat [])), t1, t2, (IntKind.wrap .i64 (t1 + t2)), (decide ((IntKind.wrap .i64 (t1 + t2)) > 0)), false, ())
                            else
                              none
                          else
                            some (t0, t1, t2, t8, (IntKind.wrap .i64 (t9 + 1)), r9.1.1, (cutL 1 ((t0.getD t9.toNat []).length : Int) (t0.getD t9.toNat [])), t1, t2, (IntKind.wrap .i64 (t1 + t2)), (decide ((IntKind.wrap .i64 (t1 + t2)) > 0)), false, ()) : Option ((PV S_string × PV (.int .i64) × PV (.int .i64) × PV S_impl_Row × PV (.int .i64) × PV (.int .i64) × PV .str × PV (.int .i64) × PV (.int .i64) × PV (.int .i64) × PV .bool × PV .bool × Unit)))).bind fun j10 =>
                        bif j10.2.2.2.2.2.2.2.2.2.2.2.1 then
                          bif cutB 0 (IntKind.wrap .i64 ((j10.2.2.2.2.2.2.1.length : Int) - 1)) j10.2.2.2.2.2.2.1.length then
                            some (j10.1, j10.2.1, j10.2.2.1, j10.2.2.2.1, (IntKind.wrap .i64 (j10.2.2.2.2.1 + 1)), j10.2.2.2.2.2.1, (cutL 0 (IntKind.wrap .i64 ((j10.2.2.2.2.2.2.1.length : Int) - 1)) j10.2.2.2.2.2.2.1), j10.2.2.2.2.2.2.2.1, j10.2.2.2.2.2.2.2.2.1, j10.2.2.2.2.2.2.2.2.2.1, j10.2.2.2.2.2.2.2.2.2.2.1, ())
                          else
                            none
                        else
                          some (j10.1, j10.2.1, j10.2.2.1, j10.2.2.2.1, j10.2.2.2.2.1, j10.2.2.2.2.2.1, j10.2.2.2.2.2.2.1, j10.2.2.2.2.2.2.2.1, j10.2.2.2.2.2.2.2.2.1, j10.2.2.2.2.2.2.2.2.2.1, j10.2.2.2.2.2.2.2.2.2.2.1, ()) : Option ((PV S_string × PV (.int .i64) × PV (.int .i64) × PV S_impl_Row × PV (.int .i64) × PV (.int .i64) × PV .str × PV (.int .i64) × PV (.int .i64) × PV (.int .i64) × PV .bool × Unit)))).bind fun j11 =>
                    ((
                        bif (!(j11.2.2.2.2.2.1 == 3)) then
                          some (j11.1, (IntKind.wrap .i64 (j11.2.1 - 1)), j11.2.2.1, j11.2.2.2.1, j11.2.2.2.2.1, j11.2.2.2.2.2.1, j11.2.2.2.2.2.2.1, j11.2.2.2.2.2.2.2.1, j11.2.2.2.2.2.2.2.2.1, j11.2.2.2.2.2.2.2.2.2.1, j11.2.2.2.2.2.2.2.2.2.2.1, ())
                        else
                          some (j11.1, j11.2.1, j11.2.2.1, j11.2.2.2.1, j11.2.2.2.2.1, j11.2.2.2.2.2.1, j11.2.2.2.2.2.2.1, j11.2.2.2.2.2.2.2.1, j11.2.2.2.2.2.2.2.2.1, j11.2.2.2.2.2.2.2.2.2.1, j11.2.2.2.2.2.2.2.2.2.2.1, ()) : Option ((PV S_string × PV (.int .i64) × PV (.int .i64) × PV S_impl_Row × PV (.int .i64) × PV (.int .i64) × PV .str × PV (.int .i64) × PV (.int .i64) × PV (.int .i64) × PV .bool × Unit)))).bind fun j12 =>
                      ((
                          bif (!(j12.2.2.2.2.2.1 == 2)) then
                            some (j12.1, j12.2.1, (IntKind.wrap .i64 (j12.2.2.1 - 1)), j12.2.2.2.1, j12.2.2.2.2.1, j12.2.2.2.2.2.1, j12.2.2.2.2.2.2.1, j12.2.2.2.2.2.2.2.1, j12.2.2.2.2.2.2.2.2.1, j12.2.2.2.2.2.2.2.2.2.1, j12.2.2.2.2.2.2.2.2.2.2.1, ())
                          else
                            some (j12.1, j12.2.1, j12.2.2.1, j12.2.2.2.1, j12.2.2.2.2.1, j12.2.2.2.2.2.1, j12.2.2.2.2.2.2.1, j12.2.2.2.2.2.2.2.1, j12.2.2.2.2.2.2.2.2.1, j12.2.2.2.2.2.2.2.2.2.1, j12.2.2.2.2.2.2.2.2.2.2.1, ()) : Option ((PV S_string × PV (.int .i64) × PV (.int .i64) × PV S_impl_Row × PV (.int .i64) × PV (.int .i64) × PV .str × PV (.int .i64) × PV (.int .i64) × PV (.int .i64) × PV .bool × Unit)))).bind fun j13 =>
                        bif roomB (j13.2.2.2.1.length + [(j13.2.2.2.2.2.1, (j13.2.2.2.2.2.2.1, ()))].length) then
                          some (.inl (j13.1, j13.2.1, j13.2.2.1, (j13.2.2.2.1 ++ [(j13.2.2.2.2.2.1, (j13.2.2.2.2.2.2.1, ()))]), j13.2.2.2.2.1, ()))
                        else
                          none
                else
                  none
              else
                none
        else
          none
      else
        none
    else
      some (.inr (t8, t9, ()))
  else
    some (.inr (t8, t9, ()))
noncomputable def w_S_l7Rows_3 : PV S_string × PV (.int .i64) × PV (.int .i64) × PV S_impl_Row × PV (.int .i64) × Unit → Option ((PV S_impl_Row × PV (.int .i64) × Unit)) := fix fun d => b_S_l7Rows_3 d.1 d.2.1 d.2.2.1 d.2.2.2.1 d.2.2.2.2.1
noncomputable def lp_S_l7Rows_3 : Lp := ⟨⟨[], [0, 1, 2, 8, 9, 42, 43, 44, 45, 46, 49, 50], []⟩, sh_S_l7Rows_3, o_S_l7Rows_3, fun d => b_S_l7Rows_3 d.1 d.2.1 d.2.2.1 d.2.2.2.1 d.2.2.2.2.1⟩
noncomputable def pl_S_l7Rows : Plan := ⟨[(9, o_S_l7Rows_9), (11, o_S_l7Rows_11), (13, o_S_l7Rows_13), (15, o_S_l7Rows_15)], [(3, lp_S_l7Rows_3)], 0, 0⟩
noncomputable def f_S_l7Rows (t0 : PV S_string) (t1 : PV (.int .i64)) (t2 : PV (.int .i64)) : Option (PVs [S_impl_Row, (.int .i64)] × PVs []) :=
  (w_S_l7Rows_3 (t0, t1, t2, [], 0, ())).bind fun l15 =>
    some ((l15.1, l15.2.1, ()), ())
noncomputable def ct_S_l7Rows : Ct := ⟨[(.bor, S_string), (.bor, (.int .i64)), (.bor, (.int .i64))], [(S_impl_Row, (.row (.pr .b (.pr .b .b)))), ((.int .i64), .b)], fun x => f_S_l7Rows x.1 x.2.1 x.2.2.1⟩
noncomputable def cx_S_l7Rows : Cx := ⟨tab, arrs, [(137, ct_S_l7Kind)], [], gl, []⟩
theorem eb_S_l7Rows_3 (t0 : PV S_string) (t1 : PV (.int .i64)) (t2 : PV (.int .i64)) (t8 : PV S_impl_Row) (t9 : PV (.int .i64)) : denK cx_S_l7Rows (rcN cx_S_l7Rows 0) pl_S_l7Rows 0 ((loopsOf (bodyOf Tryz.f73)).getD 0 .skip) (fillS sh_S_l7Rows_3 (t0, t1, t2, t8, t9, ())) (roundK 0 lp_S_l7Rows_3) = b_S_l7Rows_3 t0 t1 t2 t8 t9 := by kernel_rfl
theorem ef_S_l7Rows (t0 : PV S_string) (t1 : PV (.int .i64)) (t2 : PV (.int .i64)) : denF cx_S_l7Rows 0 pl_S_l7Rows Tryz.f73.ntmps (bodyOf Tryz.f73) Tryz.f73.results.toList [(.bor, S_string), (.bor, (.int .i64)), (.bor, (.int .i64))] [(S_impl_Row, (.row (.pr .b (.pr .b .b)))), ((.int .i64), .b)] (t0, t1, t2, ()) = f_S_l7Rows t0 t1 t2 := by kernel_rfl
theorem ok_S_l7Rows : FnOk gl Tryz.prog 73 ct_S_l7Rows :=
  fnOk (cx := cx_S_l7Rows) (pl := pl_S_l7Rows) (dp := 0) (ok0_of tabOk (by unfold ArrOk; kernel_rfl) mix ⟨ok_S_l7Kind, trivial⟩ trivial) Tryz.func73 (by kernel_rfl) (by kernel_rfl) (by kernel_rfl)
    (by rw [show loopsOf (bodyOf Tryz.f73) = [((loopsOf (bodyOf Tryz.f73)).getD 0 .skip)] from by kernel_rfl]; exact ⟨(by rw [show lookup pl_S_l7Rows.loops (firstId ((loopsOf (bodyOf Tryz.f73)).getD 0 .skip)) = some lp_S_l7Rows_3 from by kernel_rfl]; exact fun d z h => (eb_S_l7Rows_3 d.1 d.2.1 d.2.2.1 d.2.2.2.1 d.2.2.2.2.1).trans h), trivial⟩) (fun x => ef_S_l7Rows x.1 x.2.1 x.2.2.1)
noncomputable def pl_S_l4Number : Plan := ⟨[], [], 0, 0⟩
noncomputable def f_S_l4Number (t0 : PV (.int .i64)) (t1 : PV (.int .i64)) : Option (PVs [(.int .i64)] × PVs []) :=
  bif (decide (t1 > 0)) then
    some (((IntKind.wrap .i64 (t0 + 1)), ()), ())
  else
    some ((t0, ()), ())
noncomputable def ct_S_l4Number : Ct := ⟨[(.bor, (.int .i64)), (.bor, (.int .i64))], [((.int .i64), .b)], fun x => f_S_l4Number x.1 x.2.1⟩
noncomputable def cx_S_l4Number : Cx := ⟨tab, arrs, [], [], gl, []⟩
theorem ef_S_l4Number (t0 : PV (.int .i64)) (t1 : PV (.int .i64)) : denF cx_S_l4Number 0 pl_S_l4Number Tryz.f139.ntmps (bodyOf Tryz.f139) Tryz.f139.results.toList [(.bor, (.int .i64)), (.bor, (.int .i64))] [((.int .i64), .b)] (t0, t1, ()) = f_S_l4Number t0 t1 := by kernel_rfl
theorem ok_S_l4Number : FnOk gl Tryz.prog 139 ct_S_l4Number :=
  fnOk (cx := cx_S_l4Number) (pl := pl_S_l4Number) (dp := 0) (ok0_of tabOk (by unfold ArrOk; kernel_rfl) mix trivial trivial) Tryz.func139 (by kernel_rfl) (by kernel_rfl) (by kernel_rfl)
    (by rw [show loopsOf (bodyOf Tryz.f139) = [] from by kernel_rfl]; exact trivial) (fun x => ef_S_l4Number x.1 x.2.1)
noncomputable def fr_S_l1Num (ih : PV (.int .i64) → Option (PVs [.str] × PVs [])) (t0 : PV (.int .i64)) : Option (PVs [.str] × PVs []) :=
  bif (decide (t0 < 10)) then
    some (((bytesOfInts [(IntKind.wrap .u8 (IntKind.wrap .i64 (48 + t0)))]), ()), ())
  else
    bif 10 == 0 then
      none
    else
      (ih (IntKind.wrap .i64 (t0.tdiv 10))).bind fun r1 =>
        bif 10 == 0 then
          none
        else
          bif decide (r1.1.1.length + (bytesOfInts [(IntKind.wrap .u8 (IntKind.wrap .i64 (48 + (t0.tmod 10))))]).length ≤ 1099511627776) then
            some (((r1.1.1 ++ (bytesOfInts [(IntKind.wrap .u8 (IntKind.wrap .i64 (48 + (t0.tmod 10))))])), ()), ())
          else
            none
noncomputable def fn_S_l1Num : Nat → PV (.int .i64) → Option (PVs [.str] × PVs []) := fun n => Nat.rec (motive := fun _ => PV (.int .i64) → Option (PVs [.str] × PVs [])) (fun _ => none) (fun _ ih => fr_S_l1Num ih) n
noncomputable def f_S_l1Num (t0 : PV (.int .i64)) : Option (PVs [.str] × PVs []) := fn_S_l1Num (t0.toNat + 1) t0
noncomputable def ct_S_l1Num : Ct := ⟨[(.bor, (.int .i64))], [(.str, .b)], fun x => f_S_l1Num x.1⟩
noncomputable def ctn_S_l1Num (n : Nat) : Ct := ⟨[(.bor, (.int .i64))], [(.str, .b)], fun x => fn_S_l1Num n x.1⟩
noncomputable def cxn_S_l1Num (n : Nat) : Cx := ⟨tab, arrs, [(138, ctn_S_l1Num n)], [], gl, []⟩
noncomputable def pl_S_l1Num : Plan := ⟨[], [], 0, 0⟩
theorem efn_S_l1Num (n : Nat) (t0 : PV (.int .i64)) : denF (cxn_S_l1Num n) 0 pl_S_l1Num Tryz.f138.ntmps (bodyOf Tryz.f138) Tryz.f138.results.toList [(.bor, (.int .i64))] [(.str, .b)] (t0, ()) = fr_S_l1Num (fn_S_l1Num n) t0 := by kernel_rfl
theorem okn_S_l1Num : ∀ n, FnOk gl Tryz.prog 138 (ctn_S_l1Num n)
  | 0 => fnOk_none (by kernel_rfl)
  | n + 1 => fnOk (cx := cxn_S_l1Num n) (pl := pl_S_l1Num) (dp := 0) (ct := ctn_S_l1Num (n + 1)) (ok0_of tabOk (by unfold ArrOk; kernel_rfl) mix ⟨okn_S_l1Num n, trivial⟩ trivial) Tryz.func138 (by kernel_rfl) (by kernel_rfl) (by kernel_rfl)
    (by rw [show loopsOf (bodyOf Tryz.f138) = [] from by kernel_rfl]; exact trivial) (fun x => efn_S_l1Num n x.1)
theorem ok_S_l1Num : FnOk gl Tryz.prog 138 ct_S_l1Num := fnOk_fuel (pars := [(.bor, (.int .i64))]) (rets := [(.str, .b)]) (Fs := fun n x => fn_S_l1Num n x.1) (N := fun x => x.1.toNat + 1) okn_S_l1Num
noncomputable def o_S_l4Count_4 : List Out := [⟨.normal, ⟨[], [5], []⟩, mkSh 18 [(5, .val .str .b)]⟩]
noncomputable def pl_S_l4Count : Plan := ⟨[(4, o_S_l4Count_4)], [], 0, 0⟩
noncomputable def f_S_l4Count (t0 : PV (.int .i64)) (t1 : PV (.int .i64)) : Option (PVs [.str] × PVs []) :=
  (f_S_l4Number t0 t1).bind fun r3 =>
    (f_S_l1Num r3.1.1).bind fun r4 =>
      ((
          bif (!(t1 == 1)) then
            (f_S_l1Num t1).bind fun r6 =>
              bif decide ([44].length + r6.1.1.length ≤ 1099511627776) then
                bif decide (r4.1.1.length + ([44] ++ r6.1.1).length ≤ 1099511627776) then
                  some ((r4.1.1 ++ ([44] ++ r6.1.1)), ())
                else
                  none
              else
                none
          else
            some (r4.1.1, ()) : Option ((PV .str × Unit)))).bind fun j7 =>
        some ((j7.1, ()), ())
noncomputable def ct_S_l4Count : Ct := ⟨[(.bor, (.int .i64)), (.bor, (.int .i64))], [(.str, .b)], fun x => f_S_l4Count x.1 x.2.1⟩
noncomputable def cx_S_l4Count : Cx := ⟨tab, arrs, [(138, ct_S_l1Num), (139, ct_S_l4Number)], [], gl, []⟩
theorem ef_S_l4Count (t0 : PV (.int .i64)) (t1 : PV (.int .i64)) : denF cx_S_l4Count 0 pl_S_l4Count Tryz.f74.ntmps (bodyOf Tryz.f74) Tryz.f74.results.toList [(.bor, (.int .i64)), (.bor, (.int .i64))] [(.str, .b)] (t0, t1, ()) = f_S_l4Count t0 t1 := by kernel_rfl
theorem ok_S_l4Count : FnOk gl Tryz.prog 74 ct_S_l4Count :=
  fnOk (cx := cx_S_l4Count) (pl := pl_S_l4Count) (dp := 0) (ok0_of tabOk (by unfold ArrOk; kernel_rfl) mix ⟨ok_S_l1Num, ok_S_l4Number, trivial⟩ trivial) Tryz.func74 (by kernel_rfl) (by kernel_rfl) (by kernel_rfl)
    (by rw [show loopsOf (bodyOf Tryz.f74) = [] from by kernel_rfl]; exact trivial) (fun x => ef_S_l4Count x.1 x.2.1)
noncomputable def sh_S_l1Text_3 : List Sh := mkSh 17 [(3, .val .str .b), (6, .val S_string .b), (7, .val (.int .i64) .b), (8, .val (.int .i64) .b)]
noncomputable def o_S_l1Text_3 : List Out := [⟨.exit 0, ⟨[], [3], []⟩, mkSh 17 [(3, .val .str .b)]⟩]
noncomputable def b_S_l1Text_3 (t3 : PV .str) (t6 : PV S_string) (t7 : PV (.int .i64)) (t8 : PV (.int .i64)) : Option ((PV .str × PV S_string × PV (.int .i64) × PV (.int .i64) × Unit) ⊕ ((PV .str × Unit))) :=
  bif (decide (t8 < t7)) then
    bif inB t8 t6.length then
      bif decide (t3.length + (t6.getD t8.toNat []).length ≤ 1099511627776) then
        some (.inl ((t3 ++ (t6.getD t8.toNat [])), t6, t7, (IntKind.wrap .i64 (t8 + 1)), ()))
      else
        none
    else
      none
  else
    some (.inr (t3, ()))
noncomputable def w_S_l1Text_3 : PV .str × PV S_string × PV (.int .i64) × PV (.int .i64) × Unit → Option ((PV .str × Unit)) := fix fun d => b_S_l1Text_3 d.1 d.2.1 d.2.2.1 d.2.2.2.1
noncomputable def lp_S_l1Text_3 : Lp := ⟨⟨[], [3, 6, 7, 8], []⟩, sh_S_l1Text_3, o_S_l1Text_3, fun d => b_S_l1Text_3 d.1 d.2.1 d.2.2.1 d.2.2.2.1⟩
noncomputable def pl_S_l1Text : Plan := ⟨[], [(3, lp_S_l1Text_3)], 0, 0⟩
noncomputable def f_S_l1Text (t0 : PV S_string) : Option (PVs [.str] × PVs []) :=
  (w_S_l1Text_3 ([], t0, (t0.length : Int), 0, ())).bind fun l2 =>
    some ((l2.1, ()), ())
noncomputable def ct_S_l1Text : Ct := ⟨[(.bor, S_string)], [(.str, .b)], fun x => f_S_l1Text x.1⟩
noncomputable def cx_S_l1Text : Cx := ⟨tab, arrs, [], [], gl, []⟩
theorem eb_S_l1Text_3 (t3 : PV .str) (t6 : PV S_string) (t7 : PV (.int .i64)) (t8 : PV (.int .i64)) : denK cx_S_l1Text (rcN cx_S_l1Text 0) pl_S_l1Text 0 ((loopsOf (bodyOf Tryz.f75)).getD 0 .skip) (fillS sh_S_l1Text_3 (t3, t6, t7, t8, ())) (roundK 0 lp_S_l1Text_3) = b_S_l1Text_3 t3 t6 t7 t8 := by kernel_rfl
theorem ef_S_l1Text (t0 : PV S_string) : denF cx_S_l1Text 0 pl_S_l1Text Tryz.f75.ntmps (bodyOf Tryz.f75) Tryz.f75.results.toList [(.bor, S_string)] [(.str, .b)] (t0, ()) = f_S_l1Text t0 := by kernel_rfl
theorem ok_S_l1Text : FnOk gl Tryz.prog 75 ct_S_l1Text :=
  fnOk (cx := cx_S_l1Text) (pl := pl_S_l1Text) (dp := 0) (ok0_of tabOk (by unfold ArrOk; kernel_rfl) mix trivial trivial) Tryz.func75 (by kernel_rfl) (by kernel_rfl) (by kernel_rfl)
    (by rw [show loopsOf (bodyOf Tryz.f75) = [((loopsOf (bodyOf Tryz.f75)).getD 0 .skip)] from by kernel_rfl]; exact ⟨(by rw [show lookup pl_S_l1Text.loops (firstId ((loopsOf (bodyOf Tryz.f75)).getD 0 .skip)) = some lp_S_l1Text_3 from by kernel_rfl]; exact fun d z h => (eb_S_l1Text_3 d.1 d.2.1 d.2.2.1 d.2.2.2.1).trans h), trivial⟩) (fun x => ef_S_l1Text x.1)
noncomputable def sh_S_l1Line_2 : List Sh := mkSh 18 [(0, .val .str .b), (3, .val (.int .i64) .b)]
noncomputable def o_S_l1Line_2 : List Out := [⟨.exit 0, ⟨[], [0], []⟩, mkSh 18 [(0, .val .str .b)]⟩, ⟨.ret, ⟨[], [2], []⟩, mkSh 18 [(2, .val .bool .b)]⟩]
noncomputable def b_S_l1Line_2 (t0 : PV .str) (t3 : PV (.int .i64)) : Option ((PV .str × PV (.int .i64) × Unit) ⊕ ((PV .str × Unit) ⊕ (PV .bool × Unit))) :=
  bif (decide (t3 < (IntKind.wrap .i64 ((t0.length : Int) - 1)))) then
    bif inB t3 t0.length then
      bif (((t0.getD t3.toNat 0).toNat : Int) == 10) then
        some (.inr (.inr (false, ())))
      else
        some (.inl (t0, (IntKind.wrap .i64 (t3 + 1)), ()))
    else
      none
  else
    some (.inr (.inl (t0, ())))
noncomputable def w_S_l1Line_2 : PV .str × PV (.int .i64) × Unit → Option ((PV .str × Unit) ⊕ (PV .bool × Unit)) := fix fun d => b_S_l1Line_2 d.1 d.2.1
noncomputable def lp_S_l1Line_2 : Lp := ⟨⟨[], [0, 3], []⟩, sh_S_l1Line_2, o_S_l1Line_2, fun d => b_S_l1Line_2 d.1 d.2.1⟩
noncomputable def pl_S_l1Line : Plan := ⟨[], [(2, lp_S_l1Line_2)], 0, 0⟩
noncomputable def f_S_l1Line (t0 : PV .str) : Option (PVs [.bool] × PVs []) :=
  (w_S_l1Line_2 (t0, 0, ())).bind fun x6 =>
    match x6 with
    | .inl l3 =>
      (f_S_l1In (l3.1.length : Int) 1 30).bind fun r4 =>
        some ((r4.1.1, ()), ())
    | .inr l5 =>
      some ((l5.1, ()), ())
noncomputable def ct_S_l1Line : Ct := ⟨[(.bor, .str)], [(.bool, .b)], fun x => f_S_l1Line x.1⟩
noncomputable def cx_S_l1Line : Cx := ⟨tab, arrs, [(133, ct_S_l1In)], [], gl, []⟩
theorem eb_S_l1Line_2 (t0 : PV .str) (t3 : PV (.int .i64)) : denK cx_S_l1Line (rcN cx_S_l1Line 0) pl_S_l1Line 0 ((loopsOf (bodyOf Tryz.f216)).getD 0 .skip) (fillS sh_S_l1Line_2 (t0, t3, ())) (roundK 0 lp_S_l1Line_2) = b_S_l1Line_2 t0 t3 := by kernel_rfl
theorem ef_S_l1Line (t0 : PV .str) : denF cx_S_l1Line 0 pl_S_l1Line Tryz.f216.ntmps (bodyOf Tryz.f216) Tryz.f216.results.toList [(.bor, .str)] [(.bool, .b)] (t0, ()) = f_S_l1Line t0 := by kernel_rfl
theorem ok_S_l1Line : FnOk gl Tryz.prog 216 ct_S_l1Line :=
  fnOk (cx := cx_S_l1Line) (pl := pl_S_l1Line) (dp := 0) (ok0_of tabOk (by unfold ArrOk; kernel_rfl) mix ⟨ok_S_l1In, trivial⟩ trivial) Tryz.func216 (by kernel_rfl) (by kernel_rfl) (by kernel_rfl)
    (by rw [show loopsOf (bodyOf Tryz.f216) = [((loopsOf (bodyOf Tryz.f216)).getD 0 .skip)] from by kernel_rfl]; exact ⟨(by rw [show lookup pl_S_l1Line.loops (firstId ((loopsOf (bodyOf Tryz.f216)).getD 0 .skip)) = some lp_S_l1Line_2 from by kernel_rfl]; exact fun d z h => (eb_S_l1Line_2 d.1 d.2.1).trans h), trivial⟩) (fun x => ef_S_l1Line x.1)
noncomputable def o_S_l6Old_7 : List Out := [⟨.normal, ⟨[], [3, 7, 8, 9], []⟩, mkSh 23 [(3, .val S_string (.row .b)), (7, .val S_impl_Row .b), (8, .val (.int .i64) .b), (9, .val (.int .i64) .b)]⟩]
noncomputable def sh_S_l6Old_3 : List Sh := mkSh 23 [(3, .val S_string (.row .b)), (7, .val S_impl_Row .b), (8, .val (.int .i64) .b), (9, .val (.int .i64) .b)]
noncomputable def o_S_l6Old_3 : List Out := [⟨.exit 0, ⟨[], [3], []⟩, mkSh 23 [(3, .val S_string (.row .b))]⟩]
noncomputable def b_S_l6Old_3 (t3 : PV S_string) (t7 : PV S_impl_Row) (t8 : PV (.int .i64)) (t9 : PV (.int .i64)) : Option ((PV S_string × PV S_impl_Row × PV (.int .i64) × PV (.int .i64) × Unit) ⊕ ((PV S_string × Unit))) :=
  bif (decide (t9 < t8)) then
    ((
        bif inB t9 t7.length then
          bif (!(((t7.getD t9.toNat (dflt Y_impl_Row)).1) == 3)) then
            bif roomB (t3.length + [((t7.getD t9.toNat (dflt Y_impl_Row)).2).1].length) then
              some ((t3 ++ [((t7.getD t9.toNat (dflt Y_impl_Row)).2).1]), t7, t8, t9, ())
            else
              none
          else
            some (t3, t7, t8, t9, ())
        else
          none : Option ((PV S_string × PV S_impl_Row × PV (.int .i64) × PV (.int .i64) × Unit)))).bind fun j1 =>
      some (.inl (j1.1, j1.2.1, j1.2.2.1, (IntKind.wrap .i64 (j1.2.2.2.1 + 1)), ()))
  else
    some (.inr (t3, ()))
noncomputable def w_S_l6Old_3 : PV S_string × PV S_impl_Row × PV (.int .i64) × PV (.int .i64) × Unit → Option ((PV S_string × Unit)) := fix fun d => b_S_l6Old_3 d.1 d.2.1 d.2.2.1 d.2.2.2.1
noncomputable def lp_S_l6Old_3 : Lp := ⟨⟨[], [3, 7, 8, 9], []⟩, sh_S_l6Old_3, o_S_l6Old_3, fun d => b_S_l6Old_3 d.1 d.2.1 d.2.2.1 d.2.2.2.1⟩
noncomputable def pl_S_l6Old : Plan := ⟨[(7, o_S_l6Old_7)], [(3, lp_S_l6Old_3)], 0, 0⟩
noncomputable def f_S_l6Old (t0 : PV Y_impl_Group) : Option (PVs [S_string] × PVs []) :=
  (w_S_l6Old_3 ([], t0.2.2.1, (t0.2.2.1.length : Int), 0, ())).bind fun l3 =>
    some ((l3.1, ()), ())
noncomputable def ct_S_l6Old : Ct := ⟨[(.bor, Y_impl_Group)], [(S_string, (.row .b))], fun x => f_S_l6Old x.1⟩
noncomputable def cx_S_l6Old : Cx := ⟨tab, arrs, [], [], gl, []⟩
theorem eb_S_l6Old_3 (t3 : PV S_string) (t7 : PV S_impl_Row) (t8 : PV (.int .i64)) (t9 : PV (.int .i64)) : denK cx_S_l6Old (rcN cx_S_l6Old 0) pl_S_l6Old 0 ((loopsOf (bodyOf Tryz.f141)).getD 0 .skip) (fillS sh_S_l6Old_3 (t3, t7, t8, t9, ())) (roundK 0 lp_S_l6Old_3) = b_S_l6Old_3 t3 t7 t8 t9 := by kernel_rfl
theorem ef_S_l6Old (t0 : PV Y_impl_Group) : denF cx_S_l6Old 0 pl_S_l6Old Tryz.f141.ntmps (bodyOf Tryz.f141) Tryz.f141.results.toList [(.bor, Y_impl_Group)] [(S_string, (.row .b))] (t0, ()) = f_S_l6Old t0 := by kernel_rfl
theorem ok_S_l6Old : FnOk gl Tryz.prog 141 ct_S_l6Old :=
  fnOk (cx := cx_S_l6Old) (pl := pl_S_l6Old) (dp := 0) (ok0_of tabOk (by unfold ArrOk; kernel_rfl) mix trivial trivial) Tryz.func141 (by kernel_rfl) (by kernel_rfl) (by kernel_rfl)
    (by rw [show loopsOf (bodyOf Tryz.f141) = [((loopsOf (bodyOf Tryz.f141)).getD 0 .skip)] from by kernel_rfl]; exact ⟨(by rw [show lookup pl_S_l6Old.loops (firstId ((loopsOf (bodyOf Tryz.f141)).getD 0 .skip)) = some lp_S_l6Old_3 from by kernel_rfl]; exact fun d z h => (eb_S_l6Old_3 d.1 d.2.1 d.2.2.1 d.2.2.2.1).trans h), trivial⟩) (fun x => ef_S_l6Old x.1)
noncomputable def o_S_l6New_7 : List Out := [⟨.normal, ⟨[], [3, 7, 8, 9], []⟩, mkSh 23 [(3, .val S_string (.row .b)), (7, .val S_impl_Row .b), (8, .val (.int .i64) .b), (9, .val (.int .i64) .b)]⟩]
noncomputable def sh_S_l6New_3 : List Sh := mkSh 23 [(3, .val S_string (.row .b)), (7, .val S_impl_Row .b), (8, .val (.int .i64) .b), (9, .val (.int .i64) .b)]
noncomputable def o_S_l6New_3 : List Out := [⟨.exit 0, ⟨[], [3], []⟩, mkSh 23 [(3, .val S_string (.row .b))]⟩]
noncomputable def b_S_l6New_3 (t3 : PV S_string) (t7 : PV S_impl_Row) (t8 : PV (.int .i64)) (t9 : PV (.int .i64)) : Option ((PV S_string × PV S_impl_Row × PV (.int .i64) × PV (.int .i64) × Unit) ⊕ ((PV S_string × Unit))) :=
  bif (decide (t9 < t8)) then
    ((
        bif inB t9 t7.length then
          bif (!(((t7.getD t9.toNat (dflt Y_impl_Row)).1) == 2)) then
            bif roomB (t3.length + [((t7.getD t9.toNat (dflt Y_impl_Row)).2).1].length) then
              some ((t3 ++ [((t7.getD t9.toNat (dflt Y_impl_Row)).2).1]), t7, t8, t9, ())
            else
              none
          else
            some (t3, t7, t8, t9, ())
        else
          none : Option ((PV S_string × PV S_impl_Row × PV (.int .i64) × PV (.int .i64) × Unit)))).bind fun j1 =>
      some (.inl (j1.1, j1.2.1, j1.2.2.1, (IntKind.wrap .i64 (j1.2.2.2.1 + 1)), ()))
  else
    some (.inr (t3, ()))
noncomputable def w_S_l6New_3 : PV S_string × PV S_impl_Row × PV (.int .i64) × PV (.int .i64) × Unit → Option ((PV S_string × Unit)) := fix fun d => b_S_l6New_3 d.1 d.2.1 d.2.2.1 d.2.2.2.1
noncomputable def lp_S_l6New_3 : Lp := ⟨⟨[], [3, 7, 8, 9], []⟩, sh_S_l6New_3, o_S_l6New_3, fun d => b_S_l6New_3 d.1 d.2.1 d.2.2.1 d.2.2.2.1⟩
noncomputable def pl_S_l6New : Plan := ⟨[(7, o_S_l6New_7)], [(3, lp_S_l6New_3)], 0, 0⟩
noncomputable def f_S_l6New (t0 : PV Y_impl_Group) : Option (PVs [S_string] × PVs []) :=
  (w_S_l6New_3 ([], t0.2.2.1, (t0.2.2.1.length : Int), 0, ())).bind fun l3 =>
    some ((l3.1, ()), ())
noncomputable def ct_S_l6New : Ct := ⟨[(.bor, Y_impl_Group)], [(S_string, (.row .b))], fun x => f_S_l6New x.1⟩
noncomputable def cx_S_l6New : Cx := ⟨tab, arrs, [], [], gl, []⟩
theorem eb_S_l6New_3 (t3 : PV S_string) (t7 : PV S_impl_Row) (t8 : PV (.int .i64)) (t9 : PV (.int .i64)) : denK cx_S_l6New (rcN cx_S_l6New 0) pl_S_l6New 0 ((loopsOf (bodyOf Tryz.f142)).getD 0 .skip) (fillS sh_S_l6New_3 (t3, t7, t8, t9, ())) (roundK 0 lp_S_l6New_3) = b_S_l6New_3 t3 t7 t8 t9 := by kernel_rfl
theorem ef_S_l6New (t0 : PV Y_impl_Group) : denF cx_S_l6New 0 pl_S_l6New Tryz.f142.ntmps (bodyOf Tryz.f142) Tryz.f142.results.toList [(.bor, Y_impl_Group)] [(S_string, (.row .b))] (t0, ()) = f_S_l6New t0 := by kernel_rfl
theorem ok_S_l6New : FnOk gl Tryz.prog 142 ct_S_l6New :=
  fnOk (cx := cx_S_l6New) (pl := pl_S_l6New) (dp := 0) (ok0_of tabOk (by unfold ArrOk; kernel_rfl) mix trivial trivial) Tryz.func142 (by kernel_rfl) (by kernel_rfl) (by kernel_rfl)
    (by rw [show loopsOf (bodyOf Tryz.f142) = [((loopsOf (bodyOf Tryz.f142)).getD 0 .skip)] from by kernel_rfl]; exact ⟨(by rw [show lookup pl_S_l6New.loops (firstId ((loopsOf (bodyOf Tryz.f142)).getD 0 .skip)) = some lp_S_l6New_3 from by kernel_rfl]; exact fun d z h => (eb_S_l6New_3 d.1 d.2.1 d.2.2.1 d.2.2.2.1).trans h), trivial⟩) (fun x => ef_S_l6New x.1)
noncomputable def o_S_l5Lines_5 : List Out := [⟨.normal, ⟨[], [0, 5, 6, 7, 26], []⟩, mkSh 31 [(0, .val S_string .b), (5, .val S_string .b), (6, .val (.int .i64) .b), (7, .val (.int .i64) .b), (26, .val .bool .b)]⟩]
noncomputable def sh_S_l5Lines_2 : List Sh := mkSh 31 [(0, .val S_string .b), (5, .val S_string .b), (6, .val (.int .i64) .b), (7, .val (.int .i64) .b)]
noncomputable def o_S_l5Lines_2 : List Out := [⟨.exit 0, ⟨[], [0], []⟩, mkSh 31 [(0, .val S_string .b)]⟩, ⟨.ret, ⟨[], [2], []⟩, mkSh 31 [(2, .val .bool .b)]⟩]
noncomputable def b_S_l5Lines_2 (t0 : PV S_string) (t5 : PV S_string) (t6 : PV (.int .i64)) (t7 : PV (.int .i64)) : Option ((PV S_string × PV S_string × PV (.int .i64) × PV (.int .i64) × Unit) ⊕ ((PV S_string × Unit) ⊕ (PV .bool × Unit))) :=
  bif (decide (t7 < t6)) then
    bif inB t7 t5.length then
      ((
          (f_S_l1Line (t5.getD t7.toNat [])).bind fun r4 =>
            bif (!r4.1.1) then
              some (t0, t5, t6, t7, true, ())
            else
              bif (decide (t7 < (IntKind.wrap .i64 ((t0.length : Int) - 1)))) then
                (f_S_l1Ends (t5.getD t7.toNat [])).bind fun r5 =>
                  some (t0, t5, t6, t7, (!r5.1.1), ())
              else
                some (t0, t5, t6, t7, false, ()) : Option ((PV S_string × PV S_string × PV (.int .i64) × PV (.int .i64) × PV .bool × Unit)))).bind fun j6 =>
        bif j6.2.2.2.2.1 then
          some (.inr (.inr (false, ())))
        else
          some (.inl (j6.1, j6.2.1, j6.2.2.1, (IntKind.wrap .i64 (j6.2.2.2.1 + 1)), ()))
    else
      none
  else
    some (.inr (.inl (t0, ())))
noncomputable def w_S_l5Lines_2 : PV S_string × PV S_string × PV (.int .i64) × PV (.int .i64) × Unit → Option ((PV S_string × Unit) ⊕ (PV .bool × Unit)) := fix fun d => b_S_l5Lines_2 d.1 d.2.1 d.2.2.1 d.2.2.2.1
noncomputable def lp_S_l5Lines_2 : Lp := ⟨⟨[], [0, 5, 6, 7, 16, 17, 18, 19, 20, 21, 22, 23, 24, 25], []⟩, sh_S_l5Lines_2, o_S_l5Lines_2, fun d => b_S_l5Lines_2 d.1 d.2.1 d.2.2.1 d.2.2.2.1⟩
noncomputable def pl_S_l5Lines : Plan := ⟨[(5, o_S_l5Lines_5)], [(2, lp_S_l5Lines_2)], 0, 0⟩
noncomputable def f_S_l5Lines (t0 : PV S_string) : Option (PVs [.bool] × PVs []) :=
  (w_S_l5Lines_2 (t0, t0, (t0.length : Int), 0, ())).bind fun x11 =>
    match x11 with
    | .inl l9 =>
      some (((decide ((l9.1.length : Int) ≤ 40)), ()), ())
    | .inr l10 =>
      some ((l10.1, ()), ())
noncomputable def ct_S_l5Lines : Ct := ⟨[(.bor, S_string)], [(.bool, .b)], fun x => f_S_l5Lines x.1⟩
noncomputable def cx_S_l5Lines : Cx := ⟨tab, arrs, [(76, ct_S_l1Ends), (216, ct_S_l1Line)], [], gl, []⟩
theorem eb_S_l5Lines_2 (t0 : PV S_string) (t5 : PV S_string) (t6 : PV (.int .i64)) (t7 : PV (.int .i64)) : denK cx_S_l5Lines (rcN cx_S_l5Lines 0) pl_S_l5Lines 0 ((loopsOf (bodyOf Tryz.f217)).getD 0 .skip) (fillS sh_S_l5Lines_2 (t0, t5, t6, t7, ())) (roundK 0 lp_S_l5Lines_2) = b_S_l5Lines_2 t0 t5 t6 t7 := by kernel_rfl
theorem ef_S_l5Lines (t0 : PV S_string) : denF cx_S_l5Lines 0 pl_S_l5Lines Tryz.f217.ntmps (bodyOf Tryz.f217) Tryz.f217.results.toList [(.bor, S_string)] [(.bool, .b)] (t0, ()) = f_S_l5Lines t0 := by kernel_rfl
theorem ok_S_l5Lines : FnOk gl Tryz.prog 217 ct_S_l5Lines :=
  fnOk (cx := cx_S_l5Lines) (pl := pl_S_l5Lines) (dp := 0) (ok0_of tabOk (by unfold ArrOk; kernel_rfl) mix ⟨ok_S_l1Ends, ok_S_l1Line, trivial⟩ trivial) Tryz.func217 (by kernel_rfl) (by kernel_rfl) (by kernel_rfl)
    (by rw [show loopsOf (bodyOf Tryz.f217) = [((loopsOf (bodyOf Tryz.f217)).getD 0 .skip)] from by kernel_rfl]; exact ⟨(by rw [show lookup pl_S_l5Lines.loops (firstId ((loopsOf (bodyOf Tryz.f217)).getD 0 .skip)) = some lp_S_l5Lines_2 from by kernel_rfl]; exact fun d z h => (eb_S_l5Lines_2 d.1 d.2.1 d.2.2.1 d.2.2.2.1).trans h), trivial⟩) (fun x => ef_S_l5Lines x.1)
noncomputable def o_S_l6Group_6 : List Out := [⟨.normal, ⟨[], [1, 3, 5, 7, 8, 9, 42, 45, 46, 47, 52, 53, 54, 57, 58, 59, 62, 63, 64, 65, 66, 67, 68, 71, 72, 73, 74, 75, 76, 77, 80, 81, 82, 83, 86, 87, 88, 91, 92, 93], []⟩, mkSh 95 [(1, .var Y_impl_Group .b), (3, .val .bool .b), (5, .var Y_impl_Row .b), (7, .val S_impl_Row .b), (8, .val (.int .i64) .b), (9, .val (.int .i64) .b), (42, .val .bool .b)]⟩]
noncomputable def o_S_l6Group_8 : List Out := [⟨.normal, ⟨[], [1, 3, 5, 7, 8, 9, 19, 20, 21, 22, 25, 26, 27, 28, 29, 30, 31, 32, 33, 34, 35, 36, 37, 38, 39, 40, 41, 52, 53, 54, 57, 58, 59, 62, 63, 64, 65, 66, 67, 68, 71, 72, 73, 74, 75, 76, 77, 80, 81, 82, 83, 86, 87, 88, 91, 92, 93], []⟩, mkSh 95 [(1, .var Y_impl_Group .b), (3, .val .bool .b), (5, .var Y_impl_Row .b), (7, .val S_impl_Row .b), (8, .val (.int .i64) .b), (9, .val (.int .i64) .b)]⟩, ⟨.ret, ⟨[], [2], []⟩, mkSh 95 [(2, .val .bool .b)]⟩]
noncomputable def sh_S_l6Group_3 : List Sh := mkSh 95 [(1, .var Y_impl_Group .b), (3, .val .bool .b), (7, .val S_impl_Row .b), (8, .val (.int .i64) .b), (9, .val (.int .i64) .b)]
noncomputable def o_S_l6Group_3 : List Out := [⟨.exit 0, ⟨[], [1, 3, 52, 53, 54, 57, 58, 59, 62, 63, 64, 65, 66, 67, 68, 71, 72, 73, 74, 75, 76, 77, 80, 81, 82, 83, 86, 87, 88, 91, 92, 93], []⟩, mkSh 95 [(1, .var Y_impl_Group .b), (3, .val .bool .b)]⟩, ⟨.ret, ⟨[], [2], []⟩, mkSh 95 [(2, .val .bool .b)]⟩]
noncomputable def b_S_l6Group_3 (t1 : PV Y_impl_Group) (t3 : PV .bool) (t7 : PV S_impl_Row) (t8 : PV (.int .i64)) (t9 : PV (.int .i64)) : Option ((PV Y_impl_Group × PV .bool × PV S_impl_Row × PV (.int .i64) × PV (.int .i64) × Unit) ⊕ ((PV Y_impl_Group × PV .bool × Unit) ⊕ (PV .bool × Unit))) :=
  bif (decide (t9 < t8)) then
    ((
        bif inB t9 t7.length then
          ((
              (f_S_l1In ((t7.getD t9.toNat (dflt Y_impl_Row)).1) 1 3).bind fun r4 =>
                bif (!r4.1.1) then
                  some (t1, t3, (t7.getD t9.toNat (dflt Y_impl_Row)), t7, t8, t9, true, ())
                else
                  (f_S_l1Line (((t7.getD t9.toNat (dflt Y_impl_Row)).2).1)).bind fun r5 =>
                    bif (!r5.1.1) then
                      some (t1, t3, (t7.getD t9.toNat (dflt Y_impl_Row)), t7, t8, t9, true, ())
                    else
                      bif (decide (t9 > 0)) then
                        bif (((t7.getD t9.toNat (dflt Y_impl_Row)).1) == 2) then
                          bif inB (IntKind.wrap .i64 (t9 - 1)) t1.2.2.1.length then
                            some (t1, t3, (t7.getD t9.toNat (dflt Y_impl_Row)), t7, t8, t9, (((t1.2.2.1.getD ((IntKind.wrap .i64 (t9 - 1)).toNat) (dflt Y_impl_Row)).1) == 3), ())
                          else
                            none
                        else
                          some (t1, t3, (t7.getD t9.toNat (dflt Y_impl_Row)), t7, t8, t9, false, ())
                      else
                        some (t1, t3, (t7.getD t9.toNat (dflt Y_impl_Row)), t7, t8, t9, false, ()) : Option ((PV Y_impl_Group × PV .bool × PV Y_impl_Row × PV S_impl_Row × PV (.int .i64) × PV (.int .i64) × PV .bool × Unit)))).bind fun j6 =>
            bif j6.2.2.2.2.2.2.1 then
              some (.inr (false, ()))
            else
              bif j6.2.1 then
                some (.inl (j6.1, true, j6.2.2.1, j6.2.2.2.1, j6.2.2.2.2.1, j6.2.2.2.2.2.1, ()))
              else
                some (.inl (j6.1, (!(j6.2.2.1.1 == 1)), j6.2.2.1, j6.2.2.2.1, j6.2.2.2.2.1, j6.2.2.2.2.2.1, ()))
        else
          none : Option ((PV Y_impl_Group × PV .bool × PV Y_impl_Row × PV S_impl_Row × PV (.int .i64) × PV (.int .i64) × Unit) ⊕ (PV .bool × Unit)))).bind fun x21 =>
      match x21 with
      | .inl j7 =>
        some (.inl (j7.1, j7.2.1, j7.2.2.2.1, j7.2.2.2.2.1, (IntKind.wrap .i64 (j7.2.2.2.2.2.1 + 1)), ()))
      | .inr j8 =>
        some (.inr (.inr (j8.1, ())))
  else
    some (.inr (.inl (t1, t3, ())))
noncomputable def w_S_l6Group_3 : PV Y_impl_Group × PV .bool × PV S_impl_Row × PV (.int .i64) × PV (.int .i64) × Unit → Option ((PV Y_impl_Group × PV .bool × Unit) ⊕ (PV .bool × Unit)) := fix fun d => b_S_l6Group_3 d.1 d.2.1 d.2.2.1 d.2.2.2.1 d.2.2.2.2.1
noncomputable def lp_S_l6Group_3 : Lp := ⟨⟨[], [1, 3, 7, 8, 9, 19, 20, 21, 22, 25, 26, 27, 28, 29, 30, 31, 32, 33, 34, 35, 36, 37, 38, 39, 40, 41, 45, 46, 47, 52, 53, 54, 57, 58, 59, 62, 63, 64, 65, 66, 67, 68, 71, 72, 73, 74, 75, 76, 77, 80, 81, 82, 83, 86, 87, 88, 91, 92, 93], []⟩, sh_S_l6Group_3, o_S_l6Group_3, fun d => b_S_l6Group_3 d.1 d.2.1 d.2.2.1 d.2.2.2.1 d.2.2.2.2.1⟩
noncomputable def pl_S_l6Group : Plan := ⟨[(6, o_S_l6Group_6), (8, o_S_l6Group_8)], [(3, lp_S_l6Group_3)], 0, 0⟩
noncomputable def f_S_l6Group (t0 : PV Y_impl_Group) : Option (PVs [.bool] × PVs []) :=
  (w_S_l6Group_3 (t0, false, t0.2.2.1, (t0.2.2.1.length : Int), 0, ())).bind fun x22 =>
    match x22 with
    | .inl l11 =>
      bif l11.2.1 then
        (f_S_l1In l11.1.1 0 999).bind fun r12 =>
          bif r12.1.1 then
            (f_S_l1In l11.1.2.1 0 999).bind fun r13 =>
              bif r13.1.1 then
                (f_S_l6Old l11.1).bind fun r14 =>
                  bif (decide ((IntKind.wrap .i64 (l11.1.1 + (r14.1.1.length : Int))) ≤ 1000)) then
                    (f_S_l6New l11.1).bind fun r15 =>
                      bif (decide ((IntKind.wrap .i64 (l11.1.2.1 + (r15.1.1.length : Int))) ≤ 1000)) then
                        bif (decide ((l11.1.2.2.1.length : Int) ≤ 80)) then
                          (f_S_l6Old l11.1).bind fun r16 =>
                            (f_S_l5Lines r16.1.1).bind fun r17 =>
                              bif r17.1.1 then
                                (f_S_l6New l11.1).bind fun r18 =>
                                  (f_S_l5Lines r18.1.1).bind fun r19 =>
                                    some ((r19.1.1, ()), ())
                              else
                                some ((false, ()), ())
                        else
                          some ((false, ()), ())
                      else
                        some ((false, ()), ())
                  else
                    some ((false, ()), ())
              else
                some ((false, ()), ())
          else
            some ((false, ()), ())
      else
        some ((false, ()), ())
    | .inr l20 =>
      some ((l20.1, ()), ())
noncomputable def ct_S_l6Group : Ct := ⟨[(.bor, Y_impl_Group)], [(.bool, .b)], fun x => f_S_l6Group x.1⟩
noncomputable def cx_S_l6Group : Cx := ⟨tab, arrs, [(133, ct_S_l1In), (141, ct_S_l6Old), (142, ct_S_l6New), (216, ct_S_l1Line), (217, ct_S_l5Lines)], [], gl, []⟩
theorem eb_S_l6Group_3 (t1 : PV Y_impl_Group) (t3 : PV .bool) (t7 : PV S_impl_Row) (t8 : PV (.int .i64)) (t9 : PV (.int .i64)) : denK cx_S_l6Group (rcN cx_S_l6Group 0) pl_S_l6Group 0 ((loopsOf (bodyOf Tryz.f140)).getD 0 .skip) (fillS sh_S_l6Group_3 (t1, t3, t7, t8, t9, ())) (roundK 0 lp_S_l6Group_3) = b_S_l6Group_3 t1 t3 t7 t8 t9 := by kernel_rfl
theorem ef_S_l6Group (t0 : PV Y_impl_Group) : denF cx_S_l6Group 0 pl_S_l6Group Tryz.f140.ntmps (bodyOf Tryz.f140) Tryz.f140.results.toList [(.bor, Y_impl_Group)] [(.bool, .b)] (t0, ()) = f_S_l6Group t0 := by kernel_rfl
theorem ok_S_l6Group : FnOk gl Tryz.prog 140 ct_S_l6Group :=
  fnOk (cx := cx_S_l6Group) (pl := pl_S_l6Group) (dp := 0) (ok0_of tabOk (by unfold ArrOk; kernel_rfl) mix ⟨ok_S_l1In, ok_S_l6Old, ok_S_l6New, ok_S_l1Line, ok_S_l5Lines, trivial⟩ trivial) Tryz.func140 (by kernel_rfl) (by kernel_rfl) (by kernel_rfl)
    (by rw [show loopsOf (bodyOf Tryz.f140) = [((loopsOf (bodyOf Tryz.f140)).getD 0 .skip)] from by kernel_rfl]; exact ⟨(by rw [show lookup pl_S_l6Group.loops (firstId ((loopsOf (bodyOf Tryz.f140)).getD 0 .skip)) = some lp_S_l6Group_3 from by kernel_rfl]; exact fun d z h => (eb_S_l6Group_3 d.1 d.2.1 d.2.2.1 d.2.2.2.1 d.2.2.2.2.1).trans h), trivial⟩) (fun x => ef_S_l6Group x.1)
noncomputable def o_S_l6Good_7 : List Out := [⟨.normal, ⟨[], [0, 4, 5, 6, 7, 54], []⟩, mkSh 59 [(0, .val S_impl_Group .b), (4, .var Y_impl_Group .b), (5, .val S_impl_Group .b), (6, .val (.int .i64) .b), (7, .val (.int .i64) .b), (54, .val .bool .b)]⟩]
noncomputable def sh_S_l6Good_2 : List Sh := mkSh 59 [(0, .val S_impl_Group .b), (5, .val S_impl_Group .b), (6, .val (.int .i64) .b), (7, .val (.int .i64) .b)]
noncomputable def o_S_l6Good_2 : List Out := [⟨.exit 0, ⟨[], [0], []⟩, mkSh 59 [(0, .val S_impl_Group .b)]⟩, ⟨.ret, ⟨[], [2], []⟩, mkSh 59 [(2, .val .bool .b)]⟩]
noncomputable def b_S_l6Good_2 (t0 : PV S_impl_Group) (t5 : PV S_impl_Group) (t6 : PV (.int .i64)) (t7 : PV (.int .i64)) : Option ((PV S_impl_Group × PV S_impl_Group × PV (.int .i64) × PV (.int .i64) × Unit) ⊕ ((PV S_impl_Group × Unit) ⊕ (PV .bool × Unit))) :=
  bif (decide (t7 < t6)) then
    bif inB t7 t5.length then
      (f_S_l6Group (t5.getD t7.toNat (dflt Y_impl_Group))).bind fun r11 =>
        bif (!r11.1.1) then
          some (.inr (.inr (false, ())))
        else
          ((
              bif (decide (t7 > 0)) then
                bif inB (IntKind.wrap .i64 (t7 - 1)) t0.length then
                  bif inB (IntKind.wrap .i64 (t7 - 1)) t0.length then
                    (f_S_l6Old (t0.getD ((IntKind.wrap .i64 (t7 - 1)).toNat) (dflt Y_impl_Group))).bind fun r12 =>
                      bif (decide (((t5.getD t7.toNat (dflt Y_impl_Group)).1) < (IntKind.wrap .i64 (((t0.getD ((IntKind.wrap .i64 (t7 - 1)).toNat) (dflt Y_impl_Group)).1) + (r12.1.1.length : Int))))) then
                        some (t0, (t5.getD t7.toNat (dflt Y_impl_Group)), t5, t6, t7, true, ())
                      else
                        bif inB (IntKind.wrap .i64 (t7 - 1)) t0.length then
                          bif inB (IntKind.wrap .i64 (t7 - 1)) t0.length then
                            (f_S_l6New (t0.getD ((IntKind.wrap .i64 (t7 - 1)).toNat) (dflt Y_impl_Group))).bind fun r13 =>
                              some (t0, (t5.getD t7.toNat (dflt Y_impl_Group)), t5, t6, t7, (decide ((((t5.getD t7.toNat (dflt Y_impl_Group)).2).1) < (IntKind.wrap .i64 ((((t0.getD ((IntKind.wrap .i64 (t7 - 1)).toNat) (dflt Y_impl_Group)).2).1) + (r13.1.1.length : Int))))), ())
                          else
                            none
                        else
                          none
                  else
                    none
                else
                  none
              else
                some (t0, (t5.getD t7.toNat (dflt Y_impl_Group)), t5, t6, t7, false, ()) : Option ((PV S_impl_Group × PV Y_impl_Group × PV S_impl_Group × PV (.int .i64) × PV (.int .i64) × PV .bool × Unit)))).bind fun j14 =>
            bif j14.2.2.2.2.2.1 then
              some (.inr (.inr (false, ())))
            else
              some (.inl (j14.1, j14.2.2.1, j14.2.2.2.1, (IntKind.wrap .i64 (j14.2.2.2.2.1 + 1)), ()))
    else
      none
  else
    some (.inr (.inl (t0, ())))
noncomputable def w_S_l6Good_2 : PV S_impl_Group × PV S_impl_Group × PV (.int .i64) × PV (.int .i64) × Unit → Option ((PV S_impl_Group × Unit) ⊕ (PV .bool × Unit)) := fix fun d => b_S_l6Good_2 d.1 d.2.1 d.2.2.1 d.2.2.2.1
noncomputable def lp_S_l6Good_2 : Lp := ⟨⟨[], [0, 5, 6, 7, 18, 19, 20, 21, 22, 23, 24, 25, 26, 27, 28, 29, 30, 31, 32, 33, 34, 35, 36, 37, 38, 39, 40, 41, 42, 43, 44, 45, 46, 47, 48, 49, 50, 51, 52, 53], []⟩, sh_S_l6Good_2, o_S_l6Good_2, fun d => b_S_l6Good_2 d.1 d.2.1 d.2.2.1 d.2.2.2.1⟩
noncomputable def pl_S_l6Good : Plan := ⟨[(7, o_S_l6Good_7)], [(2, lp_S_l6Good_2)], 0, 0⟩
noncomputable def f_S_l6Good (t0 : PV S_impl_Group) : Option (PVs [.bool] × PVs []) :=
  (w_S_l6Good_2 (t0, t0, (t0.length : Int), 0, ())).bind fun x19 =>
    match x19 with
    | .inl l17 =>
      some (((decide ((l17.1.length : Int) ≤ 20)), ()), ())
    | .inr l18 =>
      some ((l18.1, ()), ())
noncomputable def ct_S_l6Good : Ct := ⟨[(.bor, S_impl_Group)], [(.bool, .b)], fun x => f_S_l6Good x.1⟩
noncomputable def cx_S_l6Good : Cx := ⟨tab, arrs, [(140, ct_S_l6Group), (141, ct_S_l6Old), (142, ct_S_l6New)], [], gl, []⟩
theorem eb_S_l6Good_2 (t0 : PV S_impl_Group) (t5 : PV S_impl_Group) (t6 : PV (.int .i64)) (t7 : PV (.int .i64)) : denK cx_S_l6Good (rcN cx_S_l6Good 0) pl_S_l6Good 0 ((loopsOf (bodyOf Tryz.f77)).getD 0 .skip) (fillS sh_S_l6Good_2 (t0, t5, t6, t7, ())) (roundK 0 lp_S_l6Good_2) = b_S_l6Good_2 t0 t5 t6 t7 := by kernel_rfl
theorem ef_S_l6Good (t0 : PV S_impl_Group) : denF cx_S_l6Good 0 pl_S_l6Good Tryz.f77.ntmps (bodyOf Tryz.f77) Tryz.f77.results.toList [(.bor, S_impl_Group)] [(.bool, .b)] (t0, ()) = f_S_l6Good t0 := by kernel_rfl
theorem ok_S_l6Good : FnOk gl Tryz.prog 77 ct_S_l6Good :=
  fnOk (cx := cx_S_l6Good) (pl := pl_S_l6Good) (dp := 0) (ok0_of tabOk (by unfold ArrOk; kernel_rfl) mix ⟨ok_S_l6Group, ok_S_l6Old, ok_S_l6New, trivial⟩ trivial) Tryz.func77 (by kernel_rfl) (by kernel_rfl) (by kernel_rfl)
    (by rw [show loopsOf (bodyOf Tryz.f77) = [((loopsOf (bodyOf Tryz.f77)).getD 0 .skip)] from by kernel_rfl]; exact ⟨(by rw [show lookup pl_S_l6Good.loops (firstId ((loopsOf (bodyOf Tryz.f77)).getD 0 .skip)) = some lp_S_l6Good_2 from by kernel_rfl]; exact fun d z h => (eb_S_l6Good_2 d.1 d.2.1 d.2.2.1 d.2.2.2.1).trans h), trivial⟩) (fun x => ef_S_l6Good x.1)
noncomputable def pl_S_l7Sign : Plan := ⟨[], [], 0, 0⟩
noncomputable def f_S_l7Sign (t0 : PV (.int .i64)) : Option (PVs [.str] × PVs []) :=
  bif cutB t0 (IntKind.wrap .i64 (t0 + 1)) [63, 32, 45, 43].length then
    some (((cutL t0 (IntKind.wrap .i64 (t0 + 1)) [63, 32, 45, 43]), ()), ())
  else
    none
noncomputable def ct_S_l7Sign : Ct := ⟨[(.bor, (.int .i64))], [(.str, .b)], fun x => f_S_l7Sign x.1⟩
noncomputable def cx_S_l7Sign : Cx := ⟨tab, arrs, [], [], gl, []⟩
theorem ef_S_l7Sign (t0 : PV (.int .i64)) : denF cx_S_l7Sign 0 pl_S_l7Sign Tryz.f144.ntmps (bodyOf Tryz.f144) Tryz.f144.results.toList [(.bor, (.int .i64))] [(.str, .b)] (t0, ()) = f_S_l7Sign t0 := by kernel_rfl
theorem ok_S_l7Sign : FnOk gl Tryz.prog 144 ct_S_l7Sign :=
  fnOk (cx := cx_S_l7Sign) (pl := pl_S_l7Sign) (dp := 0) (ok0_of tabOk (by unfold ArrOk; kernel_rfl) mix trivial trivial) Tryz.func144 (by kernel_rfl) (by kernel_rfl) (by kernel_rfl)
    (by rw [show loopsOf (bodyOf Tryz.f144) = [] from by kernel_rfl]; exact trivial) (fun x => ef_S_l7Sign x.1)
noncomputable def pl_S_l5Shown : Plan := ⟨[], [], 0, 0⟩
noncomputable def f_S_l5Shown (t0 : PV .str) (t1 : PV .str) : Option (PVs [.str] × PVs []) :=
  (f_S_l1Ends t1).bind fun r4 =>
    bif r4.1.1 then
      bif decide (t0.length + t1.length ≤ 1099511627776) then
        some (((t0 ++ t1), ()), ())
      else
        none
    else
      bif decide (t0.length + t1.length ≤ 1099511627776) then
        bif decide ((t0 ++ t1).length + [10, 92, 32, 110, 111, 110, 101, 10].length ≤ 1099511627776) then
          some ((((t0 ++ t1) ++ [10, 92, 32, 110, 111, 110, 101, 10]), ()), ())
        else
          none
      else
        none
noncomputable def ct_S_l5Shown : Ct := ⟨[(.bor, .str), (.bor, .str)], [(.str, .b)], fun x => f_S_l5Shown x.1 x.2.1⟩
noncomputable def cx_S_l5Shown : Cx := ⟨tab, arrs, [(76, ct_S_l1Ends)], [], gl, []⟩
theorem ef_S_l5Shown (t0 : PV .str) (t1 : PV .str) : denF cx_S_l5Shown 0 pl_S_l5Shown Tryz.f143.ntmps (bodyOf Tryz.f143) Tryz.f143.results.toList [(.bor, .str), (.bor, .str)] [(.str, .b)] (t0, t1, ()) = f_S_l5Shown t0 t1 := by kernel_rfl
theorem ok_S_l5Shown : FnOk gl Tryz.prog 143 ct_S_l5Shown :=
  fnOk (cx := cx_S_l5Shown) (pl := pl_S_l5Shown) (dp := 0) (ok0_of tabOk (by unfold ArrOk; kernel_rfl) mix ⟨ok_S_l1Ends, trivial⟩ trivial) Tryz.func143 (by kernel_rfl) (by kernel_rfl) (by kernel_rfl)
    (by rw [show loopsOf (bodyOf Tryz.f143) = [] from by kernel_rfl]; exact trivial) (fun x => ef_S_l5Shown x.1 x.2.1)
noncomputable def sh_S_l7Text_7 : List Sh := mkSh 50 [(3, .val .str .b), (8, .val S_impl_Group .b), (9, .val (.int .i64) .b), (10, .val (.int .i64) .b), (33, .val S_impl_Row .b), (34, .val (.int .i64) .b), (35, .val (.int .i64) .b)]
noncomputable def o_S_l7Text_7 : List Out := [⟨.exit 2, ⟨[], [3, 8, 9, 10], []⟩, mkSh 50 [(3, .val .str .b), (8, .val S_impl_Group .b), (9, .val (.int .i64) .b), (10, .val (.int .i64) .b)]⟩]
noncomputable def b_S_l7Text_7 (t3 : PV .str) (t8 : PV S_impl_Group) (t9 : PV (.int .i64)) (t10 : PV (.int .i64)) (t33 : PV S_impl_Row) (t34 : PV (.int .i64)) (t35 : PV (.int .i64)) : Option ((PV .str × PV S_impl_Group × PV (.int .i64) × PV (.int .i64) × PV S_impl_Row × PV (.int .i64) × PV (.int .i64) × Unit) ⊕ ((PV .str × PV S_impl_Group × PV (.int .i64) × PV (.int .i64) × Unit))) :=
  bif (decide (t35 < t34)) then
    bif inB t35 t33.length then
      (f_S_l7Sign ((t33.getD t35.toNat (dflt Y_impl_Row)).1)).bind fun r11 =>
        (f_S_l5Shown r11.1.1 (((t33.getD t35.toNat (dflt Y_impl_Row)).2).1)).bind fun r12 =>
          bif decide (t3.length + r12.1.1.length ≤ 1099511627776) then
            some (.inl ((t3 ++ r12.1.1), t8, t9, t10, t33, t34, (IntKind.wrap .i64 (t35 + 1)), ()))
          else
            none
    else
      none
  else
    some (.inr (t3, t8, t9, t10, ()))
noncomputable def w_S_l7Text_7 : PV .str × PV S_impl_Group × PV (.int .i64) × PV (.int .i64) × PV S_impl_Row × PV (.int .i64) × PV (.int .i64) × Unit → Option ((PV .str × PV S_impl_Group × PV (.int .i64) × PV (.int .i64) × Unit)) := fix fun d => b_S_l7Text_7 d.1 d.2.1 d.2.2.1 d.2.2.2.1 d.2.2.2.2.1 d.2.2.2.2.2.1 d.2.2.2.2.2.2.1
noncomputable def lp_S_l7Text_7 : Lp := ⟨⟨[], [3, 8, 9, 10, 33, 34, 35], []⟩, sh_S_l7Text_7, o_S_l7Text_7, fun d => b_S_l7Text_7 d.1 d.2.1 d.2.2.1 d.2.2.2.1 d.2.2.2.2.1 d.2.2.2.2.2.1 d.2.2.2.2.2.2.1⟩
noncomputable def sh_S_l7Text_3 : List Sh := mkSh 50 [(3, .val .str .b), (8, .val S_impl_Group .b), (9, .val (.int .i64) .b), (10, .val (.int .i64) .b)]
noncomputable def o_S_l7Text_3 : List Out := [⟨.exit 0, ⟨[], [3], []⟩, mkSh 50 [(3, .val .str .b)]⟩]
noncomputable def b_S_l7Text_3 (t3 : PV .str) (t8 : PV S_impl_Group) (t9 : PV (.int .i64)) (t10 : PV (.int .i64)) : Option ((PV .str × PV S_impl_Group × PV (.int .i64) × PV (.int .i64) × Unit) ⊕ ((PV .str × Unit))) :=
  bif (decide (t10 < t9)) then
    bif inB t10 t8.length then
      (f_S_l6Old (t8.getD t10.toNat (dflt Y_impl_Group))).bind fun r14 =>
        (f_S_l4Count ((t8.getD t10.toNat (dflt Y_impl_Group)).1) (r14.1.1.length : Int)).bind fun r15 =>
          bif decide ([64, 64, 32, 45].length + r15.1.1.length ≤ 1099511627776) then
            bif decide (([64, 64, 32, 45] ++ r15.1.1).length + [32, 43].length ≤ 1099511627776) then
              (f_S_l6New (t8.getD t10.toNat (dflt Y_impl_Group))).bind fun r16 =>
                (f_S_l4Count (((t8.getD t10.toNat (dflt Y_impl_Group)).2).1) (r16.1.1.length : Int)).bind fun r17 =>
                  bif decide ((([64, 64, 32, 45] ++ r15.1.1) ++ [32, 43]).length + r17.1.1.length ≤ 1099511627776) then
                    bif decide (((([64, 64, 32, 45] ++ r15.1.1) ++ [32, 43]) ++ r17.1.1).length + [32, 64, 64, 10].length ≤ 1099511627776) then
                      bif decide (t3.length + (((([64, 64, 32, 45] ++ r15.1.1) ++ [32, 43]) ++ r17.1.1) ++ [32, 64, 64, 10]).length ≤ 1099511627776) then
                        (w_S_l7Text_7 ((t3 ++ (((([64, 64, 32, 45] ++ r15.1.1) ++ [32, 43]) ++ r17.1.1) ++ [32, 64, 64, 10])), t8, t9, t10, (((t8.getD t10.toNat (dflt Y_impl_Group)).2).2).1, (((((t8.getD t10.toNat (dflt Y_impl_Group)).2).2).1).length : Int), 0, ())).bind fun l18 =>
                          some (.inl (l18.1, l18.2.1, l18.2.2.1, (IntKind.wrap .i64 (l18.2.2.2.1 + 1)), ()))
                      else
                        none
                    else
                      none
                  else
                    none
            else
              none
          else
            none
    else
      none
  else
    some (.inr (t3, ()))
noncomputable def w_S_l7Text_3 : PV .str × PV S_impl_Group × PV (.int .i64) × PV (.int .i64) × Unit → Option ((PV .str × Unit)) := fix fun d => b_S_l7Text_3 d.1 d.2.1 d.2.2.1 d.2.2.2.1
noncomputable def lp_S_l7Text_3 : Lp := ⟨⟨[], [3, 8, 9, 10], []⟩, sh_S_l7Text_3, o_S_l7Text_3, fun d => b_S_l7Text_3 d.1 d.2.1 d.2.2.1 d.2.2.2.1⟩
noncomputable def pl_S_l7Text : Plan := ⟨[], [(7, lp_S_l7Text_7), (3, lp_S_l7Text_3)], 0, 0⟩
noncomputable def f_S_l7Text (t0 : PV S_impl_Group) : Option (PVs [.str] × PVs []) :=
  (w_S_l7Text_3 ([], t0, (t0.length : Int), 0, ())).bind fun l20 =>
    some ((l20.1, ()), ())
noncomputable def ct_S_l7Text : Ct := ⟨[(.bor, S_impl_Group)], [(.str, .b)], fun x => f_S_l7Text x.1⟩
noncomputable def cx_S_l7Text : Cx := ⟨tab, arrs, [(74, ct_S_l4Count), (141, ct_S_l6Old), (142, ct_S_l6New), (143, ct_S_l5Shown), (144, ct_S_l7Sign)], [], gl, []⟩
theorem eb_S_l7Text_3 (t3 : PV .str) (t8 : PV S_impl_Group) (t9 : PV (.int .i64)) (t10 : PV (.int .i64)) : denK cx_S_l7Text (rcN cx_S_l7Text 0) pl_S_l7Text 0 ((loopsOf (bodyOf Tryz.f78)).getD 0 .skip) (fillS sh_S_l7Text_3 (t3, t8, t9, t10, ())) (roundK 0 lp_S_l7Text_3) = b_S_l7Text_3 t3 t8 t9 t10 := by kernel_rfl
theorem eb_S_l7Text_7 (t3 : PV .str) (t8 : PV S_impl_Group) (t9 : PV (.int .i64)) (t10 : PV (.int .i64)) (t33 : PV S_impl_Row) (t34 : PV (.int .i64)) (t35 : PV (.int .i64)) : denK cx_S_l7Text (rcN cx_S_l7Text 0) pl_S_l7Text 0 ((loopsOf (bodyOf Tryz.f78)).getD 1 .skip) (fillS sh_S_l7Text_7 (t3, t8, t9, t10, t33, t34, t35, ())) (roundK 0 lp_S_l7Text_7) = b_S_l7Text_7 t3 t8 t9 t10 t33 t34 t35 := by kernel_rfl
theorem ef_S_l7Text (t0 : PV S_impl_Group) : denF cx_S_l7Text 0 pl_S_l7Text Tryz.f78.ntmps (bodyOf Tryz.f78) Tryz.f78.results.toList [(.bor, S_impl_Group)] [(.str, .b)] (t0, ()) = f_S_l7Text t0 := by kernel_rfl
theorem ok_S_l7Text : FnOk gl Tryz.prog 78 ct_S_l7Text :=
  fnOk (cx := cx_S_l7Text) (pl := pl_S_l7Text) (dp := 0) (ok0_of tabOk (by unfold ArrOk; kernel_rfl) mix ⟨ok_S_l4Count, ok_S_l6Old, ok_S_l6New, ok_S_l5Shown, ok_S_l7Sign, trivial⟩ trivial) Tryz.func78 (by kernel_rfl) (by kernel_rfl) (by kernel_rfl)
    (by rw [show loopsOf (bodyOf Tryz.f78) = [((loopsOf (bodyOf Tryz.f78)).getD 0 .skip), ((loopsOf (bodyOf Tryz.f78)).getD 1 .skip)] from by kernel_rfl]; exact ⟨(by rw [show lookup pl_S_l7Text.loops (firstId ((loopsOf (bodyOf Tryz.f78)).getD 0 .skip)) = some lp_S_l7Text_3 from by kernel_rfl]; exact fun d z h => (eb_S_l7Text_3 d.1 d.2.1 d.2.2.1 d.2.2.2.1).trans h), (by rw [show lookup pl_S_l7Text.loops (firstId ((loopsOf (bodyOf Tryz.f78)).getD 1 .skip)) = some lp_S_l7Text_7 from by kernel_rfl]; exact fun d z h => (eb_S_l7Text_7 d.1 d.2.1 d.2.2.1 d.2.2.2.1 d.2.2.2.2.1 d.2.2.2.2.2.1 d.2.2.2.2.2.2.1).trans h), trivial⟩) (fun x => ef_S_l7Text x.1)
noncomputable def o_S_ReadUnified_19 : List Out := [⟨.normal, ⟨[], [6, 87], []⟩, mkSh 89 [(6, .val S_impl_Group (.row (.pr .b (.pr .b (.pr (.row (.pr .b (.pr .b .b))) .b))))), (87, .val .bool .b)]⟩]
noncomputable def sh_S_ReadUnified_6 : List Sh := mkSh 89 [(5, .val S_string .b), (6, .val S_impl_Group (.row (.pr .b (.pr .b (.pr (.row (.pr .b (.pr .b .b))) .b))))), (7, .val .str .b)]
noncomputable def o_S_ReadUnified_6 : List Out := [⟨.exit 0, ⟨[], [6, 7, 83, 84, 85, 86], []⟩, mkSh 89 [(6, .val S_impl_Group (.row (.pr .b (.pr .b (.pr (.row (.pr .b (.pr .b .b))) .b))))), (7, .val .str .b)]⟩, ⟨.ret, ⟨[], [2, 3, 4], []⟩, mkSh 89 [(2, .val S_impl_Group (.row (.pr .b (.pr .b (.pr (.row (.pr .b (.pr .b .b))) .b))))), (3, .val (.int .i64) .b), (4, .val .bool .b)]⟩]
noncomputable def b_S_ReadUnified_6 (t5 : PV S_string) (t6 : PV S_impl_Group) (t7 : PV .str) : Option ((PV S_string × PV S_impl_Group × PV .str × Unit) ⊕ ((PV S_impl_Group × PV .str × Unit) ⊕ (PV S_impl_Group × PV (.int .i64) × PV .bool × Unit))) :=
  bif (decide ((t5.length : Int) > 0)) then
    bif inB 0 t5.length then
      (f_S_l1Plain (t5.getD ((0 : Int).toNat) [])).bind fun r5 =>
        (f_S_l7Head r5.1.1).bind fun r6 =>
          bif (!r6.1.2.2.2.1) then
            some (.inr (.inr ([], 1, false, ())))
          else
            bif cutB 1 (t5.length : Int) t5.length then
              (f_S_l7Rows (cutL 1 (t5.length : Int) t5) r6.1.2.1 r6.1.2.2.1).bind fun r8 =>
                (f_S_l4Count r6.1.1.1 r6.1.2.1).bind fun r11 =>
                  bif decide ([64, 64, 32, 45].length + r11.1.1.length ≤ 1099511627776) then
                    bif decide (([64, 64, 32, 45] ++ r11.1.1).length + [32, 43].length ≤ 1099511627776) then
                      (f_S_l4Count r6.1.1.2.1 r6.1.2.2.1).bind fun r12 =>
                        bif decide ((([64, 64, 32, 45] ++ r11.1.1) ++ [32, 43]).length + r12.1.1.length ≤ 1099511627776) then
                          bif decide (((([64, 64, 32, 45] ++ r11.1.1) ++ [32, 43]) ++ r12.1.1).length + [32, 64, 64, 10].length ≤ 1099511627776) then
                            bif cutB 1 (IntKind.wrap .i64 (1 + r8.1.2.1)) t5.length then
                              (f_S_l1Text (cutL 1 (IntKind.wrap .i64 (1 + r8.1.2.1)) t5)).bind fun r14 =>
                                bif decide ((((([64, 64, 32, 45] ++ r11.1.1) ++ [32, 43]) ++ r12.1.1) ++ [32, 64, 64, 10]).length + r14.1.1.length ≤ 1099511627776) then
                                  bif decide (t7.length + ((((([64, 64, 32, 45] ++ r11.1.1) ++ [32, 43]) ++ r12.1.1) ++ [32, 64, 64, 10]) ++ r14.1.1).length ≤ 1099511627776) then
                                    bif inB 0 t5.length then
                                      (f_S_l1Ends (t5.getD ((0 : Int).toNat) [])).bind fun r18 =>
                                        bif (!r18.1.1) then
                                          some (.inr (.inr ([], 1, false, ())))
                                        else
                                          bif cutB (IntKind.wrap .i64 (1 + r8.1.2.1)) (t5.length : Int) t5.length then
                                            bif roomB (t6.length + [(r6.1.1.1, (r6.1.1.2.1, (r8.1.1, r6.1.1.2.2.2)))].length) then
                                              some (.inl ((cutL (IntKind.wrap .i64 (1 + r8.1.2.1)) (t5.length : Int) t5), (t6 ++ [(r6.1.1.1, (r6.1.1.2.1, (r8.1.1, r6.1.1.2.2.2)))]), (t7 ++ ((((([64, 64, 32, 45] ++ r11.1.1) ++ [32, 43]) ++ r12.1.1) ++ [32, 64, 64, 10]) ++ r14.1.1)), ()))
                                            else
                                              none
                                          else
                                            none
                                    else
                                      none
                                  else
                                    none
                                else
                                  none
                            else
                              none
                          else
                            none
                        else
                          none
                    else
                      none
                  else
                    none
            else
              none
    else
      none
  else
    some (.inr (.inl (t6, t7, ())))
noncomputable def w_S_ReadUnified_6 : PV S_string × PV S_impl_Group × PV .str × Unit → Option ((PV S_impl_Group × PV .str × Unit) ⊕ (PV S_impl_Group × PV (.int .i64) × PV .bool × Unit)) := fix fun d => b_S_ReadUnified_6 d.1 d.2.1 d.2.2.1
noncomputable def lp_S_ReadUnified_6 : Lp := ⟨⟨[], [5, 6, 7, 83, 84, 85, 86], []⟩, sh_S_ReadUnified_6, o_S_ReadUnified_6, fun d => b_S_ReadUnified_6 d.1 d.2.1 d.2.2.1⟩
noncomputable def pl_S_ReadUnified : Plan := ⟨[(19, o_S_ReadUnified_19)], [(6, lp_S_ReadUnified_6)], 0, 0⟩
noncomputable def f_S_ReadUnified (t0 : PV .str) : Option (PVs [S_impl_Group, (.int .i64), .bool] × PVs []) :=
  bif (decide ((t0.length : Int) > 3000)) then
    some (([], 1, false, ()), ())
  else
    (f_S_l1Cut t0).bind fun r2 =>
      (w_S_ReadUnified_6 (r2.1.1, [], [], ())).bind fun x31 =>
        match x31 with
        | .inl l21 =>
          ((
              (f_S_l6Good l21.1).bind fun r27 =>
                bif (!r27.1.1) then
                  some (l21.1, true, ())
                else
                  (f_S_l7Text l21.1).bind fun r28 =>
                    some (l21.1, (!(r28.1.1 == l21.2.1)), ()) : Option ((PV S_impl_Group × PV .bool × Unit)))).bind fun j29 =>
            bif j29.2.1 then
              some (([], 1, false, ()), ())
            else
              some ((j29.1, 0, true, ()), ())
        | .inr l30 =>
          some ((l30.1, l30.2.1, l30.2.2.1, ()), ())
noncomputable def ct_S_ReadUnified : Ct := ⟨[(.bor, .str)], [(S_impl_Group, (.row (.pr .b (.pr .b (.pr (.row (.pr .b (.pr .b .b))) .b))))), ((.int .i64), .b), (.bool, .b)], fun x => f_S_ReadUnified x.1⟩
noncomputable def cx_S_ReadUnified : Cx := ⟨tab, arrs, [(70, ct_S_l1Cut), (71, ct_S_l7Head), (72, ct_S_l1Plain), (73, ct_S_l7Rows), (74, ct_S_l4Count), (75, ct_S_l1Text), (76, ct_S_l1Ends), (77, ct_S_l6Good), (78, ct_S_l7Text)], [], gl, []⟩
theorem eb_S_ReadUnified_6 (t5 : PV S_string) (t6 : PV S_impl_Group) (t7 : PV .str) : denK cx_S_ReadUnified (rcN cx_S_ReadUnified 0) pl_S_ReadUnified 0 ((loopsOf (bodyOf Tryz.f20)).getD 0 .skip) (fillS sh_S_ReadUnified_6 (t5, t6, t7, ())) (roundK 0 lp_S_ReadUnified_6) = b_S_ReadUnified_6 t5 t6 t7 := by kernel_rfl
theorem ef_S_ReadUnified (t0 : PV .str) : denF cx_S_ReadUnified 0 pl_S_ReadUnified Tryz.f20.ntmps (bodyOf Tryz.f20) Tryz.f20.results.toList [(.bor, .str)] [(S_impl_Group, (.row (.pr .b (.pr .b (.pr (.row (.pr .b (.pr .b .b))) .b))))), ((.int .i64), .b), (.bool, .b)] (t0, ()) = f_S_ReadUnified t0 := by kernel_rfl
theorem ok_S_ReadUnified : FnOk gl Tryz.prog 20 ct_S_ReadUnified :=
  fnOk (cx := cx_S_ReadUnified) (pl := pl_S_ReadUnified) (dp := 0) (ok0_of tabOk (by unfold ArrOk; kernel_rfl) mix ⟨ok_S_l1Cut, ok_S_l7Head, ok_S_l1Plain, ok_S_l7Rows, ok_S_l4Count, ok_S_l1Text, ok_S_l1Ends, ok_S_l6Good, ok_S_l7Text, trivial⟩ trivial) Tryz.func20 (by kernel_rfl) (by kernel_rfl) (by kernel_rfl)
    (by rw [show loopsOf (bodyOf Tryz.f20) = [((loopsOf (bodyOf Tryz.f20)).getD 0 .skip)] from by kernel_rfl]; exact ⟨(by rw [show lookup pl_S_ReadUnified.loops (firstId ((loopsOf (bodyOf Tryz.f20)).getD 0 .skip)) = some lp_S_ReadUnified_6 from by kernel_rfl]; exact fun d z h => (eb_S_ReadUnified_6 d.1 d.2.1 d.2.2.1).trans h), trivial⟩) (fun x => ef_S_ReadUnified x.1)
noncomputable def pl_strings_SplitAfter : Plan := ⟨[], [], 0, 0⟩
noncomputable def f_strings_SplitAfter (t0 : PV .str) (t1 : PV .str) : Option (PVs [S_string] × PVs []) :=
  (f_strings_genSplit t0 t1 (t1.length : Int) (-1)).bind fun r1 =>
    some ((r1.1.1, ()), ())
noncomputable def ct_strings_SplitAfter : Ct := ⟨[(.bor, .str), (.bor, .str)], [(S_string, .b)], fun x => f_strings_SplitAfter x.1 x.2.1⟩
noncomputable def cx_strings_SplitAfter : Cx := ⟨tab, arrs, [(223, ct_strings_genSplit)], [], gl, []⟩
theorem ef_strings_SplitAfter (t0 : PV .str) (t1 : PV .str) : denF cx_strings_SplitAfter 0 pl_strings_SplitAfter Tryz.f146.ntmps (bodyOf Tryz.f146) Tryz.f146.results.toList [(.bor, .str), (.bor, .str)] [(S_string, .b)] (t0, t1, ()) = f_strings_SplitAfter t0 t1 := by kernel_rfl
theorem ok_strings_SplitAfter : FnOk gl Tryz.prog 146 ct_strings_SplitAfter :=
  fnOk (cx := cx_strings_SplitAfter) (pl := pl_strings_SplitAfter) (dp := 0) (ok0_of tabOk (by unfold ArrOk; kernel_rfl) mix ⟨ok_strings_genSplit, trivial⟩ trivial) Tryz.func146 (by kernel_rfl) (by kernel_rfl) (by kernel_rfl)
    (by rw [show loopsOf (bodyOf Tryz.f146) = [] from by kernel_rfl]; exact trivial) (fun x => ef_strings_SplitAfter x.1 x.2.1)
noncomputable def o_I_linesOf_7 : List Out := [⟨.normal, ⟨[], [3], []⟩, mkSh 21 [(3, .val S_string .b)]⟩]
noncomputable def pl_I_linesOf : Plan := ⟨[(7, o_I_linesOf_7)], [], 0, 0⟩
noncomputable def f_I_linesOf (t0 : PV .str) : Option (PVs [S_string] × PVs []) :=
  bif (t0 == []) then
    some (([], ()), ())
  else
    (f_strings_SplitAfter t0 [10]).bind fun r2 =>
      ((
          bif inB (IntKind.wrap .i64 ((r2.1.1.length : Int) - 1)) r2.1.1.length then
            bif ((r2.1.1.getD ((IntKind.wrap .i64 ((r2.1.1.length : Int) - 1)).toNat) []) == []) then
              bif cutB 0 (IntKind.wrap .i64 ((r2.1.1.length : Int) - 1)) r2.1.1.length then
                some ((cutL 0 (IntKind.wrap .i64 ((r2.1.1.length : Int) - 1)) r2.1.1), ())
              else
                none
            else
              some (r2.1.1, ())
          else
            none : Option ((PV S_string × Unit)))).bind fun j3 =>
        some ((j3.1, ()), ())
noncomputable def ct_I_linesOf : Ct := ⟨[(.bor, .str)], [(S_string, .b)], fun x => f_I_linesOf x.1⟩
noncomputable def cx_I_linesOf : Cx := ⟨tab, arrs, [(146, ct_strings_SplitAfter)], [], gl, []⟩
theorem ef_I_linesOf (t0 : PV .str) : denF cx_I_linesOf 0 pl_I_linesOf Tryz.f80.ntmps (bodyOf Tryz.f80) Tryz.f80.results.toList [(.bor, .str)] [(S_string, .b)] (t0, ()) = f_I_linesOf t0 := by kernel_rfl
theorem ok_I_linesOf : FnOk gl Tryz.prog 80 ct_I_linesOf :=
  fnOk (cx := cx_I_linesOf) (pl := pl_I_linesOf) (dp := 0) (ok0_of tabOk (by unfold ArrOk; kernel_rfl) mix ⟨ok_strings_SplitAfter, trivial⟩ trivial) Tryz.func80 (by kernel_rfl) (by kernel_rfl) (by kernel_rfl)
    (by rw [show loopsOf (bodyOf Tryz.f80) = [] from by kernel_rfl]; exact trivial) (fun x => ef_I_linesOf x.1)
noncomputable def pl_internal_stringslite_HasPrefix : Plan := ⟨[], [], 0, 0⟩
noncomputable def f_internal_stringslite_HasPrefix (t0 : PV .str) (t1 : PV .str) : Option (PVs [.bool] × PVs []) :=
  bif (decide ((t0.length : Int) ≥ (t1.length : Int))) then
    bif cutB 0 (t1.length : Int) t0.length then
      some ((((cutL 0 (t1.length : Int) t0) == t1), ()), ())
    else
      none
  else
    some ((false, ()), ())
noncomputable def ct_internal_stringslite_HasPrefix : Ct := ⟨[(.bor, .str), (.bor, .str)], [(.bool, .b)], fun x => f_internal_stringslite_HasPrefix x.1 x.2.1⟩
noncomputable def cx_internal_stringslite_HasPrefix : Cx := ⟨tab, arrs, [], [], gl, []⟩
theorem ef_internal_stringslite_HasPrefix (t0 : PV .str) (t1 : PV .str) : denF cx_internal_stringslite_HasPrefix 0 pl_internal_stringslite_HasPrefix Tryz.f300.ntmps (bodyOf Tryz.f300) Tryz.f300.results.toList [(.bor, .str), (.bor, .str)] [(.bool, .b)] (t0, t1, ()) = f_internal_stringslite_HasPrefix t0 t1 := by kernel_rfl
theorem ok_internal_stringslite_HasPrefix : FnOk gl Tryz.prog 300 ct_internal_stringslite_HasPrefix :=
  fnOk (cx := cx_internal_stringslite_HasPrefix) (pl := pl_internal_stringslite_HasPrefix) (dp := 0) (ok0_of tabOk (by unfold ArrOk; kernel_rfl) mix trivial trivial) Tryz.func300 (by kernel_rfl) (by kernel_rfl) (by kernel_rfl)
    (by rw [show loopsOf (bodyOf Tryz.f300) = [] from by kernel_rfl]; exact trivial) (fun x => ef_internal_stringslite_HasPrefix x.1 x.2.1)
noncomputable def pl_internal_stringslite_CutPrefix : Plan := ⟨[], [], 0, 0⟩
noncomputable def f_internal_stringslite_CutPrefix (t0 : PV .str) (t1 : PV .str) : Option (PVs [.str, .bool] × PVs []) :=
  (f_internal_stringslite_HasPrefix t0 t1).bind fun r4 =>
    bif (!r4.1.1) then
      some ((t0, false, ()), ())
    else
      bif cutB (t1.length : Int) (t0.length : Int) t0.length then
        some (((cutL (t1.length : Int) (t0.length : Int) t0), true, ()), ())
      else
        none
noncomputable def ct_internal_stringslite_CutPrefix : Ct := ⟨[(.bor, .str), (.bor, .str)], [(.str, .b), (.bool, .b)], fun x => f_internal_stringslite_CutPrefix x.1 x.2.1⟩
noncomputable def cx_internal_stringslite_CutPrefix : Cx := ⟨tab, arrs, [(300, ct_internal_stringslite_HasPrefix)], [], gl, []⟩
theorem ef_internal_stringslite_CutPrefix (t0 : PV .str) (t1 : PV .str) : denF cx_internal_stringslite_CutPrefix 0 pl_internal_stringslite_CutPrefix Tryz.f272.ntmps (bodyOf Tryz.f272) Tryz.f272.results.toList [(.bor, .str), (.bor, .str)] [(.str, .b), (.bool, .b)] (t0, t1, ()) = f_internal_stringslite_CutPrefix t0 t1 := by kernel_rfl
theorem ok_internal_stringslite_CutPrefix : FnOk gl Tryz.prog 272 ct_internal_stringslite_CutPrefix :=
  fnOk (cx := cx_internal_stringslite_CutPrefix) (pl := pl_internal_stringslite_CutPrefix) (dp := 0) (ok0_of tabOk (by unfold ArrOk; kernel_rfl) mix ⟨ok_internal_stringslite_HasPrefix, trivial⟩ trivial) Tryz.func272 (by kernel_rfl) (by kernel_rfl) (by kernel_rfl)
    (by rw [show loopsOf (bodyOf Tryz.f272) = [] from by kernel_rfl]; exact trivial) (fun x => ef_internal_stringslite_CutPrefix x.1 x.2.1)
noncomputable def pl_strings_CutPrefix : Plan := ⟨[], [], 0, 0⟩
noncomputable def f_strings_CutPrefix (t0 : PV .str) (t1 : PV .str) : Option (PVs [.str, .bool] × PVs []) :=
  (f_internal_stringslite_CutPrefix t0 t1).bind fun r1 =>
    some ((r1.1.1, r1.1.2.1, ()), ())
noncomputable def ct_strings_CutPrefix : Ct := ⟨[(.bor, .str), (.bor, .str)], [(.str, .b), (.bool, .b)], fun x => f_strings_CutPrefix x.1 x.2.1⟩
noncomputable def cx_strings_CutPrefix : Cx := ⟨tab, arrs, [(272, ct_internal_stringslite_CutPrefix)], [], gl, []⟩
theorem ef_strings_CutPrefix (t0 : PV .str) (t1 : PV .str) : denF cx_strings_CutPrefix 0 pl_strings_CutPrefix Tryz.f218.ntmps (bodyOf Tryz.f218) Tryz.f218.results.toList [(.bor, .str), (.bor, .str)] [(.str, .b), (.bool, .b)] (t0, t1, ()) = f_strings_CutPrefix t0 t1 := by kernel_rfl
theorem ok_strings_CutPrefix : FnOk gl Tryz.prog 218 ct_strings_CutPrefix :=
  fnOk (cx := cx_strings_CutPrefix) (pl := pl_strings_CutPrefix) (dp := 0) (ok0_of tabOk (by unfold ArrOk; kernel_rfl) mix ⟨ok_internal_stringslite_CutPrefix, trivial⟩ trivial) Tryz.func218 (by kernel_rfl) (by kernel_rfl) (by kernel_rfl)
    (by rw [show loopsOf (bodyOf Tryz.f218) = [] from by kernel_rfl]; exact trivial) (fun x => ef_strings_CutPrefix x.1 x.2.1)
noncomputable def pl_internal_stringslite_Cut : Plan := ⟨[], [], 0, 0⟩
noncomputable def f_internal_stringslite_Cut (t0 : PV .str) (t1 : PV .str) : Option (PVs [.str, .str, .bool] × PVs []) :=
  (f_internal_stringslite_Index t0 t1).bind fun r4 =>
    bif (decide (r4.1.1 ≥ 0)) then
      bif cutB 0 r4.1.1 t0.length then
        bif cutB (IntKind.wrap .i64 (r4.1.1 + (t1.length : Int))) (t0.length : Int) t0.length then
          some (((cutL 0 r4.1.1 t0), (cutL (IntKind.wrap .i64 (r4.1.1 + (t1.length : Int))) (t0.length : Int) t0), true, ()), ())
        else
          none
      else
        none
    else
      some ((t0, [], false, ()), ())
noncomputable def ct_internal_stringslite_Cut : Ct := ⟨[(.bor, .str), (.bor, .str)], [(.str, .b), (.str, .b), (.bool, .b)], fun x => f_internal_stringslite_Cut x.1 x.2.1⟩
noncomputable def cx_internal_stringslite_Cut : Cx := ⟨tab, arrs, [(302, ct_internal_stringslite_Index)], [], gl, []⟩
theorem ef_internal_stringslite_Cut (t0 : PV .str) (t1 : PV .str) : denF cx_internal_stringslite_Cut 0 pl_internal_stringslite_Cut Tryz.f273.ntmps (bodyOf Tryz.f273) Tryz.f273.results.toList [(.bor, .str), (.bor, .str)] [(.str, .b), (.str, .b), (.bool, .b)] (t0, t1, ()) = f_internal_stringslite_Cut t0 t1 := by kernel_rfl
theorem ok_internal_stringslite_Cut : FnOk gl Tryz.prog 273 ct_internal_stringslite_Cut :=
  fnOk (cx := cx_internal_stringslite_Cut) (pl := pl_internal_stringslite_Cut) (dp := 0) (ok0_of tabOk (by unfold ArrOk; kernel_rfl) mix ⟨ok_internal_stringslite_Index, trivial⟩ trivial) Tryz.func273 (by kernel_rfl) (by kernel_rfl) (by kernel_rfl)
    (by rw [show loopsOf (bodyOf Tryz.f273) = [] from by kernel_rfl]; exact trivial) (fun x => ef_internal_stringslite_Cut x.1 x.2.1)
noncomputable def pl_strings_Cut : Plan := ⟨[], [], 0, 0⟩
noncomputable def f_strings_Cut (t0 : PV .str) (t1 : PV .str) : Option (PVs [.str, .str, .bool] × PVs []) :=
  (f_internal_stringslite_Cut t0 t1).bind fun r1 =>
    some ((r1.1.1, r1.1.2.1, r1.1.2.2.1, ()), ())
noncomputable def ct_strings_Cut : Ct := ⟨[(.bor, .str), (.bor, .str)], [(.str, .b), (.str, .b), (.bool, .b)], fun x => f_strings_Cut x.1 x.2.1⟩
noncomputable def cx_strings_Cut : Cx := ⟨tab, arrs, [(273, ct_internal_stringslite_Cut)], [], gl, []⟩
theorem ef_strings_Cut (t0 : PV .str) (t1 : PV .str) : denF cx_strings_Cut 0 pl_strings_Cut Tryz.f219.ntmps (bodyOf Tryz.f219) Tryz.f219.results.toList [(.bor, .str), (.bor, .str)] [(.str, .b), (.str, .b), (.bool, .b)] (t0, t1, ()) = f_strings_Cut t0 t1 := by kernel_rfl
theorem ok_strings_Cut : FnOk gl Tryz.prog 219 ct_strings_Cut :=
  fnOk (cx := cx_strings_Cut) (pl := pl_strings_Cut) (dp := 0) (ok0_of tabOk (by unfold ArrOk; kernel_rfl) mix ⟨ok_internal_stringslite_Cut, trivial⟩ trivial) Tryz.func219 (by kernel_rfl) (by kernel_rfl) (by kernel_rfl)
    (by rw [show loopsOf (bodyOf Tryz.f219) = [] from by kernel_rfl]; exact trivial) (fun x => ef_strings_Cut x.1 x.2.1)
noncomputable def pl_internal_stringslite_HasSuffix : Plan := ⟨[], [], 0, 0⟩
noncomputable def f_internal_stringslite_HasSuffix (t0 : PV .str) (t1 : PV .str) : Option (PVs [.bool] × PVs []) :=
  bif (decide ((t0.length : Int) ≥ (t1.length : Int))) then
    bif cutB (IntKind.wrap .i64 ((t0.length : Int) - (t1.length : Int))) (t0.length : Int) t0.length then
      some ((((cutL (IntKind.wrap .i64 ((t0.length : Int) - (t1.length : Int))) (t0.length : Int) t0) == t1), ()), ())
    else
      none
  else
    some ((false, ()), ())
noncomputable def ct_internal_stringslite_HasSuffix : Ct := ⟨[(.bor, .str), (.bor, .str)], [(.bool, .b)], fun x => f_internal_stringslite_HasSuffix x.1 x.2.1⟩
noncomputable def cx_internal_stringslite_HasSuffix : Cx := ⟨tab, arrs, [], [], gl, []⟩
theorem ef_internal_stringslite_HasSuffix (t0 : PV .str) (t1 : PV .str) : denF cx_internal_stringslite_HasSuffix 0 pl_internal_stringslite_HasSuffix Tryz.f303.ntmps (bodyOf Tryz.f303) Tryz.f303.results.toList [(.bor, .str), (.bor, .str)] [(.bool, .b)] (t0, t1, ()) = f_internal_stringslite_HasSuffix t0 t1 := by kernel_rfl
theorem ok_internal_stringslite_HasSuffix : FnOk gl Tryz.prog 303 ct_internal_stringslite_HasSuffix :=
  fnOk (cx := cx_internal_stringslite_HasSuffix) (pl := pl_internal_stringslite_HasSuffix) (dp := 0) (ok0_of tabOk (by unfold ArrOk; kernel_rfl) mix trivial trivial) Tryz.func303 (by kernel_rfl) (by kernel_rfl) (by kernel_rfl)
    (by rw [show loopsOf (bodyOf Tryz.f303) = [] from by kernel_rfl]; exact trivial) (fun x => ef_internal_stringslite_HasSuffix x.1 x.2.1)
noncomputable def pl_internal_stringslite_CutSuffix : Plan := ⟨[], [], 0, 0⟩
noncomputable def f_internal_stringslite_CutSuffix (t0 : PV .str) (t1 : PV .str) : Option (PVs [.str, .bool] × PVs []) :=
  (f_internal_stringslite_HasSuffix t0 t1).bind fun r4 =>
    bif (!r4.1.1) then
      some ((t0, false, ()), ())
    else
      bif cutB 0 (IntKind.wrap .i64 ((t0.length : Int) - (t1.length : Int))) t0.length then
        some (((cutL 0 (IntKind.wrap .i64 ((t0.length : Int) - (t1.length : Int))) t0), true, ()), ())
      else
        none
noncomputable def ct_internal_stringslite_CutSuffix : Ct := ⟨[(.bor, .str), (.bor, .str)], [(.str, .b), (.bool, .b)], fun x => f_internal_stringslite_CutSuffix x.1 x.2.1⟩
noncomputable def cx_internal_stringslite_CutSuffix : Cx := ⟨tab, arrs, [(303, ct_internal_stringslite_HasSuffix)], [], gl, []⟩
theorem ef_internal_stringslite_CutSuffix (t0 : PV .str) (t1 : PV .str) : denF cx_internal_stringslite_CutSuffix 0 pl_internal_stringslite_CutSuffix Tryz.f274.ntmps (bodyOf Tryz.f274) Tryz.f274.results.toList [(.bor, .str), (.bor, .str)] [(.str, .b), (.bool, .b)] (t0, t1, ()) = f_internal_stringslite_CutSuffix t0 t1 := by kernel_rfl
theorem ok_internal_stringslite_CutSuffix : FnOk gl Tryz.prog 274 ct_internal_stringslite_CutSuffix :=
  fnOk (cx := cx_internal_stringslite_CutSuffix) (pl := pl_internal_stringslite_CutSuffix) (dp := 0) (ok0_of tabOk (by unfold ArrOk; kernel_rfl) mix ⟨ok_internal_stringslite_HasSuffix, trivial⟩ trivial) Tryz.func274 (by kernel_rfl) (by kernel_rfl) (by kernel_rfl)
    (by rw [show loopsOf (bodyOf Tryz.f274) = [] from by kernel_rfl]; exact trivial) (fun x => ef_internal_stringslite_CutSuffix x.1 x.2.1)
noncomputable def pl_strings_CutSuffix : Plan := ⟨[], [], 0, 0⟩
noncomputable def f_strings_CutSuffix (t0 : PV .str) (t1 : PV .str) : Option (PVs [.str, .bool] × PVs []) :=
  (f_internal_stringslite_CutSuffix t0 t1).bind fun r1 =>
    some ((r1.1.1, r1.1.2.1, ()), ())
noncomputable def ct_strings_CutSuffix : Ct := ⟨[(.bor, .str), (.bor, .str)], [(.str, .b), (.bool, .b)], fun x => f_strings_CutSuffix x.1 x.2.1⟩
noncomputable def cx_strings_CutSuffix : Cx := ⟨tab, arrs, [(274, ct_internal_stringslite_CutSuffix)], [], gl, []⟩
theorem ef_strings_CutSuffix (t0 : PV .str) (t1 : PV .str) : denF cx_strings_CutSuffix 0 pl_strings_CutSuffix Tryz.f220.ntmps (bodyOf Tryz.f220) Tryz.f220.results.toList [(.bor, .str), (.bor, .str)] [(.str, .b), (.bool, .b)] (t0, t1, ()) = f_strings_CutSuffix t0 t1 := by kernel_rfl
theorem ok_strings_CutSuffix : FnOk gl Tryz.prog 220 ct_strings_CutSuffix :=
  fnOk (cx := cx_strings_CutSuffix) (pl := pl_strings_CutSuffix) (dp := 0) (ok0_of tabOk (by unfold ArrOk; kernel_rfl) mix ⟨ok_internal_stringslite_CutSuffix, trivial⟩ trivial) Tryz.func220 (by kernel_rfl) (by kernel_rfl) (by kernel_rfl)
    (by rw [show loopsOf (bodyOf Tryz.f220) = [] from by kernel_rfl]; exact trivial) (fun x => ef_strings_CutSuffix x.1 x.2.1)
noncomputable def pl_I_readTwo : Plan := ⟨[], [], 0, 0⟩
noncomputable def f_I_readTwo (t0 : PV .str) : Option (PVs [(.int .i64), (.int .i64), .bool, .bool] × PVs []) :=
  (f_strings_Cut t0 [44]).bind fun r2 =>
    (f_I_readNumber r2.1.1).bind fun r4 =>
      bif (!r2.1.2.2.1) then
        some ((r4.1.1, r4.1.1, false, r4.1.2.1, ()), ())
      else
        (f_I_readNumber r2.1.2.1).bind fun r6 =>
          bif r4.1.2.1 then
            some ((r4.1.1, r6.1.1, true, r6.1.2.1, ()), ())
          else
            some ((r4.1.1, r6.1.1, true, false, ()), ())
noncomputable def ct_I_readTwo : Ct := ⟨[(.bor, .str)], [((.int .i64), .b), ((.int .i64), .b), (.bool, .b), (.bool, .b)], fun x => f_I_readTwo x.1⟩
noncomputable def cx_I_readTwo : Cx := ⟨tab, arrs, [(219, ct_strings_Cut), (234, ct_I_readNumber)], [], gl, []⟩
theorem ef_I_readTwo (t0 : PV .str) : denF cx_I_readTwo 0 pl_I_readTwo Tryz.f159.ntmps (bodyOf Tryz.f159) Tryz.f159.results.toList [(.bor, .str)] [((.int .i64), .b), ((.int .i64), .b), (.bool, .b), (.bool, .b)] (t0, ()) = f_I_readTwo t0 := by kernel_rfl
theorem ok_I_readTwo : FnOk gl Tryz.prog 159 ct_I_readTwo :=
  fnOk (cx := cx_I_readTwo) (pl := pl_I_readTwo) (dp := 0) (ok0_of tabOk (by unfold ArrOk; kernel_rfl) mix ⟨ok_strings_Cut, ok_I_readNumber, trivial⟩ trivial) Tryz.func159 (by kernel_rfl) (by kernel_rfl) (by kernel_rfl)
    (by rw [show loopsOf (bodyOf Tryz.f159) = [] from by kernel_rfl]; exact trivial) (fun x => ef_I_readTwo x.1)
noncomputable def pl_I_in : Plan := ⟨[], [], 0, 0⟩
noncomputable def f_I_in (t0 : PV (.int .i64)) (t1 : PV (.int .i64)) (t2 : PV (.int .i64)) : Option (PVs [.bool] × PVs []) :=
  bif (decide (t0 ≥ t1)) then
    some (((decide (t0 ≤ t2)), ()), ())
  else
    some ((false, ()), ())
noncomputable def ct_I_in : Ct := ⟨[(.bor, (.int .i64)), (.bor, (.int .i64)), (.bor, (.int .i64))], [(.bool, .b)], fun x => f_I_in x.1 x.2.1 x.2.2.1⟩
noncomputable def cx_I_in : Cx := ⟨tab, arrs, [], [], gl, []⟩
theorem ef_I_in (t0 : PV (.int .i64)) (t1 : PV (.int .i64)) (t2 : PV (.int .i64)) : denF cx_I_in 0 pl_I_in Tryz.f134.ntmps (bodyOf Tryz.f134) Tryz.f134.results.toList [(.bor, (.int .i64)), (.bor, (.int .i64)), (.bor, (.int .i64))] [(.bool, .b)] (t0, t1, t2, ()) = f_I_in t0 t1 t2 := by kernel_rfl
theorem ok_I_in : FnOk gl Tryz.prog 134 ct_I_in :=
  fnOk (cx := cx_I_in) (pl := pl_I_in) (dp := 0) (ok0_of tabOk (by unfold ArrOk; kernel_rfl) mix trivial trivial) Tryz.func134 (by kernel_rfl) (by kernel_rfl) (by kernel_rfl)
    (by rw [show loopsOf (bodyOf Tryz.f134) = [] from by kernel_rfl]; exact trivial) (fun x => ef_I_in x.1 x.2.1 x.2.2.1)
noncomputable def pl_I_isRange : Plan := ⟨[], [], 0, 0⟩
noncomputable def f_I_isRange (t0 : PV (.int .i64)) (t1 : PV (.int .i64)) : Option (PVs [.bool] × PVs []) :=
  (f_I_in t0 0 999).bind fun r1 =>
    bif r1.1.1 then
      (f_I_in t1 0 999).bind fun r2 =>
        some ((r2.1.1, ()), ())
    else
      some ((false, ()), ())
noncomputable def ct_I_isRange : Ct := ⟨[(.bor, (.int .i64)), (.bor, (.int .i64))], [(.bool, .b)], fun x => f_I_isRange x.1 x.2.1⟩
noncomputable def cx_I_isRange : Cx := ⟨tab, arrs, [(134, ct_I_in)], [], gl, []⟩
theorem ef_I_isRange (t0 : PV (.int .i64)) (t1 : PV (.int .i64)) : denF cx_I_isRange 0 pl_I_isRange Tryz.f275.ntmps (bodyOf Tryz.f275) Tryz.f275.results.toList [(.bor, (.int .i64)), (.bor, (.int .i64))] [(.bool, .b)] (t0, t1, ()) = f_I_isRange t0 t1 := by kernel_rfl
theorem ok_I_isRange : FnOk gl Tryz.prog 275 ct_I_isRange :=
  fnOk (cx := cx_I_isRange) (pl := pl_I_isRange) (dp := 0) (ok0_of tabOk (by unfold ArrOk; kernel_rfl) mix ⟨ok_I_in, trivial⟩ trivial) Tryz.func275 (by kernel_rfl) (by kernel_rfl) (by kernel_rfl)
    (by rw [show loopsOf (bodyOf Tryz.f275) = [] from by kernel_rfl]; exact trivial) (fun x => ef_I_isRange x.1 x.2.1)
noncomputable def o_I_ReadCount_4 : List Out := [⟨.normal, ⟨[], [5, 6, 8, 25, 26, 27, 28], []⟩, mkSh 32 [(5, .val (.int .i64) .b), (6, .val (.int .i64) .b), (8, .val .bool .b)]⟩]
noncomputable def o_I_ReadCount_6 : List Out := [⟨.normal, ⟨[], [5, 6, 8, 25, 26, 27, 28], []⟩, mkSh 32 [(5, .val (.int .i64) .b), (6, .val (.int .i64) .b), (8, .val .bool .b)]⟩]
noncomputable def o_I_ReadCount_7 : List Out := [⟨.normal, ⟨[], [5, 6, 29], []⟩, mkSh 32 [(5, .val (.int .i64) .b), (6, .val (.int .i64) .b), (29, .val .bool .b)]⟩]
noncomputable def pl_I_ReadCount : Plan := ⟨[(4, o_I_ReadCount_4), (6, o_I_ReadCount_6), (7, o_I_ReadCount_7)], [], 0, 0⟩
noncomputable def f_I_ReadCount (t0 : PV .str) : Option (PVs [(.int .i64), (.int .i64), .bool] × PVs []) :=
  (f_I_readTwo t0).bind fun r2 =>
    ((
        bif (!r2.1.2.2.1) then
          some (r2.1.1, 1, r2.1.2.2.2.1, ())
        else
          some (r2.1.1, r2.1.2.1, r2.1.2.2.2.1, ()) : Option ((PV (.int .i64) × PV (.int .i64) × PV .bool × Unit)))).bind fun j3 =>
      ((
          bif (decide (j3.2.1 > 0)) then
            some ((IntKind.wrap .i64 (j3.1 - 1)), j3.2.1, j3.2.2.1, ())
          else
            some (j3.1, j3.2.1, j3.2.2.1, ()) : Option ((PV (.int .i64) × PV (.int .i64) × PV .bool × Unit)))).bind fun j4 =>
        ((
            bif (!j4.2.2.1) then
              some (j4.1, j4.2.1, true, ())
            else
              (f_I_isRange j4.1 j4.2.1).bind fun r8 =>
                some (j4.1, j4.2.1, (!r8.1.1), ()) : Option ((PV (.int .i64) × PV (.int .i64) × PV .bool × Unit)))).bind fun j9 =>
          bif j9.2.2.1 then
            some ((0, 0, false, ()), ())
          else
            some ((j9.1, j9.2.1, true, ()), ())
noncomputable def ct_I_ReadCount : Ct := ⟨[(.bor, .str)], [((.int .i64), .b), ((.int .i64), .b), (.bool, .b)], fun x => f_I_ReadCount x.1⟩
noncomputable def cx_I_ReadCount : Cx := ⟨tab, arrs, [(159, ct_I_readTwo), (275, ct_I_isRange)], [], gl, []⟩
theorem ef_I_ReadCount (t0 : PV .str) : denF cx_I_ReadCount 0 pl_I_ReadCount Tryz.f221.ntmps (bodyOf Tryz.f221) Tryz.f221.results.toList [(.bor, .str)] [((.int .i64), .b), ((.int .i64), .b), (.bool, .b)] (t0, ()) = f_I_ReadCount t0 := by kernel_rfl
theorem ok_I_ReadCount : FnOk gl Tryz.prog 221 ct_I_ReadCount :=
  fnOk (cx := cx_I_ReadCount) (pl := pl_I_ReadCount) (dp := 0) (ok0_of tabOk (by unfold ArrOk; kernel_rfl) mix ⟨ok_I_readTwo, ok_I_isRange, trivial⟩ trivial) Tryz.func221 (by kernel_rfl) (by kernel_rfl) (by kernel_rfl)
    (by rw [show loopsOf (bodyOf Tryz.f221) = [] from by kernel_rfl]; exact trivial) (fun x => ef_I_ReadCount x.1)
noncomputable def pl_strings_IndexByte : Plan := ⟨[], [], 0, 0⟩
noncomputable def f_strings_IndexByte (t0 : PV .str) (t1 : PV (.int .u8)) : Option (PVs [(.int .i64)] × PVs []) :=
  (f_internal_stringslite_IndexByte t0 t1).bind fun r1 =>
    some ((r1.1.1, ()), ())
noncomputable def ct_strings_IndexByte : Ct := ⟨[(.bor, .str), (.bor, (.int .u8))], [((.int .i64), .b)], fun x => f_strings_IndexByte x.1 x.2.1⟩
noncomputable def cx_strings_IndexByte : Cx := ⟨tab, arrs, [(276, ct_internal_stringslite_IndexByte)], [], gl, []⟩
theorem ef_strings_IndexByte (t0 : PV .str) (t1 : PV (.int .u8)) : denF cx_strings_IndexByte 0 pl_strings_IndexByte Tryz.f222.ntmps (bodyOf Tryz.f222) Tryz.f222.results.toList [(.bor, .str), (.bor, (.int .u8))] [((.int .i64), .b)] (t0, t1, ()) = f_strings_IndexByte t0 t1 := by kernel_rfl
theorem ok_strings_IndexByte : FnOk gl Tryz.prog 222 ct_strings_IndexByte :=
  fnOk (cx := cx_strings_IndexByte) (pl := pl_strings_IndexByte) (dp := 0) (ok0_of tabOk (by unfold ArrOk; kernel_rfl) mix ⟨ok_internal_stringslite_IndexByte, trivial⟩ trivial) Tryz.func222 (by kernel_rfl) (by kernel_rfl) (by kernel_rfl)
    (by rw [show loopsOf (bodyOf Tryz.f222) = [] from by kernel_rfl]; exact trivial) (fun x => ef_strings_IndexByte x.1 x.2.1)
noncomputable def pl_internal_stringslite_TrimSuffix : Plan := ⟨[], [], 0, 0⟩
noncomputable def f_internal_stringslite_TrimSuffix (t0 : PV .str) (t1 : PV .str) : Option (PVs [.str] × PVs []) :=
  (f_internal_stringslite_HasSuffix t0 t1).bind fun r4 =>
    bif r4.1.1 then
      bif cutB 0 (IntKind.wrap .i64 ((t0.length : Int) - (t1.length : Int))) t0.length then
        some (((cutL 0 (IntKind.wrap .i64 ((t0.length : Int) - (t1.length : Int))) t0), ()), ())
      else
        none
    else
      some ((t0, ()), ())
noncomputable def ct_internal_stringslite_TrimSuffix : Ct := ⟨[(.bor, .str), (.bor, .str)], [(.str, .b)], fun x => f_internal_stringslite_TrimSuffix x.1 x.2.1⟩
noncomputable def cx_internal_stringslite_TrimSuffix : Cx := ⟨tab, arrs, [(303, ct_internal_stringslite_HasSuffix)], [], gl, []⟩
theorem ef_internal_stringslite_TrimSuffix (t0 : PV .str) (t1 : PV .str) : denF cx_internal_stringslite_TrimSuffix 0 pl_internal_stringslite_TrimSuffix Tryz.f280.ntmps (bodyOf Tryz.f280) Tryz.f280.results.toList [(.bor, .str), (.bor, .str)] [(.str, .b)] (t0, t1, ()) = f_internal_stringslite_TrimSuffix t0 t1 := by kernel_rfl
theorem ok_internal_stringslite_TrimSuffix : FnOk gl Tryz.prog 280 ct_internal_stringslite_TrimSuffix :=
  fnOk (cx := cx_internal_stringslite_TrimSuffix) (pl := pl_internal_stringslite_TrimSuffix) (dp := 0) (ok0_of tabOk (by unfold ArrOk; kernel_rfl) mix ⟨ok_internal_stringslite_HasSuffix, trivial⟩ trivial) Tryz.func280 (by kernel_rfl) (by kernel_rfl) (by kernel_rfl)
    (by rw [show loopsOf (bodyOf Tryz.f280) = [] from by kernel_rfl]; exact trivial) (fun x => ef_internal_stringslite_TrimSuffix x.1 x.2.1)
noncomputable def pl_strings_TrimSuffix : Plan := ⟨[], [], 0, 0⟩
noncomputable def f_strings_TrimSuffix (t0 : PV .str) (t1 : PV .str) : Option (PVs [.str] × PVs []) :=
  (f_internal_stringslite_TrimSuffix t0 t1).bind fun r1 =>
    some ((r1.1.1, ()), ())
noncomputable def ct_strings_TrimSuffix : Ct := ⟨[(.bor, .str), (.bor, .str)], [(.str, .b)], fun x => f_strings_TrimSuffix x.1 x.2.1⟩
noncomputable def cx_strings_TrimSuffix : Cx := ⟨tab, arrs, [(280, ct_internal_stringslite_TrimSuffix)], [], gl, []⟩
theorem ef_strings_TrimSuffix (t0 : PV .str) (t1 : PV .str) : denF cx_strings_TrimSuffix 0 pl_strings_TrimSuffix Tryz.f229.ntmps (bodyOf Tryz.f229) Tryz.f229.results.toList [(.bor, .str), (.bor, .str)] [(.str, .b)] (t0, t1, ()) = f_strings_TrimSuffix t0 t1 := by kernel_rfl
theorem ok_strings_TrimSuffix : FnOk gl Tryz.prog 229 ct_strings_TrimSuffix :=
  fnOk (cx := cx_strings_TrimSuffix) (pl := pl_strings_TrimSuffix) (dp := 0) (ok0_of tabOk (by unfold ArrOk; kernel_rfl) mix ⟨ok_internal_stringslite_TrimSuffix, trivial⟩ trivial) Tryz.func229 (by kernel_rfl) (by kernel_rfl) (by kernel_rfl)
    (by rw [show loopsOf (bodyOf Tryz.f229) = [] from by kernel_rfl]; exact trivial) (fun x => ef_strings_TrimSuffix x.1 x.2.1)
noncomputable def pl_I_plain : Plan := ⟨[], [], 0, 0⟩
noncomputable def f_I_plain (t0 : PV .str) : Option (PVs [.str] × PVs []) :=
  (f_strings_TrimSuffix t0 [10]).bind fun r1 =>
    some ((r1.1.1, ()), ())
noncomputable def ct_I_plain : Ct := ⟨[(.bor, .str)], [(.str, .b)], fun x => f_I_plain x.1⟩
noncomputable def cx_I_plain : Cx := ⟨tab, arrs, [(229, ct_strings_TrimSuffix)], [], gl, []⟩
theorem ef_I_plain (t0 : PV .str) : denF cx_I_plain 0 pl_I_plain Tryz.f156.ntmps (bodyOf Tryz.f156) Tryz.f156.results.toList [(.bor, .str)] [(.str, .b)] (t0, ()) = f_I_plain t0 := by kernel_rfl
theorem ok_I_plain : FnOk gl Tryz.prog 156 ct_I_plain :=
  fnOk (cx := cx_I_plain) (pl := pl_I_plain) (dp := 0) (ok0_of tabOk (by unfold ArrOk; kernel_rfl) mix ⟨ok_strings_TrimSuffix, trivial⟩ trivial) Tryz.func156 (by kernel_rfl) (by kernel_rfl) (by kernel_rfl)
    (by rw [show loopsOf (bodyOf Tryz.f156) = [] from by kernel_rfl]; exact trivial) (fun x => ef_I_plain x.1)
noncomputable def pl_I_headText : Plan := ⟨[], [], 0, 0⟩
noncomputable def f_I_headText (t0 : PV .str) (t1 : PV .str) : Option (PVs [.str] × PVs []) :=
  bif decide ([64, 64, 32, 45].length + t0.length ≤ 1099511627776) then
    bif decide (([64, 64, 32, 45] ++ t0).length + [32, 43].length ≤ 1099511627776) then
      bif decide ((([64, 64, 32, 45] ++ t0) ++ [32, 43]).length + t1.length ≤ 1099511627776) then
        bif decide (((([64, 64, 32, 45] ++ t0) ++ [32, 43]) ++ t1).length + [32, 64, 64, 10].length ≤ 1099511627776) then
          some (((((([64, 64, 32, 45] ++ t0) ++ [32, 43]) ++ t1) ++ [32, 64, 64, 10]), ()), ())
        else
          none
      else
        none
    else
      none
  else
    none
noncomputable def ct_I_headText : Ct := ⟨[(.bor, .str), (.bor, .str)], [(.str, .b)], fun x => f_I_headText x.1 x.2.1⟩
noncomputable def cx_I_headText : Cx := ⟨tab, arrs, [], [], gl, []⟩
theorem ef_I_headText (t0 : PV .str) (t1 : PV .str) : denF cx_I_headText 0 pl_I_headText Tryz.f198.ntmps (bodyOf Tryz.f198) Tryz.f198.results.toList [(.bor, .str), (.bor, .str)] [(.str, .b)] (t0, t1, ()) = f_I_headText t0 t1 := by kernel_rfl
theorem ok_I_headText : FnOk gl Tryz.prog 198 ct_I_headText :=
  fnOk (cx := cx_I_headText) (pl := pl_I_headText) (dp := 0) (ok0_of tabOk (by unfold ArrOk; kernel_rfl) mix trivial trivial) Tryz.func198 (by kernel_rfl) (by kernel_rfl) (by kernel_rfl)
    (by rw [show loopsOf (bodyOf Tryz.f198) = [] from by kernel_rfl]; exact trivial) (fun x => ef_I_headText x.1 x.2.1)
noncomputable def pl_I_Row_sign : Plan := ⟨[], [], 0, 0⟩
noncomputable def f_I_Row_sign (t0 : PV Y_impl_Row) : Option (PVs [.str] × PVs []) :=
  bif cutB t0.1 (IntKind.wrap .i64 (t0.1 + 1)) [63, 32, 45, 43].length then
    some (((cutL t0.1 (IntKind.wrap .i64 (t0.1 + 1)) [63, 32, 45, 43]), ()), ())
  else
    none
noncomputable def ct_I_Row_sign : Ct := ⟨[(.bor, Y_impl_Row)], [(.str, .b)], fun x => f_I_Row_sign x.1⟩
noncomputable def cx_I_Row_sign : Cx := ⟨tab, arrs, [], [], gl, []⟩
theorem ef_I_Row_sign (t0 : PV Y_impl_Row) : denF cx_I_Row_sign 0 pl_I_Row_sign Tryz.f265.ntmps (bodyOf Tryz.f265) Tryz.f265.results.toList [(.bor, Y_impl_Row)] [(.str, .b)] (t0, ()) = f_I_Row_sign t0 := by kernel_rfl
theorem ok_I_Row_sign : FnOk gl Tryz.prog 265 ct_I_Row_sign :=
  fnOk (cx := cx_I_Row_sign) (pl := pl_I_Row_sign) (dp := 0) (ok0_of tabOk (by unfold ArrOk; kernel_rfl) mix trivial trivial) Tryz.func265 (by kernel_rfl) (by kernel_rfl) (by kernel_rfl)
    (by rw [show loopsOf (bodyOf Tryz.f265) = [] from by kernel_rfl]; exact trivial) (fun x => ef_I_Row_sign x.1)
noncomputable def pl_strings_HasSuffix : Plan := ⟨[], [], 0, 0⟩
noncomputable def f_strings_HasSuffix (t0 : PV .str) (t1 : PV .str) : Option (PVs [.bool] × PVs []) :=
  (f_internal_stringslite_HasSuffix t0 t1).bind fun r1 =>
    some ((r1.1.1, ()), ())
noncomputable def ct_strings_HasSuffix : Ct := ⟨[(.bor, .str), (.bor, .str)], [(.bool, .b)], fun x => f_strings_HasSuffix x.1 x.2.1⟩
noncomputable def cx_strings_HasSuffix : Cx := ⟨tab, arrs, [(303, ct_internal_stringslite_HasSuffix)], [], gl, []⟩
theorem ef_strings_HasSuffix (t0 : PV .str) (t1 : PV .str) : denF cx_strings_HasSuffix 0 pl_strings_HasSuffix Tryz.f286.ntmps (bodyOf Tryz.f286) Tryz.f286.results.toList [(.bor, .str), (.bor, .str)] [(.bool, .b)] (t0, t1, ()) = f_strings_HasSuffix t0 t1 := by kernel_rfl
theorem ok_strings_HasSuffix : FnOk gl Tryz.prog 286 ct_strings_HasSuffix :=
  fnOk (cx := cx_strings_HasSuffix) (pl := pl_strings_HasSuffix) (dp := 0) (ok0_of tabOk (by unfold ArrOk; kernel_rfl) mix ⟨ok_internal_stringslite_HasSuffix, trivial⟩ trivial) Tryz.func286 (by kernel_rfl) (by kernel_rfl) (by kernel_rfl)
    (by rw [show loopsOf (bodyOf Tryz.f286) = [] from by kernel_rfl]; exact trivial) (fun x => ef_strings_HasSuffix x.1 x.2.1)
noncomputable def pl_I_isEnded : Plan := ⟨[], [], 0, 0⟩
noncomputable def f_I_isEnded (t0 : PV .str) : Option (PVs [.bool] × PVs []) :=
  (f_strings_HasSuffix t0 [10]).bind fun r1 =>
    some ((r1.1.1, ()), ())
noncomputable def ct_I_isEnded : Ct := ⟨[(.bor, .str)], [(.bool, .b)], fun x => f_I_isEnded x.1⟩
noncomputable def cx_I_isEnded : Cx := ⟨tab, arrs, [(286, ct_strings_HasSuffix)], [], gl, []⟩
theorem ef_I_isEnded (t0 : PV .str) : denF cx_I_isEnded 0 pl_I_isEnded Tryz.f238.ntmps (bodyOf Tryz.f238) Tryz.f238.results.toList [(.bor, .str)] [(.bool, .b)] (t0, ()) = f_I_isEnded t0 := by kernel_rfl
theorem ok_I_isEnded : FnOk gl Tryz.prog 238 ct_I_isEnded :=
  fnOk (cx := cx_I_isEnded) (pl := pl_I_isEnded) (dp := 0) (ok0_of tabOk (by unfold ArrOk; kernel_rfl) mix ⟨ok_strings_HasSuffix, trivial⟩ trivial) Tryz.func238 (by kernel_rfl) (by kernel_rfl) (by kernel_rfl)
    (by rw [show loopsOf (bodyOf Tryz.f238) = [] from by kernel_rfl]; exact trivial) (fun x => ef_I_isEnded x.1)
noncomputable def pl_I_shown : Plan := ⟨[], [], 0, 0⟩
noncomputable def f_I_shown (t0 : PV .str) (t1 : PV .str) : Option (PVs [.str] × PVs []) :=
  (f_I_isEnded t1).bind fun r4 =>
    bif r4.1.1 then
      bif decide (t0.length + t1.length ≤ 1099511627776) then
        some (((t0 ++ t1), ()), ())
      else
        none
    else
      bif decide (t0.length + t1.length ≤ 1099511627776) then
        bif decide ((t0 ++ t1).length + [10].length ≤ 1099511627776) then
          bif decide (((t0 ++ t1) ++ [10]).length + [92, 32, 110, 111, 110, 101, 10].length ≤ 1099511627776) then
            some (((((t0 ++ t1) ++ [10]) ++ [92, 32, 110, 111, 110, 101, 10]), ()), ())
          else
            none
        else
          none
      else
        none
noncomputable def ct_I_shown : Ct := ⟨[(.bor, .str), (.bor, .str)], [(.str, .b)], fun x => f_I_shown x.1 x.2.1⟩
noncomputable def cx_I_shown : Cx := ⟨tab, arrs, [(238, ct_I_isEnded)], [], gl, []⟩
theorem ef_I_shown (t0 : PV .str) (t1 : PV .str) : denF cx_I_shown 0 pl_I_shown Tryz.f264.ntmps (bodyOf Tryz.f264) Tryz.f264.results.toList [(.bor, .str), (.bor, .str)] [(.str, .b)] (t0, t1, ()) = f_I_shown t0 t1 := by kernel_rfl
theorem ok_I_shown : FnOk gl Tryz.prog 264 ct_I_shown :=
  fnOk (cx := cx_I_shown) (pl := pl_I_shown) (dp := 0) (ok0_of tabOk (by unfold ArrOk; kernel_rfl) mix ⟨ok_I_isEnded, trivial⟩ trivial) Tryz.func264 (by kernel_rfl) (by kernel_rfl) (by kernel_rfl)
    (by rw [show loopsOf (bodyOf Tryz.f264) = [] from by kernel_rfl]; exact trivial) (fun x => ef_I_shown x.1 x.2.1)
noncomputable def sh_I_rowsText_3 : List Sh := mkSh 21 [(3, .val .str .b), (6, .val S_impl_Row .b), (7, .val (.int .i64) .b), (8, .val (.int .i64) .b)]
noncomputable def o_I_rowsText_3 : List Out := [⟨.exit 0, ⟨[], [3], []⟩, mkSh 21 [(3, .val .str .b)]⟩]
noncomputable def b_I_rowsText_3 (t3 : PV .str) (t6 : PV S_impl_Row) (t7 : PV (.int .i64)) (t8 : PV (.int .i64)) : Option ((PV .str × PV S_impl_Row × PV (.int .i64) × PV (.int .i64) × Unit) ⊕ ((PV .str × Unit))) :=
  bif (decide (t8 < t7)) then
    bif inB t8 t6.length then
      (f_I_Row_sign (t6.getD t8.toNat (dflt Y_impl_Row))).bind fun r3 =>
        (f_I_shown r3.1.1 (((t6.getD t8.toNat (dflt Y_impl_Row)).2).1)).bind fun r4 =>
          bif decide (t3.length + r4.1.1.length ≤ 1099511627776) then
            some (.inl ((t3 ++ r4.1.1), t6, t7, (IntKind.wrap .i64 (t8 + 1)), ()))
          else
            none
    else
      none
  else
    some (.inr (t3, ()))
noncomputable def w_I_rowsText_3 : PV .str × PV S_impl_Row × PV (.int .i64) × PV (.int .i64) × Unit → Option ((PV .str × Unit)) := fix fun d => b_I_rowsText_3 d.1 d.2.1 d.2.2.1 d.2.2.2.1
noncomputable def lp_I_rowsText_3 : Lp := ⟨⟨[], [3, 6, 7, 8], []⟩, sh_I_rowsText_3, o_I_rowsText_3, fun d => b_I_rowsText_3 d.1 d.2.1 d.2.2.1 d.2.2.2.1⟩
noncomputable def pl_I_rowsText : Plan := ⟨[], [(3, lp_I_rowsText_3)], 0, 0⟩
noncomputable def f_I_rowsText (t0 : PV S_impl_Row) : Option (PVs [.str] × PVs []) :=
  (w_I_rowsText_3 ([], t0, (t0.length : Int), 0, ())).bind fun l6 =>
    some ((l6.1, ()), ())
noncomputable def ct_I_rowsText : Ct := ⟨[(.bor, S_impl_Row)], [(.str, .b)], fun x => f_I_rowsText x.1⟩
noncomputable def cx_I_rowsText : Cx := ⟨tab, arrs, [(264, ct_I_shown), (265, ct_I_Row_sign)], [], gl, []⟩
theorem eb_I_rowsText_3 (t3 : PV .str) (t6 : PV S_impl_Row) (t7 : PV (.int .i64)) (t8 : PV (.int .i64)) : denK cx_I_rowsText (rcN cx_I_rowsText 0) pl_I_rowsText 0 ((loopsOf (bodyOf Tryz.f200)).getD 0 .skip) (fillS sh_I_rowsText_3 (t3, t6, t7, t8, ())) (roundK 0 lp_I_rowsText_3) = b_I_rowsText_3 t3 t6 t7 t8 := by kernel_rfl
theorem ef_I_rowsText (t0 : PV S_impl_Row) : denF cx_I_rowsText 0 pl_I_rowsText Tryz.f200.ntmps (bodyOf Tryz.f200) Tryz.f200.results.toList [(.bor, S_impl_Row)] [(.str, .b)] (t0, ()) = f_I_rowsText t0 := by kernel_rfl
theorem ok_I_rowsText : FnOk gl Tryz.prog 200 ct_I_rowsText :=
  fnOk (cx := cx_I_rowsText) (pl := pl_I_rowsText) (dp := 0) (ok0_of tabOk (by unfold ArrOk; kernel_rfl) mix ⟨ok_I_shown, ok_I_Row_sign, trivial⟩ trivial) Tryz.func200 (by kernel_rfl) (by kernel_rfl) (by kernel_rfl)
    (by rw [show loopsOf (bodyOf Tryz.f200) = [((loopsOf (bodyOf Tryz.f200)).getD 0 .skip)] from by kernel_rfl]; exact ⟨(by rw [show lookup pl_I_rowsText.loops (firstId ((loopsOf (bodyOf Tryz.f200)).getD 0 .skip)) = some lp_I_rowsText_3 from by kernel_rfl]; exact fun d z h => (eb_I_rowsText_3 d.1 d.2.1 d.2.2.1 d.2.2.2.1).trans h), trivial⟩) (fun x => ef_I_rowsText x.1)
end R
