/- The functions that L_FnExactOrdersText reach, as pure functions, and that the program computes them. -/
import Derived.Test.YtoaajkedncghgaaDoorL3
import Derived.Test.YtoaajkedncghgaaDoorChecked
import Derived.KernelRfl
open Go Go.Dn Go.Proofs
namespace O
set_option linter.unusedVariables false
@[reducible] def S_string : Ty := (.slice 9 .str)
@[reducible] def S_uint8 : Ty := (.slice 5 (.int .u8))
@[reducible] def Y_impl_Order : Ty := (.pair (.int .i64) (.pair (.int .i64) (.pair (.int .i64) (.pair S_string .unit))))
@[reducible] def Y__6_string : Ty := (.pair .str (.pair .str (.pair .str (.pair .str (.pair .str (.pair .str .unit))))))
@[reducible] def S_laws_Order : Ty := (.slice 43 Y_impl_Order)
@[reducible] def S_impl_Order : Ty := (.slice 46 Y_impl_Order)
noncomputable def tab : List (TypeId × Ty) := [(3, (.int .i64)), (4, .bool), (5, (.int .u8)), (9, .str), (22, S_laws_Order), (26, S_impl_Order), (30, S_string), (43, Y_impl_Order), (46, Y_impl_Order), (49, Y__6_string), (67, S_uint8)]
noncomputable def arrs : List TypeId := [49]
theorem tabOk : TabOk Tryd.prog tab := by unfold TabOk; kernel_rfl
theorem mix : Tryd.prog.follows .mixedOrders = true := by kernel_rfl
def gs0 : List (List UInt8) := [[], [97], [105], [99], [100], [115, 47, 46, 47, 47]]
noncomputable def gl : Glob := (Glob.both (tabGlob Tryd.prog 2) (strGlob 0 gs0))
theorem gl_tab : ∀ w, gl.ok w → Lib.TabIs Tryd.prog w "internal/strconv.uint64pow10" .u64 Lib.pow10Tab := fun w h => tabGlob_tab w h.1
open Go.Shelf
set_option maxRecDepth 20000
def lays_strings_Join_ren : Go.Shelf.Ren := ⟨fun | 0 => 0 | 1 => 1 | 2 => 2 | 100 => 72 | 129 => 90 | 143 => 80 | 144 => 71 | 156 => 24 | 165 => 40 | 166 => 41 | 169 => 42 | 171 => 39 | 207 => 81 | 217 => 94 | 219 => 88 | 224 => 96 | 225 => 95 | 240 => 60 | 241 => 61 | 243 => 59 | 246 => 73 | 266 => 100 | 267 => 97 | 276 => 74 | 277 => 75 | 283 => 82 | 284 => 83 | 285 => 84 | 286 => 85 | 314 => 101 | 317 => 89 | 318 => 91 | 319 => 92 | 320 => 93 | 337 => 98 | 338 => 99 | 347 => 102 | 348 => 103 | 349 => 104 | 350 => 105 | 351 => 106 | 352 => 107 | 353 => 108 | 354 => 109 | 355 => 110 | 356 => 111 | 357 => 112 | 358 => 113 | 359 => 114 | 360 => 115 | 361 => 116 | 362 => 117 | 366 => 118 | 367 => 126 | n => n, fun | 0 => 0 | 1 => 1 | 2 => 2 | 3 => 3 | 4 => 4 | 5 => 5 | 6 => 6 | 7 => 7 | 8 => 8 | 9 => 9 | 10 => 10 | 11 => 11 | 12 => 12 | 13 => 13 | 14 => 14 | 15 => 15 | 16 => 16 | 17 => 17 | 18 => 18 | 19 => 19 | 20 => 20 | 21 => 21 | 22 => 94 | 24 => 24 | 27 => 99 | 31 => 30 | 37 => 67 | 43 => 84 | 46 => 112 | 47 => 113 | 51 => 109 | 52 => 115 | 53 => 101 | 54 => 102 | 55 => 114 | 67 => 50 | 70 => 66 | 71 => 68 | 72 => 69 | 73 => 70 | 74 => 71 | 75 => 72 | 76 => 73 | 77 => 74 | 80 => 75 | 81 => 125 | 83 => 65 | 84 => 95 | 101 => 38 | 102 => 35 | 104 => 88 | 111 => 111 | 114 => 106 | 127 => 89 | 146 => 116 | 151 => 117 | 164 => 96 | 165 => 97 | 166 => 98 | 171 => 100 | 172 => 103 | 173 => 104 | 174 => 105 | 211 => 107 | 212 => 108 | 213 => 110 | 232 => 118 | 233 => 119 | 238 => 120 | 239 => 121 | 240 => 122 | 241 => 123 | 242 => 124 | 243 => 126 | 244 => 127 | 245 => 128 | 246 => 129 | 247 => 130 | 248 => 131 | 249 => 132 | n => n, fun | 1 => 1 | 17 => 2 | 18 => 3 | 19 => 4 | n => n⟩
theorem lays_strings_Join : Go.Proofs.Lays.n156 Tryd.prog lays_strings_Join_ren where
  mixed := by kernel_rfl
  f156 := Tryd.func24.trans (congrArg some (by kernel_rfl))
  f165 := Tryd.func40.trans (congrArg some (by kernel_rfl))
  f166 := Tryd.func41.trans (congrArg some (by kernel_rfl))
  f169 := Tryd.func42.trans (congrArg some (by kernel_rfl))
  f240 := Tryd.func60.trans (congrArg some (by kernel_rfl))
  f241 := Tryd.func61.trans (congrArg some (by kernel_rfl))
  f276 := Tryd.func74.trans (congrArg some (by kernel_rfl))
  f277 := Tryd.func75.trans (congrArg some (by kernel_rfl))
  t0 := Tryd.underlying0
  a0 := Tryd.isAgg0
  z0 := Tryd.sizeOf0
  v0 := Tryd.zeroValue0
  t3 := Tryd.underlying3
  a3 := Tryd.isAgg3
  z3 := Tryd.sizeOf3
  v3 := Tryd.zeroValue3
  t4 := Tryd.underlying4
  a4 := Tryd.isAgg4
  z4 := Tryd.sizeOf4
  v4 := Tryd.zeroValue4
  t9 := Tryd.underlying9
  a9 := Tryd.isAgg9
  z9 := Tryd.sizeOf9
  v9 := Tryd.zeroValue9
  t20 := Tryd.underlying20
  a20 := Tryd.isAgg20
  z20 := Tryd.sizeOf20
  v20 := Tryd.zeroValue20
  t31 := Tryd.underlying30
  a31 := Tryd.isAgg30
  z31 := Tryd.sizeOf30
  v31 := Tryd.zeroValue30
  t37 := Tryd.underlying67
  a37 := Tryd.isAgg67
  z37 := Tryd.sizeOf67
  v37 := Tryd.zeroValue67
  t70 := Tryd.underlying66
  a70 := Tryd.isAgg66
  z70 := Tryd.sizeOf66
  v70 := Tryd.zeroValue66
  t72 := Tryd.underlying69
  a72 := Tryd.isAgg69
  z72 := Tryd.sizeOf69
  v72 := Tryd.zeroValue69
  t75 := Tryd.underlying72
  a75 := Tryd.isAgg72
  z75 := Tryd.sizeOf72
  v75 := Tryd.zeroValue72
  t76 := Tryd.underlying73
  a76 := Tryd.isAgg73
  z76 := Tryd.sizeOf73
  v76 := Tryd.zeroValue73
  t127 := Tryd.underlying89
  a127 := Tryd.isAgg89
  z127 := Tryd.sizeOf89
  v127 := Tryd.zeroValue89
  t164 := Tryd.underlying96
  a164 := Tryd.isAgg96
  z164 := Tryd.sizeOf96
  v164 := Tryd.zeroValue96
def extra_strings_Join_ren : Go.Shelf.Ren := ⟨fun | 0 => 0 | 1 => 1 | 2 => 2 | 100 => 72 | 129 => 90 | 143 => 80 | 144 => 71 | 156 => 24 | 165 => 40 | 166 => 41 | 169 => 42 | 171 => 39 | 207 => 81 | 217 => 94 | 219 => 88 | 224 => 96 | 225 => 95 | 240 => 60 | 241 => 61 | 243 => 59 | 246 => 73 | 266 => 100 | 267 => 97 | 276 => 74 | 277 => 75 | 283 => 82 | 284 => 83 | 285 => 84 | 286 => 85 | 314 => 101 | 317 => 89 | 318 => 91 | 319 => 92 | 320 => 93 | 337 => 98 | 338 => 99 | 347 => 102 | 348 => 103 | 349 => 104 | 350 => 105 | 351 => 106 | 352 => 107 | 353 => 108 | 354 => 109 | 355 => 110 | 356 => 111 | 357 => 112 | 358 => 113 | 359 => 114 | 360 => 115 | 361 => 116 | 362 => 117 | 366 => 118 | 367 => 126 | n => n, fun | 0 => 0 | 1 => 1 | 2 => 2 | 3 => 3 | 4 => 4 | 5 => 5 | 6 => 6 | 7 => 7 | 8 => 8 | 9 => 9 | 10 => 10 | 11 => 11 | 12 => 12 | 13 => 13 | 14 => 14 | 15 => 15 | 16 => 16 | 17 => 17 | 18 => 18 | 19 => 19 | 20 => 20 | 21 => 21 | 22 => 94 | 24 => 24 | 27 => 99 | 31 => 30 | 37 => 67 | 43 => 84 | 46 => 112 | 47 => 113 | 51 => 109 | 52 => 115 | 53 => 101 | 54 => 102 | 55 => 114 | 67 => 50 | 70 => 66 | 71 => 68 | 72 => 69 | 73 => 70 | 74 => 71 | 75 => 72 | 76 => 73 | 77 => 74 | 80 => 75 | 81 => 125 | 83 => 65 | 84 => 95 | 101 => 38 | 102 => 35 | 104 => 88 | 111 => 111 | 114 => 106 | 127 => 89 | 146 => 116 | 151 => 117 | 164 => 96 | 165 => 97 | 166 => 98 | 171 => 100 | 172 => 103 | 173 => 104 | 174 => 105 | 211 => 107 | 212 => 108 | 213 => 110 | 232 => 118 | 233 => 119 | 238 => 120 | 239 => 121 | 240 => 122 | 241 => 123 | 242 => 124 | 243 => 126 | 244 => 127 | 245 => 128 | 246 => 129 | 247 => 130 | 248 => 131 | 249 => 132 | n => n, fun | 1 => 1 | 17 => 2 | 18 => 3 | 19 => 4 | n => n⟩
theorem extra_strings_Join : Go.Proofs.Builder.Extra Tryd.prog extra_strings_Join_ren where
  sizeBuilder := by kernel_rfl
  liesBuilder := by kernel_rfl
  t5 := Tryd.underlying5
  a5 := Tryd.isAgg5
  z5 := Tryd.sizeOf5
  v5 := Tryd.zeroValue5
  infoByte := by kernel_rfl
  cellsByte := by kernel_rfl
  sizeByte := by kernel_rfl
  neB5 := by decide +kernel

noncomputable def f_strings_Join (t0 : PV S_string) (t1 : PV .str) : Option (PVs [.str] × PVs []) := Go.Dn.joinF t0 t1
noncomputable def ct_strings_Join : Ct := ⟨[(.bor, S_string), (.bor, .str)], [(.str, .b)], fun x => f_strings_Join x.1 x.2.1⟩
theorem ok_strings_Join : FnOk gl Tryd.prog 24 ct_strings_Join := Go.Dn.join_ok lays_strings_Join extra_strings_Join
def lays_strconv_Itoa_ren : Go.Shelf.Ren := ⟨fun | 0 => 0 | 1 => 1 | 2 => 2 | 100 => 72 | 129 => 90 | 143 => 80 | 144 => 71 | 156 => 24 | 165 => 40 | 166 => 41 | 169 => 42 | 171 => 39 | 207 => 81 | 217 => 94 | 219 => 88 | 224 => 96 | 225 => 95 | 240 => 60 | 241 => 61 | 243 => 59 | 246 => 73 | 266 => 100 | 267 => 97 | 276 => 74 | 277 => 75 | 283 => 82 | 284 => 83 | 285 => 84 | 286 => 85 | 314 => 101 | 317 => 89 | 318 => 91 | 319 => 92 | 320 => 93 | 337 => 98 | 338 => 99 | 347 => 102 | 348 => 103 | 349 => 104 | 350 => 105 | 351 => 106 | 352 => 107 | 353 => 108 | 354 => 109 | 355 => 110 | 356 => 111 | 357 => 112 | 358 => 113 | 359 => 114 | 360 => 115 | 361 => 116 | 362 => 117 | 366 => 118 | 367 => 126 | n => n, fun | 0 => 0 | 1 => 1 | 2 => 2 | 3 => 3 | 4 => 4 | 5 => 5 | 6 => 6 | 7 => 7 | 8 => 8 | 9 => 9 | 10 => 10 | 11 => 11 | 12 => 12 | 13 => 13 | 14 => 14 | 15 => 15 | 16 => 16 | 17 => 17 | 18 => 18 | 19 => 19 | 20 => 20 | 21 => 21 | 22 => 94 | 24 => 24 | 27 => 99 | 31 => 30 | 37 => 67 | 43 => 84 | 46 => 112 | 47 => 113 | 51 => 109 | 52 => 115 | 53 => 101 | 54 => 102 | 55 => 114 | 67 => 50 | 70 => 66 | 71 => 68 | 72 => 69 | 73 => 70 | 74 => 71 | 75 => 72 | 76 => 73 | 77 => 74 | 80 => 75 | 81 => 125 | 83 => 65 | 84 => 95 | 101 => 38 | 102 => 35 | 104 => 88 | 111 => 111 | 114 => 106 | 127 => 89 | 146 => 116 | 151 => 117 | 164 => 96 | 165 => 97 | 166 => 98 | 171 => 100 | 172 => 103 | 173 => 104 | 174 => 105 | 211 => 107 | 212 => 108 | 213 => 110 | 232 => 118 | 233 => 119 | 238 => 120 | 239 => 121 | 240 => 122 | 241 => 123 | 242 => 124 | 243 => 126 | 244 => 127 | 245 => 128 | 246 => 129 | 247 => 130 | 248 => 131 | 249 => 132 | n => n, fun | 1 => 1 | 17 => 2 | 18 => 3 | 19 => 4 | n => n⟩
theorem lays_strconv_Itoa : Go.Proofs.LaysM.n171 Tryd.prog lays_strconv_Itoa_ren where
  mixed := by kernel_rfl
  f129 := Tryd.func90.trans (congrArg some (by kernel_rfl))
  f171 := Tryd.func39.trans (congrArg some (by kernel_rfl))
  f243 := Tryd.func59.trans (congrArg some (by kernel_rfl))
  f246 := Tryd.func73.trans (congrArg some (by kernel_rfl))
  f283 := Tryd.func82.trans (congrArg some (by kernel_rfl))
  f284 := Tryd.func83.trans (congrArg some (by kernel_rfl))
  f285 := Tryd.func84.trans (congrArg some (by kernel_rfl))
  f286 := Tryd.func85.trans (congrArg some (by kernel_rfl))
  f317 := Tryd.func89.trans (congrArg some (by kernel_rfl))
  f318 := Tryd.func91.trans (congrArg some (by kernel_rfl))
  f319 := Tryd.func92.trans (congrArg some (by kernel_rfl))
  f320 := Tryd.func93.trans (congrArg some (by kernel_rfl))
  f337 := Tryd.func98.trans (congrArg some (by kernel_rfl))
  f338 := Tryd.func99.trans (congrArg some (by kernel_rfl))
  t0 := Tryd.underlying0
  a0 := Tryd.isAgg0
  z0 := Tryd.sizeOf0
  v0 := Tryd.zeroValue0
  t2 := Tryd.underlying2
  a2 := Tryd.isAgg2
  z2 := Tryd.sizeOf2
  v2 := Tryd.zeroValue2
  t3 := Tryd.underlying3
  a3 := Tryd.isAgg3
  z3 := Tryd.sizeOf3
  v3 := Tryd.zeroValue3
  t4 := Tryd.underlying4
  a4 := Tryd.isAgg4
  z4 := Tryd.sizeOf4
  v4 := Tryd.zeroValue4
  t5 := Tryd.underlying5
  a5 := Tryd.isAgg5
  z5 := Tryd.sizeOf5
  v5 := Tryd.zeroValue5
  t9 := Tryd.underlying9
  a9 := Tryd.isAgg9
  z9 := Tryd.sizeOf9
  v9 := Tryd.zeroValue9
  t20 := Tryd.underlying20
  a20 := Tryd.isAgg20
  z20 := Tryd.sizeOf20
  v20 := Tryd.zeroValue20
  t37 := Tryd.underlying67
  a37 := Tryd.isAgg67
  z37 := Tryd.sizeOf67
  v37 := Tryd.zeroValue67
  t46 := Tryd.underlying112
  a46 := Tryd.isAgg112
  z46 := Tryd.sizeOf112
  v46 := Tryd.zeroValue112
  t51 := Tryd.underlying109
  a51 := Tryd.isAgg109
  z51 := Tryd.sizeOf109
  v51 := Tryd.zeroValue109
  t53 := Tryd.underlying101
  a53 := Tryd.isAgg101
  z53 := Tryd.sizeOf101
  v53 := Tryd.zeroValue101
  t171 := Tryd.underlying100
  a171 := Tryd.isAgg100
  z171 := Tryd.sizeOf100
  v171 := Tryd.zeroValue100
  t173 := Tryd.underlying104
  a173 := Tryd.isAgg104
  z173 := Tryd.sizeOf104
  v173 := Tryd.zeroValue104
  t212 := Tryd.underlying108
  a212 := Tryd.isAgg108
  z212 := Tryd.sizeOf108
  v212 := Tryd.zeroValue108
  t213 := Tryd.underlying110
  a213 := Tryd.isAgg110
  z213 := Tryd.sizeOf110
  t232 := Tryd.underlying118
  a232 := Tryd.isAgg118
  z232 := Tryd.sizeOf118
  v232 := Tryd.zeroValue118
  t233 := Tryd.underlying119
  a233 := Tryd.isAgg119
  z233 := Tryd.sizeOf119
  v233 := Tryd.zeroValue119
  g17 := by kernel_rfl
  g18 := by kernel_rfl
  g19 := by kernel_rfl
  i0 := by kernel_rfl
  i2 := by kernel_rfl
  i3 := by kernel_rfl
  i4 := by kernel_rfl
  i5 := by kernel_rfl
  i9 := by kernel_rfl
  i20 := by kernel_rfl
  i37 := by kernel_rfl
  i46 := by kernel_rfl
  i51 := by kernel_rfl
  i53 := by kernel_rfl
  i171 := by kernel_rfl
  i173 := by kernel_rfl
  i212 := by kernel_rfl
  i232 := by kernel_rfl
  i233 := by kernel_rfl
  m17 := by kernel_rfl
  m18 := by kernel_rfl
  m19 := by kernel_rfl
noncomputable def f_strconv_Itoa (t0 : PV (.int .i64)) : Option (PVs [.str] × PVs []) := Go.Dn.itoaF t0
noncomputable def ct_strconv_Itoa : Ct := ⟨[(.bor, (.int .i64))], [(.str, .b)], fun x => f_strconv_Itoa x.1⟩
theorem ok_strconv_Itoa : FnOk gl Tryd.prog 39 ct_strconv_Itoa := Go.Dn.itoa_ok gl_tab lays_strconv_Itoa
def lays_strings_Contains_ren : Go.Shelf.Ren := ⟨fun | 0 => 0 | 1 => 1 | 2 => 2 | 100 => 72 | 129 => 90 | 143 => 80 | 144 => 71 | 156 => 24 | 165 => 40 | 166 => 41 | 169 => 42 | 171 => 39 | 207 => 81 | 217 => 94 | 219 => 88 | 224 => 96 | 225 => 95 | 240 => 60 | 241 => 61 | 243 => 59 | 246 => 73 | 266 => 100 | 267 => 97 | 276 => 74 | 277 => 75 | 283 => 82 | 284 => 83 | 285 => 84 | 286 => 85 | 314 => 101 | 317 => 89 | 318 => 91 | 319 => 92 | 320 => 93 | 337 => 98 | 338 => 99 | 347 => 102 | 348 => 103 | 349 => 104 | 350 => 105 | 351 => 106 | 352 => 107 | 353 => 108 | 354 => 109 | 355 => 110 | 356 => 111 | 357 => 112 | 358 => 113 | 359 => 114 | 360 => 115 | 361 => 116 | 362 => 117 | 366 => 118 | 367 => 126 | n => n, fun | 0 => 0 | 1 => 1 | 2 => 2 | 3 => 3 | 4 => 4 | 5 => 5 | 6 => 6 | 7 => 7 | 8 => 8 | 9 => 9 | 10 => 10 | 11 => 11 | 12 => 12 | 13 => 13 | 14 => 14 | 15 => 15 | 16 => 16 | 17 => 17 | 18 => 18 | 19 => 19 | 20 => 20 | 21 => 21 | 22 => 94 | 24 => 24 | 27 => 99 | 31 => 30 | 37 => 67 | 43 => 84 | 46 => 112 | 47 => 113 | 51 => 109 | 52 => 115 | 53 => 101 | 54 => 102 | 55 => 114 | 67 => 50 | 70 => 66 | 71 => 68 | 72 => 69 | 73 => 70 | 74 => 71 | 75 => 72 | 76 => 73 | 77 => 74 | 80 => 75 | 81 => 125 | 83 => 65 | 84 => 95 | 101 => 38 | 102 => 35 | 104 => 88 | 111 => 111 | 114 => 106 | 127 => 89 | 146 => 116 | 151 => 117 | 164 => 96 | 165 => 97 | 166 => 98 | 171 => 100 | 172 => 103 | 173 => 104 | 174 => 105 | 211 => 107 | 212 => 108 | 213 => 110 | 232 => 118 | 233 => 119 | 238 => 120 | 239 => 121 | 240 => 122 | 241 => 123 | 242 => 124 | 243 => 126 | 244 => 127 | 245 => 128 | 246 => 129 | 247 => 130 | 248 => 131 | 249 => 132 | n => n, fun | 1 => 1 | 17 => 2 | 18 => 3 | 19 => 4 | n => n⟩
theorem lays_strings_Contains : Go.Proofs.Lays.n144 Tryd.prog lays_strings_Contains_ren where
  mixed := by kernel_rfl
  f143 := Tryd.func80.trans (congrArg some (by kernel_rfl))
  f144 := Tryd.func71.trans (congrArg some (by kernel_rfl))
  f217 := Tryd.func94.trans (congrArg some (by kernel_rfl))
  f219 := Tryd.func88.trans (congrArg some (by kernel_rfl))
  f224 := Tryd.func96.trans (congrArg some (by kernel_rfl))
  f225 := Tryd.func95.trans (congrArg some (by kernel_rfl))
  f266 := Tryd.func100.trans (congrArg some (by kernel_rfl))
  f267 := Tryd.func97.trans (congrArg some (by kernel_rfl))
  f314 := Tryd.func101.trans (congrArg some (by kernel_rfl))
  t3 := Tryd.underlying3
  a3 := Tryd.isAgg3
  z3 := Tryd.sizeOf3
  v3 := Tryd.zeroValue3
  t4 := Tryd.underlying4
  a4 := Tryd.isAgg4
  z4 := Tryd.sizeOf4
  v4 := Tryd.zeroValue4
  t5 := Tryd.underlying5
  a5 := Tryd.isAgg5
  z5 := Tryd.sizeOf5
  v5 := Tryd.zeroValue5
  t9 := Tryd.underlying9
  a9 := Tryd.isAgg9
  z9 := Tryd.sizeOf9
  v9 := Tryd.zeroValue9
  t46 := Tryd.underlying112
  a46 := Tryd.isAgg112
  z46 := Tryd.sizeOf112
  v46 := Tryd.zeroValue112
  t51 := Tryd.underlying109
  a51 := Tryd.isAgg109
  z51 := Tryd.sizeOf109
  v51 := Tryd.zeroValue109
  t146 := Tryd.underlying116
  a146 := Tryd.isAgg116
  z146 := Tryd.sizeOf116
  v146 := Tryd.zeroValue116
  g1 := by kernel_rfl
noncomputable def f_strings_Contains (t0 : PV .str) (t1 : PV .str) : Option (PVs [.bool] × PVs []) := Go.Dn.containsF t0 t1
noncomputable def ct_strings_Contains : Ct := ⟨[(.bor, .str), (.bor, .str)], [(.bool, .b)], fun x => f_strings_Contains x.1 x.2.1⟩
theorem ok_strings_Contains : FnOk gl Tryd.prog 71 ct_strings_Contains := Go.Dn.contains_ok  lays_strings_Contains
noncomputable def sh_L_szStringS_5 : List Sh := mkSh 28 [(0, .val S_string .b), (1, .val (.int .i64) .b), (5, .val (.int .i64) .b)]
noncomputable def o_L_szStringS_5 : List Out := [⟨.exit 0, ⟨[], [1], []⟩, mkSh 28 [(1, .val (.int .i64) .b)]⟩, ⟨.ret, ⟨[], [4], []⟩, mkSh 28 [(4, .val (.int .i64) .b)]⟩]
noncomputable def b_L_szStringS_5 (t0 : PV S_string) (t1 : PV (.int .i64)) (t5 : PV (.int .i64)) : Option ((PV S_string × PV (.int .i64) × PV (.int .i64) × Unit) ⊕ ((PV (.int .i64) × Unit) ⊕ (PV (.int .i64) × Unit))) :=
  bif (decide (t5 < (t0.length : Int))) then
    bif inB t5 t0.length then
      bif (decide ((IntKind.wrap .i64 (t1 - ((t0.getD t5.toNat []).length : Int))) < 0)) then
        some (.inr (.inr ((-1), ())))
      else
        some (.inl (t0, (IntKind.wrap .i64 (t1 - ((t0.getD t5.toNat []).length : Int))), (IntKind.wrap .i64 (t5 + 1)), ()))
    else
      none
  else
    some (.inr (.inl (t1, ())))
noncomputable def w_L_szStringS_5 : PV S_string × PV (.int .i64) × PV (.int .i64) × Unit → Option ((PV (.int .i64) × Unit) ⊕ (PV (.int .i64) × Unit)) := fix fun d => b_L_szStringS_5 d.1 d.2.1 d.2.2.1
noncomputable def lp_L_szStringS_5 : Lp := ⟨⟨[], [0, 1, 5], []⟩, sh_L_szStringS_5, o_L_szStringS_5, fun d => b_L_szStringS_5 d.1 d.2.1 d.2.2.1⟩
noncomputable def pl_L_szStringS : Plan := ⟨[], [(5, lp_L_szStringS_5)], 0, 0⟩
noncomputable def f_L_szStringS (t0 : PV S_string) (t1 : PV (.int .i64)) : Option (PVs [(.int .i64)] × PVs []) :=
  bif (decide ((IntKind.wrap .i64 (t1 - (t0.length : Int))) < 0)) then
    some (((-1), ()), ())
  else
    (w_L_szStringS_5 (t0, (IntKind.wrap .i64 (t1 - (t0.length : Int))), 0, ())).bind fun x5 =>
      match x5 with
      | .inl l3 =>
        some ((l3.1, ()), ())
      | .inr l4 =>
        some ((l4.1, ()), ())
noncomputable def ct_L_szStringS : Ct := ⟨[(.bor, S_string), (.bor, (.int .i64))], [((.int .i64), .b)], fun x => f_L_szStringS x.1 x.2.1⟩
noncomputable def cx_L_szStringS : Cx := ⟨tab, arrs, [], [], gl, []⟩
theorem eb_L_szStringS_5 (t0 : PV S_string) (t1 : PV (.int .i64)) (t5 : PV (.int .i64)) : denK cx_L_szStringS (rcN cx_L_szStringS 0) pl_L_szStringS 0 ((loopsOf (bodyOf Tryd.f10)).getD 0 .skip) (fillS sh_L_szStringS_5 (t0, t1, t5, ())) (roundK 0 lp_L_szStringS_5) = b_L_szStringS_5 t0 t1 t5 := by kernel_rfl
theorem ef_L_szStringS (t0 : PV S_string) (t1 : PV (.int .i64)) : denF cx_L_szStringS 0 pl_L_szStringS Tryd.f10.ntmps (bodyOf Tryd.f10) Tryd.f10.results.toList [(.bor, S_string), (.bor, (.int .i64))] [((.int .i64), .b)] (t0, t1, ()) = f_L_szStringS t0 t1 := by kernel_rfl
theorem ok_L_szStringS : FnOk gl Tryd.prog 10 ct_L_szStringS :=
  fnOk (cx := cx_L_szStringS) (pl := pl_L_szStringS) (dp := 0) (ok0_of tabOk (by unfold ArrOk; kernel_rfl) mix trivial trivial) Tryd.func10 (by kernel_rfl) (by kernel_rfl) (by kernel_rfl)
    (by rw [show loopsOf (bodyOf Tryd.f10) = [((loopsOf (bodyOf Tryd.f10)).getD 0 .skip)] from by kernel_rfl]; exact ⟨(by rw [show lookup pl_L_szStringS.loops (firstId ((loopsOf (bodyOf Tryd.f10)).getD 0 .skip)) = some lp_L_szStringS_5 from by kernel_rfl]; exact fun d z h => (eb_L_szStringS_5 d.1 d.2.1 d.2.2.1).trans h), trivial⟩) (fun x => ef_L_szStringS x.1 x.2.1)
noncomputable def pl_L_szOrder : Plan := ⟨[], [], 0, 0⟩
noncomputable def f_L_szOrder (t0 : PV Y_impl_Order) (t1 : PV (.int .i64)) : Option (PVs [(.int .i64)] × PVs []) :=
  (f_L_szStringS t0.2.2.2.1 t1).bind fun r2 =>
    bif (decide (r2.1.1 < 0)) then
      some (((-1), ()), ())
    else
      some ((r2.1.1, ()), ())
noncomputable def ct_L_szOrder : Ct := ⟨[(.bor, Y_impl_Order), (.bor, (.int .i64))], [((.int .i64), .b)], fun x => f_L_szOrder x.1 x.2.1⟩
noncomputable def cx_L_szOrder : Cx := ⟨tab, arrs, [(10, ct_L_szStringS)], [], gl, []⟩
theorem ef_L_szOrder (t0 : PV Y_impl_Order) (t1 : PV (.int .i64)) : denF cx_L_szOrder 0 pl_L_szOrder Tryd.f18.ntmps (bodyOf Tryd.f18) Tryd.f18.results.toList [(.bor, Y_impl_Order), (.bor, (.int .i64))] [((.int .i64), .b)] (t0, t1, ()) = f_L_szOrder t0 t1 := by kernel_rfl
theorem ok_L_szOrder : FnOk gl Tryd.prog 18 ct_L_szOrder :=
  fnOk (cx := cx_L_szOrder) (pl := pl_L_szOrder) (dp := 0) (ok0_of tabOk (by unfold ArrOk; kernel_rfl) mix ⟨ok_L_szStringS, trivial⟩ trivial) Tryd.func18 (by kernel_rfl) (by kernel_rfl) (by kernel_rfl)
    (by rw [show loopsOf (bodyOf Tryd.f18) = [] from by kernel_rfl]; exact trivial) (fun x => ef_L_szOrder x.1 x.2.1)
noncomputable def sh_L_szOrderS_5 : List Sh := mkSh 27 [(0, .val S_laws_Order .b), (1, .val (.int .i64) .b), (5, .val (.int .i64) .b)]
noncomputable def o_L_szOrderS_5 : List Out := [⟨.exit 0, ⟨[], [1], []⟩, mkSh 27 [(1, .val (.int .i64) .b)]⟩, ⟨.ret, ⟨[], [4], []⟩, mkSh 27 [(4, .val (.int .i64) .b)]⟩]
noncomputable def b_L_szOrderS_5 (t0 : PV S_laws_Order) (t1 : PV (.int .i64)) (t5 : PV (.int .i64)) : Option ((PV S_laws_Order × PV (.int .i64) × PV (.int .i64) × Unit) ⊕ ((PV (.int .i64) × Unit) ⊕ (PV (.int .i64) × Unit))) :=
  bif (decide (t5 < (t0.length : Int))) then
    bif inB t5 t0.length then
      (f_L_szOrder (t0.getD t5.toNat (dflt Y_impl_Order)) t1).bind fun r4 =>
        bif (decide (r4.1.1 < 0)) then
          some (.inr (.inr ((-1), ())))
        else
          some (.inl (t0, r4.1.1, (IntKind.wrap .i64 (t5 + 1)), ()))
    else
      none
  else
    some (.inr (.inl (t1, ())))
noncomputable def w_L_szOrderS_5 : PV S_laws_Order × PV (.int .i64) × PV (.int .i64) × Unit → Option ((PV (.int .i64) × Unit) ⊕ (PV (.int .i64) × Unit)) := fix fun d => b_L_szOrderS_5 d.1 d.2.1 d.2.2.1
noncomputable def lp_L_szOrderS_5 : Lp := ⟨⟨[], [0, 1, 5], []⟩, sh_L_szOrderS_5, o_L_szOrderS_5, fun d => b_L_szOrderS_5 d.1 d.2.1 d.2.2.1⟩
noncomputable def pl_L_szOrderS : Plan := ⟨[], [(5, lp_L_szOrderS_5)], 0, 0⟩
noncomputable def f_L_szOrderS (t0 : PV S_laws_Order) (t1 : PV (.int .i64)) : Option (PVs [(.int .i64)] × PVs []) :=
  bif (decide ((IntKind.wrap .i64 (t1 - (t0.length : Int))) < 0)) then
    some (((-1), ()), ())
  else
    (w_L_szOrderS_5 (t0, (IntKind.wrap .i64 (t1 - (t0.length : Int))), 0, ())).bind fun x9 =>
      match x9 with
      | .inl l7 =>
        some ((l7.1, ()), ())
      | .inr l8 =>
        some ((l8.1, ()), ())
noncomputable def ct_L_szOrderS : Ct := ⟨[(.bor, S_laws_Order), (.bor, (.int .i64))], [((.int .i64), .b)], fun x => f_L_szOrderS x.1 x.2.1⟩
noncomputable def cx_L_szOrderS : Cx := ⟨tab, arrs, [(18, ct_L_szOrder)], [], gl, []⟩
theorem eb_L_szOrderS_5 (t0 : PV S_laws_Order) (t1 : PV (.int .i64)) (t5 : PV (.int .i64)) : denK cx_L_szOrderS (rcN cx_L_szOrderS 0) pl_L_szOrderS 0 ((loopsOf (bodyOf Tryd.f5)).getD 0 .skip) (fillS sh_L_szOrderS_5 (t0, t1, t5, ())) (roundK 0 lp_L_szOrderS_5) = b_L_szOrderS_5 t0 t1 t5 := by kernel_rfl
theorem ef_L_szOrderS (t0 : PV S_laws_Order) (t1 : PV (.int .i64)) : denF cx_L_szOrderS 0 pl_L_szOrderS Tryd.f5.ntmps (bodyOf Tryd.f5) Tryd.f5.results.toList [(.bor, S_laws_Order), (.bor, (.int .i64))] [((.int .i64), .b)] (t0, t1, ()) = f_L_szOrderS t0 t1 := by kernel_rfl
theorem ok_L_szOrderS : FnOk gl Tryd.prog 5 ct_L_szOrderS :=
  fnOk (cx := cx_L_szOrderS) (pl := pl_L_szOrderS) (dp := 0) (ok0_of tabOk (by unfold ArrOk; kernel_rfl) mix ⟨ok_L_szOrder, trivial⟩ trivial) Tryd.func5 (by kernel_rfl) (by kernel_rfl) (by kernel_rfl)
    (by rw [show loopsOf (bodyOf Tryd.f5) = [((loopsOf (bodyOf Tryd.f5)).getD 0 .skip)] from by kernel_rfl]; exact ⟨(by rw [show lookup pl_L_szOrderS.loops (firstId ((loopsOf (bodyOf Tryd.f5)).getD 0 .skip)) = some lp_L_szOrderS_5 from by kernel_rfl]; exact fun d z h => (eb_L_szOrderS_5 d.1 d.2.1 d.2.2.1).trans h), trivial⟩) (fun x => ef_L_szOrderS x.1 x.2.1)
noncomputable def sh_L_toStringS_3 : List Sh := mkSh 22 [(0, .val S_string .b), (3, .val S_string (.row .b)), (4, .val (.int .i64) .b)]
noncomputable def o_L_toStringS_3 : List Out := [⟨.exit 0, ⟨[], [3], []⟩, mkSh 22 [(3, .val S_string (.row .b))]⟩]
noncomputable def b_L_toStringS_3 (t0 : PV S_string) (t3 : PV S_string) (t4 : PV (.int .i64)) : Option ((PV S_string × PV S_string × PV (.int .i64) × Unit) ⊕ ((PV S_string × Unit))) :=
  bif (decide (t4 < (t0.length : Int))) then
    bif inB t4 t0.length then
      bif inB t4 t3.length then
        some (.inl (t0, (t3.set t4.toNat (t0.getD t4.toNat [])), (IntKind.wrap .i64 (t4 + 1)), ()))
      else
        none
    else
      none
  else
    some (.inr (t3, ()))
noncomputable def w_L_toStringS_3 : PV S_string × PV S_string × PV (.int .i64) × Unit → Option ((PV S_string × Unit)) := fix fun d => b_L_toStringS_3 d.1 d.2.1 d.2.2.1
noncomputable def lp_L_toStringS_3 : Lp := ⟨⟨[], [0, 3, 4], []⟩, sh_L_toStringS_3, o_L_toStringS_3, fun d => b_L_toStringS_3 d.1 d.2.1 d.2.2.1⟩
noncomputable def pl_L_toStringS : Plan := ⟨[], [(3, lp_L_toStringS_3)], 0, 0⟩
noncomputable def f_L_toStringS (t0 : PV S_string) : Option (PVs [S_string] × PVs []) :=
  bif decide (0 ≤ (t0.length : Int)) && (decide ((t0.length : Int) ≤ (t0.length : Int)) && roomB (t0.length : Int).toNat) then
    (w_L_toStringS_3 (t0, (List.replicate (t0.length : Int).toNat ([] : PV .str)), 0, ())).bind fun l2 =>
      some ((l2.1, ()), ())
  else
    none
noncomputable def ct_L_toStringS : Ct := ⟨[(.bor, S_string)], [(S_string, (.row .b))], fun x => f_L_toStringS x.1⟩
noncomputable def cx_L_toStringS : Cx := ⟨tab, arrs, [], [], gl, []⟩
theorem eb_L_toStringS_3 (t0 : PV S_string) (t3 : PV S_string) (t4 : PV (.int .i64)) : denK cx_L_toStringS (rcN cx_L_toStringS 0) pl_L_toStringS 0 ((loopsOf (bodyOf Tryd.f13)).getD 0 .skip) (fillS sh_L_toStringS_3 (t0, t3, t4, ())) (roundK 0 lp_L_toStringS_3) = b_L_toStringS_3 t0 t3 t4 := by kernel_rfl
theorem ef_L_toStringS (t0 : PV S_string) : denF cx_L_toStringS 0 pl_L_toStringS Tryd.f13.ntmps (bodyOf Tryd.f13) Tryd.f13.results.toList [(.bor, S_string)] [(S_string, (.row .b))] (t0, ()) = f_L_toStringS t0 := by kernel_rfl
theorem ok_L_toStringS : FnOk gl Tryd.prog 13 ct_L_toStringS :=
  fnOk (cx := cx_L_toStringS) (pl := pl_L_toStringS) (dp := 0) (ok0_of tabOk (by unfold ArrOk; kernel_rfl) mix trivial trivial) Tryd.func13 (by kernel_rfl) (by kernel_rfl) (by kernel_rfl)
    (by rw [show loopsOf (bodyOf Tryd.f13) = [((loopsOf (bodyOf Tryd.f13)).getD 0 .skip)] from by kernel_rfl]; exact ⟨(by rw [show lookup pl_L_toStringS.loops (firstId ((loopsOf (bodyOf Tryd.f13)).getD 0 .skip)) = some lp_L_toStringS_3 from by kernel_rfl]; exact fun d z h => (eb_L_toStringS_3 d.1 d.2.1 d.2.2.1).trans h), trivial⟩) (fun x => ef_L_toStringS x.1)
noncomputable def pl_L_toOrder : Plan := ⟨[], [], 0, 0⟩
noncomputable def f_L_toOrder (t0 : PV Y_impl_Order) : Option (PVs [Y_impl_Order] × PVs []) :=
  (f_L_toStringS t0.2.2.2.1).bind fun r2 =>
    some (((t0.1, (t0.2.1, (t0.2.2.1, (r2.1.1, ())))), ()), ())
noncomputable def ct_L_toOrder : Ct := ⟨[(.bor, Y_impl_Order)], [(Y_impl_Order, (.pr .b (.pr .b (.pr .b (.pr (.row .b) .b)))))], fun x => f_L_toOrder x.1⟩
noncomputable def cx_L_toOrder : Cx := ⟨tab, arrs, [(13, ct_L_toStringS)], [], gl, []⟩
theorem ef_L_toOrder (t0 : PV Y_impl_Order) : denF cx_L_toOrder 0 pl_L_toOrder Tryd.f21.ntmps (bodyOf Tryd.f21) Tryd.f21.results.toList [(.bor, Y_impl_Order)] [(Y_impl_Order, (.pr .b (.pr .b (.pr .b (.pr (.row .b) .b)))))] (t0, ()) = f_L_toOrder t0 := by kernel_rfl
theorem ok_L_toOrder : FnOk gl Tryd.prog 21 ct_L_toOrder :=
  fnOk (cx := cx_L_toOrder) (pl := pl_L_toOrder) (dp := 0) (ok0_of tabOk (by unfold ArrOk; kernel_rfl) mix ⟨ok_L_toStringS, trivial⟩ trivial) Tryd.func21 (by kernel_rfl) (by kernel_rfl) (by kernel_rfl)
    (by rw [show loopsOf (bodyOf Tryd.f21) = [] from by kernel_rfl]; exact trivial) (fun x => ef_L_toOrder x.1)
noncomputable def sh_L_toOrderS_3 : List Sh := mkSh 23 [(0, .val S_laws_Order .b), (3, .val S_impl_Order (.row (.pr .b (.pr .b (.pr .b (.pr (.row .b) .b)))))), (4, .val (.int .i64) .b)]
noncomputable def o_L_toOrderS_3 : List Out := [⟨.exit 0, ⟨[], [3], []⟩, mkSh 23 [(3, .val S_impl_Order (.row (.pr .b (.pr .b (.pr .b (.pr (.row .b) .b))))))]⟩]
noncomputable def b_L_toOrderS_3 (t0 : PV S_laws_Order) (t3 : PV S_impl_Order) (t4 : PV (.int .i64)) : Option ((PV S_laws_Order × PV S_impl_Order × PV (.int .i64) × Unit) ⊕ ((PV S_impl_Order × Unit))) :=
  bif (decide (t4 < (t0.length : Int))) then
    bif inB t4 t0.length then
      (f_L_toOrder (t0.getD t4.toNat (dflt Y_impl_Order))).bind fun r2 =>
        bif inB t4 t3.length then
          some (.inl (t0, (t3.set t4.toNat r2.1.1), (IntKind.wrap .i64 (t4 + 1)), ()))
        else
          none
    else
      none
  else
    some (.inr (t3, ()))
noncomputable def w_L_toOrderS_3 : PV S_laws_Order × PV S_impl_Order × PV (.int .i64) × Unit → Option ((PV S_impl_Order × Unit)) := fix fun d => b_L_toOrderS_3 d.1 d.2.1 d.2.2.1
noncomputable def lp_L_toOrderS_3 : Lp := ⟨⟨[], [0, 3, 4], []⟩, sh_L_toOrderS_3, o_L_toOrderS_3, fun d => b_L_toOrderS_3 d.1 d.2.1 d.2.2.1⟩
noncomputable def pl_L_toOrderS : Plan := ⟨[], [(3, lp_L_toOrderS_3)], 0, 0⟩
noncomputable def f_L_toOrderS (t0 : PV S_laws_Order) : Option (PVs [S_impl_Order] × PVs []) :=
  bif decide (0 ≤ (t0.length : Int)) && (decide ((t0.length : Int) ≤ (t0.length : Int)) && roomB (t0.length : Int).toNat) then
    (w_L_toOrderS_3 (t0, (List.replicate (t0.length : Int).toNat (dflt Y_impl_Order)), 0, ())).bind fun l4 =>
      some ((l4.1, ()), ())
  else
    none
noncomputable def ct_L_toOrderS : Ct := ⟨[(.bor, S_laws_Order)], [(S_impl_Order, (.row (.pr .b (.pr .b (.pr .b (.pr (.row .b) .b))))))], fun x => f_L_toOrderS x.1⟩
noncomputable def cx_L_toOrderS : Cx := ⟨tab, arrs, [(21, ct_L_toOrder)], [], gl, []⟩
theorem eb_L_toOrderS_3 (t0 : PV S_laws_Order) (t3 : PV S_impl_Order) (t4 : PV (.int .i64)) : denK cx_L_toOrderS (rcN cx_L_toOrderS 0) pl_L_toOrderS 0 ((loopsOf (bodyOf Tryd.f7)).getD 0 .skip) (fillS sh_L_toOrderS_3 (t0, t3, t4, ())) (roundK 0 lp_L_toOrderS_3) = b_L_toOrderS_3 t0 t3 t4 := by kernel_rfl
theorem ef_L_toOrderS (t0 : PV S_laws_Order) : denF cx_L_toOrderS 0 pl_L_toOrderS Tryd.f7.ntmps (bodyOf Tryd.f7) Tryd.f7.results.toList [(.bor, S_laws_Order)] [(S_impl_Order, (.row (.pr .b (.pr .b (.pr .b (.pr (.row .b) .b))))))] (t0, ()) = f_L_toOrderS t0 := by kernel_rfl
theorem ok_L_toOrderS : FnOk gl Tryd.prog 7 ct_L_toOrderS :=
  fnOk (cx := cx_L_toOrderS) (pl := pl_L_toOrderS) (dp := 0) (ok0_of tabOk (by unfold ArrOk; kernel_rfl) mix ⟨ok_L_toOrder, trivial⟩ trivial) Tryd.func7 (by kernel_rfl) (by kernel_rfl) (by kernel_rfl)
    (by rw [show loopsOf (bodyOf Tryd.f7) = [((loopsOf (bodyOf Tryd.f7)).getD 0 .skip)] from by kernel_rfl]; exact ⟨(by rw [show lookup pl_L_toOrderS.loops (firstId ((loopsOf (bodyOf Tryd.f7)).getD 0 .skip)) = some lp_L_toOrderS_3 from by kernel_rfl]; exact fun d z h => (eb_L_toOrderS_3 d.1 d.2.1 d.2.2.1).trans h), trivial⟩) (fun x => ef_L_toOrderS x.1)
noncomputable def pl_S_l1In : Plan := ⟨[], [], 0, 0⟩
noncomputable def f_S_l1In (t0 : PV (.int .i64)) (t1 : PV (.int .i64)) (t2 : PV (.int .i64)) : Option (PVs [.bool] × PVs []) :=
  bif (decide (t0 ≥ t1)) then
    some (((decide (t0 ≤ t2)), ()), ())
  else
    some ((false, ()), ())
noncomputable def ct_S_l1In : Ct := ⟨[(.bor, (.int .i64)), (.bor, (.int .i64)), (.bor, (.int .i64))], [(.bool, .b)], fun x => f_S_l1In x.1 x.2.1 x.2.2.1⟩
noncomputable def cx_S_l1In : Cx := ⟨tab, arrs, [], [], gl, []⟩
theorem ef_S_l1In (t0 : PV (.int .i64)) (t1 : PV (.int .i64)) (t2 : PV (.int .i64)) : denF cx_S_l1In 0 pl_S_l1In Tryd.f50.ntmps (bodyOf Tryd.f50) Tryd.f50.results.toList [(.bor, (.int .i64)), (.bor, (.int .i64)), (.bor, (.int .i64))] [(.bool, .b)] (t0, t1, t2, ()) = f_S_l1In t0 t1 t2 := by kernel_rfl
theorem ok_S_l1In : FnOk gl Tryd.prog 50 ct_S_l1In :=
  fnOk (cx := cx_S_l1In) (pl := pl_S_l1In) (dp := 0) (ok0_of tabOk (by unfold ArrOk; kernel_rfl) mix trivial trivial) Tryd.func50 (by kernel_rfl) (by kernel_rfl) (by kernel_rfl)
    (by rw [show loopsOf (bodyOf Tryd.f50) = [] from by kernel_rfl]; exact trivial) (fun x => ef_S_l1In x.1 x.2.1 x.2.2.1)
noncomputable def sh_S_l1Line_2 : List Sh := mkSh 18 [(0, .val .str .b), (3, .val (.int .i64) .b)]
noncomputable def o_S_l1Line_2 : List Out := [⟨.exit 0, ⟨[], [0], []⟩, mkSh 18 [(0, .val .str .b)]⟩, ⟨.ret, ⟨[], [2], []⟩, mkSh 18 [(2, .val .bool .b)]⟩]
noncomputable def b_S_l1Line_2 (t0 : PV .str) (t3 : PV (.int .i64)) : Option ((PV .str × PV (.int .i64) × Unit) ⊕ ((PV .str × Unit) ⊕ (PV .bool × Unit))) :=
  bif (decide (t3 < (IntKind.wrap .i64 ((t0.length : Int) - 1)))) then
    bif inB t3 t0.length then
      bif (((t0.getD t3.toNat 0).toNat : Int) == 10) then
        some (.inr (.inr (false, ())))
      else
        some (.inl (t0, (IntKind.wrap .i64 (t3 + 1)), ()))
    else
      none
  else
    some (.inr (.inl (t0, ())))
noncomputable def w_S_l1Line_2 : PV .str × PV (.int .i64) × Unit → Option ((PV .str × Unit) ⊕ (PV .bool × Unit)) := fix fun d => b_S_l1Line_2 d.1 d.2.1
noncomputable def lp_S_l1Line_2 : Lp := ⟨⟨[], [0, 3], []⟩, sh_S_l1Line_2, o_S_l1Line_2, fun d => b_S_l1Line_2 d.1 d.2.1⟩
noncomputable def pl_S_l1Line : Plan := ⟨[], [(2, lp_S_l1Line_2)], 0, 0⟩
noncomputable def f_S_l1Line (t0 : PV .str) : Option (PVs [.bool] × PVs []) :=
  (w_S_l1Line_2 (t0, 0, ())).bind fun x6 =>
    match x6 with
    | .inl l3 =>
      (f_S_l1In (l3.1.length : Int) 1 30).bind fun r4 =>
        some ((r4.1.1, ()), ())
    | .inr l5 =>
      some ((l5.1, ()), ())
noncomputable def ct_S_l1Line : Ct := ⟨[(.bor, .str)], [(.bool, .b)], fun x => f_S_l1Line x.1⟩
noncomputable def cx_S_l1Line : Cx := ⟨tab, arrs, [(50, ct_S_l1In)], [], gl, []⟩
theorem eb_S_l1Line_2 (t0 : PV .str) (t3 : PV (.int .i64)) : denK cx_S_l1Line (rcN cx_S_l1Line 0) pl_S_l1Line 0 ((loopsOf (bodyOf Tryd.f68)).getD 0 .skip) (fillS sh_S_l1Line_2 (t0, t3, ())) (roundK 0 lp_S_l1Line_2) = b_S_l1Line_2 t0 t3 := by kernel_rfl
theorem ef_S_l1Line (t0 : PV .str) : denF cx_S_l1Line 0 pl_S_l1Line Tryd.f68.ntmps (bodyOf Tryd.f68) Tryd.f68.results.toList [(.bor, .str)] [(.bool, .b)] (t0, ()) = f_S_l1Line t0 := by kernel_rfl
theorem ok_S_l1Line : FnOk gl Tryd.prog 68 ct_S_l1Line :=
  fnOk (cx := cx_S_l1Line) (pl := pl_S_l1Line) (dp := 0) (ok0_of tabOk (by unfold ArrOk; kernel_rfl) mix ⟨ok_S_l1In, trivial⟩ trivial) Tryd.func68 (by kernel_rfl) (by kernel_rfl) (by kernel_rfl)
    (by rw [show loopsOf (bodyOf Tryd.f68) = [((loopsOf (bodyOf Tryd.f68)).getD 0 .skip)] from by kernel_rfl]; exact ⟨(by rw [show lookup pl_S_l1Line.loops (firstId ((loopsOf (bodyOf Tryd.f68)).getD 0 .skip)) = some lp_S_l1Line_2 from by kernel_rfl]; exact fun d z h => (eb_S_l1Line_2 d.1 d.2.1).trans h), trivial⟩) (fun x => ef_S_l1Line x.1)
noncomputable def pl_S_l1Ends : Plan := ⟨[], [], 0, 0⟩
noncomputable def f_S_l1Ends (t0 : PV .str) : Option (PVs [.bool] × PVs []) :=
  bif inB (IntKind.wrap .i64 ((t0.length : Int) - 1)) t0.length then
    some (((((t0.getD (IntKind.wrap .i64 ((t0.length : Int) - 1)).toNat 0).toNat : Int) == 10), ()), ())
  else
    none
noncomputable def ct_S_l1Ends : Ct := ⟨[(.bor, .str)], [(.bool, .b)], fun x => f_S_l1Ends x.1⟩
noncomputable def cx_S_l1Ends : Cx := ⟨tab, arrs, [], [], gl, []⟩
theorem ef_S_l1Ends (t0 : PV .str) : denF cx_S_l1Ends 0 pl_S_l1Ends Tryd.f69.ntmps (bodyOf Tryd.f69) Tryd.f69.results.toList [(.bor, .str)] [(.bool, .b)] (t0, ()) = f_S_l1Ends t0 := by kernel_rfl
theorem ok_S_l1Ends : FnOk gl Tryd.prog 69 ct_S_l1Ends :=
  fnOk (cx := cx_S_l1Ends) (pl := pl_S_l1Ends) (dp := 0) (ok0_of tabOk (by unfold ArrOk; kernel_rfl) mix trivial trivial) Tryd.func69 (by kernel_rfl) (by kernel_rfl) (by kernel_rfl)
    (by rw [show loopsOf (bodyOf Tryd.f69) = [] from by kernel_rfl]; exact trivial) (fun x => ef_S_l1Ends x.1)
noncomputable def o_S_l9Lines_5 : List Out := [⟨.normal, ⟨[], [0, 5, 6, 7, 22], []⟩, mkSh 27 [(0, .val S_string .b), (5, .val S_string .b), (6, .val (.int .i64) .b), (7, .val (.int .i64) .b), (22, .val .bool .b)]⟩]
noncomputable def sh_S_l9Lines_2 : List Sh := mkSh 27 [(0, .val S_string .b), (5, .val S_string .b), (6, .val (.int .i64) .b), (7, .val (.int .i64) .b)]
noncomputable def o_S_l9Lines_2 : List Out := [⟨.exit 0, ⟨[], [0], []⟩, mkSh 27 [(0, .val S_string .b)]⟩, ⟨.ret, ⟨[], [2], []⟩, mkSh 27 [(2, .val .bool .b)]⟩]
noncomputable def b_S_l9Lines_2 (t0 : PV S_string) (t5 : PV S_string) (t6 : PV (.int .i64)) (t7 : PV (.int .i64)) : Option ((PV S_string × PV S_string × PV (.int .i64) × PV (.int .i64) × Unit) ⊕ ((PV S_string × Unit) ⊕ (PV .bool × Unit))) :=
  bif (decide (t7 < t6)) then
    bif inB t7 t5.length then
      ((
          (f_S_l1Line (t5.getD t7.toNat [])).bind fun r4 =>
            bif (!r4.1.1) then
              some (t0, t5, t6, t7, true, ())
            else
              (f_S_l1Ends (t5.getD t7.toNat [])).bind fun r5 =>
                bif (!r5.1.1) then
                  some (t0, t5, t6, t7, true, ())
                else
                  some (t0, t5, t6, t7, ((t5.getD t7.toNat []) == [46, 10]), ()) : Option ((PV S_string × PV S_string × PV (.int .i64) × PV (.int .i64) × PV .bool × Unit)))).bind fun j6 =>
        bif j6.2.2.2.2.1 then
          some (.inr (.inr (false, ())))
        else
          some (.inl (j6.1, j6.2.1, j6.2.2.1, (IntKind.wrap .i64 (j6.2.2.2.1 + 1)), ()))
    else
      none
  else
    some (.inr (.inl (t0, ())))
noncomputable def w_S_l9Lines_2 : PV S_string × PV S_string × PV (.int .i64) × PV (.int .i64) × Unit → Option ((PV S_string × Unit) ⊕ (PV .bool × Unit)) := fix fun d => b_S_l9Lines_2 d.1 d.2.1 d.2.2.1 d.2.2.2.1
noncomputable def lp_S_l9Lines_2 : Lp := ⟨⟨[], [0, 5, 6, 7, 15, 16, 17, 20, 21], []⟩, sh_S_l9Lines_2, o_S_l9Lines_2, fun d => b_S_l9Lines_2 d.1 d.2.1 d.2.2.1 d.2.2.2.1⟩
noncomputable def pl_S_l9Lines : Plan := ⟨[(5, o_S_l9Lines_5)], [(2, lp_S_l9Lines_2)], 0, 0⟩
noncomputable def f_S_l9Lines (t0 : PV S_string) : Option (PVs [.bool] × PVs []) :=
  (w_S_l9Lines_2 (t0, t0, (t0.length : Int), 0, ())).bind fun x12 =>
    match x12 with
    | .inl l9 =>
      (f_S_l1In (l9.1.length : Int) 1 40).bind fun r10 =>
        some ((r10.1.1, ()), ())
    | .inr l11 =>
      some ((l11.1, ()), ())
noncomputable def ct_S_l9Lines : Ct := ⟨[(.bor, S_string)], [(.bool, .b)], fun x => f_S_l9Lines x.1⟩
noncomputable def cx_S_l9Lines : Cx := ⟨tab, arrs, [(50, ct_S_l1In), (68, ct_S_l1Line), (69, ct_S_l1Ends)], [], gl, []⟩
theorem eb_S_l9Lines_2 (t0 : PV S_string) (t5 : PV S_string) (t6 : PV (.int .i64)) (t7 : PV (.int .i64)) : denK cx_S_l9Lines (rcN cx_S_l9Lines 0) pl_S_l9Lines 0 ((loopsOf (bodyOf Tryd.f51)).getD 0 .skip) (fillS sh_S_l9Lines_2 (t0, t5, t6, t7, ())) (roundK 0 lp_S_l9Lines_2) = b_S_l9Lines_2 t0 t5 t6 t7 := by kernel_rfl
theorem ef_S_l9Lines (t0 : PV S_string) : denF cx_S_l9Lines 0 pl_S_l9Lines Tryd.f51.ntmps (bodyOf Tryd.f51) Tryd.f51.results.toList [(.bor, S_string)] [(.bool, .b)] (t0, ()) = f_S_l9Lines t0 := by kernel_rfl
theorem ok_S_l9Lines : FnOk gl Tryd.prog 51 ct_S_l9Lines :=
  fnOk (cx := cx_S_l9Lines) (pl := pl_S_l9Lines) (dp := 0) (ok0_of tabOk (by unfold ArrOk; kernel_rfl) mix ⟨ok_S_l1In, ok_S_l1Line, ok_S_l1Ends, trivial⟩ trivial) Tryd.func51 (by kernel_rfl) (by kernel_rfl) (by kernel_rfl)
    (by rw [show loopsOf (bodyOf Tryd.f51) = [((loopsOf (bodyOf Tryd.f51)).getD 0 .skip)] from by kernel_rfl]; exact ⟨(by rw [show lookup pl_S_l9Lines.loops (firstId ((loopsOf (bodyOf Tryd.f51)).getD 0 .skip)) = some lp_S_l9Lines_2 from by kernel_rfl]; exact fun d z h => (eb_S_l9Lines_2 d.1 d.2.1 d.2.2.1 d.2.2.2.1).trans h), trivial⟩) (fun x => ef_S_l9Lines x.1)
noncomputable def o_S_l9Order_2 : List Out := [⟨.normal, ⟨[], [1, 14, 25, 26, 27, 37, 38, 39, 42, 43, 44, 52, 53, 54, 62, 63, 64, 65, 71, 72, 73, 76, 77, 78, 79, 80, 83, 84, 85, 86], []⟩, mkSh 88 [(1, .var Y_impl_Order .b), (14, .val .bool .b)]⟩]
noncomputable def pl_S_l9Order : Plan := ⟨[(2, o_S_l9Order_2)], [], 0, 0⟩
noncomputable def f_S_l9Order (t0 : PV Y_impl_Order) : Option (PVs [.bool] × PVs []) :=
  ((
      (f_S_l1In t0.2.1 0 1000).bind fun r6 =>
        bif (!r6.1.1) then
          some (t0, true, ())
        else
          (f_S_l1In t0.2.2.1 t0.2.1 1000).bind fun r7 =>
            some (t0, (!r7.1.1), ()) : Option ((PV Y_impl_Order × PV .bool × Unit)))).bind fun j8 =>
    bif j8.2.1 then
      some ((false, ()), ())
    else
      bif (j8.1.1 == 1) then
        bif (j8.1.2.2.1 == j8.1.2.1) then
          (f_S_l9Lines j8.1.2.2.2.1).bind fun r12 =>
            some ((r12.1.1, ()), ())
        else
          some ((false, ()), ())
      else
        bif (j8.1.1 == 2) then
          bif (j8.1.2.2.1 == j8.1.2.1) then
            bif (decide (j8.1.2.1 ≥ 1)) then
              (f_S_l9Lines j8.1.2.2.2.1).bind fun r13 =>
                some ((r13.1.1, ()), ())
            else
              some ((false, ()), ())
          else
            some ((false, ()), ())
        else
          bif (j8.1.1 == 3) then
            bif (decide (j8.1.2.1 ≥ 1)) then
              (f_S_l9Lines j8.1.2.2.2.1).bind fun r14 =>
                some ((r14.1.1, ()), ())
            else
              some ((false, ()), ())
          else
            bif (j8.1.1 == 4) then
              bif (decide (j8.1.2.1 ≥ 1)) then
                some ((((j8.1.2.2.2.1.length : Int) == 0), ()), ())
              else
                some ((false, ()), ())
            else
              bif (j8.1.1 == 5) then
                bif (decide (j8.1.2.1 ≥ 1)) then
                  bif (j8.1.2.2.1 == j8.1.2.1) then
                    some ((((j8.1.2.2.2.1.length : Int) == 0), ()), ())
                  else
                    some ((false, ()), ())
                else
                  some ((false, ()), ())
              else
                some ((false, ()), ())
noncomputable def ct_S_l9Order : Ct := ⟨[(.bor, Y_impl_Order)], [(.bool, .b)], fun x => f_S_l9Order x.1⟩
noncomputable def cx_S_l9Order : Cx := ⟨tab, arrs, [(50, ct_S_l1In), (51, ct_S_l9Lines)], [], gl, []⟩
theorem ef_S_l9Order (t0 : PV Y_impl_Order) : denF cx_S_l9Order 0 pl_S_l9Order Tryd.f32.ntmps (bodyOf Tryd.f32) Tryd.f32.results.toList [(.bor, Y_impl_Order)] [(.bool, .b)] (t0, ()) = f_S_l9Order t0 := by kernel_rfl
theorem ok_S_l9Order : FnOk gl Tryd.prog 32 ct_S_l9Order :=
  fnOk (cx := cx_S_l9Order) (pl := pl_S_l9Order) (dp := 0) (ok0_of tabOk (by unfold ArrOk; kernel_rfl) mix ⟨ok_S_l1In, ok_S_l9Lines, trivial⟩ trivial) Tryd.func32 (by kernel_rfl) (by kernel_rfl) (by kernel_rfl)
    (by rw [show loopsOf (bodyOf Tryd.f32) = [] from by kernel_rfl]; exact trivial) (fun x => ef_S_l9Order x.1)
noncomputable def sh_S_l9Good_2 : List Sh := mkSh 18 [(0, .val S_impl_Order .b), (5, .val S_impl_Order .b), (6, .val (.int .i64) .b), (7, .val (.int .i64) .b)]
noncomputable def o_S_l9Good_2 : List Out := [⟨.exit 0, ⟨[], [0], []⟩, mkSh 18 [(0, .val S_impl_Order .b)]⟩, ⟨.ret, ⟨[], [2], []⟩, mkSh 18 [(2, .val .bool .b)]⟩]
noncomputable def b_S_l9Good_2 (t0 : PV S_impl_Order) (t5 : PV S_impl_Order) (t6 : PV (.int .i64)) (t7 : PV (.int .i64)) : Option ((PV S_impl_Order × PV S_impl_Order × PV (.int .i64) × PV (.int .i64) × Unit) ⊕ ((PV S_impl_Order × Unit) ⊕ (PV .bool × Unit))) :=
  bif (decide (t7 < t6)) then
    bif inB t7 t5.length then
      (f_S_l9Order (t5.getD t7.toNat (dflt Y_impl_Order))).bind fun r4 =>
        bif (!r4.1.1) then
          some (.inr (.inr (false, ())))
        else
          some (.inl (t0, t5, t6, (IntKind.wrap .i64 (t7 + 1)), ()))
    else
      none
  else
    some (.inr (.inl (t0, ())))
noncomputable def w_S_l9Good_2 : PV S_impl_Order × PV S_impl_Order × PV (.int .i64) × PV (.int .i64) × Unit → Option ((PV S_impl_Order × Unit) ⊕ (PV .bool × Unit)) := fix fun d => b_S_l9Good_2 d.1 d.2.1 d.2.2.1 d.2.2.2.1
noncomputable def lp_S_l9Good_2 : Lp := ⟨⟨[], [0, 5, 6, 7], []⟩, sh_S_l9Good_2, o_S_l9Good_2, fun d => b_S_l9Good_2 d.1 d.2.1 d.2.2.1 d.2.2.2.1⟩
noncomputable def pl_S_l9Good : Plan := ⟨[], [(2, lp_S_l9Good_2)], 0, 0⟩
noncomputable def f_S_l9Good (t0 : PV S_impl_Order) : Option (PVs [.bool] × PVs []) :=
  (w_S_l9Good_2 (t0, t0, (t0.length : Int), 0, ())).bind fun x9 =>
    match x9 with
    | .inl l7 =>
      some (((decide ((l7.1.length : Int) ≤ 60)), ()), ())
    | .inr l8 =>
      some ((l8.1, ()), ())
noncomputable def ct_S_l9Good : Ct := ⟨[(.bor, S_impl_Order)], [(.bool, .b)], fun x => f_S_l9Good x.1⟩
noncomputable def cx_S_l9Good : Cx := ⟨tab, arrs, [(32, ct_S_l9Order)], [], gl, []⟩
theorem eb_S_l9Good_2 (t0 : PV S_impl_Order) (t5 : PV S_impl_Order) (t6 : PV (.int .i64)) (t7 : PV (.int .i64)) : denK cx_S_l9Good (rcN cx_S_l9Good 0) pl_S_l9Good 0 ((loopsOf (bodyOf Tryd.f19)).getD 0 .skip) (fillS sh_S_l9Good_2 (t0, t5, t6, t7, ())) (roundK 0 lp_S_l9Good_2) = b_S_l9Good_2 t0 t5 t6 t7 := by kernel_rfl
theorem ef_S_l9Good (t0 : PV S_impl_Order) : denF cx_S_l9Good 0 pl_S_l9Good Tryd.f19.ntmps (bodyOf Tryd.f19) Tryd.f19.results.toList [(.bor, S_impl_Order)] [(.bool, .b)] (t0, ()) = f_S_l9Good t0 := by kernel_rfl
theorem ok_S_l9Good : FnOk gl Tryd.prog 19 ct_S_l9Good :=
  fnOk (cx := cx_S_l9Good) (pl := pl_S_l9Good) (dp := 0) (ok0_of tabOk (by unfold ArrOk; kernel_rfl) mix ⟨ok_S_l9Order, trivial⟩ trivial) Tryd.func19 (by kernel_rfl) (by kernel_rfl) (by kernel_rfl)
    (by rw [show loopsOf (bodyOf Tryd.f19) = [((loopsOf (bodyOf Tryd.f19)).getD 0 .skip)] from by kernel_rfl]; exact ⟨(by rw [show lookup pl_S_l9Good.loops (firstId ((loopsOf (bodyOf Tryd.f19)).getD 0 .skip)) = some lp_S_l9Good_2 from by kernel_rfl]; exact fun d z h => (eb_S_l9Good_2 d.1 d.2.1 d.2.2.1 d.2.2.2.1).trans h), trivial⟩) (fun x => ef_S_l9Good x.1)
noncomputable def fr_S_l1Num (ih : PV (.int .i64) → Option (PVs [.str] × PVs [])) (t0 : PV (.int .i64)) : Option (PVs [.str] × PVs []) :=
  bif (decide (t0 < 10)) then
    some (((bytesOfInts [(IntKind.wrap .u8 (IntKind.wrap .i64 (48 + t0)))]), ()), ())
  else
    bif 10 == 0 then
      none
    else
      (ih (IntKind.wrap .i64 (t0.tdiv 10))).bind fun r1 =>
        bif 10 == 0 then
          none
        else
          bif decide (r1.1.1.length + (bytesOfInts [(IntKind.wrap .u8 (IntKind.wrap .i64 (48 + (t0.tmod 10))))]).length ≤ 1099511627776) then
            some (((r1.1.1 ++ (bytesOfInts [(IntKind.wrap .u8 (IntKind.wrap .i64 (48 + (t0.tmod 10))))])), ()), ())
          else
            none
noncomputable def fn_S_l1Num : Nat → PV (.int .i64) → Option (PVs [.str] × PVs []) := fun n => Nat.rec (motive := fun _ => PV (.int .i64) → Option (PVs [.str] × PVs [])) (fun _ => none) (fun _ ih => fr_S_l1Num ih) n
noncomputable def f_S_l1Num (t0 : PV (.int .i64)) : Option (PVs [.str] × PVs []) := fn_S_l1Num (t0.toNat + 1) t0
noncomputable def ct_S_l1Num : Ct := ⟨[(.bor, (.int .i64))], [(.str, .b)], fun x => f_S_l1Num x.1⟩
noncomputable def ctn_S_l1Num (n : Nat) : Ct := ⟨[(.bor, (.int .i64))], [(.str, .b)], fun x => fn_S_l1Num n x.1⟩
noncomputable def cxn_S_l1Num (n : Nat) : Cx := ⟨tab, arrs, [(52, ctn_S_l1Num n)], [], gl, []⟩
noncomputable def pl_S_l1Num : Plan := ⟨[], [], 0, 0⟩
theorem efn_S_l1Num (n : Nat) (t0 : PV (.int .i64)) : denF (cxn_S_l1Num n) 0 pl_S_l1Num Tryd.f52.ntmps (bodyOf Tryd.f52) Tryd.f52.results.toList [(.bor, (.int .i64))] [(.str, .b)] (t0, ()) = fr_S_l1Num (fn_S_l1Num n) t0 := by kernel_rfl
theorem okn_S_l1Num : ∀ n, FnOk gl Tryd.prog 52 (ctn_S_l1Num n)
  | 0 => fnOk_none (by kernel_rfl)
  | n + 1 => fnOk (cx := cxn_S_l1Num n) (pl := pl_S_l1Num) (dp := 0) (ct := ctn_S_l1Num (n + 1)) (ok0_of tabOk (by unfold ArrOk; kernel_rfl) mix ⟨okn_S_l1Num n, trivial⟩ trivial) Tryd.func52 (by kernel_rfl) (by kernel_rfl) (by kernel_rfl)
    (by rw [show loopsOf (bodyOf Tryd.f52) = [] from by kernel_rfl]; exact trivial) (fun x => efn_S_l1Num n x.1)
theorem ok_S_l1Num : FnOk gl Tryd.prog 52 ct_S_l1Num := fnOk_fuel (pars := [(.bor, (.int .i64))]) (rets := [(.str, .b)]) (Fs := fun n x => fn_S_l1Num n x.1) (N := fun x => x.1.toNat + 1) okn_S_l1Num
noncomputable def pl_S_l5Numbers : Plan := ⟨[], [], 0, 0⟩
noncomputable def f_S_l5Numbers (t0 : PV (.int .i64)) (t1 : PV (.int .i64)) : Option (PVs [.str] × PVs []) :=
  bif (t0 == t1) then
    (f_S_l1Num t0).bind fun r2 =>
      some ((r2.1.1, ()), ())
  else
    (f_S_l1Num t0).bind fun r3 =>
      bif decide (r3.1.1.length + [44].length ≤ 1099511627776) then
        (f_S_l1Num t1).bind fun r4 =>
          bif decide ((r3.1.1 ++ [44]).length + r4.1.1.length ≤ 1099511627776) then
            some ((((r3.1.1 ++ [44]) ++ r4.1.1), ()), ())
          else
            none
      else
        none
noncomputable def ct_S_l5Numbers : Ct := ⟨[(.bor, (.int .i64)), (.bor, (.int .i64))], [(.str, .b)], fun x => f_S_l5Numbers x.1 x.2.1⟩
noncomputable def cx_S_l5Numbers : Cx := ⟨tab, arrs, [(52, ct_S_l1Num)], [], gl, []⟩
theorem ef_S_l5Numbers (t0 : PV (.int .i64)) (t1 : PV (.int .i64)) : denF cx_S_l5Numbers 0 pl_S_l5Numbers Tryd.f33.ntmps (bodyOf Tryd.f33) Tryd.f33.results.toList [(.bor, (.int .i64)), (.bor, (.int .i64))] [(.str, .b)] (t0, t1, ()) = f_S_l5Numbers t0 t1 := by kernel_rfl
theorem ok_S_l5Numbers : FnOk gl Tryd.prog 33 ct_S_l5Numbers :=
  fnOk (cx := cx_S_l5Numbers) (pl := pl_S_l5Numbers) (dp := 0) (ok0_of tabOk (by unfold ArrOk; kernel_rfl) mix ⟨ok_S_l1Num, trivial⟩ trivial) Tryd.func33 (by kernel_rfl) (by kernel_rfl) (by kernel_rfl)
    (by rw [show loopsOf (bodyOf Tryd.f33) = [] from by kernel_rfl]; exact trivial) (fun x => ef_S_l5Numbers x.1 x.2.1)
noncomputable def pl_S_l9Words : Plan := ⟨[], [], 0, 0⟩
noncomputable def f_S_l9Words  : Option (PVs [S_string] × PVs []) :=
  some (([[], [97], [105], [99], [100], [115, 47, 46, 47, 47]], ()), ())
noncomputable def ct_S_l9Words : Ct := ⟨[], [(S_string, (.row .b))], fun x => f_S_l9Words ⟩
noncomputable def cx_S_l9Words : Cx := ⟨tab, arrs, [], [], gl, []⟩
theorem ef_S_l9Words  : denF cx_S_l9Words 0 pl_S_l9Words Tryd.f34.ntmps (bodyOf Tryd.f34) Tryd.f34.results.toList [] [(S_string, (.row .b))] () = f_S_l9Words  := by kernel_rfl
theorem ok_S_l9Words : FnOk gl Tryd.prog 34 ct_S_l9Words :=
  fnOk (cx := cx_S_l9Words) (pl := pl_S_l9Words) (dp := 0) (ok0_of tabOk (by unfold ArrOk; kernel_rfl) mix trivial trivial) Tryd.func34 (by kernel_rfl) (by kernel_rfl) (by kernel_rfl)
    (by rw [show loopsOf (bodyOf Tryd.f34) = [] from by kernel_rfl]; exact trivial) (fun x => ef_S_l9Words )
noncomputable def sh_S_l1Text_3 : List Sh := mkSh 17 [(3, .val .str .b), (6, .val S_string .b), (7, .val (.int .i64) .b), (8, .val (.int .i64) .b)]
noncomputable def o_S_l1Text_3 : List Out := [⟨.exit 0, ⟨[], [3], []⟩, mkSh 17 [(3, .val .str .b)]⟩]
noncomputable def b_S_l1Text_3 (t3 : PV .str) (t6 : PV S_string) (t7 : PV (.int .i64)) (t8 : PV (.int .i64)) : Option ((PV .str × PV S_string × PV (.int .i64) × PV (.int .i64) × Unit) ⊕ ((PV .str × Unit))) :=
  bif (decide (t8 < t7)) then
    bif inB t8 t6.length then
      bif decide (t3.length + (t6.getD t8.toNat []).length ≤ 1099511627776) then
        some (.inl ((t3 ++ (t6.getD t8.toNat [])), t6, t7, (IntKind.wrap .i64 (t8 + 1)), ()))
      else
        none
    else
      none
  else
    some (.inr (t3, ()))
noncomputable def w_S_l1Text_3 : PV .str × PV S_string × PV (.int .i64) × PV (.int .i64) × Unit → Option ((PV .str × Unit)) := fix fun d => b_S_l1Text_3 d.1 d.2.1 d.2.2.1 d.2.2.2.1
noncomputable def lp_S_l1Text_3 : Lp := ⟨⟨[], [3, 6, 7, 8], []⟩, sh_S_l1Text_3, o_S_l1Text_3, fun d => b_S_l1Text_3 d.1 d.2.1 d.2.2.1 d.2.2.2.1⟩
noncomputable def pl_S_l1Text : Plan := ⟨[], [(3, lp_S_l1Text_3)], 0, 0⟩
noncomputable def f_S_l1Text (t0 : PV S_string) : Option (PVs [.str] × PVs []) :=
  (w_S_l1Text_3 ([], t0, (t0.length : Int), 0, ())).bind fun l2 =>
    some ((l2.1, ()), ())
noncomputable def ct_S_l1Text : Ct := ⟨[(.bor, S_string)], [(.str, .b)], fun x => f_S_l1Text x.1⟩
noncomputable def cx_S_l1Text : Cx := ⟨tab, arrs, [], [], gl, []⟩
theorem eb_S_l1Text_3 (t3 : PV .str) (t6 : PV S_string) (t7 : PV (.int .i64)) (t8 : PV (.int .i64)) : denK cx_S_l1Text (rcN cx_S_l1Text 0) pl_S_l1Text 0 ((loopsOf (bodyOf Tryd.f35)).getD 0 .skip) (fillS sh_S_l1Text_3 (t3, t6, t7, t8, ())) (roundK 0 lp_S_l1Text_3) = b_S_l1Text_3 t3 t6 t7 t8 := by kernel_rfl
theorem ef_S_l1Text (t0 : PV S_string) : denF cx_S_l1Text 0 pl_S_l1Text Tryd.f35.ntmps (bodyOf Tryd.f35) Tryd.f35.results.toList [(.bor, S_string)] [(.str, .b)] (t0, ()) = f_S_l1Text t0 := by kernel_rfl
theorem ok_S_l1Text : FnOk gl Tryd.prog 35 ct_S_l1Text :=
  fnOk (cx := cx_S_l1Text) (pl := pl_S_l1Text) (dp := 0) (ok0_of tabOk (by unfold ArrOk; kernel_rfl) mix trivial trivial) Tryd.func35 (by kernel_rfl) (by kernel_rfl) (by kernel_rfl)
    (by rw [show loopsOf (bodyOf Tryd.f35) = [((loopsOf (bodyOf Tryd.f35)).getD 0 .skip)] from by kernel_rfl]; exact ⟨(by rw [show lookup pl_S_l1Text.loops (firstId ((loopsOf (bodyOf Tryd.f35)).getD 0 .skip)) = some lp_S_l1Text_3 from by kernel_rfl]; exact fun d z h => (eb_S_l1Text_3 d.1 d.2.1 d.2.2.1 d.2.2.2.1).trans h), trivial⟩) (fun x => ef_S_l1Text x.1)
noncomputable def o_S_l9Text_8 : List Out := [⟨.normal, ⟨[], [3, 6, 7, 8], []⟩, mkSh 38 [(3, .val .str .b), (6, .val S_impl_Order .b), (7, .val (.int .i64) .b), (8, .val (.int .i64) .b)]⟩]
noncomputable def sh_S_l9Text_3 : List Sh := mkSh 38 [(3, .val .str .b), (6, .val S_impl_Order .b), (7, .val (.int .i64) .b), (8, .val (.int .i64) .b)]
noncomputable def o_S_l9Text_3 : List Out := [⟨.exit 0, ⟨[], [3], []⟩, mkSh 38 [(3, .val .str .b)]⟩]
noncomputable def b_S_l9Text_3 (t3 : PV .str) (t6 : PV S_impl_Order) (t7 : PV (.int .i64)) (t8 : PV (.int .i64)) : Option ((PV .str × PV S_impl_Order × PV (.int .i64) × PV (.int .i64) × Unit) ⊕ ((PV .str × Unit))) :=
  bif (decide (t8 < t7)) then
    ((
        bif inB t8 t6.length then
          (f_S_l5Numbers (((t6.getD t8.toNat (dflt Y_impl_Order)).2).1) ((((t6.getD t8.toNat (dflt Y_impl_Order)).2).2).1)).bind fun r3 =>
            (f_S_l9Words ).bind fun r4 =>
              bif inB ((t6.getD t8.toNat (dflt Y_impl_Order)).1) r4.1.1.length then
                bif decide (r3.1.1.length + (r4.1.1.getD (((t6.getD t8.toNat (dflt Y_impl_Order)).1).toNat) []).length ≤ 1099511627776) then
                  bif decide ((r3.1.1 ++ (r4.1.1.getD (((t6.getD t8.toNat (dflt Y_impl_Order)).1).toNat) [])).length + [10].length ≤ 1099511627776) then
                    bif decide (t3.length + ((r3.1.1 ++ (r4.1.1.getD (((t6.getD t8.toNat (dflt Y_impl_Order)).1).toNat) [])) ++ [10]).length ≤ 1099511627776) then
                      bif (decide (((((((t6.getD t8.toNat (dflt Y_impl_Order)).2).2).2).1).length : Int) > 0)) then
                        (f_S_l1Text (((((t6.getD t8.toNat (dflt Y_impl_Order)).2).2).2).1)).bind fun r5 =>
                          bif decide (r5.1.1.length + [46, 10].length ≤ 1099511627776) then
                            bif decide ((t3 ++ ((r3.1.1 ++ (r4.1.1.getD (((t6.getD t8.toNat (dflt Y_impl_Order)).1).toNat) [])) ++ [10])).length + (r5.1.1 ++ [46, 10]).length ≤ 1099511627776) then
                              some (((t3 ++ ((r3.1.1 ++ (r4.1.1.getD (((t6.getD t8.toNat (dflt Y_impl_Order)).1).toNat) [])) ++ [10])) ++ (r5.1.1 ++ [46, 10])), t6, t7, t8, ())
                            else
                              none
                          else
                            none
                      else
                        some ((t3 ++ ((r3.1.1 ++ (r4.1.1.getD (((t6.getD t8.toNat (dflt Y_impl_Order)).1).toNat) [])) ++ [10])), t6, t7, t8, ())
                    else
                      none
                  else
                    none
                else
                  none
              else
                none
        else
          none : Option ((PV .str × PV S_impl_Order × PV (.int .i64) × PV (.int .i64) × Unit)))).bind fun j6 =>
      some (.inl (j6.1, j6.2.1, j6.2.2.1, (IntKind.wrap .i64 (j6.2.2.2.1 + 1)), ()))
  else
    some (.inr (t3, ()))
noncomputable def w_S_l9Text_3 : PV .str × PV S_impl_Order × PV (.int .i64) × PV (.int .i64) × Unit → Option ((PV .str × Unit)) := fix fun d => b_S_l9Text_3 d.1 d.2.1 d.2.2.1 d.2.2.2.1
noncomputable def lp_S_l9Text_3 : Lp := ⟨⟨[], [3, 6, 7, 8], []⟩, sh_S_l9Text_3, o_S_l9Text_3, fun d => b_S_l9Text_3 d.1 d.2.1 d.2.2.1 d.2.2.2.1⟩
noncomputable def pl_S_l9Text : Plan := ⟨[(8, o_S_l9Text_8)], [(3, lp_S_l9Text_3)], 0, 0⟩
noncomputable def f_S_l9Text (t0 : PV S_impl_Order) : Option (PVs [.str] × PVs []) :=
  (w_S_l9Text_3 ([], t0, (t0.length : Int), 0, ())).bind fun l8 =>
    some ((l8.1, ()), ())
noncomputable def ct_S_l9Text : Ct := ⟨[(.bor, S_impl_Order)], [(.str, .b)], fun x => f_S_l9Text x.1⟩
noncomputable def cx_S_l9Text : Cx := ⟨tab, arrs, [(33, ct_S_l5Numbers), (34, ct_S_l9Words), (35, ct_S_l1Text)], [], gl, []⟩
theorem eb_S_l9Text_3 (t3 : PV .str) (t6 : PV S_impl_Order) (t7 : PV (.int .i64)) (t8 : PV (.int .i64)) : denK cx_S_l9Text (rcN cx_S_l9Text 0) pl_S_l9Text 0 ((loopsOf (bodyOf Tryd.f20)).getD 0 .skip) (fillS sh_S_l9Text_3 (t3, t6, t7, t8, ())) (roundK 0 lp_S_l9Text_3) = b_S_l9Text_3 t3 t6 t7 t8 := by kernel_rfl
theorem ef_S_l9Text (t0 : PV S_impl_Order) : denF cx_S_l9Text 0 pl_S_l9Text Tryd.f20.ntmps (bodyOf Tryd.f20) Tryd.f20.results.toList [(.bor, S_impl_Order)] [(.str, .b)] (t0, ()) = f_S_l9Text t0 := by kernel_rfl
theorem ok_S_l9Text : FnOk gl Tryd.prog 20 ct_S_l9Text :=
  fnOk (cx := cx_S_l9Text) (pl := pl_S_l9Text) (dp := 0) (ok0_of tabOk (by unfold ArrOk; kernel_rfl) mix ⟨ok_S_l5Numbers, ok_S_l9Words, ok_S_l1Text, trivial⟩ trivial) Tryd.func20 (by kernel_rfl) (by kernel_rfl) (by kernel_rfl)
    (by rw [show loopsOf (bodyOf Tryd.f20) = [((loopsOf (bodyOf Tryd.f20)).getD 0 .skip)] from by kernel_rfl]; exact ⟨(by rw [show lookup pl_S_l9Text.loops (firstId ((loopsOf (bodyOf Tryd.f20)).getD 0 .skip)) = some lp_S_l9Text_3 from by kernel_rfl]; exact fun d z h => (eb_S_l9Text_3 d.1 d.2.1 d.2.2.1 d.2.2.2.1).trans h), trivial⟩) (fun x => ef_S_l9Text x.1)
noncomputable def o_S_OrdersText_2 : List Out := [⟨.normal, ⟨[], [0, 12], []⟩, mkSh 15 [(0, .val S_impl_Order .b), (12, .val .bool .b)]⟩]
noncomputable def pl_S_OrdersText : Plan := ⟨[(2, o_S_OrdersText_2)], [], 0, 0⟩
noncomputable def f_S_OrdersText (t0 : PV S_impl_Order) : Option (PVs [.str, .bool] × PVs []) :=
  ((
      (f_S_l9Good t0).bind fun r6 =>
        bif (!r6.1.1) then
          some (t0, true, ())
        else
          (f_S_l9Text t0).bind fun r7 =>
            some (t0, (decide ((r7.1.1.length : Int) > 3000)), ()) : Option ((PV S_impl_Order × PV .bool × Unit)))).bind fun j8 =>
    bif j8.2.1 then
      some (([], false, ()), ())
    else
      (f_S_l9Text j8.1).bind fun r9 =>
        some ((r9.1.1, true, ()), ())
noncomputable def ct_S_OrdersText : Ct := ⟨[(.bor, S_impl_Order)], [(.str, .b), (.bool, .b)], fun x => f_S_OrdersText x.1⟩
noncomputable def cx_S_OrdersText : Cx := ⟨tab, arrs, [(19, ct_S_l9Good), (20, ct_S_l9Text)], [], gl, []⟩
theorem ef_S_OrdersText (t0 : PV S_impl_Order) : denF cx_S_OrdersText 0 pl_S_OrdersText Tryd.f6.ntmps (bodyOf Tryd.f6) Tryd.f6.results.toList [(.bor, S_impl_Order)] [(.str, .b), (.bool, .b)] (t0, ()) = f_S_OrdersText t0 := by kernel_rfl
theorem ok_S_OrdersText : FnOk gl Tryd.prog 6 ct_S_OrdersText :=
  fnOk (cx := cx_S_OrdersText) (pl := pl_S_OrdersText) (dp := 0) (ok0_of tabOk (by unfold ArrOk; kernel_rfl) mix ⟨ok_S_l9Good, ok_S_l9Text, trivial⟩ trivial) Tryd.func6 (by kernel_rfl) (by kernel_rfl) (by kernel_rfl)
    (by rw [show loopsOf (bodyOf Tryd.f6) = [] from by kernel_rfl]; exact trivial) (fun x => ef_S_OrdersText x.1)
noncomputable def pl_I_in : Plan := ⟨[], [], 0, 0⟩
noncomputable def f_I_in (t0 : PV (.int .i64)) (t1 : PV (.int .i64)) (t2 : PV (.int .i64)) : Option (PVs [.bool] × PVs []) :=
  bif (decide (t0 ≥ t1)) then
    some (((decide (t0 ≤ t2)), ()), ())
  else
    some ((false, ()), ())
noncomputable def ct_I_in : Ct := ⟨[(.bor, (.int .i64)), (.bor, (.int .i64)), (.bor, (.int .i64))], [(.bool, .b)], fun x => f_I_in x.1 x.2.1 x.2.2.1⟩
noncomputable def cx_I_in : Cx := ⟨tab, arrs, [], [], gl, []⟩
theorem ef_I_in (t0 : PV (.int .i64)) (t1 : PV (.int .i64)) (t2 : PV (.int .i64)) : denF cx_I_in 0 pl_I_in Tryd.f54.ntmps (bodyOf Tryd.f54) Tryd.f54.results.toList [(.bor, (.int .i64)), (.bor, (.int .i64)), (.bor, (.int .i64))] [(.bool, .b)] (t0, t1, t2, ()) = f_I_in t0 t1 t2 := by kernel_rfl
theorem ok_I_in : FnOk gl Tryd.prog 54 ct_I_in :=
  fnOk (cx := cx_I_in) (pl := pl_I_in) (dp := 0) (ok0_of tabOk (by unfold ArrOk; kernel_rfl) mix trivial trivial) Tryd.func54 (by kernel_rfl) (by kernel_rfl) (by kernel_rfl)
    (by rw [show loopsOf (bodyOf Tryd.f54) = [] from by kernel_rfl]; exact trivial) (fun x => ef_I_in x.1 x.2.1 x.2.2.1)
noncomputable def pl_I_isLine : Plan := ⟨[], [], 0, 0⟩
noncomputable def f_I_isLine (t0 : PV .str) : Option (PVs [.bool] × PVs []) :=
  (f_I_in (t0.length : Int) 1 30).bind fun r1 =>
    bif r1.1.1 then
      bif cutB 0 (IntKind.wrap .i64 ((t0.length : Int) - 1)) t0.length then
        (f_strings_Contains (cutL 0 (IntKind.wrap .i64 ((t0.length : Int) - 1)) t0) [10]).bind fun r2 =>
          some (((!r2.1.1), ()), ())
      else
        none
    else
      some ((false, ()), ())
noncomputable def ct_I_isLine : Ct := ⟨[(.bor, .str)], [(.bool, .b)], fun x => f_I_isLine x.1⟩
noncomputable def cx_I_isLine : Cx := ⟨tab, arrs, [(54, ct_I_in), (71, ct_strings_Contains)], [], gl, []⟩
theorem ef_I_isLine (t0 : PV .str) : denF cx_I_isLine 0 pl_I_isLine Tryd.f57.ntmps (bodyOf Tryd.f57) Tryd.f57.results.toList [(.bor, .str)] [(.bool, .b)] (t0, ()) = f_I_isLine t0 := by kernel_rfl
theorem ok_I_isLine : FnOk gl Tryd.prog 57 ct_I_isLine :=
  fnOk (cx := cx_I_isLine) (pl := pl_I_isLine) (dp := 0) (ok0_of tabOk (by unfold ArrOk; kernel_rfl) mix ⟨ok_I_in, ok_strings_Contains, trivial⟩ trivial) Tryd.func57 (by kernel_rfl) (by kernel_rfl) (by kernel_rfl)
    (by rw [show loopsOf (bodyOf Tryd.f57) = [] from by kernel_rfl]; exact trivial) (fun x => ef_I_isLine x.1)
noncomputable def pl_internal_stringslite_HasSuffix : Plan := ⟨[], [], 0, 0⟩
noncomputable def f_internal_stringslite_HasSuffix (t0 : PV .str) (t1 : PV .str) : Option (PVs [.bool] × PVs []) :=
  bif (decide ((t0.length : Int) ≥ (t1.length : Int))) then
    bif cutB (IntKind.wrap .i64 ((t0.length : Int) - (t1.length : Int))) (t0.length : Int) t0.length then
      some ((((cutL (IntKind.wrap .i64 ((t0.length : Int) - (t1.length : Int))) (t0.length : Int) t0) == t1), ()), ())
    else
      none
  else
    some ((false, ()), ())
noncomputable def ct_internal_stringslite_HasSuffix : Ct := ⟨[(.bor, .str), (.bor, .str)], [(.bool, .b)], fun x => f_internal_stringslite_HasSuffix x.1 x.2.1⟩
noncomputable def cx_internal_stringslite_HasSuffix : Cx := ⟨tab, arrs, [], [], gl, []⟩
theorem ef_internal_stringslite_HasSuffix (t0 : PV .str) (t1 : PV .str) : denF cx_internal_stringslite_HasSuffix 0 pl_internal_stringslite_HasSuffix Tryd.f81.ntmps (bodyOf Tryd.f81) Tryd.f81.results.toList [(.bor, .str), (.bor, .str)] [(.bool, .b)] (t0, t1, ()) = f_internal_stringslite_HasSuffix t0 t1 := by kernel_rfl
theorem ok_internal_stringslite_HasSuffix : FnOk gl Tryd.prog 81 ct_internal_stringslite_HasSuffix :=
  fnOk (cx := cx_internal_stringslite_HasSuffix) (pl := pl_internal_stringslite_HasSuffix) (dp := 0) (ok0_of tabOk (by unfold ArrOk; kernel_rfl) mix trivial trivial) Tryd.func81 (by kernel_rfl) (by kernel_rfl) (by kernel_rfl)
    (by rw [show loopsOf (bodyOf Tryd.f81) = [] from by kernel_rfl]; exact trivial) (fun x => ef_internal_stringslite_HasSuffix x.1 x.2.1)
noncomputable def pl_strings_HasSuffix : Plan := ⟨[], [], 0, 0⟩
noncomputable def f_strings_HasSuffix (t0 : PV .str) (t1 : PV .str) : Option (PVs [.bool] × PVs []) :=
  (f_internal_stringslite_HasSuffix t0 t1).bind fun r1 =>
    some ((r1.1.1, ()), ())
noncomputable def ct_strings_HasSuffix : Ct := ⟨[(.bor, .str), (.bor, .str)], [(.bool, .b)], fun x => f_strings_HasSuffix x.1 x.2.1⟩
noncomputable def cx_strings_HasSuffix : Cx := ⟨tab, arrs, [(81, ct_internal_stringslite_HasSuffix)], [], gl, []⟩
theorem ef_strings_HasSuffix (t0 : PV .str) (t1 : PV .str) : denF cx_strings_HasSuffix 0 pl_strings_HasSuffix Tryd.f72.ntmps (bodyOf Tryd.f72) Tryd.f72.results.toList [(.bor, .str), (.bor, .str)] [(.bool, .b)] (t0, t1, ()) = f_strings_HasSuffix t0 t1 := by kernel_rfl
theorem ok_strings_HasSuffix : FnOk gl Tryd.prog 72 ct_strings_HasSuffix :=
  fnOk (cx := cx_strings_HasSuffix) (pl := pl_strings_HasSuffix) (dp := 0) (ok0_of tabOk (by unfold ArrOk; kernel_rfl) mix ⟨ok_internal_stringslite_HasSuffix, trivial⟩ trivial) Tryd.func72 (by kernel_rfl) (by kernel_rfl) (by kernel_rfl)
    (by rw [show loopsOf (bodyOf Tryd.f72) = [] from by kernel_rfl]; exact trivial) (fun x => ef_strings_HasSuffix x.1 x.2.1)
noncomputable def pl_I_isEnded : Plan := ⟨[], [], 0, 0⟩
noncomputable def f_I_isEnded (t0 : PV .str) : Option (PVs [.bool] × PVs []) :=
  (f_strings_HasSuffix t0 [10]).bind fun r1 =>
    some ((r1.1.1, ()), ())
noncomputable def ct_I_isEnded : Ct := ⟨[(.bor, .str)], [(.bool, .b)], fun x => f_I_isEnded x.1⟩
noncomputable def cx_I_isEnded : Cx := ⟨tab, arrs, [(72, ct_strings_HasSuffix)], [], gl, []⟩
theorem ef_I_isEnded (t0 : PV .str) : denF cx_I_isEnded 0 pl_I_isEnded Tryd.f58.ntmps (bodyOf Tryd.f58) Tryd.f58.results.toList [(.bor, .str)] [(.bool, .b)] (t0, ()) = f_I_isEnded t0 := by kernel_rfl
theorem ok_I_isEnded : FnOk gl Tryd.prog 58 ct_I_isEnded :=
  fnOk (cx := cx_I_isEnded) (pl := pl_I_isEnded) (dp := 0) (ok0_of tabOk (by unfold ArrOk; kernel_rfl) mix ⟨ok_strings_HasSuffix, trivial⟩ trivial) Tryd.func58 (by kernel_rfl) (by kernel_rfl) (by kernel_rfl)
    (by rw [show loopsOf (bodyOf Tryd.f58) = [] from by kernel_rfl]; exact trivial) (fun x => ef_I_isEnded x.1)
noncomputable def pl_I_goodOrder_1 : Plan := ⟨[], [], 0, 0⟩
noncomputable def f_I_goodOrder_1 (t0 : PV .str) : Option (PVs [.bool] × PVs []) :=
  (f_I_isLine t0).bind fun r1 =>
    bif (!r1.1.1) then
      some ((true, ()), ())
    else
      (f_I_isEnded t0).bind fun r2 =>
        bif (!r2.1.1) then
          some ((true, ()), ())
        else
          some (((t0 == [46, 10]), ()), ())
noncomputable def ct_I_goodOrder_1 : Ct := ⟨[(.bor, .str)], [(.bool, .b)], fun x => f_I_goodOrder_1 x.1⟩
noncomputable def cx_I_goodOrder_1 : Cx := ⟨tab, arrs, [(57, ct_I_isLine), (58, ct_I_isEnded)], [], gl, []⟩
theorem ef_I_goodOrder_1 (t0 : PV .str) : denF cx_I_goodOrder_1 0 pl_I_goodOrder_1 Tryd.f56.ntmps (bodyOf Tryd.f56) Tryd.f56.results.toList [(.bor, .str)] [(.bool, .b)] (t0, ()) = f_I_goodOrder_1 t0 := by kernel_rfl
theorem ok_I_goodOrder_1 : FnOk gl Tryd.prog 56 ct_I_goodOrder_1 :=
  fnOk (cx := cx_I_goodOrder_1) (pl := pl_I_goodOrder_1) (dp := 0) (ok0_of tabOk (by unfold ArrOk; kernel_rfl) mix ⟨ok_I_isLine, ok_I_isEnded, trivial⟩ trivial) Tryd.func56 (by kernel_rfl) (by kernel_rfl) (by kernel_rfl)
    (by rw [show loopsOf (bodyOf Tryd.f56) = [] from by kernel_rfl]; exact trivial) (fun x => ef_I_goodOrder_1 x.1)
noncomputable def o_I_goodOrder_2 : List Out := [⟨.normal, ⟨[], [1, 15, 21, 22, 23, 24, 32, 33, 34, 35, 36, 42, 43, 44, 45, 46, 49, 50, 51, 57, 58, 59, 68, 69, 70, 79, 80, 81, 84, 85, 86, 87, 88], []⟩, mkSh 90 [(1, .var Y_impl_Order .b), (15, .val .bool .b)]⟩]
noncomputable def o_I_goodOrder_4 : List Out := [⟨.normal, ⟨[], [1, 3, 32, 33, 34, 35, 36, 42, 43, 44, 45, 46, 49, 50, 51, 57, 58, 59, 68, 69, 70, 79, 80, 81, 84, 85, 86, 87, 88], []⟩, mkSh 90 [(1, .var Y_impl_Order .b), (3, .val .bool .b)]⟩]
noncomputable def pl_I_goodOrder_55 : Plan := ⟨[], [], 1, 90⟩
noncomputable def sh_I_goodOrder_70_2 : List Sh := mkSh 118 [(1, .var Y_impl_Order .b), (15, .val .bool .b), (16, .addr ⟨1, [.r, .r, .r, .l], 0, 0⟩), (17, .val S_string .b), (18, .val (.int .i64) .b), (19, .val .bool .b), (20, .val .bool .b), (21, .addr ⟨1, [.r, .r, .r, .l], 0, 0⟩), (22, .val S_string .b), (90, .val S_string .b), (91, .fn 56 []), (94, .val .bool .b), (95, .val S_string .b), (96, .fn 56 []), (99, .val S_string .b), (100, .fn 56 []), (106, .val (.int .i64) .b), (107, .val (.int .i64) .b)]
noncomputable def o_I_goodOrder_70_2 : List Out := [⟨.exit 0, ⟨[], [], []⟩, mkSh 118 [(1, .var Y_impl_Order .b), (15, .val .bool .b), (16, .addr ⟨1, [.r, .r, .r, .l], 0, 0⟩), (17, .val S_string .b), (18, .val (.int .i64) .b), (19, .val .bool .b), (20, .val .bool .b), (21, .addr ⟨1, [.r, .r, .r, .l], 0, 0⟩), (22, .val S_string .b), (90, .val S_string .b), (91, .fn 56 []), (94, .val .bool .b), (95, .val S_string .b), (96, .fn 56 [])]⟩, ⟨.ret, ⟨[], [4], []⟩, mkSh 118 [(1, .var Y_impl_Order .b), (15, .val .bool .b), (16, .addr ⟨1, [.r, .r, .r, .l], 0, 0⟩), (17, .val S_string .b), (18, .val (.int .i64) .b), (19, .val .bool .b), (20, .val .bool .b), (21, .addr ⟨1, [.r, .r, .r, .l], 0, 0⟩), (22, .val S_string .b), (90, .val S_string .b), (91, .fn 56 []), (94, .val .bool .b), (95, .val S_string .b), (96, .fn 56 []), (103, .val (.int .i64) .b)]⟩]
noncomputable def b_I_goodOrder_70_2 (t1 : PV Y_impl_Order) (t15 : PV .bool) (t17 : PV S_string) (t18 : PV (.int .i64)) (t19 : PV .bool) (t20 : PV .bool) (t22 : PV S_string) (t90 : PV S_string) (t94 : PV .bool) (t95 : PV S_string) (t99 : PV S_string) (t106 : PV (.int .i64)) (t107 : PV (.int .i64)) : Option ((PV Y_impl_Order × PV .bool × PV S_string × PV (.int .i64) × PV .bool × PV .bool × PV S_string × PV S_string × PV .bool × PV S_string × PV S_string × PV (.int .i64) × PV (.int .i64) × Unit) ⊕ ((PV Y_impl_Order × PV .bool × PV S_string × PV (.int .i64) × PV .bool × PV .bool × PV S_string × PV S_string × PV .bool × PV S_string × Unit) ⊕ (PV Y_impl_Order × PV .bool × PV S_string × PV (.int .i64) × PV .bool × PV .bool × PV S_string × PV S_string × PV .bool × PV S_string × PV (.int .i64) × Unit))) :=
  bif (decide (t107 < t106)) then
    bif inB t107 t99.length then
      (f_I_goodOrder_1 (t99.getD t107.toNat [])).bind fun r13 =>
        bif r13.1.1 then
          some (.inr (.inr (t1, t15, t17, t18, t19, t20, t22, t90, t94, t95, t107, ())))
        else
          some (.inl (t1, t15, t17, t18, t19, t20, t22, t90, t94, t95, t99, t106, (IntKind.wrap .i64 (t107 + 1)), ()))
    else
      none
  else
    some (.inr (.inl (t1, t15, t17, t18, t19, t20, t22, t90, t94, t95, ())))
noncomputable def w_I_goodOrder_70_2 : PV Y_impl_Order × PV .bool × PV S_string × PV (.int .i64) × PV .bool × PV .bool × PV S_string × PV S_string × PV .bool × PV S_string × PV S_string × PV (.int .i64) × PV (.int .i64) × Unit → Option ((PV Y_impl_Order × PV .bool × PV S_string × PV (.int .i64) × PV .bool × PV .bool × PV S_string × PV S_string × PV .bool × PV S_string × Unit) ⊕ (PV Y_impl_Order × PV .bool × PV S_string × PV (.int .i64) × PV .bool × PV .bool × PV S_string × PV S_string × PV .bool × PV S_string × PV (.int .i64) × Unit)) := fix fun d => b_I_goodOrder_70_2 d.1 d.2.1 d.2.2.1 d.2.2.2.1 d.2.2.2.2.1 d.2.2.2.2.2.1 d.2.2.2.2.2.2.1 d.2.2.2.2.2.2.2.1 d.2.2.2.2.2.2.2.2.1 d.2.2.2.2.2.2.2.2.2.1 d.2.2.2.2.2.2.2.2.2.2.1 d.2.2.2.2.2.2.2.2.2.2.2.1 d.2.2.2.2.2.2.2.2.2.2.2.2.1
noncomputable def lp_I_goodOrder_70_2 : Lp := ⟨⟨[], [0, 1, 7, 8], []⟩, sh_I_goodOrder_70_2, o_I_goodOrder_70_2, fun d => b_I_goodOrder_70_2 d.1 d.2.1 d.2.2.1 d.2.2.2.1 d.2.2.2.2.1 d.2.2.2.2.2.1 d.2.2.2.2.2.2.1 d.2.2.2.2.2.2.2.1 d.2.2.2.2.2.2.2.2.1 d.2.2.2.2.2.2.2.2.2.1 d.2.2.2.2.2.2.2.2.2.2.1 d.2.2.2.2.2.2.2.2.2.2.2.1 d.2.2.2.2.2.2.2.2.2.2.2.2.1⟩
noncomputable def pl_I_goodOrder_70 : Plan := ⟨[], [(2, lp_I_goodOrder_70_2)], 0, 99⟩
noncomputable def pl_I_goodOrder : Plan := ⟨[(2, o_I_goodOrder_2), (4, o_I_goodOrder_4)], [], 2, 0⟩
noncomputable def f_I_goodOrder (t0 : PV Y_impl_Order) : Option (PVs [.bool] × PVs []) :=
  ((
      (f_I_in t0.2.1 0 1000).bind fun r6 =>
        bif (!r6.1.1) then
          some (t0, true, ())
        else
          (f_I_in t0.2.2.1 t0.2.1 1000).bind fun r7 =>
            some (t0, (!r7.1.1), ()) : Option ((PV Y_impl_Order × PV .bool × Unit)))).bind fun j8 =>
    bif j8.2.1 then
      some ((false, ()), ())
    else
      ((
          (f_I_in (j8.1.2.2.2.1.length : Int) 1 40).bind fun r18 =>
            bif r18.1.1 then
              (w_I_goodOrder_70_2 (j8.1, j8.2.1, j8.1.2.2.2.1, (j8.1.2.2.2.1.length : Int), r18.1.1, true, j8.1.2.2.2.1, j8.1.2.2.2.1, false, j8.1.2.2.2.1, j8.1.2.2.2.1, (j8.1.2.2.2.1.length : Int), 0, ())).bind fun x24 =>
                match x24 with
                | .inl l21 =>
                  bif l21.2.2.2.2.2.1 then
                    some (l21.1, (!(decide ((-1) ≥ 0))), ())
                  else
                    some (l21.1, false, ())
                | .inr l22 =>
                  bif l22.2.2.2.2.2.1 then
                    some (l22.1, (!(decide (l22.2.2.2.2.2.2.2.2.2.2.1 ≥ 0))), ())
                  else
                    some (l22.1, false, ())
            else
              some (j8.1, false, ()) : Option ((PV Y_impl_Order × PV .bool × Unit)))).bind fun j23 =>
        bif (j23.1.1 == 1) then
          bif j23.2.1 then
            some (((j23.1.2.2.1 == j23.1.2.1), ()), ())
          else
            some ((false, ()), ())
        else
          bif (j23.1.1 == 2) then
            bif j23.2.1 then
              bif (j23.1.2.2.1 == j23.1.2.1) then
                some (((decide (j23.1.2.1 ≥ 1)), ()), ())
              else
                some ((false, ()), ())
            else
              some ((false, ()), ())
          else
            bif (j23.1.1 == 3) then
              bif j23.2.1 then
                some (((decide (j23.1.2.1 ≥ 1)), ()), ())
              else
                some ((false, ()), ())
            else
              bif (j23.1.1 == 4) then
                bif ((j23.1.2.2.2.1.length : Int) == 0) then
                  some (((decide (j23.1.2.1 ≥ 1)), ()), ())
                else
                  some ((false, ()), ())
              else
                bif (j23.1.1 == 5) then
                  bif ((j23.1.2.2.2.1.length : Int) == 0) then
                    bif (decide (j23.1.2.1 ≥ 1)) then
                      some (((j23.1.2.2.1 == j23.1.2.1), ()), ())
                    else
                      some ((false, ()), ())
                  else
                    some ((false, ()), ())
                else
                  some ((false, ()), ())
noncomputable def ct_I_goodOrder : Ct := ⟨[(.bor, Y_impl_Order)], [(.bool, .b)], fun x => f_I_goodOrder x.1⟩
noncomputable def cx_I_goodOrder : Cx := ⟨tab, arrs, [(54, ct_I_in), (56, ct_I_goodOrder_1)], [(55, Tryd.f55, pl_I_goodOrder_55), (70, Tryd.f70, pl_I_goodOrder_70)], gl, []⟩
theorem eb_I_goodOrder_70_2 (t1 : PV Y_impl_Order) (t15 : PV .bool) (t17 : PV S_string) (t18 : PV (.int .i64)) (t19 : PV .bool) (t20 : PV .bool) (t22 : PV S_string) (t90 : PV S_string) (t94 : PV .bool) (t95 : PV S_string) (t99 : PV S_string) (t106 : PV (.int .i64)) (t107 : PV (.int .i64)) : denK cx_I_goodOrder (rcN cx_I_goodOrder 0) pl_I_goodOrder_70 99 ((loopsOf (bodyOf Tryd.f70)).getD 0 .skip) (fillS sh_I_goodOrder_70_2 (t1, t15, t17, t18, t19, t20, t22, t90, t94, t95, t99, t106, t107, ())) (roundK 99 lp_I_goodOrder_70_2) = b_I_goodOrder_70_2 t1 t15 t17 t18 t19 t20 t22 t90 t94 t95 t99 t106 t107 := by kernel_rfl
theorem ef_I_goodOrder (t0 : PV Y_impl_Order) : denF cx_I_goodOrder 2 pl_I_goodOrder Tryd.f38.ntmps (bodyOf Tryd.f38) Tryd.f38.results.toList [(.bor, Y_impl_Order)] [(.bool, .b)] (t0, ()) = f_I_goodOrder t0 := by kernel_rfl
theorem ok_I_goodOrder : FnOk gl Tryd.prog 38 ct_I_goodOrder :=
  fnOk (cx := cx_I_goodOrder) (pl := pl_I_goodOrder) (dp := 2) (ok0_of tabOk (by unfold ArrOk; kernel_rfl) mix ⟨ok_I_in, ok_I_goodOrder_1, trivial⟩ ⟨⟨Tryd.func55, by kernel_rfl, (by rw [show loopsOf (bodyOf Tryd.f55) = [] from by kernel_rfl]; exact trivial)⟩, ⟨Tryd.func70, by kernel_rfl, (by rw [show loopsOf (bodyOf Tryd.f70) = [((loopsOf (bodyOf Tryd.f70)).getD 0 .skip)] from by kernel_rfl]; exact ⟨(by rw [show lookup pl_I_goodOrder_70.loops (firstId ((loopsOf (bodyOf Tryd.f70)).getD 0 .skip)) = some lp_I_goodOrder_70_2 from by kernel_rfl]; exact fun d z h => (eb_I_goodOrder_70_2 d.1 d.2.1 d.2.2.1 d.2.2.2.1 d.2.2.2.2.1 d.2.2.2.2.2.1 d.2.2.2.2.2.2.1 d.2.2.2.2.2.2.2.1 d.2.2.2.2.2.2.2.2.1 d.2.2.2.2.2.2.2.2.2.1 d.2.2.2.2.2.2.2.2.2.2.1 d.2.2.2.2.2.2.2.2.2.2.2.1 d.2.2.2.2.2.2.2.2.2.2.2.2.1).trans h), trivial⟩)⟩, trivial⟩) Tryd.func38 (by kernel_rfl) (by kernel_rfl) (by kernel_rfl)
    (by rw [show loopsOf (bodyOf Tryd.f38) = [] from by kernel_rfl]; exact trivial) (fun x => ef_I_goodOrder x.1)
noncomputable def pl_I_goodOrders_1 : Plan := ⟨[], [], 0, 0⟩
noncomputable def f_I_goodOrders_1 (t0 : PV Y_impl_Order) : Option (PVs [.bool] × PVs []) :=
  (f_I_goodOrder t0).bind fun r1 =>
    some (((!r1.1.1), ()), ())
noncomputable def ct_I_goodOrders_1 : Ct := ⟨[(.bor, Y_impl_Order)], [(.bool, .b)], fun x => f_I_goodOrders_1 x.1⟩
noncomputable def cx_I_goodOrders_1 : Cx := ⟨tab, arrs, [(38, ct_I_goodOrder)], [], gl, []⟩
theorem ef_I_goodOrders_1 (t0 : PV Y_impl_Order) : denF cx_I_goodOrders_1 0 pl_I_goodOrders_1 Tryd.f37.ntmps (bodyOf Tryd.f37) Tryd.f37.results.toList [(.bor, Y_impl_Order)] [(.bool, .b)] (t0, ()) = f_I_goodOrders_1 t0 := by kernel_rfl
theorem ok_I_goodOrders_1 : FnOk gl Tryd.prog 37 ct_I_goodOrders_1 :=
  fnOk (cx := cx_I_goodOrders_1) (pl := pl_I_goodOrders_1) (dp := 0) (ok0_of tabOk (by unfold ArrOk; kernel_rfl) mix ⟨ok_I_goodOrder, trivial⟩ trivial) Tryd.func37 (by kernel_rfl) (by kernel_rfl) (by kernel_rfl)
    (by rw [show loopsOf (bodyOf Tryd.f37) = [] from by kernel_rfl]; exact trivial) (fun x => ef_I_goodOrders_1 x.1)
noncomputable def pl_I_goodOrders_36 : Plan := ⟨[], [], 1, 11⟩
noncomputable def sh_I_goodOrders_53_2 : List Sh := mkSh 39 [(0, .val S_impl_Order .b), (2, .val .bool .b), (3, .val S_impl_Order .b), (4, .val (.int .i64) .b), (5, .val .bool .b), (6, .val .bool .b), (7, .val S_impl_Order .b), (11, .val S_impl_Order .b), (12, .fn 37 []), (15, .val .bool .b), (16, .val S_impl_Order .b), (17, .fn 37 []), (20, .val S_impl_Order .b), (21, .fn 37 []), (27, .val (.int .i64) .b), (28, .val (.int .i64) .b)]
noncomputable def o_I_goodOrders_53_2 : List Out := [⟨.exit 0, ⟨[], [], []⟩, mkSh 39 [(0, .val S_impl_Order .b), (2, .val .bool .b), (3, .val S_impl_Order .b), (4, .val (.int .i64) .b), (5, .val .bool .b), (6, .val .bool .b), (7, .val S_impl_Order .b), (11, .val S_impl_Order .b), (12, .fn 37 []), (15, .val .bool .b), (16, .val S_impl_Order .b), (17, .fn 37 [])]⟩, ⟨.ret, ⟨[], [4], []⟩, mkSh 39 [(0, .val S_impl_Order .b), (2, .val .bool .b), (3, .val S_impl_Order .b), (4, .val (.int .i64) .b), (5, .val .bool .b), (6, .val .bool .b), (7, .val S_impl_Order .b), (11, .val S_impl_Order .b), (12, .fn 37 []), (15, .val .bool .b), (16, .val S_impl_Order .b), (17, .fn 37 []), (24, .val (.int .i64) .b)]⟩]
noncomputable def b_I_goodOrders_53_2 (t0 : PV S_impl_Order) (t2 : PV .bool) (t3 : PV S_impl_Order) (t4 : PV (.int .i64)) (t5 : PV .bool) (t6 : PV .bool) (t7 : PV S_impl_Order) (t11 : PV S_impl_Order) (t15 : PV .bool) (t16 : PV S_impl_Order) (t20 : PV S_impl_Order) (t27 : PV (.int .i64)) (t28 : PV (.int .i64)) : Option ((PV S_impl_Order × PV .bool × PV S_impl_Order × PV (.int .i64) × PV .bool × PV .bool × PV S_impl_Order × PV S_impl_Order × PV .bool × PV S_impl_Order × PV S_impl_Order × PV (.int .i64) × PV (.int .i64) × Unit) ⊕ ((PV S_impl_Order × PV .bool × PV S_impl_Order × PV (.int .i64) × PV .bool × PV .bool × PV S_impl_Order × PV S_impl_Order × PV .bool × PV S_impl_Order × Unit) ⊕ (PV S_impl_Order × PV .bool × PV S_impl_Order × PV (.int .i64) × PV .bool × PV .bool × PV S_impl_Order × PV S_impl_Order × PV .bool × PV S_impl_Order × PV (.int .i64) × Unit))) :=
  bif (decide (t28 < t27)) then
    bif inB t28 t20.length then
      (f_I_goodOrders_1 (t20.getD t28.toNat (dflt Y_impl_Order))).bind fun r4 =>
        bif r4.1.1 then
          some (.inr (.inr (t0, t2, t3, t4, t5, t6, t7, t11, t15, t16, t28, ())))
        else
          some (.inl (t0, t2, t3, t4, t5, t6, t7, t11, t15, t16, t20, t27, (IntKind.wrap .i64 (t28 + 1)), ()))
    else
      none
  else
    some (.inr (.inl (t0, t2, t3, t4, t5, t6, t7, t11, t15, t16, ())))
noncomputable def w_I_goodOrders_53_2 : PV S_impl_Order × PV .bool × PV S_impl_Order × PV (.int .i64) × PV .bool × PV .bool × PV S_impl_Order × PV S_impl_Order × PV .bool × PV S_impl_Order × PV S_impl_Order × PV (.int .i64) × PV (.int .i64) × Unit → Option ((PV S_impl_Order × PV .bool × PV S_impl_Order × PV (.int .i64) × PV .bool × PV .bool × PV S_impl_Order × PV S_impl_Order × PV .bool × PV S_impl_Order × Unit) ⊕ (PV S_impl_Order × PV .bool × PV S_impl_Order × PV (.int .i64) × PV .bool × PV .bool × PV S_impl_Order × PV S_impl_Order × PV .bool × PV S_impl_Order × PV (.int .i64) × Unit)) := fix fun d => b_I_goodOrders_53_2 d.1 d.2.1 d.2.2.1 d.2.2.2.1 d.2.2.2.2.1 d.2.2.2.2.2.1 d.2.2.2.2.2.2.1 d.2.2.2.2.2.2.2.1 d.2.2.2.2.2.2.2.2.1 d.2.2.2.2.2.2.2.2.2.1 d.2.2.2.2.2.2.2.2.2.2.1 d.2.2.2.2.2.2.2.2.2.2.2.1 d.2.2.2.2.2.2.2.2.2.2.2.2.1
noncomputable def lp_I_goodOrders_53_2 : Lp := ⟨⟨[], [0, 1, 7, 8], []⟩, sh_I_goodOrders_53_2, o_I_goodOrders_53_2, fun d => b_I_goodOrders_53_2 d.1 d.2.1 d.2.2.1 d.2.2.2.1 d.2.2.2.2.1 d.2.2.2.2.2.1 d.2.2.2.2.2.2.1 d.2.2.2.2.2.2.2.1 d.2.2.2.2.2.2.2.2.1 d.2.2.2.2.2.2.2.2.2.1 d.2.2.2.2.2.2.2.2.2.2.1 d.2.2.2.2.2.2.2.2.2.2.2.1 d.2.2.2.2.2.2.2.2.2.2.2.2.1⟩
noncomputable def pl_I_goodOrders_53 : Plan := ⟨[], [(2, lp_I_goodOrders_53_2)], 0, 20⟩
noncomputable def pl_I_goodOrders : Plan := ⟨[], [], 2, 0⟩
noncomputable def f_I_goodOrders (t0 : PV S_impl_Order) : Option (PVs [.bool] × PVs []) :=
  bif (decide ((t0.length : Int) ≤ 60)) then
    (w_I_goodOrders_53_2 (t0, false, t0, (t0.length : Int), (decide ((t0.length : Int) ≤ 60)), true, t0, t0, false, t0, t0, (t0.length : Int), 0, ())).bind fun x9 =>
      match x9 with
      | .inl l7 =>
        bif l7.2.2.2.2.2.1 then
          some (((!(decide ((-1) ≥ 0))), ()), ())
        else
          some ((false, ()), ())
      | .inr l8 =>
        bif l8.2.2.2.2.2.1 then
          some (((!(decide (l8.2.2.2.2.2.2.2.2.2.2.1 ≥ 0))), ()), ())
        else
          some ((false, ()), ())
  else
    some ((false, ()), ())
noncomputable def ct_I_goodOrders : Ct := ⟨[(.bor, S_impl_Order)], [(.bool, .b)], fun x => f_I_goodOrders x.1⟩
noncomputable def cx_I_goodOrders : Cx := ⟨tab, arrs, [(37, ct_I_goodOrders_1)], [(36, Tryd.f36, pl_I_goodOrders_36), (53, Tryd.f53, pl_I_goodOrders_53)], gl, []⟩
theorem eb_I_goodOrders_53_2 (t0 : PV S_impl_Order) (t2 : PV .bool) (t3 : PV S_impl_Order) (t4 : PV (.int .i64)) (t5 : PV .bool) (t6 : PV .bool) (t7 : PV S_impl_Order) (t11 : PV S_impl_Order) (t15 : PV .bool) (t16 : PV S_impl_Order) (t20 : PV S_impl_Order) (t27 : PV (.int .i64)) (t28 : PV (.int .i64)) : denK cx_I_goodOrders (rcN cx_I_goodOrders 0) pl_I_goodOrders_53 20 ((loopsOf (bodyOf Tryd.f53)).getD 0 .skip) (fillS sh_I_goodOrders_53_2 (t0, t2, t3, t4, t5, t6, t7, t11, t15, t16, t20, t27, t28, ())) (roundK 20 lp_I_goodOrders_53_2) = b_I_goodOrders_53_2 t0 t2 t3 t4 t5 t6 t7 t11 t15 t16 t20 t27 t28 := by kernel_rfl
theorem ef_I_goodOrders (t0 : PV S_impl_Order) : denF cx_I_goodOrders 2 pl_I_goodOrders Tryd.f22.ntmps (bodyOf Tryd.f22) Tryd.f22.results.toList [(.bor, S_impl_Order)] [(.bool, .b)] (t0, ()) = f_I_goodOrders t0 := by kernel_rfl
theorem ok_I_goodOrders : FnOk gl Tryd.prog 22 ct_I_goodOrders :=
  fnOk (cx := cx_I_goodOrders) (pl := pl_I_goodOrders) (dp := 2) (ok0_of tabOk (by unfold ArrOk; kernel_rfl) mix ⟨ok_I_goodOrders_1, trivial⟩ ⟨⟨Tryd.func36, by kernel_rfl, (by rw [show loopsOf (bodyOf Tryd.f36) = [] from by kernel_rfl]; exact trivial)⟩, ⟨Tryd.func53, by kernel_rfl, (by rw [show loopsOf (bodyOf Tryd.f53) = [((loopsOf (bodyOf Tryd.f53)).getD 0 .skip)] from by kernel_rfl]; exact ⟨(by rw [show lookup pl_I_goodOrders_53.loops (firstId ((loopsOf (bodyOf Tryd.f53)).getD 0 .skip)) = some lp_I_goodOrders_53_2 from by kernel_rfl]; exact fun d z h => (eb_I_goodOrders_53_2 d.1 d.2.1 d.2.2.1 d.2.2.2.1 d.2.2.2.2.1 d.2.2.2.2.2.1 d.2.2.2.2.2.2.1 d.2.2.2.2.2.2.2.1 d.2.2.2.2.2.2.2.2.1 d.2.2.2.2.2.2.2.2.2.1 d.2.2.2.2.2.2.2.2.2.2.1 d.2.2.2.2.2.2.2.2.2.2.2.1 d.2.2.2.2.2.2.2.2.2.2.2.2.1).trans h), trivial⟩)⟩, trivial⟩) Tryd.func22 (by kernel_rfl) (by kernel_rfl) (by kernel_rfl)
    (by rw [show loopsOf (bodyOf Tryd.f22) = [] from by kernel_rfl]; exact trivial) (fun x => ef_I_goodOrders x.1)
noncomputable def pl_I_pairOf : Plan := ⟨[], [], 0, 0⟩
noncomputable def f_I_pairOf (t0 : PV (.int .i64)) (t1 : PV (.int .i64)) : Option (PVs [.str] × PVs []) :=
  bif (t0 == t1) then
    (f_strconv_Itoa t0).bind fun r2 =>
      some ((r2.1.1, ()), ())
  else
    (f_strconv_Itoa t0).bind fun r3 =>
      bif decide (r3.1.1.length + [44].length ≤ 1099511627776) then
        (f_strconv_Itoa t1).bind fun r4 =>
          bif decide ((r3.1.1 ++ [44]).length + r4.1.1.length ≤ 1099511627776) then
            some ((((r3.1.1 ++ [44]) ++ r4.1.1), ()), ())
          else
            none
      else
        none
noncomputable def ct_I_pairOf : Ct := ⟨[(.bor, (.int .i64)), (.bor, (.int .i64))], [(.str, .b)], fun x => f_I_pairOf x.1 x.2.1⟩
noncomputable def cx_I_pairOf : Cx := ⟨tab, arrs, [(39, ct_strconv_Itoa)], [], gl, []⟩
theorem ef_I_pairOf (t0 : PV (.int .i64)) (t1 : PV (.int .i64)) : denF cx_I_pairOf 0 pl_I_pairOf Tryd.f23.ntmps (bodyOf Tryd.f23) Tryd.f23.results.toList [(.bor, (.int .i64)), (.bor, (.int .i64))] [(.str, .b)] (t0, t1, ()) = f_I_pairOf t0 t1 := by kernel_rfl
theorem ok_I_pairOf : FnOk gl Tryd.prog 23 ct_I_pairOf :=
  fnOk (cx := cx_I_pairOf) (pl := pl_I_pairOf) (dp := 0) (ok0_of tabOk (by unfold ArrOk; kernel_rfl) mix ⟨ok_strconv_Itoa, trivial⟩ trivial) Tryd.func23 (by kernel_rfl) (by kernel_rfl) (by kernel_rfl)
    (by rw [show loopsOf (bodyOf Tryd.f23) = [] from by kernel_rfl]; exact trivial) (fun x => ef_I_pairOf x.1 x.2.1)
noncomputable def pl_I_short : Plan := ⟨[], [], 0, 0⟩
noncomputable def f_I_short (t0 : PV .str) : Option (PVs [.str, .bool] × PVs []) :=
  bif (decide ((t0.length : Int) > 3000)) then
    some (([], false, ()), ())
  else
    some ((t0, true, ()), ())
noncomputable def ct_I_short : Ct := ⟨[(.bor, .str)], [(.str, .b), (.bool, .b)], fun x => f_I_short x.1⟩
noncomputable def cx_I_short : Cx := ⟨tab, arrs, [], [], gl, []⟩
theorem ef_I_short (t0 : PV .str) : denF cx_I_short 0 pl_I_short Tryd.f25.ntmps (bodyOf Tryd.f25) Tryd.f25.results.toList [(.bor, .str)] [(.str, .b), (.bool, .b)] (t0, ()) = f_I_short t0 := by kernel_rfl
theorem ok_I_short : FnOk gl Tryd.prog 25 ct_I_short :=
  fnOk (cx := cx_I_short) (pl := pl_I_short) (dp := 0) (ok0_of tabOk (by unfold ArrOk; kernel_rfl) mix trivial trivial) Tryd.func25 (by kernel_rfl) (by kernel_rfl) (by kernel_rfl)
    (by rw [show loopsOf (bodyOf Tryd.f25) = [] from by kernel_rfl]; exact trivial) (fun x => ef_I_short x.1)
noncomputable def o_I_OrdersText_10 : List Out := [⟨.normal, ⟨[], [4, 10, 11, 12], []⟩, mkSh 44 [(4, .val .str .b), (10, .val S_impl_Order .b), (11, .val (.int .i64) .b), (12, .val (.int .i64) .b)]⟩]
noncomputable def sh_I_OrdersText_5 : List Sh := mkSh 44 [(4, .val .str .b), (10, .val S_impl_Order .b), (11, .val (.int .i64) .b), (12, .val (.int .i64) .b)]
noncomputable def o_I_OrdersText_5 : List Out := [⟨.exit 0, ⟨[], [4], []⟩, mkSh 44 [(4, .val .str .b)]⟩]
noncomputable def b_I_OrdersText_5 (t4 : PV .str) (t10 : PV S_impl_Order) (t11 : PV (.int .i64)) (t12 : PV (.int .i64)) : Option ((PV .str × PV S_impl_Order × PV (.int .i64) × PV (.int .i64) × Unit) ⊕ ((PV .str × Unit))) :=
  bif (decide (t12 < t11)) then
    ((
        bif inB t12 t10.length then
          (f_I_pairOf (((t10.getD t12.toNat (dflt Y_impl_Order)).2).1) ((((t10.getD t12.toNat (dflt Y_impl_Order)).2).2).1)).bind fun r7 =>
            bif inB ((t10.getD t12.toNat (dflt Y_impl_Order)).1) gs0.length then
              bif decide (r7.1.1.length + (gs0.getD ((t10.getD t12.toNat (dflt Y_impl_Order)).1).toNat []).length ≤ 1099511627776) then
                bif decide ((r7.1.1 ++ (gs0.getD ((t10.getD t12.toNat (dflt Y_impl_Order)).1).toNat [])).length + [10].length ≤ 1099511627776) then
                  (f_strings_Join (((((t10.getD t12.toNat (dflt Y_impl_Order)).2).2).2).1) []).bind fun r8 =>
                    bif decide (((r7.1.1 ++ (gs0.getD ((t10.getD t12.toNat (dflt Y_impl_Order)).1).toNat [])) ++ [10]).length + r8.1.1.length ≤ 1099511627776) then
                      bif decide (t4.length + (((r7.1.1 ++ (gs0.getD ((t10.getD t12.toNat (dflt Y_impl_Order)).1).toNat [])) ++ [10]) ++ r8.1.1).length ≤ 1099511627776) then
                        bif (decide (((((((t10.getD t12.toNat (dflt Y_impl_Order)).2).2).2).1).length : Int) > 0)) then
                          bif decide ((t4 ++ (((r7.1.1 ++ (gs0.getD ((t10.getD t12.toNat (dflt Y_impl_Order)).1).toNat [])) ++ [10]) ++ r8.1.1)).length + [46, 10].length ≤ 1099511627776) then
                            some (((t4 ++ (((r7.1.1 ++ (gs0.getD ((t10.getD t12.toNat (dflt Y_impl_Order)).1).toNat [])) ++ [10]) ++ r8.1.1)) ++ [46, 10]), t10, t11, t12, ())
                          else
                            none
                        else
                          some ((t4 ++ (((r7.1.1 ++ (gs0.getD ((t10.getD t12.toNat (dflt Y_impl_Order)).1).toNat [])) ++ [10]) ++ r8.1.1)), t10, t11, t12, ())
                      else
                        none
                    else
                      none
                else
                  none
              else
                none
            else
              none
        else
          none : Option ((PV .str × PV S_impl_Order × PV (.int .i64) × PV (.int .i64) × Unit)))).bind fun j9 =>
      some (.inl (j9.1, j9.2.1, j9.2.2.1, (IntKind.wrap .i64 (j9.2.2.2.1 + 1)), ()))
  else
    some (.inr (t4, ()))
noncomputable def w_I_OrdersText_5 : PV .str × PV S_impl_Order × PV (.int .i64) × PV (.int .i64) × Unit → Option ((PV .str × Unit)) := fix fun d => b_I_OrdersText_5 d.1 d.2.1 d.2.2.1 d.2.2.2.1
noncomputable def lp_I_OrdersText_5 : Lp := ⟨⟨[], [4, 10, 11, 12], []⟩, sh_I_OrdersText_5, o_I_OrdersText_5, fun d => b_I_OrdersText_5 d.1 d.2.1 d.2.2.1 d.2.2.2.1⟩
noncomputable def pl_I_OrdersText : Plan := ⟨[(10, o_I_OrdersText_10)], [(5, lp_I_OrdersText_5)], 0, 0⟩
noncomputable def f_I_OrdersText (t0 : PV S_impl_Order) : Option (PVs [.str, .bool] × PVs []) :=
  (f_I_goodOrders t0).bind fun r4 =>
    bif (!r4.1.1) then
      some (([], false, ()), ())
    else
      (w_I_OrdersText_5 ([], t0, (t0.length : Int), 0, ())).bind fun l11 =>
        (f_I_short l11.1).bind fun r12 =>
          some ((r12.1.1, r12.1.2.1, ()), ())
noncomputable def ct_I_OrdersText : Ct := ⟨[(.bor, S_impl_Order)], [(.str, .b), (.bool, .b)], fun x => f_I_OrdersText x.1⟩
noncomputable def cx_I_OrdersText : Cx := ⟨tab, arrs, [(22, ct_I_goodOrders), (23, ct_I_pairOf), (24, ct_strings_Join), (25, ct_I_short)], [], gl, []⟩
theorem eb_I_OrdersText_5 (t4 : PV .str) (t10 : PV S_impl_Order) (t11 : PV (.int .i64)) (t12 : PV (.int .i64)) : denK cx_I_OrdersText (rcN cx_I_OrdersText 0) pl_I_OrdersText 0 ((loopsOf (bodyOf Tryd.f8)).getD 0 .skip) (fillS sh_I_OrdersText_5 (t4, t10, t11, t12, ())) (roundK 0 lp_I_OrdersText_5) = b_I_OrdersText_5 t4 t10 t11 t12 := by kernel_rfl
theorem ef_I_OrdersText (t0 : PV S_impl_Order) : denF cx_I_OrdersText 0 pl_I_OrdersText Tryd.f8.ntmps (bodyOf Tryd.f8) Tryd.f8.results.toList [(.bor, S_impl_Order)] [(.str, .b), (.bool, .b)] (t0, ()) = f_I_OrdersText t0 := by kernel_rfl
theorem ok_I_OrdersText : FnOk gl Tryd.prog 8 ct_I_OrdersText :=
  fnOk (cx := cx_I_OrdersText) (pl := pl_I_OrdersText) (dp := 0) (ok0_of tabOk (by unfold ArrOk; kernel_rfl) mix ⟨ok_I_goodOrders, ok_I_pairOf, ok_strings_Join, ok_I_short, trivial⟩ trivial) Tryd.func8 (by kernel_rfl) (by kernel_rfl) (by kernel_rfl)
    (by rw [show loopsOf (bodyOf Tryd.f8) = [((loopsOf (bodyOf Tryd.f8)).getD 0 .skip)] from by kernel_rfl]; exact ⟨(by rw [show lookup pl_I_OrdersText.loops (firstId ((loopsOf (bodyOf Tryd.f8)).getD 0 .skip)) = some lp_I_OrdersText_5 from by kernel_rfl]; exact fun d z h => (eb_I_OrdersText_5 d.1 d.2.1 d.2.2.1 d.2.2.2.1).trans h), trivial⟩) (fun x => ef_I_OrdersText x.1)
noncomputable def sh_L_eqStringS_4 : List Sh := mkSh 26 [(0, .val S_string .b), (1, .val S_string .b), (5, .val (.int .i64) .b)]
noncomputable def o_L_eqStringS_4 : List Out := [⟨.exit 0, ⟨[], [], []⟩, mkSh 26 []⟩, ⟨.ret, ⟨[], [4], []⟩, mkSh 26 [(4, .val .bool .b)]⟩]
noncomputable def b_L_eqStringS_4 (t0 : PV S_string) (t1 : PV S_string) (t5 : PV (.int .i64)) : Option ((PV S_string × PV S_string × PV (.int .i64) × Unit) ⊕ ((Unit) ⊕ (PV .bool × Unit))) :=
  bif (decide (t5 < (t0.length : Int))) then
    bif inB t5 t0.length then
      bif inB t5 t1.length then
        bif (!((t0.getD t5.toNat []) == (t1.getD t5.toNat []))) then
          some (.inr (.inr (false, ())))
        else
          some (.inl (t0, t1, (IntKind.wrap .i64 (t5 + 1)), ()))
      else
        none
    else
      none
  else
    some (.inr (.inl ()))
noncomputable def w_L_eqStringS_4 : PV S_string × PV S_string × PV (.int .i64) × Unit → Option ((Unit) ⊕ (PV .bool × Unit)) := fix fun d => b_L_eqStringS_4 d.1 d.2.1 d.2.2.1
noncomputable def lp_L_eqStringS_4 : Lp := ⟨⟨[], [0, 1, 5], []⟩, sh_L_eqStringS_4, o_L_eqStringS_4, fun d => b_L_eqStringS_4 d.1 d.2.1 d.2.2.1⟩
noncomputable def pl_L_eqStringS : Plan := ⟨[], [(4, lp_L_eqStringS_4)], 0, 0⟩
noncomputable def f_L_eqStringS (t0 : PV S_string) (t1 : PV S_string) : Option (PVs [.bool] × PVs []) :=
  bif (!((t0.length : Int) == (t1.length : Int))) then
    some ((false, ()), ())
  else
    (w_L_eqStringS_4 (t0, t1, 0, ())).bind fun x5 =>
      match x5 with
      | .inl l3 =>
        some ((true, ()), ())
      | .inr l4 =>
        some ((l4.1, ()), ())
noncomputable def ct_L_eqStringS : Ct := ⟨[(.bor, S_string), (.bor, S_string)], [(.bool, .b)], fun x => f_L_eqStringS x.1 x.2.1⟩
noncomputable def cx_L_eqStringS : Cx := ⟨tab, arrs, [], [], gl, []⟩
theorem eb_L_eqStringS_4 (t0 : PV S_string) (t1 : PV S_string) (t5 : PV (.int .i64)) : denK cx_L_eqStringS (rcN cx_L_eqStringS 0) pl_L_eqStringS 0 ((loopsOf (bodyOf Tryd.f16)).getD 0 .skip) (fillS sh_L_eqStringS_4 (t0, t1, t5, ())) (roundK 0 lp_L_eqStringS_4) = b_L_eqStringS_4 t0 t1 t5 := by kernel_rfl
theorem ef_L_eqStringS (t0 : PV S_string) (t1 : PV S_string) : denF cx_L_eqStringS 0 pl_L_eqStringS Tryd.f16.ntmps (bodyOf Tryd.f16) Tryd.f16.results.toList [(.bor, S_string), (.bor, S_string)] [(.bool, .b)] (t0, t1, ()) = f_L_eqStringS t0 t1 := by kernel_rfl
theorem ok_L_eqStringS : FnOk gl Tryd.prog 16 ct_L_eqStringS :=
  fnOk (cx := cx_L_eqStringS) (pl := pl_L_eqStringS) (dp := 0) (ok0_of tabOk (by unfold ArrOk; kernel_rfl) mix trivial trivial) Tryd.func16 (by kernel_rfl) (by kernel_rfl) (by kernel_rfl)
    (by rw [show loopsOf (bodyOf Tryd.f16) = [((loopsOf (bodyOf Tryd.f16)).getD 0 .skip)] from by kernel_rfl]; exact ⟨(by rw [show lookup pl_L_eqStringS.loops (firstId ((loopsOf (bodyOf Tryd.f16)).getD 0 .skip)) = some lp_L_eqStringS_4 from by kernel_rfl]; exact fun d z h => (eb_L_eqStringS_4 d.1 d.2.1 d.2.2.1).trans h), trivial⟩) (fun x => ef_L_eqStringS x.1 x.2.1)
noncomputable def pl_L_eqOrder : Plan := ⟨[], [], 0, 0⟩
noncomputable def f_L_eqOrder (t0 : PV Y_impl_Order) (t1 : PV Y_impl_Order) : Option (PVs [.bool] × PVs []) :=
  bif (!(t0.1 == t1.1)) then
    some ((false, ()), ())
  else
    bif (!(t0.2.1 == t1.2.1)) then
      some ((false, ()), ())
    else
      bif (!(t0.2.2.1 == t1.2.2.1)) then
        some ((false, ()), ())
      else
        (f_L_eqStringS t0.2.2.2.1 t1.2.2.2.1).bind fun r4 =>
          bif (!r4.1.1) then
            some ((false, ()), ())
          else
            some ((true, ()), ())
noncomputable def ct_L_eqOrder : Ct := ⟨[(.bor, Y_impl_Order), (.bor, Y_impl_Order)], [(.bool, .b)], fun x => f_L_eqOrder x.1 x.2.1⟩
noncomputable def cx_L_eqOrder : Cx := ⟨tab, arrs, [(16, ct_L_eqStringS)], [], gl, []⟩
theorem ef_L_eqOrder (t0 : PV Y_impl_Order) (t1 : PV Y_impl_Order) : denF cx_L_eqOrder 0 pl_L_eqOrder Tryd.f26.ntmps (bodyOf Tryd.f26) Tryd.f26.results.toList [(.bor, Y_impl_Order), (.bor, Y_impl_Order)] [(.bool, .b)] (t0, t1, ()) = f_L_eqOrder t0 t1 := by kernel_rfl
theorem ok_L_eqOrder : FnOk gl Tryd.prog 26 ct_L_eqOrder :=
  fnOk (cx := cx_L_eqOrder) (pl := pl_L_eqOrder) (dp := 0) (ok0_of tabOk (by unfold ArrOk; kernel_rfl) mix ⟨ok_L_eqStringS, trivial⟩ trivial) Tryd.func26 (by kernel_rfl) (by kernel_rfl) (by kernel_rfl)
    (by rw [show loopsOf (bodyOf Tryd.f26) = [] from by kernel_rfl]; exact trivial) (fun x => ef_L_eqOrder x.1 x.2.1)
noncomputable def sh_L_eqOrderS_4 : List Sh := mkSh 27 [(0, .val S_impl_Order .b), (1, .val S_impl_Order .b), (5, .val (.int .i64) .b)]
noncomputable def o_L_eqOrderS_4 : List Out := [⟨.exit 0, ⟨[], [], []⟩, mkSh 27 []⟩, ⟨.ret, ⟨[], [4], []⟩, mkSh 27 [(4, .val .bool .b)]⟩]
noncomputable def b_L_eqOrderS_4 (t0 : PV S_impl_Order) (t1 : PV S_impl_Order) (t5 : PV (.int .i64)) : Option ((PV S_impl_Order × PV S_impl_Order × PV (.int .i64) × Unit) ⊕ ((Unit) ⊕ (PV .bool × Unit))) :=
  bif (decide (t5 < (t0.length : Int))) then
    bif inB t5 t0.length then
      bif inB t5 t1.length then
        (f_L_eqOrder (t0.getD t5.toNat (dflt Y_impl_Order)) (t1.getD t5.toNat (dflt Y_impl_Order))).bind fun r4 =>
          bif (!r4.1.1) then
            some (.inr (.inr (false, ())))
          else
            some (.inl (t0, t1, (IntKind.wrap .i64 (t5 + 1)), ()))
      else
        none
    else
      none
  else
    some (.inr (.inl ()))
noncomputable def w_L_eqOrderS_4 : PV S_impl_Order × PV S_impl_Order × PV (.int .i64) × Unit → Option ((Unit) ⊕ (PV .bool × Unit)) := fix fun d => b_L_eqOrderS_4 d.1 d.2.1 d.2.2.1
noncomputable def lp_L_eqOrderS_4 : Lp := ⟨⟨[], [0, 1, 5], []⟩, sh_L_eqOrderS_4, o_L_eqOrderS_4, fun d => b_L_eqOrderS_4 d.1 d.2.1 d.2.2.1⟩
noncomputable def pl_L_eqOrderS : Plan := ⟨[], [(4, lp_L_eqOrderS_4)], 0, 0⟩
noncomputable def f_L_eqOrderS (t0 : PV S_impl_Order) (t1 : PV S_impl_Order) : Option (PVs [.bool] × PVs []) :=
  bif (!((t0.length : Int) == (t1.length : Int))) then
    some ((false, ()), ())
  else
    (w_L_eqOrderS_4 (t0, t1, 0, ())).bind fun x9 =>
      match x9 with
      | .inl l7 =>
        some ((true, ()), ())
      | .inr l8 =>
        some ((l8.1, ()), ())
noncomputable def ct_L_eqOrderS : Ct := ⟨[(.bor, S_impl_Order), (.bor, S_impl_Order)], [(.bool, .b)], fun x => f_L_eqOrderS x.1 x.2.1⟩
noncomputable def cx_L_eqOrderS : Cx := ⟨tab, arrs, [(26, ct_L_eqOrder)], [], gl, []⟩
theorem eb_L_eqOrderS_4 (t0 : PV S_impl_Order) (t1 : PV S_impl_Order) (t5 : PV (.int .i64)) : denK cx_L_eqOrderS (rcN cx_L_eqOrderS 0) pl_L_eqOrderS 0 ((loopsOf (bodyOf Tryd.f9)).getD 0 .skip) (fillS sh_L_eqOrderS_4 (t0, t1, t5, ())) (roundK 0 lp_L_eqOrderS_4) = b_L_eqOrderS_4 t0 t1 t5 := by kernel_rfl
theorem ef_L_eqOrderS (t0 : PV S_impl_Order) (t1 : PV S_impl_Order) : denF cx_L_eqOrderS 0 pl_L_eqOrderS Tryd.f9.ntmps (bodyOf Tryd.f9) Tryd.f9.results.toList [(.bor, S_impl_Order), (.bor, S_impl_Order)] [(.bool, .b)] (t0, t1, ()) = f_L_eqOrderS t0 t1 := by kernel_rfl
theorem ok_L_eqOrderS : FnOk gl Tryd.prog 9 ct_L_eqOrderS :=
  fnOk (cx := cx_L_eqOrderS) (pl := pl_L_eqOrderS) (dp := 0) (ok0_of tabOk (by unfold ArrOk; kernel_rfl) mix ⟨ok_L_eqOrder, trivial⟩ trivial) Tryd.func9 (by kernel_rfl) (by kernel_rfl) (by kernel_rfl)
    (by rw [show loopsOf (bodyOf Tryd.f9) = [((loopsOf (bodyOf Tryd.f9)).getD 0 .skip)] from by kernel_rfl]; exact ⟨(by rw [show lookup pl_L_eqOrderS.loops (firstId ((loopsOf (bodyOf Tryd.f9)).getD 0 .skip)) = some lp_L_eqOrderS_4 from by kernel_rfl]; exact fun d z h => (eb_L_eqOrderS_4 d.1 d.2.1 d.2.2.1).trans h), trivial⟩) (fun x => ef_L_eqOrderS x.1 x.2.1)
noncomputable def o_L_FnExactOrdersText_9 : List Out := [⟨.normal, ⟨[], [0, 6, 34], []⟩, mkSh 40 [(0, .val S_laws_Order .b), (6, .val S_impl_Order (.row (.pr .b (.pr .b (.pr .b (.pr (.row .b) .b)))))), (34, .val .bool .b)]⟩]
noncomputable def pl_L_FnExactOrdersText : Plan := ⟨[(9, o_L_FnExactOrdersText_9)], [], 0, 0⟩
noncomputable def f_L_FnExactOrdersText (t0 : PV S_laws_Order) : Option (PVs [.bool] × PVs []) :=
  (f_L_szOrderS t0 1048576).bind fun r2 =>
    bif (decide (r2.1.1 < 0)) then
      some ((true, ()), ())
    else
      (f_L_toOrderS t0).bind fun r5 =>
        (f_S_OrdersText r5.1.1).bind fun r6 =>
          (f_L_toOrderS t0).bind fun r8 =>
            (f_I_OrdersText r8.1.1).bind fun r10 =>
              ((
                  bif (!(r10.1.1 == r6.1.1)) then
                    some (t0, r8.1.1, true, ())
                  else
                    some (t0, r8.1.1, (!(r10.1.2.1 == r6.1.2.1)), ()) : Option ((PV S_laws_Order × PV S_impl_Order × PV .bool × Unit)))).bind fun j12 =>
                bif j12.2.2.1 then
                  some ((false, ()), ())
                else
                  (f_L_toOrderS j12.1).bind fun r19 =>
                    (f_L_eqOrderS j12.2.1 r19.1.1).bind fun r20 =>
                      bif (!r20.1.1) then
                        some ((false, ()), ())
                      else
                        some ((true, ()), ())
noncomputable def ct_L_FnExactOrdersText : Ct := ⟨[(.bor, S_laws_Order)], [(.bool, .b)], fun x => f_L_FnExactOrdersText x.1⟩
noncomputable def cx_L_FnExactOrdersText : Cx := ⟨tab, arrs, [(5, ct_L_szOrderS), (6, ct_S_OrdersText), (7, ct_L_toOrderS), (8, ct_I_OrdersText), (9, ct_L_eqOrderS)], [], gl, []⟩
theorem ef_L_FnExactOrdersText (t0 : PV S_laws_Order) : denF cx_L_FnExactOrdersText 0 pl_L_FnExactOrdersText Tryd.f3.ntmps (bodyOf Tryd.f3) Tryd.f3.results.toList [(.bor, S_laws_Order)] [(.bool, .b)] (t0, ()) = f_L_FnExactOrdersText t0 := by kernel_rfl
theorem ok_L_FnExactOrdersText : FnOk gl Tryd.prog 3 ct_L_FnExactOrdersText :=
  fnOk (cx := cx_L_FnExactOrdersText) (pl := pl_L_FnExactOrdersText) (dp := 0) (ok0_of tabOk (by unfold ArrOk; kernel_rfl) mix ⟨ok_L_szOrderS, ok_S_OrdersText, ok_L_toOrderS, ok_I_OrdersText, ok_L_eqOrderS, trivial⟩ trivial) Tryd.func3 (by kernel_rfl) (by kernel_rfl) (by kernel_rfl)
    (by rw [show loopsOf (bodyOf Tryd.f3) = [] from by kernel_rfl]; exact trivial) (fun x => ef_L_FnExactOrdersText x.1)
end O
