/- The functions that L_FnExactReadOrders reach, as pure functions, and that the program computes them. -/
import Derived.Test.YtgcdpcjeamjgfaaGreatDoorL3
import Derived.Test.YtgcdpcjeamjgfaaGreatDoorChecked
import Derived.KernelRfl
open Go Go.Dn Go.Proofs
namespace R
set_option linter.unusedVariables false
@[reducible] def S_string : Ty := (.slice 9 .str)
@[reducible] def S_uint8 : Ty := (.slice 5 (.int .u8))
@[reducible] def Y_impl_Order : Ty := (.pair (.int .i64) (.pair (.int .i64) (.pair (.int .i64) (.pair S_string .unit))))
@[reducible] def Y__6_string : Ty := (.pair .str (.pair .str (.pair .str (.pair .str (.pair .str (.pair .str .unit))))))
@[reducible] def S_impl_Order : Ty := (.slice 38 Y_impl_Order)
noncomputable def tab : List (TypeId × Ty) := [(3, (.int .i64)), (4, .bool), (5, (.int .u8)), (9, .str), (22, S_impl_Order), (28, S_uint8), (35, S_string), (38, Y_impl_Order), (48, Y__6_string)]
noncomputable def arrs : List TypeId := [48]
theorem tabOk : TabOk Tryz.prog tab := by unfold TabOk; kernel_rfl
theorem mix : Tryz.prog.follows .mixedOrders = true := by kernel_rfl
def gs0 : List (List UInt8) := [[], [97], [105], [99], [100], [115, 47, 46, 47, 47]]
noncomputable def gl : Glob := (Glob.both (tabGlob Tryz.prog 2) (Glob.both (numGlob 1) (Glob.both (errGlob Tryz.prog "strconv.ErrSyntax" 3) (Glob.both (errGlob Tryz.prog "strconv.ErrRange" 4) (strGlob 0 gs0)))))
theorem gl_tab : ∀ w, gl.ok w → Lib.TabIs Tryz.prog w "internal/strconv.uint64pow10" .u64 Lib.pow10Tab := fun w h => tabGlob_tab w h.1
theorem gl_max : ∀ w, gl.ok w → ∃ m, w.cell? ⟨1, 0, none⟩ = some (.int .i64 m) := fun w h => h.2.1
theorem gl_syn : ∀ w, gl.ok w → ∃ tp p, w.var? Tryz.prog "strconv.ErrSyntax" = some #[.iface tp p] := fun w h => h.2.2.1.2
theorem gl_rng : ∀ w, gl.ok w → ∃ tp p, w.var? Tryz.prog "strconv.ErrRange" = some #[.iface tp p] := fun w h => h.2.2.2.1.2
open Go.Shelf
set_option maxRecDepth 20000
def lays_strings_Join_ren : Go.Shelf.Ren := ⟨fun | 0 => 0 | 1 => 1 | 2 => 2 | 100 => 105 | 102 => 68 | 109 => 46 | 119 => 95 | 129 => 135 | 137 => 94 | 138 => 101 | 143 => 102 | 144 => 104 | 145 => 73 | 152 => 69 | 153 => 45 | 156 => 31 | 165 => 56 | 166 => 57 | 169 => 58 | 171 => 55 | 172 => 99 | 195 => 116 | 197 => 117 | 205 => 143 | 207 => 111 | 209 => 93 | 217 => 112 | 218 => 118 | 219 => 113 | 220 => 98 | 221 => 75 | 224 => 96 | 225 => 97 | 226 => 70 | 227 => 71 | 228 => 72 | 240 => 83 | 241 => 84 | 243 => 82 | 244 => 114 | 245 => 115 | 246 => 106 | 247 => 128 | 260 => 133 | 266 => 126 | 267 => 127 | 268 => 100 | 276 => 107 | 277 => 108 | 279 => 129 | 280 => 130 | 281 => 131 | 282 => 132 | 283 => 119 | 284 => 120 | 285 => 121 | 286 => 122 | 287 => 141 | 314 => 140 | 316 => 142 | 317 => 134 | 318 => 136 | 319 => 137 | 320 => 138 | 321 => 146 | 322 => 147 | 337 => 144 | 338 => 145 | 347 => 148 | 348 => 149 | 349 => 150 | 350 => 151 | 351 => 152 | 352 => 153 | 353 => 154 | 354 => 155 | 355 => 156 | 356 => 157 | 357 => 158 | 358 => 159 | 359 => 160 | 360 => 161 | 361 => 162 | 362 => 164 | 363 => 167 | 364 => 165 | 365 => 166 | 366 => 168 | 367 => 180 | n => n, fun | 0 => 0 | 1 => 1 | 2 => 2 | 3 => 3 | 4 => 4 | 5 => 5 | 6 => 6 | 7 => 7 | 8 => 8 | 9 => 9 | 10 => 10 | 11 => 11 | 12 => 12 | 13 => 13 | 14 => 14 | 15 => 15 | 16 => 16 | 17 => 17 | 18 => 18 | 19 => 19 | 20 => 20 | 21 => 21 | 22 => 115 | 23 => 59 | 24 => 31 | 27 => 65 | 31 => 35 | 32 => 66 | 37 => 28 | 38 => 29 | 40 => 111 | 41 => 94 | 43 => 105 | 46 => 108 | 47 => 142 | 51 => 140 | 52 => 155 | 53 => 53 | 54 => 127 | 55 => 110 | 59 => 95 | 60 => 96 | 61 => 70 | 64 => 89 | 67 => 49 | 68 => 36 | 69 => 41 | 70 => 73 | 71 => 74 | 72 => 75 | 73 => 76 | 74 => 77 | 75 => 78 | 76 => 79 | 77 => 80 | 80 => 81 | 81 => 86 | 83 => 71 | 84 => 116 | 85 => 133 | 86 => 134 | 101 => 51 | 102 => 69 | 103 => 122 | 104 => 27 | 105 => 124 | 106 => 125 | 108 => 150 | 111 => 85 | 113 => 99 | 114 => 58 | 115 => 90 | 116 => 91 | 117 => 92 | 118 => 93 | 119 => 151 | 124 => 112 | 127 => 102 | 128 => 123 | 131 => 97 | 137 => 152 | 138 => 153 | 139 => 154 | 143 => 157 | 144 => 158 | 145 => 159 | 146 => 144 | 150 => 113 | 151 => 145 | 164 => 117 | 165 => 118 | 166 => 119 | 167 => 132 | 168 => 135 | 169 => 136 | 170 => 137 | 171 => 126 | 172 => 128 | 173 => 129 | 174 => 130 | 175 => 146 | 176 => 147 | 209 => 148 | 210 => 149 | 211 => 138 | 212 => 139 | 213 => 141 | 214 => 156 | 232 => 160 | 233 => 161 | 238 => 162 | 239 => 163 | 240 => 164 | 241 => 165 | 242 => 166 | 243 => 167 | 244 => 168 | 245 => 169 | 246 => 170 | 247 => 171 | 248 => 172 | 249 => 173 | n => n, fun | 1 => 1 | 3 => 5 | 4 => 6 | 15 => 3 | 16 => 4 | 17 => 2 | 18 => 7 | 19 => 8 | n => n⟩
theorem lays_strings_Join : Go.Proofs.Lays.n156 Tryz.prog lays_strings_Join_ren where
  mixed := by kernel_rfl
  f156 := Tryz.func31.trans (congrArg some (by kernel_rfl))
  f165 := Tryz.func56.trans (congrArg some (by kernel_rfl))
  f166 := Tryz.func57.trans (congrArg some (by kernel_rfl))
  f169 := Tryz.func58.trans (congrArg some (by kernel_rfl))
  f240 := Tryz.func83.trans (congrArg some (by kernel_rfl))
  f241 := Tryz.func84.trans (congrArg some (by kernel_rfl))
  f276 := Tryz.func107.trans (congrArg some (by kernel_rfl))
  f277 := Tryz.func108.trans (congrArg some (by kernel_rfl))
  t0 := Tryz.underlying0
  a0 := Tryz.isAgg0
  z0 := Tryz.sizeOf0
  v0 := Tryz.zeroValue0
  t3 := Tryz.underlying3
  a3 := Tryz.isAgg3
  z3 := Tryz.sizeOf3
  v3 := Tryz.zeroValue3
  t4 := Tryz.underlying4
  a4 := Tryz.isAgg4
  z4 := Tryz.sizeOf4
  v4 := Tryz.zeroValue4
  t9 := Tryz.underlying9
  a9 := Tryz.isAgg9
  z9 := Tryz.sizeOf9
  v9 := Tryz.zeroValue9
  t20 := Tryz.underlying20
  a20 := Tryz.isAgg20
  z20 := Tryz.sizeOf20
  v20 := Tryz.zeroValue20
  t31 := Tryz.underlying35
  a31 := Tryz.isAgg35
  z31 := Tryz.sizeOf35
  v31 := Tryz.zeroValue35
  t37 := Tryz.underlying28
  a37 := Tryz.isAgg28
  z37 := Tryz.sizeOf28
  v37 := Tryz.zeroValue28
  t70 := Tryz.underlying73
  a70 := Tryz.isAgg73
  z70 := Tryz.sizeOf73
  v70 := Tryz.zeroValue73
  t72 := Tryz.underlying75
  a72 := Tryz.isAgg75
  z72 := Tryz.sizeOf75
  v72 := Tryz.zeroValue75
  t75 := Tryz.underlying78
  a75 := Tryz.isAgg78
  z75 := Tryz.sizeOf78
  v75 := Tryz.zeroValue78
  t76 := Tryz.underlying79
  a76 := Tryz.isAgg79
  z76 := Tryz.sizeOf79
  v76 := Tryz.zeroValue79
  t127 := Tryz.underlying102
  a127 := Tryz.isAgg102
  z127 := Tryz.sizeOf102
  v127 := Tryz.zeroValue102
  t164 := Tryz.underlying117
  a164 := Tryz.isAgg117
  z164 := Tryz.sizeOf117
  v164 := Tryz.zeroValue117
def extra_strings_Join_ren : Go.Shelf.Ren := ⟨fun | 0 => 0 | 1 => 1 | 2 => 2 | 100 => 105 | 102 => 68 | 109 => 46 | 119 => 95 | 129 => 135 | 137 => 94 | 138 => 101 | 143 => 102 | 144 => 104 | 145 => 73 | 152 => 69 | 153 => 45 | 156 => 31 | 165 => 56 | 166 => 57 | 169 => 58 | 171 => 55 | 172 => 99 | 195 => 116 | 197 => 117 | 205 => 143 | 207 => 111 | 209 => 93 | 217 => 112 | 218 => 118 | 219 => 113 | 220 => 98 | 221 => 75 | 224 => 96 | 225 => 97 | 226 => 70 | 227 => 71 | 228 => 72 | 240 => 83 | 241 => 84 | 243 => 82 | 244 => 114 | 245 => 115 | 246 => 106 | 247 => 128 | 260 => 133 | 266 => 126 | 267 => 127 | 268 => 100 | 276 => 107 | 277 => 108 | 279 => 129 | 280 => 130 | 281 => 131 | 282 => 132 | 283 => 119 | 284 => 120 | 285 => 121 | 286 => 122 | 287 => 141 | 314 => 140 | 316 => 142 | 317 => 134 | 318 => 136 | 319 => 137 | 320 => 138 | 321 => 146 | 322 => 147 | 337 => 144 | 338 => 145 | 347 => 148 | 348 => 149 | 349 => 150 | 350 => 151 | 351 => 152 | 352 => 153 | 353 => 154 | 354 => 155 | 355 => 156 | 356 => 157 | 357 => 158 | 358 => 159 | 359 => 160 | 360 => 161 | 361 => 162 | 362 => 164 | 363 => 167 | 364 => 165 | 365 => 166 | 366 => 168 | 367 => 180 | n => n, fun | 0 => 0 | 1 => 1 | 2 => 2 | 3 => 3 | 4 => 4 | 5 => 5 | 6 => 6 | 7 => 7 | 8 => 8 | 9 => 9 | 10 => 10 | 11 => 11 | 12 => 12 | 13 => 13 | 14 => 14 | 15 => 15 | 16 => 16 | 17 => 17 | 18 => 18 | 19 => 19 | 20 => 20 | 21 => 21 | 22 => 115 | 23 => 59 | 24 => 31 | 27 => 65 | 31 => 35 | 32 => 66 | 37 => 28 | 38 => 29 | 40 => 111 | 41 => 94 | 43 => 105 | 46 => 108 | 47 => 142 | 51 => 140 | 52 => 155 | 53 => 53 | 54 => 127 | 55 => 110 | 59 => 95 | 60 => 96 | 61 => 70 | 64 => 89 | 67 => 49 | 68 => 36 | 69 => 41 | 70 => 73 | 71 => 74 | 72 => 75 | 73 => 76 | 74 => 77 | 75 => 78 | 76 => 79 | 77 => 80 | 80 => 81 | 81 => 86 | 83 => 71 | 84 => 116 | 85 => 133 | 86 => 134 | 101 => 51 | 102 => 69 | 103 => 122 | 104 => 27 | 105 => 124 | 106 => 125 | 108 => 150 | 111 => 85 | 113 => 99 | 114 => 58 | 115 => 90 | 116 => 91 | 117 => 92 | 118 => 93 | 119 => 151 | 124 => 112 | 127 => 102 | 128 => 123 | 131 => 97 | 137 => 152 | 138 => 153 | 139 => 154 | 143 => 157 | 144 => 158 | 145 => 159 | 146 => 144 | 150 => 113 | 151 => 145 | 164 => 117 | 165 => 118 | 166 => 119 | 167 => 132 | 168 => 135 | 169 => 136 | 170 => 137 | 171 => 126 | 172 => 128 | 173 => 129 | 174 => 130 | 175 => 146 | 176 => 147 | 209 => 148 | 210 => 149 | 211 => 138 | 212 => 139 | 213 => 141 | 214 => 156 | 232 => 160 | 233 => 161 | 238 => 162 | 239 => 163 | 240 => 164 | 241 => 165 | 242 => 166 | 243 => 167 | 244 => 168 | 245 => 169 | 246 => 170 | 247 => 171 | 248 => 172 | 249 => 173 | n => n, fun | 1 => 1 | 3 => 5 | 4 => 6 | 15 => 3 | 16 => 4 | 17 => 2 | 18 => 7 | 19 => 8 | n => n⟩
theorem extra_strings_Join : Go.Proofs.Builder.Extra Tryz.prog extra_strings_Join_ren where
  sizeBuilder := by kernel_rfl
  liesBuilder := by kernel_rfl
  t5 := Tryz.underlying5
  a5 := Tryz.isAgg5
  z5 := Tryz.sizeOf5
  v5 := Tryz.zeroValue5
  infoByte := by kernel_rfl
  cellsByte := by kernel_rfl
  sizeByte := by kernel_rfl
  neB5 := by decide +kernel

noncomputable def f_strings_Join (t0 : PV S_string) (t1 : PV .str) : Option (PVs [.str] × PVs []) := Go.Dn.joinF t0 t1
noncomputable def ct_strings_Join : Ct := ⟨[(.bor, S_string), (.bor, .str)], [(.str, .b)], fun x => f_strings_Join x.1 x.2.1⟩
theorem ok_strings_Join : FnOk gl Tryz.prog 31 ct_strings_Join := Go.Dn.join_ok lays_strings_Join extra_strings_Join
def lays_strings_IndexAny_ren : Go.Shelf.Ren := ⟨fun | 0 => 0 | 1 => 1 | 2 => 2 | 100 => 105 | 102 => 68 | 109 => 46 | 119 => 95 | 129 => 135 | 137 => 94 | 138 => 101 | 143 => 102 | 144 => 104 | 145 => 73 | 152 => 69 | 153 => 45 | 156 => 31 | 165 => 56 | 166 => 57 | 169 => 58 | 171 => 55 | 172 => 99 | 195 => 116 | 197 => 117 | 205 => 143 | 207 => 111 | 209 => 93 | 217 => 112 | 218 => 118 | 219 => 113 | 220 => 98 | 221 => 75 | 224 => 96 | 225 => 97 | 226 => 70 | 227 => 71 | 228 => 72 | 240 => 83 | 241 => 84 | 243 => 82 | 244 => 114 | 245 => 115 | 246 => 106 | 247 => 128 | 260 => 133 | 266 => 126 | 267 => 127 | 268 => 100 | 276 => 107 | 277 => 108 | 279 => 129 | 280 => 130 | 281 => 131 | 282 => 132 | 283 => 119 | 284 => 120 | 285 => 121 | 286 => 122 | 287 => 141 | 314 => 140 | 316 => 142 | 317 => 134 | 318 => 136 | 319 => 137 | 320 => 138 | 321 => 146 | 322 => 147 | 337 => 144 | 338 => 145 | 347 => 148 | 348 => 149 | 349 => 150 | 350 => 151 | 351 => 152 | 352 => 153 | 353 => 154 | 354 => 155 | 355 => 156 | 356 => 157 | 357 => 158 | 358 => 159 | 359 => 160 | 360 => 161 | 361 => 162 | 362 => 164 | 363 => 167 | 364 => 165 | 365 => 166 | 366 => 168 | 367 => 180 | n => n, fun | 0 => 0 | 1 => 1 | 2 => 2 | 3 => 3 | 4 => 4 | 5 => 5 | 6 => 6 | 7 => 7 | 8 => 8 | 9 => 9 | 10 => 10 | 11 => 11 | 12 => 12 | 13 => 13 | 14 => 14 | 15 => 15 | 16 => 16 | 17 => 17 | 18 => 18 | 19 => 19 | 20 => 20 | 21 => 21 | 22 => 115 | 23 => 59 | 24 => 31 | 27 => 65 | 31 => 35 | 32 => 66 | 37 => 28 | 38 => 29 | 40 => 111 | 41 => 94 | 43 => 105 | 46 => 108 | 47 => 142 | 51 => 140 | 52 => 155 | 53 => 53 | 54 => 127 | 55 => 110 | 59 => 95 | 60 => 96 | 61 => 70 | 64 => 89 | 67 => 49 | 68 => 36 | 69 => 41 | 70 => 73 | 71 => 74 | 72 => 75 | 73 => 76 | 74 => 77 | 75 => 78 | 76 => 79 | 77 => 80 | 80 => 81 | 81 => 86 | 83 => 71 | 84 => 116 | 85 => 133 | 86 => 134 | 101 => 51 | 102 => 69 | 103 => 122 | 104 => 27 | 105 => 124 | 106 => 125 | 108 => 150 | 111 => 85 | 113 => 99 | 114 => 58 | 115 => 90 | 116 => 91 | 117 => 92 | 118 => 93 | 119 => 151 | 124 => 112 | 127 => 102 | 128 => 123 | 131 => 97 | 137 => 152 | 138 => 153 | 139 => 154 | 143 => 157 | 144 => 158 | 145 => 159 | 146 => 144 | 150 => 113 | 151 => 145 | 164 => 117 | 165 => 118 | 166 => 119 | 167 => 132 | 168 => 135 | 169 => 136 | 170 => 137 | 171 => 126 | 172 => 128 | 173 => 129 | 174 => 130 | 175 => 146 | 176 => 147 | 209 => 148 | 210 => 149 | 211 => 138 | 212 => 139 | 213 => 141 | 214 => 156 | 232 => 160 | 233 => 161 | 238 => 162 | 239 => 163 | 240 => 164 | 241 => 165 | 242 => 166 | 243 => 167 | 244 => 168 | 245 => 169 | 246 => 170 | 247 => 171 | 248 => 172 | 249 => 173 | n => n, fun | 1 => 1 | 3 => 5 | 4 => 6 | 15 => 3 | 16 => 4 | 17 => 2 | 18 => 7 | 19 => 8 | n => n⟩
theorem lays_strings_IndexAny : Go.Proofs.Lays.n153 Tryz.prog lays_strings_IndexAny_ren where
  mixed := by kernel_rfl
  f119 := Tryz.func95.trans (congrArg some (by kernel_rfl))
  f137 := Tryz.func94.trans (congrArg some (by kernel_rfl))
  f152 := Tryz.func69.trans (congrArg some (by kernel_rfl))
  f153 := Tryz.func45.trans (congrArg some (by kernel_rfl))
  f217 := Tryz.func112.trans (congrArg some (by kernel_rfl))
  f224 := Tryz.func96.trans (congrArg some (by kernel_rfl))
  f225 := Tryz.func97.trans (congrArg some (by kernel_rfl))
  f226 := Tryz.func70.trans (congrArg some (by kernel_rfl))
  f227 := Tryz.func71.trans (congrArg some (by kernel_rfl))
  f228 := Tryz.func72.trans (congrArg some (by kernel_rfl))
  f266 := Tryz.func126.trans (congrArg some (by kernel_rfl))
  t0 := Tryz.underlying0
  a0 := Tryz.isAgg0
  z0 := Tryz.sizeOf0
  v0 := Tryz.zeroValue0
  t3 := Tryz.underlying3
  a3 := Tryz.isAgg3
  z3 := Tryz.sizeOf3
  v3 := Tryz.zeroValue3
  t4 := Tryz.underlying4
  a4 := Tryz.isAgg4
  z4 := Tryz.sizeOf4
  v4 := Tryz.zeroValue4
  t5 := Tryz.underlying5
  a5 := Tryz.isAgg5
  z5 := Tryz.sizeOf5
  v5 := Tryz.zeroValue5
  t9 := Tryz.underlying9
  a9 := Tryz.isAgg9
  z9 := Tryz.sizeOf9
  v9 := Tryz.zeroValue9
  t21 := Tryz.underlying21
  a21 := Tryz.isAgg21
  z21 := Tryz.sizeOf21
  v21 := Tryz.zeroValue21
  t46 := Tryz.underlying108
  a46 := Tryz.isAgg108
  z46 := Tryz.sizeOf108
  v46 := Tryz.zeroValue108
  t116 := Tryz.underlying91
  a116 := Tryz.isAgg91
  z116 := Tryz.sizeOf91
  t117 := Tryz.underlying92
  a117 := Tryz.isAgg92
  z117 := Tryz.sizeOf92
  v117 := Tryz.zeroValue92
  t124 := Tryz.underlying112
  a124 := Tryz.isAgg112
  z124 := Tryz.sizeOf112
  v124 := Tryz.zeroValue112
noncomputable def f_strings_IndexAny (t0 : PV .str) (t1 : PV .str) : Option (PVs [(.int .i64)] × PVs []) := Go.Dn.indexAnyF t0 t1
noncomputable def ct_strings_IndexAny : Ct := ⟨[(.bor, .str), (.bor, .str)], [((.int .i64), .b)], fun x => f_strings_IndexAny x.1 x.2.1⟩
theorem ok_strings_IndexAny : FnOk gl Tryz.prog 45 ct_strings_IndexAny := Go.Dn.indexAny_ok (by kernel_rfl) lays_strings_IndexAny
noncomputable def f_slices_Clone_string (t0 : PV S_string) : Option (PVs [S_string] × PVs []) := bif roomB ((([] : PV S_string)).length + t0.length) then some ((([] : PV S_string) ++ t0, ()), ()) else none
noncomputable def ct_slices_Clone_string : Ct := ⟨[(.bor, S_string)], [(S_string, (.row .b))], fun x => f_slices_Clone_string x.1⟩
noncomputable def pl_slices_Clone_string : Plan := ⟨[], [], 0, 0⟩
noncomputable def cx_slices_Clone_string : Cx := ⟨tab, arrs, [], [], gl, []⟩
theorem ok_slices_Clone_string : FnOk gl Tryz.prog 48 ct_slices_Clone_string :=
  fnOk_nil' (cx := cx_slices_Clone_string) (pl := pl_slices_Clone_string) (dp := 0) (t3 := 3) (te := 9) (T := .str) (ok0_of tabOk (by unfold ArrOk; kernel_rfl) mix trivial trivial) Tryz.func48 (fn := Tryz.f48) (rvs := Tryz.f48.results.toList) rfl (by kernel_rfl) (by kernel_rfl) (by kernel_rfl) rfl rfl rfl rfl Tryz.underlying35 ⟨⟨⟨trivial, trivial⟩, trivial⟩, ⟨trivial, trivial⟩⟩ (fun x => by kernel_rfl) (fun x => by kernel_rfl) (fun x => by kernel_rfl) (fun x => by kernel_rfl) (by kernel_rfl)
def lays_strconv_Itoa_ren : Go.Shelf.Ren := ⟨fun | 0 => 0 | 1 => 1 | 2 => 2 | 100 => 105 | 102 => 68 | 109 => 46 | 119 => 95 | 129 => 135 | 137 => 94 | 138 => 101 | 143 => 102 | 144 => 104 | 145 => 73 | 152 => 69 | 153 => 45 | 156 => 31 | 165 => 56 | 166 => 57 | 169 => 58 | 171 => 55 | 172 => 99 | 195 => 116 | 197 => 117 | 205 => 143 | 207 => 111 | 209 => 93 | 217 => 112 | 218 => 118 | 219 => 113 | 220 => 98 | 221 => 75 | 224 => 96 | 225 => 97 | 226 => 70 | 227 => 71 | 228 => 72 | 240 => 83 | 241 => 84 | 243 => 82 | 244 => 114 | 245 => 115 | 246 => 106 | 247 => 128 | 260 => 133 | 266 => 126 | 267 => 127 | 268 => 100 | 276 => 107 | 277 => 108 | 279 => 129 | 280 => 130 | 281 => 131 | 282 => 132 | 283 => 119 | 284 => 120 | 285 => 121 | 286 => 122 | 287 => 141 | 314 => 140 | 316 => 142 | 317 => 134 | 318 => 136 | 319 => 137 | 320 => 138 | 321 => 146 | 322 => 147 | 337 => 144 | 338 => 145 | 347 => 148 | 348 => 149 | 349 => 150 | 350 => 151 | 351 => 152 | 352 => 153 | 353 => 154 | 354 => 155 | 355 => 156 | 356 => 157 | 357 => 158 | 358 => 159 | 359 => 160 | 360 => 161 | 361 => 162 | 362 => 164 | 363 => 167 | 364 => 165 | 365 => 166 | 366 => 168 | 367 => 180 | n => n, fun | 0 => 0 | 1 => 1 | 2 => 2 | 3 => 3 | 4 => 4 | 5 => 5 | 6 => 6 | 7 => 7 | 8 => 8 | 9 => 9 | 10 => 10 | 11 => 11 | 12 => 12 | 13 => 13 | 14 => 14 | 15 => 15 | 16 => 16 | 17 => 17 | 18 => 18 | 19 => 19 | 20 => 20 | 21 => 21 | 22 => 115 | 23 => 59 | 24 => 31 | 27 => 65 | 31 => 35 | 32 => 66 | 37 => 28 | 38 => 29 | 40 => 111 | 41 => 94 | 43 => 105 | 46 => 108 | 47 => 142 | 51 => 140 | 52 => 155 | 53 => 53 | 54 => 127 | 55 => 110 | 59 => 95 | 60 => 96 | 61 => 70 | 64 => 89 | 67 => 49 | 68 => 36 | 69 => 41 | 70 => 73 | 71 => 74 | 72 => 75 | 73 => 76 | 74 => 77 | 75 => 78 | 76 => 79 | 77 => 80 | 80 => 81 | 81 => 86 | 83 => 71 | 84 => 116 | 85 => 133 | 86 => 134 | 101 => 51 | 102 => 69 | 103 => 122 | 104 => 27 | 105 => 124 | 106 => 125 | 108 => 150 | 111 => 85 | 113 => 99 | 114 => 58 | 115 => 90 | 116 => 91 | 117 => 92 | 118 => 93 | 119 => 151 | 124 => 112 | 127 => 102 | 128 => 123 | 131 => 97 | 137 => 152 | 138 => 153 | 139 => 154 | 143 => 157 | 144 => 158 | 145 => 159 | 146 => 144 | 150 => 113 | 151 => 145 | 164 => 117 | 165 => 118 | 166 => 119 | 167 => 132 | 168 => 135 | 169 => 136 | 170 => 137 | 171 => 126 | 172 => 128 | 173 => 129 | 174 => 130 | 175 => 146 | 176 => 147 | 209 => 148 | 210 => 149 | 211 => 138 | 212 => 139 | 213 => 141 | 214 => 156 | 232 => 160 | 233 => 161 | 238 => 162 | 239 => 163 | 240 => 164 | 241 => 165 | 242 => 166 | 243 => 167 | 244 => 168 | 245 => 169 | 246 => 170 | 247 => 171 | 248 => 172 | 249 => 173 | n => n, fun | 1 => 1 | 3 => 5 | 4 => 6 | 15 => 3 | 16 => 4 | 17 => 2 | 18 => 7 | 19 => 8 | n => n⟩
theorem lays_strconv_Itoa : Go.Proofs.LaysM.n171 Tryz.prog lays_strconv_Itoa_ren where
  mixed := by kernel_rfl
  f129 := Tryz.func135.trans (congrArg some (by kernel_rfl))
  f171 := Tryz.func55.trans (congrArg some (by kernel_rfl))
  f243 := Tryz.func82.trans (congrArg some (by kernel_rfl))
  f246 := Tryz.func106.trans (congrArg some (by kernel_rfl))
  f283 := Tryz.func119.trans (congrArg some (by kernel_rfl))
  f284 := Tryz.func120.trans (congrArg some (by kernel_rfl))
  f285 := Tryz.func121.trans (congrArg some (by kernel_rfl))
  f286 := Tryz.func122.trans (congrArg some (by kernel_rfl))
  f317 := Tryz.func134.trans (congrArg some (by kernel_rfl))
  f318 := Tryz.func136.trans (congrArg some (by kernel_rfl))
  f319 := Tryz.func137.trans (congrArg some (by kernel_rfl))
  f320 := Tryz.func138.trans (congrArg some (by kernel_rfl))
  f337 := Tryz.func144.trans (congrArg some (by kernel_rfl))
  f338 := Tryz.func145.trans (congrArg some (by kernel_rfl))
  t0 := Tryz.underlying0
  a0 := Tryz.isAgg0
  z0 := Tryz.sizeOf0
  v0 := Tryz.zeroValue0
  t2 := Tryz.underlying2
  a2 := Tryz.isAgg2
  z2 := Tryz.sizeOf2
  v2 := Tryz.zeroValue2
  t3 := Tryz.underlying3
  a3 := Tryz.isAgg3
  z3 := Tryz.sizeOf3
  v3 := Tryz.zeroValue3
  t4 := Tryz.underlying4
  a4 := Tryz.isAgg4
  z4 := Tryz.sizeOf4
  v4 := Tryz.zeroValue4
  t5 := Tryz.underlying5
  a5 := Tryz.isAgg5
  z5 := Tryz.sizeOf5
  v5 := Tryz.zeroValue5
  t9 := Tryz.underlying9
  a9 := Tryz.isAgg9
  z9 := Tryz.sizeOf9
  v9 := Tryz.zeroValue9
  t20 := Tryz.underlying20
  a20 := Tryz.isAgg20
  z20 := Tryz.sizeOf20
  v20 := Tryz.zeroValue20
  t37 := Tryz.underlying28
  a37 := Tryz.isAgg28
  z37 := Tryz.sizeOf28
  v37 := Tryz.zeroValue28
  t46 := Tryz.underlying108
  a46 := Tryz.isAgg108
  z46 := Tryz.sizeOf108
  v46 := Tryz.zeroValue108
  t51 := Tryz.underlying140
  a51 := Tryz.isAgg140
  z51 := Tryz.sizeOf140
  v51 := Tryz.zeroValue140
  t53 := Tryz.underlying53
  a53 := Tryz.isAgg53
  z53 := Tryz.sizeOf53
  v53 := Tryz.zeroValue53
  t171 := Tryz.underlying126
  a171 := Tryz.isAgg126
  z171 := Tryz.sizeOf126
  v171 := Tryz.zeroValue126
  t173 := Tryz.underlying129
  a173 := Tryz.isAgg129
  z173 := Tryz.sizeOf129
  v173 := Tryz.zeroValue129
  t212 := Tryz.underlying139
  a212 := Tryz.isAgg139
  z212 := Tryz.sizeOf139
  v212 := Tryz.zeroValue139
  t213 := Tryz.underlying141
  a213 := Tryz.isAgg141
  z213 := Tryz.sizeOf141
  t232 := Tryz.underlying160
  a232 := Tryz.isAgg160
  z232 := Tryz.sizeOf160
  v232 := Tryz.zeroValue160
  t233 := Tryz.underlying161
  a233 := Tryz.isAgg161
  z233 := Tryz.sizeOf161
  v233 := Tryz.zeroValue161
  g17 := by kernel_rfl
  g18 := by kernel_rfl
  g19 := by kernel_rfl
  i0 := by kernel_rfl
  i2 := by kernel_rfl
  i3 := by kernel_rfl
  i4 := by kernel_rfl
  i5 := by kernel_rfl
  i9 := by kernel_rfl
  i20 := by kernel_rfl
  i37 := by kernel_rfl
  i46 := by kernel_rfl
  i51 := by kernel_rfl
  i53 := by kernel_rfl
  i171 := by kernel_rfl
  i173 := by kernel_rfl
  i212 := by kernel_rfl
  i232 := by kernel_rfl
  i233 := by kernel_rfl
  m17 := by kernel_rfl
  m18 := by kernel_rfl
  m19 := by kernel_rfl
noncomputable def f_strconv_Itoa (t0 : PV (.int .i64)) : Option (PVs [.str] × PVs []) := Go.Dn.itoaF t0
noncomputable def ct_strconv_Itoa : Ct := ⟨[(.bor, (.int .i64))], [(.str, .b)], fun x => f_strconv_Itoa x.1⟩
theorem ok_strconv_Itoa : FnOk gl Tryz.prog 55 ct_strconv_Itoa := Go.Dn.itoa_ok gl_tab lays_strconv_Itoa
def lays_strconv_Atoi_ren : Go.Shelf.Ren := ⟨fun | 0 => 0 | 1 => 1 | 2 => 2 | 100 => 105 | 102 => 68 | 109 => 46 | 119 => 95 | 129 => 135 | 137 => 94 | 138 => 101 | 143 => 102 | 144 => 104 | 145 => 73 | 152 => 69 | 153 => 45 | 156 => 31 | 165 => 56 | 166 => 57 | 169 => 58 | 171 => 55 | 172 => 99 | 195 => 116 | 197 => 117 | 205 => 143 | 207 => 111 | 209 => 93 | 217 => 112 | 218 => 118 | 219 => 113 | 220 => 98 | 221 => 75 | 224 => 96 | 225 => 97 | 226 => 70 | 227 => 71 | 228 => 72 | 240 => 83 | 241 => 84 | 243 => 82 | 244 => 114 | 245 => 115 | 246 => 106 | 247 => 128 | 260 => 133 | 266 => 126 | 267 => 127 | 268 => 100 | 276 => 107 | 277 => 108 | 279 => 129 | 280 => 130 | 281 => 131 | 282 => 132 | 283 => 119 | 284 => 120 | 285 => 121 | 286 => 122 | 287 => 141 | 314 => 140 | 316 => 142 | 317 => 134 | 318 => 136 | 319 => 137 | 320 => 138 | 321 => 146 | 322 => 147 | 337 => 144 | 338 => 145 | 347 => 148 | 348 => 149 | 349 => 150 | 350 => 151 | 351 => 152 | 352 => 153 | 353 => 154 | 354 => 155 | 355 => 156 | 356 => 157 | 357 => 158 | 358 => 159 | 359 => 160 | 360 => 161 | 361 => 162 | 362 => 164 | 363 => 167 | 364 => 165 | 365 => 166 | 366 => 168 | 367 => 180 | n => n, fun | 0 => 0 | 1 => 1 | 2 => 2 | 3 => 3 | 4 => 4 | 5 => 5 | 6 => 6 | 7 => 7 | 8 => 8 | 9 => 9 | 10 => 10 | 11 => 11 | 12 => 12 | 13 => 13 | 14 => 14 | 15 => 15 | 16 => 16 | 17 => 17 | 18 => 18 | 19 => 19 | 20 => 20 | 21 => 21 | 22 => 115 | 23 => 59 | 24 => 31 | 27 => 65 | 31 => 35 | 32 => 66 | 37 => 28 | 38 => 29 | 40 => 111 | 41 => 94 | 43 => 105 | 46 => 108 | 47 => 142 | 51 => 140 | 52 => 155 | 53 => 53 | 54 => 127 | 55 => 110 | 59 => 95 | 60 => 96 | 61 => 70 | 64 => 89 | 67 => 49 | 68 => 36 | 69 => 41 | 70 => 73 | 71 => 74 | 72 => 75 | 73 => 76 | 74 => 77 | 75 => 78 | 76 => 79 | 77 => 80 | 80 => 81 | 81 => 86 | 83 => 71 | 84 => 116 | 85 => 133 | 86 => 134 | 101 => 51 | 102 => 69 | 103 => 122 | 104 => 27 | 105 => 124 | 106 => 125 | 108 => 150 | 111 => 85 | 113 => 99 | 114 => 58 | 115 => 90 | 116 => 91 | 117 => 92 | 118 => 93 | 119 => 151 | 124 => 112 | 127 => 102 | 128 => 123 | 131 => 97 | 137 => 152 | 138 => 153 | 139 => 154 | 143 => 157 | 144 => 158 | 145 => 159 | 146 => 144 | 150 => 113 | 151 => 145 | 164 => 117 | 165 => 118 | 166 => 119 | 167 => 132 | 168 => 135 | 169 => 136 | 170 => 137 | 171 => 126 | 172 => 128 | 173 => 129 | 174 => 130 | 175 => 146 | 176 => 147 | 209 => 148 | 210 => 149 | 211 => 138 | 212 => 139 | 213 => 141 | 214 => 156 | 232 => 160 | 233 => 161 | 238 => 162 | 239 => 163 | 240 => 164 | 241 => 165 | 242 => 166 | 243 => 167 | 244 => 168 | 245 => 169 | 246 => 170 | 247 => 171 | 248 => 172 | 249 => 173 | n => n, fun | 1 => 1 | 3 => 5 | 4 => 6 | 15 => 3 | 16 => 4 | 17 => 2 | 18 => 7 | 19 => 8 | n => n⟩
theorem lays_strconv_Atoi : Go.Proofs.LaysC.n172 Tryz.prog lays_strconv_Atoi_ren where
  mixed := by kernel_rfl
  f129 := Tryz.func135.trans (congrArg some (by kernel_rfl))
  f171 := Tryz.func55.trans (congrArg some (by kernel_rfl))
  f172 := Tryz.func99.trans (congrArg some (by kernel_rfl))
  f205 := Tryz.func143.trans (congrArg some (by kernel_rfl))
  f243 := Tryz.func82.trans (congrArg some (by kernel_rfl))
  f244 := Tryz.func114.trans (congrArg some (by kernel_rfl))
  f245 := Tryz.func115.trans (congrArg some (by kernel_rfl))
  f246 := Tryz.func106.trans (congrArg some (by kernel_rfl))
  f247 := Tryz.func128.trans (congrArg some (by kernel_rfl))
  f279 := Tryz.func129.trans (congrArg some (by kernel_rfl))
  f280 := Tryz.func130.trans (congrArg some (by kernel_rfl))
  f281 := Tryz.func131.trans (congrArg some (by kernel_rfl))
  f282 := Tryz.func132.trans (congrArg some (by kernel_rfl))
  f283 := Tryz.func119.trans (congrArg some (by kernel_rfl))
  f284 := Tryz.func120.trans (congrArg some (by kernel_rfl))
  f285 := Tryz.func121.trans (congrArg some (by kernel_rfl))
  f286 := Tryz.func122.trans (congrArg some (by kernel_rfl))
  f287 := Tryz.func141.trans (congrArg some (by kernel_rfl))
  f316 := Tryz.func142.trans (congrArg some (by kernel_rfl))
  f317 := Tryz.func134.trans (congrArg some (by kernel_rfl))
  f318 := Tryz.func136.trans (congrArg some (by kernel_rfl))
  f319 := Tryz.func137.trans (congrArg some (by kernel_rfl))
  f320 := Tryz.func138.trans (congrArg some (by kernel_rfl))
  f321 := Tryz.func146.trans (congrArg some (by kernel_rfl))
  f322 := Tryz.func147.trans (congrArg some (by kernel_rfl))
  f337 := Tryz.func144.trans (congrArg some (by kernel_rfl))
  f338 := Tryz.func145.trans (congrArg some (by kernel_rfl))
  t0 := Tryz.underlying0
  a0 := Tryz.isAgg0
  z0 := Tryz.sizeOf0
  v0 := Tryz.zeroValue0
  t2 := Tryz.underlying2
  a2 := Tryz.isAgg2
  z2 := Tryz.sizeOf2
  v2 := Tryz.zeroValue2
  t3 := Tryz.underlying3
  a3 := Tryz.isAgg3
  z3 := Tryz.sizeOf3
  v3 := Tryz.zeroValue3
  t4 := Tryz.underlying4
  a4 := Tryz.isAgg4
  z4 := Tryz.sizeOf4
  v4 := Tryz.zeroValue4
  t5 := Tryz.underlying5
  a5 := Tryz.isAgg5
  z5 := Tryz.sizeOf5
  v5 := Tryz.zeroValue5
  t9 := Tryz.underlying9
  a9 := Tryz.isAgg9
  z9 := Tryz.sizeOf9
  v9 := Tryz.zeroValue9
  t20 := Tryz.underlying20
  a20 := Tryz.isAgg20
  z20 := Tryz.sizeOf20
  v20 := Tryz.zeroValue20
  t21 := Tryz.underlying21
  a21 := Tryz.isAgg21
  z21 := Tryz.sizeOf21
  v21 := Tryz.zeroValue21
  t37 := Tryz.underlying28
  a37 := Tryz.isAgg28
  z37 := Tryz.sizeOf28
  v37 := Tryz.zeroValue28
  t46 := Tryz.underlying108
  a46 := Tryz.isAgg108
  z46 := Tryz.sizeOf108
  v46 := Tryz.zeroValue108
  t51 := Tryz.underlying140
  a51 := Tryz.isAgg140
  z51 := Tryz.sizeOf140
  v51 := Tryz.zeroValue140
  t53 := Tryz.underlying53
  a53 := Tryz.isAgg53
  z53 := Tryz.sizeOf53
  v53 := Tryz.zeroValue53
  t75 := Tryz.underlying78
  a75 := Tryz.isAgg78
  z75 := Tryz.sizeOf78
  v75 := Tryz.zeroValue78
  t76 := Tryz.underlying79
  a76 := Tryz.isAgg79
  z76 := Tryz.sizeOf79
  v76 := Tryz.zeroValue79
  t85 := Tryz.underlying133
  a85 := Tryz.isAgg133
  z85 := Tryz.sizeOf133
  v85 := Tryz.zeroValue133
  t127 := Tryz.underlying102
  a127 := Tryz.isAgg102
  z127 := Tryz.sizeOf102
  v127 := Tryz.zeroValue102
  t143 := Tryz.underlying157
  a143 := Tryz.isAgg157
  z143 := Tryz.sizeOf157
  v143 := Tryz.zeroValue157
  t145 := Tryz.underlying159
  a145 := Tryz.isAgg159
  z145 := Tryz.sizeOf159
  v145 := Tryz.zeroValue159
  t167 := Tryz.underlying132
  a167 := Tryz.isAgg132
  z167 := Tryz.sizeOf132
  v167 := Tryz.zeroValue132
  t168 := Tryz.underlying135
  a168 := Tryz.isAgg135
  z168 := Tryz.sizeOf135
  v168 := Tryz.zeroValue135
  t171 := Tryz.underlying126
  a171 := Tryz.isAgg126
  z171 := Tryz.sizeOf126
  v171 := Tryz.zeroValue126
  t173 := Tryz.underlying129
  a173 := Tryz.isAgg129
  z173 := Tryz.sizeOf129
  v173 := Tryz.zeroValue129
  t175 := Tryz.underlying146
  a175 := Tryz.isAgg146
  z175 := Tryz.sizeOf146
  v175 := Tryz.zeroValue146
  t210 := Tryz.underlying149
  a210 := Tryz.isAgg149
  z210 := Tryz.sizeOf149
  v210 := Tryz.zeroValue149
  t212 := Tryz.underlying139
  a212 := Tryz.isAgg139
  z212 := Tryz.sizeOf139
  v212 := Tryz.zeroValue139
  t213 := Tryz.underlying141
  a213 := Tryz.isAgg141
  z213 := Tryz.sizeOf141
  t232 := Tryz.underlying160
  a232 := Tryz.isAgg160
  z232 := Tryz.sizeOf160
  v232 := Tryz.zeroValue160
  t233 := Tryz.underlying161
  a233 := Tryz.isAgg161
  z233 := Tryz.sizeOf161
  v233 := Tryz.zeroValue161
  g15 := by kernel_rfl
  g16 := by kernel_rfl
  g17 := by kernel_rfl
  g18 := by kernel_rfl
  g19 := by kernel_rfl
  t80 := Tryz.underlying81
  a80 := Tryz.isAgg81
  z80 := Tryz.sizeOf81
  v80 := Tryz.zeroValue81
  i0 := by kernel_rfl
  i2 := by kernel_rfl
  i3 := by kernel_rfl
  i4 := by kernel_rfl
  i5 := by kernel_rfl
  i9 := by kernel_rfl
  i20 := by kernel_rfl
  i21 := by kernel_rfl
  i37 := by kernel_rfl
  i46 := by kernel_rfl
  i51 := by kernel_rfl
  i53 := by kernel_rfl
  i75 := by kernel_rfl
  i76 := by kernel_rfl
  i80 := by kernel_rfl
  i85 := by kernel_rfl
  i127 := by kernel_rfl
  i143 := by kernel_rfl
  i145 := by kernel_rfl
  i167 := by kernel_rfl
  i168 := by kernel_rfl
  i171 := by kernel_rfl
  i173 := by kernel_rfl
  i175 := by kernel_rfl
  i210 := by kernel_rfl
  i212 := by kernel_rfl
  i232 := by kernel_rfl
  i233 := by kernel_rfl
  m15 := by kernel_rfl
  m16 := by kernel_rfl
  m17 := by kernel_rfl
  m18 := by kernel_rfl
  m19 := by kernel_rfl
  c0 := by kernel_rfl
  c2 := by kernel_rfl
  c3 := by kernel_rfl
  c4 := by kernel_rfl
  c5 := by kernel_rfl
  c9 := by kernel_rfl
  c20 := by kernel_rfl
  c21 := by kernel_rfl
  c37 := by kernel_rfl
  c46 := by kernel_rfl
  c51 := by kernel_rfl
  c53 := by kernel_rfl
  c75 := by kernel_rfl
  c76 := by kernel_rfl
  c80 := by kernel_rfl
  c85 := by kernel_rfl
  c127 := by kernel_rfl
  c143 := by kernel_rfl
  c145 := by kernel_rfl
  c167 := by kernel_rfl
  c168 := by kernel_rfl
  c171 := by kernel_rfl
  c173 := by kernel_rfl
  c175 := by kernel_rfl
  c210 := by kernel_rfl
  c212 := by kernel_rfl
  c213 := by kernel_rfl
  c232 := by kernel_rfl
  c233 := by kernel_rfl
def lays_num_Itoa_ren : Go.Shelf.Ren := ⟨fun | 0 => 0 | 1 => 1 | 2 => 2 | 100 => 105 | 102 => 68 | 109 => 46 | 119 => 95 | 129 => 135 | 137 => 94 | 138 => 101 | 143 => 102 | 144 => 104 | 145 => 73 | 152 => 69 | 153 => 45 | 156 => 31 | 165 => 56 | 166 => 57 | 169 => 58 | 171 => 55 | 172 => 99 | 195 => 116 | 197 => 117 | 205 => 143 | 207 => 111 | 209 => 93 | 217 => 112 | 218 => 118 | 219 => 113 | 220 => 98 | 221 => 75 | 224 => 96 | 225 => 97 | 226 => 70 | 227 => 71 | 228 => 72 | 240 => 83 | 241 => 84 | 243 => 82 | 244 => 114 | 245 => 115 | 246 => 106 | 247 => 128 | 260 => 133 | 266 => 126 | 267 => 127 | 268 => 100 | 276 => 107 | 277 => 108 | 279 => 129 | 280 => 130 | 281 => 131 | 282 => 132 | 283 => 119 | 284 => 120 | 285 => 121 | 286 => 122 | 287 => 141 | 314 => 140 | 316 => 142 | 317 => 134 | 318 => 136 | 319 => 137 | 320 => 138 | 321 => 146 | 322 => 147 | 337 => 144 | 338 => 145 | 347 => 148 | 348 => 149 | 349 => 150 | 350 => 151 | 351 => 152 | 352 => 153 | 353 => 154 | 354 => 155 | 355 => 156 | 356 => 157 | 357 => 158 | 358 => 159 | 359 => 160 | 360 => 161 | 361 => 162 | 362 => 164 | 363 => 167 | 364 => 165 | 365 => 166 | 366 => 168 | 367 => 180 | n => n, fun | 0 => 0 | 1 => 1 | 2 => 2 | 3 => 3 | 4 => 4 | 5 => 5 | 6 => 6 | 7 => 7 | 8 => 8 | 9 => 9 | 10 => 10 | 11 => 11 | 12 => 12 | 13 => 13 | 14 => 14 | 15 => 15 | 16 => 16 | 17 => 17 | 18 => 18 | 19 => 19 | 20 => 20 | 21 => 21 | 22 => 115 | 23 => 59 | 24 => 31 | 27 => 65 | 31 => 35 | 32 => 66 | 37 => 28 | 38 => 29 | 40 => 111 | 41 => 94 | 43 => 105 | 46 => 108 | 47 => 142 | 51 => 140 | 52 => 155 | 53 => 53 | 54 => 127 | 55 => 110 | 59 => 95 | 60 => 96 | 61 => 70 | 64 => 89 | 67 => 49 | 68 => 36 | 69 => 41 | 70 => 73 | 71 => 74 | 72 => 75 | 73 => 76 | 74 => 77 | 75 => 78 | 76 => 79 | 77 => 80 | 80 => 81 | 81 => 86 | 83 => 71 | 84 => 116 | 85 => 133 | 86 => 134 | 101 => 51 | 102 => 69 | 103 => 122 | 104 => 27 | 105 => 124 | 106 => 125 | 108 => 150 | 111 => 85 | 113 => 99 | 114 => 58 | 115 => 90 | 116 => 91 | 117 => 92 | 118 => 93 | 119 => 151 | 124 => 112 | 127 => 102 | 128 => 123 | 131 => 97 | 137 => 152 | 138 => 153 | 139 => 154 | 143 => 157 | 144 => 158 | 145 => 159 | 146 => 144 | 150 => 113 | 151 => 145 | 164 => 117 | 165 => 118 | 166 => 119 | 167 => 132 | 168 => 135 | 169 => 136 | 170 => 137 | 171 => 126 | 172 => 128 | 173 => 129 | 174 => 130 | 175 => 146 | 176 => 147 | 209 => 148 | 210 => 149 | 211 => 138 | 212 => 139 | 213 => 141 | 214 => 156 | 232 => 160 | 233 => 161 | 238 => 162 | 239 => 163 | 240 => 164 | 241 => 165 | 242 => 166 | 243 => 167 | 244 => 168 | 245 => 169 | 246 => 170 | 247 => 171 | 248 => 172 | 249 => 173 | n => n, fun | 1 => 1 | 3 => 5 | 4 => 6 | 15 => 3 | 16 => 4 | 17 => 2 | 18 => 7 | 19 => 8 | n => n⟩
theorem lays_num_Itoa : Go.Proofs.LaysM.n171 Tryz.prog lays_num_Itoa_ren where
  mixed := by kernel_rfl
  f129 := Tryz.func135.trans (congrArg some (by kernel_rfl))
  f171 := Tryz.func55.trans (congrArg some (by kernel_rfl))
  f243 := Tryz.func82.trans (congrArg some (by kernel_rfl))
  f246 := Tryz.func106.trans (congrArg some (by kernel_rfl))
  f283 := Tryz.func119.trans (congrArg some (by kernel_rfl))
  f284 := Tryz.func120.trans (congrArg some (by kernel_rfl))
  f285 := Tryz.func121.trans (congrArg some (by kernel_rfl))
  f286 := Tryz.func122.trans (congrArg some (by kernel_rfl))
  f317 := Tryz.func134.trans (congrArg some (by kernel_rfl))
  f318 := Tryz.func136.trans (congrArg some (by kernel_rfl))
  f319 := Tryz.func137.trans (congrArg some (by kernel_rfl))
  f320 := Tryz.func138.trans (congrArg some (by kernel_rfl))
  f337 := Tryz.func144.trans (congrArg some (by kernel_rfl))
  f338 := Tryz.func145.trans (congrArg some (by kernel_rfl))
  t0 := Tryz.underlying0
  a0 := Tryz.isAgg0
  z0 := Tryz.sizeOf0
  v0 := Tryz.zeroValue0
  t2 := Tryz.underlying2
  a2 := Tryz.isAgg2
  z2 := Tryz.sizeOf2
  v2 := Tryz.zeroValue2
  t3 := Tryz.underlying3
  a3 := Tryz.isAgg3
  z3 := Tryz.sizeOf3
  v3 := Tryz.zeroValue3
  t4 := Tryz.underlying4
  a4 := Tryz.isAgg4
  z4 := Tryz.sizeOf4
  v4 := Tryz.zeroValue4
  t5 := Tryz.underlying5
  a5 := Tryz.isAgg5
  z5 := Tryz.sizeOf5
  v5 := Tryz.zeroValue5
  t9 := Tryz.underlying9
  a9 := Tryz.isAgg9
  z9 := Tryz.sizeOf9
  v9 := Tryz.zeroValue9
  t20 := Tryz.underlying20
  a20 := Tryz.isAgg20
  z20 := Tryz.sizeOf20
  v20 := Tryz.zeroValue20
  t37 := Tryz.underlying28
  a37 := Tryz.isAgg28
  z37 := Tryz.sizeOf28
  v37 := Tryz.zeroValue28
  t46 := Tryz.underlying108
  a46 := Tryz.isAgg108
  z46 := Tryz.sizeOf108
  v46 := Tryz.zeroValue108
  t51 := Tryz.underlying140
  a51 := Tryz.isAgg140
  z51 := Tryz.sizeOf140
  v51 := Tryz.zeroValue140
  t53 := Tryz.underlying53
  a53 := Tryz.isAgg53
  z53 := Tryz.sizeOf53
  v53 := Tryz.zeroValue53
  t171 := Tryz.underlying126
  a171 := Tryz.isAgg126
  z171 := Tryz.sizeOf126
  v171 := Tryz.zeroValue126
  t173 := Tryz.underlying129
  a173 := Tryz.isAgg129
  z173 := Tryz.sizeOf129
  v173 := Tryz.zeroValue129
  t212 := Tryz.underlying139
  a212 := Tryz.isAgg139
  z212 := Tryz.sizeOf139
  v212 := Tryz.zeroValue139
  t213 := Tryz.underlying141
  a213 := Tryz.isAgg141
  z213 := Tryz.sizeOf141
  t232 := Tryz.underlying160
  a232 := Tryz.isAgg160
  z232 := Tryz.sizeOf160
  v232 := Tryz.zeroValue160
  t233 := Tryz.underlying161
  a233 := Tryz.isAgg161
  z233 := Tryz.sizeOf161
  v233 := Tryz.zeroValue161
  g17 := by kernel_rfl
  g18 := by kernel_rfl
  g19 := by kernel_rfl
  i0 := by kernel_rfl
  i2 := by kernel_rfl
  i3 := by kernel_rfl
  i4 := by kernel_rfl
  i5 := by kernel_rfl
  i9 := by kernel_rfl
  i20 := by kernel_rfl
  i37 := by kernel_rfl
  i46 := by kernel_rfl
  i51 := by kernel_rfl
  i53 := by kernel_rfl
  i171 := by kernel_rfl
  i173 := by kernel_rfl
  i212 := by kernel_rfl
  i232 := by kernel_rfl
  i233 := by kernel_rfl
  m17 := by kernel_rfl
  m18 := by kernel_rfl
  m19 := by kernel_rfl
section
open Go.RowKit Go.Lib
theorem num_itoa (n : Int) (h1 : -9223372036854775808 ≤ n) (h2 : n ≤ 9223372036854775807) (w : World) (hT : Lib.TabIs Tryz.prog w "internal/strconv.uint64pow10" .u64 Lib.pow10Tab) :
    Calls Tryz.prog 55 #[.int .i64 n] w fun e w' => e = .returned (.string ⟨(Lib.itoa n).toArray⟩) ∧ Below w.heap.size w w' :=
  (Any.strconv_Itoa lays_num_Itoa n h1 h2 w hT).mono fun e w' ⟨e1, k, os, e2⟩ => ⟨e1, by
    subst e2
    exact ⟨rfl, rfl, rfl, by show w.heap.size ≤ (w.heap ++ os).size; simp, fun b hb => by show (w.heap ++ os)[b]? = _; rw [Array.getElem?_append_left hb]⟩⟩

set_option maxHeartbeats 1000000 in
set_option maxRecDepth 100000 in
theorem num_ok (s : ByteArray) (v : Int) (h : Lib.atoiAll s.data.toList = .ok v) (hs : s.size ≤ 1000000) (w : World) (hT : Lib.TabIs Tryz.prog w "internal/strconv.uint64pow10" .u64 Lib.pow10Tab) :
    Calls Tryz.prog 74 #[.string s] w fun e w' => e = .returned (.tuple #[.int .i64 v, .bool (decide (0 ≤ v) && (decide (s.size ≤ 4) && (Lib.itoa v == s.data.toList)))]) ∧ Below w.heap.size w w' := by
  obtain ⟨b1, b2⟩ := Go.Dn.atoi_bound h
  have hA : Calls Tryz.prog 99 #[.string s] w fun e w' => e = .returned (.tuple #[.int .i64 v, .nilIface]) ∧ Below w.heap.size w w' :=
    (Any.strconv_Atoi_ok lays_strconv_Atoi s (by omega) v h w).mono fun e w' ⟨e1, e2⟩ => ⟨e1, by
      rcases e2 with rfl | ⟨t, rfl⟩
      · exact Below.refl _ _
      · exact Lib.bytesWorld_below _ _ _⟩
  by_cases h0 : 0 ≤ v
  · by_cases h4 : s.size ≤ 4
    · rw [decide_eq_true h0, decide_eq_true h4]
      have h4' : (s.size : Int) ≤ 4 := by omega
      go_enter Tryz.func74, Tryz.ntmps74
      go_wp2_with (go_at_fn 99; go_fit hA; rintro e w' ⟨rfl, hb⟩)
      refine hA.mono ?_
      rintro e w1 ⟨rfl, hb⟩
      go_wp2_with (go_at_fn 55; go_fit hA; rintro e w' ⟨rfl, hb⟩)
      refine (num_itoa v b1 b2 w1 (Go.Dn.tab_below hT hb)).mono ?_
      rintro e w2 ⟨rfl, hb2⟩
      go_wp2
      go_ret2
      refine ⟨?_, hb.trans (hb2.mono hb.size)⟩
      simp [Lib.toList_data]
    · rw [decide_eq_true h0, decide_eq_false h4]
      have h4' : ¬ (s.size : Int) ≤ 4 := by omega
      go_enter Tryz.func74, Tryz.ntmps74
      go_wp2_with (go_at_fn 99; go_fit hA; rintro e w' ⟨rfl, hb⟩)
      refine hA.mono ?_
      rintro e w1 ⟨rfl, hb⟩
      go_wp2
      go_ret2
      exact ⟨rfl, hb⟩
  · rw [decide_eq_false h0]
    go_enter Tryz.func74, Tryz.ntmps74
    go_wp2_with (go_at_fn 99; go_fit hA; rintro e w' ⟨rfl, hb⟩)
    refine hA.mono ?_
    rintro e w1 ⟨rfl, hb⟩
    go_wp2
    go_ret2
    exact ⟨rfl, hb⟩

set_option maxHeartbeats 1000000 in
set_option maxRecDepth 100000 in
theorem num_no (s : ByteArray) (x : Int) (tp : TypeId) (w : World) (hA : Calls Tryz.prog 99 #[.string s] w fun e w' => ∃ N, e = .returned (.tuple #[.int .i64 x, .iface tp (.pointer (some ⟨N, 0, none⟩))]) ∧ Below w.heap.size w w') :
    Calls Tryz.prog 74 #[.string s] w fun e w' => e = .returned (.tuple #[.int .i64 x, .bool false]) ∧ Below w.heap.size w w' := by
  go_enter Tryz.func74, Tryz.ntmps74
  go_wp2_with (go_at_fn 99; go_fit hA; rintro e w' ⟨rfl, hb⟩)
  refine hA.mono ?_
  rintro e w1 ⟨N, rfl, hb⟩
  go_wp2
  go_ret2
  exact ⟨rfl, hb⟩

theorem num_any (s : ByteArray) (w : World) (hs : s.size ≤ 1000000) (hT : Lib.TabIs Tryz.prog w "internal/strconv.uint64pow10" .u64 Lib.pow10Tab) (h1 : ∃ tp p, w.var? Tryz.prog "strconv.ErrSyntax" = some #[.iface tp p]) (h2 : ∃ tp p, w.var? Tryz.prog "strconv.ErrRange" = some #[.iface tp p]) :
    Calls Tryz.prog 74 #[.string s] w fun e w' => e = .returned (.tuple #[.int .i64 (Go.Dn.numV s.data.toList), .bool (Go.Dn.numB s.data.toList)]) ∧ Below w.heap.size w w' := by
  unfold Go.Dn.numV Go.Dn.numB
  rcases h : Lib.atoiAll s.data.toList with v | _ | _
  · exact num_ok s v h hs w hT
  · obtain ⟨tp, p, hv⟩ := h1
    exact num_no s 0 _ w ((Any.strconv_Atoi_syntax_var lays_strconv_Atoi s (by omega) h tp p w hv).mono fun e w' ⟨N, e1, _, _, hb⟩ => ⟨N, e1, hb⟩)
  · obtain ⟨tp, p, hv⟩ := h2
    exact num_no s _ _ w ((Any.strconv_Atoi_range_var lays_strconv_Atoi s (by omega) h tp p w hv).mono fun e w' ⟨N, e1, _, _, hb⟩ => ⟨N, e1, hb⟩)
end

noncomputable def f_I_readNumber (t0 : PV .str) : Option (PVs [.int .i64, .bool] × PVs []) := Go.Dn.numF t0
noncomputable def ct_I_readNumber : Ct := ⟨[(.bor, .str)], [(.int .i64, .b), (.bool, .b)], fun x => f_I_readNumber x.1⟩
theorem ok_I_readNumber : FnOk gl Tryz.prog 74 ct_I_readNumber := Go.Dn.fnOk_number ⟨_, Tryz.func74, rfl, by kernel_rfl⟩ fun s w hs hg => num_any s w hs (gl_tab w hg) (gl_syn w hg) (gl_rng w hg)
def lays_strings_genSplit_ren : Go.Shelf.Ren := ⟨fun | 0 => 0 | 1 => 1 | 2 => 2 | 100 => 105 | 102 => 68 | 109 => 46 | 119 => 95 | 129 => 135 | 137 => 94 | 138 => 101 | 143 => 102 | 144 => 104 | 145 => 73 | 152 => 69 | 153 => 45 | 156 => 31 | 165 => 56 | 166 => 57 | 169 => 58 | 171 => 55 | 172 => 99 | 195 => 116 | 197 => 117 | 205 => 143 | 207 => 111 | 209 => 93 | 217 => 112 | 218 => 118 | 219 => 113 | 220 => 98 | 221 => 75 | 224 => 96 | 225 => 97 | 226 => 70 | 227 => 71 | 228 => 72 | 240 => 83 | 241 => 84 | 243 => 82 | 244 => 114 | 245 => 115 | 246 => 106 | 247 => 128 | 260 => 133 | 266 => 126 | 267 => 127 | 268 => 100 | 276 => 107 | 277 => 108 | 279 => 129 | 280 => 130 | 281 => 131 | 282 => 132 | 283 => 119 | 284 => 120 | 285 => 121 | 286 => 122 | 287 => 141 | 314 => 140 | 316 => 142 | 317 => 134 | 318 => 136 | 319 => 137 | 320 => 138 | 321 => 146 | 322 => 147 | 337 => 144 | 338 => 145 | 347 => 148 | 348 => 149 | 349 => 150 | 350 => 151 | 351 => 152 | 352 => 153 | 353 => 154 | 354 => 155 | 355 => 156 | 356 => 157 | 357 => 158 | 358 => 159 | 359 => 160 | 360 => 161 | 361 => 162 | 362 => 164 | 363 => 167 | 364 => 165 | 365 => 166 | 366 => 168 | 367 => 180 | n => n, fun | 0 => 0 | 1 => 1 | 2 => 2 | 3 => 3 | 4 => 4 | 5 => 5 | 6 => 6 | 7 => 7 | 8 => 8 | 9 => 9 | 10 => 10 | 11 => 11 | 12 => 12 | 13 => 13 | 14 => 14 | 15 => 15 | 16 => 16 | 17 => 17 | 18 => 18 | 19 => 19 | 20 => 20 | 21 => 21 | 22 => 115 | 23 => 59 | 24 => 31 | 27 => 65 | 31 => 35 | 32 => 66 | 37 => 28 | 38 => 29 | 40 => 111 | 41 => 94 | 43 => 105 | 46 => 108 | 47 => 142 | 51 => 140 | 52 => 155 | 53 => 53 | 54 => 127 | 55 => 110 | 59 => 95 | 60 => 96 | 61 => 70 | 64 => 89 | 67 => 49 | 68 => 36 | 69 => 41 | 70 => 73 | 71 => 74 | 72 => 75 | 73 => 76 | 74 => 77 | 75 => 78 | 76 => 79 | 77 => 80 | 80 => 81 | 81 => 86 | 83 => 71 | 84 => 116 | 85 => 133 | 86 => 134 | 101 => 51 | 102 => 69 | 103 => 122 | 104 => 27 | 105 => 124 | 106 => 125 | 108 => 150 | 111 => 85 | 113 => 99 | 114 => 58 | 115 => 90 | 116 => 91 | 117 => 92 | 118 => 93 | 119 => 151 | 124 => 112 | 127 => 102 | 128 => 123 | 131 => 97 | 137 => 152 | 138 => 153 | 139 => 154 | 143 => 157 | 144 => 158 | 145 => 159 | 146 => 144 | 150 => 113 | 151 => 145 | 164 => 117 | 165 => 118 | 166 => 119 | 167 => 132 | 168 => 135 | 169 => 136 | 170 => 137 | 171 => 126 | 172 => 128 | 173 => 129 | 174 => 130 | 175 => 146 | 176 => 147 | 209 => 148 | 210 => 149 | 211 => 138 | 212 => 139 | 213 => 141 | 214 => 156 | 232 => 160 | 233 => 161 | 238 => 162 | 239 => 163 | 240 => 164 | 241 => 165 | 242 => 166 | 243 => 167 | 244 => 168 | 245 => 169 | 246 => 170 | 247 => 171 | 248 => 172 | 249 => 173 | n => n, fun | 1 => 1 | 3 => 5 | 4 => 6 | 15 => 3 | 16 => 4 | 17 => 2 | 18 => 7 | 19 => 8 | n => n⟩
theorem lays_strings_genSplit : Go.Proofs.Lays.n221 Tryz.prog lays_strings_genSplit_ren where
  mixed := by kernel_rfl
  f138 := Tryz.func101.trans (congrArg some (by kernel_rfl))
  f143 := Tryz.func102.trans (congrArg some (by kernel_rfl))
  f195 := Tryz.func116.trans (congrArg some (by kernel_rfl))
  f197 := Tryz.func117.trans (congrArg some (by kernel_rfl))
  f217 := Tryz.func112.trans (congrArg some (by kernel_rfl))
  f218 := Tryz.func118.trans (congrArg some (by kernel_rfl))
  f219 := Tryz.func113.trans (congrArg some (by kernel_rfl))
  f221 := Tryz.func75.trans (congrArg some (by kernel_rfl))
  f224 := Tryz.func96.trans (congrArg some (by kernel_rfl))
  f225 := Tryz.func97.trans (congrArg some (by kernel_rfl))
  f260 := Tryz.func133.trans (congrArg some (by kernel_rfl))
  f266 := Tryz.func126.trans (congrArg some (by kernel_rfl))
  f267 := Tryz.func127.trans (congrArg some (by kernel_rfl))
  f268 := Tryz.func100.trans (congrArg some (by kernel_rfl))
  f314 := Tryz.func140.trans (congrArg some (by kernel_rfl))
  t0 := Tryz.underlying0
  a0 := Tryz.isAgg0
  z0 := Tryz.sizeOf0
  v0 := Tryz.zeroValue0
  t3 := Tryz.underlying3
  a3 := Tryz.isAgg3
  z3 := Tryz.sizeOf3
  v3 := Tryz.zeroValue3
  t4 := Tryz.underlying4
  a4 := Tryz.isAgg4
  z4 := Tryz.sizeOf4
  v4 := Tryz.zeroValue4
  t5 := Tryz.underlying5
  a5 := Tryz.isAgg5
  z5 := Tryz.sizeOf5
  v5 := Tryz.zeroValue5
  t9 := Tryz.underlying9
  a9 := Tryz.isAgg9
  z9 := Tryz.sizeOf9
  v9 := Tryz.zeroValue9
  t21 := Tryz.underlying21
  a21 := Tryz.isAgg21
  z21 := Tryz.sizeOf21
  v21 := Tryz.zeroValue21
  t31 := Tryz.underlying35
  a31 := Tryz.isAgg35
  z31 := Tryz.sizeOf35
  v31 := Tryz.zeroValue35
  t46 := Tryz.underlying108
  a46 := Tryz.isAgg108
  z46 := Tryz.sizeOf108
  v46 := Tryz.zeroValue108
  t51 := Tryz.underlying140
  a51 := Tryz.isAgg140
  z51 := Tryz.sizeOf140
  v51 := Tryz.zeroValue140
  t105 := Tryz.underlying124
  a105 := Tryz.isAgg124
  z105 := Tryz.sizeOf124
  v105 := Tryz.zeroValue124
  t119 := Tryz.underlying151
  a119 := Tryz.isAgg151
  z119 := Tryz.sizeOf151
  t138 := Tryz.underlying153
  a138 := Tryz.isAgg153
  z138 := Tryz.sizeOf153
  v138 := Tryz.zeroValue153
  t139 := Tryz.underlying154
  a139 := Tryz.isAgg154
  z139 := Tryz.sizeOf154
  v139 := Tryz.zeroValue154
  t146 := Tryz.underlying144
  a146 := Tryz.isAgg144
  z146 := Tryz.sizeOf144
  v146 := Tryz.zeroValue144
  g1 := by kernel_rfl
  g3 := by kernel_rfl
  g4 := by kernel_rfl

noncomputable def f_strings_genSplit (t0 : PV .str) (t1 : PV .str) (t2 : PV (.int .i64)) (t3 : PV (.int .i64)) : Option (PVs [S_string] × PVs []) := Go.Dn.splitF 9 t0 t1 t2 t3
noncomputable def ct_strings_genSplit : Ct := ⟨[(.bor, .str), (.bor, .str), (.bor, .int .i64), (.bor, .int .i64)], [(S_string, .row .b)], fun x => f_strings_genSplit x.1 x.2.1 x.2.2.1 x.2.2.2.1⟩
theorem ok_strings_genSplit : FnOk gl Tryz.prog 75 ct_strings_genSplit := Go.Dn.split_ok rfl lays_strings_genSplit (by kernel_rfl)
def lays_strings_Contains_ren : Go.Shelf.Ren := ⟨fun | 0 => 0 | 1 => 1 | 2 => 2 | 100 => 105 | 102 => 68 | 109 => 46 | 119 => 95 | 129 => 135 | 137 => 94 | 138 => 101 | 143 => 102 | 144 => 104 | 145 => 73 | 152 => 69 | 153 => 45 | 156 => 31 | 165 => 56 | 166 => 57 | 169 => 58 | 171 => 55 | 172 => 99 | 195 => 116 | 197 => 117 | 205 => 143 | 207 => 111 | 209 => 93 | 217 => 112 | 218 => 118 | 219 => 113 | 220 => 98 | 221 => 75 | 224 => 96 | 225 => 97 | 226 => 70 | 227 => 71 | 228 => 72 | 240 => 83 | 241 => 84 | 243 => 82 | 244 => 114 | 245 => 115 | 246 => 106 | 247 => 128 | 260 => 133 | 266 => 126 | 267 => 127 | 268 => 100 | 276 => 107 | 277 => 108 | 279 => 129 | 280 => 130 | 281 => 131 | 282 => 132 | 283 => 119 | 284 => 120 | 285 => 121 | 286 => 122 | 287 => 141 | 314 => 140 | 316 => 142 | 317 => 134 | 318 => 136 | 319 => 137 | 320 => 138 | 321 => 146 | 322 => 147 | 337 => 144 | 338 => 145 | 347 => 148 | 348 => 149 | 349 => 150 | 350 => 151 | 351 => 152 | 352 => 153 | 353 => 154 | 354 => 155 | 355 => 156 | 356 => 157 | 357 => 158 | 358 => 159 | 359 => 160 | 360 => 161 | 361 => 162 | 362 => 164 | 363 => 167 | 364 => 165 | 365 => 166 | 366 => 168 | 367 => 180 | n => n, fun | 0 => 0 | 1 => 1 | 2 => 2 | 3 => 3 | 4 => 4 | 5 => 5 | 6 => 6 | 7 => 7 | 8 => 8 | 9 => 9 | 10 => 10 | 11 => 11 | 12 => 12 | 13 => 13 | 14 => 14 | 15 => 15 | 16 => 16 | 17 => 17 | 18 => 18 | 19 => 19 | 20 => 20 | 21 => 21 | 22 => 115 | 23 => 59 | 24 => 31 | 27 => 65 | 31 => 35 | 32 => 66 | 37 => 28 | 38 => 29 | 40 => 111 | 41 => 94 | 43 => 105 | 46 => 108 | 47 => 142 | 51 => 140 | 52 => 155 | 53 => 53 | 54 => 127 | 55 => 110 | 59 => 95 | 60 => 96 | 61 => 70 | 64 => 89 | 67 => 49 | 68 => 36 | 69 => 41 | 70 => 73 | 71 => 74 | 72 => 75 | 73 => 76 | 74 => 77 | 75 => 78 | 76 => 79 | 77 => 80 | 80 => 81 | 81 => 86 | 83 => 71 | 84 => 116 | 85 => 133 | 86 => 134 | 101 => 51 | 102 => 69 | 103 => 122 | 104 => 27 | 105 => 124 | 106 => 125 | 108 => 150 | 111 => 85 | 113 => 99 | 114 => 58 | 115 => 90 | 116 => 91 | 117 => 92 | 118 => 93 | 119 => 151 | 124 => 112 | 127 => 102 | 128 => 123 | 131 => 97 | 137 => 152 | 138 => 153 | 139 => 154 | 143 => 157 | 144 => 158 | 145 => 159 | 146 => 144 | 150 => 113 | 151 => 145 | 164 => 117 | 165 => 118 | 166 => 119 | 167 => 132 | 168 => 135 | 169 => 136 | 170 => 137 | 171 => 126 | 172 => 128 | 173 => 129 | 174 => 130 | 175 => 146 | 176 => 147 | 209 => 148 | 210 => 149 | 211 => 138 | 212 => 139 | 213 => 141 | 214 => 156 | 232 => 160 | 233 => 161 | 238 => 162 | 239 => 163 | 240 => 164 | 241 => 165 | 242 => 166 | 243 => 167 | 244 => 168 | 245 => 169 | 246 => 170 | 247 => 171 | 248 => 172 | 249 => 173 | n => n, fun | 1 => 1 | 3 => 5 | 4 => 6 | 15 => 3 | 16 => 4 | 17 => 2 | 18 => 7 | 19 => 8 | n => n⟩
theorem lays_strings_Contains : Go.Proofs.Lays.n144 Tryz.prog lays_strings_Contains_ren where
  mixed := by kernel_rfl
  f143 := Tryz.func102.trans (congrArg some (by kernel_rfl))
  f144 := Tryz.func104.trans (congrArg some (by kernel_rfl))
  f217 := Tryz.func112.trans (congrArg some (by kernel_rfl))
  f219 := Tryz.func113.trans (congrArg some (by kernel_rfl))
  f224 := Tryz.func96.trans (congrArg some (by kernel_rfl))
  f225 := Tryz.func97.trans (congrArg some (by kernel_rfl))
  f266 := Tryz.func126.trans (congrArg some (by kernel_rfl))
  f267 := Tryz.func127.trans (congrArg some (by kernel_rfl))
  f314 := Tryz.func140.trans (congrArg some (by kernel_rfl))
  t3 := Tryz.underlying3
  a3 := Tryz.isAgg3
  z3 := Tryz.sizeOf3
  v3 := Tryz.zeroValue3
  t4 := Tryz.underlying4
  a4 := Tryz.isAgg4
  z4 := Tryz.sizeOf4
  v4 := Tryz.zeroValue4
  t5 := Tryz.underlying5
  a5 := Tryz.isAgg5
  z5 := Tryz.sizeOf5
  v5 := Tryz.zeroValue5
  t9 := Tryz.underlying9
  a9 := Tryz.isAgg9
  z9 := Tryz.sizeOf9
  v9 := Tryz.zeroValue9
  t46 := Tryz.underlying108
  a46 := Tryz.isAgg108
  z46 := Tryz.sizeOf108
  v46 := Tryz.zeroValue108
  t51 := Tryz.underlying140
  a51 := Tryz.isAgg140
  z51 := Tryz.sizeOf140
  v51 := Tryz.zeroValue140
  t146 := Tryz.underlying144
  a146 := Tryz.isAgg144
  z146 := Tryz.sizeOf144
  v146 := Tryz.zeroValue144
  g1 := by kernel_rfl
noncomputable def f_strings_Contains (t0 : PV .str) (t1 : PV .str) : Option (PVs [.bool] × PVs []) := Go.Dn.containsF t0 t1
noncomputable def ct_strings_Contains : Ct := ⟨[(.bor, .str), (.bor, .str)], [(.bool, .b)], fun x => f_strings_Contains x.1 x.2.1⟩
theorem ok_strings_Contains : FnOk gl Tryz.prog 104 ct_strings_Contains := Go.Dn.contains_ok  lays_strings_Contains
def lays_internal_stringslite_Index_ren : Go.Shelf.Ren := ⟨fun | 0 => 0 | 1 => 1 | 2 => 2 | 100 => 105 | 102 => 68 | 109 => 46 | 119 => 95 | 129 => 135 | 137 => 94 | 138 => 101 | 143 => 102 | 144 => 104 | 145 => 73 | 152 => 69 | 153 => 45 | 156 => 31 | 165 => 56 | 166 => 57 | 169 => 58 | 171 => 55 | 172 => 99 | 195 => 116 | 197 => 117 | 205 => 143 | 207 => 111 | 209 => 93 | 217 => 112 | 218 => 118 | 219 => 113 | 220 => 98 | 221 => 75 | 224 => 96 | 225 => 97 | 226 => 70 | 227 => 71 | 228 => 72 | 240 => 83 | 241 => 84 | 243 => 82 | 244 => 114 | 245 => 115 | 246 => 106 | 247 => 128 | 260 => 133 | 266 => 126 | 267 => 127 | 268 => 100 | 276 => 107 | 277 => 108 | 279 => 129 | 280 => 130 | 281 => 131 | 282 => 132 | 283 => 119 | 284 => 120 | 285 => 121 | 286 => 122 | 287 => 141 | 314 => 140 | 316 => 142 | 317 => 134 | 318 => 136 | 319 => 137 | 320 => 138 | 321 => 146 | 322 => 147 | 337 => 144 | 338 => 145 | 347 => 148 | 348 => 149 | 349 => 150 | 350 => 151 | 351 => 152 | 352 => 153 | 353 => 154 | 354 => 155 | 355 => 156 | 356 => 157 | 357 => 158 | 358 => 159 | 359 => 160 | 360 => 161 | 361 => 162 | 362 => 164 | 363 => 167 | 364 => 165 | 365 => 166 | 366 => 168 | 367 => 180 | n => n, fun | 0 => 0 | 1 => 1 | 2 => 2 | 3 => 3 | 4 => 4 | 5 => 5 | 6 => 6 | 7 => 7 | 8 => 8 | 9 => 9 | 10 => 10 | 11 => 11 | 12 => 12 | 13 => 13 | 14 => 14 | 15 => 15 | 16 => 16 | 17 => 17 | 18 => 18 | 19 => 19 | 20 => 20 | 21 => 21 | 22 => 115 | 23 => 59 | 24 => 31 | 27 => 65 | 31 => 35 | 32 => 66 | 37 => 28 | 38 => 29 | 40 => 111 | 41 => 94 | 43 => 105 | 46 => 108 | 47 => 142 | 51 => 140 | 52 => 155 | 53 => 53 | 54 => 127 | 55 => 110 | 59 => 95 | 60 => 96 | 61 => 70 | 64 => 89 | 67 => 49 | 68 => 36 | 69 => 41 | 70 => 73 | 71 => 74 | 72 => 75 | 73 => 76 | 74 => 77 | 75 => 78 | 76 => 79 | 77 => 80 | 80 => 81 | 81 => 86 | 83 => 71 | 84 => 116 | 85 => 133 | 86 => 134 | 101 => 51 | 102 => 69 | 103 => 122 | 104 => 27 | 105 => 124 | 106 => 125 | 108 => 150 | 111 => 85 | 113 => 99 | 114 => 58 | 115 => 90 | 116 => 91 | 117 => 92 | 118 => 93 | 119 => 151 | 124 => 112 | 127 => 102 | 128 => 123 | 131 => 97 | 137 => 152 | 138 => 153 | 139 => 154 | 143 => 157 | 144 => 158 | 145 => 159 | 146 => 144 | 150 => 113 | 151 => 145 | 164 => 117 | 165 => 118 | 166 => 119 | 167 => 132 | 168 => 135 | 169 => 136 | 170 => 137 | 171 => 126 | 172 => 128 | 173 => 129 | 174 => 130 | 175 => 146 | 176 => 147 | 209 => 148 | 210 => 149 | 211 => 138 | 212 => 139 | 213 => 141 | 214 => 156 | 232 => 160 | 233 => 161 | 238 => 162 | 239 => 163 | 240 => 164 | 241 => 165 | 242 => 166 | 243 => 167 | 244 => 168 | 245 => 169 | 246 => 170 | 247 => 171 | 248 => 172 | 249 => 173 | n => n, fun | 1 => 1 | 3 => 5 | 4 => 6 | 15 => 3 | 16 => 4 | 17 => 2 | 18 => 7 | 19 => 8 | n => n⟩
theorem lays_internal_stringslite_Index : Go.Proofs.Lays.n219 Tryz.prog lays_internal_stringslite_Index_ren where
  mixed := by kernel_rfl
  f217 := Tryz.func112.trans (congrArg some (by kernel_rfl))
  f219 := Tryz.func113.trans (congrArg some (by kernel_rfl))
  f224 := Tryz.func96.trans (congrArg some (by kernel_rfl))
  f225 := Tryz.func97.trans (congrArg some (by kernel_rfl))
  f266 := Tryz.func126.trans (congrArg some (by kernel_rfl))
  f267 := Tryz.func127.trans (congrArg some (by kernel_rfl))
  f314 := Tryz.func140.trans (congrArg some (by kernel_rfl))
  t3 := Tryz.underlying3
  a3 := Tryz.isAgg3
  z3 := Tryz.sizeOf3
  v3 := Tryz.zeroValue3
  t4 := Tryz.underlying4
  a4 := Tryz.isAgg4
  z4 := Tryz.sizeOf4
  v4 := Tryz.zeroValue4
  t5 := Tryz.underlying5
  a5 := Tryz.isAgg5
  z5 := Tryz.sizeOf5
  v5 := Tryz.zeroValue5
  t9 := Tryz.underlying9
  a9 := Tryz.isAgg9
  z9 := Tryz.sizeOf9
  v9 := Tryz.zeroValue9
  t46 := Tryz.underlying108
  a46 := Tryz.isAgg108
  z46 := Tryz.sizeOf108
  v46 := Tryz.zeroValue108
  t51 := Tryz.underlying140
  a51 := Tryz.isAgg140
  z51 := Tryz.sizeOf140
  v51 := Tryz.zeroValue140
  t146 := Tryz.underlying144
  a146 := Tryz.isAgg144
  z146 := Tryz.sizeOf144
  v146 := Tryz.zeroValue144
  g1 := by kernel_rfl
noncomputable def f_internal_stringslite_Index (t0 : PV .str) (t1 : PV .str) : Option (PVs [(.int .i64)] × PVs []) := Go.Dn.indexF t0 t1
noncomputable def ct_internal_stringslite_Index : Ct := ⟨[(.bor, .str), (.bor, .str)], [((.int .i64), .b)], fun x => f_internal_stringslite_Index x.1 x.2.1⟩
theorem ok_internal_stringslite_Index : FnOk gl Tryz.prog 113 ct_internal_stringslite_Index := Go.Dn.indexLite_ok gl_max lays_internal_stringslite_Index
noncomputable def o_S_l1Split_5 : List Out := [⟨.normal, ⟨[], [0, 1, 5, 6, 7], []⟩, mkSh 34 [(0, .val .str .b), (1, .val (.int .u8) .b), (5, .val S_string (.row .b)), (6, .val (.int .i64) .b), (7, .val (.int .i64) .b)]⟩]
noncomputable def sh_S_l1Split_4 : List Sh := mkSh 34 [(0, .val .str .b), (1, .val (.int .u8) .b), (5, .val S_string (.row .b)), (6, .val (.int .i64) .b), (7, .val (.int .i64) .b)]
noncomputable def o_S_l1Split_4 : List Out := [⟨.exit 0, ⟨[], [0, 5, 6], []⟩, mkSh 34 [(0, .val .str .b), (5, .val S_string (.row .b)), (6, .val (.int .i64) .b)]⟩]
noncomputable def b_S_l1Split_4 (t0 : PV .str) (t1 : PV (.int .u8)) (t5 : PV S_string) (t6 : PV (.int .i64)) (t7 : PV (.int .i64)) : Option ((PV .str × PV (.int .u8) × PV S_string × PV (.int .i64) × PV (.int .i64) × Unit) ⊕ ((PV .str × PV S_string × PV (.int .i64) × Unit))) :=
  bif (decide (t7 < (t0.length : Int))) then
    ((
        bif inB t7 t0.length then
          bif (((t0.getD t7.toNat 0).toNat : Int) == t1) then
            bif cutB t6 t7 t0.length then
              bif roomB (t5.length + [(cutL t6 t7 t0)].length) then
                some (t0, t1, (t5 ++ [(cutL t6 t7 t0)]), (IntKind.wrap .i64 (t7 + 1)), t7, ())
              else
                none
            else
              none
          else
            some (t0, t1, t5, t6, t7, ())
        else
          none : Option ((PV .str × PV (.int .u8) × PV S_string × PV (.int .i64) × PV (.int .i64) × Unit)))).bind fun j1 =>
      some (.inl (j1.1, j1.2.1, j1.2.2.1, j1.2.2.2.1, (IntKind.wrap .i64 (j1.2.2.2.2.1 + 1)), ()))
  else
    some (.inr (t0, t5, t6, ()))
noncomputable def w_S_l1Split_4 : PV .str × PV (.int .u8) × PV S_string × PV (.int .i64) × PV (.int .i64) × Unit → Option ((PV .str × PV S_string × PV (.int .i64) × Unit)) := fix fun d => b_S_l1Split_4 d.1 d.2.1 d.2.2.1 d.2.2.2.1 d.2.2.2.2.1
noncomputable def lp_S_l1Split_4 : Lp := ⟨⟨[], [0, 1, 5, 6, 7], []⟩, sh_S_l1Split_4, o_S_l1Split_4, fun d => b_S_l1Split_4 d.1 d.2.1 d.2.2.1 d.2.2.2.1 d.2.2.2.2.1⟩
noncomputable def pl_S_l1Split : Plan := ⟨[(5, o_S_l1Split_5)], [(4, lp_S_l1Split_4)], 0, 0⟩
noncomputable def f_S_l1Split (t0 : PV .str) (t1 : PV (.int .u8)) : Option (PVs [S_string] × PVs []) :=
  (w_S_l1Split_4 (t0, t1, [], 0, 0, ())).bind fun l3 =>
    bif cutB l3.2.2.1 (l3.1.length : Int) l3.1.length then
      bif roomB (l3.2.1.length + [(cutL l3.2.2.1 (l3.1.length : Int) l3.1)].length) then
        some (((l3.2.1 ++ [(cutL l3.2.2.1 (l3.1.length : Int) l3.1)]), ()), ())
      else
        none
    else
      none
noncomputable def ct_S_l1Split : Ct := ⟨[(.bor, .str), (.bor, (.int .u8))], [(S_string, (.row .b))], fun x => f_S_l1Split x.1 x.2.1⟩
noncomputable def cx_S_l1Split : Cx := ⟨tab, arrs, [], [], gl, []⟩
theorem eb_S_l1Split_4 (t0 : PV .str) (t1 : PV (.int .u8)) (t5 : PV S_string) (t6 : PV (.int .i64)) (t7 : PV (.int .i64)) : denK cx_S_l1Split (rcN cx_S_l1Split 0) pl_S_l1Split 0 ((loopsOf (bodyOf Tryz.f90)).getD 0 .skip) (fillS sh_S_l1Split_4 (t0, t1, t5, t6, t7, ())) (roundK 0 lp_S_l1Split_4) = b_S_l1Split_4 t0 t1 t5 t6 t7 := by kernel_rfl
theorem ef_S_l1Split (t0 : PV .str) (t1 : PV (.int .u8)) : denF cx_S_l1Split 0 pl_S_l1Split Tryz.f90.ntmps (bodyOf Tryz.f90) Tryz.f90.results.toList [(.bor, .str), (.bor, (.int .u8))] [(S_string, (.row .b))] (t0, t1, ()) = f_S_l1Split t0 t1 := by kernel_rfl
theorem ok_S_l1Split : FnOk gl Tryz.prog 90 ct_S_l1Split :=
  fnOk (cx := cx_S_l1Split) (pl := pl_S_l1Split) (dp := 0) (ok0_of tabOk (by unfold ArrOk; kernel_rfl) mix trivial trivial) Tryz.func90 (by kernel_rfl) (by kernel_rfl) (by kernel_rfl)
    (by rw [show loopsOf (bodyOf Tryz.f90) = [((loopsOf (bodyOf Tryz.f90)).getD 0 .skip)] from by kernel_rfl]; exact ⟨(by rw [show lookup pl_S_l1Split.loops (firstId ((loopsOf (bodyOf Tryz.f90)).getD 0 .skip)) = some lp_S_l1Split_4 from by kernel_rfl]; exact fun d z h => (eb_S_l1Split_4 d.1 d.2.1 d.2.2.1 d.2.2.2.1 d.2.2.2.2.1).trans h), trivial⟩) (fun x => ef_S_l1Split x.1 x.2.1)
noncomputable def pl_S_l1In : Plan := ⟨[], [], 0, 0⟩
noncomputable def f_S_l1In (t0 : PV (.int .i64)) (t1 : PV (.int .i64)) (t2 : PV (.int .i64)) : Option (PVs [.bool] × PVs []) :=
  bif (decide (t0 ≥ t1)) then
    some (((decide (t0 ≤ t2)), ()), ())
  else
    some ((false, ()), ())
noncomputable def ct_S_l1In : Ct := ⟨[(.bor, (.int .i64)), (.bor, (.int .i64)), (.bor, (.int .i64))], [(.bool, .b)], fun x => f_S_l1In x.1 x.2.1 x.2.2.1⟩
noncomputable def cx_S_l1In : Cx := ⟨tab, arrs, [], [], gl, []⟩
theorem ef_S_l1In (t0 : PV (.int .i64)) (t1 : PV (.int .i64)) (t2 : PV (.int .i64)) : denF cx_S_l1In 0 pl_S_l1In Tryz.f65.ntmps (bodyOf Tryz.f65) Tryz.f65.results.toList [(.bor, (.int .i64)), (.bor, (.int .i64)), (.bor, (.int .i64))] [(.bool, .b)] (t0, t1, t2, ()) = f_S_l1In t0 t1 t2 := by kernel_rfl
theorem ok_S_l1In : FnOk gl Tryz.prog 65 ct_S_l1In :=
  fnOk (cx := cx_S_l1In) (pl := pl_S_l1In) (dp := 0) (ok0_of tabOk (by unfold ArrOk; kernel_rfl) mix trivial trivial) Tryz.func65 (by kernel_rfl) (by kernel_rfl) (by kernel_rfl)
    (by rw [show loopsOf (bodyOf Tryz.f65) = [] from by kernel_rfl]; exact trivial) (fun x => ef_S_l1In x.1 x.2.1 x.2.2.1)
noncomputable def o_S_l1Read_2 : List Out := [⟨.normal, ⟨[], [0, 18, 30, 31, 32, 33], []⟩, mkSh 44 [(0, .val .str .b), (18, .val .bool .b)]⟩]
noncomputable def o_S_l1Read_8 : List Out := [⟨.normal, ⟨[], [0, 3, 4, 34], []⟩, mkSh 44 [(0, .val .str .b), (3, .val (.int .i64) .b), (4, .val (.int .i64) .b), (34, .val .bool .b)]⟩]
noncomputable def sh_S_l1Read_5 : List Sh := mkSh 44 [(0, .val .str .b), (3, .val (.int .i64) .b), (4, .val (.int .i64) .b)]
noncomputable def o_S_l1Read_5 : List Out := [⟨.exit 0, ⟨[], [3], []⟩, mkSh 44 [(3, .val (.int .i64) .b)]⟩, ⟨.ret, ⟨[], [2], []⟩, mkSh 44 [(2, .val (.int .i64) .b)]⟩]
noncomputable def b_S_l1Read_5 (t0 : PV .str) (t3 : PV (.int .i64)) (t4 : PV (.int .i64)) : Option ((PV .str × PV (.int .i64) × PV (.int .i64) × Unit) ⊕ ((PV (.int .i64) × Unit) ⊕ (PV (.int .i64) × Unit))) :=
  bif (decide (t4 < (t0.length : Int))) then
    ((
        bif inB t4 t0.length then
          bif (decide (((t0.getD t4.toNat 0).toNat : Int) < 48)) then
            some (t0, t3, t4, true, ())
          else
            bif inB t4 t0.length then
              some (t0, t3, t4, (decide (((t0.getD t4.toNat 0).toNat : Int) > 57)), ())
            else
              none
        else
          none : Option ((PV .str × PV (.int .i64) × PV (.int .i64) × PV .bool × Unit)))).bind fun j9 =>
      bif j9.2.2.2.1 then
        some (.inr (.inr ((-1), ())))
      else
        bif inB j9.2.2.1 j9.1.length then
          some (.inl (j9.1, (IntKind.wrap .i64 ((IntKind.wrap .i64 (10 * j9.2.1)) + (IntKind.wrap .i64 (IntKind.wrap .u8 (((j9.1.getD j9.2.2.1.toNat 0).toNat : Int) - 48))))), (IntKind.wrap .i64 (j9.2.2.1 + 1)), ()))
        else
          none
  else
    some (.inr (.inl (t3, ())))
noncomputable def w_S_l1Read_5 : PV .str × PV (.int .i64) × PV (.int .i64) × Unit → Option ((PV (.int .i64) × Unit) ⊕ (PV (.int .i64) × Unit)) := fix fun d => b_S_l1Read_5 d.1 d.2.1 d.2.2.1
noncomputable def lp_S_l1Read_5 : Lp := ⟨⟨[], [0, 3, 4, 30, 31, 32, 33], []⟩, sh_S_l1Read_5, o_S_l1Read_5, fun d => b_S_l1Read_5 d.1 d.2.1 d.2.2.1⟩
noncomputable def pl_S_l1Read : Plan := ⟨[(2, o_S_l1Read_2), (8, o_S_l1Read_8)], [(5, lp_S_l1Read_5)], 0, 0⟩
noncomputable def f_S_l1Read (t0 : PV .str) : Option (PVs [(.int .i64)] × PVs []) :=
  ((
      (f_S_l1In (t0.length : Int) 1 6).bind fun r4 =>
        bif (!r4.1.1) then
          some (t0, true, ())
        else
          bif inB 0 t0.length then
            bif (((t0.getD (0 : Int).toNat 0).toNat : Int) == 48) then
              some (t0, (decide ((t0.length : Int) > 1)), ())
            else
              some (t0, false, ())
          else
            none : Option ((PV .str × PV .bool × Unit)))).bind fun j5 =>
    bif j5.2.1 then
      some (((-1), ()), ())
    else
      (w_S_l1Read_5 (j5.1, 0, 0, ())).bind fun x14 =>
        match x14 with
        | .inl l12 =>
          some ((l12.1, ()), ())
        | .inr l13 =>
          some ((l13.1, ()), ())
noncomputable def ct_S_l1Read : Ct := ⟨[(.bor, .str)], [((.int .i64), .b)], fun x => f_S_l1Read x.1⟩
noncomputable def cx_S_l1Read : Cx := ⟨tab, arrs, [(65, ct_S_l1In)], [], gl, []⟩
theorem eb_S_l1Read_5 (t0 : PV .str) (t3 : PV (.int .i64)) (t4 : PV (.int .i64)) : denK cx_S_l1Read (rcN cx_S_l1Read 0) pl_S_l1Read 0 ((loopsOf (bodyOf Tryz.f110)).getD 0 .skip) (fillS sh_S_l1Read_5 (t0, t3, t4, ())) (roundK 0 lp_S_l1Read_5) = b_S_l1Read_5 t0 t3 t4 := by kernel_rfl
theorem ef_S_l1Read (t0 : PV .str) : denF cx_S_l1Read 0 pl_S_l1Read Tryz.f110.ntmps (bodyOf Tryz.f110) Tryz.f110.results.toList [(.bor, .str)] [((.int .i64), .b)] (t0, ()) = f_S_l1Read t0 := by kernel_rfl
theorem ok_S_l1Read : FnOk gl Tryz.prog 110 ct_S_l1Read :=
  fnOk (cx := cx_S_l1Read) (pl := pl_S_l1Read) (dp := 0) (ok0_of tabOk (by unfold ArrOk; kernel_rfl) mix ⟨ok_S_l1In, trivial⟩ trivial) Tryz.func110 (by kernel_rfl) (by kernel_rfl) (by kernel_rfl)
    (by rw [show loopsOf (bodyOf Tryz.f110) = [((loopsOf (bodyOf Tryz.f110)).getD 0 .skip)] from by kernel_rfl]; exact ⟨(by rw [show lookup pl_S_l1Read.loops (firstId ((loopsOf (bodyOf Tryz.f110)).getD 0 .skip)) = some lp_S_l1Read_5 from by kernel_rfl]; exact fun d z h => (eb_S_l1Read_5 d.1 d.2.1 d.2.2.1).trans h), trivial⟩) (fun x => ef_S_l1Read x.1)
noncomputable def o_S_ReadNumber_3 : List Out := [⟨.normal, ⟨[], [4, 13], []⟩, mkSh 15 [(4, .val (.int .i64) .b), (13, .val .bool .b)]⟩]
noncomputable def pl_S_ReadNumber : Plan := ⟨[(3, o_S_ReadNumber_3)], [], 0, 0⟩
noncomputable def f_S_ReadNumber (t0 : PV .str) : Option (PVs [(.int .i64), .bool] × PVs []) :=
  (f_S_l1Read t0).bind fun r2 =>
    ((
        bif (decide ((t0.length : Int) > 4)) then
          some (r2.1.1, true, ())
        else
          some (r2.1.1, (decide (r2.1.1 < 0)), ()) : Option ((PV (.int .i64) × PV .bool × Unit)))).bind fun j4 =>
      bif j4.2.1 then
        some ((0, false, ()), ())
      else
        some ((j4.1, true, ()), ())
noncomputable def ct_S_ReadNumber : Ct := ⟨[(.bor, .str)], [((.int .i64), .b), (.bool, .b)], fun x => f_S_ReadNumber x.1⟩
noncomputable def cx_S_ReadNumber : Cx := ⟨tab, arrs, [(110, ct_S_l1Read)], [], gl, []⟩
theorem ef_S_ReadNumber (t0 : PV .str) : denF cx_S_ReadNumber 0 pl_S_ReadNumber Tryz.f91.ntmps (bodyOf Tryz.f91) Tryz.f91.results.toList [(.bor, .str)] [((.int .i64), .b), (.bool, .b)] (t0, ()) = f_S_ReadNumber t0 := by kernel_rfl
theorem ok_S_ReadNumber : FnOk gl Tryz.prog 91 ct_S_ReadNumber :=
  fnOk (cx := cx_S_ReadNumber) (pl := pl_S_ReadNumber) (dp := 0) (ok0_of tabOk (by unfold ArrOk; kernel_rfl) mix ⟨ok_S_l1Read, trivial⟩ trivial) Tryz.func91 (by kernel_rfl) (by kernel_rfl) (by kernel_rfl)
    (by rw [show loopsOf (bodyOf Tryz.f91) = [] from by kernel_rfl]; exact trivial) (fun x => ef_S_ReadNumber x.1)
noncomputable def o_S_l4Two_4 : List Out := [⟨.normal, ⟨[], [5, 6, 29, 45, 46], []⟩, mkSh 50 [(5, .val S_string (.row .b)), (6, .val (.int .i64) .b), (29, .val .bool .b)]⟩]
noncomputable def o_S_l4Two_9 : List Out := [⟨.normal, ⟨[], [6, 8, 47], []⟩, mkSh 50 [(6, .val (.int .i64) .b), (8, .val (.int .i64) .b), (47, .val .bool .b)]⟩]
noncomputable def pl_S_l4Two : Plan := ⟨[(4, o_S_l4Two_4), (9, o_S_l4Two_9)], [], 0, 0⟩
noncomputable def f_S_l4Two (t0 : PV .str) : Option (PVs [(.int .i64), (.int .i64), .bool] × PVs []) :=
  (f_S_l1Split t0 44).bind fun r2 =>
    bif inB 0 r2.1.1.length then
      (f_S_ReadNumber (r2.1.1.getD ((0 : Int).toNat) [])).bind fun r4 =>
        ((
            bif (!r4.1.2.1) then
              some (r2.1.1, r4.1.1, true, ())
            else
              bif (decide ((r2.1.1.length : Int) > 2)) then
                some (r2.1.1, r4.1.1, true, ())
              else
                some (r2.1.1, r4.1.1, (decide (r4.1.1 > 1000)), ()) : Option ((PV S_string × PV (.int .i64) × PV .bool × Unit)))).bind fun j6 =>
          bif j6.2.2.1 then
            some ((0, 0, false, ()), ())
          else
            bif ((j6.1.length : Int) == 1) then
              some ((j6.2.1, j6.2.1, true, ()), ())
            else
              bif inB 1 j6.1.length then
                (f_S_ReadNumber (j6.1.getD ((1 : Int).toNat) [])).bind fun r8 =>
                  ((
                      bif (!r8.1.2.1) then
                        some (j6.2.1, r8.1.1, true, ())
                      else
                        some (j6.2.1, r8.1.1, (decide (r8.1.1 > 1000)), ()) : Option ((PV (.int .i64) × PV (.int .i64) × PV .bool × Unit)))).bind fun j10 =>
                    bif j10.2.2.1 then
                      some ((0, 0, false, ()), ())
                    else
                      some ((j10.1, j10.2.1, true, ()), ())
              else
                none
    else
      none
noncomputable def ct_S_l4Two : Ct := ⟨[(.bor, .str)], [((.int .i64), .b), ((.int .i64), .b), (.bool, .b)], fun x => f_S_l4Two x.1⟩
noncomputable def cx_S_l4Two : Cx := ⟨tab, arrs, [(90, ct_S_l1Split), (91, ct_S_ReadNumber)], [], gl, []⟩
theorem ef_S_l4Two (t0 : PV .str) : denF cx_S_l4Two 0 pl_S_l4Two Tryz.f64.ntmps (bodyOf Tryz.f64) Tryz.f64.results.toList [(.bor, .str)] [((.int .i64), .b), ((.int .i64), .b), (.bool, .b)] (t0, ()) = f_S_l4Two t0 := by kernel_rfl
theorem ok_S_l4Two : FnOk gl Tryz.prog 64 ct_S_l4Two :=
  fnOk (cx := cx_S_l4Two) (pl := pl_S_l4Two) (dp := 0) (ok0_of tabOk (by unfold ArrOk; kernel_rfl) mix ⟨ok_S_l1Split, ok_S_ReadNumber, trivial⟩ trivial) Tryz.func64 (by kernel_rfl) (by kernel_rfl) (by kernel_rfl)
    (by rw [show loopsOf (bodyOf Tryz.f64) = [] from by kernel_rfl]; exact trivial) (fun x => ef_S_l4Two x.1)
noncomputable def o_S_ReadPair_3 : List Out := [⟨.normal, ⟨[], [5, 6, 20], []⟩, mkSh 23 [(5, .val (.int .i64) .b), (6, .val (.int .i64) .b), (20, .val .bool .b)]⟩]
noncomputable def pl_S_ReadPair : Plan := ⟨[(3, o_S_ReadPair_3)], [], 0, 0⟩
noncomputable def f_S_ReadPair (t0 : PV .str) : Option (PVs [(.int .i64), (.int .i64), .bool] × PVs []) :=
  (f_S_l4Two t0).bind fun r2 =>
    ((
        bif (!r2.1.2.2.1) then
          some (r2.1.1, r2.1.2.1, true, ())
        else
          some (r2.1.1, r2.1.2.1, (decide (r2.1.1 > r2.1.2.1)), ()) : Option ((PV (.int .i64) × PV (.int .i64) × PV .bool × Unit)))).bind fun j4 =>
      bif j4.2.2.1 then
        some ((0, 0, false, ()), ())
      else
        some ((j4.1, j4.2.1, true, ()), ())
noncomputable def ct_S_ReadPair : Ct := ⟨[(.bor, .str)], [((.int .i64), .b), ((.int .i64), .b), (.bool, .b)], fun x => f_S_ReadPair x.1⟩
noncomputable def cx_S_ReadPair : Cx := ⟨tab, arrs, [(64, ct_S_l4Two)], [], gl, []⟩
theorem ef_S_ReadPair (t0 : PV .str) : denF cx_S_ReadPair 0 pl_S_ReadPair Tryz.f38.ntmps (bodyOf Tryz.f38) Tryz.f38.results.toList [(.bor, .str)] [((.int .i64), .b), ((.int .i64), .b), (.bool, .b)] (t0, ()) = f_S_ReadPair t0 := by kernel_rfl
theorem ok_S_ReadPair : FnOk gl Tryz.prog 38 ct_S_ReadPair :=
  fnOk (cx := cx_S_ReadPair) (pl := pl_S_ReadPair) (dp := 0) (ok0_of tabOk (by unfold ArrOk; kernel_rfl) mix ⟨ok_S_l4Two, trivial⟩ trivial) Tryz.func38 (by kernel_rfl) (by kernel_rfl) (by kernel_rfl)
    (by rw [show loopsOf (bodyOf Tryz.f38) = [] from by kernel_rfl]; exact trivial) (fun x => ef_S_ReadPair x.1)
noncomputable def pl_S_l9Words : Plan := ⟨[], [], 0, 0⟩
noncomputable def f_S_l9Words  : Option (PVs [S_string] × PVs []) :=
  some (([[], [97], [105], [99], [100], [115, 47, 46, 47, 47]], ()), ())
noncomputable def ct_S_l9Words : Ct := ⟨[], [(S_string, (.row .b))], fun x => f_S_l9Words ⟩
noncomputable def cx_S_l9Words : Cx := ⟨tab, arrs, [], [], gl, []⟩
theorem ef_S_l9Words  : denF cx_S_l9Words 0 pl_S_l9Words Tryz.f39.ntmps (bodyOf Tryz.f39) Tryz.f39.results.toList [] [(S_string, (.row .b))] () = f_S_l9Words  := by kernel_rfl
theorem ok_S_l9Words : FnOk gl Tryz.prog 39 ct_S_l9Words :=
  fnOk (cx := cx_S_l9Words) (pl := pl_S_l9Words) (dp := 0) (ok0_of tabOk (by unfold ArrOk; kernel_rfl) mix trivial trivial) Tryz.func39 (by kernel_rfl) (by kernel_rfl) (by kernel_rfl)
    (by rw [show loopsOf (bodyOf Tryz.f39) = [] from by kernel_rfl]; exact trivial) (fun x => ef_S_l9Words )
section
open Go.RowKit Go.Lib
set_option maxHeartbeats 4000000 in
set_option maxRecDepth 100000 in
theorem head_main (s : ByteArray) (w : World) (n m : Int) (b : Bool) (p : Nat) (W : Nat → ByteArray) (hs : s.size ≤ 100000) (hp : p ≤ s.size)
    (hd : ∀ i (h : i < s.size), i < p → Go.Dn.hdB (s[i]'h) = true) (he : ∀ h : p < s.size, Go.Dn.hdB (s[p]'h) = false)
    (hR : ∀ w1, Below w.heap.size w w1 → Calls Tryz.prog 38 #[.string (s.extract 0 p)] w1 fun e w' => e = .returned (.tuple #[.int .i64 n, .int .i64 m, .bool b]) ∧ Below w1.heap.size w1 w')
    (hW : ∀ w1, Below w.heap.size w w1 → Calls Tryz.prog 39 #[] w1 fun e w' => ∃ g c, e = .returned (.slice (some ⟨g, 0, none⟩) 6 c) ∧ w1.heap.size ≤ g ∧ Below w1.heap.size w1 w' ∧ ∀ k, k < 6 → w'.cell? ⟨g, k, none⟩ = some (.string (W k))) :
    Calls Tryz.prog 19 #[.string s] w fun e w' => e = .returned (.tuple #[.agg #[.int .i64 (Go.Dn.kdW W (s.extract p s.size) 6), .int .i64 n, .int .i64 m, .slice none 0 0], .bool (b && decide (0 < Go.Dn.kdW W (s.extract p s.size) 6))]) ∧ Below w.heap.size w w' := by
  go_enter Tryz.func19, Tryz.ntmps19
  go_wp2
  obtain ⟨w0, hw0⟩ : ∃ w0, w.alloc (.cells #[.int .i64 0, .int .i64 0, .int .i64 0, .slice none 0 0] 38) = w0 := ⟨_, rfl⟩
  rw [hw0]
  have hb0 : Below w.heap.size w w0 := by rw [← hw0]; exact (Below.refl _ _).alloc (Nat.le_refl _) _
  go_loopg [4] p (fun g s4 wx => ∃ i : Nat, i + g = p ∧ s4 = .int .i64 i ∧ wx = w0)
  case atStart => exact ⟨0, by omega, rfl, rfl⟩
  case round =>
    obtain ⟨i, hig, rfl, rfl⟩ := hrel
    cases gk with
    | zero =>
      obtain rfl : i = p := by omega
      have hR0 := hR wr hb0
      have hcase : (¬ (i : Int) < (s.size : Int)) ∨ (∃ hi : i < s.size, (i : Int) < (s.size : Int) ∧ ∃ x : UInt8, s[i]'hi = x ∧ ((¬ (48 : Int) ≤ (x.toNat : Int)) ∨ ((48 : Int) ≤ (x.toNat : Int) ∧ ¬ (x.toNat : Int) ≤ 57)) ∧ ((x.toNat : Int) == 44) = false) := by
        by_cases hi : i < s.size
        · exact .inr ⟨hi, by omega, _, rfl, Go.Dn.hd_no (he hi)⟩
        · exact .inl (by omega)
      rcases hcase with hiz | ⟨hi, hiz, x, hxx, h1 | ⟨h1, h2⟩, h3⟩
      all_goals (
        clear he hd
        go_wp2_with (go_at_fn 38; go_fit hR0; rintro e w' ⟨rfl, hb⟩)
        refine hR0.mono ?_
        rintro e w1 ⟨rfl, hb1⟩
        have hbx : Below w.heap.size w (w1.alloc (.cells #[.int .i64 0, .int .i64 n, .int .i64 m, .slice none 0 0] 38)) := (hb0.trans (hb1.mono hb0.size)).alloc (Nat.le_trans hb0.size hb1.size) _
        have hW0 := hW _ hbx
        go_wp2_with (go_at_fn 39; go_fit hW0; rintro e w' ⟨rfl, hb⟩)
        refine hW0.mono ?_
        rintro e w2 ⟨g, c, rfl, hg, hb2, hwd⟩
        have hH : Go.Dn.Hd4 w w2 w.heap.size w1.heap.size g 38 0 n m W := Go.Dn.Hd4.start hw0 hb1 hbx hg hb2 hwd
        have hiz2 : (i : Int) ≤ (s.size : Int) := by omega
        clear hR hW hW0 hR0 hwd
        go_wp2
        go_loopg [48] 6 (fun gh s48 wy => ∃ k : Nat, k + gh = 6 ∧ s48 = .int .i64 k ∧ Go.Dn.Hd4 w wy w.heap.size w1.heap.size g 38 (Go.Dn.kdW W (s.extract i s.size) k) n m W)
        case atStart => exact ⟨0, rfl, rfl, hH⟩
        case round =>
          obtain ⟨k, hkg, rfl, hK⟩ := hrel
          cases gk with
          | zero =>
            obtain rfl : k = 6 := by omega
            have hx0 : wr.cell? ⟨w1.heap.size, 0, none⟩ = some (.int .i64 (Go.Dn.kdW W (s.extract i s.size) 6)) := by rw [Go.Dn.cell_of_heap hK.x]; rfl
            have hx1 : wr.cell? ⟨w1.heap.size, 1, none⟩ = some (.int .i64 n) := by rw [Go.Dn.cell_of_heap hK.x]; rfl
            have hx2 : wr.cell? ⟨w1.heap.size, 2, none⟩ = some (.int .i64 m) := by rw [Go.Dn.cell_of_heap hK.x]; rfl
            have hx3 : wr.cell? ⟨w1.heap.size, 3, none⟩ = some (.slice none 0 0) := by rw [Go.Dn.cell_of_heap hK.x]; rfl
            have hr0 : wr.cell? ⟨w.heap.size, 0, none⟩ = some (.int .i64 0) := by rw [Go.Dn.cell_of_heap hK.r]; rfl
            have hr1 : wr.cell? ⟨w.heap.size, 1, none⟩ = some (.int .i64 0) := by rw [Go.Dn.cell_of_heap hK.r]; rfl
            have hr2 : wr.cell? ⟨w.heap.size, 2, none⟩ = some (.int .i64 0) := by rw [Go.Dn.cell_of_heap hK.r]; rfl
            have hr3 : wr.cell? ⟨w.heap.size, 3, none⟩ = some (.slice none 0 0) := by rw [Go.Dn.cell_of_heap hK.r]; rfl
            have hf0 := (hK.fz 0).2
            have hf1 := (hK.fz 1).2
            have hf2 := (hK.fz 2).2
            have hf3 := (hK.fz 3).2
            have hbw : Aside (Below w.heap.size w wr) := hK.below
            have hne1 : ¬ w1.heap.size = w.heap.size := by have := hK.ne; omega
            have hne2 : ¬ w.heap.size = w1.heap.size := by have := hK.ne; omega
            obtain ⟨q, hq⟩ : ∃ q, Go.Dn.kdW W (s.extract i s.size) 6 = q := ⟨_, rfl⟩
            rw [hq] at hx0
            clear hK hH
            cases b
            · go_wp2
              go_region
              go_wp2
              (try simp only [Exit.inBlock, Exit.then])
              refine bodyPost_ret (v := .tuple #[.agg #[.int .i64 q, .int .i64 n, .int .i64 m, .slice none 0 0], .bool false]) ?_ rfl ⟨by rw [hq]; rfl, ?_⟩
              · rw [results_cell_tmp rfl]
                go_simp
              · exact ((((hbw.out.setCell (p := ⟨w.heap.size, 0, none⟩) (Nat.le_refl _) _).setCell (p := ⟨w.heap.size, 1, none⟩) (Nat.le_refl _) _).setCell (p := ⟨w.heap.size, 2, none⟩) (Nat.le_refl _) _).setCell (p := ⟨w.heap.size, 3, none⟩) (Nat.le_refl _) _).drew
            · go_wp2
              go_region
              go_wp2
              (try simp only [Exit.inBlock, Exit.then])
              refine bodyPost_ret (v := .tuple #[.agg #[.int .i64 q, .int .i64 n, .int .i64 m, .slice none 0 0], .bool (decide (0 < q))]) ?_ rfl ⟨by rw [hq]; rfl, ?_⟩
              · rw [results_cell_tmp rfl]
                go_simp
              · exact ((((hbw.out.setCell (p := ⟨w.heap.size, 0, none⟩) (Nat.le_refl _) _).setCell (p := ⟨w.heap.size, 1, none⟩) (Nat.le_refl _) _).setCell (p := ⟨w.heap.size, 2, none⟩) (Nat.le_refl _) _).setCell (p := ⟨w.heap.size, 3, none⟩) (Nat.le_refl _) _).drew
          | succ gh =>
            have hk6 : (k : Int) < 6 := by omega
            have hcell := hK.wd k (by omega)
            have hc0 : wr.cell? ⟨w1.heap.size, 0, none⟩ = some (.int .i64 (Go.Dn.kdW W (s.extract i s.size) k)) := by rw [Go.Dn.cell_of_heap hK.x]; rfl
            have hf0 := (hK.fz 0).1
            by_cases hk0 : 0 < k
            · have hk0z : (0 : Int) < (k : Int) := by omega
              by_cases hm : W k = s.extract i s.size
              · have hmb : ((W k).toList == (s.extract i s.size).toList) = true := by rw [hm]; exact Go.Dn.ba_eq _
                have hkd : Go.Dn.kdW W (s.extract i s.size) (k + 1) = (k : Int) := if_pos ⟨hk0, hm⟩
                have HK : Aside (Go.Dn.Hd4 w (wr.setCell ⟨w1.heap.size, 0, none⟩ (.int .i64 (k : Int))) w.heap.size w1.heap.size g 38 (Go.Dn.kdW W (s.extract i s.size) (k + 1)) n m W) := by
                  rw [hkd]
                  exact hK.set (k : Int)
                clear hK hm hH hkd
                go_wp2
                go_roundg gh
                case measure => omega
                case rel => exact ⟨k + 1, by omega, by first | rfl | simp, HK.out⟩
              · have hmb : ((W k).toList == (s.extract i s.size).toList) = false := Go.Dn.ba_ne hm
                have hkd : Go.Dn.kdW W (s.extract i s.size) (k + 1) = Go.Dn.kdW W (s.extract i s.size) k := if_neg fun h => hm h.2
                rw [← hkd] at hK
                have HK : Aside (Go.Dn.Hd4 w wr w.heap.size w1.heap.size g 38 (Go.Dn.kdW W (s.extract i s.size) (k + 1)) n m W) := hK
                clear hK hm hH hkd
                go_wp2
                go_roundg gh
                case measure => omega
                case rel => exact ⟨k + 1, by omega, by first | rfl | simp, HK.out⟩
            · have hk0z : ¬ (0 : Int) < (k : Int) := by omega
              have hkd : Go.Dn.kdW W (s.extract i s.size) (k + 1) = Go.Dn.kdW W (s.extract i s.size) k := if_neg fun h => hk0 h.1
              rw [← hkd] at hK
              have HK : Aside (Go.Dn.Hd4 w wr w.heap.size w1.heap.size g 38 (Go.Dn.kdW W (s.extract i s.size) (k + 1)) n m W) := hK
              clear hK hH hkd
              go_wp2
              go_roundg gh
              case measure => omega
              case rel => exact ⟨k + 1, by omega, by first | rfl | simp, HK.out⟩)
    | succ g =>
      have hi : i < s.size := by omega
      have hx := hd i hi (by omega)
      obtain ⟨x, hxx⟩ : ∃ x : UInt8, s[i]'hi = x := ⟨_, rfl⟩
      rw [hxx] at hx
      have hiz : (i : Int) < (s.size : Int) := by omega
      by_cases h1 : (48 : Int) ≤ (x.toNat : Int)
      · by_cases h2 : (x.toNat : Int) ≤ 57
        · clear hx
          go_wp2
          go_roundg g
          case measure => omega
          case rel => exact ⟨i + 1, by omega, by first | rfl | simp, rfl⟩
        · have hx44 : ((x.toNat : Int) == 44) = true := Go.Dn.hd_44 hx (fun _ => h2)
          clear hx
          go_wp2
          go_roundg g
          case measure => omega
          case rel => exact ⟨i + 1, by omega, by first | rfl | simp, rfl⟩
      · have hx44 : ((x.toNat : Int) == 44) = true := Go.Dn.hd_44 hx (fun h => absurd h h1)
        clear hx
        go_wp2
        go_roundg g
        case measure => omega
        case rel => exact ⟨i + 1, by omega, by first | rfl | simp, rfl⟩
end

noncomputable def f_S_l9Head (t0 : PV .str) : Option (PVs [Y_impl_Order, .bool] × PVs []) := Go.Dn.headF 9 f_S_ReadPair [[], [97], [105], [99], [100], [115, 47, 46, 47, 47]] t0
noncomputable def ct_S_l9Head : Ct := ⟨[(.bor, .str)], [(Y_impl_Order, (.pr .b (.pr .b (.pr .b (.pr (.row .b) .b))))), (.bool, .b)], fun x => f_S_l9Head x.1⟩
theorem ok_S_l9Head : FnOk gl Tryz.prog 19 ct_S_l9Head := Go.Dn.head_ok (e := 9) (RP := f_S_ReadPair) (ws := [[], [97], [105], [99], [100], [115, 47, 46, 47, 47]]) rfl ⟨_, Tryz.func19, rfl, by kernel_rfl⟩ ok_S_ReadPair ok_S_l9Words head_main
noncomputable def o_S_l1Cut_5 : List Out := [⟨.normal, ⟨[], [0, 3, 4, 5], []⟩, mkSh 37 [(0, .val .str .b), (3, .val S_string (.row .b)), (4, .val (.int .i64) .b), (5, .val (.int .i64) .b)]⟩]
noncomputable def o_S_l1Cut_11 : List Out := [⟨.normal, ⟨[], [3], []⟩, mkSh 37 [(3, .val S_string (.row .b))]⟩]
noncomputable def sh_S_l1Cut_4 : List Sh := mkSh 37 [(0, .val .str .b), (3, .val S_string (.row .b)), (4, .val (.int .i64) .b), (5, .val (.int .i64) .b)]
noncomputable def o_S_l1Cut_4 : List Out := [⟨.exit 0, ⟨[], [0, 3, 4], []⟩, mkSh 37 [(0, .val .str .b), (3, .val S_string (.row .b)), (4, .val (.int .i64) .b)]⟩]
noncomputable def b_S_l1Cut_4 (t0 : PV .str) (t3 : PV S_string) (t4 : PV (.int .i64)) (t5 : PV (.int .i64)) : Option ((PV .str × PV S_string × PV (.int .i64) × PV (.int .i64) × Unit) ⊕ ((PV .str × PV S_string × PV (.int .i64) × Unit))) :=
  bif (decide (t5 < (t0.length : Int))) then
    ((
        bif inB t5 t0.length then
          bif (((t0.getD t5.toNat 0).toNat : Int) == 10) then
            bif cutB t4 (IntKind.wrap .i64 (t5 + 1)) t0.length then
              bif roomB (t3.length + [(cutL t4 (IntKind.wrap .i64 (t5 + 1)) t0)].length) then
                some (t0, (t3 ++ [(cutL t4 (IntKind.wrap .i64 (t5 + 1)) t0)]), (IntKind.wrap .i64 (t5 + 1)), t5, ())
              else
                none
            else
              none
          else
            some (t0, t3, t4, t5, ())
        else
          none : Option ((PV .str × PV S_string × PV (.int .i64) × PV (.int .i64) × Unit)))).bind fun j1 =>
      some (.inl (j1.1, j1.2.1, j1.2.2.1, (IntKind.wrap .i64 (j1.2.2.2.1 + 1)), ()))
  else
    some (.inr (t0, t3, t4, ()))
noncomputable def w_S_l1Cut_4 : PV .str × PV S_string × PV (.int .i64) × PV (.int .i64) × Unit → Option ((PV .str × PV S_string × PV (.int .i64) × Unit)) := fix fun d => b_S_l1Cut_4 d.1 d.2.1 d.2.2.1 d.2.2.2.1
noncomputable def lp_S_l1Cut_4 : Lp := ⟨⟨[], [0, 3, 4, 5], []⟩, sh_S_l1Cut_4, o_S_l1Cut_4, fun d => b_S_l1Cut_4 d.1 d.2.1 d.2.2.1 d.2.2.2.1⟩
noncomputable def pl_S_l1Cut : Plan := ⟨[(5, o_S_l1Cut_5), (11, o_S_l1Cut_11)], [(4, lp_S_l1Cut_4)], 0, 0⟩
noncomputable def f_S_l1Cut (t0 : PV .str) : Option (PVs [S_string] × PVs []) :=
  (w_S_l1Cut_4 (t0, [], 0, 0, ())).bind fun l3 =>
    ((
        bif (decide (l3.2.2.1 < (l3.1.length : Int))) then
          bif cutB l3.2.2.1 (l3.1.length : Int) l3.1.length then
            bif roomB (l3.2.1.length + [(cutL l3.2.2.1 (l3.1.length : Int) l3.1)].length) then
              some ((l3.2.1 ++ [(cutL l3.2.2.1 (l3.1.length : Int) l3.1)]), ())
            else
              none
          else
            none
        else
          some (l3.2.1, ()) : Option ((PV S_string × Unit)))).bind fun j4 =>
      some ((j4.1, ()), ())
noncomputable def ct_S_l1Cut : Ct := ⟨[(.bor, .str)], [(S_string, .b)], fun x => f_S_l1Cut x.1⟩
noncomputable def cx_S_l1Cut : Cx := ⟨tab, arrs, [], [], gl, []⟩
theorem eb_S_l1Cut_4 (t0 : PV .str) (t3 : PV S_string) (t4 : PV (.int .i64)) (t5 : PV (.int .i64)) : denK cx_S_l1Cut (rcN cx_S_l1Cut 0) pl_S_l1Cut 0 ((loopsOf (bodyOf Tryz.f18)).getD 0 .skip) (fillS sh_S_l1Cut_4 (t0, t3, t4, t5, ())) (roundK 0 lp_S_l1Cut_4) = b_S_l1Cut_4 t0 t3 t4 t5 := by kernel_rfl
theorem ef_S_l1Cut (t0 : PV .str) : denF cx_S_l1Cut 0 pl_S_l1Cut Tryz.f18.ntmps (bodyOf Tryz.f18) Tryz.f18.results.toList [(.bor, .str)] [(S_string, .b)] (t0, ()) = f_S_l1Cut t0 := by kernel_rfl
theorem ok_S_l1Cut : FnOk gl Tryz.prog 18 ct_S_l1Cut :=
  fnOk (cx := cx_S_l1Cut) (pl := pl_S_l1Cut) (dp := 0) (ok0_of tabOk (by unfold ArrOk; kernel_rfl) mix trivial trivial) Tryz.func18 (by kernel_rfl) (by kernel_rfl) (by kernel_rfl)
    (by rw [show loopsOf (bodyOf Tryz.f18) = [((loopsOf (bodyOf Tryz.f18)).getD 0 .skip)] from by kernel_rfl]; exact ⟨(by rw [show lookup pl_S_l1Cut.loops (firstId ((loopsOf (bodyOf Tryz.f18)).getD 0 .skip)) = some lp_S_l1Cut_4 from by kernel_rfl]; exact fun d z h => (eb_S_l1Cut_4 d.1 d.2.1 d.2.2.1 d.2.2.2.1).trans h), trivial⟩) (fun x => ef_S_l1Cut x.1)
noncomputable def pl_S_l1Ends : Plan := ⟨[], [], 0, 0⟩
noncomputable def f_S_l1Ends (t0 : PV .str) : Option (PVs [.bool] × PVs []) :=
  bif inB (IntKind.wrap .i64 ((t0.length : Int) - 1)) t0.length then
    some (((((t0.getD (IntKind.wrap .i64 ((t0.length : Int) - 1)).toNat 0).toNat : Int) == 10), ()), ())
  else
    none
noncomputable def ct_S_l1Ends : Ct := ⟨[(.bor, .str)], [(.bool, .b)], fun x => f_S_l1Ends x.1⟩
noncomputable def cx_S_l1Ends : Cx := ⟨tab, arrs, [], [], gl, []⟩
theorem ef_S_l1Ends (t0 : PV .str) : denF cx_S_l1Ends 0 pl_S_l1Ends Tryz.f40.ntmps (bodyOf Tryz.f40) Tryz.f40.results.toList [(.bor, .str)] [(.bool, .b)] (t0, ()) = f_S_l1Ends t0 := by kernel_rfl
theorem ok_S_l1Ends : FnOk gl Tryz.prog 40 ct_S_l1Ends :=
  fnOk (cx := cx_S_l1Ends) (pl := pl_S_l1Ends) (dp := 0) (ok0_of tabOk (by unfold ArrOk; kernel_rfl) mix trivial trivial) Tryz.func40 (by kernel_rfl) (by kernel_rfl) (by kernel_rfl)
    (by rw [show loopsOf (bodyOf Tryz.f40) = [] from by kernel_rfl]; exact trivial) (fun x => ef_S_l1Ends x.1)
noncomputable def pl_S_l1Plain : Plan := ⟨[], [], 0, 0⟩
noncomputable def f_S_l1Plain (t0 : PV .str) : Option (PVs [.str] × PVs []) :=
  (f_S_l1Ends t0).bind fun r4 =>
    bif r4.1.1 then
      bif cutB 0 (IntKind.wrap .i64 ((t0.length : Int) - 1)) t0.length then
        some (((cutL 0 (IntKind.wrap .i64 ((t0.length : Int) - 1)) t0), ()), ())
      else
        none
    else
      some ((t0, ()), ())
noncomputable def ct_S_l1Plain : Ct := ⟨[(.bor, .str)], [(.str, .b)], fun x => f_S_l1Plain x.1⟩
noncomputable def cx_S_l1Plain : Cx := ⟨tab, arrs, [(40, ct_S_l1Ends)], [], gl, []⟩
theorem ef_S_l1Plain (t0 : PV .str) : denF cx_S_l1Plain 0 pl_S_l1Plain Tryz.f20.ntmps (bodyOf Tryz.f20) Tryz.f20.results.toList [(.bor, .str)] [(.str, .b)] (t0, ()) = f_S_l1Plain t0 := by kernel_rfl
theorem ok_S_l1Plain : FnOk gl Tryz.prog 20 ct_S_l1Plain :=
  fnOk (cx := cx_S_l1Plain) (pl := pl_S_l1Plain) (dp := 0) (ok0_of tabOk (by unfold ArrOk; kernel_rfl) mix ⟨ok_S_l1Ends, trivial⟩ trivial) Tryz.func20 (by kernel_rfl) (by kernel_rfl) (by kernel_rfl)
    (by rw [show loopsOf (bodyOf Tryz.f20) = [] from by kernel_rfl]; exact trivial) (fun x => ef_S_l1Plain x.1)
noncomputable def sh_S_l1Line_2 : List Sh := mkSh 18 [(0, .val .str .b), (3, .val (.int .i64) .b)]
noncomputable def o_S_l1Line_2 : List Out := [⟨.exit 0, ⟨[], [0], []⟩, mkSh 18 [(0, .val .str .b)]⟩, ⟨.ret, ⟨[], [2], []⟩, mkSh 18 [(2, .val .bool .b)]⟩]
noncomputable def b_S_l1Line_2 (t0 : PV .str) (t3 : PV (.int .i64)) : Option ((PV .str × PV (.int .i64) × Unit) ⊕ ((PV .str × Unit) ⊕ (PV .bool × Unit))) :=
  bif (decide (t3 < (IntKind.wrap .i64 ((t0.length : Int) - 1)))) then
    bif inB t3 t0.length then
      bif (((t0.getD t3.toNat 0).toNat : Int) == 10) then
        some (.inr (.inr (false, ())))
      else
        some (.inl (t0, (IntKind.wrap .i64 (t3 + 1)), ()))
    else
      none
  else
    some (.inr (.inl (t0, ())))
noncomputable def w_S_l1Line_2 : PV .str × PV (.int .i64) × Unit → Option ((PV .str × Unit) ⊕ (PV .bool × Unit)) := fix fun d => b_S_l1Line_2 d.1 d.2.1
noncomputable def lp_S_l1Line_2 : Lp := ⟨⟨[], [0, 3], []⟩, sh_S_l1Line_2, o_S_l1Line_2, fun d => b_S_l1Line_2 d.1 d.2.1⟩
noncomputable def pl_S_l1Line : Plan := ⟨[], [(2, lp_S_l1Line_2)], 0, 0⟩
noncomputable def f_S_l1Line (t0 : PV .str) : Option (PVs [.bool] × PVs []) :=
  (w_S_l1Line_2 (t0, 0, ())).bind fun x6 =>
    match x6 with
    | .inl l3 =>
      (f_S_l1In (l3.1.length : Int) 1 30).bind fun r4 =>
        some ((r4.1.1, ()), ())
    | .inr l5 =>
      some ((l5.1, ()), ())
noncomputable def ct_S_l1Line : Ct := ⟨[(.bor, .str)], [(.bool, .b)], fun x => f_S_l1Line x.1⟩
noncomputable def cx_S_l1Line : Cx := ⟨tab, arrs, [(65, ct_S_l1In)], [], gl, []⟩
theorem eb_S_l1Line_2 (t0 : PV .str) (t3 : PV (.int .i64)) : denK cx_S_l1Line (rcN cx_S_l1Line 0) pl_S_l1Line 0 ((loopsOf (bodyOf Tryz.f92)).getD 0 .skip) (fillS sh_S_l1Line_2 (t0, t3, ())) (roundK 0 lp_S_l1Line_2) = b_S_l1Line_2 t0 t3 := by kernel_rfl
theorem ef_S_l1Line (t0 : PV .str) : denF cx_S_l1Line 0 pl_S_l1Line Tryz.f92.ntmps (bodyOf Tryz.f92) Tryz.f92.results.toList [(.bor, .str)] [(.bool, .b)] (t0, ()) = f_S_l1Line t0 := by kernel_rfl
theorem ok_S_l1Line : FnOk gl Tryz.prog 92 ct_S_l1Line :=
  fnOk (cx := cx_S_l1Line) (pl := pl_S_l1Line) (dp := 0) (ok0_of tabOk (by unfold ArrOk; kernel_rfl) mix ⟨ok_S_l1In, trivial⟩ trivial) Tryz.func92 (by kernel_rfl) (by kernel_rfl) (by kernel_rfl)
    (by rw [show loopsOf (bodyOf Tryz.f92) = [((loopsOf (bodyOf Tryz.f92)).getD 0 .skip)] from by kernel_rfl]; exact ⟨(by rw [show lookup pl_S_l1Line.loops (firstId ((loopsOf (bodyOf Tryz.f92)).getD 0 .skip)) = some lp_S_l1Line_2 from by kernel_rfl]; exact fun d z h => (eb_S_l1Line_2 d.1 d.2.1).trans h), trivial⟩) (fun x => ef_S_l1Line x.1)
noncomputable def o_S_l9Lines_5 : List Out := [⟨.normal, ⟨[], [0, 5, 6, 7, 22], []⟩, mkSh 27 [(0, .val S_string .b), (5, .val S_string .b), (6, .val (.int .i64) .b), (7, .val (.int .i64) .b), (22, .val .bool .b)]⟩]
noncomputable def sh_S_l9Lines_2 : List Sh := mkSh 27 [(0, .val S_string .b), (5, .val S_string .b), (6, .val (.int .i64) .b), (7, .val (.int .i64) .b)]
noncomputable def o_S_l9Lines_2 : List Out := [⟨.exit 0, ⟨[], [0], []⟩, mkSh 27 [(0, .val S_string .b)]⟩, ⟨.ret, ⟨[], [2], []⟩, mkSh 27 [(2, .val .bool .b)]⟩]
noncomputable def b_S_l9Lines_2 (t0 : PV S_string) (t5 : PV S_string) (t6 : PV (.int .i64)) (t7 : PV (.int .i64)) : Option ((PV S_string × PV S_string × PV (.int .i64) × PV (.int .i64) × Unit) ⊕ ((PV S_string × Unit) ⊕ (PV .bool × Unit))) :=
  bif (decide (t7 < t6)) then
    bif inB t7 t5.length then
      ((
          (f_S_l1Line (t5.getD t7.toNat [])).bind fun r4 =>
            bif (!r4.1.1) then
              some (t0, t5, t6, t7, true, ())
            else
              (f_S_l1Ends (t5.getD t7.toNat [])).bind fun r5 =>
                bif (!r5.1.1) then
                  some (t0, t5, t6, t7, true, ())
                else
                  some (t0, t5, t6, t7, ((t5.getD t7.toNat []) == [46, 10]), ()) : Option ((PV S_string × PV S_string × PV (.int .i64) × PV (.int .i64) × PV .bool × Unit)))).bind fun j6 =>
        bif j6.2.2.2.2.1 then
          some (.inr (.inr (false, ())))
        else
          some (.inl (j6.1, j6.2.1, j6.2.2.1, (IntKind.wrap .i64 (j6.2.2.2.1 + 1)), ()))
    else
      none
  else
    some (.inr (.inl (t0, ())))
noncomputable def w_S_l9Lines_2 : PV S_string × PV S_string × PV (.int .i64) × PV (.int .i64) × Unit → Option ((PV S_string × Unit) ⊕ (PV .bool × Unit)) := fix fun d => b_S_l9Lines_2 d.1 d.2.1 d.2.2.1 d.2.2.2.1
noncomputable def lp_S_l9Lines_2 : Lp := ⟨⟨[], [0, 5, 6, 7, 15, 16, 17, 20, 21], []⟩, sh_S_l9Lines_2, o_S_l9Lines_2, fun d => b_S_l9Lines_2 d.1 d.2.1 d.2.2.1 d.2.2.2.1⟩
noncomputable def pl_S_l9Lines : Plan := ⟨[(5, o_S_l9Lines_5)], [(2, lp_S_l9Lines_2)], 0, 0⟩
noncomputable def f_S_l9Lines (t0 : PV S_string) : Option (PVs [.bool] × PVs []) :=
  (w_S_l9Lines_2 (t0, t0, (t0.length : Int), 0, ())).bind fun x12 =>
    match x12 with
    | .inl l9 =>
      (f_S_l1In (l9.1.length : Int) 1 40).bind fun r10 =>
        some ((r10.1.1, ()), ())
    | .inr l11 =>
      some ((l11.1, ()), ())
noncomputable def ct_S_l9Lines : Ct := ⟨[(.bor, S_string)], [(.bool, .b)], fun x => f_S_l9Lines x.1⟩
noncomputable def cx_S_l9Lines : Cx := ⟨tab, arrs, [(40, ct_S_l1Ends), (65, ct_S_l1In), (92, ct_S_l1Line)], [], gl, []⟩
theorem eb_S_l9Lines_2 (t0 : PV S_string) (t5 : PV S_string) (t6 : PV (.int .i64)) (t7 : PV (.int .i64)) : denK cx_S_l9Lines (rcN cx_S_l9Lines 0) pl_S_l9Lines 0 ((loopsOf (bodyOf Tryz.f66)).getD 0 .skip) (fillS sh_S_l9Lines_2 (t0, t5, t6, t7, ())) (roundK 0 lp_S_l9Lines_2) = b_S_l9Lines_2 t0 t5 t6 t7 := by kernel_rfl
theorem ef_S_l9Lines (t0 : PV S_string) : denF cx_S_l9Lines 0 pl_S_l9Lines Tryz.f66.ntmps (bodyOf Tryz.f66) Tryz.f66.results.toList [(.bor, S_string)] [(.bool, .b)] (t0, ()) = f_S_l9Lines t0 := by kernel_rfl
theorem ok_S_l9Lines : FnOk gl Tryz.prog 66 ct_S_l9Lines :=
  fnOk (cx := cx_S_l9Lines) (pl := pl_S_l9Lines) (dp := 0) (ok0_of tabOk (by unfold ArrOk; kernel_rfl) mix ⟨ok_S_l1Ends, ok_S_l1In, ok_S_l1Line, trivial⟩ trivial) Tryz.func66 (by kernel_rfl) (by kernel_rfl) (by kernel_rfl)
    (by rw [show loopsOf (bodyOf Tryz.f66) = [((loopsOf (bodyOf Tryz.f66)).getD 0 .skip)] from by kernel_rfl]; exact ⟨(by rw [show lookup pl_S_l9Lines.loops (firstId ((loopsOf (bodyOf Tryz.f66)).getD 0 .skip)) = some lp_S_l9Lines_2 from by kernel_rfl]; exact fun d z h => (eb_S_l9Lines_2 d.1 d.2.1 d.2.2.1 d.2.2.2.1).trans h), trivial⟩) (fun x => ef_S_l9Lines x.1)
noncomputable def o_S_l9Order_2 : List Out := [⟨.normal, ⟨[], [1, 14, 25, 26, 27, 37, 38, 39, 42, 43, 44, 52, 53, 54, 62, 63, 64, 65, 71, 72, 73, 76, 77, 78, 79, 80, 83, 84, 85, 86], []⟩, mkSh 88 [(1, .var Y_impl_Order .b), (14, .val .bool .b)]⟩]
noncomputable def pl_S_l9Order : Plan := ⟨[(2, o_S_l9Order_2)], [], 0, 0⟩
noncomputable def f_S_l9Order (t0 : PV Y_impl_Order) : Option (PVs [.bool] × PVs []) :=
  ((
      (f_S_l1In t0.2.1 0 1000).bind fun r6 =>
        bif (!r6.1.1) then
          some (t0, true, ())
        else
          (f_S_l1In t0.2.2.1 t0.2.1 1000).bind fun r7 =>
            some (t0, (!r7.1.1), ()) : Option ((PV Y_impl_Order × PV .bool × Unit)))).bind fun j8 =>
    bif j8.2.1 then
      some ((false, ()), ())
    else
      bif (j8.1.1 == 1) then
        bif (j8.1.2.2.1 == j8.1.2.1) then
          (f_S_l9Lines j8.1.2.2.2.1).bind fun r12 =>
            some ((r12.1.1, ()), ())
        else
          some ((false, ()), ())
      else
        bif (j8.1.1 == 2) then
          bif (j8.1.2.2.1 == j8.1.2.1) then
            bif (decide (j8.1.2.1 ≥ 1)) then
              (f_S_l9Lines j8.1.2.2.2.1).bind fun r13 =>
                some ((r13.1.1, ()), ())
            else
              some ((false, ()), ())
          else
            some ((false, ()), ())
        else
          bif (j8.1.1 == 3) then
            bif (decide (j8.1.2.1 ≥ 1)) then
              (f_S_l9Lines j8.1.2.2.2.1).bind fun r14 =>
                some ((r14.1.1, ()), ())
            else
              some ((false, ()), ())
          else
            bif (j8.1.1 == 4) then
              bif (decide (j8.1.2.1 ≥ 1)) then
                some ((((j8.1.2.2.2.1.length : Int) == 0), ()), ())
              else
                some ((false, ()), ())
            else
              bif (j8.1.1 == 5) then
                bif (decide (j8.1.2.1 ≥ 1)) then
                  bif (j8.1.2.2.1 == j8.1.2.1) then
                    some ((((j8.1.2.2.2.1.length : Int) == 0), ()), ())
                  else
                    some ((false, ()), ())
                else
                  some ((false, ()), ())
              else
                some ((false, ()), ())
noncomputable def ct_S_l9Order : Ct := ⟨[(.bor, Y_impl_Order)], [(.bool, .b)], fun x => f_S_l9Order x.1⟩
noncomputable def cx_S_l9Order : Cx := ⟨tab, arrs, [(65, ct_S_l1In), (66, ct_S_l9Lines)], [], gl, []⟩
theorem ef_S_l9Order (t0 : PV Y_impl_Order) : denF cx_S_l9Order 0 pl_S_l9Order Tryz.f41.ntmps (bodyOf Tryz.f41) Tryz.f41.results.toList [(.bor, Y_impl_Order)] [(.bool, .b)] (t0, ()) = f_S_l9Order t0 := by kernel_rfl
theorem ok_S_l9Order : FnOk gl Tryz.prog 41 ct_S_l9Order :=
  fnOk (cx := cx_S_l9Order) (pl := pl_S_l9Order) (dp := 0) (ok0_of tabOk (by unfold ArrOk; kernel_rfl) mix ⟨ok_S_l1In, ok_S_l9Lines, trivial⟩ trivial) Tryz.func41 (by kernel_rfl) (by kernel_rfl) (by kernel_rfl)
    (by rw [show loopsOf (bodyOf Tryz.f41) = [] from by kernel_rfl]; exact trivial) (fun x => ef_S_l9Order x.1)
noncomputable def sh_S_l9Good_2 : List Sh := mkSh 18 [(0, .val S_impl_Order .b), (5, .val S_impl_Order .b), (6, .val (.int .i64) .b), (7, .val (.int .i64) .b)]
noncomputable def o_S_l9Good_2 : List Out := [⟨.exit 0, ⟨[], [0], []⟩, mkSh 18 [(0, .val S_impl_Order .b)]⟩, ⟨.ret, ⟨[], [2], []⟩, mkSh 18 [(2, .val .bool .b)]⟩]
noncomputable def b_S_l9Good_2 (t0 : PV S_impl_Order) (t5 : PV S_impl_Order) (t6 : PV (.int .i64)) (t7 : PV (.int .i64)) : Option ((PV S_impl_Order × PV S_impl_Order × PV (.int .i64) × PV (.int .i64) × Unit) ⊕ ((PV S_impl_Order × Unit) ⊕ (PV .bool × Unit))) :=
  bif (decide (t7 < t6)) then
    bif inB t7 t5.length then
      (f_S_l9Order (t5.getD t7.toNat (dflt Y_impl_Order))).bind fun r4 =>
        bif (!r4.1.1) then
          some (.inr (.inr (false, ())))
        else
          some (.inl (t0, t5, t6, (IntKind.wrap .i64 (t7 + 1)), ()))
    else
      none
  else
    some (.inr (.inl (t0, ())))
noncomputable def w_S_l9Good_2 : PV S_impl_Order × PV S_impl_Order × PV (.int .i64) × PV (.int .i64) × Unit → Option ((PV S_impl_Order × Unit) ⊕ (PV .bool × Unit)) := fix fun d => b_S_l9Good_2 d.1 d.2.1 d.2.2.1 d.2.2.2.1
noncomputable def lp_S_l9Good_2 : Lp := ⟨⟨[], [0, 5, 6, 7], []⟩, sh_S_l9Good_2, o_S_l9Good_2, fun d => b_S_l9Good_2 d.1 d.2.1 d.2.2.1 d.2.2.2.1⟩
noncomputable def pl_S_l9Good : Plan := ⟨[], [(2, lp_S_l9Good_2)], 0, 0⟩
noncomputable def f_S_l9Good (t0 : PV S_impl_Order) : Option (PVs [.bool] × PVs []) :=
  (w_S_l9Good_2 (t0, t0, (t0.length : Int), 0, ())).bind fun x9 =>
    match x9 with
    | .inl l7 =>
      some (((decide ((l7.1.length : Int) ≤ 60)), ()), ())
    | .inr l8 =>
      some ((l8.1, ()), ())
noncomputable def ct_S_l9Good : Ct := ⟨[(.bor, S_impl_Order)], [(.bool, .b)], fun x => f_S_l9Good x.1⟩
noncomputable def cx_S_l9Good : Cx := ⟨tab, arrs, [(41, ct_S_l9Order)], [], gl, []⟩
theorem eb_S_l9Good_2 (t0 : PV S_impl_Order) (t5 : PV S_impl_Order) (t6 : PV (.int .i64)) (t7 : PV (.int .i64)) : denK cx_S_l9Good (rcN cx_S_l9Good 0) pl_S_l9Good 0 ((loopsOf (bodyOf Tryz.f21)).getD 0 .skip) (fillS sh_S_l9Good_2 (t0, t5, t6, t7, ())) (roundK 0 lp_S_l9Good_2) = b_S_l9Good_2 t0 t5 t6 t7 := by kernel_rfl
theorem ef_S_l9Good (t0 : PV S_impl_Order) : denF cx_S_l9Good 0 pl_S_l9Good Tryz.f21.ntmps (bodyOf Tryz.f21) Tryz.f21.results.toList [(.bor, S_impl_Order)] [(.bool, .b)] (t0, ()) = f_S_l9Good t0 := by kernel_rfl
theorem ok_S_l9Good : FnOk gl Tryz.prog 21 ct_S_l9Good :=
  fnOk (cx := cx_S_l9Good) (pl := pl_S_l9Good) (dp := 0) (ok0_of tabOk (by unfold ArrOk; kernel_rfl) mix ⟨ok_S_l9Order, trivial⟩ trivial) Tryz.func21 (by kernel_rfl) (by kernel_rfl) (by kernel_rfl)
    (by rw [show loopsOf (bodyOf Tryz.f21) = [((loopsOf (bodyOf Tryz.f21)).getD 0 .skip)] from by kernel_rfl]; exact ⟨(by rw [show lookup pl_S_l9Good.loops (firstId ((loopsOf (bodyOf Tryz.f21)).getD 0 .skip)) = some lp_S_l9Good_2 from by kernel_rfl]; exact fun d z h => (eb_S_l9Good_2 d.1 d.2.1 d.2.2.1 d.2.2.2.1).trans h), trivial⟩) (fun x => ef_S_l9Good x.1)
noncomputable def fr_S_l1Num (ih : PV (.int .i64) → Option (PVs [.str] × PVs [])) (t0 : PV (.int .i64)) : Option (PVs [.str] × PVs []) :=
  bif (decide (t0 < 10)) then
    some (((bytesOfInts [(IntKind.wrap .u8 (IntKind.wrap .i64 (48 + t0)))]), ()), ())
  else
    bif 10 == 0 then
      none
    else
      (ih (IntKind.wrap .i64 (t0.tdiv 10))).bind fun r1 =>
        bif 10 == 0 then
          none
        else
          bif decide (r1.1.1.length + (bytesOfInts [(IntKind.wrap .u8 (IntKind.wrap .i64 (48 + (t0.tmod 10))))]).length ≤ 1099511627776) then
            some (((r1.1.1 ++ (bytesOfInts [(IntKind.wrap .u8 (IntKind.wrap .i64 (48 + (t0.tmod 10))))])), ()), ())
          else
            none
noncomputable def fn_S_l1Num : Nat → PV (.int .i64) → Option (PVs [.str] × PVs []) := fun n => Nat.rec (motive := fun _ => PV (.int .i64) → Option (PVs [.str] × PVs [])) (fun _ => none) (fun _ ih => fr_S_l1Num ih) n
noncomputable def f_S_l1Num (t0 : PV (.int .i64)) : Option (PVs [.str] × PVs []) := fn_S_l1Num (t0.toNat + 1) t0
noncomputable def ct_S_l1Num : Ct := ⟨[(.bor, (.int .i64))], [(.str, .b)], fun x => f_S_l1Num x.1⟩
noncomputable def ctn_S_l1Num (n : Nat) : Ct := ⟨[(.bor, (.int .i64))], [(.str, .b)], fun x => fn_S_l1Num n x.1⟩
noncomputable def cxn_S_l1Num (n : Nat) : Cx := ⟨tab, arrs, [(67, ctn_S_l1Num n)], [], gl, []⟩
noncomputable def pl_S_l1Num : Plan := ⟨[], [], 0, 0⟩
theorem efn_S_l1Num (n : Nat) (t0 : PV (.int .i64)) : denF (cxn_S_l1Num n) 0 pl_S_l1Num Tryz.f67.ntmps (bodyOf Tryz.f67) Tryz.f67.results.toList [(.bor, (.int .i64))] [(.str, .b)] (t0, ()) = fr_S_l1Num (fn_S_l1Num n) t0 := by kernel_rfl
theorem okn_S_l1Num : ∀ n, FnOk gl Tryz.prog 67 (ctn_S_l1Num n)
  | 0 => fnOk_none (by kernel_rfl)
  | n + 1 => fnOk (cx := cxn_S_l1Num n) (pl := pl_S_l1Num) (dp := 0) (ct := ctn_S_l1Num (n + 1)) (ok0_of tabOk (by unfold ArrOk; kernel_rfl) mix ⟨okn_S_l1Num n, trivial⟩ trivial) Tryz.func67 (by kernel_rfl) (by kernel_rfl) (by kernel_rfl)
    (by rw [show loopsOf (bodyOf Tryz.f67) = [] from by kernel_rfl]; exact trivial) (fun x => efn_S_l1Num n x.1)
theorem ok_S_l1Num : FnOk gl Tryz.prog 67 ct_S_l1Num := fnOk_fuel (pars := [(.bor, (.int .i64))]) (rets := [(.str, .b)]) (Fs := fun n x => fn_S_l1Num n x.1) (N := fun x => x.1.toNat + 1) okn_S_l1Num
noncomputable def pl_S_l5Numbers : Plan := ⟨[], [], 0, 0⟩
noncomputable def f_S_l5Numbers (t0 : PV (.int .i64)) (t1 : PV (.int .i64)) : Option (PVs [.str] × PVs []) :=
  bif (t0 == t1) then
    (f_S_l1Num t0).bind fun r2 =>
      some ((r2.1.1, ()), ())
  else
    (f_S_l1Num t0).bind fun r3 =>
      bif decide (r3.1.1.length + [44].length ≤ 1099511627776) then
        (f_S_l1Num t1).bind fun r4 =>
          bif decide ((r3.1.1 ++ [44]).length + r4.1.1.length ≤ 1099511627776) then
            some ((((r3.1.1 ++ [44]) ++ r4.1.1), ()), ())
          else
            none
      else
        none
noncomputable def ct_S_l5Numbers : Ct := ⟨[(.bor, (.int .i64)), (.bor, (.int .i64))], [(.str, .b)], fun x => f_S_l5Numbers x.1 x.2.1⟩
noncomputable def cx_S_l5Numbers : Cx := ⟨tab, arrs, [(67, ct_S_l1Num)], [], gl, []⟩
theorem ef_S_l5Numbers (t0 : PV (.int .i64)) (t1 : PV (.int .i64)) : denF cx_S_l5Numbers 0 pl_S_l5Numbers Tryz.f42.ntmps (bodyOf Tryz.f42) Tryz.f42.results.toList [(.bor, (.int .i64)), (.bor, (.int .i64))] [(.str, .b)] (t0, t1, ()) = f_S_l5Numbers t0 t1 := by kernel_rfl
theorem ok_S_l5Numbers : FnOk gl Tryz.prog 42 ct_S_l5Numbers :=
  fnOk (cx := cx_S_l5Numbers) (pl := pl_S_l5Numbers) (dp := 0) (ok0_of tabOk (by unfold ArrOk; kernel_rfl) mix ⟨ok_S_l1Num, trivial⟩ trivial) Tryz.func42 (by kernel_rfl) (by kernel_rfl) (by kernel_rfl)
    (by rw [show loopsOf (bodyOf Tryz.f42) = [] from by kernel_rfl]; exact trivial) (fun x => ef_S_l5Numbers x.1 x.2.1)
noncomputable def sh_S_l1Text_3 : List Sh := mkSh 17 [(3, .val .str .b), (6, .val S_string .b), (7, .val (.int .i64) .b), (8, .val (.int .i64) .b)]
noncomputable def o_S_l1Text_3 : List Out := [⟨.exit 0, ⟨[], [3], []⟩, mkSh 17 [(3, .val .str .b)]⟩]
noncomputable def b_S_l1Text_3 (t3 : PV .str) (t6 : PV S_string) (t7 : PV (.int .i64)) (t8 : PV (.int .i64)) : Option ((PV .str × PV S_string × PV (.int .i64) × PV (.int .i64) × Unit) ⊕ ((PV .str × Unit))) :=
  bif (decide (t8 < t7)) then
    bif inB t8 t6.length then
      bif decide (t3.length + (t6.getD t8.toNat []).length ≤ 1099511627776) then
        some (.inl ((t3 ++ (t6.getD t8.toNat [])), t6, t7, (IntKind.wrap .i64 (t8 + 1)), ()))
      else
        none
    else
      none
  else
    some (.inr (t3, ()))
noncomputable def w_S_l1Text_3 : PV .str × PV S_string × PV (.int .i64) × PV (.int .i64) × Unit → Option ((PV .str × Unit)) := fix fun d => b_S_l1Text_3 d.1 d.2.1 d.2.2.1 d.2.2.2.1
noncomputable def lp_S_l1Text_3 : Lp := ⟨⟨[], [3, 6, 7, 8], []⟩, sh_S_l1Text_3, o_S_l1Text_3, fun d => b_S_l1Text_3 d.1 d.2.1 d.2.2.1 d.2.2.2.1⟩
noncomputable def pl_S_l1Text : Plan := ⟨[], [(3, lp_S_l1Text_3)], 0, 0⟩
noncomputable def f_S_l1Text (t0 : PV S_string) : Option (PVs [.str] × PVs []) :=
  (w_S_l1Text_3 ([], t0, (t0.length : Int), 0, ())).bind fun l2 =>
    some ((l2.1, ()), ())
noncomputable def ct_S_l1Text : Ct := ⟨[(.bor, S_string)], [(.str, .b)], fun x => f_S_l1Text x.1⟩
noncomputable def cx_S_l1Text : Cx := ⟨tab, arrs, [], [], gl, []⟩
theorem eb_S_l1Text_3 (t3 : PV .str) (t6 : PV S_string) (t7 : PV (.int .i64)) (t8 : PV (.int .i64)) : denK cx_S_l1Text (rcN cx_S_l1Text 0) pl_S_l1Text 0 ((loopsOf (bodyOf Tryz.f43)).getD 0 .skip) (fillS sh_S_l1Text_3 (t3, t6, t7, t8, ())) (roundK 0 lp_S_l1Text_3) = b_S_l1Text_3 t3 t6 t7 t8 := by kernel_rfl
theorem ef_S_l1Text (t0 : PV S_string) : denF cx_S_l1Text 0 pl_S_l1Text Tryz.f43.ntmps (bodyOf Tryz.f43) Tryz.f43.results.toList [(.bor, S_string)] [(.str, .b)] (t0, ()) = f_S_l1Text t0 := by kernel_rfl
theorem ok_S_l1Text : FnOk gl Tryz.prog 43 ct_S_l1Text :=
  fnOk (cx := cx_S_l1Text) (pl := pl_S_l1Text) (dp := 0) (ok0_of tabOk (by unfold ArrOk; kernel_rfl) mix trivial trivial) Tryz.func43 (by kernel_rfl) (by kernel_rfl) (by kernel_rfl)
    (by rw [show loopsOf (bodyOf Tryz.f43) = [((loopsOf (bodyOf Tryz.f43)).getD 0 .skip)] from by kernel_rfl]; exact ⟨(by rw [show lookup pl_S_l1Text.loops (firstId ((loopsOf (bodyOf Tryz.f43)).getD 0 .skip)) = some lp_S_l1Text_3 from by kernel_rfl]; exact fun d z h => (eb_S_l1Text_3 d.1 d.2.1 d.2.2.1 d.2.2.2.1).trans h), trivial⟩) (fun x => ef_S_l1Text x.1)
noncomputable def o_S_l9Text_8 : List Out := [⟨.normal, ⟨[], [3, 6, 7, 8], []⟩, mkSh 38 [(3, .val .str .b), (6, .val S_impl_Order .b), (7, .val (.int .i64) .b), (8, .val (.int .i64) .b)]⟩]
noncomputable def sh_S_l9Text_3 : List Sh := mkSh 38 [(3, .val .str .b), (6, .val S_impl_Order .b), (7, .val (.int .i64) .b), (8, .val (.int .i64) .b)]
noncomputable def o_S_l9Text_3 : List Out := [⟨.exit 0, ⟨[], [3], []⟩, mkSh 38 [(3, .val .str .b)]⟩]
noncomputable def b_S_l9Text_3 (t3 : PV .str) (t6 : PV S_impl_Order) (t7 : PV (.int .i64)) (t8 : PV (.int .i64)) : Option ((PV .str × PV S_impl_Order × PV (.int .i64) × PV (.int .i64) × Unit) ⊕ ((PV .str × Unit))) :=
  bif (decide (t8 < t7)) then
    ((
        bif inB t8 t6.length then
          (f_S_l5Numbers (((t6.getD t8.toNat (dflt Y_impl_Order)).2).1) ((((t6.getD t8.toNat (dflt Y_impl_Order)).2).2).1)).bind fun r3 =>
            (f_S_l9Words ).bind fun r4 =>
              bif inB ((t6.getD t8.toNat (dflt Y_impl_Order)).1) r4.1.1.length then
                bif decide (r3.1.1.length + (r4.1.1.getD (((t6.getD t8.toNat (dflt Y_impl_Order)).1).toNat) []).length ≤ 1099511627776) then
                  bif decide ((r3.1.1 ++ (r4.1.1.getD (((t6.getD t8.toNat (dflt Y_impl_Order)).1).toNat) [])).length + [10].length ≤ 1099511627776) then
                    bif decide (t3.length + ((r3.1.1 ++ (r4.1.1.getD (((t6.getD t8.toNat (dflt Y_impl_Order)).1).toNat) [])) ++ [10]).length ≤ 1099511627776) then
                      bif (decide (((((((t6.getD t8.toNat (dflt Y_impl_Order)).2).2).2).1).length : Int) > 0)) then
                        (f_S_l1Text (((((t6.getD t8.toNat (dflt Y_impl_Order)).2).2).2).1)).bind fun r5 =>
                          bif decide (r5.1.1.length + [46, 10].length ≤ 1099511627776) then
                            bif decide ((t3 ++ ((r3.1.1 ++ (r4.1.1.getD (((t6.getD t8.toNat (dflt Y_impl_Order)).1).toNat) [])) ++ [10])).length + (r5.1.1 ++ [46, 10]).length ≤ 1099511627776) then
                              some (((t3 ++ ((r3.1.1 ++ (r4.1.1.getD (((t6.getD t8.toNat (dflt Y_impl_Order)).1).toNat) [])) ++ [10])) ++ (r5.1.1 ++ [46, 10])), t6, t7, t8, ())
                            else
                              none
                          else
                            none
                      else
                        some ((t3 ++ ((r3.1.1 ++ (r4.1.1.getD (((t6.getD t8.toNat (dflt Y_impl_Order)).1).toNat) [])) ++ [10])), t6, t7, t8, ())
                    else
                      none
                  else
                    none
                else
                  none
              else
                none
        else
          none : Option ((PV .str × PV S_impl_Order × PV (.int .i64) × PV (.int .i64) × Unit)))).bind fun j6 =>
      some (.inl (j6.1, j6.2.1, j6.2.2.1, (IntKind.wrap .i64 (j6.2.2.2.1 + 1)), ()))
  else
    some (.inr (t3, ()))
noncomputable def w_S_l9Text_3 : PV .str × PV S_impl_Order × PV (.int .i64) × PV (.int .i64) × Unit → Option ((PV .str × Unit)) := fix fun d => b_S_l9Text_3 d.1 d.2.1 d.2.2.1 d.2.2.2.1
noncomputable def lp_S_l9Text_3 : Lp := ⟨⟨[], [3, 6, 7, 8], []⟩, sh_S_l9Text_3, o_S_l9Text_3, fun d => b_S_l9Text_3 d.1 d.2.1 d.2.2.1 d.2.2.2.1⟩
noncomputable def pl_S_l9Text : Plan := ⟨[(8, o_S_l9Text_8)], [(3, lp_S_l9Text_3)], 0, 0⟩
noncomputable def f_S_l9Text (t0 : PV S_impl_Order) : Option (PVs [.str] × PVs []) :=
  (w_S_l9Text_3 ([], t0, (t0.length : Int), 0, ())).bind fun l8 =>
    some ((l8.1, ()), ())
noncomputable def ct_S_l9Text : Ct := ⟨[(.bor, S_impl_Order)], [(.str, .b)], fun x => f_S_l9Text x.1⟩
noncomputable def cx_S_l9Text : Cx := ⟨tab, arrs, [(39, ct_S_l9Words), (42, ct_S_l5Numbers), (43, ct_S_l1Text)], [], gl, []⟩
theorem eb_S_l9Text_3 (t3 : PV .str) (t6 : PV S_impl_Order) (t7 : PV (.int .i64)) (t8 : PV (.int .i64)) : denK cx_S_l9Text (rcN cx_S_l9Text 0) pl_S_l9Text 0 ((loopsOf (bodyOf Tryz.f22)).getD 0 .skip) (fillS sh_S_l9Text_3 (t3, t6, t7, t8, ())) (roundK 0 lp_S_l9Text_3) = b_S_l9Text_3 t3 t6 t7 t8 := by kernel_rfl
theorem ef_S_l9Text (t0 : PV S_impl_Order) : denF cx_S_l9Text 0 pl_S_l9Text Tryz.f22.ntmps (bodyOf Tryz.f22) Tryz.f22.results.toList [(.bor, S_impl_Order)] [(.str, .b)] (t0, ()) = f_S_l9Text t0 := by kernel_rfl
theorem ok_S_l9Text : FnOk gl Tryz.prog 22 ct_S_l9Text :=
  fnOk (cx := cx_S_l9Text) (pl := pl_S_l9Text) (dp := 0) (ok0_of tabOk (by unfold ArrOk; kernel_rfl) mix ⟨ok_S_l9Words, ok_S_l5Numbers, ok_S_l1Text, trivial⟩ trivial) Tryz.func22 (by kernel_rfl) (by kernel_rfl) (by kernel_rfl)
    (by rw [show loopsOf (bodyOf Tryz.f22) = [((loopsOf (bodyOf Tryz.f22)).getD 0 .skip)] from by kernel_rfl]; exact ⟨(by rw [show lookup pl_S_l9Text.loops (firstId ((loopsOf (bodyOf Tryz.f22)).getD 0 .skip)) = some lp_S_l9Text_3 from by kernel_rfl]; exact fun d z h => (eb_S_l9Text_3 d.1 d.2.1 d.2.2.1 d.2.2.2.1).trans h), trivial⟩) (fun x => ef_S_l9Text x.1)
noncomputable def o_S_ReadOrders_17 : List Out := [⟨.normal, ⟨[], [0, 5, 6, 7, 36, 37, 38, 39, 64, 65, 66, 67], []⟩, mkSh 70 [(0, .val .str .b), (5, .val S_string .b), (6, .val S_impl_Order (.row (.pr .b (.pr .b (.pr .b (.pr (.row .b) .b)))))), (7, .var Y_impl_Order (.pr .b (.pr .b (.pr .b (.pr (.row .b) .b)))))]⟩, ⟨.ret, ⟨[], [2, 3, 4], []⟩, mkSh 70 [(2, .val S_impl_Order (.row (.pr .b (.pr .b (.pr .b (.pr (.row .b) .b)))))), (3, .val (.int .i64) .b), (4, .val .bool .b)]⟩]
noncomputable def o_S_ReadOrders_19 : List Out := [⟨.normal, ⟨[], [6, 68], []⟩, mkSh 70 [(6, .val S_impl_Order (.row (.pr .b (.pr .b (.pr .b (.pr (.row .b) .b)))))), (68, .val .bool .b)]⟩]
noncomputable def sh_S_ReadOrders_11 : List Sh := mkSh 70 [(0, .val .str .b), (5, .val S_string .b), (6, .val S_impl_Order (.row (.pr .b (.pr .b (.pr .b (.pr (.row .b) .b)))))), (7, .var Y_impl_Order (.pr .b (.pr .b (.pr .b (.pr (.row .b) .b)))))]
noncomputable def o_S_ReadOrders_11 : List Out := [⟨.exit 2, ⟨[], [0, 5, 6, 7, 64, 65, 66, 67], []⟩, mkSh 70 [(0, .val .str .b), (5, .val S_string .b), (6, .val S_impl_Order (.row (.pr .b (.pr .b (.pr .b (.pr (.row .b) .b)))))), (7, .var Y_impl_Order (.pr .b (.pr .b (.pr .b (.pr (.row .b) .b)))))]⟩]
noncomputable def b_S_ReadOrders_11 (t0 : PV .str) (t5 : PV S_string) (t6 : PV S_impl_Order) (t7 : PV Y_impl_Order) : Option ((PV .str × PV S_string × PV S_impl_Order × PV Y_impl_Order × Unit) ⊕ ((PV .str × PV S_string × PV S_impl_Order × PV Y_impl_Order × Unit))) :=
  bif (decide ((t5.length : Int) > 0)) then
    bif inB 0 t5.length then
      bif (!((t5.getD ((0 : Int).toNat) []) == [46, 10])) then
        bif inB 0 t5.length then
          bif roomB (t7.2.2.2.1.length + [(t5.getD ((0 : Int).toNat) [])].length) then
            bif cutB 1 (t5.length : Int) t5.length then
              some (.inl (t0, (cutL 1 (t5.length : Int) t5), t6, (t7.1, (t7.2.1, (t7.2.2.1, ((t7.2.2.2.1 ++ [(t5.getD ((0 : Int).toNat) [])]), t7.2.2.2.2)))), ()))
            else
              none
          else
            none
        else
          none
      else
        some (.inr (t0, t5, t6, t7, ()))
    else
      none
  else
    some (.inr (t0, t5, t6, t7, ()))
noncomputable def w_S_ReadOrders_11 : PV .str × PV S_string × PV S_impl_Order × PV Y_impl_Order × Unit → Option ((PV .str × PV S_string × PV S_impl_Order × PV Y_impl_Order × Unit)) := fix fun d => b_S_ReadOrders_11 d.1 d.2.1 d.2.2.1 d.2.2.2.1
noncomputable def lp_S_ReadOrders_11 : Lp := ⟨⟨[], [0, 5, 6, 7, 64, 65, 66, 67], []⟩, sh_S_ReadOrders_11, o_S_ReadOrders_11, fun d => b_S_ReadOrders_11 d.1 d.2.1 d.2.2.1 d.2.2.2.1⟩
noncomputable def sh_S_ReadOrders_5 : List Sh := mkSh 70 [(0, .val .str .b), (5, .val S_string .b), (6, .val S_impl_Order (.row (.pr .b (.pr .b (.pr .b (.pr (.row .b) .b))))))]
noncomputable def o_S_ReadOrders_5 : List Out := [⟨.exit 0, ⟨[], [0, 6, 64, 65, 66, 67], []⟩, mkSh 70 [(0, .val .str .b), (6, .val S_impl_Order (.row (.pr .b (.pr .b (.pr .b (.pr (.row .b) .b))))))]⟩, ⟨.ret, ⟨[], [2, 3, 4], []⟩, mkSh 70 [(2, .val S_impl_Order (.row (.pr .b (.pr .b (.pr .b (.pr (.row .b) .b)))))), (3, .val (.int .i64) .b), (4, .val .bool .b)]⟩]
noncomputable def b_S_ReadOrders_5 (t0 : PV .str) (t5 : PV S_string) (t6 : PV S_impl_Order) : Option ((PV .str × PV S_string × PV S_impl_Order × Unit) ⊕ ((PV .str × PV S_impl_Order × Unit) ⊕ (PV S_impl_Order × PV (.int .i64) × PV .bool × Unit))) :=
  bif (decide ((t5.length : Int) > 0)) then
    bif inB 0 t5.length then
      (f_S_l1Plain (t5.getD ((0 : Int).toNat) [])).bind fun r5 =>
        (f_S_l9Head r5.1.1).bind fun r6 =>
          bif (!r6.1.2.1) then
            some (.inr (.inr ([], 1, false, ())))
          else
            bif cutB 1 (t5.length : Int) t5.length then
              ((
                  bif (decide (r6.1.1.1 ≤ 3)) then
                    (w_S_ReadOrders_11 (t0, (cutL 1 (t5.length : Int) t5), t6, r6.1.1, ())).bind fun l8 =>
                      bif ((l8.2.1.length : Int) == 0) then
                        some (.inr ([], 1, false, ()))
                      else
                        bif cutB 1 (l8.2.1.length : Int) l8.2.1.length then
                          some (.inl (l8.1, (cutL 1 (l8.2.1.length : Int) l8.2.1), l8.2.2.1, l8.2.2.2.1, ()))
                        else
                          none
                  else
                    some (.inl (t0, (cutL 1 (t5.length : Int) t5), t6, r6.1.1, ())) : Option ((PV .str × PV S_string × PV S_impl_Order × PV Y_impl_Order × Unit) ⊕ (PV S_impl_Order × PV (.int .i64) × PV .bool × Unit)))).bind fun x23 =>
                match x23 with
                | .inl j9 =>
                  bif roomB (j9.2.2.1.length + [j9.2.2.2.1].length) then
                    some (.inl (j9.1, j9.2.1, (j9.2.2.1 ++ [j9.2.2.2.1]), ()))
                  else
                    none
                | .inr j10 =>
                  some (.inr (.inr (j10.1, j10.2.1, j10.2.2.1, ())))
            else
              none
    else
      none
  else
    some (.inr (.inl (t0, t6, ())))
noncomputable def w_S_ReadOrders_5 : PV .str × PV S_string × PV S_impl_Order × Unit → Option ((PV .str × PV S_impl_Order × Unit) ⊕ (PV S_impl_Order × PV (.int .i64) × PV .bool × Unit)) := fix fun d => b_S_ReadOrders_5 d.1 d.2.1 d.2.2.1
noncomputable def lp_S_ReadOrders_5 : Lp := ⟨⟨[], [0, 5, 6, 36, 37, 38, 39, 64, 65, 66, 67], []⟩, sh_S_ReadOrders_5, o_S_ReadOrders_5, fun d => b_S_ReadOrders_5 d.1 d.2.1 d.2.2.1⟩
noncomputable def pl_S_ReadOrders : Plan := ⟨[(17, o_S_ReadOrders_17), (19, o_S_ReadOrders_19)], [(11, lp_S_ReadOrders_11), (5, lp_S_ReadOrders_5)], 0, 0⟩
noncomputable def f_S_ReadOrders (t0 : PV .str) : Option (PVs [S_impl_Order, (.int .i64), .bool] × PVs []) :=
  bif (decide ((t0.length : Int) > 3000)) then
    some (([], 1, false, ()), ())
  else
    (f_S_l1Cut t0).bind fun r2 =>
      (w_S_ReadOrders_5 (t0, r2.1.1, [], ())).bind fun x24 =>
        match x24 with
        | .inl l13 =>
          ((
              (f_S_l9Good l13.2.1).bind fun r19 =>
                bif (!r19.1.1) then
                  some (l13.2.1, true, ())
                else
                  (f_S_l9Text l13.2.1).bind fun r20 =>
                    some (l13.2.1, (!(r20.1.1 == l13.1)), ()) : Option ((PV S_impl_Order × PV .bool × Unit)))).bind fun j21 =>
            bif j21.2.1 then
              some (([], 1, false, ()), ())
            else
              some ((j21.1, 0, true, ()), ())
        | .inr l22 =>
          some ((l22.1, l22.2.1, l22.2.2.1, ()), ())
noncomputable def ct_S_ReadOrders : Ct := ⟨[(.bor, .str)], [(S_impl_Order, (.row (.pr .b (.pr .b (.pr .b (.pr (.row .b) .b)))))), ((.int .i64), .b), (.bool, .b)], fun x => f_S_ReadOrders x.1⟩
noncomputable def cx_S_ReadOrders : Cx := ⟨tab, arrs, [(18, ct_S_l1Cut), (19, ct_S_l9Head), (20, ct_S_l1Plain), (21, ct_S_l9Good), (22, ct_S_l9Text)], [], gl, []⟩
theorem eb_S_ReadOrders_5 (t0 : PV .str) (t5 : PV S_string) (t6 : PV S_impl_Order) : denK cx_S_ReadOrders (rcN cx_S_ReadOrders 0) pl_S_ReadOrders 0 ((loopsOf (bodyOf Tryz.f5)).getD 0 .skip) (fillS sh_S_ReadOrders_5 (t0, t5, t6, ())) (roundK 0 lp_S_ReadOrders_5) = b_S_ReadOrders_5 t0 t5 t6 := by kernel_rfl
theorem eb_S_ReadOrders_11 (t0 : PV .str) (t5 : PV S_string) (t6 : PV S_impl_Order) (t7 : PV Y_impl_Order) : denK cx_S_ReadOrders (rcN cx_S_ReadOrders 0) pl_S_ReadOrders 0 ((loopsOf (bodyOf Tryz.f5)).getD 1 .skip) (fillS sh_S_ReadOrders_11 (t0, t5, t6, t7, ())) (roundK 0 lp_S_ReadOrders_11) = b_S_ReadOrders_11 t0 t5 t6 t7 := by kernel_rfl
theorem ef_S_ReadOrders (t0 : PV .str) : denF cx_S_ReadOrders 0 pl_S_ReadOrders Tryz.f5.ntmps (bodyOf Tryz.f5) Tryz.f5.results.toList [(.bor, .str)] [(S_impl_Order, (.row (.pr .b (.pr .b (.pr .b (.pr (.row .b) .b)))))), ((.int .i64), .b), (.bool, .b)] (t0, ()) = f_S_ReadOrders t0 := by kernel_rfl
theorem ok_S_ReadOrders : FnOk gl Tryz.prog 5 ct_S_ReadOrders :=
  fnOk (cx := cx_S_ReadOrders) (pl := pl_S_ReadOrders) (dp := 0) (ok0_of tabOk (by unfold ArrOk; kernel_rfl) mix ⟨ok_S_l1Cut, ok_S_l9Head, ok_S_l1Plain, ok_S_l9Good, ok_S_l9Text, trivial⟩ trivial) Tryz.func5 (by kernel_rfl) (by kernel_rfl) (by kernel_rfl)
    (by rw [show loopsOf (bodyOf Tryz.f5) = [((loopsOf (bodyOf Tryz.f5)).getD 0 .skip), ((loopsOf (bodyOf Tryz.f5)).getD 1 .skip)] from by kernel_rfl]; exact ⟨(by rw [show lookup pl_S_ReadOrders.loops (firstId ((loopsOf (bodyOf Tryz.f5)).getD 0 .skip)) = some lp_S_ReadOrders_5 from by kernel_rfl]; exact fun d z h => (eb_S_ReadOrders_5 d.1 d.2.1 d.2.2.1).trans h), (by rw [show lookup pl_S_ReadOrders.loops (firstId ((loopsOf (bodyOf Tryz.f5)).getD 1 .skip)) = some lp_S_ReadOrders_11 from by kernel_rfl]; exact fun d z h => (eb_S_ReadOrders_11 d.1 d.2.1 d.2.2.1 d.2.2.2.1).trans h), trivial⟩) (fun x => ef_S_ReadOrders x.1)
noncomputable def pl_strings_SplitAfter : Plan := ⟨[], [], 0, 0⟩
noncomputable def f_strings_SplitAfter (t0 : PV .str) (t1 : PV .str) : Option (PVs [S_string] × PVs []) :=
  (f_strings_genSplit t0 t1 (t1.length : Int) (-1)).bind fun r1 =>
    some ((r1.1.1, ()), ())
noncomputable def ct_strings_SplitAfter : Ct := ⟨[(.bor, .str), (.bor, .str)], [(S_string, .b)], fun x => f_strings_SplitAfter x.1 x.2.1⟩
noncomputable def cx_strings_SplitAfter : Cx := ⟨tab, arrs, [(75, ct_strings_genSplit)], [], gl, []⟩
theorem ef_strings_SplitAfter (t0 : PV .str) (t1 : PV .str) : denF cx_strings_SplitAfter 0 pl_strings_SplitAfter Tryz.f49.ntmps (bodyOf Tryz.f49) Tryz.f49.results.toList [(.bor, .str), (.bor, .str)] [(S_string, .b)] (t0, t1, ()) = f_strings_SplitAfter t0 t1 := by kernel_rfl
theorem ok_strings_SplitAfter : FnOk gl Tryz.prog 49 ct_strings_SplitAfter :=
  fnOk (cx := cx_strings_SplitAfter) (pl := pl_strings_SplitAfter) (dp := 0) (ok0_of tabOk (by unfold ArrOk; kernel_rfl) mix ⟨ok_strings_genSplit, trivial⟩ trivial) Tryz.func49 (by kernel_rfl) (by kernel_rfl) (by kernel_rfl)
    (by rw [show loopsOf (bodyOf Tryz.f49) = [] from by kernel_rfl]; exact trivial) (fun x => ef_strings_SplitAfter x.1 x.2.1)
noncomputable def o_I_linesOf_7 : List Out := [⟨.normal, ⟨[], [3], []⟩, mkSh 21 [(3, .val S_string .b)]⟩]
noncomputable def pl_I_linesOf : Plan := ⟨[(7, o_I_linesOf_7)], [], 0, 0⟩
noncomputable def f_I_linesOf (t0 : PV .str) : Option (PVs [S_string] × PVs []) :=
  bif (t0 == []) then
    some (([], ()), ())
  else
    (f_strings_SplitAfter t0 [10]).bind fun r2 =>
      ((
          bif inB (IntKind.wrap .i64 ((r2.1.1.length : Int) - 1)) r2.1.1.length then
            bif ((r2.1.1.getD ((IntKind.wrap .i64 ((r2.1.1.length : Int) - 1)).toNat) []) == []) then
              bif cutB 0 (IntKind.wrap .i64 ((r2.1.1.length : Int) - 1)) r2.1.1.length then
                some ((cutL 0 (IntKind.wrap .i64 ((r2.1.1.length : Int) - 1)) r2.1.1), ())
              else
                none
            else
              some (r2.1.1, ())
          else
            none : Option ((PV S_string × Unit)))).bind fun j3 =>
        some ((j3.1, ()), ())
noncomputable def ct_I_linesOf : Ct := ⟨[(.bor, .str)], [(S_string, .b)], fun x => f_I_linesOf x.1⟩
noncomputable def cx_I_linesOf : Cx := ⟨tab, arrs, [(49, ct_strings_SplitAfter)], [], gl, []⟩
theorem ef_I_linesOf (t0 : PV .str) : denF cx_I_linesOf 0 pl_I_linesOf Tryz.f24.ntmps (bodyOf Tryz.f24) Tryz.f24.results.toList [(.bor, .str)] [(S_string, .b)] (t0, ()) = f_I_linesOf t0 := by kernel_rfl
theorem ok_I_linesOf : FnOk gl Tryz.prog 24 ct_I_linesOf :=
  fnOk (cx := cx_I_linesOf) (pl := pl_I_linesOf) (dp := 0) (ok0_of tabOk (by unfold ArrOk; kernel_rfl) mix ⟨ok_strings_SplitAfter, trivial⟩ trivial) Tryz.func24 (by kernel_rfl) (by kernel_rfl) (by kernel_rfl)
    (by rw [show loopsOf (bodyOf Tryz.f24) = [] from by kernel_rfl]; exact trivial) (fun x => ef_I_linesOf x.1)
noncomputable def pl_internal_stringslite_HasSuffix : Plan := ⟨[], [], 0, 0⟩
noncomputable def f_internal_stringslite_HasSuffix (t0 : PV .str) (t1 : PV .str) : Option (PVs [.bool] × PVs []) :=
  bif (decide ((t0.length : Int) ≥ (t1.length : Int))) then
    bif cutB (IntKind.wrap .i64 ((t0.length : Int) - (t1.length : Int))) (t0.length : Int) t0.length then
      some ((((cutL (IntKind.wrap .i64 ((t0.length : Int) - (t1.length : Int))) (t0.length : Int) t0) == t1), ()), ())
    else
      none
  else
    some ((false, ()), ())
noncomputable def ct_internal_stringslite_HasSuffix : Ct := ⟨[(.bor, .str), (.bor, .str)], [(.bool, .b)], fun x => f_internal_stringslite_HasSuffix x.1 x.2.1⟩
noncomputable def cx_internal_stringslite_HasSuffix : Cx := ⟨tab, arrs, [], [], gl, []⟩
theorem ef_internal_stringslite_HasSuffix (t0 : PV .str) (t1 : PV .str) : denF cx_internal_stringslite_HasSuffix 0 pl_internal_stringslite_HasSuffix Tryz.f111.ntmps (bodyOf Tryz.f111) Tryz.f111.results.toList [(.bor, .str), (.bor, .str)] [(.bool, .b)] (t0, t1, ()) = f_internal_stringslite_HasSuffix t0 t1 := by kernel_rfl
theorem ok_internal_stringslite_HasSuffix : FnOk gl Tryz.prog 111 ct_internal_stringslite_HasSuffix :=
  fnOk (cx := cx_internal_stringslite_HasSuffix) (pl := pl_internal_stringslite_HasSuffix) (dp := 0) (ok0_of tabOk (by unfold ArrOk; kernel_rfl) mix trivial trivial) Tryz.func111 (by kernel_rfl) (by kernel_rfl) (by kernel_rfl)
    (by rw [show loopsOf (bodyOf Tryz.f111) = [] from by kernel_rfl]; exact trivial) (fun x => ef_internal_stringslite_HasSuffix x.1 x.2.1)
noncomputable def pl_internal_stringslite_TrimSuffix : Plan := ⟨[], [], 0, 0⟩
noncomputable def f_internal_stringslite_TrimSuffix (t0 : PV .str) (t1 : PV .str) : Option (PVs [.str] × PVs []) :=
  (f_internal_stringslite_HasSuffix t0 t1).bind fun r4 =>
    bif r4.1.1 then
      bif cutB 0 (IntKind.wrap .i64 ((t0.length : Int) - (t1.length : Int))) t0.length then
        some (((cutL 0 (IntKind.wrap .i64 ((t0.length : Int) - (t1.length : Int))) t0), ()), ())
      else
        none
    else
      some ((t0, ()), ())
noncomputable def ct_internal_stringslite_TrimSuffix : Ct := ⟨[(.bor, .str), (.bor, .str)], [(.str, .b)], fun x => f_internal_stringslite_TrimSuffix x.1 x.2.1⟩
noncomputable def cx_internal_stringslite_TrimSuffix : Cx := ⟨tab, arrs, [(111, ct_internal_stringslite_HasSuffix)], [], gl, []⟩
theorem ef_internal_stringslite_TrimSuffix (t0 : PV .str) (t1 : PV .str) : denF cx_internal_stringslite_TrimSuffix 0 pl_internal_stringslite_TrimSuffix Tryz.f93.ntmps (bodyOf Tryz.f93) Tryz.f93.results.toList [(.bor, .str), (.bor, .str)] [(.str, .b)] (t0, t1, ()) = f_internal_stringslite_TrimSuffix t0 t1 := by kernel_rfl
theorem ok_internal_stringslite_TrimSuffix : FnOk gl Tryz.prog 93 ct_internal_stringslite_TrimSuffix :=
  fnOk (cx := cx_internal_stringslite_TrimSuffix) (pl := pl_internal_stringslite_TrimSuffix) (dp := 0) (ok0_of tabOk (by unfold ArrOk; kernel_rfl) mix ⟨ok_internal_stringslite_HasSuffix, trivial⟩ trivial) Tryz.func93 (by kernel_rfl) (by kernel_rfl) (by kernel_rfl)
    (by rw [show loopsOf (bodyOf Tryz.f93) = [] from by kernel_rfl]; exact trivial) (fun x => ef_internal_stringslite_TrimSuffix x.1 x.2.1)
noncomputable def pl_strings_TrimSuffix : Plan := ⟨[], [], 0, 0⟩
noncomputable def f_strings_TrimSuffix (t0 : PV .str) (t1 : PV .str) : Option (PVs [.str] × PVs []) :=
  (f_internal_stringslite_TrimSuffix t0 t1).bind fun r1 =>
    some ((r1.1.1, ()), ())
noncomputable def ct_strings_TrimSuffix : Ct := ⟨[(.bor, .str), (.bor, .str)], [(.str, .b)], fun x => f_strings_TrimSuffix x.1 x.2.1⟩
noncomputable def cx_strings_TrimSuffix : Cx := ⟨tab, arrs, [(93, ct_internal_stringslite_TrimSuffix)], [], gl, []⟩
theorem ef_strings_TrimSuffix (t0 : PV .str) (t1 : PV .str) : denF cx_strings_TrimSuffix 0 pl_strings_TrimSuffix Tryz.f68.ntmps (bodyOf Tryz.f68) Tryz.f68.results.toList [(.bor, .str), (.bor, .str)] [(.str, .b)] (t0, t1, ()) = f_strings_TrimSuffix t0 t1 := by kernel_rfl
theorem ok_strings_TrimSuffix : FnOk gl Tryz.prog 68 ct_strings_TrimSuffix :=
  fnOk (cx := cx_strings_TrimSuffix) (pl := pl_strings_TrimSuffix) (dp := 0) (ok0_of tabOk (by unfold ArrOk; kernel_rfl) mix ⟨ok_internal_stringslite_TrimSuffix, trivial⟩ trivial) Tryz.func68 (by kernel_rfl) (by kernel_rfl) (by kernel_rfl)
    (by rw [show loopsOf (bodyOf Tryz.f68) = [] from by kernel_rfl]; exact trivial) (fun x => ef_strings_TrimSuffix x.1 x.2.1)
noncomputable def pl_I_plain : Plan := ⟨[], [], 0, 0⟩
noncomputable def f_I_plain (t0 : PV .str) : Option (PVs [.str] × PVs []) :=
  (f_strings_TrimSuffix t0 [10]).bind fun r1 =>
    some ((r1.1.1, ()), ())
noncomputable def ct_I_plain : Ct := ⟨[(.bor, .str)], [(.str, .b)], fun x => f_I_plain x.1⟩
noncomputable def cx_I_plain : Cx := ⟨tab, arrs, [(68, ct_strings_TrimSuffix)], [], gl, []⟩
theorem ef_I_plain (t0 : PV .str) : denF cx_I_plain 0 pl_I_plain Tryz.f44.ntmps (bodyOf Tryz.f44) Tryz.f44.results.toList [(.bor, .str)] [(.str, .b)] (t0, ()) = f_I_plain t0 := by kernel_rfl
theorem ok_I_plain : FnOk gl Tryz.prog 44 ct_I_plain :=
  fnOk (cx := cx_I_plain) (pl := pl_I_plain) (dp := 0) (ok0_of tabOk (by unfold ArrOk; kernel_rfl) mix ⟨ok_strings_TrimSuffix, trivial⟩ trivial) Tryz.func44 (by kernel_rfl) (by kernel_rfl) (by kernel_rfl)
    (by rw [show loopsOf (bodyOf Tryz.f44) = [] from by kernel_rfl]; exact trivial) (fun x => ef_I_plain x.1)
noncomputable def sh_slices_Index_string_2 : List Sh := mkSh 19 [(0, .val S_string .b), (1, .val .str .b), (7, .val (.int .i64) .b), (8, .val (.int .i64) .b)]
noncomputable def o_slices_Index_string_2 : List Out := [⟨.exit 0, ⟨[], [], []⟩, mkSh 19 []⟩, ⟨.ret, ⟨[], [4], []⟩, mkSh 19 [(4, .val (.int .i64) .b)]⟩]
noncomputable def b_slices_Index_string_2 (t0 : PV S_string) (t1 : PV .str) (t7 : PV (.int .i64)) (t8 : PV (.int .i64)) : Option ((PV S_string × PV .str × PV (.int .i64) × PV (.int .i64) × Unit) ⊕ ((Unit) ⊕ (PV (.int .i64) × Unit))) :=
  bif (decide (t8 < t7)) then
    bif inB t8 t0.length then
      bif (t1 == (t0.getD t8.toNat [])) then
        some (.inr (.inr (t8, ())))
      else
        some (.inl (t0, t1, t7, (IntKind.wrap .i64 (t8 + 1)), ()))
    else
      none
  else
    some (.inr (.inl ()))
noncomputable def w_slices_Index_string_2 : PV S_string × PV .str × PV (.int .i64) × PV (.int .i64) × Unit → Option ((Unit) ⊕ (PV (.int .i64) × Unit)) := fix fun d => b_slices_Index_string_2 d.1 d.2.1 d.2.2.1 d.2.2.2.1
noncomputable def lp_slices_Index_string_2 : Lp := ⟨⟨[], [0, 1, 7, 8], []⟩, sh_slices_Index_string_2, o_slices_Index_string_2, fun d => b_slices_Index_string_2 d.1 d.2.1 d.2.2.1 d.2.2.2.1⟩
noncomputable def pl_slices_Index_string : Plan := ⟨[], [(2, lp_slices_Index_string_2)], 0, 0⟩
noncomputable def f_slices_Index_string (t0 : PV S_string) (t1 : PV .str) : Option (PVs [(.int .i64)] × PVs []) :=
  (w_slices_Index_string_2 (t0, t1, (t0.length : Int), 0, ())).bind fun x5 =>
    match x5 with
    | .inl l3 =>
      some (((-1), ()), ())
    | .inr l4 =>
      some ((l4.1, ()), ())
noncomputable def ct_slices_Index_string : Ct := ⟨[(.bor, S_string), (.bor, .str)], [((.int .i64), .b)], fun x => f_slices_Index_string x.1 x.2.1⟩
noncomputable def cx_slices_Index_string : Cx := ⟨tab, arrs, [], [], gl, []⟩
theorem eb_slices_Index_string_2 (t0 : PV S_string) (t1 : PV .str) (t7 : PV (.int .i64)) (t8 : PV (.int .i64)) : denK cx_slices_Index_string (rcN cx_slices_Index_string 0) pl_slices_Index_string 0 ((loopsOf (bodyOf Tryz.f46)).getD 0 .skip) (fillS sh_slices_Index_string_2 (t0, t1, t7, t8, ())) (roundK 0 lp_slices_Index_string_2) = b_slices_Index_string_2 t0 t1 t7 t8 := by kernel_rfl
theorem ef_slices_Index_string (t0 : PV S_string) (t1 : PV .str) : denF cx_slices_Index_string 0 pl_slices_Index_string Tryz.f46.ntmps (bodyOf Tryz.f46) Tryz.f46.results.toList [(.bor, S_string), (.bor, .str)] [((.int .i64), .b)] (t0, t1, ()) = f_slices_Index_string t0 t1 := by kernel_rfl
theorem ok_slices_Index_string : FnOk gl Tryz.prog 46 ct_slices_Index_string :=
  fnOk (cx := cx_slices_Index_string) (pl := pl_slices_Index_string) (dp := 0) (ok0_of tabOk (by unfold ArrOk; kernel_rfl) mix trivial trivial) Tryz.func46 (by kernel_rfl) (by kernel_rfl) (by kernel_rfl)
    (by rw [show loopsOf (bodyOf Tryz.f46) = [((loopsOf (bodyOf Tryz.f46)).getD 0 .skip)] from by kernel_rfl]; exact ⟨(by rw [show lookup pl_slices_Index_string.loops (firstId ((loopsOf (bodyOf Tryz.f46)).getD 0 .skip)) = some lp_slices_Index_string_2 from by kernel_rfl]; exact fun d z h => (eb_slices_Index_string_2 d.1 d.2.1 d.2.2.1 d.2.2.2.1).trans h), trivial⟩) (fun x => ef_slices_Index_string x.1 x.2.1)
noncomputable def pl_internal_stringslite_Cut : Plan := ⟨[], [], 0, 0⟩
noncomputable def f_internal_stringslite_Cut (t0 : PV .str) (t1 : PV .str) : Option (PVs [.str, .str, .bool] × PVs []) :=
  (f_internal_stringslite_Index t0 t1).bind fun r4 =>
    bif (decide (r4.1.1 ≥ 0)) then
      bif cutB 0 r4.1.1 t0.length then
        bif cutB (IntKind.wrap .i64 (r4.1.1 + (t1.length : Int))) (t0.length : Int) t0.length then
          some (((cutL 0 r4.1.1 t0), (cutL (IntKind.wrap .i64 (r4.1.1 + (t1.length : Int))) (t0.length : Int) t0), true, ()), ())
        else
          none
      else
        none
    else
      some ((t0, [], false, ()), ())
noncomputable def ct_internal_stringslite_Cut : Ct := ⟨[(.bor, .str), (.bor, .str)], [(.str, .b), (.str, .b), (.bool, .b)], fun x => f_internal_stringslite_Cut x.1 x.2.1⟩
noncomputable def cx_internal_stringslite_Cut : Cx := ⟨tab, arrs, [(113, ct_internal_stringslite_Index)], [], gl, []⟩
theorem ef_internal_stringslite_Cut (t0 : PV .str) (t1 : PV .str) : denF cx_internal_stringslite_Cut 0 pl_internal_stringslite_Cut Tryz.f98.ntmps (bodyOf Tryz.f98) Tryz.f98.results.toList [(.bor, .str), (.bor, .str)] [(.str, .b), (.str, .b), (.bool, .b)] (t0, t1, ()) = f_internal_stringslite_Cut t0 t1 := by kernel_rfl
theorem ok_internal_stringslite_Cut : FnOk gl Tryz.prog 98 ct_internal_stringslite_Cut :=
  fnOk (cx := cx_internal_stringslite_Cut) (pl := pl_internal_stringslite_Cut) (dp := 0) (ok0_of tabOk (by unfold ArrOk; kernel_rfl) mix ⟨ok_internal_stringslite_Index, trivial⟩ trivial) Tryz.func98 (by kernel_rfl) (by kernel_rfl) (by kernel_rfl)
    (by rw [show loopsOf (bodyOf Tryz.f98) = [] from by kernel_rfl]; exact trivial) (fun x => ef_internal_stringslite_Cut x.1 x.2.1)
noncomputable def pl_strings_Cut : Plan := ⟨[], [], 0, 0⟩
noncomputable def f_strings_Cut (t0 : PV .str) (t1 : PV .str) : Option (PVs [.str, .str, .bool] × PVs []) :=
  (f_internal_stringslite_Cut t0 t1).bind fun r1 =>
    some ((r1.1.1, r1.1.2.1, r1.1.2.2.1, ()), ())
noncomputable def ct_strings_Cut : Ct := ⟨[(.bor, .str), (.bor, .str)], [(.str, .b), (.str, .b), (.bool, .b)], fun x => f_strings_Cut x.1 x.2.1⟩
noncomputable def cx_strings_Cut : Cx := ⟨tab, arrs, [(98, ct_internal_stringslite_Cut)], [], gl, []⟩
theorem ef_strings_Cut (t0 : PV .str) (t1 : PV .str) : denF cx_strings_Cut 0 pl_strings_Cut Tryz.f73.ntmps (bodyOf Tryz.f73) Tryz.f73.results.toList [(.bor, .str), (.bor, .str)] [(.str, .b), (.str, .b), (.bool, .b)] (t0, t1, ()) = f_strings_Cut t0 t1 := by kernel_rfl
theorem ok_strings_Cut : FnOk gl Tryz.prog 73 ct_strings_Cut :=
  fnOk (cx := cx_strings_Cut) (pl := pl_strings_Cut) (dp := 0) (ok0_of tabOk (by unfold ArrOk; kernel_rfl) mix ⟨ok_internal_stringslite_Cut, trivial⟩ trivial) Tryz.func73 (by kernel_rfl) (by kernel_rfl) (by kernel_rfl)
    (by rw [show loopsOf (bodyOf Tryz.f73) = [] from by kernel_rfl]; exact trivial) (fun x => ef_strings_Cut x.1 x.2.1)
noncomputable def pl_I_readTwo : Plan := ⟨[], [], 0, 0⟩
noncomputable def f_I_readTwo (t0 : PV .str) : Option (PVs [(.int .i64), (.int .i64), .bool, .bool] × PVs []) :=
  (f_strings_Cut t0 [44]).bind fun r2 =>
    (f_I_readNumber r2.1.1).bind fun r4 =>
      bif (!r2.1.2.2.1) then
        some ((r4.1.1, r4.1.1, false, r4.1.2.1, ()), ())
      else
        (f_I_readNumber r2.1.2.1).bind fun r6 =>
          bif r4.1.2.1 then
            some ((r4.1.1, r6.1.1, true, r6.1.2.1, ()), ())
          else
            some ((r4.1.1, r6.1.1, true, false, ()), ())
noncomputable def ct_I_readTwo : Ct := ⟨[(.bor, .str)], [((.int .i64), .b), ((.int .i64), .b), (.bool, .b), (.bool, .b)], fun x => f_I_readTwo x.1⟩
noncomputable def cx_I_readTwo : Cx := ⟨tab, arrs, [(73, ct_strings_Cut), (74, ct_I_readNumber)], [], gl, []⟩
theorem ef_I_readTwo (t0 : PV .str) : denF cx_I_readTwo 0 pl_I_readTwo Tryz.f47.ntmps (bodyOf Tryz.f47) Tryz.f47.results.toList [(.bor, .str)] [((.int .i64), .b), ((.int .i64), .b), (.bool, .b), (.bool, .b)] (t0, ()) = f_I_readTwo t0 := by kernel_rfl
theorem ok_I_readTwo : FnOk gl Tryz.prog 47 ct_I_readTwo :=
  fnOk (cx := cx_I_readTwo) (pl := pl_I_readTwo) (dp := 0) (ok0_of tabOk (by unfold ArrOk; kernel_rfl) mix ⟨ok_strings_Cut, ok_I_readNumber, trivial⟩ trivial) Tryz.func47 (by kernel_rfl) (by kernel_rfl) (by kernel_rfl)
    (by rw [show loopsOf (bodyOf Tryz.f47) = [] from by kernel_rfl]; exact trivial) (fun x => ef_I_readTwo x.1)
noncomputable def o_I_readOrders_7 : List Out := [⟨.normal, ⟨[], [0, 4, 5, 6, 28, 49, 50, 51], []⟩, mkSh 74 [(0, .val S_string .b), (4, .val S_impl_Order (.row (.pr .b (.pr .b (.pr .b (.pr (.row .b) .b)))))), (5, .val .str .b), (6, .val (.int .i64) .b), (28, .val .bool .b)]⟩]
noncomputable def o_I_readOrders_11 : List Out := [⟨.normal, ⟨[], [0, 4, 7, 25, 26, 27, 52], []⟩, mkSh 74 [(0, .val S_string .b), (4, .val S_impl_Order (.row (.pr .b (.pr .b (.pr .b (.pr (.row .b) .b)))))), (7, .var Y_impl_Order (.pr .b (.pr .b (.pr .b (.pr (.row .b) .b))))), (52, .val .bool .b)]⟩]
noncomputable def o_I_readOrders_17 : List Out := [⟨.normal, ⟨[], [0, 4, 7, 25, 26, 27, 49, 50, 51], []⟩, mkSh 74 [(0, .val S_string .b), (4, .val S_impl_Order (.row (.pr .b (.pr .b (.pr .b (.pr (.row .b) .b)))))), (7, .var Y_impl_Order (.pr .b (.pr .b (.pr .b (.pr (.row .b) .b)))))]⟩, ⟨.ret, ⟨[], [2, 3], []⟩, mkSh 74 [(2, .val S_impl_Order (.row (.pr .b (.pr .b (.pr .b (.pr (.row .b) .b)))))), (3, .val .bool .b)]⟩]
noncomputable def sh_I_readOrders_2 : List Sh := mkSh 74 [(0, .val S_string .b), (4, .val S_impl_Order (.row (.pr .b (.pr .b (.pr .b (.pr (.row .b) .b))))))]
noncomputable def o_I_readOrders_2 : List Out := [⟨.exit 0, ⟨[], [4], []⟩, mkSh 74 [(4, .val S_impl_Order (.row (.pr .b (.pr .b (.pr .b (.pr (.row .b) .b))))))]⟩, ⟨.ret, ⟨[], [2, 3], []⟩, mkSh 74 [(2, .val S_impl_Order (.row (.pr .b (.pr .b (.pr .b (.pr (.row .b) .b)))))), (3, .val .bool .b)]⟩]
noncomputable def b_I_readOrders_2 (t0 : PV S_string) (t4 : PV S_impl_Order) : Option ((PV S_string × PV S_impl_Order × Unit) ⊕ ((PV S_impl_Order × Unit) ⊕ (PV S_impl_Order × PV .bool × Unit))) :=
  bif (decide ((t0.length : Int) > 0)) then
    bif inB 0 t0.length then
      (f_I_plain (t0.getD ((0 : Int).toNat) [])).bind fun r2 =>
        bif cutB 1 (t0.length : Int) t0.length then
          (f_strings_IndexAny r2.1.1 [97, 105, 99, 100, 115]).bind fun r4 =>
            ((
                bif (decide (r4.1.1 < 0)) then
                  some ((cutL 1 (t0.length : Int) t0), t4, r2.1.1, r4.1.1, true, ())
                else
                  some ((cutL 1 (t0.length : Int) t0), t4, r2.1.1, r4.1.1, ((t4.length : Int) == 60), ()) : Option ((PV S_string × PV S_impl_Order × PV .str × PV (.int .i64) × PV .bool × Unit)))).bind fun j6 =>
              bif j6.2.2.2.2.1 then
                some (.inr (.inr ([], false, ())))
              else
                bif cutB j6.2.2.2.1 (j6.2.2.1.length : Int) j6.2.2.1.length then
                  (f_slices_Index_string gs0 (cutL j6.2.2.2.1 (j6.2.2.1.length : Int) j6.2.2.1)).bind fun r8 =>
                    bif cutB 0 j6.2.2.2.1 j6.2.2.1.length then
                      (f_I_readTwo (cutL 0 j6.2.2.2.1 j6.2.2.1)).bind fun r10 =>
                        ((
                            bif (!r10.1.2.2.2.1) then
                              some (j6.1, j6.2.1, (r8.1.1, (r10.1.1, (r10.1.2.1, (([] : PV S_string), ())))), true, ())
                            else
                              some (j6.1, j6.2.1, (r8.1.1, (r10.1.1, (r10.1.2.1, (([] : PV S_string), ())))), (decide (r8.1.1 < 1)), ()) : Option ((PV S_string × PV S_impl_Order × PV Y_impl_Order × PV .bool × Unit)))).bind fun j12 =>
                          bif j12.2.2.2.1 then
                            some (.inr (.inr ([], false, ())))
                          else
                            ((
                                bif (decide (j12.2.2.1.1 ≤ 3)) then
                                  (f_slices_Index_string j12.1 [46, 10]).bind fun r14 =>
                                    bif (decide (r14.1.1 < 0)) then
                                      some (.inr ([], false, ()))
                                    else
                                      bif cutB 0 r14.1.1 j12.1.length then
                                        (f_slices_Clone_string (cutL 0 r14.1.1 j12.1)).bind fun r15 =>
                                          bif cutB (IntKind.wrap .i64 (r14.1.1 + 1)) (j12.1.length : Int) j12.1.length then
                                            some (.inl ((cutL (IntKind.wrap .i64 (r14.1.1 + 1)) (j12.1.length : Int) j12.1), j12.2.1, (j12.2.2.1.1, (j12.2.2.1.2.1, (j12.2.2.1.2.2.1, (r15.1.1, j12.2.2.1.2.2.2.2)))), ()))
                                          else
                                            none
                                      else
                                        none
                                else
                                  some (.inl (j12.1, j12.2.1, j12.2.2.1, ())) : Option ((PV S_string × PV S_impl_Order × PV Y_impl_Order × Unit) ⊕ (PV S_impl_Order × PV .bool × Unit)))).bind fun x22 =>
                              match x22 with
                              | .inl j16 =>
                                bif roomB (j16.2.1.length + [j16.2.2.1].length) then
                                  some (.inl (j16.1, (j16.2.1 ++ [j16.2.2.1]), ()))
                                else
                                  none
                              | .inr j17 =>
                                some (.inr (.inr (j17.1, j17.2.1, ())))
                    else
                      none
                else
                  none
        else
          none
    else
      none
  else
    some (.inr (.inl (t4, ())))
noncomputable def w_I_readOrders_2 : PV S_string × PV S_impl_Order × Unit → Option ((PV S_impl_Order × Unit) ⊕ (PV S_impl_Order × PV .bool × Unit)) := fix fun d => b_I_readOrders_2 d.1 d.2.1
noncomputable def lp_I_readOrders_2 : Lp := ⟨⟨[], [0, 4, 25, 26, 27, 49, 50, 51], []⟩, sh_I_readOrders_2, o_I_readOrders_2, fun d => b_I_readOrders_2 d.1 d.2.1⟩
noncomputable def pl_I_readOrders : Plan := ⟨[(7, o_I_readOrders_7), (11, o_I_readOrders_11), (17, o_I_readOrders_17)], [(2, lp_I_readOrders_2)], 0, 0⟩
noncomputable def f_I_readOrders (t0 : PV S_string) : Option (PVs [S_impl_Order, .bool] × PVs []) :=
  (w_I_readOrders_2 (t0, ([] : PV S_impl_Order), ())).bind fun x23 =>
    match x23 with
    | .inl l20 =>
      some ((l20.1, true, ()), ())
    | .inr l21 =>
      some ((l21.1, l21.2.1, ()), ())
noncomputable def ct_I_readOrders : Ct := ⟨[(.bor, S_string)], [(S_impl_Order, (.row (.pr .b (.pr .b (.pr .b (.pr (.row .b) .b)))))), (.bool, .b)], fun x => f_I_readOrders x.1⟩
noncomputable def cx_I_readOrders : Cx := ⟨tab, arrs, [(44, ct_I_plain), (45, ct_strings_IndexAny), (46, ct_slices_Index_string), (47, ct_I_readTwo), (48, ct_slices_Clone_string)], [], gl, []⟩
theorem eb_I_readOrders_2 (t0 : PV S_string) (t4 : PV S_impl_Order) : denK cx_I_readOrders (rcN cx_I_readOrders 0) pl_I_readOrders 0 ((loopsOf (bodyOf Tryz.f23)).getD 0 .skip) (fillS sh_I_readOrders_2 (t0, t4, ())) (roundK 0 lp_I_readOrders_2) = b_I_readOrders_2 t0 t4 := by kernel_rfl
theorem ef_I_readOrders (t0 : PV S_string) : denF cx_I_readOrders 0 pl_I_readOrders Tryz.f23.ntmps (bodyOf Tryz.f23) Tryz.f23.results.toList [(.bor, S_string)] [(S_impl_Order, (.row (.pr .b (.pr .b (.pr .b (.pr (.row .b) .b)))))), (.bool, .b)] (t0, ()) = f_I_readOrders t0 := by kernel_rfl
theorem ok_I_readOrders : FnOk gl Tryz.prog 23 ct_I_readOrders :=
  fnOk (cx := cx_I_readOrders) (pl := pl_I_readOrders) (dp := 0) (ok0_of tabOk (by unfold ArrOk; kernel_rfl) mix ⟨ok_I_plain, ok_strings_IndexAny, ok_slices_Index_string, ok_I_readTwo, ok_slices_Clone_string, trivial⟩ trivial) Tryz.func23 (by kernel_rfl) (by kernel_rfl) (by kernel_rfl)
    (by rw [show loopsOf (bodyOf Tryz.f23) = [((loopsOf (bodyOf Tryz.f23)).getD 0 .skip)] from by kernel_rfl]; exact ⟨(by rw [show lookup pl_I_readOrders.loops (firstId ((loopsOf (bodyOf Tryz.f23)).getD 0 .skip)) = some lp_I_readOrders_2 from by kernel_rfl]; exact fun d z h => (eb_I_readOrders_2 d.1 d.2.1).trans h), trivial⟩) (fun x => ef_I_readOrders x.1)
noncomputable def pl_I_in : Plan := ⟨[], [], 0, 0⟩
noncomputable def f_I_in (t0 : PV (.int .i64)) (t1 : PV (.int .i64)) (t2 : PV (.int .i64)) : Option (PVs [.bool] × PVs []) :=
  bif (decide (t0 ≥ t1)) then
    some (((decide (t0 ≤ t2)), ()), ())
  else
    some ((false, ()), ())
noncomputable def ct_I_in : Ct := ⟨[(.bor, (.int .i64)), (.bor, (.int .i64)), (.bor, (.int .i64))], [(.bool, .b)], fun x => f_I_in x.1 x.2.1 x.2.2.1⟩
noncomputable def cx_I_in : Cx := ⟨tab, arrs, [], [], gl, []⟩
theorem ef_I_in (t0 : PV (.int .i64)) (t1 : PV (.int .i64)) (t2 : PV (.int .i64)) : denF cx_I_in 0 pl_I_in Tryz.f77.ntmps (bodyOf Tryz.f77) Tryz.f77.results.toList [(.bor, (.int .i64)), (.bor, (.int .i64)), (.bor, (.int .i64))] [(.bool, .b)] (t0, t1, t2, ()) = f_I_in t0 t1 t2 := by kernel_rfl
theorem ok_I_in : FnOk gl Tryz.prog 77 ct_I_in :=
  fnOk (cx := cx_I_in) (pl := pl_I_in) (dp := 0) (ok0_of tabOk (by unfold ArrOk; kernel_rfl) mix trivial trivial) Tryz.func77 (by kernel_rfl) (by kernel_rfl) (by kernel_rfl)
    (by rw [show loopsOf (bodyOf Tryz.f77) = [] from by kernel_rfl]; exact trivial) (fun x => ef_I_in x.1 x.2.1 x.2.2.1)
noncomputable def pl_I_isLine : Plan := ⟨[], [], 0, 0⟩
noncomputable def f_I_isLine (t0 : PV .str) : Option (PVs [.bool] × PVs []) :=
  (f_I_in (t0.length : Int) 1 30).bind fun r1 =>
    bif r1.1.1 then
      bif cutB 0 (IntKind.wrap .i64 ((t0.length : Int) - 1)) t0.length then
        (f_strings_Contains (cutL 0 (IntKind.wrap .i64 ((t0.length : Int) - 1)) t0) [10]).bind fun r2 =>
          some (((!r2.1.1), ()), ())
      else
        none
    else
      some ((false, ()), ())
noncomputable def ct_I_isLine : Ct := ⟨[(.bor, .str)], [(.bool, .b)], fun x => f_I_isLine x.1⟩
noncomputable def cx_I_isLine : Cx := ⟨tab, arrs, [(77, ct_I_in), (104, ct_strings_Contains)], [], gl, []⟩
theorem ef_I_isLine (t0 : PV .str) : denF cx_I_isLine 0 pl_I_isLine Tryz.f80.ntmps (bodyOf Tryz.f80) Tryz.f80.results.toList [(.bor, .str)] [(.bool, .b)] (t0, ()) = f_I_isLine t0 := by kernel_rfl
theorem ok_I_isLine : FnOk gl Tryz.prog 80 ct_I_isLine :=
  fnOk (cx := cx_I_isLine) (pl := pl_I_isLine) (dp := 0) (ok0_of tabOk (by unfold ArrOk; kernel_rfl) mix ⟨ok_I_in, ok_strings_Contains, trivial⟩ trivial) Tryz.func80 (by kernel_rfl) (by kernel_rfl) (by kernel_rfl)
    (by rw [show loopsOf (bodyOf Tryz.f80) = [] from by kernel_rfl]; exact trivial) (fun x => ef_I_isLine x.1)
noncomputable def pl_strings_HasSuffix : Plan := ⟨[], [], 0, 0⟩
noncomputable def f_strings_HasSuffix (t0 : PV .str) (t1 : PV .str) : Option (PVs [.bool] × PVs []) :=
  (f_internal_stringslite_HasSuffix t0 t1).bind fun r1 =>
    some ((r1.1.1, ()), ())
noncomputable def ct_strings_HasSuffix : Ct := ⟨[(.bor, .str), (.bor, .str)], [(.bool, .b)], fun x => f_strings_HasSuffix x.1 x.2.1⟩
noncomputable def cx_strings_HasSuffix : Cx := ⟨tab, arrs, [(111, ct_internal_stringslite_HasSuffix)], [], gl, []⟩
theorem ef_strings_HasSuffix (t0 : PV .str) (t1 : PV .str) : denF cx_strings_HasSuffix 0 pl_strings_HasSuffix Tryz.f105.ntmps (bodyOf Tryz.f105) Tryz.f105.results.toList [(.bor, .str), (.bor, .str)] [(.bool, .b)] (t0, t1, ()) = f_strings_HasSuffix t0 t1 := by kernel_rfl
theorem ok_strings_HasSuffix : FnOk gl Tryz.prog 105 ct_strings_HasSuffix :=
  fnOk (cx := cx_strings_HasSuffix) (pl := pl_strings_HasSuffix) (dp := 0) (ok0_of tabOk (by unfold ArrOk; kernel_rfl) mix ⟨ok_internal_stringslite_HasSuffix, trivial⟩ trivial) Tryz.func105 (by kernel_rfl) (by kernel_rfl) (by kernel_rfl)
    (by rw [show loopsOf (bodyOf Tryz.f105) = [] from by kernel_rfl]; exact trivial) (fun x => ef_strings_HasSuffix x.1 x.2.1)
noncomputable def pl_I_isEnded : Plan := ⟨[], [], 0, 0⟩
noncomputable def f_I_isEnded (t0 : PV .str) : Option (PVs [.bool] × PVs []) :=
  (f_strings_HasSuffix t0 [10]).bind fun r1 =>
    some ((r1.1.1, ()), ())
noncomputable def ct_I_isEnded : Ct := ⟨[(.bor, .str)], [(.bool, .b)], fun x => f_I_isEnded x.1⟩
noncomputable def cx_I_isEnded : Cx := ⟨tab, arrs, [(105, ct_strings_HasSuffix)], [], gl, []⟩
theorem ef_I_isEnded (t0 : PV .str) : denF cx_I_isEnded 0 pl_I_isEnded Tryz.f81.ntmps (bodyOf Tryz.f81) Tryz.f81.results.toList [(.bor, .str)] [(.bool, .b)] (t0, ()) = f_I_isEnded t0 := by kernel_rfl
theorem ok_I_isEnded : FnOk gl Tryz.prog 81 ct_I_isEnded :=
  fnOk (cx := cx_I_isEnded) (pl := pl_I_isEnded) (dp := 0) (ok0_of tabOk (by unfold ArrOk; kernel_rfl) mix ⟨ok_strings_HasSuffix, trivial⟩ trivial) Tryz.func81 (by kernel_rfl) (by kernel_rfl) (by kernel_rfl)
    (by rw [show loopsOf (bodyOf Tryz.f81) = [] from by kernel_rfl]; exact trivial) (fun x => ef_I_isEnded x.1)
noncomputable def pl_I_goodOrder_1 : Plan := ⟨[], [], 0, 0⟩
noncomputable def f_I_goodOrder_1 (t0 : PV .str) : Option (PVs [.bool] × PVs []) :=
  (f_I_isLine t0).bind fun r1 =>
    bif (!r1.1.1) then
      some ((true, ()), ())
    else
      (f_I_isEnded t0).bind fun r2 =>
        bif (!r2.1.1) then
          some ((true, ()), ())
        else
          some (((t0 == [46, 10]), ()), ())
noncomputable def ct_I_goodOrder_1 : Ct := ⟨[(.bor, .str)], [(.bool, .b)], fun x => f_I_goodOrder_1 x.1⟩
noncomputable def cx_I_goodOrder_1 : Cx := ⟨tab, arrs, [(80, ct_I_isLine), (81, ct_I_isEnded)], [], gl, []⟩
theorem ef_I_goodOrder_1 (t0 : PV .str) : denF cx_I_goodOrder_1 0 pl_I_goodOrder_1 Tryz.f79.ntmps (bodyOf Tryz.f79) Tryz.f79.results.toList [(.bor, .str)] [(.bool, .b)] (t0, ()) = f_I_goodOrder_1 t0 := by kernel_rfl
theorem ok_I_goodOrder_1 : FnOk gl Tryz.prog 79 ct_I_goodOrder_1 :=
  fnOk (cx := cx_I_goodOrder_1) (pl := pl_I_goodOrder_1) (dp := 0) (ok0_of tabOk (by unfold ArrOk; kernel_rfl) mix ⟨ok_I_isLine, ok_I_isEnded, trivial⟩ trivial) Tryz.func79 (by kernel_rfl) (by kernel_rfl) (by kernel_rfl)
    (by rw [show loopsOf (bodyOf Tryz.f79) = [] from by kernel_rfl]; exact trivial) (fun x => ef_I_goodOrder_1 x.1)
noncomputable def o_I_goodOrder_2 : List Out := [⟨.normal, ⟨[], [1, 15, 21, 22, 23, 24, 32, 33, 34, 35, 36, 42, 43, 44, 45, 46, 49, 50, 51, 57, 58, 59, 68, 69, 70, 79, 80, 81, 84, 85, 86, 87, 88], []⟩, mkSh 90 [(1, .var Y_impl_Order .b), (15, .val .bool .b)]⟩]
noncomputable def o_I_goodOrder_4 : List Out := [⟨.normal, ⟨[], [1, 3, 32, 33, 34, 35, 36, 42, 43, 44, 45, 46, 49, 50, 51, 57, 58, 59, 68, 69, 70, 79, 80, 81, 84, 85, 86, 87, 88], []⟩, mkSh 90 [(1, .var Y_impl_Order .b), (3, .val .bool .b)]⟩]
noncomputable def pl_I_goodOrder_78 : Plan := ⟨[], [], 1, 90⟩
noncomputable def sh_I_goodOrder_103_2 : List Sh := mkSh 118 [(1, .var Y_impl_Order .b), (15, .val .bool .b), (16, .addr ⟨1, [.r, .r, .r, .l], 0, 0⟩), (17, .val S_string .b), (18, .val (.int .i64) .b), (19, .val .bool .b), (20, .val .bool .b), (21, .addr ⟨1, [.r, .r, .r, .l], 0, 0⟩), (22, .val S_string .b), (90, .val S_string .b), (91, .fn 79 []), (94, .val .bool .b), (95, .val S_string .b), (96, .fn 79 []), (99, .val S_string .b), (100, .fn 79 []), (106, .val (.int .i64) .b), (107, .val (.int .i64) .b)]
noncomputable def o_I_goodOrder_103_2 : List Out := [⟨.exit 0, ⟨[], [], []⟩, mkSh 118 [(1, .var Y_impl_Order .b), (15, .val .bool .b), (16, .addr ⟨1, [.r, .r, .r, .l], 0, 0⟩), (17, .val S_string .b), (18, .val (.int .i64) .b), (19, .val .bool .b), (20, .val .bool .b), (21, .addr ⟨1, [.r, .r, .r, .l], 0, 0⟩), (22, .val S_string .b), (90, .val S_string .b), (91, .fn 79 []), (94, .val .bool .b), (95, .val S_string .b), (96, .fn 79 [])]⟩, ⟨.ret, ⟨[], [4], []⟩, mkSh 118 [(1, .var Y_impl_Order .b), (15, .val .bool .b), (16, .addr ⟨1, [.r, .r, .r, .l], 0, 0⟩), (17, .val S_string .b), (18, .val (.int .i64) .b), (19, .val .bool .b), (20, .val .bool .b), (21, .addr ⟨1, [.r, .r, .r, .l], 0, 0⟩), (22, .val S_string .b), (90, .val S_string .b), (91, .fn 79 []), (94, .val .bool .b), (95, .val S_string .b), (96, .fn 79 []), (103, .val (.int .i64) .b)]⟩]
noncomputable def b_I_goodOrder_103_2 (t1 : PV Y_impl_Order) (t15 : PV .bool) (t17 : PV S_string) (t18 : PV (.int .i64)) (t19 : PV .bool) (t20 : PV .bool) (t22 : PV S_string) (t90 : PV S_string) (t94 : PV .bool) (t95 : PV S_string) (t99 : PV S_string) (t106 : PV (.int .i64)) (t107 : PV (.int .i64)) : Option ((PV Y_impl_Order × PV .bool × PV S_string × PV (.int .i64) × PV .bool × PV .bool × PV S_string × PV S_string × PV .bool × PV S_string × PV S_string × PV (.int .i64) × PV (.int .i64) × Unit) ⊕ ((PV Y_impl_Order × PV .bool × PV S_string × PV (.int .i64) × PV .bool × PV .bool × PV S_string × PV S_string × PV .bool × PV S_string × Unit) ⊕ (PV Y_impl_Order × PV .bool × PV S_string × PV (.int .i64) × PV .bool × PV .bool × PV S_string × PV S_string × PV .bool × PV S_string × PV (.int .i64) × Unit))) :=
  bif (decide (t107 < t106)) then
    bif inB t107 t99.length then
      (f_I_goodOrder_1 (t99.getD t107.toNat [])).bind fun r13 =>
        bif r13.1.1 then
          some (.inr (.inr (t1, t15, t17, t18, t19, t20, t22, t90, t94, t95, t107, ())))
        else
          some (.inl (t1, t15, t17, t18, t19, t20, t22, t90, t94, t95, t99, t106, (IntKind.wrap .i64 (t107 + 1)), ()))
    else
      none
  else
    some (.inr (.inl (t1, t15, t17, t18, t19, t20, t22, t90, t94, t95, ())))
noncomputable def w_I_goodOrder_103_2 : PV Y_impl_Order × PV .bool × PV S_string × PV (.int .i64) × PV .bool × PV .bool × PV S_string × PV S_string × PV .bool × PV S_string × PV S_string × PV (.int .i64) × PV (.int .i64) × Unit → Option ((PV Y_impl_Order × PV .bool × PV S_string × PV (.int .i64) × PV .bool × PV .bool × PV S_string × PV S_string × PV .bool × PV S_string × Unit) ⊕ (PV Y_impl_Order × PV .bool × PV S_string × PV (.int .i64) × PV .bool × PV .bool × PV S_string × PV S_string × PV .bool × PV S_string × PV (.int .i64) × Unit)) := fix fun d => b_I_goodOrder_103_2 d.1 d.2.1 d.2.2.1 d.2.2.2.1 d.2.2.2.2.1 d.2.2.2.2.2.1 d.2.2.2.2.2.2.1 d.2.2.2.2.2.2.2.1 d.2.2.2.2.2.2.2.2.1 d.2.2.2.2.2.2.2.2.2.1 d.2.2.2.2.2.2.2.2.2.2.1 d.2.2.2.2.2.2.2.2.2.2.2.1 d.2.2.2.2.2.2.2.2.2.2.2.2.1
noncomputable def lp_I_goodOrder_103_2 : Lp := ⟨⟨[], [0, 1, 7, 8], []⟩, sh_I_goodOrder_103_2, o_I_goodOrder_103_2, fun d => b_I_goodOrder_103_2 d.1 d.2.1 d.2.2.1 d.2.2.2.1 d.2.2.2.2.1 d.2.2.2.2.2.1 d.2.2.2.2.2.2.1 d.2.2.2.2.2.2.2.1 d.2.2.2.2.2.2.2.2.1 d.2.2.2.2.2.2.2.2.2.1 d.2.2.2.2.2.2.2.2.2.2.1 d.2.2.2.2.2.2.2.2.2.2.2.1 d.2.2.2.2.2.2.2.2.2.2.2.2.1⟩
noncomputable def pl_I_goodOrder_103 : Plan := ⟨[], [(2, lp_I_goodOrder_103_2)], 0, 99⟩
noncomputable def pl_I_goodOrder : Plan := ⟨[(2, o_I_goodOrder_2), (4, o_I_goodOrder_4)], [], 2, 0⟩
noncomputable def f_I_goodOrder (t0 : PV Y_impl_Order) : Option (PVs [.bool] × PVs []) :=
  ((
      (f_I_in t0.2.1 0 1000).bind fun r6 =>
        bif (!r6.1.1) then
          some (t0, true, ())
        else
          (f_I_in t0.2.2.1 t0.2.1 1000).bind fun r7 =>
            some (t0, (!r7.1.1), ()) : Option ((PV Y_impl_Order × PV .bool × Unit)))).bind fun j8 =>
    bif j8.2.1 then
      some ((false, ()), ())
    else
      ((
          (f_I_in (j8.1.2.2.2.1.length : Int) 1 40).bind fun r18 =>
            bif r18.1.1 then
              (w_I_goodOrder_103_2 (j8.1, j8.2.1, j8.1.2.2.2.1, (j8.1.2.2.2.1.length : Int), r18.1.1, true, j8.1.2.2.2.1, j8.1.2.2.2.1, false, j8.1.2.2.2.1, j8.1.2.2.2.1, (j8.1.2.2.2.1.length : Int), 0, ())).bind fun x24 =>
                match x24 with
                | .inl l21 =>
                  bif l21.2.2.2.2.2.1 then
                    some (l21.1, (!(decide ((-1) ≥ 0))), ())
                  else
                    some (l21.1, false, ())
                | .inr l22 =>
                  bif l22.2.2.2.2.2.1 then
                    some (l22.1, (!(decide (l22.2.2.2.2.2.2.2.2.2.2.1 ≥ 0))), ())
                  else
                    some (l22.1, false, ())
            else
              some (j8.1, false, ()) : Option ((PV Y_impl_Order × PV .bool × Unit)))).bind fun j23 =>
        bif (j23.1.1 == 1) then
          bif j23.2.1 then
            some (((j23.1.2.2.1 == j23.1.2.1), ()), ())
          else
            some ((false, ()), ())
        else
          bif (j23.1.1 == 2) then
            bif j23.2.1 then
              bif (j23.1.2.2.1 == j23.1.2.1) then
                some (((decide (j23.1.2.1 ≥ 1)), ()), ())
              else
                some ((false, ()), ())
            else
              some ((false, ()), ())
          else
            bif (j23.1.1 == 3) then
              bif j23.2.1 then
                some (((decide (j23.1.2.1 ≥ 1)), ()), ())
              else
                some ((false, ()), ())
            else
              bif (j23.1.1 == 4) then
                bif ((j23.1.2.2.2.1.length : Int) == 0) then
                  some (((decide (j23.1.2.1 ≥ 1)), ()), ())
                else
                  some ((false, ()), ())
              else
                bif (j23.1.1 == 5) then
                  bif ((j23.1.2.2.2.1.length : Int) == 0) then
                    bif (decide (j23.1.2.1 ≥ 1)) then
                      some (((j23.1.2.2.1 == j23.1.2.1), ()), ())
                    else
                      some ((false, ()), ())
                  else
                    some ((false, ()), ())
                else
                  some ((false, ()), ())
noncomputable def ct_I_goodOrder : Ct := ⟨[(.bor, Y_impl_Order)], [(.bool, .b)], fun x => f_I_goodOrder x.1⟩
noncomputable def cx_I_goodOrder : Cx := ⟨tab, arrs, [(77, ct_I_in), (79, ct_I_goodOrder_1)], [(78, Tryz.f78, pl_I_goodOrder_78), (103, Tryz.f103, pl_I_goodOrder_103)], gl, []⟩
theorem eb_I_goodOrder_103_2 (t1 : PV Y_impl_Order) (t15 : PV .bool) (t17 : PV S_string) (t18 : PV (.int .i64)) (t19 : PV .bool) (t20 : PV .bool) (t22 : PV S_string) (t90 : PV S_string) (t94 : PV .bool) (t95 : PV S_string) (t99 : PV S_string) (t106 : PV (.int .i64)) (t107 : PV (.int .i64)) : denK cx_I_goodOrder (rcN cx_I_goodOrder 0) pl_I_goodOrder_103 99 ((loopsOf (bodyOf Tryz.f103)).getD 0 .skip) (fillS sh_I_goodOrder_103_2 (t1, t15, t17, t18, t19, t20, t22, t90, t94, t95, t99, t106, t107, ())) (roundK 99 lp_I_goodOrder_103_2) = b_I_goodOrder_103_2 t1 t15 t17 t18 t19 t20 t22 t90 t94 t95 t99 t106 t107 := by kernel_rfl
theorem ef_I_goodOrder (t0 : PV Y_impl_Order) : denF cx_I_goodOrder 2 pl_I_goodOrder Tryz.f54.ntmps (bodyOf Tryz.f54) Tryz.f54.results.toList [(.bor, Y_impl_Order)] [(.bool, .b)] (t0, ()) = f_I_goodOrder t0 := by kernel_rfl
theorem ok_I_goodOrder : FnOk gl Tryz.prog 54 ct_I_goodOrder :=
  fnOk (cx := cx_I_goodOrder) (pl := pl_I_goodOrder) (dp := 2) (ok0_of tabOk (by unfold ArrOk; kernel_rfl) mix ⟨ok_I_in, ok_I_goodOrder_1, trivial⟩ ⟨⟨Tryz.func78, by kernel_rfl, (by rw [show loopsOf (bodyOf Tryz.f78) = [] from by kernel_rfl]; exact trivial)⟩, ⟨Tryz.func103, by kernel_rfl, (by rw [show loopsOf (bodyOf Tryz.f103) = [((loopsOf (bodyOf Tryz.f103)).getD 0 .skip)] from by kernel_rfl]; exact ⟨(by rw [show lookup pl_I_goodOrder_103.loops (firstId ((loopsOf (bodyOf Tryz.f103)).getD 0 .skip)) = some lp_I_goodOrder_103_2 from by kernel_rfl]; exact fun d z h => (eb_I_goodOrder_103_2 d.1 d.2.1 d.2.2.1 d.2.2.2.1 d.2.2.2.2.1 d.2.2.2.2.2.1 d.2.2.2.2.2.2.1 d.2.2.2.2.2.2.2.1 d.2.2.2.2.2.2.2.2.1 d.2.2.2.2.2.2.2.2.2.1 d.2.2.2.2.2.2.2.2.2.2.1 d.2.2.2.2.2.2.2.2.2.2.2.1 d.2.2.2.2.2.2.2.2.2.2.2.2.1).trans h), trivial⟩)⟩, trivial⟩) Tryz.func54 (by kernel_rfl) (by kernel_rfl) (by kernel_rfl)
    (by rw [show loopsOf (bodyOf Tryz.f54) = [] from by kernel_rfl]; exact trivial) (fun x => ef_I_goodOrder x.1)
noncomputable def pl_I_goodOrders_1 : Plan := ⟨[], [], 0, 0⟩
noncomputable def f_I_goodOrders_1 (t0 : PV Y_impl_Order) : Option (PVs [.bool] × PVs []) :=
  (f_I_goodOrder t0).bind fun r1 =>
    some (((!r1.1.1), ()), ())
noncomputable def ct_I_goodOrders_1 : Ct := ⟨[(.bor, Y_impl_Order)], [(.bool, .b)], fun x => f_I_goodOrders_1 x.1⟩
noncomputable def cx_I_goodOrders_1 : Cx := ⟨tab, arrs, [(54, ct_I_goodOrder)], [], gl, []⟩
theorem ef_I_goodOrders_1 (t0 : PV Y_impl_Order) : denF cx_I_goodOrders_1 0 pl_I_goodOrders_1 Tryz.f53.ntmps (bodyOf Tryz.f53) Tryz.f53.results.toList [(.bor, Y_impl_Order)] [(.bool, .b)] (t0, ()) = f_I_goodOrders_1 t0 := by kernel_rfl
theorem ok_I_goodOrders_1 : FnOk gl Tryz.prog 53 ct_I_goodOrders_1 :=
  fnOk (cx := cx_I_goodOrders_1) (pl := pl_I_goodOrders_1) (dp := 0) (ok0_of tabOk (by unfold ArrOk; kernel_rfl) mix ⟨ok_I_goodOrder, trivial⟩ trivial) Tryz.func53 (by kernel_rfl) (by kernel_rfl) (by kernel_rfl)
    (by rw [show loopsOf (bodyOf Tryz.f53) = [] from by kernel_rfl]; exact trivial) (fun x => ef_I_goodOrders_1 x.1)
noncomputable def pl_I_goodOrders_52 : Plan := ⟨[], [], 1, 11⟩
noncomputable def sh_I_goodOrders_76_2 : List Sh := mkSh 39 [(0, .val S_impl_Order .b), (2, .val .bool .b), (3, .val S_impl_Order .b), (4, .val (.int .i64) .b), (5, .val .bool .b), (6, .val .bool .b), (7, .val S_impl_Order .b), (11, .val S_impl_Order .b), (12, .fn 53 []), (15, .val .bool .b), (16, .val S_impl_Order .b), (17, .fn 53 []), (20, .val S_impl_Order .b), (21, .fn 53 []), (27, .val (.int .i64) .b), (28, .val (.int .i64) .b)]
noncomputable def o_I_goodOrders_76_2 : List Out := [⟨.exit 0, ⟨[], [], []⟩, mkSh 39 [(0, .val S_impl_Order .b), (2, .val .bool .b), (3, .val S_impl_Order .b), (4, .val (.int .i64) .b), (5, .val .bool .b), (6, .val .bool .b), (7, .val S_impl_Order .b), (11, .val S_impl_Order .b), (12, .fn 53 []), (15, .val .bool .b), (16, .val S_impl_Order .b), (17, .fn 53 [])]⟩, ⟨.ret, ⟨[], [4], []⟩, mkSh 39 [(0, .val S_impl_Order .b), (2, .val .bool .b), (3, .val S_impl_Order .b), (4, .val (.int .i64) .b), (5, .val .bool .b), (6, .val .bool .b), (7, .val S_impl_Order .b), (11, .val S_impl_Order .b), (12, .fn 53 []), (15, .val .bool .b), (16, .val S_impl_Order .b), (17, .fn 53 []), (24, .val (.int .i64) .b)]⟩]
noncomputable def b_I_goodOrders_76_2 (t0 : PV S_impl_Order) (t2 : PV .bool) (t3 : PV S_impl_Order) (t4 : PV (.int .i64)) (t5 : PV .bool) (t6 : PV .bool) (t7 : PV S_impl_Order) (t11 : PV S_impl_Order) (t15 : PV .bool) (t16 : PV S_impl_Order) (t20 : PV S_impl_Order) (t27 : PV (.int .i64)) (t28 : PV (.int .i64)) : Option ((PV S_impl_Order × PV .bool × PV S_impl_Order × PV (.int .i64) × PV .bool × PV .bool × PV S_impl_Order × PV S_impl_Order × PV .bool × PV S_impl_Order × PV S_impl_Order × PV (.int .i64) × PV (.int .i64) × Unit) ⊕ ((PV S_impl_Order × PV .bool × PV S_impl_Order × PV (.int .i64) × PV .bool × PV .bool × PV S_impl_Order × PV S_impl_Order × PV .bool × PV S_impl_Order × Unit) ⊕ (PV S_impl_Order × PV .bool × PV S_impl_Order × PV (.int .i64) × PV .bool × PV .bool × PV S_impl_Order × PV S_impl_Order × PV .bool × PV S_impl_Order × PV (.int .i64) × Unit))) :=
  bif (decide (t28 < t27)) then
    bif inB t28 t20.length then
      (f_I_goodOrders_1 (t20.getD t28.toNat (dflt Y_impl_Order))).bind fun r4 =>
        bif r4.1.1 then
          some (.inr (.inr (t0, t2, t3, t4, t5, t6, t7, t11, t15, t16, t28, ())))
        else
          some (.inl (t0, t2, t3, t4, t5, t6, t7, t11, t15, t16, t20, t27, (IntKind.wrap .i64 (t28 + 1)), ()))
    else
      none
  else
    some (.inr (.inl (t0, t2, t3, t4, t5, t6, t7, t11, t15, t16, ())))
noncomputable def w_I_goodOrders_76_2 : PV S_impl_Order × PV .bool × PV S_impl_Order × PV (.int .i64) × PV .bool × PV .bool × PV S_impl_Order × PV S_impl_Order × PV .bool × PV S_impl_Order × PV S_impl_Order × PV (.int .i64) × PV (.int .i64) × Unit → Option ((PV S_impl_Order × PV .bool × PV S_impl_Order × PV (.int .i64) × PV .bool × PV .bool × PV S_impl_Order × PV S_impl_Order × PV .bool × PV S_impl_Order × Unit) ⊕ (PV S_impl_Order × PV .bool × PV S_impl_Order × PV (.int .i64) × PV .bool × PV .bool × PV S_impl_Order × PV S_impl_Order × PV .bool × PV S_impl_Order × PV (.int .i64) × Unit)) := fix fun d => b_I_goodOrders_76_2 d.1 d.2.1 d.2.2.1 d.2.2.2.1 d.2.2.2.2.1 d.2.2.2.2.2.1 d.2.2.2.2.2.2.1 d.2.2.2.2.2.2.2.1 d.2.2.2.2.2.2.2.2.1 d.2.2.2.2.2.2.2.2.2.1 d.2.2.2.2.2.2.2.2.2.2.1 d.2.2.2.2.2.2.2.2.2.2.2.1 d.2.2.2.2.2.2.2.2.2.2.2.2.1
noncomputable def lp_I_goodOrders_76_2 : Lp := ⟨⟨[], [0, 1, 7, 8], []⟩, sh_I_goodOrders_76_2, o_I_goodOrders_76_2, fun d => b_I_goodOrders_76_2 d.1 d.2.1 d.2.2.1 d.2.2.2.1 d.2.2.2.2.1 d.2.2.2.2.2.1 d.2.2.2.2.2.2.1 d.2.2.2.2.2.2.2.1 d.2.2.2.2.2.2.2.2.1 d.2.2.2.2.2.2.2.2.2.1 d.2.2.2.2.2.2.2.2.2.2.1 d.2.2.2.2.2.2.2.2.2.2.2.1 d.2.2.2.2.2.2.2.2.2.2.2.2.1⟩
noncomputable def pl_I_goodOrders_76 : Plan := ⟨[], [(2, lp_I_goodOrders_76_2)], 0, 20⟩
noncomputable def pl_I_goodOrders : Plan := ⟨[], [], 2, 0⟩
noncomputable def f_I_goodOrders (t0 : PV S_impl_Order) : Option (PVs [.bool] × PVs []) :=
  bif (decide ((t0.length : Int) ≤ 60)) then
    (w_I_goodOrders_76_2 (t0, false, t0, (t0.length : Int), (decide ((t0.length : Int) ≤ 60)), true, t0, t0, false, t0, t0, (t0.length : Int), 0, ())).bind fun x9 =>
      match x9 with
      | .inl l7 =>
        bif l7.2.2.2.2.2.1 then
          some (((!(decide ((-1) ≥ 0))), ()), ())
        else
          some ((false, ()), ())
      | .inr l8 =>
        bif l8.2.2.2.2.2.1 then
          some (((!(decide (l8.2.2.2.2.2.2.2.2.2.2.1 ≥ 0))), ()), ())
        else
          some ((false, ()), ())
  else
    some ((false, ()), ())
noncomputable def ct_I_goodOrders : Ct := ⟨[(.bor, S_impl_Order)], [(.bool, .b)], fun x => f_I_goodOrders x.1⟩
noncomputable def cx_I_goodOrders : Cx := ⟨tab, arrs, [(53, ct_I_goodOrders_1)], [(52, Tryz.f52, pl_I_goodOrders_52), (76, Tryz.f76, pl_I_goodOrders_76)], gl, []⟩
theorem eb_I_goodOrders_76_2 (t0 : PV S_impl_Order) (t2 : PV .bool) (t3 : PV S_impl_Order) (t4 : PV (.int .i64)) (t5 : PV .bool) (t6 : PV .bool) (t7 : PV S_impl_Order) (t11 : PV S_impl_Order) (t15 : PV .bool) (t16 : PV S_impl_Order) (t20 : PV S_impl_Order) (t27 : PV (.int .i64)) (t28 : PV (.int .i64)) : denK cx_I_goodOrders (rcN cx_I_goodOrders 0) pl_I_goodOrders_76 20 ((loopsOf (bodyOf Tryz.f76)).getD 0 .skip) (fillS sh_I_goodOrders_76_2 (t0, t2, t3, t4, t5, t6, t7, t11, t15, t16, t20, t27, t28, ())) (roundK 20 lp_I_goodOrders_76_2) = b_I_goodOrders_76_2 t0 t2 t3 t4 t5 t6 t7 t11 t15 t16 t20 t27 t28 := by kernel_rfl
theorem ef_I_goodOrders (t0 : PV S_impl_Order) : denF cx_I_goodOrders 2 pl_I_goodOrders Tryz.f29.ntmps (bodyOf Tryz.f29) Tryz.f29.results.toList [(.bor, S_impl_Order)] [(.bool, .b)] (t0, ()) = f_I_goodOrders t0 := by kernel_rfl
theorem ok_I_goodOrders : FnOk gl Tryz.prog 29 ct_I_goodOrders :=
  fnOk (cx := cx_I_goodOrders) (pl := pl_I_goodOrders) (dp := 2) (ok0_of tabOk (by unfold ArrOk; kernel_rfl) mix ⟨ok_I_goodOrders_1, trivial⟩ ⟨⟨Tryz.func52, by kernel_rfl, (by rw [show loopsOf (bodyOf Tryz.f52) = [] from by kernel_rfl]; exact trivial)⟩, ⟨Tryz.func76, by kernel_rfl, (by rw [show loopsOf (bodyOf Tryz.f76) = [((loopsOf (bodyOf Tryz.f76)).getD 0 .skip)] from by kernel_rfl]; exact ⟨(by rw [show lookup pl_I_goodOrders_76.loops (firstId ((loopsOf (bodyOf Tryz.f76)).getD 0 .skip)) = some lp_I_goodOrders_76_2 from by kernel_rfl]; exact fun d z h => (eb_I_goodOrders_76_2 d.1 d.2.1 d.2.2.1 d.2.2.2.1 d.2.2.2.2.1 d.2.2.2.2.2.1 d.2.2.2.2.2.2.1 d.2.2.2.2.2.2.2.1 d.2.2.2.2.2.2.2.2.1 d.2.2.2.2.2.2.2.2.2.1 d.2.2.2.2.2.2.2.2.2.2.1 d.2.2.2.2.2.2.2.2.2.2.2.1 d.2.2.2.2.2.2.2.2.2.2.2.2.1).trans h), trivial⟩)⟩, trivial⟩) Tryz.func29 (by kernel_rfl) (by kernel_rfl) (by kernel_rfl)
    (by rw [show loopsOf (bodyOf Tryz.f29) = [] from by kernel_rfl]; exact trivial) (fun x => ef_I_goodOrders x.1)
noncomputable def pl_I_pairOf : Plan := ⟨[], [], 0, 0⟩
noncomputable def f_I_pairOf (t0 : PV (.int .i64)) (t1 : PV (.int .i64)) : Option (PVs [.str] × PVs []) :=
  bif (t0 == t1) then
    (f_strconv_Itoa t0).bind fun r2 =>
      some ((r2.1.1, ()), ())
  else
    (f_strconv_Itoa t0).bind fun r3 =>
      bif decide (r3.1.1.length + [44].length ≤ 1099511627776) then
        (f_strconv_Itoa t1).bind fun r4 =>
          bif decide ((r3.1.1 ++ [44]).length + r4.1.1.length ≤ 1099511627776) then
            some ((((r3.1.1 ++ [44]) ++ r4.1.1), ()), ())
          else
            none
      else
        none
noncomputable def ct_I_pairOf : Ct := ⟨[(.bor, (.int .i64)), (.bor, (.int .i64))], [(.str, .b)], fun x => f_I_pairOf x.1 x.2.1⟩
noncomputable def cx_I_pairOf : Cx := ⟨tab, arrs, [(55, ct_strconv_Itoa)], [], gl, []⟩
theorem ef_I_pairOf (t0 : PV (.int .i64)) (t1 : PV (.int .i64)) : denF cx_I_pairOf 0 pl_I_pairOf Tryz.f30.ntmps (bodyOf Tryz.f30) Tryz.f30.results.toList [(.bor, (.int .i64)), (.bor, (.int .i64))] [(.str, .b)] (t0, t1, ()) = f_I_pairOf t0 t1 := by kernel_rfl
theorem ok_I_pairOf : FnOk gl Tryz.prog 30 ct_I_pairOf :=
  fnOk (cx := cx_I_pairOf) (pl := pl_I_pairOf) (dp := 0) (ok0_of tabOk (by unfold ArrOk; kernel_rfl) mix ⟨ok_strconv_Itoa, trivial⟩ trivial) Tryz.func30 (by kernel_rfl) (by kernel_rfl) (by kernel_rfl)
    (by rw [show loopsOf (bodyOf Tryz.f30) = [] from by kernel_rfl]; exact trivial) (fun x => ef_I_pairOf x.1 x.2.1)
noncomputable def pl_I_short : Plan := ⟨[], [], 0, 0⟩
noncomputable def f_I_short (t0 : PV .str) : Option (PVs [.str, .bool] × PVs []) :=
  bif (decide ((t0.length : Int) > 3000)) then
    some (([], false, ()), ())
  else
    some ((t0, true, ()), ())
noncomputable def ct_I_short : Ct := ⟨[(.bor, .str)], [(.str, .b), (.bool, .b)], fun x => f_I_short x.1⟩
noncomputable def cx_I_short : Cx := ⟨tab, arrs, [], [], gl, []⟩
theorem ef_I_short (t0 : PV .str) : denF cx_I_short 0 pl_I_short Tryz.f32.ntmps (bodyOf Tryz.f32) Tryz.f32.results.toList [(.bor, .str)] [(.str, .b), (.bool, .b)] (t0, ()) = f_I_short t0 := by kernel_rfl
theorem ok_I_short : FnOk gl Tryz.prog 32 ct_I_short :=
  fnOk (cx := cx_I_short) (pl := pl_I_short) (dp := 0) (ok0_of tabOk (by unfold ArrOk; kernel_rfl) mix trivial trivial) Tryz.func32 (by kernel_rfl) (by kernel_rfl) (by kernel_rfl)
    (by rw [show loopsOf (bodyOf Tryz.f32) = [] from by kernel_rfl]; exact trivial) (fun x => ef_I_short x.1)
end R
