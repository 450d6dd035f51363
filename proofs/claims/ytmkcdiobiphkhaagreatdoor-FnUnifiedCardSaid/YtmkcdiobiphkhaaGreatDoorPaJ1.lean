/- The functions that L_FnUnified reach, as pure functions, and that the program computes them. -/
import Derived.Test.YtmkcdiobiphkhaaGreatDoorL3
import Derived.Test.YtmkcdiobiphkhaaGreatDoorChecked
import Derived.KernelRfl
open Go Go.Dn Go.Proofs
namespace R
set_option linter.unusedVariables false
@[reducible] def S_string : Ty := (.slice 9 .str)
@[reducible] def S_uint8 : Ty := (.slice 5 (.int .u8))
@[reducible] def S_int : Ty := (.slice 3 (.int .i64))
@[reducible] def Y_impl_Row : Ty := (.pair (.int .i64) (.pair .str .unit))
@[reducible] def S_impl_Row : Ty := (.slice 84 Y_impl_Row)
@[reducible] def Y_impl_Hunk : Ty := (.pair (.int .i64) (.pair (.int .i64) (.pair S_string .unit)))
@[reducible] def Y_spec_l1Cur : Ty := (.pair S_uint8 (.pair (.int .i64) (.pair (.int .u64) .unit)))
@[reducible] def S_impl_Hunk : Ty := (.slice 107 Y_impl_Hunk)
@[reducible] def Y_impl_Group : Ty := (.pair (.int .i64) (.pair (.int .i64) (.pair S_impl_Row .unit)))
@[reducible] def S_impl_Group : Ty := (.slice 55 Y_impl_Group)
noncomputable def tab : List (TypeId × Ty) := [(3, (.int .i64)), (4, .bool), (5, (.int .u8)), (9, .str), (22, S_uint8), (24, S_impl_Group), (33, S_string), (34, S_impl_Hunk), (53, S_impl_Row), (55, Y_impl_Group), (57, (.int .u64)), (59, Y_spec_l1Cur), (84, Y_impl_Row), (91, S_int), (107, Y_impl_Hunk)]
noncomputable def arrs : List TypeId := []
theorem tabOk : TabOk Tryz.prog tab := by unfold TabOk; kernel_rfl
theorem mix : Tryz.prog.follows .mixedOrders = true := by kernel_rfl
noncomputable def gl : Glob := (Glob.both (tabGlob Tryz.prog 1) (Glob.both (numGlob 0) (Glob.both (errGlob Tryz.prog "strconv.ErrSyntax" 6) (errGlob Tryz.prog "strconv.ErrRange" 7))))
theorem gl_tab : ∀ w, gl.ok w → Lib.TabIs Tryz.prog w "internal/strconv.uint64pow10" .u64 Lib.pow10Tab := fun w h => tabGlob_tab w h.1
theorem gl_max : ∀ w, gl.ok w → ∃ m, w.cell? ⟨0, 0, none⟩ = some (.int .i64 m) := fun w h => h.2.1
theorem gl_syn : ∀ w, gl.ok w → ∃ tp p, w.var? Tryz.prog "strconv.ErrSyntax" = some #[.iface tp p] := fun w h => h.2.2.1.2
theorem gl_rng : ∀ w, gl.ok w → ∃ tp p, w.var? Tryz.prog "strconv.ErrRange" = some #[.iface tp p] := fun w h => h.2.2.2.2
open Go.Shelf
set_option maxRecDepth 20000
def lays_strconv_Itoa_ren : Go.Shelf.Ren := ⟨fun | 0 => 0 | 1 => 1 | 2 => 2 | 100 => 127 | 102 => 139 | 103 => 107 | 104 => 109 | 129 => 167 | 137 => 111 | 138 => 141 | 143 => 142 | 144 => 131 | 145 => 108 | 171 => 101 | 172 => 164 | 193 => 89 | 195 => 154 | 197 => 155 | 205 => 183 | 206 => 149 | 207 => 147 | 209 => 153 | 210 => 133 | 211 => 135 | 217 => 138 | 218 => 156 | 219 => 150 | 220 => 134 | 221 => 113 | 224 => 162 | 225 => 161 | 243 => 132 | 244 => 172 | 245 => 173 | 246 => 148 | 247 => 176 | 260 => 165 | 266 => 152 | 267 => 163 | 268 => 140 | 279 => 177 | 280 => 178 | 281 => 179 | 282 => 180 | 283 => 157 | 284 => 158 | 285 => 159 | 286 => 160 | 287 => 181 | 314 => 171 | 316 => 182 | 317 => 166 | 318 => 168 | 319 => 169 | 320 => 170 | 321 => 184 | 322 => 185 | 337 => 174 | 338 => 175 | 347 => 186 | 348 => 187 | 349 => 188 | 350 => 189 | 351 => 190 | 352 => 191 | 353 => 192 | 354 => 193 | 355 => 194 | 356 => 195 | 357 => 196 | 358 => 197 | 359 => 198 | 360 => 199 | 361 => 200 | 363 => 205 | 364 => 203 | 365 => 204 | 366 => 206 | 367 => 216 | n => n, fun | 0 => 0 | 1 => 1 | 2 => 2 | 3 => 3 | 4 => 4 | 5 => 5 | 6 => 6 | 7 => 7 | 8 => 8 | 9 => 9 | 10 => 10 | 11 => 11 | 12 => 12 | 13 => 13 | 14 => 14 | 15 => 15 | 16 => 16 | 17 => 17 | 18 => 18 | 19 => 19 | 20 => 20 | 21 => 21 | 22 => 127 | 23 => 62 | 24 => 26 | 25 => 113 | 27 => 132 | 28 => 91 | 31 => 33 | 36 => 90 | 37 => 22 | 38 => 23 | 43 => 99 | 46 => 118 | 47 => 152 | 48 => 98 | 51 => 150 | 52 => 160 | 53 => 57 | 54 => 140 | 55 => 116 | 59 => 114 | 60 => 115 | 61 => 88 | 68 => 51 | 69 => 66 | 74 => 144 | 75 => 145 | 76 => 146 | 77 => 147 | 80 => 112 | 81 => 94 | 83 => 85 | 84 => 136 | 85 => 162 | 86 => 163 | 101 => 42 | 102 => 93 | 103 => 133 | 104 => 70 | 105 => 137 | 106 => 138 | 108 => 173 | 111 => 92 | 112 => 121 | 113 => 117 | 114 => 61 | 119 => 156 | 127 => 175 | 128 => 155 | 131 => 119 | 137 => 157 | 138 => 158 | 139 => 159 | 143 => 176 | 144 => 177 | 145 => 178 | 146 => 153 | 150 => 131 | 151 => 154 | 164 => 191 | 167 => 161 | 168 => 164 | 169 => 165 | 170 => 166 | 171 => 139 | 172 => 141 | 173 => 142 | 174 => 143 | 175 => 169 | 176 => 170 | 209 => 171 | 210 => 172 | 211 => 148 | 212 => 149 | 213 => 151 | 214 => 174 | 232 => 167 | 233 => 168 | 238 => 179 | 239 => 180 | 240 => 181 | 241 => 182 | 242 => 183 | 243 => 184 | 244 => 185 | 245 => 186 | 246 => 187 | 247 => 188 | 248 => 189 | 249 => 190 | n => n, fun | 1 => 0 | 3 => 2 | 4 => 3 | 15 => 6 | 16 => 7 | 17 => 1 | 18 => 4 | 19 => 5 | n => n⟩
theorem lays_strconv_Itoa : Go.Proofs.LaysM.n171 Tryz.prog lays_strconv_Itoa_ren where
  mixed := by kernel_rfl
  f129 := Tryz.func167.trans (congrArg some (by kernel_rfl))
  f171 := Tryz.func101.trans (congrArg some (by kernel_rfl))
  f243 := Tryz.func132.trans (congrArg some (by kernel_rfl))
  f246 := Tryz.func148.trans (congrArg some (by kernel_rfl))
  f283 := Tryz.func157.trans (congrArg some (by kernel_rfl))
  f284 := Tryz.func158.trans (congrArg some (by kernel_rfl))
  f285 := Tryz.func159.trans (congrArg some (by kernel_rfl))
  f286 := Tryz.func160.trans (congrArg some (by kernel_rfl))
  f317 := Tryz.func166.trans (congrArg some (by kernel_rfl))
  f318 := Tryz.func168.trans (congrArg some (by kernel_rfl))
  f319 := Tryz.func169.trans (congrArg some (by kernel_rfl))
  f320 := Tryz.func170.trans (congrArg some (by kernel_rfl))
  f337 := Tryz.func174.trans (congrArg some (by kernel_rfl))
  f338 := Tryz.func175.trans (congrArg some (by kernel_rfl))
  t0 := Tryz.underlying0
  a0 := Tryz.isAgg0
  z0 := Tryz.sizeOf0
  v0 := Tryz.zeroValue0
  t2 := Tryz.underlying2
  a2 := Tryz.isAgg2
  z2 := Tryz.sizeOf2
  v2 := Tryz.zeroValue2
  t3 := Tryz.underlying3
  a3 := Tryz.isAgg3
  z3 := Tryz.sizeOf3
  v3 := Tryz.zeroValue3
  t4 := Tryz.underlying4
  a4 := Tryz.isAgg4
  z4 := Tryz.sizeOf4
  v4 := Tryz.zeroValue4
  t5 := Tryz.underlying5
  a5 := Tryz.isAgg5
  z5 := Tryz.sizeOf5
  v5 := Tryz.zeroValue5
  t9 := Tryz.underlying9
  a9 := Tryz.isAgg9
  z9 := Tryz.sizeOf9
  v9 := Tryz.zeroValue9
  t20 := Tryz.underlying20
  a20 := Tryz.isAgg20
  z20 := Tryz.sizeOf20
  v20 := Tryz.zeroValue20
  t37 := Tryz.underlying22
  a37 := Tryz.isAgg22
  z37 := Tryz.sizeOf22
  v37 := Tryz.zeroValue22
  t46 := Tryz.underlying118
  a46 := Tryz.isAgg118
  z46 := Tryz.sizeOf118
  v46 := Tryz.zeroValue118
  t51 := Tryz.underlying150
  a51 := Tryz.isAgg150
  z51 := Tryz.sizeOf150
  v51 := Tryz.zeroValue150
  t53 := Tryz.underlying57
  a53 := Tryz.isAgg57
  z53 := Tryz.sizeOf57
  v53 := Tryz.zeroValue57
  t171 := Tryz.underlying139
  a171 := Tryz.isAgg139
  z171 := Tryz.sizeOf139
  v171 := Tryz.zeroValue139
  t173 := Tryz.underlying142
  a173 := Tryz.isAgg142
  z173 := Tryz.sizeOf142
  v173 := Tryz.zeroValue142
  t212 := Tryz.underlying149
  a212 := Tryz.isAgg149
  z212 := Tryz.sizeOf149
  v212 := Tryz.zeroValue149
  t213 := Tryz.underlying151
  a213 := Tryz.isAgg151
  z213 := Tryz.sizeOf151
  t232 := Tryz.underlying167
  a232 := Tryz.isAgg167
  z232 := Tryz.sizeOf167
  v232 := Tryz.zeroValue167
  t233 := Tryz.underlying168
  a233 := Tryz.isAgg168
  z233 := Tryz.sizeOf168
  v233 := Tryz.zeroValue168
  g17 := by kernel_rfl
  g18 := by kernel_rfl
  g19 := by kernel_rfl
  i0 := by kernel_rfl
  i2 := by kernel_rfl
  i3 := by kernel_rfl
  i4 := by kernel_rfl
  i5 := by kernel_rfl
  i9 := by kernel_rfl
  i20 := by kernel_rfl
  i37 := by kernel_rfl
  i46 := by kernel_rfl
  i51 := by kernel_rfl
  i53 := by kernel_rfl
  i171 := by kernel_rfl
  i173 := by kernel_rfl
  i212 := by kernel_rfl
  i232 := by kernel_rfl
  i233 := by kernel_rfl
  m17 := by kernel_rfl
  m18 := by kernel_rfl
  m19 := by kernel_rfl
noncomputable def f_strconv_Itoa (t0 : PV (.int .i64)) : Option (PVs [.str] × PVs []) := Go.Dn.itoaF t0
noncomputable def ct_strconv_Itoa : Ct := ⟨[(.bor, (.int .i64))], [(.str, .b)], fun x => f_strconv_Itoa x.1⟩
theorem ok_strconv_Itoa : FnOk gl Tryz.prog 101 ct_strconv_Itoa := Go.Dn.itoa_ok gl_tab lays_strconv_Itoa
def lays_strings_genSplit_ren : Go.Shelf.Ren := ⟨fun | 0 => 0 | 1 => 1 | 2 => 2 | 100 => 127 | 102 => 139 | 103 => 107 | 104 => 109 | 129 => 167 | 137 => 111 | 138 => 141 | 143 => 142 | 144 => 131 | 145 => 108 | 171 => 101 | 172 => 164 | 193 => 89 | 195 => 154 | 197 => 155 | 205 => 183 | 206 => 149 | 207 => 147 | 209 => 153 | 210 => 133 | 211 => 135 | 217 => 138 | 218 => 156 | 219 => 150 | 220 => 134 | 221 => 113 | 224 => 162 | 225 => 161 | 243 => 132 | 244 => 172 | 245 => 173 | 246 => 148 | 247 => 176 | 260 => 165 | 266 => 152 | 267 => 163 | 268 => 140 | 279 => 177 | 280 => 178 | 281 => 179 | 282 => 180 | 283 => 157 | 284 => 158 | 285 => 159 | 286 => 160 | 287 => 181 | 314 => 171 | 316 => 182 | 317 => 166 | 318 => 168 | 319 => 169 | 320 => 170 | 321 => 184 | 322 => 185 | 337 => 174 | 338 => 175 | 347 => 186 | 348 => 187 | 349 => 188 | 350 => 189 | 351 => 190 | 352 => 191 | 353 => 192 | 354 => 193 | 355 => 194 | 356 => 195 | 357 => 196 | 358 => 197 | 359 => 198 | 360 => 199 | 361 => 200 | 363 => 205 | 364 => 203 | 365 => 204 | 366 => 206 | 367 => 216 | n => n, fun | 0 => 0 | 1 => 1 | 2 => 2 | 3 => 3 | 4 => 4 | 5 => 5 | 6 => 6 | 7 => 7 | 8 => 8 | 9 => 9 | 10 => 10 | 11 => 11 | 12 => 12 | 13 => 13 | 14 => 14 | 15 => 15 | 16 => 16 | 17 => 17 | 18 => 18 | 19 => 19 | 20 => 20 | 21 => 21 | 22 => 127 | 23 => 62 | 24 => 26 | 25 => 113 | 27 => 132 | 28 => 91 | 31 => 33 | 36 => 90 | 37 => 22 | 38 => 23 | 43 => 99 | 46 => 118 | 47 => 152 | 48 => 98 | 51 => 150 | 52 => 160 | 53 => 57 | 54 => 140 | 55 => 116 | 59 => 114 | 60 => 115 | 61 => 88 | 68 => 51 | 69 => 66 | 74 => 144 | 75 => 145 | 76 => 146 | 77 => 147 | 80 => 112 | 81 => 94 | 83 => 85 | 84 => 136 | 85 => 162 | 86 => 163 | 101 => 42 | 102 => 93 | 103 => 133 | 104 => 70 | 105 => 137 | 106 => 138 | 108 => 173 | 111 => 92 | 112 => 121 | 113 => 117 | 114 => 61 | 119 => 156 | 127 => 175 | 128 => 155 | 131 => 119 | 137 => 157 | 138 => 158 | 139 => 159 | 143 => 176 | 144 => 177 | 145 => 178 | 146 => 153 | 150 => 131 | 151 => 154 | 164 => 191 | 167 => 161 | 168 => 164 | 169 => 165 | 170 => 166 | 171 => 139 | 172 => 141 | 173 => 142 | 174 => 143 | 175 => 169 | 176 => 170 | 209 => 171 | 210 => 172 | 211 => 148 | 212 => 149 | 213 => 151 | 214 => 174 | 232 => 167 | 233 => 168 | 238 => 179 | 239 => 180 | 240 => 181 | 241 => 182 | 242 => 183 | 243 => 184 | 244 => 185 | 245 => 186 | 246 => 187 | 247 => 188 | 248 => 189 | 249 => 190 | n => n, fun | 1 => 0 | 3 => 2 | 4 => 3 | 15 => 6 | 16 => 7 | 17 => 1 | 18 => 4 | 19 => 5 | n => n⟩
theorem lays_strings_genSplit : Go.Proofs.Lays.n221 Tryz.prog lays_strings_genSplit_ren where
  mixed := by kernel_rfl
  f138 := Tryz.func141.trans (congrArg some (by kernel_rfl))
  f143 := Tryz.func142.trans (congrArg some (by kernel_rfl))
  f195 := Tryz.func154.trans (congrArg some (by kernel_rfl))
  f197 := Tryz.func155.trans (congrArg some (by kernel_rfl))
  f217 := Tryz.func138.trans (congrArg some (by kernel_rfl))
  f218 := Tryz.func156.trans (congrArg some (by kernel_rfl))
  f219 := Tryz.func150.trans (congrArg some (by kernel_rfl))
  f221 := Tryz.func113.trans (congrArg some (by kernel_rfl))
  f224 := Tryz.func162.trans (congrArg some (by kernel_rfl))
  f225 := Tryz.func161.trans (congrArg some (by kernel_rfl))
  f260 := Tryz.func165.trans (congrArg some (by kernel_rfl))
  f266 := Tryz.func152.trans (congrArg some (by kernel_rfl))
  f267 := Tryz.func163.trans (congrArg some (by kernel_rfl))
  f268 := Tryz.func140.trans (congrArg some (by kernel_rfl))
  f314 := Tryz.func171.trans (congrArg some (by kernel_rfl))
  t0 := Tryz.underlying0
  a0 := Tryz.isAgg0
  z0 := Tryz.sizeOf0
  v0 := Tryz.zeroValue0
  t3 := Tryz.underlying3
  a3 := Tryz.isAgg3
  z3 := Tryz.sizeOf3
  v3 := Tryz.zeroValue3
  t4 := Tryz.underlying4
  a4 := Tryz.isAgg4
  z4 := Tryz.sizeOf4
  v4 := Tryz.zeroValue4
  t5 := Tryz.underlying5
  a5 := Tryz.isAgg5
  z5 := Tryz.sizeOf5
  v5 := Tryz.zeroValue5
  t9 := Tryz.underlying9
  a9 := Tryz.isAgg9
  z9 := Tryz.sizeOf9
  v9 := Tryz.zeroValue9
  t21 := Tryz.underlying21
  a21 := Tryz.isAgg21
  z21 := Tryz.sizeOf21
  v21 := Tryz.zeroValue21
  t31 := Tryz.underlying33
  a31 := Tryz.isAgg33
  z31 := Tryz.sizeOf33
  v31 := Tryz.zeroValue33
  t46 := Tryz.underlying118
  a46 := Tryz.isAgg118
  z46 := Tryz.sizeOf118
  v46 := Tryz.zeroValue118
  t51 := Tryz.underlying150
  a51 := Tryz.isAgg150
  z51 := Tryz.sizeOf150
  v51 := Tryz.zeroValue150
  t105 := Tryz.underlying137
  a105 := Tryz.isAgg137
  z105 := Tryz.sizeOf137
  v105 := Tryz.zeroValue137
  t119 := Tryz.underlying156
  a119 := Tryz.isAgg156
  z119 := Tryz.sizeOf156
  t138 := Tryz.underlying158
  a138 := Tryz.isAgg158
  z138 := Tryz.sizeOf158
  v138 := Tryz.zeroValue158
  t139 := Tryz.underlying159
  a139 := Tryz.isAgg159
  z139 := Tryz.sizeOf159
  v139 := Tryz.zeroValue159
  t146 := Tryz.underlying153
  a146 := Tryz.isAgg153
  z146 := Tryz.sizeOf153
  v146 := Tryz.zeroValue153
  g1 := by kernel_rfl
  g3 := by kernel_rfl
  g4 := by kernel_rfl

noncomputable def f_strings_genSplit (t0 : PV .str) (t1 : PV .str) (t2 : PV (.int .i64)) (t3 : PV (.int .i64)) : Option (PVs [S_string] × PVs []) := Go.Dn.splitF 9 t0 t1 t2 t3
noncomputable def ct_strings_genSplit : Ct := ⟨[(.bor, .str), (.bor, .str), (.bor, .int .i64), (.bor, .int .i64)], [(S_string, .row .b)], fun x => f_strings_genSplit x.1 x.2.1 x.2.2.1 x.2.2.2.1⟩
theorem ok_strings_genSplit : FnOk gl Tryz.prog 113 ct_strings_genSplit := Go.Dn.split_ok rfl lays_strings_genSplit (by kernel_rfl)
def lays_strings_Contains_ren : Go.Shelf.Ren := ⟨fun | 0 => 0 | 1 => 1 | 2 => 2 | 100 => 127 | 102 => 139 | 103 => 107 | 104 => 109 | 129 => 167 | 137 => 111 | 138 => 141 | 143 => 142 | 144 => 131 | 145 => 108 | 171 => 101 | 172 => 164 | 193 => 89 | 195 => 154 | 197 => 155 | 205 => 183 | 206 => 149 | 207 => 147 | 209 => 153 | 210 => 133 | 211 => 135 | 217 => 138 | 218 => 156 | 219 => 150 | 220 => 134 | 221 => 113 | 224 => 162 | 225 => 161 | 243 => 132 | 244 => 172 | 245 => 173 | 246 => 148 | 247 => 176 | 260 => 165 | 266 => 152 | 267 => 163 | 268 => 140 | 279 => 177 | 280 => 178 | 281 => 179 | 282 => 180 | 283 => 157 | 284 => 158 | 285 => 159 | 286 => 160 | 287 => 181 | 314 => 171 | 316 => 182 | 317 => 166 | 318 => 168 | 319 => 169 | 320 => 170 | 321 => 184 | 322 => 185 | 337 => 174 | 338 => 175 | 347 => 186 | 348 => 187 | 349 => 188 | 350 => 189 | 351 => 190 | 352 => 191 | 353 => 192 | 354 => 193 | 355 => 194 | 356 => 195 | 357 => 196 | 358 => 197 | 359 => 198 | 360 => 199 | 361 => 200 | 363 => 205 | 364 => 203 | 365 => 204 | 366 => 206 | 367 => 216 | n => n, fun | 0 => 0 | 1 => 1 | 2 => 2 | 3 => 3 | 4 => 4 | 5 => 5 | 6 => 6 | 7 => 7 | 8 => 8 | 9 => 9 | 10 => 10 | 11 => 11 | 12 => 12 | 13 => 13 | 14 => 14 | 15 => 15 | 16 => 16 | 17 => 17 | 18 => 18 | 19 => 19 | 20 => 20 | 21 => 21 | 22 => 127 | 23 => 62 | 24 => 26 | 25 => 113 | 27 => 132 | 28 => 91 | 31 => 33 | 36 => 90 | 37 => 22 | 38 => 23 | 43 => 99 | 46 => 118 | 47 => 152 | 48 => 98 | 51 => 150 | 52 => 160 | 53 => 57 | 54 => 140 | 55 => 116 | 59 => 114 | 60 => 115 | 61 => 88 | 68 => 51 | 69 => 66 | 74 => 144 | 75 => 145 | 76 => 146 | 77 => 147 | 80 => 112 | 81 => 94 | 83 => 85 | 84 => 136 | 85 => 162 | 86 => 163 | 101 => 42 | 102 => 93 | 103 => 133 | 104 => 70 | 105 => 137 | 106 => 138 | 108 => 173 | 111 => 92 | 112 => 121 | 113 => 117 | 114 => 61 | 119 => 156 | 127 => 175 | 128 => 155 | 131 => 119 | 137 => 157 | 138 => 158 | 139 => 159 | 143 => 176 | 144 => 177 | 145 => 178 | 146 => 153 | 150 => 131 | 151 => 154 | 164 => 191 | 167 => 161 | 168 => 164 | 169 => 165 | 170 => 166 | 171 => 139 | 172 => 141 | 173 => 142 | 174 => 143 | 175 => 169 | 176 => 170 | 209 => 171 | 210 => 172 | 211 => 148 | 212 => 149 | 213 => 151 | 214 => 174 | 232 => 167 | 233 => 168 | 238 => 179 | 239 => 180 | 240 => 181 | 241 => 182 | 242 => 183 | 243 => 184 | 244 => 185 | 245 => 186 | 246 => 187 | 247 => 188 | 248 => 189 | 249 => 190 | n => n, fun | 1 => 0 | 3 => 2 | 4 => 3 | 15 => 6 | 16 => 7 | 17 => 1 | 18 => 4 | 19 => 5 | n => n⟩
theorem lays_strings_Contains : Go.Proofs.Lays.n144 Tryz.prog lays_strings_Contains_ren where
  mixed := by kernel_rfl
  f143 := Tryz.func142.trans (congrArg some (by kernel_rfl))
  f144 := Tryz.func131.trans (congrArg some (by kernel_rfl))
  f217 := Tryz.func138.trans (congrArg some (by kernel_rfl))
  f219 := Tryz.func150.trans (congrArg some (by kernel_rfl))
  f224 := Tryz.func162.trans (congrArg some (by kernel_rfl))
  f225 := Tryz.func161.trans (congrArg some (by kernel_rfl))
  f266 := Tryz.func152.trans (congrArg some (by kernel_rfl))
  f267 := Tryz.func163.trans (congrArg some (by kernel_rfl))
  f314 := Tryz.func171.trans (congrArg some (by kernel_rfl))
  t3 := Tryz.underlying3
  a3 := Tryz.isAgg3
  z3 := Tryz.sizeOf3
  v3 := Tryz.zeroValue3
  t4 := Tryz.underlying4
  a4 := Tryz.isAgg4
  z4 := Tryz.sizeOf4
  v4 := Tryz.zeroValue4
  t5 := Tryz.underlying5
  a5 := Tryz.isAgg5
  z5 := Tryz.sizeOf5
  v5 := Tryz.zeroValue5
  t9 := Tryz.underlying9
  a9 := Tryz.isAgg9
  z9 := Tryz.sizeOf9
  v9 := Tryz.zeroValue9
  t46 := Tryz.underlying118
  a46 := Tryz.isAgg118
  z46 := Tryz.sizeOf118
  v46 := Tryz.zeroValue118
  t51 := Tryz.underlying150
  a51 := Tryz.isAgg150
  z51 := Tryz.sizeOf150
  v51 := Tryz.zeroValue150
  t146 := Tryz.underlying153
  a146 := Tryz.isAgg153
  z146 := Tryz.sizeOf153
  v146 := Tryz.zeroValue153
  g1 := by kernel_rfl
noncomputable def f_strings_Contains (t0 : PV .str) (t1 : PV .str) : Option (PVs [.bool] × PVs []) := Go.Dn.containsF t0 t1
noncomputable def ct_strings_Contains : Ct := ⟨[(.bor, .str), (.bor, .str)], [(.bool, .b)], fun x => f_strings_Contains x.1 x.2.1⟩
theorem ok_strings_Contains : FnOk gl Tryz.prog 131 ct_strings_Contains := Go.Dn.contains_ok  lays_strings_Contains
def lays_internal_stringslite_IndexByte_ren : Go.Shelf.Ren := ⟨fun | 0 => 0 | 1 => 1 | 2 => 2 | 100 => 127 | 102 => 139 | 103 => 107 | 104 => 109 | 129 => 167 | 137 => 111 | 138 => 141 | 143 => 142 | 144 => 131 | 145 => 108 | 171 => 101 | 172 => 164 | 193 => 89 | 195 => 154 | 197 => 155 | 205 => 183 | 206 => 149 | 207 => 147 | 209 => 153 | 210 => 133 | 211 => 135 | 217 => 138 | 218 => 156 | 219 => 150 | 220 => 134 | 221 => 113 | 224 => 162 | 225 => 161 | 243 => 132 | 244 => 172 | 245 => 173 | 246 => 148 | 247 => 176 | 260 => 165 | 266 => 152 | 267 => 163 | 268 => 140 | 279 => 177 | 280 => 178 | 281 => 179 | 282 => 180 | 283 => 157 | 284 => 158 | 285 => 159 | 286 => 160 | 287 => 181 | 314 => 171 | 316 => 182 | 317 => 166 | 318 => 168 | 319 => 169 | 320 => 170 | 321 => 184 | 322 => 185 | 337 => 174 | 338 => 175 | 347 => 186 | 348 => 187 | 349 => 188 | 350 => 189 | 351 => 190 | 352 => 191 | 353 => 192 | 354 => 193 | 355 => 194 | 356 => 195 | 357 => 196 | 358 => 197 | 359 => 198 | 360 => 199 | 361 => 200 | 363 => 205 | 364 => 203 | 365 => 204 | 366 => 206 | 367 => 216 | n => n, fun | 0 => 0 | 1 => 1 | 2 => 2 | 3 => 3 | 4 => 4 | 5 => 5 | 6 => 6 | 7 => 7 | 8 => 8 | 9 => 9 | 10 => 10 | 11 => 11 | 12 => 12 | 13 => 13 | 14 => 14 | 15 => 15 | 16 => 16 | 17 => 17 | 18 => 18 | 19 => 19 | 20 => 20 | 21 => 21 | 22 => 127 | 23 => 62 | 24 => 26 | 25 => 113 | 27 => 132 | 28 => 91 | 31 => 33 | 36 => 90 | 37 => 22 | 38 => 23 | 43 => 99 | 46 => 118 | 47 => 152 | 48 => 98 | 51 => 150 | 52 => 160 | 53 => 57 | 54 => 140 | 55 => 116 | 59 => 114 | 60 => 115 | 61 => 88 | 68 => 51 | 69 => 66 | 74 => 144 | 75 => 145 | 76 => 146 | 77 => 147 | 80 => 112 | 81 => 94 | 83 => 85 | 84 => 136 | 85 => 162 | 86 => 163 | 101 => 42 | 102 => 93 | 103 => 133 | 104 => 70 | 105 => 137 | 106 => 138 | 108 => 173 | 111 => 92 | 112 => 121 | 113 => 117 | 114 => 61 | 119 => 156 | 127 => 175 | 128 => 155 | 131 => 119 | 137 => 157 | 138 => 158 | 139 => 159 | 143 => 176 | 144 => 177 | 145 => 178 | 146 => 153 | 150 => 131 | 151 => 154 | 164 => 191 | 167 => 161 | 168 => 164 | 169 => 165 | 170 => 166 | 171 => 139 | 172 => 141 | 173 => 142 | 174 => 143 | 175 => 169 | 176 => 170 | 209 => 171 | 210 => 172 | 211 => 148 | 212 => 149 | 213 => 151 | 214 => 174 | 232 => 167 | 233 => 168 | 238 => 179 | 239 => 180 | 240 => 181 | 241 => 182 | 242 => 183 | 243 => 184 | 244 => 185 | 245 => 186 | 246 => 187 | 247 => 188 | 248 => 189 | 249 => 190 | n => n, fun | 1 => 0 | 3 => 2 | 4 => 3 | 15 => 6 | 16 => 7 | 17 => 1 | 18 => 4 | 19 => 5 | n => n⟩
theorem lays_internal_stringslite_IndexByte : Go.Proofs.Lays.n217 Tryz.prog lays_internal_stringslite_IndexByte_ren where
  mixed := by kernel_rfl
  f217 := Tryz.func138.trans (congrArg some (by kernel_rfl))
  f266 := Tryz.func152.trans (congrArg some (by kernel_rfl))
  t3 := Tryz.underlying3
  a3 := Tryz.isAgg3
  z3 := Tryz.sizeOf3
  v3 := Tryz.zeroValue3
  t5 := Tryz.underlying5
  a5 := Tryz.isAgg5
  z5 := Tryz.sizeOf5
  v5 := Tryz.zeroValue5
  t9 := Tryz.underlying9
  a9 := Tryz.isAgg9
  z9 := Tryz.sizeOf9
  v9 := Tryz.zeroValue9
noncomputable def f_internal_stringslite_IndexByte (t0 : PV .str) (t1 : PV (.int .u8)) : Option (PVs [(.int .i64)] × PVs []) := Go.Dn.indexByteF t0 t1
noncomputable def ct_internal_stringslite_IndexByte : Ct := ⟨[(.bor, .str), (.bor, (.int .u8))], [((.int .i64), .b)], fun x => f_internal_stringslite_IndexByte x.1 x.2.1⟩
theorem ok_internal_stringslite_IndexByte : FnOk gl Tryz.prog 138 ct_internal_stringslite_IndexByte := Go.Dn.indexByte_ok  lays_internal_stringslite_IndexByte
def lays_internal_stringslite_Index_ren : Go.Shelf.Ren := ⟨fun | 0 => 0 | 1 => 1 | 2 => 2 | 100 => 127 | 102 => 139 | 103 => 107 | 104 => 109 | 129 => 167 | 137 => 111 | 138 => 141 | 143 => 142 | 144 => 131 | 145 => 108 | 171 => 101 | 172 => 164 | 193 => 89 | 195 => 154 | 197 => 155 | 205 => 183 | 206 => 149 | 207 => 147 | 209 => 153 | 210 => 133 | 211 => 135 | 217 => 138 | 218 => 156 | 219 => 150 | 220 => 134 | 221 => 113 | 224 => 162 | 225 => 161 | 243 => 132 | 244 => 172 | 245 => 173 | 246 => 148 | 247 => 176 | 260 => 165 | 266 => 152 | 267 => 163 | 268 => 140 | 279 => 177 | 280 => 178 | 281 => 179 | 282 => 180 | 283 => 157 | 284 => 158 | 285 => 159 | 286 => 160 | 287 => 181 | 314 => 171 | 316 => 182 | 317 => 166 | 318 => 168 | 319 => 169 | 320 => 170 | 321 => 184 | 322 => 185 | 337 => 174 | 338 => 175 | 347 => 186 | 348 => 187 | 349 => 188 | 350 => 189 | 351 => 190 | 352 => 191 | 353 => 192 | 354 => 193 | 355 => 194 | 356 => 195 | 357 => 196 | 358 => 197 | 359 => 198 | 360 => 199 | 361 => 200 | 363 => 205 | 364 => 203 | 365 => 204 | 366 => 206 | 367 => 216 | n => n, fun | 0 => 0 | 1 => 1 | 2 => 2 | 3 => 3 | 4 => 4 | 5 => 5 | 6 => 6 | 7 => 7 | 8 => 8 | 9 => 9 | 10 => 10 | 11 => 11 | 12 => 12 | 13 => 13 | 14 => 14 | 15 => 15 | 16 => 16 | 17 => 17 | 18 => 18 | 19 => 19 | 20 => 20 | 21 => 21 | 22 => 127 | 23 => 62 | 24 => 26 | 25 => 113 | 27 => 132 | 28 => 91 | 31 => 33 | 36 => 90 | 37 => 22 | 38 => 23 | 43 => 99 | 46 => 118 | 47 => 152 | 48 => 98 | 51 => 150 | 52 => 160 | 53 => 57 | 54 => 140 | 55 => 116 | 59 => 114 | 60 => 115 | 61 => 88 | 68 => 51 | 69 => 66 | 74 => 144 | 75 => 145 | 76 => 146 | 77 => 147 | 80 => 112 | 81 => 94 | 83 => 85 | 84 => 136 | 85 => 162 | 86 => 163 | 101 => 42 | 102 => 93 | 103 => 133 | 104 => 70 | 105 => 137 | 106 => 138 | 108 => 173 | 111 => 92 | 112 => 121 | 113 => 117 | 114 => 61 | 119 => 156 | 127 => 175 | 128 => 155 | 131 => 119 | 137 => 157 | 138 => 158 | 139 => 159 | 143 => 176 | 144 => 177 | 145 => 178 | 146 => 153 | 150 => 131 | 151 => 154 | 164 => 191 | 167 => 161 | 168 => 164 | 169 => 165 | 170 => 166 | 171 => 139 | 172 => 141 | 173 => 142 | 174 => 143 | 175 => 169 | 176 => 170 | 209 => 171 | 210 => 172 | 211 => 148 | 212 => 149 | 213 => 151 | 214 => 174 | 232 => 167 | 233 => 168 | 238 => 179 | 239 => 180 | 240 => 181 | 241 => 182 | 242 => 183 | 243 => 184 | 244 => 185 | 245 => 186 | 246 => 187 | 247 => 188 | 248 => 189 | 249 => 190 | n => n, fun | 1 => 0 | 3 => 2 | 4 => 3 | 15 => 6 | 16 => 7 | 17 => 1 | 18 => 4 | 19 => 5 | n => n⟩
theorem lays_internal_stringslite_Index : Go.Proofs.Lays.n219 Tryz.prog lays_internal_stringslite_Index_ren where
  mixed := by kernel_rfl
  f217 := Tryz.func138.trans (congrArg some (by kernel_rfl))
  f219 := Tryz.func150.trans (congrArg some (by kernel_rfl))
  f224 := Tryz.func162.trans (congrArg some (by kernel_rfl))
  f225 := Tryz.func161.trans (congrArg some (by kernel_rfl))
  f266 := Tryz.func152.trans (congrArg some (by kernel_rfl))
  f267 := Tryz.func163.trans (congrArg some (by kernel_rfl))
  f314 := Tryz.func171.trans (congrArg some (by kernel_rfl))
  t3 := Tryz.underlying3
  a3 := Tryz.isAgg3
  z3 := Tryz.sizeOf3
  v3 := Tryz.zeroValue3
  t4 := Tryz.underlying4
  a4 := Tryz.isAgg4
  z4 := Tryz.sizeOf4
  v4 := Tryz.zeroValue4
  t5 := Tryz.underlying5
  a5 := Tryz.isAgg5
  z5 := Tryz.sizeOf5
  v5 := Tryz.zeroValue5
  t9 := Tryz.underlying9
  a9 := Tryz.isAgg9
  z9 := Tryz.sizeOf9
  v9 := Tryz.zeroValue9
  t46 := Tryz.underlying118
  a46 := Tryz.isAgg118
  z46 := Tryz.sizeOf118
  v46 := Tryz.zeroValue118
  t51 := Tryz.underlying150
  a51 := Tryz.isAgg150
  z51 := Tryz.sizeOf150
  v51 := Tryz.zeroValue150
  t146 := Tryz.underlying153
  a146 := Tryz.isAgg153
  z146 := Tryz.sizeOf153
  v146 := Tryz.zeroValue153
  g1 := by kernel_rfl
noncomputable def f_internal_stringslite_Index (t0 : PV .str) (t1 : PV .str) : Option (PVs [(.int .i64)] × PVs []) := Go.Dn.indexF t0 t1
noncomputable def ct_internal_stringslite_Index : Ct := ⟨[(.bor, .str), (.bor, .str)], [((.int .i64), .b)], fun x => f_internal_stringslite_Index x.1 x.2.1⟩
theorem ok_internal_stringslite_Index : FnOk gl Tryz.prog 150 ct_internal_stringslite_Index := Go.Dn.indexLite_ok gl_max lays_internal_stringslite_Index
def lays_strconv_Atoi_ren : Go.Shelf.Ren := ⟨fun | 0 => 0 | 1 => 1 | 2 => 2 | 100 => 127 | 102 => 139 | 103 => 107 | 104 => 109 | 129 => 167 | 137 => 111 | 138 => 141 | 143 => 142 | 144 => 131 | 145 => 108 | 171 => 101 | 172 => 164 | 193 => 89 | 195 => 154 | 197 => 155 | 205 => 183 | 206 => 149 | 207 => 147 | 209 => 153 | 210 => 133 | 211 => 135 | 217 => 138 | 218 => 156 | 219 => 150 | 220 => 134 | 221 => 113 | 224 => 162 | 225 => 161 | 243 => 132 | 244 => 172 | 245 => 173 | 246 => 148 | 247 => 176 | 260 => 165 | 266 => 152 | 267 => 163 | 268 => 140 | 279 => 177 | 280 => 178 | 281 => 179 | 282 => 180 | 283 => 157 | 284 => 158 | 285 => 159 | 286 => 160 | 287 => 181 | 314 => 171 | 316 => 182 | 317 => 166 | 318 => 168 | 319 => 169 | 320 => 170 | 321 => 184 | 322 => 185 | 337 => 174 | 338 => 175 | 347 => 186 | 348 => 187 | 349 => 188 | 350 => 189 | 351 => 190 | 352 => 191 | 353 => 192 | 354 => 193 | 355 => 194 | 356 => 195 | 357 => 196 | 358 => 197 | 359 => 198 | 360 => 199 | 361 => 200 | 363 => 205 | 364 => 203 | 365 => 204 | 366 => 206 | 367 => 216 | n => n, fun | 0 => 0 | 1 => 1 | 2 => 2 | 3 => 3 | 4 => 4 | 5 => 5 | 6 => 6 | 7 => 7 | 8 => 8 | 9 => 9 | 10 => 10 | 11 => 11 | 12 => 12 | 13 => 13 | 14 => 14 | 15 => 15 | 16 => 16 | 17 => 17 | 18 => 18 | 19 => 19 | 20 => 20 | 21 => 21 | 22 => 127 | 23 => 62 | 24 => 26 | 25 => 113 | 27 => 132 | 28 => 91 | 31 => 33 | 36 => 90 | 37 => 22 | 38 => 23 | 43 => 99 | 46 => 118 | 47 => 152 | 48 => 98 | 51 => 150 | 52 => 160 | 53 => 57 | 54 => 140 | 55 => 116 | 59 => 114 | 60 => 115 | 61 => 88 | 68 => 51 | 69 => 66 | 74 => 144 | 75 => 145 | 76 => 146 | 77 => 147 | 80 => 112 | 81 => 94 | 83 => 85 | 84 => 136 | 85 => 162 | 86 => 163 | 101 => 42 | 102 => 93 | 103 => 133 | 104 => 70 | 105 => 137 | 106 => 138 | 108 => 173 | 111 => 92 | 112 => 121 | 113 => 117 | 114 => 61 | 119 => 156 | 127 => 175 | 128 => 155 | 131 => 119 | 137 => 157 | 138 => 158 | 139 => 159 | 143 => 176 | 144 => 177 | 145 => 178 | 146 => 153 | 150 => 131 | 151 => 154 | 164 => 191 | 167 => 161 | 168 => 164 | 169 => 165 | 170 => 166 | 171 => 139 | 172 => 141 | 173 => 142 | 174 => 143 | 175 => 169 | 176 => 170 | 209 => 171 | 210 => 172 | 211 => 148 | 212 => 149 | 213 => 151 | 214 => 174 | 232 => 167 | 233 => 168 | 238 => 179 | 239 => 180 | 240 => 181 | 241 => 182 | 242 => 183 | 243 => 184 | 244 => 185 | 245 => 186 | 246 => 187 | 247 => 188 | 248 => 189 | 249 => 190 | n => n, fun | 1 => 0 | 3 => 2 | 4 => 3 | 15 => 6 | 16 => 7 | 17 => 1 | 18 => 4 | 19 => 5 | n => n⟩
theorem lays_strconv_Atoi : Go.Proofs.LaysC.n172 Tryz.prog lays_strconv_Atoi_ren where
  mixed := by kernel_rfl
  f129 := Tryz.func167.trans (congrArg some (by kernel_rfl))
  f171 := Tryz.func101.trans (congrArg some (by kernel_rfl))
  f172 := Tryz.func164.trans (congrArg some (by kernel_rfl))
  f205 := Tryz.func183.trans (congrArg some (by kernel_rfl))
  f243 := Tryz.func132.trans (congrArg some (by kernel_rfl))
  f244 := Tryz.func172.trans (congrArg some (by kernel_rfl))
  f245 := Tryz.func173.trans (congrArg some (by kernel_rfl))
  f246 := Tryz.func148.trans (congrArg some (by kernel_rfl))
  f247 := Tryz.func176.trans (congrArg some (by kernel_rfl))
  f279 := Tryz.func177.trans (congrArg some (by kernel_rfl))
  f280 := Tryz.func178.trans (congrArg some (by kernel_rfl))
  f281 := Tryz.func179.trans (congrArg some (by kernel_rfl))
  f282 := Tryz.func180.trans (congrArg some (by kernel_rfl))
  f283 := Tryz.func157.trans (congrArg some (by kernel_rfl))
  f284 := Tryz.func158.trans (congrArg some (by kernel_rfl))
  f285 := Tryz.func159.trans (congrArg some (by kernel_rfl))
  f286 := Tryz.func160.trans (congrArg some (by kernel_rfl))
  f287 := Tryz.func181.trans (congrArg some (by kernel_rfl))
  f316 := Tryz.func182.trans (congrArg some (by kernel_rfl))
  f317 := Tryz.func166.trans (congrArg some (by kernel_rfl))
  f318 := Tryz.func168.trans (congrArg some (by kernel_rfl))
  f319 := Tryz.func169.trans (congrArg some (by kernel_rfl))
  f320 := Tryz.func170.trans (congrArg some (by kernel_rfl))
  f321 := Tryz.func184.trans (congrArg some (by kernel_rfl))
  f322 := Tryz.func185.trans (congrArg some (by kernel_rfl))
  f337 := Tryz.func174.trans (congrArg some (by kernel_rfl))
  f338 := Tryz.func175.trans (congrArg some (by kernel_rfl))
  t0 := Tryz.underlying0
  a0 := Tryz.isAgg0
  z0 := Tryz.sizeOf0
  v0 := Tryz.zeroValue0
  t2 := Tryz.underlying2
  a2 := Tryz.isAgg2
  z2 := Tryz.sizeOf2
  v2 := Tryz.zeroValue2
  t3 := Tryz.underlying3
  a3 := Tryz.isAgg3
  z3 := Tryz.sizeOf3
  v3 := Tryz.zeroValue3
  t4 := Tryz.underlying4
  a4 := Tryz.isAgg4
  z4 := Tryz.sizeOf4
  v4 := Tryz.zeroValue4
  t5 := Tryz.underlying5
  a5 := Tryz.isAgg5
  z5 := Tryz.sizeOf5
  v5 := Tryz.zeroValue5
  t9 := Tryz.underlying9
  a9 := Tryz.isAgg9
  z9 := Tryz.sizeOf9
  v9 := Tryz.zeroValue9
  t20 := Tryz.underlying20
  a20 := Tryz.isAgg20
  z20 := Tryz.sizeOf20
  v20 := Tryz.zeroValue20
  t21 := Tryz.underlying21
  a21 := Tryz.isAgg21
  z21 := Tryz.sizeOf21
  v21 := Tryz.zeroValue21
  t37 := Tryz.underlying22
  a37 := Tryz.isAgg22
  z37 := Tryz.sizeOf22
  v37 := Tryz.zeroValue22
  t46 := Tryz.underlying118
  a46 := Tryz.isAgg118
  z46 := Tryz.sizeOf118
  v46 := Tryz.zeroValue118
  t51 := Tryz.underlying150
  a51 := Tryz.isAgg150
  z51 := Tryz.sizeOf150
  v51 := Tryz.zeroValue150
  t53 := Tryz.underlying57
  a53 := Tryz.isAgg57
  z53 := Tryz.sizeOf57
  v53 := Tryz.zeroValue57
  t75 := Tryz.underlying145
  a75 := Tryz.isAgg145
  z75 := Tryz.sizeOf145
  v75 := Tryz.zeroValue145
  t76 := Tryz.underlying146
  a76 := Tryz.isAgg146
  z76 := Tryz.sizeOf146
  v76 := Tryz.zeroValue146
  t85 := Tryz.underlying162
  a85 := Tryz.isAgg162
  z85 := Tryz.sizeOf162
  v85 := Tryz.zeroValue162
  t127 := Tryz.underlying175
  a127 := Tryz.isAgg175
  z127 := Tryz.sizeOf175
  v127 := Tryz.zeroValue175
  t143 := Tryz.underlying176
  a143 := Tryz.isAgg176
  z143 := Tryz.sizeOf176
  v143 := Tryz.zeroValue176
  t145 := Tryz.underlying178
  a145 := Tryz.isAgg178
  z145 := Tryz.sizeOf178
  v145 := Tryz.zeroValue178
  t167 := Tryz.underlying161
  a167 := Tryz.isAgg161
  z167 := Tryz.sizeOf161
  v167 := Tryz.zeroValue161
  t168 := Tryz.underlying164
  a168 := Tryz.isAgg164
  z168 := Tryz.sizeOf164
  v168 := Tryz.zeroValue164
  t171 := Tryz.underlying139
  a171 := Tryz.isAgg139
  z171 := Tryz.sizeOf139
  v171 := Tryz.zeroValue139
  t173 := Tryz.underlying142
  a173 := Tryz.isAgg142
  z173 := Tryz.sizeOf142
  v173 := Tryz.zeroValue142
  t175 := Tryz.underlying169
  a175 := Tryz.isAgg169
  z175 := Tryz.sizeOf169
  v175 := Tryz.zeroValue169
  t210 := Tryz.underlying172
  a210 := Tryz.isAgg172
  z210 := Tryz.sizeOf172
  v210 := Tryz.zeroValue172
  t212 := Tryz.underlying149
  a212 := Tryz.isAgg149
  z212 := Tryz.sizeOf149
  v212 := Tryz.zeroValue149
  t213 := Tryz.underlying151
  a213 := Tryz.isAgg151
  z213 := Tryz.sizeOf151
  t232 := Tryz.underlying167
  a232 := Tryz.isAgg167
  z232 := Tryz.sizeOf167
  v232 := Tryz.zeroValue167
  t233 := Tryz.underlying168
  a233 := Tryz.isAgg168
  z233 := Tryz.sizeOf168
  v233 := Tryz.zeroValue168
  g15 := by kernel_rfl
  g16 := by kernel_rfl
  g17 := by kernel_rfl
  g18 := by kernel_rfl
  g19 := by kernel_rfl
  t80 := Tryz.underlying112
  a80 := Tryz.isAgg112
  z80 := Tryz.sizeOf112
  v80 := Tryz.zeroValue112
  i0 := by kernel_rfl
  i2 := by kernel_rfl
  i3 := by kernel_rfl
  i4 := by kernel_rfl
  i5 := by kernel_rfl
  i9 := by kernel_rfl
  i20 := by kernel_rfl
  i21 := by kernel_rfl
  i37 := by kernel_rfl
  i46 := by kernel_rfl
  i51 := by kernel_rfl
  i53 := by kernel_rfl
  i75 := by kernel_rfl
  i76 := by kernel_rfl
  i80 := by kernel_rfl
  i85 := by kernel_rfl
  i127 := by kernel_rfl
  i143 := by kernel_rfl
  i145 := by kernel_rfl
  i167 := by kernel_rfl
  i168 := by kernel_rfl
  i171 := by kernel_rfl
  i173 := by kernel_rfl
  i175 := by kernel_rfl
  i210 := by kernel_rfl
  i212 := by kernel_rfl
  i232 := by kernel_rfl
  i233 := by kernel_rfl
  m15 := by kernel_rfl
  m16 := by kernel_rfl
  m17 := by kernel_rfl
  m18 := by kernel_rfl
  m19 := by kernel_rfl
  c0 := by kernel_rfl
  c2 := by kernel_rfl
  c3 := by kernel_rfl
  c4 := by kernel_rfl
  c5 := by kernel_rfl
  c9 := by kernel_rfl
  c20 := by kernel_rfl
  c21 := by kernel_rfl
  c37 := by kernel_rfl
  c46 := by kernel_rfl
  c51 := by kernel_rfl
  c53 := by kernel_rfl
  c75 := by kernel_rfl
  c76 := by kernel_rfl
  c80 := by kernel_rfl
  c85 := by kernel_rfl
  c127 := by kernel_rfl
  c143 := by kernel_rfl
  c145 := by kernel_rfl
  c167 := by kernel_rfl
  c168 := by kernel_rfl
  c171 := by kernel_rfl
  c173 := by kernel_rfl
  c175 := by kernel_rfl
  c210 := by kernel_rfl
  c212 := by kernel_rfl
  c213 := by kernel_rfl
  c232 := by kernel_rfl
  c233 := by kernel_rfl
def lays_num_Itoa_ren : Go.Shelf.Ren := ⟨fun | 0 => 0 | 1 => 1 | 2 => 2 | 100 => 127 | 102 => 139 | 103 => 107 | 104 => 109 | 129 => 167 | 137 => 111 | 138 => 141 | 143 => 142 | 144 => 131 | 145 => 108 | 171 => 101 | 172 => 164 | 193 => 89 | 195 => 154 | 197 => 155 | 205 => 183 | 206 => 149 | 207 => 147 | 209 => 153 | 210 => 133 | 211 => 135 | 217 => 138 | 218 => 156 | 219 => 150 | 220 => 134 | 221 => 113 | 224 => 162 | 225 => 161 | 243 => 132 | 244 => 172 | 245 => 173 | 246 => 148 | 247 => 176 | 260 => 165 | 266 => 152 | 267 => 163 | 268 => 140 | 279 => 177 | 280 => 178 | 281 => 179 | 282 => 180 | 283 => 157 | 284 => 158 | 285 => 159 | 286 => 160 | 287 => 181 | 314 => 171 | 316 => 182 | 317 => 166 | 318 => 168 | 319 => 169 | 320 => 170 | 321 => 184 | 322 => 185 | 337 => 174 | 338 => 175 | 347 => 186 | 348 => 187 | 349 => 188 | 350 => 189 | 351 => 190 | 352 => 191 | 353 => 192 | 354 => 193 | 355 => 194 | 356 => 195 | 357 => 196 | 358 => 197 | 359 => 198 | 360 => 199 | 361 => 200 | 363 => 205 | 364 => 203 | 365 => 204 | 366 => 206 | 367 => 216 | n => n, fun | 0 => 0 | 1 => 1 | 2 => 2 | 3 => 3 | 4 => 4 | 5 => 5 | 6 => 6 | 7 => 7 | 8 => 8 | 9 => 9 | 10 => 10 | 11 => 11 | 12 => 12 | 13 => 13 | 14 => 14 | 15 => 15 | 16 => 16 | 17 => 17 | 18 => 18 | 19 => 19 | 20 => 20 | 21 => 21 | 22 => 127 | 23 => 62 | 24 => 26 | 25 => 113 | 27 => 132 | 28 => 91 | 31 => 33 | 36 => 90 | 37 => 22 | 38 => 23 | 43 => 99 | 46 => 118 | 47 => 152 | 48 => 98 | 51 => 150 | 52 => 160 | 53 => 57 | 54 => 140 | 55 => 116 | 59 => 114 | 60 => 115 | 61 => 88 | 68 => 51 | 69 => 66 | 74 => 144 | 75 => 145 | 76 => 146 | 77 => 147 | 80 => 112 | 81 => 94 | 83 => 85 | 84 => 136 | 85 => 162 | 86 => 163 | 101 => 42 | 102 => 93 | 103 => 133 | 104 => 70 | 105 => 137 | 106 => 138 | 108 => 173 | 111 => 92 | 112 => 121 | 113 => 117 | 114 => 61 | 119 => 156 | 127 => 175 | 128 => 155 | 131 => 119 | 137 => 157 | 138 => 158 | 139 => 159 | 143 => 176 | 144 => 177 | 145 => 178 | 146 => 153 | 150 => 131 | 151 => 154 | 164 => 191 | 167 => 161 | 168 => 164 | 169 => 165 | 170 => 166 | 171 => 139 | 172 => 141 | 173 => 142 | 174 => 143 | 175 => 169 | 176 => 170 | 209 => 171 | 210 => 172 | 211 => 148 | 212 => 149 | 213 => 151 | 214 => 174 | 232 => 167 | 233 => 168 | 238 => 179 | 239 => 180 | 240 => 181 | 241 => 182 | 242 => 183 | 243 => 184 | 244 => 185 | 245 => 186 | 246 => 187 | 247 => 188 | 248 => 189 | 249 => 190 | n => n, fun | 1 => 0 | 3 => 2 | 4 => 3 | 15 => 6 | 16 => 7 | 17 => 1 | 18 => 4 | 19 => 5 | n => n⟩
theorem lays_num_Itoa : Go.Proofs.LaysM.n171 Tryz.prog lays_num_Itoa_ren where
  mixed := by kernel_rfl
  f129 := Tryz.func167.trans (congrArg some (by kernel_rfl))
  f171 := Tryz.func101.trans (congrArg some (by kernel_rfl))
  f243 := Tryz.func132.trans (congrArg some (by kernel_rfl))
  f246 := Tryz.func148.trans (congrArg some (by kernel_rfl))
  f283 := Tryz.func157.trans (congrArg some (by kernel_rfl))
  f284 := Tryz.func158.trans (congrArg some (by kernel_rfl))
  f285 := Tryz.func159.trans (congrArg some (by kernel_rfl))
  f286 := Tryz.func160.trans (congrArg some (by kernel_rfl))
  f317 := Tryz.func166.trans (congrArg some (by kernel_rfl))
  f318 := Tryz.func168.trans (congrArg some (by kernel_rfl))
  f319 := Tryz.func169.trans (congrArg some (by kernel_rfl))
  f320 := Tryz.func170.trans (congrArg some (by kernel_rfl))
  f337 := Tryz.func174.trans (congrArg some (by kernel_rfl))
  f338 := Tryz.func175.trans (congrArg some (by kernel_rfl))
  t0 := Tryz.underlying0
  a0 := Tryz.isAgg0
  z0 := Tryz.sizeOf0
  v0 := Tryz.zeroValue0
  t2 := Tryz.underlying2
  a2 := Tryz.isAgg2
  z2 := Tryz.sizeOf2
  v2 := Tryz.zeroValue2
  t3 := Tryz.underlying3
  a3 := Tryz.isAgg3
  z3 := Tryz.sizeOf3
  v3 := Tryz.zeroValue3
  t4 := Tryz.underlying4
  a4 := Tryz.isAgg4
  z4 := Tryz.sizeOf4
  v4 := Tryz.zeroValue4
  t5 := Tryz.underlying5
  a5 := Tryz.isAgg5
  z5 := Tryz.sizeOf5
  v5 := Tryz.zeroValue5
  t9 := Tryz.underlying9
  a9 := Tryz.isAgg9
  z9 := Tryz.sizeOf9
  v9 := Tryz.zeroValue9
  t20 := Tryz.underlying20
  a20 := Tryz.isAgg20
  z20 := Tryz.sizeOf20
  v20 := Tryz.zeroValue20
  t37 := Tryz.underlying22
  a37 := Tryz.isAgg22
  z37 := Tryz.sizeOf22
  v37 := Tryz.zeroValue22
  t46 := Tryz.underlying118
  a46 := Tryz.isAgg118
  z46 := Tryz.sizeOf118
  v46 := Tryz.zeroValue118
  t51 := Tryz.underlying150
  a51 := Tryz.isAgg150
  z51 := Tryz.sizeOf150
  v51 := Tryz.zeroValue150
  t53 := Tryz.underlying57
  a53 := Tryz.isAgg57
  z53 := Tryz.sizeOf57
  v53 := Tryz.zeroValue57
  t171 := Tryz.underlying139
  a171 := Tryz.isAgg139
  z171 := Tryz.sizeOf139
  v171 := Tryz.zeroValue139
  t173 := Tryz.underlying142
  a173 := Tryz.isAgg142
  z173 := Tryz.sizeOf142
  v173 := Tryz.zeroValue142
  t212 := Tryz.underlying149
  a212 := Tryz.isAgg149
  z212 := Tryz.sizeOf149
  v212 := Tryz.zeroValue149
  t213 := Tryz.underlying151
  a213 := Tryz.isAgg151
  z213 := Tryz.sizeOf151
  t232 := Tryz.underlying167
  a232 := Tryz.isAgg167
  z232 := Tryz.sizeOf167
  v232 := Tryz.zeroValue167
  t233 := Tryz.underlying168
  a233 := Tryz.isAgg168
  z233 := Tryz.sizeOf168
  v233 := Tryz.zeroValue168
  g17 := by kernel_rfl
  g18 := by kernel_rfl
  g19 := by kernel_rfl
  i0 := by kernel_rfl
  i2 := by kernel_rfl
  i3 := by kernel_rfl
  i4 := by kernel_rfl
  i5 := by kernel_rfl
  i9 := by kernel_rfl
  i20 := by kernel_rfl
  i37 := by kernel_rfl
  i46 := by kernel_rfl
  i51 := by kernel_rfl
  i53 := by kernel_rfl
  i171 := by kernel_rfl
  i173 := by kernel_rfl
  i212 := by kernel_rfl
  i232 := by kernel_rfl
  i233 := by kernel_rfl
  m17 := by kernel_rfl
  m18 := by kernel_rfl
  m19 := by kernel_rfl
section
open Go.RowKit Go.Lib
theorem num_itoa (n : Int) (h1 : -9223372036854775808 ≤ n) (h2 : n ≤ 9223372036854775807) (w : World) (hT : Lib.TabIs Tryz.prog w "internal/strconv.uint64pow10" .u64 Lib.pow10Tab) :
    Calls Tryz.prog 101 #[.int .i64 n] w fun e w' => e = .returned (.string ⟨(Lib.itoa n).toArray⟩) ∧ Below w.heap.size w w' :=
  (Any.strconv_Itoa lays_num_Itoa n h1 h2 w hT).mono fun e w' ⟨e1, k, os, e2⟩ => ⟨e1, by
    subst e2
    exact ⟨rfl, rfl, rfl, by show w.heap.size ≤ (w.heap ++ os).size; simp, fun b hb => by show (w.heap ++ os)[b]? = _; rw [Array.getElem?_append_left hb]⟩⟩

set_option maxHeartbeats 1000000 in
set_option maxRecDepth 100000 in
theorem num_ok (s : ByteArray) (v : Int) (h : Lib.atoiAll s.data.toList = .ok v) (hs : s.size ≤ 1000000) (w : World) (hT : Lib.TabIs Tryz.prog w "internal/strconv.uint64pow10" .u64 Lib.pow10Tab) :
    Calls Tryz.prog 151 #[.string s] w fun e w' => e = .returned (.tuple #[.int .i64 v, .bool (decide (0 ≤ v) && (decide (s.size ≤ 4) && (Lib.itoa v == s.data.toList)))]) ∧ Below w.heap.size w w' := by
  obtain ⟨b1, b2⟩ := Go.Dn.atoi_bound h
  have hA : Calls Tryz.prog 164 #[.string s] w fun e w' => e = .returned (.tuple #[.int .i64 v, .nilIface]) ∧ Below w.heap.size w w' :=
    (Any.strconv_Atoi_ok lays_strconv_Atoi s (by omega) v h w).mono fun e w' ⟨e1, e2⟩ => ⟨e1, by
      rcases e2 with rfl | ⟨t, rfl⟩
      · exact Below.refl _ _
      · exact Lib.bytesWorld_below _ _ _⟩
  by_cases h0 : 0 ≤ v
  · by_cases h4 : s.size ≤ 4
    · rw [decide_eq_true h0, decide_eq_true h4]
      have h4' : (s.size : Int) ≤ 4 := by omega
      go_enter Tryz.func151, Tryz.ntmps151
      go_wp2_with (go_at_fn 164; go_fit hA; rintro e w' ⟨rfl, hb⟩)
      refine hA.mono ?_
      rintro e w1 ⟨rfl, hb⟩
      go_wp2_with (go_at_fn 101; go_fit hA; rintro e w' ⟨rfl, hb⟩)
      refine (num_itoa v b1 b2 w1 (Go.Dn.tab_below hT hb)).mono ?_
      rintro e w2 ⟨rfl, hb2⟩
      go_wp2
      go_ret2
      refine ⟨?_, hb.trans (hb2.mono hb.size)⟩
      simp [Lib.toList_data]
    · rw [decide_eq_true h0, decide_eq_false h4]
      have h4' : ¬ (s.size : Int) ≤ 4 := by omega
      go_enter Tryz.func151, Tryz.ntmps151
      go_wp2_with (go_at_fn 164; go_fit hA; rintro e w' ⟨rfl, hb⟩)
      refine hA.mono ?_
      rintro e w1 ⟨rfl, hb⟩
      go_wp2
      go_ret2
      exact ⟨rfl, hb⟩
  · rw [decide_eq_false h0]
    go_enter Tryz.func151, Tryz.ntmps151
    go_wp2_with (go_at_fn 164; go_fit hA; rintro e w' ⟨rfl, hb⟩)
    refine hA.mono ?_
    rintro e w1 ⟨rfl, hb⟩
    go_wp2
    go_ret2
    exact ⟨rfl, hb⟩

set_option maxHeartbeats 1000000 in
set_option maxRecDepth 100000 in
theorem num_no (s : ByteArray) (x : Int) (tp : TypeId) (w : World) (hA : Calls Tryz.prog 164 #[.string s] w fun e w' => ∃ N, e = .returned (.tuple #[.int .i64 x, .iface tp (.pointer (some ⟨N, 0, none⟩))]) ∧ Below w.heap.size w w') :
    Calls Tryz.prog 151 #[.string s] w fun e w' => e = .returned (.tuple #[.int .i64 x, .bool false]) ∧ Below w.heap.size w w' := by
  go_enter Tryz.func151, Tryz.ntmps151
  go_wp2_with (go_at_fn 164; go_fit hA; rintro e w' ⟨rfl, hb⟩)
  refine hA.mono ?_
  rintro e w1 ⟨N, rfl, hb⟩
  go_wp2
  go_ret2
  exact ⟨rfl, hb⟩

theorem num_any (s : ByteArray) (w : World) (hs : s.size ≤ 1000000) (hT : Lib.TabIs Tryz.prog w "internal/strconv.uint64pow10" .u64 Lib.pow10Tab) (h1 : ∃ tp p, w.var? Tryz.prog "strconv.ErrSyntax" = some #[.iface tp p]) (h2 : ∃ tp p, w.var? Tryz.prog "strconv.ErrRange" = some #[.iface tp p]) :
    Calls Tryz.prog 151 #[.string s] w fun e w' => e = .returned (.tuple #[.int .i64 (Go.Dn.numV s.data.toList), .bool (Go.Dn.numB s.data.toList)]) ∧ Below w.heap.size w w' := by
  unfold Go.Dn.numV Go.Dn.numB
  rcases h : Lib.atoiAll s.data.toList with v | _ | _
  · exact num_ok s v h hs w hT
  · obtain ⟨tp, p, hv⟩ := h1
    exact num_no s 0 _ w ((Any.strconv_Atoi_syntax_var lays_strconv_Atoi s (by omega) h tp p w hv).mono fun e w' ⟨N, e1, _, _, hb⟩ => ⟨N, e1, hb⟩)
  · obtain ⟨tp, p, hv⟩ := h2
    exact num_no s _ _ w ((Any.strconv_Atoi_range_var lays_strconv_Atoi s (by omega) h tp p w hv).mono fun e w' ⟨N, e1, _, _, hb⟩ => ⟨N, e1, hb⟩)
end

noncomputable def f_I_readNumber (t0 : PV .str) : Option (PVs [.int .i64, .bool] × PVs []) := Go.Dn.numF t0
noncomputable def ct_I_readNumber : Ct := ⟨[(.bor, .str)], [(.int .i64, .b), (.bool, .b)], fun x => f_I_readNumber x.1⟩
theorem ok_I_readNumber : FnOk gl Tryz.prog 151 ct_I_readNumber := Go.Dn.fnOk_number ⟨_, Tryz.func151, rfl, by kernel_rfl⟩ fun s w hs hg => num_any s w hs (gl_tab w hg) (gl_syn w hg) (gl_rng w hg)
noncomputable def pl_L_big : Plan := ⟨[], [], 0, 0⟩
noncomputable def f_L_big (t0 : PV S_uint8) (t1 : PV S_uint8) : Option (PVs [.bool] × PVs []) :=
  bif (decide ((t0.length : Int) > 1048576)) then
    some ((true, ()), ())
  else
    some (((decide ((t1.length : Int) > (IntKind.wrap .i64 (1048576 - (t0.length : Int))))), ()), ())
noncomputable def ct_L_big : Ct := ⟨[(.bor, S_uint8), (.bor, S_uint8)], [(.bool, .b)], fun x => f_L_big x.1 x.2.1⟩
noncomputable def cx_L_big : Cx := ⟨tab, arrs, [], [], gl, []⟩
theorem ef_L_big (t0 : PV S_uint8) (t1 : PV S_uint8) : denF cx_L_big 0 pl_L_big Tryz.f5.ntmps (bodyOf Tryz.f5) Tryz.f5.results.toList [(.bor, S_uint8), (.bor, S_uint8)] [(.bool, .b)] (t0, t1, ()) = f_L_big t0 t1 := by kernel_rfl
theorem ok_L_big : FnOk gl Tryz.prog 5 ct_L_big :=
  fnOk (cx := cx_L_big) (pl := pl_L_big) (dp := 0) (ok0_of tabOk (by unfold ArrOk; kernel_rfl) mix trivial trivial) Tryz.func5 (by kernel_rfl) (by kernel_rfl) (by kernel_rfl)
    (by rw [show loopsOf (bodyOf Tryz.f5) = [] from by kernel_rfl]; exact trivial) (fun x => ef_L_big x.1 x.2.1)
noncomputable def o_S_l1Cur_next_4 : List Out := [⟨.normal, ⟨[], [0, 3], []⟩, mkSh 63 [(0, .var Y_spec_l1Cur .b), (1, .addr ⟨0, [], 0, 0⟩), (4, .val (.int .i64) .b)]⟩]
noncomputable def pl_S_l1Cur_next : Plan := ⟨[(4, o_S_l1Cur_next_4)], [], 0, 1⟩
noncomputable def f_S_l1Cur_next (t0 : PV Y_spec_l1Cur) : Option (PVs [(.int .i64)] × PVs [Y_spec_l1Cur]) :=
  ((
      bif (decide (t0.2.1 < (t0.1.length : Int))) then
        bif inB t0.2.1 t0.1.length then
          some (t0, (IntKind.wrap .i64 (t0.1.getD t0.2.1.toNat (0 : Int))), ())
        else
          none
      else
        some (t0, 0, ()) : Option ((PV Y_spec_l1Cur × PV (.int .i64) × Unit)))).bind fun j1 =>
    bif (decide ((IntKind.wrap .i64 (j1.1.2.1 + 1)) ≤ (j1.1.1.length : Int))) then
      some ((j1.2.1, ()), ((j1.1.1, ((IntKind.wrap .i64 (j1.1.2.1 + 1)), ((IntKind.wrap .u64 ((IntKind.wrap .u64 ((IntKind.wrap .u64 (j1.1.2.2.1 * 6364136223846793005)) + (IntKind.wrap .u64 j1.2.1))) + 1442695040888963407)), j1.1.2.2.2))), ()))
    else
      bif decide (0 ≤ 40) then
        some (((IntKind.wrap .i64 (IntKind.wrap .u64 ((BitVec.ofInt (IntKind.bits .u64) ((IntKind.wrap .u64 ((IntKind.wrap .u64 ((IntKind.wrap .u64 (j1.1.2.2.1 * 6364136223846793005)) + (IntKind.wrap .u64 j1.2.1))) + 1442695040888963407)).fdiv (2 ^ (min (40 : Int).toNat (IntKind.bits .u64)))) &&& BitVec.ofInt (IntKind.bits .u64) 255).toNat : Int))), ()), ((j1.1.1, ((IntKind.wrap .i64 (j1.1.2.1 + 1)), ((IntKind.wrap .u64 ((IntKind.wrap .u64 ((IntKind.wrap .u64 (j1.1.2.2.1 * 6364136223846793005)) + (IntKind.wrap .u64 j1.2.1))) + 1442695040888963407)), j1.1.2.2.2))), ()))
      else
        none
noncomputable def ct_S_l1Cur_next : Ct := ⟨[(.ptr, Y_spec_l1Cur)], [((.int .i64), .b)], fun x => f_S_l1Cur_next x.1⟩
noncomputable def cx_S_l1Cur_next : Cx := ⟨tab, arrs, [], [], gl, []⟩
theorem ef_S_l1Cur_next (t0 : PV Y_spec_l1Cur) : denF cx_S_l1Cur_next 0 pl_S_l1Cur_next Tryz.f75.ntmps (bodyOf Tryz.f75) Tryz.f75.results.toList [(.ptr, Y_spec_l1Cur)] [((.int .i64), .b)] (t0, ()) = f_S_l1Cur_next t0 := by kernel_rfl
theorem ok_S_l1Cur_next : FnOk gl Tryz.prog 75 ct_S_l1Cur_next :=
  fnOk (cx := cx_S_l1Cur_next) (pl := pl_S_l1Cur_next) (dp := 0) (ok0_of tabOk (by unfold ArrOk; kernel_rfl) mix trivial trivial) Tryz.func75 (by kernel_rfl) (by kernel_rfl) (by kernel_rfl)
    (by rw [show loopsOf (bodyOf Tryz.f75) = [] from by kernel_rfl]; exact trivial) (fun x => ef_S_l1Cur_next x.1)
noncomputable def o_S_l1Cur_pick_6 : List Out := [⟨.normal, ⟨[], [1, 5], []⟩, mkSh 21 [(0, .var Y_spec_l1Cur .b), (2, .val (.int .i64) .b), (6, .val (.int .i64) .b)]⟩]
noncomputable def pl_S_l1Cur_pick : Plan := ⟨[(6, o_S_l1Cur_pick_6)], [], 0, 1⟩
noncomputable def f_S_l1Cur_pick (t0 : PV Y_spec_l1Cur) (t1 : PV (.int .i64)) : Option (PVs [(.int .i64)] × PVs [Y_spec_l1Cur]) :=
  bif (decide (t1 ≤ 1)) then
    some ((0, ()), (t0, ()))
  else
    (f_S_l1Cur_next t0).bind fun r2 =>
      ((
          bif (decide (t1 > 200)) then
            (f_S_l1Cur_next r2.2.1).bind fun r4 =>
              some (r4.2.1, t1, (IntKind.wrap .i64 ((IntKind.wrap .i64 (r2.1.1 * 256)) + r4.1.1)), ())
          else
            some (r2.2.1, t1, r2.1.1, ()) : Option ((PV Y_spec_l1Cur × PV (.int .i64) × PV (.int .i64) × Unit)))).bind fun j5 =>
        bif j5.2.1 == 0 then
          none
        else
          some (((j5.2.2.1.tmod j5.2.1), ()), (j5.1, ()))
noncomputable def ct_S_l1Cur_pick : Ct := ⟨[(.ptr, Y_spec_l1Cur), (.bor, (.int .i64))], [((.int .i64), .b)], fun x => f_S_l1Cur_pick x.1 x.2.1⟩
noncomputable def cx_S_l1Cur_pick : Cx := ⟨tab, arrs, [(75, ct_S_l1Cur_next)], [], gl, []⟩
theorem ef_S_l1Cur_pick (t0 : PV Y_spec_l1Cur) (t1 : PV (.int .i64)) : denF cx_S_l1Cur_pick 0 pl_S_l1Cur_pick Tryz.f35.ntmps (bodyOf Tryz.f35) Tryz.f35.results.toList [(.ptr, Y_spec_l1Cur), (.bor, (.int .i64))] [((.int .i64), .b)] (t0, t1, ()) = f_S_l1Cur_pick t0 t1 := by kernel_rfl
theorem ok_S_l1Cur_pick : FnOk gl Tryz.prog 35 ct_S_l1Cur_pick :=
  fnOk (cx := cx_S_l1Cur_pick) (pl := pl_S_l1Cur_pick) (dp := 0) (ok0_of tabOk (by unfold ArrOk; kernel_rfl) mix ⟨ok_S_l1Cur_next, trivial⟩ trivial) Tryz.func35 (by kernel_rfl) (by kernel_rfl) (by kernel_rfl)
    (by rw [show loopsOf (bodyOf Tryz.f35) = [] from by kernel_rfl]; exact trivial) (fun x => ef_S_l1Cur_pick x.1 x.2.1)
noncomputable def pl_S_l1Cur_line_37 : Plan := ⟨[], [], 0, 7⟩
noncomputable def pl_S_l1Cur_line : Plan := ⟨[], [], 1, 1⟩
noncomputable def f_S_l1Cur_line (t0 : PV Y_spec_l1Cur) : Option (PVs [.str] × PVs [Y_spec_l1Cur]) :=
  (f_S_l1Cur_pick t0 ([[97], [98], [99], [100], [], [46], [46, 46], [111, 110, 101, 32, 116, 119, 111], [43, 120], [45, 121], [92, 32, 122], [64, 64]].length : Int)).bind fun r1 =>
    bif inB r1.1.1 [[97], [98], [99], [100], [], [46], [46, 46], [111, 110, 101, 32, 116, 119, 111], [43, 120], [45, 121], [92, 32, 122], [64, 64]].length then
      some ((([[97], [98], [99], [100], [], [46], [46, 46], [111, 110, 101, 32, 116, 119, 111], [43, 120], [45, 121], [92, 32, 122], [64, 64]].getD r1.1.1.toNat []), ()), (r1.2.1, ()))
    else
      none
noncomputable def ct_S_l1Cur_line : Ct := ⟨[(.ptr, Y_spec_l1Cur)], [(.str, .b)], fun x => f_S_l1Cur_line x.1⟩
noncomputable def cx_S_l1Cur_line : Cx := ⟨tab, arrs, [(35, ct_S_l1Cur_pick)], [(37, Tryz.f37, pl_S_l1Cur_line_37)], gl, []⟩
theorem ef_S_l1Cur_line (t0 : PV Y_spec_l1Cur) : denF cx_S_l1Cur_line 1 pl_S_l1Cur_line Tryz.f114.ntmps (bodyOf Tryz.f114) Tryz.f114.results.toList [(.ptr, Y_spec_l1Cur)] [(.str, .b)] (t0, ()) = f_S_l1Cur_line t0 := by kernel_rfl
theorem ok_S_l1Cur_line : FnOk gl Tryz.prog 114 ct_S_l1Cur_line :=
  fnOk (cx := cx_S_l1Cur_line) (pl := pl_S_l1Cur_line) (dp := 1) (ok0_of tabOk (by unfold ArrOk; kernel_rfl) mix ⟨ok_S_l1Cur_pick, trivial⟩ ⟨⟨Tryz.func37, by kernel_rfl, (by rw [show loopsOf (bodyOf Tryz.f37) = [] from by kernel_rfl]; exact trivial)⟩, trivial⟩) Tryz.func114 (by kernel_rfl) (by kernel_rfl) (by kernel_rfl)
    (by rw [show loopsOf (bodyOf Tryz.f114) = [] from by kernel_rfl]; exact trivial) (fun x => ef_S_l1Cur_line x.1)
noncomputable def pl_S_l1Cur_one : Plan := ⟨[], [], 0, 1⟩
noncomputable def f_S_l1Cur_one (t0 : PV Y_spec_l1Cur) (t1 : PV (.int .i64)) : Option (PVs [.bool] × PVs [Y_spec_l1Cur]) :=
  (f_S_l1Cur_pick t0 t1).bind fun r1 =>
    some (((r1.1.1 == 0), ()), (r1.2.1, ()))
noncomputable def ct_S_l1Cur_one : Ct := ⟨[(.ptr, Y_spec_l1Cur), (.bor, (.int .i64))], [(.bool, .b)], fun x => f_S_l1Cur_one x.1 x.2.1⟩
noncomputable def cx_S_l1Cur_one : Cx := ⟨tab, arrs, [(35, ct_S_l1Cur_pick)], [], gl, []⟩
theorem ef_S_l1Cur_one (t0 : PV Y_spec_l1Cur) (t1 : PV (.int .i64)) : denF cx_S_l1Cur_one 0 pl_S_l1Cur_one Tryz.f73.ntmps (bodyOf Tryz.f73) Tryz.f73.results.toList [(.ptr, Y_spec_l1Cur), (.bor, (.int .i64))] [(.bool, .b)] (t0, t1, ()) = f_S_l1Cur_one t0 t1 := by kernel_rfl
theorem ok_S_l1Cur_one : FnOk gl Tryz.prog 73 ct_S_l1Cur_one :=
  fnOk (cx := cx_S_l1Cur_one) (pl := pl_S_l1Cur_one) (dp := 0) (ok0_of tabOk (by unfold ArrOk; kernel_rfl) mix ⟨ok_S_l1Cur_pick, trivial⟩ trivial) Tryz.func73 (by kernel_rfl) (by kernel_rfl) (by kernel_rfl)
    (by rw [show loopsOf (bodyOf Tryz.f73) = [] from by kernel_rfl]; exact trivial) (fun x => ef_S_l1Cur_one x.1 x.2.1)
noncomputable def o_S_l1Cur_text_8 : List Out := [⟨.normal, ⟨[], [3], []⟩, mkSh 27 [(0, .var Y_spec_l1Cur .b), (4, .val S_string (.row .b))]⟩]
noncomputable def pl_S_l1Cur_text_37 : Plan := ⟨[], [], 0, 27⟩
noncomputable def sh_S_l1Cur_text_3 : List Sh := mkSh 27 [(0, .var Y_spec_l1Cur .b), (1, .addr ⟨0, [], 0, 0⟩), (4, .val S_string (.row .b)), (5, .val (.int .i64) .b)]
noncomputable def o_S_l1Cur_text_3 : List Out := [⟨.exit 0, ⟨[], [0, 3], []⟩, mkSh 27 [(0, .var Y_spec_l1Cur .b), (1, .addr ⟨0, [], 0, 0⟩), (4, .val S_string (.row .b))]⟩]
noncomputable def b_S_l1Cur_text_3 (t0 : PV Y_spec_l1Cur) (t4 : PV S_string) (t5 : PV (.int .i64)) : Option ((PV Y_spec_l1Cur × PV S_string × PV (.int .i64) × Unit) ⊕ ((PV Y_spec_l1Cur × PV S_string × Unit))) :=
  bif (decide (t5 > 0)) then
    (f_S_l1Cur_line t0).bind fun r4 =>
      bif decide (r4.1.1.length + [10].length ≤ 1099511627776) then
        bif roomB (t4.length + [(r4.1.1 ++ [10])].length) then
          some (.inl (r4.2.1, (t4 ++ [(r4.1.1 ++ [10])]), (IntKind.wrap .i64 (t5 - 1)), ()))
        else
          none
      else
        none
  else
    some (.inr (t0, t4, ()))
noncomputable def w_S_l1Cur_text_3 : PV Y_spec_l1Cur × PV S_string × PV (.int .i64) × Unit → Option ((PV Y_spec_l1Cur × PV S_string × Unit)) := fix fun d => b_S_l1Cur_text_3 d.1 d.2.1 d.2.2.1
noncomputable def lp_S_l1Cur_text_3 : Lp := ⟨⟨[], [0, 3, 4], []⟩, sh_S_l1Cur_text_3, o_S_l1Cur_text_3, fun d => b_S_l1Cur_text_3 d.1 d.2.1 d.2.2.1⟩
noncomputable def pl_S_l1Cur_text : Plan := ⟨[(8, o_S_l1Cur_text_8)], [(3, lp_S_l1Cur_text_3)], 1, 1⟩
noncomputable def f_S_l1Cur_text (t0 : PV Y_spec_l1Cur) : Option (PVs [S_string] × PVs [Y_spec_l1Cur]) :=
  (f_S_l1Cur_pick t0 9).bind fun r7 =>
    (w_S_l1Cur_text_3 (r7.2.1, [], r7.1.1, ())).bind fun l8 =>
      ((
          (f_S_l1Cur_one l8.1 5).bind fun r13 =>
            bif r13.1.1 then
              (f_S_l1Cur_pick r13.2.1 ([[97], [101, 110, 100], [46]].length : Int)).bind fun r14 =>
                bif inB r14.1.1 [[97], [101, 110, 100], [46]].length then
                  bif roomB (l8.2.1.length + [([[97], [101, 110, 100], [46]].getD r14.1.1.toNat [])].length) then
                    some (r14.2.1, (l8.2.1 ++ [([[97], [101, 110, 100], [46]].getD r14.1.1.toNat [])]), ())
                  else
                    none
                else
                  none
            else
              some (r13.2.1, l8.2.1, ()) : Option ((PV Y_spec_l1Cur × PV S_string × Unit)))).bind fun j15 =>
        some ((j15.2.1, ()), (j15.1, ()))
noncomputable def ct_S_l1Cur_text : Ct := ⟨[(.ptr, Y_spec_l1Cur)], [(S_string, .b)], fun x => f_S_l1Cur_text x.1⟩
noncomputable def cx_S_l1Cur_text : Cx := ⟨tab, arrs, [(35, ct_S_l1Cur_pick), (73, ct_S_l1Cur_one), (114, ct_S_l1Cur_line)], [(37, Tryz.f37, pl_S_l1Cur_text_37)], gl, []⟩
theorem eb_S_l1Cur_text_3 (t0 : PV Y_spec_l1Cur) (t4 : PV S_string) (t5 : PV (.int .i64)) : denK cx_S_l1Cur_text (rcN cx_S_l1Cur_text 1) pl_S_l1Cur_text 1 ((loopsOf (bodyOf Tryz.f70)).getD 0 .skip) (fillS sh_S_l1Cur_text_3 (t0, t4, t5, ())) (roundK 1 lp_S_l1Cur_text_3) = b_S_l1Cur_text_3 t0 t4 t5 := by kernel_rfl
theorem ef_S_l1Cur_text (t0 : PV Y_spec_l1Cur) : denF cx_S_l1Cur_text 1 pl_S_l1Cur_text Tryz.f70.ntmps (bodyOf Tryz.f70) Tryz.f70.results.toList [(.ptr, Y_spec_l1Cur)] [(S_string, .b)] (t0, ()) = f_S_l1Cur_text t0 := by kernel_rfl
theorem ok_S_l1Cur_text : FnOk gl Tryz.prog 70 ct_S_l1Cur_text :=
  fnOk (cx := cx_S_l1Cur_text) (pl := pl_S_l1Cur_text) (dp := 1) (ok0_of tabOk (by unfold ArrOk; kernel_rfl) mix ⟨ok_S_l1Cur_pick, ok_S_l1Cur_one, ok_S_l1Cur_line, trivial⟩ ⟨⟨Tryz.func37, by kernel_rfl, (by rw [show loopsOf (bodyOf Tryz.f37) = [] from by kernel_rfl]; exact trivial)⟩, trivial⟩) Tryz.func70 (by kernel_rfl) (by kernel_rfl) (by kernel_rfl)
    (by rw [show loopsOf (bodyOf Tryz.f70) = [((loopsOf (bodyOf Tryz.f70)).getD 0 .skip)] from by kernel_rfl]; exact ⟨(by rw [show lookup pl_S_l1Cur_text.loops (firstId ((loopsOf (bodyOf Tryz.f70)).getD 0 .skip)) = some lp_S_l1Cur_text_3 from by kernel_rfl]; exact fun d z h => (eb_S_l1Cur_text_3 d.1 d.2.1 d.2.2.1).trans h), trivial⟩) (fun x => ef_S_l1Cur_text x.1)
noncomputable def pl_S_l1Least : Plan := ⟨[], [], 0, 0⟩
noncomputable def f_S_l1Least (t0 : PV (.int .i64)) (t1 : PV (.int .i64)) : Option (PVs [(.int .i64)] × PVs []) :=
  bif (decide (t0 < t1)) then
    some ((t0, ()), ())
  else
    some ((t1, ()), ())
noncomputable def ct_S_l1Least : Ct := ⟨[(.bor, (.int .i64)), (.bor, (.int .i64))], [((.int .i64), .b)], fun x => f_S_l1Least x.1 x.2.1⟩
noncomputable def cx_S_l1Least : Cx := ⟨tab, arrs, [], [], gl, []⟩
theorem ef_S_l1Least (t0 : PV (.int .i64)) (t1 : PV (.int .i64)) : denF cx_S_l1Least 0 pl_S_l1Least Tryz.f115.ntmps (bodyOf Tryz.f115) Tryz.f115.results.toList [(.bor, (.int .i64)), (.bor, (.int .i64))] [((.int .i64), .b)] (t0, t1, ()) = f_S_l1Least t0 t1 := by kernel_rfl
theorem ok_S_l1Least : FnOk gl Tryz.prog 115 ct_S_l1Least :=
  fnOk (cx := cx_S_l1Least) (pl := pl_S_l1Least) (dp := 0) (ok0_of tabOk (by unfold ArrOk; kernel_rfl) mix trivial trivial) Tryz.func115 (by kernel_rfl) (by kernel_rfl) (by kernel_rfl)
    (by rw [show loopsOf (bodyOf Tryz.f115) = [] from by kernel_rfl]; exact trivial) (fun x => ef_S_l1Least x.1 x.2.1)
noncomputable def pl_S_l1Ends : Plan := ⟨[], [], 0, 0⟩
noncomputable def f_S_l1Ends (t0 : PV .str) : Option (PVs [.bool] × PVs []) :=
  bif inB (IntKind.wrap .i64 ((t0.length : Int) - 1)) t0.length then
    some (((((t0.getD (IntKind.wrap .i64 ((t0.length : Int) - 1)).toNat 0).toNat : Int) == 10), ()), ())
  else
    none
noncomputable def ct_S_l1Ends : Ct := ⟨[(.bor, .str)], [(.bool, .b)], fun x => f_S_l1Ends x.1⟩
noncomputable def cx_S_l1Ends : Cx := ⟨tab, arrs, [], [], gl, []⟩
theorem ef_S_l1Ends (t0 : PV .str) : denF cx_S_l1Ends 0 pl_S_l1Ends Tryz.f44.ntmps (bodyOf Tryz.f44) Tryz.f44.results.toList [(.bor, .str)] [(.bool, .b)] (t0, ()) = f_S_l1Ends t0 := by kernel_rfl
theorem ok_S_l1Ends : FnOk gl Tryz.prog 44 ct_S_l1Ends :=
  fnOk (cx := cx_S_l1Ends) (pl := pl_S_l1Ends) (dp := 0) (ok0_of tabOk (by unfold ArrOk; kernel_rfl) mix trivial trivial) Tryz.func44 (by kernel_rfl) (by kernel_rfl) (by kernel_rfl)
    (by rw [show loopsOf (bodyOf Tryz.f44) = [] from by kernel_rfl]; exact trivial) (fun x => ef_S_l1Ends x.1)
noncomputable def pl_S_l1Whole : Plan := ⟨[], [], 0, 0⟩
noncomputable def f_S_l1Whole (t0 : PV S_string) : Option (PVs [.bool] × PVs []) :=
  bif ((t0.length : Int) == 0) then
    some ((true, ()), ())
  else
    bif inB (IntKind.wrap .i64 ((t0.length : Int) - 1)) t0.length then
      (f_S_l1Ends (t0.getD ((IntKind.wrap .i64 ((t0.length : Int) - 1)).toNat) [])).bind fun r1 =>
        some ((r1.1.1, ()), ())
    else
      none
noncomputable def ct_S_l1Whole : Ct := ⟨[(.bor, S_string)], [(.bool, .b)], fun x => f_S_l1Whole x.1⟩
noncomputable def cx_S_l1Whole : Cx := ⟨tab, arrs, [(44, ct_S_l1Ends)], [], gl, []⟩
theorem ef_S_l1Whole (t0 : PV S_string) : denF cx_S_l1Whole 0 pl_S_l1Whole Tryz.f116.ntmps (bodyOf Tryz.f116) Tryz.f116.results.toList [(.bor, S_string)] [(.bool, .b)] (t0, ()) = f_S_l1Whole t0 := by kernel_rfl
theorem ok_S_l1Whole : FnOk gl Tryz.prog 116 ct_S_l1Whole :=
  fnOk (cx := cx_S_l1Whole) (pl := pl_S_l1Whole) (dp := 0) (ok0_of tabOk (by unfold ArrOk; kernel_rfl) mix ⟨ok_S_l1Ends, trivial⟩ trivial) Tryz.func116 (by kernel_rfl) (by kernel_rfl) (by kernel_rfl)
    (by rw [show loopsOf (bodyOf Tryz.f116) = [] from by kernel_rfl]; exact trivial) (fun x => ef_S_l1Whole x.1)
noncomputable def o_S_l1Cur_hunks_10 : List Out := [⟨.normal, ⟨[], [0, 1, 5, 6, 7, 16, 17, 18, 68], []⟩, mkSh 83 [(0, .var Y_spec_l1Cur .b), (1, .addr ⟨0, [], 0, 0⟩), (2, .val S_string .b), (6, .val S_impl_Hunk (.row .b)), (7, .val (.int .i64) .b), (8, .var Y_impl_Hunk .b), (17, .sub ⟨6, [], 0, 0⟩), (18, .val (.int .i64) .b), (19, .val .bool .b), (69, .val .bool .b)]⟩]
noncomputable def o_S_l1Cur_hunks_11 : List Out := [⟨.normal, ⟨[], [0, 1, 5, 6, 7, 17, 18, 52, 53, 54, 55, 56, 57, 58, 59, 60, 61, 62, 63, 64, 65, 66, 67], []⟩, mkSh 83 [(0, .var Y_spec_l1Cur .b), (1, .addr ⟨0, [], 0, 0⟩), (2, .val S_string .b), (6, .val S_impl_Hunk (.row .b)), (7, .val (.int .i64) .b), (8, .var Y_impl_Hunk .b), (18, .val (.int .i64) .b), (19, .val .bool .b)]⟩]
noncomputable def sh_S_l1Cur_hunks_6 : List Sh := mkSh 83 [(0, .var Y_spec_l1Cur .b), (1, .addr ⟨0, [], 0, 0⟩), (2, .val S_string .b), (6, .val S_impl_Hunk (.row .b)), (7, .val (.int .i64) .b), (8, .var Y_impl_Hunk (.pr .b (.pr .b (.pr (.row .b) .b)))), (9, .val (.int .i64) .b), (17, .sub ⟨6, [], 0, 0⟩), (18, .val (.int .i64) .b), (19, .val .bool .b)]
noncomputable def o_S_l1Cur_hunks_6 : List Out := [⟨.exit 2, ⟨[(7, .b)], [0, 1, 5, 6, 7, 16, 17, 18, 52, 53, 54, 55, 56, 57, 58, 59, 60, 61, 62, 63, 64, 65, 66, 67], []⟩, mkSh 83 [(0, .var Y_spec_l1Cur .b), (1, .addr ⟨0, [], 0, 0⟩), (2, .val S_string .b), (6, .val S_impl_Hunk (.row .b)), (7, .val (.int .i64) .b), (8, .var Y_impl_Hunk .b), (17, .sub ⟨6, [], 0, 0⟩), (18, .val (.int .i64) .b), (19, .val .bool .b)]⟩]
noncomputable def b_S_l1Cur_hunks_6 (t0 : PV Y_spec_l1Cur) (t2 : PV S_string) (t6 : PV S_impl_Hunk) (t7 : PV (.int .i64)) (t8 : PV Y_impl_Hunk) (t9 : PV (.int .i64)) (t18 : PV (.int .i64)) (t19 : PV .bool) : Option ((PV Y_spec_l1Cur × PV S_string × PV S_impl_Hunk × PV (.int .i64) × PV Y_impl_Hunk × PV (.int .i64) × PV (.int .i64) × PV .bool × Unit) ⊕ ((PV Y_spec_l1Cur × PV S_string × PV S_impl_Hunk × PV (.int .i64) × PV Y_impl_Hunk × PV (.int .i64) × PV .bool × Unit))) :=
  bif (decide (t9 > 0)) then
    (f_S_l1Cur_line t0).bind fun r29 =>
      bif decide (r29.1.1.length + [10].length ≤ 1099511627776) then
        bif roomB (t8.2.2.1.length + [(r29.1.1 ++ [10])].length) then
          some (.inl (r29.2.1, t2, t6, t7, (t8.1, (t8.2.1, ((t8.2.2.1 ++ [(r29.1.1 ++ [10])]), t8.2.2.2))), (IntKind.wrap .i64 (t9 - 1)), t18, t19, ()))
        else
          none
      else
        none
  else
    some (.inr (t0, t2, t6, t7, t8, t18, t19, ()))
noncomputable def w_S_l1Cur_hunks_6 : PV Y_spec_l1Cur × PV S_string × PV S_impl_Hunk × PV (.int .i64) × PV Y_impl_Hunk × PV (.int .i64) × PV (.int .i64) × PV .bool × Unit → Option ((PV Y_spec_l1Cur × PV S_string × PV S_impl_Hunk × PV (.int .i64) × PV Y_impl_Hunk × PV (.int .i64) × PV .bool × Unit)) := fix fun d => b_S_l1Cur_hunks_6 d.1 d.2.1 d.2.2.1 d.2.2.2.1 d.2.2.2.2.1 d.2.2.2.2.2.1 d.2.2.2.2.2.2.1 d.2.2.2.2.2.2.2.1
noncomputable def lp_S_l1Cur_hunks_6 : Lp := ⟨⟨[], [0, 1, 5, 6, 7, 8, 16, 17, 18, 52, 53, 54, 55, 56, 57, 58, 59, 60, 61, 62, 63, 64, 65, 66, 67], []⟩, sh_S_l1Cur_hunks_6, o_S_l1Cur_hunks_6, fun d => b_S_l1Cur_hunks_6 d.1 d.2.1 d.2.2.1 d.2.2.2.1 d.2.2.2.2.1 d.2.2.2.2.2.1 d.2.2.2.2.2.2.1 d.2.2.2.2.2.2.2.1⟩
noncomputable def sh_S_l1Cur_hunks_3 : List Sh := mkSh 83 [(0, .var Y_spec_l1Cur .b), (1, .addr ⟨0, [], 0, 0⟩), (2, .val S_string .b), (6, .val S_impl_Hunk (.row .b)), (7, .val (.int .i64) .b)]
noncomputable def o_S_l1Cur_hunks_3 : List Out := [⟨.exit 0, ⟨[], [5], []⟩, mkSh 83 [(0, .var Y_spec_l1Cur .b), (6, .val S_impl_Hunk (.row .b))]⟩]
noncomputable def b_S_l1Cur_hunks_3 (t0 : PV Y_spec_l1Cur) (t2 : PV S_string) (t6 : PV S_impl_Hunk) (t7 : PV (.int .i64)) : Option ((PV Y_spec_l1Cur × PV S_string × PV S_impl_Hunk × PV (.int .i64) × Unit) ⊕ ((PV Y_spec_l1Cur × PV S_impl_Hunk × Unit))) :=
  bif (decide (t7 ≤ (t2.length : Int))) then
    bif (decide ((t6.length : Int) < 6)) then
      (f_S_l1Least 3 (IntKind.wrap .i64 ((t2.length : Int) - t7))).bind fun r24 =>
        (f_S_l1Cur_pick t0 (IntKind.wrap .i64 (r24.1.1 + 1))).bind fun r25 =>
          (f_S_l1Cur_pick r25.2.1 3).bind fun r30 =>
            (w_S_l1Cur_hunks_6 (r30.2.1, t2, t6, t7, (t7, (r25.1.1, (([] : PV S_string), ()))), r30.1.1, (t6.length : Int), (decide ((t6.length : Int) < 6)), ())).bind fun l31 =>
              ((
                  ((
                      bif (decide ((IntKind.wrap .i64 (l31.2.2.2.2.1.2.1 + (l31.2.2.2.2.1.2.2.1.length : Int))) > 0)) then
                        bif (decide ((IntKind.wrap .i64 (l31.2.2.2.1 + l31.2.2.2.2.1.2.1)) < (l31.2.1.length : Int))) then
                          some (l31.1, l31.2.1, l31.2.2.1, l31.2.2.2.1, l31.2.2.2.2.1, l31.2.2.2.2.2.1, l31.2.2.2.2.2.2.1, true, ())
                        else
                          (f_S_l1Whole l31.2.1).bind fun r32 =>
                            bif r32.1.1 then
                              some (l31.1, l31.2.1, l31.2.2.1, l31.2.2.2.1, l31.2.2.2.2.1, l31.2.2.2.2.2.1, l31.2.2.2.2.2.2.1, true, ())
                            else
                              some (l31.1, l31.2.1, l31.2.2.1, l31.2.2.2.1, l31.2.2.2.2.1, l31.2.2.2.2.2.1, l31.2.2.2.2.2.2.1, (decide (l31.2.2.2.2.1.2.1 > 0)), ())
                      else
                        some (l31.1, l31.2.1, l31.2.2.1, l31.2.2.2.1, l31.2.2.2.2.1, l31.2.2.2.2.2.1, l31.2.2.2.2.2.2.1, false, ()) : Option ((PV Y_spec_l1Cur × PV S_string × PV S_impl_Hunk × PV (.int .i64) × PV Y_impl_Hunk × PV (.int .i64) × PV .bool × PV .bool × Unit)))).bind fun j33 =>
                    bif j33.2.2.2.2.2.2.2.1 then
                      bif roomB (j33.2.2.1.length + [j33.2.2.2.2.1].length) then
                        some (j33.1, j33.2.1, (j33.2.2.1 ++ [j33.2.2.2.2.1]), j33.2.2.2.1, j33.2.2.2.2.1, j33.2.2.2.2.2.1, j33.2.2.2.2.2.2.1, ())
                      else
                        none
                    else
                      some (j33.1, j33.2.1, j33.2.2.1, j33.2.2.2.1, j33.2.2.2.2.1, j33.2.2.2.2.2.1, j33.2.2.2.2.2.2.1, ()) : Option ((PV Y_spec_l1Cur × PV S_string × PV S_impl_Hunk × PV (.int .i64) × PV Y_impl_Hunk × PV (.int .i64) × PV .bool × Unit)))).bind fun j34 =>
                (f_S_l1Cur_pick j34.1 3).bind fun r35 =>
                  some (.inl (r35.2.1, j34.2.1, j34.2.2.1, (IntKind.wrap .i64 (j34.2.2.2.1 + (IntKind.wrap .i64 ((IntKind.wrap .i64 (j34.2.2.2.2.1.2.1 + 1)) + r35.1.1)))), ()))
    else
      some (.inr (t0, t6, ()))
  else
    some (.inr (t0, t6, ()))
noncomputable def w_S_l1Cur_hunks_3 : PV Y_spec_l1Cur × PV S_string × PV S_impl_Hunk × PV (.int .i64) × Unit → Option ((PV Y_spec_l1Cur × PV S_impl_Hunk × Unit)) := fix fun d => b_S_l1Cur_hunks_3 d.1 d.2.1 d.2.2.1 d.2.2.2.1
noncomputable def lp_S_l1Cur_hunks_3 : Lp := ⟨⟨[(5, (.row .b))], [0, 1, 5, 6, 16, 52, 53, 54, 55, 56, 57, 58, 59, 60, 61, 62, 63, 64, 65, 66, 67], []⟩, sh_S_l1Cur_hunks_3, o_S_l1Cur_hunks_3, fun d => b_S_l1Cur_hunks_3 d.1 d.2.1 d.2.2.1 d.2.2.2.1⟩
noncomputable def pl_S_l1Cur_hunks : Plan := ⟨[(10, o_S_l1Cur_hunks_10), (11, o_S_l1Cur_hunks_11)], [(6, lp_S_l1Cur_hunks_6), (3, lp_S_l1Cur_hunks_3)], 0, 1⟩
noncomputable def f_S_l1Cur_hunks (t0 : PV Y_spec_l1Cur) (t1 : PV S_string) : Option (PVs [S_impl_Hunk] × PVs [Y_spec_l1Cur]) :=
  (f_S_l1Cur_pick t0 3).bind fun r2 =>
    (w_S_l1Cur_hunks_3 (r2.2.1, t1, [], r2.1.1, ())).bind fun l37 =>
      some ((l37.2.1, ()), (l37.1, ()))
noncomputable def ct_S_l1Cur_hunks : Ct := ⟨[(.ptr, Y_spec_l1Cur), (.bor, S_string)], [(S_impl_Hunk, .b)], fun x => f_S_l1Cur_hunks x.1 x.2.1⟩
noncomputable def cx_S_l1Cur_hunks : Cx := ⟨tab, arrs, [(35, ct_S_l1Cur_pick), (114, ct_S_l1Cur_line), (115, ct_S_l1Least), (116, ct_S_l1Whole)], [], gl, []⟩
theorem eb_S_l1Cur_hunks_3 (t0 : PV Y_spec_l1Cur) (t2 : PV S_string) (t6 : PV S_impl_Hunk) (t7 : PV (.int .i64)) : denK cx_S_l1Cur_hunks (rcN cx_S_l1Cur_hunks 0) pl_S_l1Cur_hunks 1 ((loopsOf (bodyOf Tryz.f71)).getD 0 .skip) (fillS sh_S_l1Cur_hunks_3 (t0, t2, t6, t7, ())) (roundK 1 lp_S_l1Cur_hunks_3) = b_S_l1Cur_hunks_3 t0 t2 t6 t7 := by kernel_rfl
theorem eb_S_l1Cur_hunks_6 (t0 : PV Y_spec_l1Cur) (t2 : PV S_string) (t6 : PV S_impl_Hunk) (t7 : PV (.int .i64)) (t8 : PV Y_impl_Hunk) (t9 : PV (.int .i64)) (t18 : PV (.int .i64)) (t19 : PV .bool) : denK cx_S_l1Cur_hunks (rcN cx_S_l1Cur_hunks 0) pl_S_l1Cur_hunks 1 ((loopsOf (bodyOf Tryz.f71)).getD 1 .skip) (fillS sh_S_l1Cur_hunks_6 (t0, t2, t6, t7, t8, t9, t18, t19, ())) (roundK 1 lp_S_l1Cur_hunks_6) = b_S_l1Cur_hunks_6 t0 t2 t6 t7 t8 t9 t18 t19 := by kernel_rfl
theorem ef_S_l1Cur_hunks (t0 : PV Y_spec_l1Cur) (t1 : PV S_string) : denF cx_S_l1Cur_hunks 0 pl_S_l1Cur_hunks Tryz.f71.ntmps (bodyOf Tryz.f71) Tryz.f71.results.toList [(.ptr, Y_spec_l1Cur), (.bor, S_string)] [(S_impl_Hunk, .b)] (t0, t1, ()) = f_S_l1Cur_hunks t0 t1 := by kernel_rfl
theorem ok_S_l1Cur_hunks : FnOk gl Tryz.prog 71 ct_S_l1Cur_hunks :=
  fnOk (cx := cx_S_l1Cur_hunks) (pl := pl_S_l1Cur_hunks) (dp := 0) (ok0_of tabOk (by unfold ArrOk; kernel_rfl) mix ⟨ok_S_l1Cur_pick, ok_S_l1Cur_line, ok_S_l1Least, ok_S_l1Whole, trivial⟩ trivial) Tryz.func71 (by kernel_rfl) (by kernel_rfl) (by kernel_rfl)
    (by rw [show loopsOf (bodyOf Tryz.f71) = [((loopsOf (bodyOf Tryz.f71)).getD 0 .skip), ((loopsOf (bodyOf Tryz.f71)).getD 1 .skip)] from by kernel_rfl]; exact ⟨(by rw [show lookup pl_S_l1Cur_hunks.loops (firstId ((loopsOf (bodyOf Tryz.f71)).getD 0 .skip)) = some lp_S_l1Cur_hunks_3 from by kernel_rfl]; exact fun d z h => (eb_S_l1Cur_hunks_3 d.1 d.2.1 d.2.2.1 d.2.2.2.1).trans h), (by rw [show lookup pl_S_l1Cur_hunks.loops (firstId ((loopsOf (bodyOf Tryz.f71)).getD 1 .skip)) = some lp_S_l1Cur_hunks_6 from by kernel_rfl]; exact fun d z h => (eb_S_l1Cur_hunks_6 d.1 d.2.1 d.2.2.1 d.2.2.2.1 d.2.2.2.2.1 d.2.2.2.2.2.1 d.2.2.2.2.2.2.1 d.2.2.2.2.2.2.2.1).trans h), trivial⟩) (fun x => ef_S_l1Cur_hunks x.1 x.2.1)
noncomputable def pl_S_l1In : Plan := ⟨[], [], 0, 0⟩
noncomputable def f_S_l1In (t0 : PV (.int .i64)) (t1 : PV (.int .i64)) (t2 : PV (.int .i64)) : Option (PVs [.bool] × PVs []) :=
  bif (decide (t0 ≥ t1)) then
    some (((decide (t0 ≤ t2)), ()), ())
  else
    some ((false, ()), ())
noncomputable def ct_S_l1In : Ct := ⟨[(.bor, (.int .i64)), (.bor, (.int .i64)), (.bor, (.int .i64))], [(.bool, .b)], fun x => f_S_l1In x.1 x.2.1 x.2.2.1⟩
noncomputable def cx_S_l1In : Cx := ⟨tab, arrs, [], [], gl, []⟩
theorem ef_S_l1In (t0 : PV (.int .i64)) (t1 : PV (.int .i64)) (t2 : PV (.int .i64)) : denF cx_S_l1In 0 pl_S_l1In Tryz.f85.ntmps (bodyOf Tryz.f85) Tryz.f85.results.toList [(.bor, (.int .i64)), (.bor, (.int .i64)), (.bor, (.int .i64))] [(.bool, .b)] (t0, t1, t2, ()) = f_S_l1In t0 t1 t2 := by kernel_rfl
theorem ok_S_l1In : FnOk gl Tryz.prog 85 ct_S_l1In :=
  fnOk (cx := cx_S_l1In) (pl := pl_S_l1In) (dp := 0) (ok0_of tabOk (by unfold ArrOk; kernel_rfl) mix trivial trivial) Tryz.func85 (by kernel_rfl) (by kernel_rfl) (by kernel_rfl)
    (by rw [show loopsOf (bodyOf Tryz.f85) = [] from by kernel_rfl]; exact trivial) (fun x => ef_S_l1In x.1 x.2.1 x.2.2.1)
noncomputable def sh_S_l1Line_2 : List Sh := mkSh 18 [(0, .val .str .b), (3, .val (.int .i64) .b)]
noncomputable def o_S_l1Line_2 : List Out := [⟨.exit 0, ⟨[], [0], []⟩, mkSh 18 [(0, .val .str .b)]⟩, ⟨.ret, ⟨[], [2], []⟩, mkSh 18 [(2, .val .bool .b)]⟩]
noncomputable def b_S_l1Line_2 (t0 : PV .str) (t3 : PV (.int .i64)) : Option ((PV .str × PV (.int .i64) × Unit) ⊕ ((PV .str × Unit) ⊕ (PV .bool × Unit))) :=
  bif (decide (t3 < (IntKind.wrap .i64 ((t0.length : Int) - 1)))) then
    bif inB t3 t0.length then
      bif (((t0.getD t3.toNat 0).toNat : Int) == 10) then
        some (.inr (.inr (false, ())))
      else
        some (.inl (t0, (IntKind.wrap .i64 (t3 + 1)), ()))
    else
      none
  else
    some (.inr (.inl (t0, ())))
noncomputable def w_S_l1Line_2 : PV .str × PV (.int .i64) × Unit → Option ((PV .str × Unit) ⊕ (PV .bool × Unit)) := fix fun d => b_S_l1Line_2 d.1 d.2.1
noncomputable def lp_S_l1Line_2 : Lp := ⟨⟨[], [0, 3], []⟩, sh_S_l1Line_2, o_S_l1Line_2, fun d => b_S_l1Line_2 d.1 d.2.1⟩
noncomputable def pl_S_l1Line : Plan := ⟨[], [(2, lp_S_l1Line_2)], 0, 0⟩
noncomputable def f_S_l1Line (t0 : PV .str) : Option (PVs [.bool] × PVs []) :=
  (w_S_l1Line_2 (t0, 0, ())).bind fun x6 =>
    match x6 with
    | .inl l3 =>
      (f_S_l1In (l3.1.length : Int) 1 30).bind fun r4 =>
        some ((r4.1.1, ()), ())
    | .inr l5 =>
      some ((l5.1, ()), ())
noncomputable def ct_S_l1Line : Ct := ⟨[(.bor, .str)], [(.bool, .b)], fun x => f_S_l1Line x.1⟩
noncomputable def cx_S_l1Line : Cx := ⟨tab, arrs, [(85, ct_S_l1In)], [], gl, []⟩
theorem eb_S_l1Line_2 (t0 : PV .str) (t3 : PV (.int .i64)) : denK cx_S_l1Line (rcN cx_S_l1Line 0) pl_S_l1Line 0 ((loopsOf (bodyOf Tryz.f105)).getD 0 .skip) (fillS sh_S_l1Line_2 (t0, t3, ())) (roundK 0 lp_S_l1Line_2) = b_S_l1Line_2 t0 t3 := by kernel_rfl
theorem ef_S_l1Line (t0 : PV .str) : denF cx_S_l1Line 0 pl_S_l1Line Tryz.f105.ntmps (bodyOf Tryz.f105) Tryz.f105.results.toList [(.bor, .str)] [(.bool, .b)] (t0, ()) = f_S_l1Line t0 := by kernel_rfl
theorem ok_S_l1Line : FnOk gl Tryz.prog 105 ct_S_l1Line :=
  fnOk (cx := cx_S_l1Line) (pl := pl_S_l1Line) (dp := 0) (ok0_of tabOk (by unfold ArrOk; kernel_rfl) mix ⟨ok_S_l1In, trivial⟩ trivial) Tryz.func105 (by kernel_rfl) (by kernel_rfl) (by kernel_rfl)
    (by rw [show loopsOf (bodyOf Tryz.f105) = [((loopsOf (bodyOf Tryz.f105)).getD 0 .skip)] from by kernel_rfl]; exact ⟨(by rw [show lookup pl_S_l1Line.loops (firstId ((loopsOf (bodyOf Tryz.f105)).getD 0 .skip)) = some lp_S_l1Line_2 from by kernel_rfl]; exact fun d z h => (eb_S_l1Line_2 d.1 d.2.1).trans h), trivial⟩) (fun x => ef_S_l1Line x.1)
noncomputable def o_S_l1Good_5 : List Out := [⟨.normal, ⟨[], [0, 5, 6, 7, 26], []⟩, mkSh 31 [(0, .val S_string .b), (5, .val S_string .b), (6, .val (.int .i64) .b), (7, .val (.int .i64) .b), (26, .val .bool .b)]⟩]
noncomputable def sh_S_l1Good_2 : List Sh := mkSh 31 [(0, .val S_string .b), (5, .val S_string .b), (6, .val (.int .i64) .b), (7, .val (.int .i64) .b)]
noncomputable def o_S_l1Good_2 : List Out := [⟨.exit 0, ⟨[], [0], []⟩, mkSh 31 [(0, .val S_string .b)]⟩, ⟨.ret, ⟨[], [2], []⟩, mkSh 31 [(2, .val .bool .b)]⟩]
noncomputable def b_S_l1Good_2 (t0 : PV S_string) (t5 : PV S_string) (t6 : PV (.int .i64)) (t7 : PV (.int .i64)) : Option ((PV S_string × PV S_string × PV (.int .i64) × PV (.int .i64) × Unit) ⊕ ((PV S_string × Unit) ⊕ (PV .bool × Unit))) :=
  bif (decide (t7 < t6)) then
    bif inB t7 t5.length then
      ((
          (f_S_l1Line (t5.getD t7.toNat [])).bind fun r4 =>
            bif (!r4.1.1) then
              some (t0, t5, t6, t7, true, ())
            else
              bif (decide (t7 < (IntKind.wrap .i64 ((t0.length : Int) - 1)))) then
                (f_S_l1Ends (t5.getD t7.toNat [])).bind fun r5 =>
                  some (t0, t5, t6, t7, (!r5.1.1), ())
              else
                some (t0, t5, t6, t7, false, ()) : Option ((PV S_string × PV S_string × PV (.int .i64) × PV (.int .i64) × PV .bool × Unit)))).bind fun j6 =>
        bif j6.2.2.2.2.1 then
          some (.inr (.inr (false, ())))
        else
          some (.inl (j6.1, j6.2.1, j6.2.2.1, (IntKind.wrap .i64 (j6.2.2.2.1 + 1)), ()))
    else
      none
  else
    some (.inr (.inl (t0, ())))
noncomputable def w_S_l1Good_2 : PV S_string × PV S_string × PV (.int .i64) × PV (.int .i64) × Unit → Option ((PV S_string × Unit) ⊕ (PV .bool × Unit)) := fix fun d => b_S_l1Good_2 d.1 d.2.1 d.2.2.1 d.2.2.2.1
noncomputable def lp_S_l1Good_2 : Lp := ⟨⟨[], [0, 5, 6, 7, 16, 17, 18, 19, 20, 21, 22, 23, 24, 25], []⟩, sh_S_l1Good_2, o_S_l1Good_2, fun d => b_S_l1Good_2 d.1 d.2.1 d.2.2.1 d.2.2.2.1⟩
noncomputable def pl_S_l1Good : Plan := ⟨[(5, o_S_l1Good_5)], [(2, lp_S_l1Good_2)], 0, 0⟩
noncomputable def f_S_l1Good (t0 : PV S_string) : Option (PVs [.bool] × PVs []) :=
  (w_S_l1Good_2 (t0, t0, (t0.length : Int), 0, ())).bind fun x11 =>
    match x11 with
    | .inl l9 =>
      some (((decide ((l9.1.length : Int) ≤ 40)), ()), ())
    | .inr l10 =>
      some ((l10.1, ()), ())
noncomputable def ct_S_l1Good : Ct := ⟨[(.bor, S_string)], [(.bool, .b)], fun x => f_S_l1Good x.1⟩
noncomputable def cx_S_l1Good : Cx := ⟨tab, arrs, [(44, ct_S_l1Ends), (105, ct_S_l1Line)], [], gl, []⟩
theorem eb_S_l1Good_2 (t0 : PV S_string) (t5 : PV S_string) (t6 : PV (.int .i64)) (t7 : PV (.int .i64)) : denK cx_S_l1Good (rcN cx_S_l1Good 0) pl_S_l1Good 0 ((loopsOf (bodyOf Tryz.f94)).getD 0 .skip) (fillS sh_S_l1Good_2 (t0, t5, t6, t7, ())) (roundK 0 lp_S_l1Good_2) = b_S_l1Good_2 t0 t5 t6 t7 := by kernel_rfl
theorem ef_S_l1Good (t0 : PV S_string) : denF cx_S_l1Good 0 pl_S_l1Good Tryz.f94.ntmps (bodyOf Tryz.f94) Tryz.f94.results.toList [(.bor, S_string)] [(.bool, .b)] (t0, ()) = f_S_l1Good t0 := by kernel_rfl
theorem ok_S_l1Good : FnOk gl Tryz.prog 94 ct_S_l1Good :=
  fnOk (cx := cx_S_l1Good) (pl := pl_S_l1Good) (dp := 0) (ok0_of tabOk (by unfold ArrOk; kernel_rfl) mix ⟨ok_S_l1Ends, ok_S_l1Line, trivial⟩ trivial) Tryz.func94 (by kernel_rfl) (by kernel_rfl) (by kernel_rfl)
    (by rw [show loopsOf (bodyOf Tryz.f94) = [((loopsOf (bodyOf Tryz.f94)).getD 0 .skip)] from by kernel_rfl]; exact ⟨(by rw [show lookup pl_S_l1Good.loops (firstId ((loopsOf (bodyOf Tryz.f94)).getD 0 .skip)) = some lp_S_l1Good_2 from by kernel_rfl]; exact fun d z h => (eb_S_l1Good_2 d.1 d.2.1 d.2.2.1 d.2.2.2.1).trans h), trivial⟩) (fun x => ef_S_l1Good x.1)
noncomputable def o_S_l2Hunks_5 : List Out := [⟨.normal, ⟨[], [0, 1, 6, 9, 10, 11, 75, 92, 93], []⟩, mkSh 95 [(0, .val (.int .i64) .b), (1, .val S_impl_Hunk .b), (6, .var Y_impl_Hunk .b), (9, .val S_impl_Hunk .b), (10, .val (.int .i64) .b), (11, .val (.int .i64) .b), (75, .val .bool .b)]⟩]
noncomputable def sh_S_l2Hunks_7 : List Sh := mkSh 95 [(0, .val (.int .i64) .b), (1, .val S_impl_Hunk .b), (9, .val S_impl_Hunk .b), (10, .val (.int .i64) .b), (11, .val (.int .i64) .b), (77, .val S_string .b), (78, .val (.int .i64) .b), (79, .val (.int .i64) .b)]
noncomputable def o_S_l2Hunks_7 : List Out := [⟨.exit 2, ⟨[], [0, 1, 9, 10, 11, 20, 21, 22, 25, 26, 27, 28, 31, 32, 33, 34, 35, 36, 37, 40, 41, 42, 43, 44, 45, 46, 49, 50, 51, 52, 55, 56, 57, 58, 59, 60, 61, 62, 63, 64, 65, 66, 67, 68, 69, 70, 71, 72, 73, 74, 92, 93], []⟩, mkSh 95 [(0, .val (.int .i64) .b), (1, .val S_impl_Hunk .b), (9, .val S_impl_Hunk .b), (10, .val (.int .i64) .b), (11, .val (.int .i64) .b)]⟩, ⟨.ret, ⟨[], [4], []⟩, mkSh 95 [(4, .val .bool .b)]⟩]
noncomputable def b_S_l2Hunks_7 (t0 : PV (.int .i64)) (t1 : PV S_impl_Hunk) (t9 : PV S_impl_Hunk) (t10 : PV (.int .i64)) (t11 : PV (.int .i64)) (t77 : PV S_string) (t78 : PV (.int .i64)) (t79 : PV (.int .i64)) : Option ((PV (.int .i64) × PV S_impl_Hunk × PV S_impl_Hunk × PV (.int .i64) × PV (.int .i64) × PV S_string × PV (.int .i64) × PV (.int .i64) × Unit) ⊕ ((PV (.int .i64) × PV S_impl_Hunk × PV S_impl_Hunk × PV (.int .i64) × PV (.int .i64) × Unit) ⊕ (PV .bool × Unit))) :=
  bif (decide (t79 < t78)) then
    bif inB t79 t77.length then
      (f_S_l1Line (t77.getD t79.toNat [])).bind fun r6 =>
        bif (!r6.1.1) then
          some (.inr (.inr (false, ())))
        else
          some (.inl (t0, t1, t9, t10, t11, t77, t78, (IntKind.wrap .i64 (t79 + 1)), ()))
    else
      none
  else
    some (.inr (.inl (t0, t1, t9, t10, t11, ())))
noncomputable def w_S_l2Hunks_7 : PV (.int .i64) × PV S_impl_Hunk × PV S_impl_Hunk × PV (.int .i64) × PV (.int .i64) × PV S_string × PV (.int .i64) × PV (.int .i64) × Unit → Option ((PV (.int .i64) × PV S_impl_Hunk × PV S_impl_Hunk × PV (.int .i64) × PV (.int .i64) × Unit) ⊕ (PV .bool × Unit)) := fix fun d => b_S_l2Hunks_7 d.1 d.2.1 d.2.2.1 d.2.2.2.1 d.2.2.2.2.1 d.2.2.2.2.2.1 d.2.2.2.2.2.2.1 d.2.2.2.2.2.2.2.1
noncomputable def lp_S_l2Hunks_7 : Lp := ⟨⟨[], [0, 1, 9, 10, 11, 20, 21, 22, 25, 26, 27, 28, 31, 32, 33, 34, 35, 36, 37, 40, 41, 42, 43, 44, 45, 46, 49, 50, 51, 52, 55, 56, 57, 58, 59, 60, 61, 62, 63, 64, 65, 66, 67, 68, 69, 70, 71, 72, 73, 74, 77, 78, 79, 92, 93], []⟩, sh_S_l2Hunks_7, o_S_l2Hunks_7, fun d => b_S_l2Hunks_7 d.1 d.2.1 d.2.2.1 d.2.2.2.1 d.2.2.2.2.1 d.2.2.2.2.2.1 d.2.2.2.2.2.2.1 d.2.2.2.2.2.2.2.1⟩
noncomputable def sh_S_l2Hunks_2 : List Sh := mkSh 95 [(0, .val (.int .i64) .b), (1, .val S_impl_Hunk .b), (9, .val S_impl_Hunk .b), (10, .val (.int .i64) .b), (11, .val (.int .i64) .b)]
noncomputable def o_S_l2Hunks_2 : List Out := [⟨.exit 0, ⟨[], [0, 1, 92, 93], []⟩, mkSh 95 [(0, .val (.int .i64) .b), (1, .val S_impl_Hunk .b)]⟩, ⟨.ret, ⟨[], [4], []⟩, mkSh 95 [(4, .val .bool .b)]⟩]
noncomputable def b_S_l2Hunks_2 (t0 : PV (.int .i64)) (t1 : PV S_impl_Hunk) (t9 : PV S_impl_Hunk) (t10 : PV (.int .i64)) (t11 : PV (.int .i64)) : Option ((PV (.int .i64) × PV S_impl_Hunk × PV S_impl_Hunk × PV (.int .i64) × PV (.int .i64) × Unit) ⊕ ((PV (.int .i64) × PV S_impl_Hunk × Unit) ⊕ (PV .bool × Unit))) :=
  bif (decide (t11 < t10)) then
    bif inB t11 t9.length then
      ((
          bif (decide (((t9.getD t11.toNat (dflt Y_impl_Hunk)).1) < 0)) then
            some (t0, t1, (t9.getD t11.toNat (dflt Y_impl_Hunk)), t9, t10, t11, true, ())
          else
            bif (decide ((((t9.getD t11.toNat (dflt Y_impl_Hunk)).2).1) < 0)) then
              some (t0, t1, (t9.getD t11.toNat (dflt Y_impl_Hunk)), t9, t10, t11, true, ())
            else
              bif (decide ((((t9.getD t11.toNat (dflt Y_impl_Hunk)).2).1) > t0)) then
                some (t0, t1, (t9.getD t11.toNat (dflt Y_impl_Hunk)), t9, t10, t11, true, ())
              else
                bif (decide (((t9.getD t11.toNat (dflt Y_impl_Hunk)).1) > (IntKind.wrap .i64 (t0 - (((t9.getD t11.toNat (dflt Y_impl_Hunk)).2).1))))) then
                  some (t0, t1, (t9.getD t11.toNat (dflt Y_impl_Hunk)), t9, t10, t11, true, ())
                else
                  bif ((IntKind.wrap .i64 ((((t9.getD t11.toNat (dflt Y_impl_Hunk)).2).1) + (((((t9.getD t11.toNat (dflt Y_impl_Hunk)).2).2).1).length : Int))) == 0) then
                    some (t0, t1, (t9.getD t11.toNat (dflt Y_impl_Hunk)), t9, t10, t11, true, ())
                  else
                    bif (decide ((((((t9.getD t11.toNat (dflt Y_impl_Hunk)).2).2).1).length : Int) > 40)) then
                      some (t0, t1, (t9.getD t11.toNat (dflt Y_impl_Hunk)), t9, t10, t11, true, ())
                    else
                      bif (decide (t11 > 0)) then
                        bif inB (IntKind.wrap .i64 (t11 - 1)) t1.length then
                          bif inB (IntKind.wrap .i64 (t11 - 1)) t1.length then
                            some (t0, t1, (t9.getD t11.toNat (dflt Y_impl_Hunk)), t9, t10, t11, (decide (((t9.getD t11.toNat (dflt Y_impl_Hunk)).1) ≤ (IntKind.wrap .i64 (((t1.getD ((IntKind.wrap .i64 (t11 - 1)).toNat) (dflt Y_impl_Hunk)).1) + (((t1.getD ((IntKind.wrap .i64 (t11 - 1)).toNat) (dflt Y_impl_Hunk)).2).1))))), ())
                          else
                            none
                        else
                          none
                      else
                        some (t0, t1, (t9.getD t11.toNat (dflt Y_impl_Hunk)), t9, t10, t11, false, ()) : Option ((PV (.int .i64) × PV S_impl_Hunk × PV Y_impl_Hunk × PV S_impl_Hunk × PV (.int .i64) × PV (.int .i64) × PV .bool × Unit)))).bind fun j6 =>
        bif j6.2.2.2.2.2.2.1 then
          some (.inr (.inr (false, ())))
        else
          (w_S_l2Hunks_7 (j6.1, j6.2.1, j6.2.2.2.1, j6.2.2.2.2.1, j6.2.2.2.2.2.1, j6.2.2.1.2.2.1, (j6.2.2.1.2.2.1.length : Int), 0, ())).bind fun x14 =>
            match x14 with
            | .inl l7 =>
              some (.inl (l7.1, l7.2.1, l7.2.2.1, l7.2.2.2.1, (IntKind.wrap .i64 (l7.2.2.2.2.1 + 1)), ()))
            | .inr l8 =>
              some (.inr (.inr (l8.1, ())))
    else
      none
  else
    some (.inr (.inl (t0, t1, ())))
noncomputable def w_S_l2Hunks_2 : PV (.int .i64) × PV S_impl_Hunk × PV S_impl_Hunk × PV (.int .i64) × PV (.int .i64) × Unit → Option ((PV (.int .i64) × PV S_impl_Hunk × Unit) ⊕ (PV .bool × Unit)) := fix fun d => b_S_l2Hunks_2 d.1 d.2.1 d.2.2.1 d.2.2.2.1 d.2.2.2.2.1
noncomputable def lp_S_l2Hunks_2 : Lp := ⟨⟨[], [0, 1, 9, 10, 11, 20, 21, 22, 25, 26, 27, 28, 31, 32, 33, 34, 35, 36, 37, 40, 41, 42, 43, 44, 45, 46, 49, 50, 51, 52, 55, 56, 57, 58, 59, 60, 61, 62, 63, 64, 65, 66, 67, 68, 69, 70, 71, 72, 73, 74, 92, 93], []⟩, sh_S_l2Hunks_2, o_S_l2Hunks_2, fun d => b_S_l2Hunks_2 d.1 d.2.1 d.2.2.1 d.2.2.2.1 d.2.2.2.2.1⟩
noncomputable def pl_S_l2Hunks : Plan := ⟨[(5, o_S_l2Hunks_5)], [(7, lp_S_l2Hunks_7), (2, lp_S_l2Hunks_2)], 0, 0⟩
noncomputable def f_S_l2Hunks (t0 : PV (.int .i64)) (t1 : PV S_impl_Hunk) : Option (PVs [.bool] × PVs []) :=
  (w_S_l2Hunks_2 (t0, t1, t1, (t1.length : Int), 0, ())).bind fun x15 =>
    match x15 with
    | .inl l11 =>
      bif (decide ((l11.2.1.length : Int) ≤ 20)) then
        (f_S_l1In l11.1 0 40).bind fun r12 =>
          some ((r12.1.1, ()), ())
      else
        some ((false, ()), ())
    | .inr l13 =>
      some ((l13.1, ()), ())
noncomputable def ct_S_l2Hunks : Ct := ⟨[(.bor, (.int .i64)), (.bor, S_impl_Hunk)], [(.bool, .b)], fun x => f_S_l2Hunks x.1 x.2.1⟩
noncomputable def cx_S_l2Hunks : Cx := ⟨tab, arrs, [(85, ct_S_l1In), (105, ct_S_l1Line)], [], gl, []⟩
theorem eb_S_l2Hunks_2 (t0 : PV (.int .i64)) (t1 : PV S_impl_Hunk) (t9 : PV S_impl_Hunk) (t10 : PV (.int .i64)) (t11 : PV (.int .i64)) : denK cx_S_l2Hunks (rcN cx_S_l2Hunks 0) pl_S_l2Hunks 0 ((loopsOf (bodyOf Tryz.f130)).getD 0 .skip) (fillS sh_S_l2Hunks_2 (t0, t1, t9, t10, t11, ())) (roundK 0 lp_S_l2Hunks_2) = b_S_l2Hunks_2 t0 t1 t9 t10 t11 := by kernel_rfl
theorem eb_S_l2Hunks_7 (t0 : PV (.int .i64)) (t1 : PV S_impl_Hunk) (t9 : PV S_impl_Hunk) (t10 : PV (.int .i64)) (t11 : PV (.int .i64)) (t77 : PV S_string) (t78 : PV (.int .i64)) (t79 : PV (.int .i64)) : denK cx_S_l2Hunks (rcN cx_S_l2Hunks 0) pl_S_l2Hunks 0 ((loopsOf (bodyOf Tryz.f130)).getD 1 .skip) (fillS sh_S_l2Hunks_7 (t0, t1, t9, t10, t11, t77, t78, t79, ())) (roundK 0 lp_S_l2Hunks_7) = b_S_l2Hunks_7 t0 t1 t9 t10 t11 t77 t78 t79 := by kernel_rfl
theorem ef_S_l2Hunks (t0 : PV (.int .i64)) (t1 : PV S_impl_Hunk) : denF cx_S_l2Hunks 0 pl_S_l2Hunks Tryz.f130.ntmps (bodyOf Tryz.f130) Tryz.f130.results.toList [(.bor, (.int .i64)), (.bor, S_impl_Hunk)] [(.bool, .b)] (t0, t1, ()) = f_S_l2Hunks t0 t1 := by kernel_rfl
theorem ok_S_l2Hunks : FnOk gl Tryz.prog 130 ct_S_l2Hunks :=
  fnOk (cx := cx_S_l2Hunks) (pl := pl_S_l2Hunks) (dp := 0) (ok0_of tabOk (by unfold ArrOk; kernel_rfl) mix ⟨ok_S_l1In, ok_S_l1Line, trivial⟩ trivial) Tryz.func130 (by kernel_rfl) (by kernel_rfl) (by kernel_rfl)
    (by rw [show loopsOf (bodyOf Tryz.f130) = [((loopsOf (bodyOf Tryz.f130)).getD 0 .skip), ((loopsOf (bodyOf Tryz.f130)).getD 1 .skip)] from by kernel_rfl]; exact ⟨(by rw [show lookup pl_S_l2Hunks.loops (firstId ((loopsOf (bodyOf Tryz.f130)).getD 0 .skip)) = some lp_S_l2Hunks_2 from by kernel_rfl]; exact fun d z h => (eb_S_l2Hunks_2 d.1 d.2.1 d.2.2.1 d.2.2.2.1 d.2.2.2.2.1).trans h), (by rw [show lookup pl_S_l2Hunks.loops (firstId ((loopsOf (bodyOf Tryz.f130)).getD 1 .skip)) = some lp_S_l2Hunks_7 from by kernel_rfl]; exact fun d z h => (eb_S_l2Hunks_7 d.1 d.2.1 d.2.2.1 d.2.2.2.1 d.2.2.2.2.1 d.2.2.2.2.2.1 d.2.2.2.2.2.2.1 d.2.2.2.2.2.2.2.1).trans h), trivial⟩) (fun x => ef_S_l2Hunks x.1 x.2.1)
noncomputable def pl_S_l2Asked : Plan := ⟨[], [], 0, 0⟩
noncomputable def f_S_l2Asked (t0 : PV S_string) (t1 : PV S_impl_Hunk) : Option (PVs [.bool] × PVs []) :=
  (f_S_l1Good t0).bind fun r1 =>
    bif r1.1.1 then
      (f_S_l2Hunks (t0.length : Int) t1).bind fun r2 =>
        some ((r2.1.1, ()), ())
    else
      some ((false, ()), ())
noncomputable def ct_S_l2Asked : Ct := ⟨[(.bor, S_string), (.bor, S_impl_Hunk)], [(.bool, .b)], fun x => f_S_l2Asked x.1 x.2.1⟩
noncomputable def cx_S_l2Asked : Cx := ⟨tab, arrs, [(94, ct_S_l1Good), (130, ct_S_l2Hunks)], [], gl, []⟩
theorem ef_S_l2Asked (t0 : PV S_string) (t1 : PV S_impl_Hunk) : denF cx_S_l2Asked 0 pl_S_l2Asked Tryz.f96.ntmps (bodyOf Tryz.f96) Tryz.f96.results.toList [(.bor, S_string), (.bor, S_impl_Hunk)] [(.bool, .b)] (t0, t1, ()) = f_S_l2Asked t0 t1 := by kernel_rfl
theorem ok_S_l2Asked : FnOk gl Tryz.prog 96 ct_S_l2Asked :=
  fnOk (cx := cx_S_l2Asked) (pl := pl_S_l2Asked) (dp := 0) (ok0_of tabOk (by unfold ArrOk; kernel_rfl) mix ⟨ok_S_l1Good, ok_S_l2Hunks, trivial⟩ trivial) Tryz.func96 (by kernel_rfl) (by kernel_rfl) (by kernel_rfl)
    (by rw [show loopsOf (bodyOf Tryz.f96) = [] from by kernel_rfl]; exact trivial) (fun x => ef_S_l2Asked x.1 x.2.1)
noncomputable def sh_S_l2Patch_4 : List Sh := mkSh 37 [(0, .val S_string .b), (5, .val S_string (.row .b)), (6, .val (.int .i64) .b), (9, .val S_impl_Hunk .b), (10, .val (.int .i64) .b), (11, .val (.int .i64) .b)]
noncomputable def o_S_l2Patch_4 : List Out := [⟨.exit 0, ⟨[], [0, 5, 6], []⟩, mkSh 37 [(0, .val S_string .b), (5, .val S_string (.row .b)), (6, .val (.int .i64) .b)]⟩]
noncomputable def b_S_l2Patch_4 (t0 : PV S_string) (t5 : PV S_string) (t6 : PV (.int .i64)) (t9 : PV S_impl_Hunk) (t10 : PV (.int .i64)) (t11 : PV (.int .i64)) : Option ((PV S_string × PV S_string × PV (.int .i64) × PV S_impl_Hunk × PV (.int .i64) × PV (.int .i64) × Unit) ⊕ ((PV S_string × PV S_string × PV (.int .i64) × Unit))) :=
  bif (decide (t11 < t10)) then
    bif inB t11 t9.length then
      bif cutB t6 ((t9.getD t11.toNat (dflt Y_impl_Hunk)).1) t0.length then
        bif roomB (t5.length + (cutL t6 ((t9.getD t11.toNat (dflt Y_impl_Hunk)).1) t0).length) then
          bif roomB ((t5 ++ (cutL t6 ((t9.getD t11.toNat (dflt Y_impl_Hunk)).1) t0)).length + ((((t9.getD t11.toNat (dflt Y_impl_Hunk)).2).2).1).length) then
            some (.inl (t0, ((t5 ++ (cutL t6 ((t9.getD t11.toNat (dflt Y_impl_Hunk)).1) t0)) ++ ((((t9.getD t11.toNat (dflt Y_impl_Hunk)).2).2).1)), (IntKind.wrap .i64 (((t9.getD t11.toNat (dflt Y_impl_Hunk)).1) + (((t9.getD t11.toNat (dflt Y_impl_Hunk)).2).1))), t9, t10, (IntKind.wrap .i64 (t11 + 1)), ()))
          else
            none
        else
          none
      else
        none
    else
      none
  else
    some (.inr (t0, t5, t6, ()))
noncomputable def w_S_l2Patch_4 : PV S_string × PV S_string × PV (.int .i64) × PV S_impl_Hunk × PV (.int .i64) × PV (.int .i64) × Unit → Option ((PV S_string × PV S_string × PV (.int .i64) × Unit)) := fix fun d => b_S_l2Patch_4 d.1 d.2.1 d.2.2.1 d.2.2.2.1 d.2.2.2.2.1 d.2.2.2.2.2.1
noncomputable def lp_S_l2Patch_4 : Lp := ⟨⟨[], [0, 5, 6, 9, 10, 11], []⟩, sh_S_l2Patch_4, o_S_l2Patch_4, fun d => b_S_l2Patch_4 d.1 d.2.1 d.2.2.1 d.2.2.2.1 d.2.2.2.2.1 d.2.2.2.2.2.1⟩
noncomputable def pl_S_l2Patch : Plan := ⟨[], [(4, lp_S_l2Patch_4)], 0, 0⟩
noncomputable def f_S_l2Patch (t0 : PV S_string) (t1 : PV S_impl_Hunk) : Option (PVs [S_string] × PVs []) :=
  (w_S_l2Patch_4 (t0, [], 0, t1, (t1.length : Int), 0, ())).bind fun l2 =>
    bif cutB l2.2.2.1 (l2.1.length : Int) l2.1.length then
      bif roomB (l2.2.1.length + (cutL l2.2.2.1 (l2.1.length : Int) l2.1).length) then
        some (((l2.2.1 ++ (cutL l2.2.2.1 (l2.1.length : Int) l2.1)), ()), ())
      else
        none
    else
      none
noncomputable def ct_S_l2Patch : Ct := ⟨[(.bor, S_string), (.bor, S_impl_Hunk)], [(S_string, (.row .b))], fun x => f_S_l2Patch x.1 x.2.1⟩
noncomputable def cx_S_l2Patch : Cx := ⟨tab, arrs, [], [], gl, []⟩
theorem eb_S_l2Patch_4 (t0 : PV S_string) (t5 : PV S_string) (t6 : PV (.int .i64)) (t9 : PV S_impl_Hunk) (t10 : PV (.int .i64)) (t11 : PV (.int .i64)) : denK cx_S_l2Patch (rcN cx_S_l2Patch 0) pl_S_l2Patch 0 ((loopsOf (bodyOf Tryz.f97)).getD 0 .skip) (fillS sh_S_l2Patch_4 (t0, t5, t6, t9, t10, t11, ())) (roundK 0 lp_S_l2Patch_4) = b_S_l2Patch_4 t0 t5 t6 t9 t10 t11 := by kernel_rfl
theorem ef_S_l2Patch (t0 : PV S_string) (t1 : PV S_impl_Hunk) : denF cx_S_l2Patch 0 pl_S_l2Patch Tryz.f97.ntmps (bodyOf Tryz.f97) Tryz.f97.results.toList [(.bor, S_string), (.bor, S_impl_Hunk)] [(S_string, (.row .b))] (t0, t1, ()) = f_S_l2Patch t0 t1 := by kernel_rfl
theorem ok_S_l2Patch : FnOk gl Tryz.prog 97 ct_S_l2Patch :=
  fnOk (cx := cx_S_l2Patch) (pl := pl_S_l2Patch) (dp := 0) (ok0_of tabOk (by unfold ArrOk; kernel_rfl) mix trivial trivial) Tryz.func97 (by kernel_rfl) (by kernel_rfl) (by kernel_rfl)
    (by rw [show loopsOf (bodyOf Tryz.f97) = [((loopsOf (bodyOf Tryz.f97)).getD 0 .skip)] from by kernel_rfl]; exact ⟨(by rw [show lookup pl_S_l2Patch.loops (firstId ((loopsOf (bodyOf Tryz.f97)).getD 0 .skip)) = some lp_S_l2Patch_4 from by kernel_rfl]; exact fun d z h => (eb_S_l2Patch_4 d.1 d.2.1 d.2.2.1 d.2.2.2.1 d.2.2.2.2.1 d.2.2.2.2.2.1).trans h), trivial⟩) (fun x => ef_S_l2Patch x.1 x.2.1)
noncomputable def pl_S_Patch : Plan := ⟨[], [], 0, 0⟩
noncomputable def f_S_Patch (t0 : PV S_string) (t1 : PV S_impl_Hunk) : Option (PVs [S_string, .bool] × PVs []) :=
  (f_S_l2Asked t0 t1).bind fun r4 =>
    bif (!r4.1.1) then
      some (([], false, ()), ())
    else
      (f_S_l2Patch t0 t1).bind fun r6 =>
        (f_S_l1Good r6.1.1).bind fun r10 =>
          bif (!r10.1.1) then
            some (([], false, ()), ())
          else
            some ((r6.1.1, true, ()), ())
noncomputable def ct_S_Patch : Ct := ⟨[(.bor, S_string), (.bor, S_impl_Hunk)], [(S_string, (.row .b)), (.bool, .b)], fun x => f_S_Patch x.1 x.2.1⟩
noncomputable def cx_S_Patch : Cx := ⟨tab, arrs, [(94, ct_S_l1Good), (96, ct_S_l2Asked), (97, ct_S_l2Patch)], [], gl, []⟩
theorem ef_S_Patch (t0 : PV S_string) (t1 : PV S_impl_Hunk) : denF cx_S_Patch 0 pl_S_Patch Tryz.f54.ntmps (bodyOf Tryz.f54) Tryz.f54.results.toList [(.bor, S_string), (.bor, S_impl_Hunk)] [(S_string, (.row .b)), (.bool, .b)] (t0, t1, ()) = f_S_Patch t0 t1 := by kernel_rfl
theorem ok_S_Patch : FnOk gl Tryz.prog 54 ct_S_Patch :=
  fnOk (cx := cx_S_Patch) (pl := pl_S_Patch) (dp := 0) (ok0_of tabOk (by unfold ArrOk; kernel_rfl) mix ⟨ok_S_l1Good, ok_S_l2Asked, ok_S_l2Patch, trivial⟩ trivial) Tryz.func54 (by kernel_rfl) (by kernel_rfl) (by kernel_rfl)
    (by rw [show loopsOf (bodyOf Tryz.f54) = [] from by kernel_rfl]; exact trivial) (fun x => ef_S_Patch x.1 x.2.1)
noncomputable def pl_S_l1Most : Plan := ⟨[], [], 0, 0⟩
noncomputable def f_S_l1Most (t0 : PV (.int .i64)) (t1 : PV (.int .i64)) : Option (PVs [(.int .i64)] × PVs []) :=
  bif (decide (t0 > t1)) then
    some ((t0, ()), ())
  else
    some ((t1, ()), ())
noncomputable def ct_S_l1Most : Ct := ⟨[(.bor, (.int .i64)), (.bor, (.int .i64))], [((.int .i64), .b)], fun x => f_S_l1Most x.1 x.2.1⟩
noncomputable def cx_S_l1Most : Cx := ⟨tab, arrs, [], [], gl, []⟩
theorem ef_S_l1Most (t0 : PV (.int .i64)) (t1 : PV (.int .i64)) : denF cx_S_l1Most 0 pl_S_l1Most Tryz.f144.ntmps (bodyOf Tryz.f144) Tryz.f144.results.toList [(.bor, (.int .i64)), (.bor, (.int .i64))] [((.int .i64), .b)] (t0, t1, ()) = f_S_l1Most t0 t1 := by kernel_rfl
theorem ok_S_l1Most : FnOk gl Tryz.prog 144 ct_S_l1Most :=
  fnOk (cx := cx_S_l1Most) (pl := pl_S_l1Most) (dp := 0) (ok0_of tabOk (by unfold ArrOk; kernel_rfl) mix trivial trivial) Tryz.func144 (by kernel_rfl) (by kernel_rfl) (by kernel_rfl)
    (by rw [show loopsOf (bodyOf Tryz.f144) = [] from by kernel_rfl]; exact trivial) (fun x => ef_S_l1Most x.1 x.2.1)
noncomputable def sh_S_l6Rows_3 : List Sh := mkSh 22 [(0, .val (.int .i64) .b), (5, .val S_impl_Row (.row (.pr .b (.pr .b .b)))), (8, .val S_string .b), (9, .val (.int .i64) .b), (10, .val (.int .i64) .b)]
noncomputable def o_S_l6Rows_3 : List Out := [⟨.exit 0, ⟨[], [5], []⟩, mkSh 22 [(5, .val S_impl_Row (.row (.pr .b (.pr .b .b))))]⟩]
noncomputable def b_S_l6Rows_3 (t0 : PV (.int .i64)) (t5 : PV S_impl_Row) (t8 : PV S_string) (t9 : PV (.int .i64)) (t10 : PV (.int .i64)) : Option ((PV (.int .i64) × PV S_impl_Row × PV S_string × PV (.int .i64) × PV (.int .i64) × Unit) ⊕ ((PV S_impl_Row × Unit))) :=
  bif (decide (t10 < t9)) then
    bif inB t10 t8.length then
      bif roomB (t5.length + [(t0, ((t8.getD t10.toNat []), ()))].length) then
        some (.inl (t0, (t5 ++ [(t0, ((t8.getD t10.toNat []), ()))]), t8, t9, (IntKind.wrap .i64 (t10 + 1)), ()))
      else
        none
    else
      none
  else
    some (.inr (t5, ()))
noncomputable def w_S_l6Rows_3 : PV (.int .i64) × PV S_impl_Row × PV S_string × PV (.int .i64) × PV (.int .i64) × Unit → Option ((PV S_impl_Row × Unit)) := fix fun d => b_S_l6Rows_3 d.1 d.2.1 d.2.2.1 d.2.2.2.1 d.2.2.2.2.1
noncomputable def lp_S_l6Rows_3 : Lp := ⟨⟨[], [0, 5, 8, 9, 10], []⟩, sh_S_l6Rows_3, o_S_l6Rows_3, fun d => b_S_l6Rows_3 d.1 d.2.1 d.2.2.1 d.2.2.2.1 d.2.2.2.2.1⟩
noncomputable def pl_S_l6Rows : Plan := ⟨[], [(3, lp_S_l6Rows_3)], 0, 0⟩
noncomputable def f_S_l6Rows (t0 : PV (.int .i64)) (t1 : PV S_string) : Option (PVs [S_impl_Row] × PVs []) :=
  (w_S_l6Rows_3 (t0, [], t1, (t1.length : Int), 0, ())).bind fun l2 =>
    some ((l2.1, ()), ())
noncomputable def ct_S_l6Rows : Ct := ⟨[(.bor, (.int .i64)), (.bor, S_string)], [(S_impl_Row, (.row (.pr .b (.pr .b .b))))], fun x => f_S_l6Rows x.1 x.2.1⟩
noncomputable def cx_S_l6Rows : Cx := ⟨tab, arrs, [], [], gl, []⟩
theorem eb_S_l6Rows_3 (t0 : PV (.int .i64)) (t5 : PV S_impl_Row) (t8 : PV S_string) (t9 : PV (.int .i64)) (t10 : PV (.int .i64)) : denK cx_S_l6Rows (rcN cx_S_l6Rows 0) pl_S_l6Rows 0 ((loopsOf (bodyOf Tryz.f145)).getD 0 .skip) (fillS sh_S_l6Rows_3 (t0, t5, t8, t9, t10, ())) (roundK 0 lp_S_l6Rows_3) = b_S_l6Rows_3 t0 t5 t8 t9 t10 := by kernel_rfl
theorem ef_S_l6Rows (t0 : PV (.int .i64)) (t1 : PV S_string) : denF cx_S_l6Rows 0 pl_S_l6Rows Tryz.f145.ntmps (bodyOf Tryz.f145) Tryz.f145.results.toList [(.bor, (.int .i64)), (.bor, S_string)] [(S_impl_Row, (.row (.pr .b (.pr .b .b))))] (t0, t1, ()) = f_S_l6Rows t0 t1 := by kernel_rfl
theorem ok_S_l6Rows : FnOk gl Tryz.prog 145 ct_S_l6Rows :=
  fnOk (cx := cx_S_l6Rows) (pl := pl_S_l6Rows) (dp := 0) (ok0_of tabOk (by unfold ArrOk; kernel_rfl) mix trivial trivial) Tryz.func145 (by kernel_rfl) (by kernel_rfl) (by kernel_rfl)
    (by rw [show loopsOf (bodyOf Tryz.f145) = [((loopsOf (bodyOf Tryz.f145)).getD 0 .skip)] from by kernel_rfl]; exact ⟨(by rw [show lookup pl_S_l6Rows.loops (firstId ((loopsOf (bodyOf Tryz.f145)).getD 0 .skip)) = some lp_S_l6Rows_3 from by kernel_rfl]; exact fun d z h => (eb_S_l6Rows_3 d.1 d.2.1 d.2.2.1 d.2.2.2.1 d.2.2.2.2.1).trans h), trivial⟩) (fun x => ef_S_l6Rows x.1 x.2.1)
noncomputable def sh_S_l6One_6 : List Sh := mkSh 98 [(0, .val S_string .b), (2, .val (.int .i64) .b), (8, .var Y_impl_Group (.pr .b (.pr .b (.pr (.row (.pr .b (.pr .b .b))) .b)))), (10, .var Y_impl_Hunk .b), (11, .var Y_impl_Group (.pr .b (.pr .b (.pr (.row (.pr .b (.pr .b .b))) .b)))), (12, .val (.int .i64) .b), (35, .val S_impl_Hunk .b), (36, .val (.int .i64) .b), (37, .val (.int .i64) .b)]
noncomputable def o_S_l6One_6 : List Out := [⟨.exit 0, ⟨[], [0, 2, 8, 10, 11, 12], []⟩, mkSh 98 [(0, .val S_string .b), (2, .val (.int .i64) .b), (8, .var Y_impl_Group (.pr .b (.pr .b (.pr (.row (.pr .b (.pr .b .b))) .b)))), (10, .var Y_impl_Hunk .b), (11, .var Y_impl_Group (.pr .b (.pr .b (.pr (.row (.pr .b (.pr .b .b))) .b)))), (12, .val (.int .i64) .b)]⟩]
noncomputable def b_S_l6One_6 (t0 : PV S_string) (t2 : PV (.int .i64)) (t8 : PV Y_impl_Group) (t10 : PV Y_impl_Hunk) (t11 : PV Y_impl_Group) (t12 : PV (.int .i64)) (t35 : PV S_impl_Hunk) (t36 : PV (.int .i64)) (t37 : PV (.int .i64)) : Option ((PV S_string × PV (.int .i64) × PV Y_impl_Group × PV Y_impl_Hunk × PV Y_impl_Group × PV (.int .i64) × PV S_impl_Hunk × PV (.int .i64) × PV (.int .i64) × Unit) ⊕ ((PV S_string × PV (.int .i64) × PV Y_impl_Group × PV Y_impl_Hunk × PV Y_impl_Group × PV (.int .i64) × Unit))) :=
  bif (decide (t37 < t36)) then
    bif inB t37 t35.length then
      bif cutB t12 ((t35.getD t37.toNat (dflt Y_impl_Hunk)).1) t0.length then
        (f_S_l6Rows 1 (cutL t12 ((t35.getD t37.toNat (dflt Y_impl_Hunk)).1) t0)).bind fun r10 =>
          bif roomB (t11.2.2.1.length + r10.1.1.length) then
            bif cutB ((t35.getD t37.toNat (dflt Y_impl_Hunk)).1) (IntKind.wrap .i64 (((t35.getD t37.toNat (dflt Y_impl_Hunk)).1) + (((t35.getD t37.toNat (dflt Y_impl_Hunk)).2).1))) t0.length then
              (f_S_l6Rows 2 (cutL ((t35.getD t37.toNat (dflt Y_impl_Hunk)).1) (IntKind.wrap .i64 (((t35.getD t37.toNat (dflt Y_impl_Hunk)).1) + (((t35.getD t37.toNat (dflt Y_impl_Hunk)).2).1))) t0)).bind fun r12 =>
                bif roomB ((t11.2.2.1 ++ r10.1.1).length + r12.1.1.length) then
                  (f_S_l6Rows 3 ((((t35.getD t37.toNat (dflt Y_impl_Hunk)).2).2).1)).bind fun r14 =>
                    bif roomB (((t11.2.2.1 ++ r10.1.1) ++ r12.1.1).length + r14.1.1.length) then
                      some (.inl (t0, t2, t8, t10, (t11.1, (t11.2.1, ((((t11.2.2.1 ++ r10.1.1) ++ r12.1.1) ++ r14.1.1), t11.2.2.2))), (IntKind.wrap .i64 (((t35.getD t37.toNat (dflt Y_impl_Hunk)).1) + (((t35.getD t37.toNat (dflt Y_impl_Hunk)).2).1))), t35, t36, (IntKind.wrap .i64 (t37 + 1)), ()))
                    else
                      none
                else
                  none
            else
              none
          else
            none
      else
        none
    else
      none
  else
    some (.inr (t0, t2, t8, t10, t11, t12, ()))
noncomputable def w_S_l6One_6 : PV S_string × PV (.int .i64) × PV Y_impl_Group × PV Y_impl_Hunk × PV Y_impl_Group × PV (.int .i64) × PV S_impl_Hunk × PV (.int .i64) × PV (.int .i64) × Unit → Option ((PV S_string × PV (.int .i64) × PV Y_impl_Group × PV Y_impl_Hunk × PV Y_impl_Group × PV (.int .i64) × Unit)) := fix fun d => b_S_l6One_6 d.1 d.2.1 d.2.2.1 d.2.2.2.1 d.2.2.2.2.1 d.2.2.2.2.2.1 d.2.2.2.2.2.2.1 d.2.2.2.2.2.2.2.1 d.2.2.2.2.2.2.2.2.1
noncomputable def lp_S_l6One_6 : Lp := ⟨⟨[], [0, 2, 8, 10, 11, 12, 35, 36, 37], []⟩, sh_S_l6One_6, o_S_l6One_6, fun d => b_S_l6One_6 d.1 d.2.1 d.2.2.1 d.2.2.2.1 d.2.2.2.2.1 d.2.2.2.2.2.1 d.2.2.2.2.2.2.1 d.2.2.2.2.2.2.2.1 d.2.2.2.2.2.2.2.2.1⟩
noncomputable def pl_S_l6One : Plan := ⟨[], [(6, lp_S_l6One_6)], 0, 0⟩
noncomputable def f_S_l6One (t0 : PV S_string) (t1 : PV S_impl_Hunk) (t2 : PV (.int .i64)) (t3 : PV (.int .i64)) : Option (PVs [Y_impl_Group] × PVs []) :=
  bif inB 0 t1.length then
    (f_S_l1Most 0 (IntKind.wrap .i64 (((t1.getD ((0 : Int).toNat) (dflt Y_impl_Hunk)).1) - t2))).bind fun r2 =>
      bif inB (IntKind.wrap .i64 ((t1.length : Int) - 1)) t1.length then
        (w_S_l6One_6 (t0, t2, (0, (0, (([] : PV S_impl_Row), ()))), (t1.getD ((IntKind.wrap .i64 ((t1.length : Int) - 1)).toNat) (dflt Y_impl_Hunk)), (r2.1.1, ((IntKind.wrap .i64 (r2.1.1 + t3)), (([] : PV S_impl_Row), ()))), r2.1.1, t1, (t1.length : Int), 0, ())).bind fun l16 =>
          (f_S_l1Least (l16.1.length : Int) (IntKind.wrap .i64 ((IntKind.wrap .i64 (l16.2.2.2.1.1 + l16.2.2.2.1.2.1)) + l16.2.1))).bind fun r18 =>
            bif cutB l16.2.2.2.2.2.1 r18.1.1 l16.1.length then
              (f_S_l6Rows 1 (cutL l16.2.2.2.2.2.1 r18.1.1 l16.1)).bind fun r20 =>
                bif roomB (l16.2.2.2.2.1.2.2.1.length + r20.1.1.length) then
                  some (((l16.2.2.2.2.1.1, (l16.2.2.2.2.1.2.1, ((l16.2.2.2.2.1.2.2.1 ++ r20.1.1), l16.2.2.2.2.1.2.2.2))), ()), ())
                else
                  none
            else
              none
      else
        none
  else
    none
noncomputable def ct_S_l6One : Ct := ⟨[(.bor, S_string), (.bor, S_impl_Hunk), (.bor, (.int .i64)), (.bor, (.int .i64))], [(Y_impl_Group, (.pr .b (.pr .b (.pr (.row (.pr .b (.pr .b .b))) .b))))], fun x => f_S_l6One x.1 x.2.1 x.2.2.1 x.2.2.2.1⟩
noncomputable def cx_S_l6One : Cx := ⟨tab, arrs, [(115, ct_S_l1Least), (144, ct_S_l1Most), (145, ct_S_l6Rows)], [], gl, []⟩
theorem eb_S_l6One_6 (t0 : PV S_string) (t2 : PV (.int .i64)) (t8 : PV Y_impl_Group) (t10 : PV Y_impl_Hunk) (t11 : PV Y_impl_Group) (t12 : PV (.int .i64)) (t35 : PV S_impl_Hunk) (t36 : PV (.int .i64)) (t37 : PV (.int .i64)) : denK cx_S_l6One (rcN cx_S_l6One 0) pl_S_l6One 0 ((loopsOf (bodyOf Tryz.f123)).getD 0 .skip) (fillS sh_S_l6One_6 (t0, t2, t8, t10, t11, t12, t35, t36, t37, ())) (roundK 0 lp_S_l6One_6) = b_S_l6One_6 t0 t2 t8 t10 t11 t12 t35 t36 t37 := by kernel_rfl
theorem ef_S_l6One (t0 : PV S_string) (t1 : PV S_impl_Hunk) (t2 : PV (.int .i64)) (t3 : PV (.int .i64)) : denF cx_S_l6One 0 pl_S_l6One Tryz.f123.ntmps (bodyOf Tryz.f123) Tryz.f123.results.toList [(.bor, S_string), (.bor, S_impl_Hunk), (.bor, (.int .i64)), (.bor, (.int .i64))] [(Y_impl_Group, (.pr .b (.pr .b (.pr (.row (.pr .b (.pr .b .b))) .b))))] (t0, t1, t2, t3, ()) = f_S_l6One t0 t1 t2 t3 := by kernel_rfl
theorem ok_S_l6One : FnOk gl Tryz.prog 123 ct_S_l6One :=
  fnOk (cx := cx_S_l6One) (pl := pl_S_l6One) (dp := 0) (ok0_of tabOk (by unfold ArrOk; kernel_rfl) mix ⟨ok_S_l1Least, ok_S_l1Most, ok_S_l6Rows, trivial⟩ trivial) Tryz.func123 (by kernel_rfl) (by kernel_rfl) (by kernel_rfl)
    (by rw [show loopsOf (bodyOf Tryz.f123) = [((loopsOf (bodyOf Tryz.f123)).getD 0 .skip)] from by kernel_rfl]; exact ⟨(by rw [show lookup pl_S_l6One.loops (firstId ((loopsOf (bodyOf Tryz.f123)).getD 0 .skip)) = some lp_S_l6One_6 from by kernel_rfl]; exact fun d z h => (eb_S_l6One_6 d.1 d.2.1 d.2.2.1 d.2.2.2.1 d.2.2.2.2.1 d.2.2.2.2.2.1 d.2.2.2.2.2.2.1 d.2.2.2.2.2.2.2.1 d.2.2.2.2.2.2.2.2.1).trans h), trivial⟩) (fun x => ef_S_l6One x.1 x.2.1 x.2.2.1 x.2.2.2.1)
noncomputable def sh_S_l6Groups_6 : List Sh := mkSh 80 [(0, .val S_string .b), (1, .val S_impl_Hunk .b), (2, .val (.int .i64) .b), (7, .val S_impl_Group (.row (.pr .b (.pr .b (.pr (.row (.pr .b (.pr .b .b))) .b))))), (8, .val (.int .i64) .b), (9, .val (.int .i64) .b), (10, .val (.int .i64) .b)]
noncomputable def o_S_l6Groups_6 : List Out := [⟨.exit 2, ⟨[], [0, 1, 2, 7, 8, 9, 10], []⟩, mkSh 80 [(0, .val S_string .b), (1, .val S_impl_Hunk .b), (2, .val (.int .i64) .b), (7, .val S_impl_Group (.row (.pr .b (.pr .b (.pr (.row (.pr .b (.pr .b .b))) .b))))), (8, .val (.int .i64) .b), (9, .val (.int .i64) .b), (10, .val (.int .i64) .b)]⟩]
noncomputable def b_S_l6Groups_6 (t0 : PV S_string) (t1 : PV S_impl_Hunk) (t2 : PV (.int .i64)) (t7 : PV S_impl_Group) (t8 : PV (.int .i64)) (t9 : PV (.int .i64)) (t10 : PV (.int .i64)) : Option ((PV S_string × PV S_impl_Hunk × PV (.int .i64) × PV S_impl_Group × PV (.int .i64) × PV (.int .i64) × PV (.int .i64) × Unit) ⊕ ((PV S_string × PV S_impl_Hunk × PV (.int .i64) × PV S_impl_Group × PV (.int .i64) × PV (.int .i64) × PV (.int .i64) × Unit))) :=
  bif (decide (t10 < (t1.length : Int))) then
    bif inB t10 t1.length then
      bif inB (IntKind.wrap .i64 (t10 - 1)) t1.length then
        bif inB (IntKind.wrap .i64 (t10 - 1)) t1.length then
          bif (decide ((IntKind.wrap .i64 (((t1.getD t10.toNat (dflt Y_impl_Hunk)).1) - (IntKind.wrap .i64 (((t1.getD ((IntKind.wrap .i64 (t10 - 1)).toNat) (dflt Y_impl_Hunk)).1) + (((t1.getD ((IntKind.wrap .i64 (t10 - 1)).toNat) (dflt Y_impl_Hunk)).2).1))))) ≤ (IntKind.wrap .i64 (2 * t2)))) then
            some (.inl (t0, t1, t2, t7, t8, t9, (IntKind.wrap .i64 (t10 + 1)), ()))
          else
            some (.inr (t0, t1, t2, t7, t8, t9, t10, ()))
        else
          none
      else
        none
    else
      none
  else
    some (.inr (t0, t1, t2, t7, t8, t9, t10, ()))
noncomputable def w_S_l6Groups_6 : PV S_string × PV S_impl_Hunk × PV (.int .i64) × PV S_impl_Group × PV (.int .i64) × PV (.int .i64) × PV (.int .i64) × Unit → Option ((PV S_string × PV S_impl_Hunk × PV (.int .i64) × PV S_impl_Group × PV (.int .i64) × PV (.int .i64) × PV (.int .i64) × Unit)) := fix fun d => b_S_l6Groups_6 d.1 d.2.1 d.2.2.1 d.2.2.2.1 d.2.2.2.2.1 d.2.2.2.2.2.1 d.2.2.2.2.2.2.1
noncomputable def lp_S_l6Groups_6 : Lp := ⟨⟨[], [0, 1, 2, 7, 8, 9, 10], []⟩, sh_S_l6Groups_6, o_S_l6Groups_6, fun d => b_S_l6Groups_6 d.1 d.2.1 d.2.2.1 d.2.2.2.1 d.2.2.2.2.1 d.2.2.2.2.2.1 d.2.2.2.2.2.2.1⟩
noncomputable def sh_S_l6Groups_10 : List Sh := mkSh 80 [(0, .val S_string .b), (1, .val S_impl_Hunk .b), (2, .val (.int .i64) .b), (7, .val S_impl_Group (.row (.pr .b (.pr .b (.pr (.row (.pr .b (.pr .b .b))) .b))))), (8, .val (.int .i64) .b), (10, .val (.int .i64) .b), (63, .val S_impl_Hunk .b), (64, .val (.int .i64) .b), (65, .val (.int .i64) .b)]
noncomputable def o_S_l6Groups_10 : List Out := [⟨.exit 4, ⟨[], [0, 1, 2, 7, 8, 10, 24, 25, 26, 27, 28, 29, 30, 31, 32, 33, 34, 35, 36, 37, 38, 39, 40, 41, 42, 43, 44, 45], []⟩, mkSh 80 [(0, .val S_string .b), (1, .val S_impl_Hunk .b), (2, .val (.int .i64) .b), (7, .val S_impl_Group (.row (.pr .b (.pr .b (.pr (.row (.pr .b (.pr .b .b))) .b))))), (8, .val (.int .i64) .b), (10, .val (.int .i64) .b)]⟩]
noncomputable def b_S_l6Groups_10 (t0 : PV S_string) (t1 : PV S_impl_Hunk) (t2 : PV (.int .i64)) (t7 : PV S_impl_Group) (t8 : PV (.int .i64)) (t10 : PV (.int .i64)) (t63 : PV S_impl_Hunk) (t64 : PV (.int .i64)) (t65 : PV (.int .i64)) : Option ((PV S_string × PV S_impl_Hunk × PV (.int .i64) × PV S_impl_Group × PV (.int .i64) × PV (.int .i64) × PV S_impl_Hunk × PV (.int .i64) × PV (.int .i64) × Unit) ⊕ ((PV S_string × PV S_impl_Hunk × PV (.int .i64) × PV S_impl_Group × PV (.int .i64) × PV (.int .i64) × Unit))) :=
  bif (decide (t65 < t64)) then
    bif inB t65 t63.length then
      some (.inl (t0, t1, t2, t7, (IntKind.wrap .i64 (t8 + (IntKind.wrap .i64 ((((((t63.getD t65.toNat (dflt Y_impl_Hunk)).2).2).1).length : Int) - (((t63.getD t65.toNat (dflt Y_impl_Hunk)).2).1))))), t10, t63, t64, (IntKind.wrap .i64 (t65 + 1)), ()))
    else
      none
  else
    some (.inr (t0, t1, t2, t7, t8, t10, ()))
noncomputable def w_S_l6Groups_10 : PV S_string × PV S_impl_Hunk × PV (.int .i64) × PV S_impl_Group × PV (.int .i64) × PV (.int .i64) × PV S_impl_Hunk × PV (.int .i64) × PV (.int .i64) × Unit → Option ((PV S_string × PV S_impl_Hunk × PV (.int .i64) × PV S_impl_Group × PV (.int .i64) × PV (.int .i64) × Unit)) := fix fun d => b_S_l6Groups_10 d.1 d.2.1 d.2.2.1 d.2.2.2.1 d.2.2.2.2.1 d.2.2.2.2.2.1 d.2.2.2.2.2.2.1 d.2.2.2.2.2.2.2.1 d.2.2.2.2.2.2.2.2.1
noncomputable def lp_S_l6Groups_10 : Lp := ⟨⟨[], [0, 1, 2, 7, 8, 10, 24, 25, 26, 27, 28, 29, 30, 31, 32, 33, 34, 35, 36, 37, 38, 39, 40, 41, 42, 43, 44, 45, 63, 64, 65], []⟩, sh_S_l6Groups_10, o_S_l6Groups_10, fun d => b_S_l6Groups_10 d.1 d.2.1 d.2.2.1 d.2.2.2.1 d.2.2.2.2.1 d.2.2.2.2.2.1 d.2.2.2.2.2.2.1 d.2.2.2.2.2.2.2.1 d.2.2.2.2.2.2.2.2.1⟩
noncomputable def sh_S_l6Groups_4 : List Sh := mkSh 80 [(0, .val S_string .b), (1, .val S_impl_Hunk .b), (2, .val (.int .i64) .b), (7, .val S_impl_Group (.row (.pr .b (.pr .b (.pr (.row (.pr .b (.pr .b .b))) .b))))), (8, .val (.int .i64) .b), (9, .val (.int .i64) .b)]
noncomputable def o_S_l6Groups_4 : List Out := [⟨.exit 0, ⟨[], [7], []⟩, mkSh 80 [(7, .val S_impl_Group (.row (.pr .b (.pr .b (.pr (.row (.pr .b (.pr .b .b))) .b)))))]⟩]
noncomputable def b_S_l6Groups_4 (t0 : PV S_string) (t1 : PV S_impl_Hunk) (t2 : PV (.int .i64)) (t7 : PV S_impl_Group) (t8 : PV (.int .i64)) (t9 : PV (.int .i64)) : Option ((PV S_string × PV S_impl_Hunk × PV (.int .i64) × PV S_impl_Group × PV (.int .i64) × PV (.int .i64) × Unit) ⊕ ((PV S_impl_Group × Unit))) :=
  bif (decide (t9 < (t1.length : Int))) then
    (w_S_l6Groups_6 (t0, t1, t2, t7, t8, t9, (IntKind.wrap .i64 (t9 + 1)), ())).bind fun l2 =>
      bif cutB l2.2.2.2.2.2.1 l2.2.2.2.2.2.2.1 l2.2.1.length then
        (f_S_l6One l2.1 (cutL l2.2.2.2.2.2.1 l2.2.2.2.2.2.2.1 l2.2.1) l2.2.2.1 l2.2.2.2.2.1).bind fun r4 =>
          bif roomB (l2.2.2.2.1.length + [r4.1.1].length) then
            bif cutB l2.2.2.2.2.2.1 l2.2.2.2.2.2.2.1 l2.2.1.length then
              (w_S_l6Groups_10 (l2.1, l2.2.1, l2.2.2.1, (l2.2.2.2.1 ++ [r4.1.1]), l2.2.2.2.2.1, l2.2.2.2.2.2.2.1, (cutL l2.2.2.2.2.2.1 l2.2.2.2.2.2.2.1 l2.2.1), ((cutL l2.2.2.2.2.2.1 l2.2.2.2.2.2.2.1 l2.2.1).length : Int), 0, ())).bind fun l6 =>
                some (.inl (l6.1, l6.2.1, l6.2.2.1, l6.2.2.2.1, l6.2.2.2.2.1, l6.2.2.2.2.2.1, ()))
            else
              none
          else
            none
      else
        none
  else
    some (.inr (t7, ()))
noncomputable def w_S_l6Groups_4 : PV S_string × PV S_impl_Hunk × PV (.int .i64) × PV S_impl_Group × PV (.int .i64) × PV (.int .i64) × Unit → Option ((PV S_impl_Group × Unit)) := fix fun d => b_S_l6Groups_4 d.1 d.2.1 d.2.2.1 d.2.2.2.1 d.2.2.2.2.1 d.2.2.2.2.2.1
noncomputable def lp_S_l6Groups_4 : Lp := ⟨⟨[], [0, 1, 2, 7, 8, 9, 24, 25, 26, 27, 28, 29, 30, 31, 32, 33, 34, 35, 36, 37, 38, 39, 40, 41, 42, 43, 44, 45], []⟩, sh_S_l6Groups_4, o_S_l6Groups_4, fun d => b_S_l6Groups_4 d.1 d.2.1 d.2.2.1 d.2.2.2.1 d.2.2.2.2.1 d.2.2.2.2.2.1⟩
noncomputable def pl_S_l6Groups : Plan := ⟨[], [(6, lp_S_l6Groups_6), (10, lp_S_l6Groups_10), (4, lp_S_l6Groups_4)], 0, 0⟩
noncomputable def f_S_l6Groups (t0 : PV S_string) (t1 : PV S_impl_Hunk) (t2 : PV (.int .i64)) : Option (PVs [S_impl_Group] × PVs []) :=
  (w_S_l6Groups_4 (t0, t1, t2, [], 0, 0, ())).bind fun l8 =>
    some ((l8.1, ()), ())
noncomputable def ct_S_l6Groups : Ct := ⟨[(.bor, S_string), (.bor, S_impl_Hunk), (.bor, (.int .i64))], [(S_impl_Group, (.row (.pr .b (.pr .b (.pr (.row (.pr .b (.pr .b .b))) .b)))))], fun x => f_S_l6Groups x.1 x.2.1 x.2.2.1⟩
noncomputable def cx_S_l6Groups : Cx := ⟨tab, arrs, [(123, ct_S_l6One)], [], gl, []⟩
theorem eb_S_l6Groups_4 (t0 : PV S_string) (t1 : PV S_impl_Hunk) (t2 : PV (.int .i64)) (t7 : PV S_impl_Group) (t8 : PV (.int .i64)) (t9 : PV (.int .i64)) : denK cx_S_l6Groups (rcN cx_S_l6Groups 0) pl_S_l6Groups 0 ((loopsOf (bodyOf Tryz.f86)).getD 0 .skip) (fillS sh_S_l6Groups_4 (t0, t1, t2, t7, t8, t9, ())) (roundK 0 lp_S_l6Groups_4) = b_S_l6Groups_4 t0 t1 t2 t7 t8 t9 := by kernel_rfl
theorem eb_S_l6Groups_6 (t0 : PV S_string) (t1 : PV S_impl_Hunk) (t2 : PV (.int .i64)) (t7 : PV S_impl_Group) (t8 : PV (.int .i64)) (t9 : PV (.int .i64)) (t10 : PV (.int .i64)) : denK cx_S_l6Groups (rcN cx_S_l6Groups 0) pl_S_l6Groups 0 ((loopsOf (bodyOf Tryz.f86)).getD 1 .skip) (fillS sh_S_l6Groups_6 (t0, t1, t2, t7, t8, t9, t10, ())) (roundK 0 lp_S_l6Groups_6) = b_S_l6Groups_6 t0 t1 t2 t7 t8 t9 t10 := by kernel_rfl
theorem eb_S_l6Groups_10 (t0 : PV S_string) (t1 : PV S_impl_Hunk) (t2 : PV (.int .i64)) (t7 : PV S_impl_Group) (t8 : PV (.int .i64)) (t10 : PV (.int .i64)) (t63 : PV S_impl_Hunk) (t64 : PV (.int .i64)) (t65 : PV (.int .i64)) : denK cx_S_l6Groups (rcN cx_S_l6Groups 0) pl_S_l6Groups 0 ((loopsOf (bodyOf Tryz.f86)).getD 2 .skip) (fillS sh_S_l6Groups_10 (t0, t1, t2, t7, t8, t10, t63, t64, t65, ())) (roundK 0 lp_S_l6Groups_10) = b_S_l6Groups_10 t0 t1 t2 t7 t8 t10 t63 t64 t65 := by kernel_rfl
theorem ef_S_l6Groups (t0 : PV S_string) (t1 : PV S_impl_Hunk) (t2 : PV (.int .i64)) : denF cx_S_l6Groups 0 pl_S_l6Groups Tryz.f86.ntmps (bodyOf Tryz.f86) Tryz.f86.results.toList [(.bor, S_string), (.bor, S_impl_Hunk), (.bor, (.int .i64))] [(S_impl_Group, (.row (.pr .b (.pr .b (.pr (.row (.pr .b (.pr .b .b))) .b)))))] (t0, t1, t2, ()) = f_S_l6Groups t0 t1 t2 := by kernel_rfl
theorem ok_S_l6Groups : FnOk gl Tryz.prog 86 ct_S_l6Groups :=
  fnOk (cx := cx_S_l6Groups) (pl := pl_S_l6Groups) (dp := 0) (ok0_of tabOk (by unfold ArrOk; kernel_rfl) mix ⟨ok_S_l6One, trivial⟩ trivial) Tryz.func86 (by kernel_rfl) (by kernel_rfl) (by kernel_rfl)
    (by rw [show loopsOf (bodyOf Tryz.f86) = [((loopsOf (bodyOf Tryz.f86)).getD 0 .skip), ((loopsOf (bodyOf Tryz.f86)).getD 1 .skip), ((loopsOf (bodyOf Tryz.f86)).getD 2 .skip)] from by kernel_rfl]; exact ⟨(by rw [show lookup pl_S_l6Groups.loops (firstId ((loopsOf (bodyOf Tryz.f86)).getD 0 .skip)) = some lp_S_l6Groups_4 from by kernel_rfl]; exact fun d z h => (eb_S_l6Groups_4 d.1 d.2.1 d.2.2.1 d.2.2.2.1 d.2.2.2.2.1 d.2.2.2.2.2.1).trans h), (by rw [show lookup pl_S_l6Groups.loops (firstId ((loopsOf (bodyOf Tryz.f86)).getD 1 .skip)) = some lp_S_l6Groups_6 from by kernel_rfl]; exact fun d z h => (eb_S_l6Groups_6 d.1 d.2.1 d.2.2.1 d.2.2.2.1 d.2.2.2.2.1 d.2.2.2.2.2.1 d.2.2.2.2.2.2.1).trans h), (by rw [show lookup pl_S_l6Groups.loops (firstId ((loopsOf (bodyOf Tryz.f86)).getD 2 .skip)) = some lp_S_l6Groups_10 from by kernel_rfl]; exact fun d z h => (eb_S_l6Groups_10 d.1 d.2.1 d.2.2.1 d.2.2.2.1 d.2.2.2.2.1 d.2.2.2.2.2.1 d.2.2.2.2.2.2.1 d.2.2.2.2.2.2.2.1 d.2.2.2.2.2.2.2.2.1).trans h), trivial⟩) (fun x => ef_S_l6Groups x.1 x.2.1 x.2.2.1)
noncomputable def o_S_GroupsOf_3 : List Out := [⟨.normal, ⟨[], [0, 1, 2, 22], []⟩, mkSh 27 [(0, .val S_string .b), (1, .val S_impl_Hunk .b), (2, .val (.int .i64) .b), (22, .val .bool .b)]⟩]
noncomputable def pl_S_GroupsOf : Plan := ⟨[(3, o_S_GroupsOf_3)], [], 0, 0⟩
noncomputable def f_S_GroupsOf (t0 : PV S_string) (t1 : PV S_impl_Hunk) (t2 : PV (.int .i64)) : Option (PVs [S_impl_Group, .bool] × PVs []) :=
  (f_S_Patch t0 t1).bind fun r7 =>
    ((
        bif (!r7.1.2.1) then
          some (t0, t1, t2, true, ())
        else
          (f_S_l1In t2 0 20).bind fun r8 =>
            some (t0, t1, t2, (!r8.1.1), ()) : Option ((PV S_string × PV S_impl_Hunk × PV (.int .i64) × PV .bool × Unit)))).bind fun j9 =>
      bif j9.2.2.2.1 then
        some (([], false, ()), ())
      else
        (f_S_l6Groups j9.1 j9.2.1 j9.2.2.1).bind fun r10 =>
          some ((r10.1.1, true, ()), ())
noncomputable def ct_S_GroupsOf : Ct := ⟨[(.bor, S_string), (.bor, S_impl_Hunk), (.bor, (.int .i64))], [(S_impl_Group, (.row (.pr .b (.pr .b (.pr (.row (.pr .b (.pr .b .b))) .b))))), (.bool, .b)], fun x => f_S_GroupsOf x.1 x.2.1 x.2.2.1⟩
noncomputable def cx_S_GroupsOf : Cx := ⟨tab, arrs, [(54, ct_S_Patch), (85, ct_S_l1In), (86, ct_S_l6Groups)], [], gl, []⟩
theorem ef_S_GroupsOf (t0 : PV S_string) (t1 : PV S_impl_Hunk) (t2 : PV (.int .i64)) : denF cx_S_GroupsOf 0 pl_S_GroupsOf Tryz.f47.ntmps (bodyOf Tryz.f47) Tryz.f47.results.toList [(.bor, S_string), (.bor, S_impl_Hunk), (.bor, (.int .i64))] [(S_impl_Group, (.row (.pr .b (.pr .b (.pr (.row (.pr .b (.pr .b .b))) .b))))), (.bool, .b)] (t0, t1, t2, ()) = f_S_GroupsOf t0 t1 t2 := by kernel_rfl
theorem ok_S_GroupsOf : FnOk gl Tryz.prog 47 ct_S_GroupsOf :=
  fnOk (cx := cx_S_GroupsOf) (pl := pl_S_GroupsOf) (dp := 0) (ok0_of tabOk (by unfold ArrOk; kernel_rfl) mix ⟨ok_S_Patch, ok_S_l1In, ok_S_l6Groups, trivial⟩ trivial) Tryz.func47 (by kernel_rfl) (by kernel_rfl) (by kernel_rfl)
    (by rw [show loopsOf (bodyOf Tryz.f47) = [] from by kernel_rfl]; exact trivial) (fun x => ef_S_GroupsOf x.1 x.2.1 x.2.2.1)
noncomputable def pl_S_l1Cur_of : Plan := ⟨[], [], 0, 1⟩
noncomputable def f_S_l1Cur_of (t0 : PV Y_spec_l1Cur) (t1 : PV S_string) : Option (PVs [.str] × PVs [Y_spec_l1Cur]) :=
  (f_S_l1Cur_pick t0 (t1.length : Int)).bind fun r1 =>
    bif inB r1.1.1 t1.length then
      some (((t1.getD r1.1.1.toNat []), ()), (r1.2.1, ()))
    else
      none
noncomputable def ct_S_l1Cur_of : Ct := ⟨[(.ptr, Y_spec_l1Cur), (.bor, S_string)], [(.str, .b)], fun x => f_S_l1Cur_of x.1 x.2.1⟩
noncomputable def cx_S_l1Cur_of : Cx := ⟨tab, arrs, [(35, ct_S_l1Cur_pick)], [], gl, []⟩
theorem ef_S_l1Cur_of (t0 : PV Y_spec_l1Cur) (t1 : PV S_string) : denF cx_S_l1Cur_of 0 pl_S_l1Cur_of Tryz.f37.ntmps (bodyOf Tryz.f37) Tryz.f37.results.toList [(.ptr, Y_spec_l1Cur), (.bor, S_string)] [(.str, .b)] (t0, t1, ()) = f_S_l1Cur_of t0 t1 := by kernel_rfl
theorem ok_S_l1Cur_of : FnOk gl Tryz.prog 37 ct_S_l1Cur_of :=
  fnOk (cx := cx_S_l1Cur_of) (pl := pl_S_l1Cur_of) (dp := 0) (ok0_of tabOk (by unfold ArrOk; kernel_rfl) mix ⟨ok_S_l1Cur_pick, trivial⟩ trivial) Tryz.func37 (by kernel_rfl) (by kernel_rfl) (by kernel_rfl)
    (by rw [show loopsOf (bodyOf Tryz.f37) = [] from by kernel_rfl]; exact trivial) (fun x => ef_S_l1Cur_of x.1 x.2.1)
noncomputable def pl_S_l1OwnT : Plan := ⟨[], [], 0, 0⟩
noncomputable def f_S_l1OwnT (t0 : PV S_string) : Option (PVs [S_string] × PVs []) :=
  bif roomB (([] : PV S_string).length + t0.length) then
    some (((([] : PV S_string) ++ t0), ()), ())
  else
    none
noncomputable def ct_S_l1OwnT : Ct := ⟨[(.bor, S_string)], [(S_string, (.row .b))], fun x => f_S_l1OwnT x.1⟩
noncomputable def cx_S_l1OwnT : Cx := ⟨tab, arrs, [], [], gl, []⟩
theorem ef_S_l1OwnT (t0 : PV S_string) : denF cx_S_l1OwnT 0 pl_S_l1OwnT Tryz.f117.ntmps (bodyOf Tryz.f117) Tryz.f117.results.toList [(.bor, S_string)] [(S_string, (.row .b))] (t0, ()) = f_S_l1OwnT t0 := by kernel_rfl
theorem ok_S_l1OwnT : FnOk gl Tryz.prog 117 ct_S_l1OwnT :=
  fnOk (cx := cx_S_l1OwnT) (pl := pl_S_l1OwnT) (dp := 0) (ok0_of tabOk (by unfold ArrOk; kernel_rfl) mix trivial trivial) Tryz.func117 (by kernel_rfl) (by kernel_rfl) (by kernel_rfl)
    (by rw [show loopsOf (bodyOf Tryz.f117) = [] from by kernel_rfl]; exact trivial) (fun x => ef_S_l1OwnT x.1)
noncomputable def pl_S_l1Plain : Plan := ⟨[], [], 0, 0⟩
noncomputable def f_S_l1Plain (t0 : PV .str) : Option (PVs [.str] × PVs []) :=
  (f_S_l1Ends t0).bind fun r4 =>
    bif r4.1.1 then
      bif cutB 0 (IntKind.wrap .i64 ((t0.length : Int) - 1)) t0.length then
        some (((cutL 0 (IntKind.wrap .i64 ((t0.length : Int) - 1)) t0), ()), ())
      else
        none
    else
      some ((t0, ()), ())
noncomputable def ct_S_l1Plain : Ct := ⟨[(.bor, .str)], [(.str, .b)], fun x => f_S_l1Plain x.1⟩
noncomputable def cx_S_l1Plain : Cx := ⟨tab, arrs, [(44, ct_S_l1Ends)], [], gl, []⟩
theorem ef_S_l1Plain (t0 : PV .str) : denF cx_S_l1Plain 0 pl_S_l1Plain Tryz.f40.ntmps (bodyOf Tryz.f40) Tryz.f40.results.toList [(.bor, .str)] [(.str, .b)] (t0, ()) = f_S_l1Plain t0 := by kernel_rfl
theorem ok_S_l1Plain : FnOk gl Tryz.prog 40 ct_S_l1Plain :=
  fnOk (cx := cx_S_l1Plain) (pl := pl_S_l1Plain) (dp := 0) (ok0_of tabOk (by unfold ArrOk; kernel_rfl) mix ⟨ok_S_l1Ends, trivial⟩ trivial) Tryz.func40 (by kernel_rfl) (by kernel_rfl) (by kernel_rfl)
    (by rw [show loopsOf (bodyOf Tryz.f40) = [] from by kernel_rfl]; exact trivial) (fun x => ef_S_l1Plain x.1)
noncomputable def o_S_l1Cur_other_14 : List Out := [⟨.normal, ⟨[], [0, 5, 6, 7, 29, 30, 72, 83, 84], []⟩, mkSh 120 [(0, .var Y_spec_l1Cur .b), (1, .addr ⟨0, [], 0, 0⟩), (6, .val S_string (.row .b)), (7, .val (.int .i64) .b), (8, .val (.int .i64) .b), (73, .val .bool .b)]⟩]
noncomputable def o_S_l1Cur_other_8 : List Out := [⟨.normal, ⟨[], [0, 5, 6, 7, 31, 67, 68, 69, 70, 71, 83, 84], []⟩, mkSh 120 [(0, .var Y_spec_l1Cur .b), (1, .addr ⟨0, [], 0, 0⟩), (6, .val S_string (.row .b)), (7, .val (.int .i64) .b), (8, .val (.int .i64) .b), (32, .val .bool .b)]⟩]
noncomputable def o_S_l1Cur_other_4 : List Out := [⟨.normal, ⟨[], [0, 5, 6, 29, 30, 67, 68, 69, 70, 71, 83, 84], []⟩, mkSh 120 [(0, .var Y_spec_l1Cur .b), (1, .addr ⟨0, [], 0, 0⟩), (6, .val S_string (.row .b)), (7, .val (.int .i64) .b)]⟩]
noncomputable def o_S_l1Cur_other_16 : List Out := [⟨.normal, ⟨[], [5, 85], []⟩, mkSh 120 [(0, .var Y_spec_l1Cur .b), (6, .val S_string (.row .b)), (86, .val .bool .b)]⟩]
noncomputable def o_S_l1Cur_other_21 : List Out := [⟨.normal, ⟨[], [5], []⟩, mkSh 120 [(0, .var Y_spec_l1Cur .b), (6, .val S_string (.row .b))]⟩]
noncomputable def sh_S_l1Cur_other_3 : List Sh := mkSh 120 [(0, .var Y_spec_l1Cur .b), (1, .addr ⟨0, [], 0, 0⟩), (6, .val S_string (.row .b)), (7, .val (.int .i64) .b)]
noncomputable def o_S_l1Cur_other_3 : List Out := [⟨.exit 0, ⟨[], [0, 5, 83, 84], []⟩, mkSh 120 [(0, .var Y_spec_l1Cur .b), (1, .addr ⟨0, [], 0, 0⟩), (6, .val S_string (.row .b))]⟩]
noncomputable def b_S_l1Cur_other_3 (t0 : PV Y_spec_l1Cur) (t6 : PV S_string) (t7 : PV (.int .i64)) : Option ((PV Y_spec_l1Cur × PV S_string × PV (.int .i64) × Unit) ⊕ ((PV Y_spec_l1Cur × PV S_string × Unit))) :=
  bif (decide (t7 > 0)) then
    ((
        (f_S_l1Cur_pick t0 (IntKind.wrap .i64 ((t6.length : Int) + 1))).bind fun r6 =>
          (f_S_l1Cur_pick r6.2.1 3).bind fun r8 =>
            bif (r8.1.1 == 0) then
              bif (decide (r6.1.1 < (t6.length : Int))) then
                bif cutB 0 r6.1.1 t6.length then
                  (f_S_l1OwnT (cutL 0 r6.1.1 t6)).bind fun r9 =>
                    bif cutB (IntKind.wrap .i64 (r6.1.1 + 1)) (t6.length : Int) t6.length then
                      bif roomB (r9.1.1.length + (cutL (IntKind.wrap .i64 (r6.1.1 + 1)) (t6.length : Int) t6).length) then
                        some (r8.2.1, (r9.1.1 ++ (cutL (IntKind.wrap .i64 (r6.1.1 + 1)) (t6.length : Int) t6)), t7, ())
                      else
                        none
                    else
                      none
                else
                  none
              else
                some (r8.2.1, t6, t7, ())
            else
              bif (r8.1.1 == 1) then
                ((
                    bif (decide (r6.1.1 < (t6.length : Int))) then
                      bif inB r6.1.1 t6.length then
                        (f_S_l1Ends (t6.getD r6.1.1.toNat [])).bind fun r10 =>
                          some (r8.2.1, t6, t7, r6.1.1, r10.1.1, ())
                      else
                        none
                    else
                      some (r8.2.1, t6, t7, r6.1.1, false, ()) : Option ((PV Y_spec_l1Cur × PV S_string × PV (.int .i64) × PV (.int .i64) × PV .bool × Unit)))).bind fun j11 =>
                  bif j11.2.2.2.2.1 then
                    (f_S_l1Cur_line j11.1).bind fun r12 =>
                      bif decide (r12.1.1.length + [10].length ≤ 1099511627776) then
                        bif inB j11.2.2.2.1 j11.2.1.length then
                          some (r12.2.1, (j11.2.1.set j11.2.2.2.1.toNat (r12.1.1 ++ [10])), j11.2.2.1, ())
                        else
                          none
                      else
                        none
                  else
                    some (j11.1, j11.2.1, j11.2.2.1, ())
              else
                ((
                    bif (decide (r6.1.1 < (t6.length : Int))) then
                      some (r8.2.1, t6, t7, r6.1.1, true, ())
                    else
                      (f_S_l1Whole t6).bind fun r13 =>
                        some (r8.2.1, t6, t7, r6.1.1, r13.1.1, ()) : Option ((PV Y_spec_l1Cur × PV S_string × PV (.int .i64) × PV (.int .i64) × PV .bool × Unit)))).bind fun j14 =>
                  bif j14.2.2.2.2.1 then
                    bif cutB 0 j14.2.2.2.1 j14.2.1.length then
                      (f_S_l1OwnT (cutL 0 j14.2.2.2.1 j14.2.1)).bind fun r15 =>
                        (f_S_l1Cur_line j14.1).bind fun r16 =>
                          bif decide (r16.1.1.length + [10].length ≤ 1099511627776) then
                            bif roomB (r15.1.1.length + [(r16.1.1 ++ [10])].length) then
                              bif cutB j14.2.2.2.1 (j14.2.1.length : Int) j14.2.1.length then
                                bif roomB ((r15.1.1 ++ [(r16.1.1 ++ [10])]).length + (cutL j14.2.2.2.1 (j14.2.1.length : Int) j14.2.1).length) then
                                  some (r16.2.1, ((r15.1.1 ++ [(r16.1.1 ++ [10])]) ++ (cutL j14.2.2.2.1 (j14.2.1.length : Int) j14.2.1)), j14.2.2.1, ())
                                else
                                  none
                              else
                                none
                            else
                              none
                          else
                            none
                    else
                      none
                  else
                    some (j14.1, j14.2.1, j14.2.2.1, ()) : Option ((PV Y_spec_l1Cur × PV S_string × PV (.int .i64) × Unit)))).bind fun j17 =>
      some (.inl (j17.1, j17.2.1, (IntKind.wrap .i64 (j17.2.2.1 - 1)), ()))
  else
    some (.inr (t0, t6, ()))
noncomputable def w_S_l1Cur_other_3 : PV Y_spec_l1Cur × PV S_string × PV (.int .i64) × Unit → Option ((PV Y_spec_l1Cur × PV S_string × Unit)) := fix fun d => b_S_l1Cur_other_3 d.1 d.2.1 d.2.2.1
noncomputable def lp_S_l1Cur_other_3 : Lp := ⟨⟨[], [0, 5, 6, 29, 30, 67, 68, 69, 70, 71, 83, 84], []⟩, sh_S_l1Cur_other_3, o_S_l1Cur_other_3, fun d => b_S_l1Cur_other_3 d.1 d.2.1 d.2.2.1⟩
noncomputable def pl_S_l1Cur_other : Plan := ⟨[(14, o_S_l1Cur_other_14), (8, o_S_l1Cur_other_8), (4, o_S_l1Cur_other_4), (16, o_S_l1Cur_other_16), (21, o_S_l1Cur_other_21)], [(3, lp_S_l1Cur_other_3)], 0, 1⟩
noncomputable def f_S_l1Cur_other (t0 : PV Y_spec_l1Cur) (t1 : PV S_string) : Option (PVs [S_string] × PVs [Y_spec_l1Cur]) :=
  (f_S_l1OwnT t1).bind fun r2 =>
    (f_S_l1Cur_pick t0 4).bind fun r20 =>
      (w_S_l1Cur_other_3 (r20.2.1, r2.1.1, r20.1.1, ())).bind fun l21 =>
        ((
            ((
                bif (decide ((l21.2.1.length : Int) > 0)) then
                  (f_S_l1Cur_one l21.1 6).bind fun r29 =>
                    some (r29.2.1, l21.2.1, r29.1.1, ())
                else
                  some (l21.1, l21.2.1, false, ()) : Option ((PV Y_spec_l1Cur × PV S_string × PV .bool × Unit)))).bind fun j30 =>
              bif j30.2.2.1 then
                bif inB (IntKind.wrap .i64 ((j30.2.1.length : Int) - 1)) j30.2.1.length then
                  (f_S_l1Plain (j30.2.1.getD ((IntKind.wrap .i64 ((j30.2.1.length : Int) - 1)).toNat) [])).bind fun r32 =>
                    bif inB (IntKind.wrap .i64 ((j30.2.1.length : Int) - 1)) j30.2.1.length then
                      (f_S_l1Ends (j30.2.1.getD ((IntKind.wrap .i64 ((j30.2.1.length : Int) - 1)).toNat) [])).bind fun r34 =>
                        bif (!r34.1.1) then
                          bif decide (r32.1.1.length + [10].length ≤ 1099511627776) then
                            bif inB (IntKind.wrap .i64 ((j30.2.1.length : Int) - 1)) j30.2.1.length then
                              some (j30.1, (j30.2.1.set ((IntKind.wrap .i64 ((j30.2.1.length : Int) - 1)).toNat) (r32.1.1 ++ [10])), ())
                            else
                              none
                          else
                            none
                        else
                          bif (!(r32.1.1 == [])) then
                            bif inB (IntKind.wrap .i64 ((j30.2.1.length : Int) - 1)) j30.2.1.length then
                              some (j30.1, (j30.2.1.set ((IntKind.wrap .i64 ((j30.2.1.length : Int) - 1)).toNat) r32.1.1), ())
                            else
                              none
                          else
                            some (j30.1, j30.2.1, ())
                    else
                      none
                else
                  none
              else
                some (j30.1, j30.2.1, ()) : Option ((PV Y_spec_l1Cur × PV S_string × Unit)))).bind fun j35 =>
          some ((j35.2.1, ()), (j35.1, ()))
noncomputable def ct_S_l1Cur_other : Ct := ⟨[(.ptr, Y_spec_l1Cur), (.bor, S_string)], [(S_string, .b)], fun x => f_S_l1Cur_other x.1 x.2.1⟩
noncomputable def cx_S_l1Cur_other : Cx := ⟨tab, arrs, [(35, ct_S_l1Cur_pick), (40, ct_S_l1Plain), (44, ct_S_l1Ends), (73, ct_S_l1Cur_one), (114, ct_S_l1Cur_line), (116, ct_S_l1Whole), (117, ct_S_l1OwnT)], [], gl, []⟩
theorem eb_S_l1Cur_other_3 (t0 : PV Y_spec_l1Cur) (t6 : PV S_string) (t7 : PV (.int .i64)) : denK cx_S_l1Cur_other (rcN cx_S_l1Cur_other 0) pl_S_l1Cur_other 1 ((loopsOf (bodyOf Tryz.f74)).getD 0 .skip) (fillS sh_S_l1Cur_other_3 (t0, t6, t7, ())) (roundK 1 lp_S_l1Cur_other_3) = b_S_l1Cur_other_3 t0 t6 t7 := by kernel_rfl
theorem ef_S_l1Cur_other (t0 : PV Y_spec_l1Cur) (t1 : PV S_string) : denF cx_S_l1Cur_other 0 pl_S_l1Cur_other Tryz.f74.ntmps (bodyOf Tryz.f74) Tryz.f74.results.toList [(.ptr, Y_spec_l1Cur), (.bor, S_string)] [(S_string, .b)] (t0, t1, ()) = f_S_l1Cur_other t0 t1 := by kernel_rfl
theorem ok_S_l1Cur_other : FnOk gl Tryz.prog 74 ct_S_l1Cur_other :=
  fnOk (cx := cx_S_l1Cur_other) (pl := pl_S_l1Cur_other) (dp := 0) (ok0_of tabOk (by unfold ArrOk; kernel_rfl) mix ⟨ok_S_l1Cur_pick, ok_S_l1Plain, ok_S_l1Ends, ok_S_l1Cur_one, ok_S_l1Cur_line, ok_S_l1Whole, ok_S_l1OwnT, trivial⟩ trivial) Tryz.func74 (by kernel_rfl) (by kernel_rfl) (by kernel_rfl)
    (by rw [show loopsOf (bodyOf Tryz.f74) = [((loopsOf (bodyOf Tryz.f74)).getD 0 .skip)] from by kernel_rfl]; exact ⟨(by rw [show lookup pl_S_l1Cur_other.loops (firstId ((loopsOf (bodyOf Tryz.f74)).getD 0 .skip)) = some lp_S_l1Cur_other_3 from by kernel_rfl]; exact fun d z h => (eb_S_l1Cur_other_3 d.1 d.2.1 d.2.2.1).trans h), trivial⟩) (fun x => ef_S_l1Cur_other x.1 x.2.1)
noncomputable def o_S_l1Cur_groups_17 : List Out := [⟨.normal, ⟨[], [0, 4, 5], []⟩, mkSh 102 [(0, .var Y_spec_l1Cur .b), (1, .addr ⟨0, [], 0, 0⟩), (5, .val S_string .b), (6, .val S_impl_Group (.row (.pr .b (.pr .b (.pr (.row (.pr .b (.pr .b .b))) .b)))))]⟩]
noncomputable def o_S_l1Cur_groups_19 : List Out := [⟨.normal, ⟨[], [4, 5], []⟩, mkSh 102 [(0, .var Y_spec_l1Cur .b), (5, .val S_string .b), (6, .val S_impl_Group (.row (.pr .b (.pr .b (.pr (.row (.pr .b (.pr .b .b))) .b)))))]⟩]
noncomputable def pl_S_l1Cur_groups_72 : Plan := ⟨[], [], 0, 102⟩
noncomputable def pl_S_l1Cur_groups : Plan := ⟨[(17, o_S_l1Cur_groups_17), (19, o_S_l1Cur_groups_19)], [], 1, 1⟩
noncomputable def f_S_l1Cur_groups (t0 : PV Y_spec_l1Cur) : Option (PVs [S_string, S_impl_Group] × PVs [Y_spec_l1Cur]) :=
  (f_S_l1Cur_text t0).bind fun r2 =>
    (f_S_l1Cur_hunks r2.2.1 r2.1.1).bind fun r6 =>
      (f_S_l1Cur_pick r6.2.1 ([0, 1, 2, 3].length : Int)).bind fun r7 =>
        bif inB r7.1.1 [0, 1, 2, 3].length then
          (f_S_GroupsOf r2.1.1 r6.1.1 ([0, 1, 2, 3].getD r7.1.1.toNat (0 : Int))).bind fun r8 =>
            ((
                bif (decide ((r8.1.1.length : Int) > 0)) then
                  (f_S_l1Cur_pick r7.2.1 (r8.1.1.length : Int)).bind fun r18 =>
                    bif inB r18.1.1 r8.1.1.length then
                      (f_S_l1Cur_pick r18.2.1 (((((r8.1.1.getD r18.1.1.toNat (dflt Y_impl_Group)).2).2).1).length : Int)).bind fun r20 =>
                        (f_S_l1Cur_pick r20.2.1 15).bind fun r22 =>
                          bif (r22.1.1 == 0) then
                            bif inB r18.1.1 r8.1.1.length then
                              bif inB r18.1.1 r8.1.1.length then
                                some (r22.2.1, r2.1.1, (r8.1.1.set r18.1.1.toNat ((IntKind.wrap .i64 (((r8.1.1.getD r18.1.1.toNat (dflt Y_impl_Group)).1) + 1)), (r8.1.1.getD r18.1.1.toNat (dflt Y_impl_Group)).2)), ())
                              else
                                none
                            else
                              none
                          else
                            bif (r22.1.1 == 1) then
                              bif inB r18.1.1 r8.1.1.length then
                                bif inB r18.1.1 r8.1.1.length then
                                  some (r22.2.1, r2.1.1, (r8.1.1.set r18.1.1.toNat ((r8.1.1.getD r18.1.1.toNat (dflt Y_impl_Group)).1, ((IntKind.wrap .i64 ((((r8.1.1.getD r18.1.1.toNat (dflt Y_impl_Group)).2).1) + 1)), ((r8.1.1.getD r18.1.1.toNat (dflt Y_impl_Group)).2).2))), ())
                                else
                                  none
                              else
                                none
                            else
                              bif (r22.1.1 == 2) then
                                bif inB r18.1.1 r8.1.1.length then
                                  (f_S_l1Cur_pick r22.2.1 5).bind fun r23 =>
                                    bif inB r20.1.1 ((((r8.1.1.getD r18.1.1.toNat (dflt Y_impl_Group)).2).2).1).length then
                                      some (r23.2.1, r2.1.1, (r8.1.1.set r18.1.1.toNat ((r8.1.1.getD r18.1.1.toNat (dflt Y_impl_Group)).1, (((r8.1.1.getD r18.1.1.toNat (dflt Y_impl_Group)).2).1, ((((((r8.1.1.getD r18.1.1.toNat (dflt Y_impl_Group)).2).2).1).set r20.1.1.toNat (r23.1.1, (((((r8.1.1.getD r18.1.1.toNat (dflt Y_impl_Group)).2).2).1).getD r20.1.1.toNat (dflt Y_impl_Row)).2)), (((r8.1.1.getD r18.1.1.toNat (dflt Y_impl_Group)).2).2).2)))), ())
                                    else
                                      none
                                else
                                  none
                              else
                                bif (r22.1.1 == 3) then
                                  bif inB r18.1.1 r8.1.1.length then
                                    (f_S_l1Cur_of r22.2.1 [[], [122, 10], [122]]).bind fun r24 =>
                                      bif inB r20.1.1 ((((r8.1.1.getD r18.1.1.toNat (dflt Y_impl_Group)).2).2).1).length then
                                        some (r24.2.1, r2.1.1, (r8.1.1.set r18.1.1.toNat ((r8.1.1.getD r18.1.1.toNat (dflt Y_impl_Group)).1, (((r8.1.1.getD r18.1.1.toNat (dflt Y_impl_Group)).2).1, ((((((r8.1.1.getD r18.1.1.toNat (dflt Y_impl_Group)).2).2).1).set r20.1.1.toNat ((((((r8.1.1.getD r18.1.1.toNat (dflt Y_impl_Group)).2).2).1).getD r20.1.1.toNat (dflt Y_impl_Row)).1, (r24.1.1, ((((((r8.1.1.getD r18.1.1.toNat (dflt Y_impl_Group)).2).2).1).getD r20.1.1.toNat (dflt Y_impl_Row)).2).2))), (((r8.1.1.getD r18.1.1.toNat (dflt Y_impl_Group)).2).2).2)))), ())
                                      else
                                        none
                                  else
                                    none
                                else
                                  bif (r22.1.1 == 4) then
                                    bif inB r18.1.1 r8.1.1.length then
                                      bif inB r18.1.1 r8.1.1.length then
                                        some (r22.2.1, r2.1.1, (r8.1.1.set r18.1.1.toNat ((IntKind.wrap .i64 (((r8.1.1.getD r18.1.1.toNat (dflt Y_impl_Group)).1) + 30)), (r8.1.1.getD r18.1.1.toNat (dflt Y_impl_Group)).2)), ())
                                      else
                                        none
                                    else
                                      none
                                  else
                                    some (r22.2.1, r2.1.1, r8.1.1, ())
                    else
                      none
                else
                  some (r7.2.1, r2.1.1, r8.1.1, ()) : Option ((PV Y_spec_l1Cur × PV S_string × PV S_impl_Group × Unit)))).bind fun j25 =>
              ((
                  (f_S_l1Cur_one j25.1 4).bind fun r30 =>
                    bif r30.1.1 then
                      (f_S_l1Cur_other r30.2.1 j25.2.1).bind fun r31 =>
                        some (r31.2.1, r31.1.1, j25.2.2.1, ())
                    else
                      some (r30.2.1, j25.2.1, j25.2.2.1, ()) : Option ((PV Y_spec_l1Cur × PV S_string × PV S_impl_Group × Unit)))).bind fun j32 =>
                some ((j32.2.1, j32.2.2.1, ()), (j32.1, ()))
        else
          none
noncomputable def ct_S_l1Cur_groups : Ct := ⟨[(.ptr, Y_spec_l1Cur)], [(S_string, .b), (S_impl_Group, (.row (.pr .b (.pr .b (.pr (.row (.pr .b (.pr .b .b))) .b)))))], fun x => f_S_l1Cur_groups x.1⟩
noncomputable def cx_S_l1Cur_groups : Cx := ⟨tab, arrs, [(35, ct_S_l1Cur_pick), (37, ct_S_l1Cur_of), (47, ct_S_GroupsOf), (70, ct_S_l1Cur_text), (71, ct_S_l1Cur_hunks), (73, ct_S_l1Cur_one), (74, ct_S_l1Cur_other)], [(72, Tryz.f72, pl_S_l1Cur_groups_72)], gl, []⟩
theorem ef_S_l1Cur_groups (t0 : PV Y_spec_l1Cur) : denF cx_S_l1Cur_groups 1 pl_S_l1Cur_groups Tryz.f34.ntmps (bodyOf Tryz.f34) Tryz.f34.results.toList [(.ptr, Y_spec_l1Cur)] [(S_string, .b), (S_impl_Group, (.row (.pr .b (.pr .b (.pr (.row (.pr .b (.pr .b .b))) .b)))))] (t0, ()) = f_S_l1Cur_groups t0 := by kernel_rfl
theorem ok_S_l1Cur_groups : FnOk gl Tryz.prog 34 ct_S_l1Cur_groups :=
  fnOk (cx := cx_S_l1Cur_groups) (pl := pl_S_l1Cur_groups) (dp := 1) (ok0_of tabOk (by unfold ArrOk; kernel_rfl) mix ⟨ok_S_l1Cur_pick, ok_S_l1Cur_of, ok_S_GroupsOf, ok_S_l1Cur_text, ok_S_l1Cur_hunks, ok_S_l1Cur_one, ok_S_l1Cur_other, trivial⟩ ⟨⟨Tryz.func72, by kernel_rfl, (by rw [show loopsOf (bodyOf Tryz.f72) = [] from by kernel_rfl]; exact trivial)⟩, trivial⟩) Tryz.func34 (by kernel_rfl) (by kernel_rfl) (by kernel_rfl)
    (by rw [show loopsOf (bodyOf Tryz.f34) = [] from by kernel_rfl]; exact trivial) (fun x => ef_S_l1Cur_groups x.1)
noncomputable def pl_S_DrawGoodGroups : Plan := ⟨[], [], 0, 0⟩
noncomputable def f_S_DrawGoodGroups (t0 : PV S_uint8) : Option (PVs [S_impl_Group] × PVs []) :=
  (f_S_l1Cur_groups (t0, (0, (0, ())))).bind fun r2 =>
    some ((r2.1.2.1, ()), ())
noncomputable def ct_S_DrawGoodGroups : Ct := ⟨[(.bor, S_uint8)], [(S_impl_Group, (.row (.pr .b (.pr .b (.pr (.row (.pr .b (.pr .b .b))) .b)))))], fun x => f_S_DrawGoodGroups x.1⟩
noncomputable def cx_S_DrawGoodGroups : Cx := ⟨tab, arrs, [(34, ct_S_l1Cur_groups)], [], gl, []⟩
theorem ef_S_DrawGoodGroups (t0 : PV S_uint8) : denF cx_S_DrawGoodGroups 0 pl_S_DrawGoodGroups Tryz.f25.ntmps (bodyOf Tryz.f25) Tryz.f25.results.toList [(.bor, S_uint8)] [(S_impl_Group, (.row (.pr .b (.pr .b (.pr (.row (.pr .b (.pr .b .b))) .b)))))] (t0, ()) = f_S_DrawGoodGroups t0 := by kernel_rfl
theorem ok_S_DrawGoodGroups : FnOk gl Tryz.prog 25 ct_S_DrawGoodGroups :=
  fnOk (cx := cx_S_DrawGoodGroups) (pl := pl_S_DrawGoodGroups) (dp := 0) (ok0_of tabOk (by unfold ArrOk; kernel_rfl) mix ⟨ok_S_l1Cur_groups, trivial⟩ trivial) Tryz.func25 (by kernel_rfl) (by kernel_rfl) (by kernel_rfl)
    (by rw [show loopsOf (bodyOf Tryz.f25) = [] from by kernel_rfl]; exact trivial) (fun x => ef_S_DrawGoodGroups x.1)
noncomputable def pl_S_DrawGroupsText : Plan := ⟨[], [], 0, 0⟩
noncomputable def f_S_DrawGroupsText (t0 : PV S_uint8) : Option (PVs [S_impl_Group] × PVs []) :=
  (f_S_DrawGoodGroups t0).bind fun r1 =>
    some ((r1.1.1, ()), ())
noncomputable def ct_S_DrawGroupsText : Ct := ⟨[(.bor, S_uint8)], [(S_impl_Group, (.row (.pr .b (.pr .b (.pr (.row (.pr .b (.pr .b .b))) .b)))))], fun x => f_S_DrawGroupsText x.1⟩
noncomputable def cx_S_DrawGroupsText : Cx := ⟨tab, arrs, [(25, ct_S_DrawGoodGroups)], [], gl, []⟩
theorem ef_S_DrawGroupsText (t0 : PV S_uint8) : denF cx_S_DrawGroupsText 0 pl_S_DrawGroupsText Tryz.f6.ntmps (bodyOf Tryz.f6) Tryz.f6.results.toList [(.bor, S_uint8)] [(S_impl_Group, (.row (.pr .b (.pr .b (.pr (.row (.pr .b (.pr .b .b))) .b)))))] (t0, ()) = f_S_DrawGroupsText t0 := by kernel_rfl
theorem ok_S_DrawGroupsText : FnOk gl Tryz.prog 6 ct_S_DrawGroupsText :=
  fnOk (cx := cx_S_DrawGroupsText) (pl := pl_S_DrawGroupsText) (dp := 0) (ok0_of tabOk (by unfold ArrOk; kernel_rfl) mix ⟨ok_S_DrawGoodGroups, trivial⟩ trivial) Tryz.func6 (by kernel_rfl) (by kernel_rfl) (by kernel_rfl)
    (by rw [show loopsOf (bodyOf Tryz.f6) = [] from by kernel_rfl]; exact trivial) (fun x => ef_S_DrawGroupsText x.1)
noncomputable def pl_I_in : Plan := ⟨[], [], 0, 0⟩
noncomputable def f_I_in (t0 : PV (.int .i64)) (t1 : PV (.int .i64)) (t2 : PV (.int .i64)) : Option (PVs [.bool] × PVs []) :=
  bif (decide (t0 ≥ t1)) then
    some (((decide (t0 ≤ t2)), ()), ())
  else
    some ((false, ()), ())
noncomputable def ct_I_in : Ct := ⟨[(.bor, (.int .i64)), (.bor, (.int .i64)), (.bor, (.int .i64))], [(.bool, .b)], fun x => f_I_in x.1 x.2.1 x.2.2.1⟩
noncomputable def cx_I_in : Cx := ⟨tab, arrs, [], [], gl, []⟩
theorem ef_I_in (t0 : PV (.int .i64)) (t1 : PV (.int .i64)) (t2 : PV (.int .i64)) : denF cx_I_in 0 pl_I_in Tryz.f93.ntmps (bodyOf Tryz.f93) Tryz.f93.results.toList [(.bor, (.int .i64)), (.bor, (.int .i64)), (.bor, (.int .i64))] [(.bool, .b)] (t0, t1, t2, ()) = f_I_in t0 t1 t2 := by kernel_rfl
theorem ok_I_in : FnOk gl Tryz.prog 93 ct_I_in :=
  fnOk (cx := cx_I_in) (pl := pl_I_in) (dp := 0) (ok0_of tabOk (by unfold ArrOk; kernel_rfl) mix trivial trivial) Tryz.func93 (by kernel_rfl) (by kernel_rfl) (by kernel_rfl)
    (by rw [show loopsOf (bodyOf Tryz.f93) = [] from by kernel_rfl]; exact trivial) (fun x => ef_I_in x.1 x.2.1 x.2.2.1)
noncomputable def pl_I_isLine : Plan := ⟨[], [], 0, 0⟩
noncomputable def f_I_isLine (t0 : PV .str) : Option (PVs [.bool] × PVs []) :=
  (f_I_in (t0.length : Int) 1 30).bind fun r1 =>
    bif r1.1.1 then
      bif cutB 0 (IntKind.wrap .i64 ((t0.length : Int) - 1)) t0.length then
        (f_strings_Contains (cutL 0 (IntKind.wrap .i64 ((t0.length : Int) - 1)) t0) [10]).bind fun r2 =>
          some (((!r2.1.1), ()), ())
      else
        none
    else
      some ((false, ()), ())
noncomputable def ct_I_isLine : Ct := ⟨[(.bor, .str)], [(.bool, .b)], fun x => f_I_isLine x.1⟩
noncomputable def cx_I_isLine : Cx := ⟨tab, arrs, [(93, ct_I_in), (131, ct_strings_Contains)], [], gl, []⟩
theorem ef_I_isLine (t0 : PV .str) : denF cx_I_isLine 0 pl_I_isLine Tryz.f99.ntmps (bodyOf Tryz.f99) Tryz.f99.results.toList [(.bor, .str)] [(.bool, .b)] (t0, ()) = f_I_isLine t0 := by kernel_rfl
theorem ok_I_isLine : FnOk gl Tryz.prog 99 ct_I_isLine :=
  fnOk (cx := cx_I_isLine) (pl := pl_I_isLine) (dp := 0) (ok0_of tabOk (by unfold ArrOk; kernel_rfl) mix ⟨ok_I_in, ok_strings_Contains, trivial⟩ trivial) Tryz.func99 (by kernel_rfl) (by kernel_rfl) (by kernel_rfl)
    (by rw [show loopsOf (bodyOf Tryz.f99) = [] from by kernel_rfl]; exact trivial) (fun x => ef_I_isLine x.1)
noncomputable def o_I_sideOf_7 : List Out := [⟨.normal, ⟨[], [1, 5, 9, 10, 11], []⟩, mkSh 26 [(1, .val (.int .i64) .b), (5, .val S_string (.row .b)), (9, .val S_impl_Row .b), (10, .val (.int .i64) .b), (11, .val (.int .i64) .b)]⟩]
noncomputable def sh_I_sideOf_3 : List Sh := mkSh 26 [(1, .val (.int .i64) .b), (5, .val S_string (.row .b)), (9, .val S_impl_Row .b), (10, .val (.int .i64) .b), (11, .val (.int .i64) .b)]
noncomputable def o_I_sideOf_3 : List Out := [⟨.exit 0, ⟨[], [5], []⟩, mkSh 26 [(5, .val S_string (.row .b))]⟩]
noncomputable def b_I_sideOf_3 (t1 : PV (.int .i64)) (t5 : PV S_string) (t9 : PV S_impl_Row) (t10 : PV (.int .i64)) (t11 : PV (.int .i64)) : Option ((PV (.int .i64) × PV S_string × PV S_impl_Row × PV (.int .i64) × PV (.int .i64) × Unit) ⊕ ((PV S_string × Unit))) :=
  bif (decide (t11 < t10)) then
    ((
        bif inB t11 t9.length then
          bif (!(((t9.getD t11.toNat (dflt Y_impl_Row)).1) == t1)) then
            bif roomB (t5.length + [((t9.getD t11.toNat (dflt Y_impl_Row)).2).1].length) then
              some (t1, (t5 ++ [((t9.getD t11.toNat (dflt Y_impl_Row)).2).1]), t9, t10, t11, ())
            else
              none
          else
            some (t1, t5, t9, t10, t11, ())
        else
          none : Option ((PV (.int .i64) × PV S_string × PV S_impl_Row × PV (.int .i64) × PV (.int .i64) × Unit)))).bind fun j1 =>
      some (.inl (j1.1, j1.2.1, j1.2.2.1, j1.2.2.2.1, (IntKind.wrap .i64 (j1.2.2.2.2.1 + 1)), ()))
  else
    some (.inr (t5, ()))
noncomputable def w_I_sideOf_3 : PV (.int .i64) × PV S_string × PV S_impl_Row × PV (.int .i64) × PV (.int .i64) × Unit → Option ((PV S_string × Unit)) := fix fun d => b_I_sideOf_3 d.1 d.2.1 d.2.2.1 d.2.2.2.1 d.2.2.2.2.1
noncomputable def lp_I_sideOf_3 : Lp := ⟨⟨[], [1, 5, 9, 10, 11], []⟩, sh_I_sideOf_3, o_I_sideOf_3, fun d => b_I_sideOf_3 d.1 d.2.1 d.2.2.1 d.2.2.2.1 d.2.2.2.2.1⟩
noncomputable def pl_I_sideOf : Plan := ⟨[(7, o_I_sideOf_7)], [(3, lp_I_sideOf_3)], 0, 0⟩
noncomputable def f_I_sideOf (t0 : PV S_impl_Row) (t1 : PV (.int .i64)) : Option (PVs [S_string] × PVs []) :=
  (w_I_sideOf_3 (t1, ([] : PV S_string), t0, (t0.length : Int), 0, ())).bind fun l3 =>
    some ((l3.1, ()), ())
noncomputable def ct_I_sideOf : Ct := ⟨[(.bor, S_impl_Row), (.bor, (.int .i64))], [(S_string, (.row .b))], fun x => f_I_sideOf x.1 x.2.1⟩
noncomputable def cx_I_sideOf : Cx := ⟨tab, arrs, [], [], gl, []⟩
theorem eb_I_sideOf_3 (t1 : PV (.int .i64)) (t5 : PV S_string) (t9 : PV S_impl_Row) (t10 : PV (.int .i64)) (t11 : PV (.int .i64)) : denK cx_I_sideOf (rcN cx_I_sideOf 0) pl_I_sideOf 0 ((loopsOf (bodyOf Tryz.f100)).getD 0 .skip) (fillS sh_I_sideOf_3 (t1, t5, t9, t10, t11, ())) (roundK 0 lp_I_sideOf_3) = b_I_sideOf_3 t1 t5 t9 t10 t11 := by kernel_rfl
theorem ef_I_sideOf (t0 : PV S_impl_Row) (t1 : PV (.int .i64)) : denF cx_I_sideOf 0 pl_I_sideOf Tryz.f100.ntmps (bodyOf Tryz.f100) Tryz.f100.results.toList [(.bor, S_impl_Row), (.bor, (.int .i64))] [(S_string, (.row .b))] (t0, t1, ()) = f_I_sideOf t0 t1 := by kernel_rfl
theorem ok_I_sideOf : FnOk gl Tryz.prog 100 ct_I_sideOf :=
  fnOk (cx := cx_I_sideOf) (pl := pl_I_sideOf) (dp := 0) (ok0_of tabOk (by unfold ArrOk; kernel_rfl) mix trivial trivial) Tryz.func100 (by kernel_rfl) (by kernel_rfl) (by kernel_rfl)
    (by rw [show loopsOf (bodyOf Tryz.f100) = [((loopsOf (bodyOf Tryz.f100)).getD 0 .skip)] from by kernel_rfl]; exact ⟨(by rw [show lookup pl_I_sideOf.loops (firstId ((loopsOf (bodyOf Tryz.f100)).getD 0 .skip)) = some lp_I_sideOf_3 from by kernel_rfl]; exact fun d z h => (eb_I_sideOf_3 d.1 d.2.1 d.2.2.1 d.2.2.2.1 d.2.2.2.2.1).trans h), trivial⟩) (fun x => ef_I_sideOf x.1 x.2.1)
noncomputable def pl_I_Group_old : Plan := ⟨[], [], 0, 0⟩
noncomputable def f_I_Group_old (t0 : PV Y_impl_Group) : Option (PVs [S_string] × PVs []) :=
  (f_I_sideOf t0.2.2.1 3).bind fun r1 =>
    some ((r1.1.1, ()), ())
noncomputable def ct_I_Group_old : Ct := ⟨[(.bor, Y_impl_Group)], [(S_string, (.row .b))], fun x => f_I_Group_old x.1⟩
noncomputable def cx_I_Group_old : Cx := ⟨tab, arrs, [(100, ct_I_sideOf)], [], gl, []⟩
theorem ef_I_Group_old (t0 : PV Y_impl_Group) : denF cx_I_Group_old 0 pl_I_Group_old Tryz.f58.ntmps (bodyOf Tryz.f58) Tryz.f58.results.toList [(.bor, Y_impl_Group)] [(S_string, (.row .b))] (t0, ()) = f_I_Group_old t0 := by kernel_rfl
theorem ok_I_Group_old : FnOk gl Tryz.prog 58 ct_I_Group_old :=
  fnOk (cx := cx_I_Group_old) (pl := pl_I_Group_old) (dp := 0) (ok0_of tabOk (by unfold ArrOk; kernel_rfl) mix ⟨ok_I_sideOf, trivial⟩ trivial) Tryz.func58 (by kernel_rfl) (by kernel_rfl) (by kernel_rfl)
    (by rw [show loopsOf (bodyOf Tryz.f58) = [] from by kernel_rfl]; exact trivial) (fun x => ef_I_Group_old x.1)
noncomputable def pl_I_Group_fresh : Plan := ⟨[], [], 0, 0⟩
noncomputable def f_I_Group_fresh (t0 : PV Y_impl_Group) : Option (PVs [S_string] × PVs []) :=
  (f_I_sideOf t0.2.2.1 2).bind fun r1 =>
    some ((r1.1.1, ()), ())
noncomputable def ct_I_Group_fresh : Ct := ⟨[(.bor, Y_impl_Group)], [(S_string, (.row .b))], fun x => f_I_Group_fresh x.1⟩
noncomputable def cx_I_Group_fresh : Cx := ⟨tab, arrs, [(100, ct_I_sideOf)], [], gl, []⟩
theorem ef_I_Group_fresh (t0 : PV Y_impl_Group) : denF cx_I_Group_fresh 0 pl_I_Group_fresh Tryz.f59.ntmps (bodyOf Tryz.f59) Tryz.f59.results.toList [(.bor, Y_impl_Group)] [(S_string, (.row .b))] (t0, ()) = f_I_Group_fresh t0 := by kernel_rfl
theorem ok_I_Group_fresh : FnOk gl Tryz.prog 59 ct_I_Group_fresh :=
  fnOk (cx := cx_I_Group_fresh) (pl := pl_I_Group_fresh) (dp := 0) (ok0_of tabOk (by unfold ArrOk; kernel_rfl) mix ⟨ok_I_sideOf, trivial⟩ trivial) Tryz.func59 (by kernel_rfl) (by kernel_rfl) (by kernel_rfl)
    (by rw [show loopsOf (bodyOf Tryz.f59) = [] from by kernel_rfl]; exact trivial) (fun x => ef_I_Group_fresh x.1)
noncomputable def pl_I_areLines_1 : Plan := ⟨[], [], 0, 0⟩
noncomputable def f_I_areLines_1 (t0 : PV .str) : Option (PVs [.bool] × PVs []) :=
  (f_I_isLine t0).bind fun r1 =>
    some (((!r1.1.1), ()), ())
noncomputable def ct_I_areLines_1 : Ct := ⟨[(.bor, .str)], [(.bool, .b)], fun x => f_I_areLines_1 x.1⟩
noncomputable def cx_I_areLines_1 : Cx := ⟨tab, arrs, [(99, ct_I_isLine)], [], gl, []⟩
theorem ef_I_areLines_1 (t0 : PV .str) : denF cx_I_areLines_1 0 pl_I_areLines_1 Tryz.f126.ntmps (bodyOf Tryz.f126) Tryz.f126.results.toList [(.bor, .str)] [(.bool, .b)] (t0, ()) = f_I_areLines_1 t0 := by kernel_rfl
theorem ok_I_areLines_1 : FnOk gl Tryz.prog 126 ct_I_areLines_1 :=
  fnOk (cx := cx_I_areLines_1) (pl := pl_I_areLines_1) (dp := 0) (ok0_of tabOk (by unfold ArrOk; kernel_rfl) mix ⟨ok_I_isLine, trivial⟩ trivial) Tryz.func126 (by kernel_rfl) (by kernel_rfl) (by kernel_rfl)
    (by rw [show loopsOf (bodyOf Tryz.f126) = [] from by kernel_rfl]; exact trivial) (fun x => ef_I_areLines_1 x.1)
noncomputable def pl_I_areLines_125 : Plan := ⟨[], [], 1, 11⟩
noncomputable def sh_I_areLines_146_2 : List Sh := mkSh 39 [(0, .val S_string .b), (2, .val .bool .b), (3, .val S_string .b), (4, .val (.int .i64) .b), (5, .val .bool .b), (6, .val .bool .b), (7, .val S_string .b), (11, .val S_string .b), (12, .fn 126 []), (15, .val .bool .b), (16, .val S_string .b), (17, .fn 126 []), (20, .val S_string .b), (21, .fn 126 []), (27, .val (.int .i64) .b), (28, .val (.int .i64) .b)]
noncomputable def o_I_areLines_146_2 : List Out := [⟨.exit 0, ⟨[], [], []⟩, mkSh 39 [(0, .val S_string .b), (2, .val .bool .b), (3, .val S_string .b), (4, .val (.int .i64) .b), (5, .val .bool .b), (6, .val .bool .b), (7, .val S_string .b), (11, .val S_string .b), (12, .fn 126 []), (15, .val .bool .b), (16, .val S_string .b), (17, .fn 126 [])]⟩, ⟨.ret, ⟨[], [4], []⟩, mkSh 39 [(0, .val S_string .b), (2, .val .bool .b), (3, .val S_string .b), (4, .val (.int .i64) .b), (5, .val .bool .b), (6, .val .bool .b), (7, .val S_string .b), (11, .val S_string .b), (12, .fn 126 []), (15, .val .bool .b), (16, .val S_string .b), (17, .fn 126 []), (24, .val (.int .i64) .b)]⟩]
noncomputable def b_I_areLines_146_2 (t0 : PV S_string) (t2 : PV .bool) (t3 : PV S_string) (t4 : PV (.int .i64)) (t5 : PV .bool) (t6 : PV .bool) (t7 : PV S_string) (t11 : PV S_string) (t15 : PV .bool) (t16 : PV S_string) (t20 : PV S_string) (t27 : PV (.int .i64)) (t28 : PV (.int .i64)) : Option ((PV S_string × PV .bool × PV S_string × PV (.int .i64) × PV .bool × PV .bool × PV S_string × PV S_string × PV .bool × PV S_string × PV S_string × PV (.int .i64) × PV (.int .i64) × Unit) ⊕ ((PV S_string × PV .bool × PV S_string × PV (.int .i64) × PV .bool × PV .bool × PV S_string × PV S_string × PV .bool × PV S_string × Unit) ⊕ (PV S_string × PV .bool × PV S_string × PV (.int .i64) × PV .bool × PV .bool × PV S_string × PV S_string × PV .bool × PV S_string × PV (.int .i64) × Unit))) :=
  bif (decide (t28 < t27)) then
    bif inB t28 t20.length then
      (f_I_areLines_1 (t20.getD t28.toNat [])).bind fun r4 =>
        bif r4.1.1 then
          some (.inr (.inr (t0, t2, t3, t4, t5, t6, t7, t11, t15, t16, t28, ())))
        else
          some (.inl (t0, t2, t3, t4, t5, t6, t7, t11, t15, t16, t20, t27, (IntKind.wrap .i64 (t28 + 1)), ()))
    else
      none
  else
    some (.inr (.inl (t0, t2, t3, t4, t5, t6, t7, t11, t15, t16, ())))
noncomputable def w_I_areLines_146_2 : PV S_string × PV .bool × PV S_string × PV (.int .i64) × PV .bool × PV .bool × PV S_string × PV S_string × PV .bool × PV S_string × PV S_string × PV (.int .i64) × PV (.int .i64) × Unit → Option ((PV S_string × PV .bool × PV S_string × PV (.int .i64) × PV .bool × PV .bool × PV S_string × PV S_string × PV .bool × PV S_string × Unit) ⊕ (PV S_string × PV .bool × PV S_string × PV (.int .i64) × PV .bool × PV .bool × PV S_string × PV S_string × PV .bool × PV S_string × PV (.int .i64) × Unit)) := fix fun d => b_I_areLines_146_2 d.1 d.2.1 d.2.2.1 d.2.2.2.1 d.2.2.2.2.1 d.2.2.2.2.2.1 d.2.2.2.2.2.2.1 d.2.2.2.2.2.2.2.1 d.2.2.2.2.2.2.2.2.1 d.2.2.2.2.2.2.2.2.2.1 d.2.2.2.2.2.2.2.2.2.2.1 d.2.2.2.2.2.2.2.2.2.2.2.1 d.2.2.2.2.2.2.2.2.2.2.2.2.1
noncomputable def lp_I_areLines_146_2 : Lp := ⟨⟨[], [0, 1, 7, 8], []⟩, sh_I_areLines_146_2, o_I_areLines_146_2, fun d => b_I_areLines_146_2 d.1 d.2.1 d.2.2.1 d.2.2.2.1 d.2.2.2.2.1 d.2.2.2.2.2.1 d.2.2.2.2.2.2.1 d.2.2.2.2.2.2.2.1 d.2.2.2.2.2.2.2.2.1 d.2.2.2.2.2.2.2.2.2.1 d.2.2.2.2.2.2.2.2.2.2.1 d.2.2.2.2.2.2.2.2.2.2.2.1 d.2.2.2.2.2.2.2.2.2.2.2.2.1⟩
noncomputable def pl_I_areLines_146 : Plan := ⟨[], [(2, lp_I_areLines_146_2)], 0, 20⟩
noncomputable def pl_I_areLines : Plan := ⟨[], [], 2, 0⟩
noncomputable def f_I_areLines (t0 : PV S_string) : Option (PVs [.bool] × PVs []) :=
  bif (decide ((t0.length : Int) ≤ 40)) then
    (w_I_areLines_146_2 (t0, false, t0, (t0.length : Int), (decide ((t0.length : Int) ≤ 40)), true, t0, t0, false, t0, t0, (t0.length : Int), 0, ())).bind fun x9 =>
      match x9 with
      | .inl l7 =>
        bif l7.2.2.2.2.2.1 then
          some (((!(decide ((-1) ≥ 0))), ()), ())
        else
          some ((false, ()), ())
      | .inr l8 =>
        bif l8.2.2.2.2.2.1 then
          some (((!(decide (l8.2.2.2.2.2.2.2.2.2.2.1 ≥ 0))), ()), ())
        else
          some ((false, ()), ())
  else
    some ((false, ()), ())
noncomputable def ct_I_areLines : Ct := ⟨[(.bor, S_string)], [(.bool, .b)], fun x => f_I_areLines x.1⟩
noncomputable def cx_I_areLines : Cx := ⟨tab, arrs, [(126, ct_I_areLines_1)], [(125, Tryz.f125, pl_I_areLines_125), (146, Tryz.f146, pl_I_areLines_146)], gl, []⟩
theorem eb_I_areLines_146_2 (t0 : PV S_string) (t2 : PV .bool) (t3 : PV S_string) (t4 : PV (.int .i64)) (t5 : PV .bool) (t6 : PV .bool) (t7 : PV S_string) (t11 : PV S_string) (t15 : PV .bool) (t16 : PV S_string) (t20 : PV S_string) (t27 : PV (.int .i64)) (t28 : PV (.int .i64)) : denK cx_I_areLines (rcN cx_I_areLines 0) pl_I_areLines_146 20 ((loopsOf (bodyOf Tryz.f146)).getD 0 .skip) (fillS sh_I_areLines_146_2 (t0, t2, t3, t4, t5, t6, t7, t11, t15, t16, t20, t27, t28, ())) (roundK 20 lp_I_areLines_146_2) = b_I_areLines_146_2 t0 t2 t3 t4 t5 t6 t7 t11 t15 t16 t20 t27 t28 := by kernel_rfl
theorem ef_I_areLines (t0 : PV S_string) : denF cx_I_areLines 2 pl_I_areLines Tryz.f91.ntmps (bodyOf Tryz.f91) Tryz.f91.results.toList [(.bor, S_string)] [(.bool, .b)] (t0, ()) = f_I_areLines t0 := by kernel_rfl
theorem ok_I_areLines : FnOk gl Tryz.prog 91 ct_I_areLines :=
  fnOk (cx := cx_I_areLines) (pl := pl_I_areLines) (dp := 2) (ok0_of tabOk (by unfold ArrOk; kernel_rfl) mix ⟨ok_I_areLines_1, trivial⟩ ⟨⟨Tryz.func125, by kernel_rfl, (by rw [show loopsOf (bodyOf Tryz.f125) = [] from by kernel_rfl]; exact trivial)⟩, ⟨Tryz.func146, by kernel_rfl, (by rw [show loopsOf (bodyOf Tryz.f146) = [((loopsOf (bodyOf Tryz.f146)).getD 0 .skip)] from by kernel_rfl]; exact ⟨(by rw [show lookup pl_I_areLines_146.loops (firstId ((loopsOf (bodyOf Tryz.f146)).getD 0 .skip)) = some lp_I_areLines_146_2 from by kernel_rfl]; exact fun d z h => (eb_I_areLines_146_2 d.1 d.2.1 d.2.2.1 d.2.2.2.1 d.2.2.2.2.1 d.2.2.2.2.2.1 d.2.2.2.2.2.2.1 d.2.2.2.2.2.2.2.1 d.2.2.2.2.2.2.2.2.1 d.2.2.2.2.2.2.2.2.2.1 d.2.2.2.2.2.2.2.2.2.2.1 d.2.2.2.2.2.2.2.2.2.2.2.1 d.2.2.2.2.2.2.2.2.2.2.2.2.1).trans h), trivial⟩)⟩, trivial⟩) Tryz.func91 (by kernel_rfl) (by kernel_rfl) (by kernel_rfl)
    (by rw [show loopsOf (bodyOf Tryz.f91) = [] from by kernel_rfl]; exact trivial) (fun x => ef_I_areLines x.1)
noncomputable def pl_internal_stringslite_HasSuffix : Plan := ⟨[], [], 0, 0⟩
noncomputable def f_internal_stringslite_HasSuffix (t0 : PV .str) (t1 : PV .str) : Option (PVs [.bool] × PVs []) :=
  bif (decide ((t0.length : Int) ≥ (t1.length : Int))) then
    bif cutB (IntKind.wrap .i64 ((t0.length : Int) - (t1.length : Int))) (t0.length : Int) t0.length then
      some ((((cutL (IntKind.wrap .i64 ((t0.length : Int) - (t1.length : Int))) (t0.length : Int) t0) == t1), ()), ())
    else
      none
  else
    some ((false, ()), ())
noncomputable def ct_internal_stringslite_HasSuffix : Ct := ⟨[(.bor, .str), (.bor, .str)], [(.bool, .b)], fun x => f_internal_stringslite_HasSuffix x.1 x.2.1⟩
noncomputable def cx_internal_stringslite_HasSuffix : Cx := ⟨tab, arrs, [], [], gl, []⟩
theorem ef_internal_stringslite_HasSuffix (t0 : PV .str) (t1 : PV .str) : denF cx_internal_stringslite_HasSuffix 0 pl_internal_stringslite_HasSuffix Tryz.f147.ntmps (bodyOf Tryz.f147) Tryz.f147.results.toList [(.bor, .str), (.bor, .str)] [(.bool, .b)] (t0, t1, ()) = f_internal_stringslite_HasSuffix t0 t1 := by kernel_rfl
theorem ok_internal_stringslite_HasSuffix : FnOk gl Tryz.prog 147 ct_internal_stringslite_HasSuffix :=
  fnOk (cx := cx_internal_stringslite_HasSuffix) (pl := pl_internal_stringslite_HasSuffix) (dp := 0) (ok0_of tabOk (by unfold ArrOk; kernel_rfl) mix trivial trivial) Tryz.func147 (by kernel_rfl) (by kernel_rfl) (by kernel_rfl)
    (by rw [show loopsOf (bodyOf Tryz.f147) = [] from by kernel_rfl]; exact trivial) (fun x => ef_internal_stringslite_HasSuffix x.1 x.2.1)
noncomputable def pl_strings_HasSuffix : Plan := ⟨[], [], 0, 0⟩
noncomputable def f_strings_HasSuffix (t0 : PV .str) (t1 : PV .str) : Option (PVs [.bool] × PVs []) :=
  (f_internal_stringslite_HasSuffix t0 t1).bind fun r1 =>
    some ((r1.1.1, ()), ())
noncomputable def ct_strings_HasSuffix : Ct := ⟨[(.bor, .str), (.bor, .str)], [(.bool, .b)], fun x => f_strings_HasSuffix x.1 x.2.1⟩
noncomputable def cx_strings_HasSuffix : Cx := ⟨tab, arrs, [(147, ct_internal_stringslite_HasSuffix)], [], gl, []⟩
theorem ef_strings_HasSuffix (t0 : PV .str) (t1 : PV .str) : denF cx_strings_HasSuffix 0 pl_strings_HasSuffix Tryz.f127.ntmps (bodyOf Tryz.f127) Tryz.f127.results.toList [(.bor, .str), (.bor, .str)] [(.bool, .b)] (t0, t1, ()) = f_strings_HasSuffix t0 t1 := by kernel_rfl
theorem ok_strings_HasSuffix : FnOk gl Tryz.prog 127 ct_strings_HasSuffix :=
  fnOk (cx := cx_strings_HasSuffix) (pl := pl_strings_HasSuffix) (dp := 0) (ok0_of tabOk (by unfold ArrOk; kernel_rfl) mix ⟨ok_internal_stringslite_HasSuffix, trivial⟩ trivial) Tryz.func127 (by kernel_rfl) (by kernel_rfl) (by kernel_rfl)
    (by rw [show loopsOf (bodyOf Tryz.f127) = [] from by kernel_rfl]; exact trivial) (fun x => ef_strings_HasSuffix x.1 x.2.1)
noncomputable def pl_I_isEnded : Plan := ⟨[], [], 0, 0⟩
noncomputable def f_I_isEnded (t0 : PV .str) : Option (PVs [.bool] × PVs []) :=
  (f_strings_HasSuffix t0 [10]).bind fun r1 =>
    some ((r1.1.1, ()), ())
noncomputable def ct_I_isEnded : Ct := ⟨[(.bor, .str)], [(.bool, .b)], fun x => f_I_isEnded x.1⟩
noncomputable def cx_I_isEnded : Cx := ⟨tab, arrs, [(127, ct_strings_HasSuffix)], [], gl, []⟩
theorem ef_I_isEnded (t0 : PV .str) : denF cx_I_isEnded 0 pl_I_isEnded Tryz.f92.ntmps (bodyOf Tryz.f92) Tryz.f92.results.toList [(.bor, .str)] [(.bool, .b)] (t0, ()) = f_I_isEnded t0 := by kernel_rfl
theorem ok_I_isEnded : FnOk gl Tryz.prog 92 ct_I_isEnded :=
  fnOk (cx := cx_I_isEnded) (pl := pl_I_isEnded) (dp := 0) (ok0_of tabOk (by unfold ArrOk; kernel_rfl) mix ⟨ok_strings_HasSuffix, trivial⟩ trivial) Tryz.func92 (by kernel_rfl) (by kernel_rfl) (by kernel_rfl)
    (by rw [show loopsOf (bodyOf Tryz.f92) = [] from by kernel_rfl]; exact trivial) (fun x => ef_I_isEnded x.1)
noncomputable def o_I_goodLines_7 : List Out := [⟨.normal, ⟨[], [0, 8, 9, 10, 24], []⟩, mkSh 26 [(0, .val S_string .b), (8, .val S_string .b), (9, .val (.int .i64) .b), (10, .val (.int .i64) .b), (24, .val .bool .b)]⟩]
noncomputable def sh_I_goodLines_4 : List Sh := mkSh 26 [(0, .val S_string .b), (8, .val S_string .b), (9, .val (.int .i64) .b), (10, .val (.int .i64) .b)]
noncomputable def o_I_goodLines_4 : List Out := [⟨.exit 0, ⟨[], [], []⟩, mkSh 26 []⟩, ⟨.ret, ⟨[], [2], []⟩, mkSh 26 [(2, .val .bool .b)]⟩]
noncomputable def b_I_goodLines_4 (t0 : PV S_string) (t8 : PV S_string) (t9 : PV (.int .i64)) (t10 : PV (.int .i64)) : Option ((PV S_string × PV S_string × PV (.int .i64) × PV (.int .i64) × Unit) ⊕ ((Unit) ⊕ (PV .bool × Unit))) :=
  bif (decide (t10 < t9)) then
    bif inB t10 t8.length then
      ((
          bif (decide (t10 < (IntKind.wrap .i64 ((t0.length : Int) - 1)))) then
            (f_I_isEnded (t8.getD t10.toNat [])).bind fun r7 =>
              some (t0, t8, t9, t10, (!r7.1.1), ())
          else
            some (t0, t8, t9, t10, false, ()) : Option ((PV S_string × PV S_string × PV (.int .i64) × PV (.int .i64) × PV .bool × Unit)))).bind fun j8 =>
        bif j8.2.2.2.2.1 then
          some (.inr (.inr (false, ())))
        else
          some (.inl (j8.1, j8.2.1, j8.2.2.1, (IntKind.wrap .i64 (j8.2.2.2.1 + 1)), ()))
    else
      none
  else
    some (.inr (.inl ()))
noncomputable def w_I_goodLines_4 : PV S_string × PV S_string × PV (.int .i64) × PV (.int .i64) × Unit → Option ((Unit) ⊕ (PV .bool × Unit)) := fix fun d => b_I_goodLines_4 d.1 d.2.1 d.2.2.1 d.2.2.2.1
noncomputable def lp_I_goodLines_4 : Lp := ⟨⟨[], [0, 8, 9, 10, 21, 22, 23], []⟩, sh_I_goodLines_4, o_I_goodLines_4, fun d => b_I_goodLines_4 d.1 d.2.1 d.2.2.1 d.2.2.2.1⟩
noncomputable def pl_I_goodLines : Plan := ⟨[(7, o_I_goodLines_7)], [(4, lp_I_goodLines_4)], 0, 0⟩
noncomputable def f_I_goodLines (t0 : PV S_string) : Option (PVs [.bool] × PVs []) :=
  (f_I_areLines t0).bind fun r4 =>
    bif (!r4.1.1) then
      some ((false, ()), ())
    else
      (w_I_goodLines_4 (t0, t0, (t0.length : Int), 0, ())).bind fun x13 =>
        match x13 with
        | .inl l11 =>
          some ((true, ()), ())
        | .inr l12 =>
          some ((l12.1, ()), ())
noncomputable def ct_I_goodLines : Ct := ⟨[(.bor, S_string)], [(.bool, .b)], fun x => f_I_goodLines x.1⟩
noncomputable def cx_I_goodLines : Cx := ⟨tab, arrs, [(91, ct_I_areLines), (92, ct_I_isEnded)], [], gl, []⟩
theorem eb_I_goodLines_4 (t0 : PV S_string) (t8 : PV S_string) (t9 : PV (.int .i64)) (t10 : PV (.int .i64)) : denK cx_I_goodLines (rcN cx_I_goodLines 0) pl_I_goodLines 0 ((loopsOf (bodyOf Tryz.f49)).getD 0 .skip) (fillS sh_I_goodLines_4 (t0, t8, t9, t10, ())) (roundK 0 lp_I_goodLines_4) = b_I_goodLines_4 t0 t8 t9 t10 := by kernel_rfl
theorem ef_I_goodLines (t0 : PV S_string) : denF cx_I_goodLines 0 pl_I_goodLines Tryz.f49.ntmps (bodyOf Tryz.f49) Tryz.f49.results.toList [(.bor, S_string)] [(.bool, .b)] (t0, ()) = f_I_goodLines t0 := by kernel_rfl
theorem ok_I_goodLines : FnOk gl Tryz.prog 49 ct_I_goodLines :=
  fnOk (cx := cx_I_goodLines) (pl := pl_I_goodLines) (dp := 0) (ok0_of tabOk (by unfold ArrOk; kernel_rfl) mix ⟨ok_I_areLines, ok_I_isEnded, trivial⟩ trivial) Tryz.func49 (by kernel_rfl) (by kernel_rfl) (by kernel_rfl)
    (by rw [show loopsOf (bodyOf Tryz.f49) = [((loopsOf (bodyOf Tryz.f49)).getD 0 .skip)] from by kernel_rfl]; exact ⟨(by rw [show lookup pl_I_goodLines.loops (firstId ((loopsOf (bodyOf Tryz.f49)).getD 0 .skip)) = some lp_I_goodLines_4 from by kernel_rfl]; exact fun d z h => (eb_I_goodLines_4 d.1 d.2.1 d.2.2.1 d.2.2.2.1).trans h), trivial⟩) (fun x => ef_I_goodLines x.1)
noncomputable def o_I_goodGroup_2 : List Out := [⟨.normal, ⟨[], [1, 24, 38, 39, 40, 41, 44, 45, 46, 47, 48, 49, 50, 51, 52, 53, 54, 55, 56, 57, 58, 59, 60, 64, 65, 66, 75, 76, 79, 80, 83, 84, 85, 86, 87, 88, 91, 92, 93, 94, 95, 96], []⟩, mkSh 98 [(1, .var Y_impl_Group .b), (24, .val .bool .b)]⟩]
noncomputable def o_I_goodGroup_8 : List Out := [⟨.normal, ⟨[], [1, 3, 5, 26, 27, 28, 61, 64, 65, 66, 75, 76, 79, 80, 83, 84, 85, 86, 87, 88, 91, 92, 93, 94, 95, 96], []⟩, mkSh 98 [(1, .var Y_impl_Group .b), (3, .val .bool .b), (5, .var Y_impl_Row .b), (26, .val S_impl_Row .b), (27, .val (.int .i64) .b), (28, .val (.int .i64) .b), (61, .val .bool .b)]⟩]
noncomputable def o_I_goodGroup_10 : List Out := [⟨.normal, ⟨[], [1, 3, 5, 26, 27, 28, 38, 39, 40, 41, 44, 45, 46, 47, 48, 49, 50, 51, 52, 53, 54, 55, 56, 57, 58, 59, 60, 75, 76, 79, 80, 83, 84, 85, 86, 87, 88, 91, 92, 93, 94, 95, 96], []⟩, mkSh 98 [(1, .var Y_impl_Group .b), (3, .val .bool .b), (5, .var Y_impl_Row .b), (26, .val S_impl_Row .b), (27, .val (.int .i64) .b), (28, .val (.int .i64) .b)]⟩, ⟨.ret, ⟨[], [2], []⟩, mkSh 98 [(2, .val .bool .b)]⟩]
noncomputable def sh_I_goodGroup_5 : List Sh := mkSh 98 [(1, .var Y_impl_Group .b), (3, .val .bool .b), (26, .val S_impl_Row .b), (27, .val (.int .i64) .b), (28, .val (.int .i64) .b)]
noncomputable def o_I_goodGroup_5 : List Out := [⟨.exit 0, ⟨[], [1, 3, 75, 76, 79, 80, 83, 84, 85, 86, 87, 88, 91, 92, 93, 94, 95, 96], []⟩, mkSh 98 [(1, .var Y_impl_Group .b), (3, .val .bool .b)]⟩, ⟨.ret, ⟨[], [2], []⟩, mkSh 98 [(2, .val .bool .b)]⟩]
noncomputable def b_I_goodGroup_5 (t1 : PV Y_impl_Group) (t3 : PV .bool) (t26 : PV S_impl_Row) (t27 : PV (.int .i64)) (t28 : PV (.int .i64)) : Option ((PV Y_impl_Group × PV .bool × PV S_impl_Row × PV (.int .i64) × PV (.int .i64) × Unit) ⊕ ((PV Y_impl_Group × PV .bool × Unit) ⊕ (PV .bool × Unit))) :=
  bif (decide (t28 < t27)) then
    ((
        bif inB t28 t26.length then
          ((
              (f_I_in ((t26.getD t28.toNat (dflt Y_impl_Row)).1) 1 3).bind fun r15 =>
                bif (!r15.1.1) then
                  some (t1, t3, (t26.getD t28.toNat (dflt Y_impl_Row)), t26, t27, t28, true, ())
                else
                  (f_I_isLine (((t26.getD t28.toNat (dflt Y_impl_Row)).2).1)).bind fun r16 =>
                    bif (!r16.1.1) then
                      some (t1, t3, (t26.getD t28.toNat (dflt Y_impl_Row)), t26, t27, t28, true, ())
                    else
                      bif (decide (t28 > 0)) then
                        bif (((t26.getD t28.toNat (dflt Y_impl_Row)).1) == 2) then
                          bif inB (IntKind.wrap .i64 (t28 - 1)) t1.2.2.1.length then
                            some (t1, t3, (t26.getD t28.toNat (dflt Y_impl_Row)), t26, t27, t28, (((t1.2.2.1.getD ((IntKind.wrap .i64 (t28 - 1)).toNat) (dflt Y_impl_Row)).1) == 3), ())
                          else
                            none
                        else
                          some (t1, t3, (t26.getD t28.toNat (dflt Y_impl_Row)), t26, t27, t28, false, ())
                      else
                        some (t1, t3, (t26.getD t28.toNat (dflt Y_impl_Row)), t26, t27, t28, false, ()) : Option ((PV Y_impl_Group × PV .bool × PV Y_impl_Row × PV S_impl_Row × PV (.int .i64) × PV (.int .i64) × PV .bool × Unit)))).bind fun j17 =>
            bif j17.2.2.2.2.2.2.1 then
              some (.inr (false, ()))
            else
              bif j17.2.1 then
                some (.inl (j17.1, true, j17.2.2.1, j17.2.2.2.1, j17.2.2.2.2.1, j17.2.2.2.2.2.1, ()))
              else
                some (.inl (j17.1, (!(j17.2.2.1.1 == 1)), j17.2.2.1, j17.2.2.2.1, j17.2.2.2.2.1, j17.2.2.2.2.2.1, ()))
        else
          none : Option ((PV Y_impl_Group × PV .bool × PV Y_impl_Row × PV S_impl_Row × PV (.int .i64) × PV (.int .i64) × Unit) ⊕ (PV .bool × Unit)))).bind fun x30 =>
      match x30 with
      | .inl j18 =>
        some (.inl (j18.1, j18.2.1, j18.2.2.2.1, j18.2.2.2.2.1, (IntKind.wrap .i64 (j18.2.2.2.2.2.1 + 1)), ()))
      | .inr j19 =>
        some (.inr (.inr (j19.1, ())))
  else
    some (.inr (.inl (t1, t3, ())))
noncomputable def w_I_goodGroup_5 : PV Y_impl_Group × PV .bool × PV S_impl_Row × PV (.int .i64) × PV (.int .i64) × Unit → Option ((PV Y_impl_Group × PV .bool × Unit) ⊕ (PV .bool × Unit)) := fix fun d => b_I_goodGroup_5 d.1 d.2.1 d.2.2.1 d.2.2.2.1 d.2.2.2.2.1
noncomputable def lp_I_goodGroup_5 : Lp := ⟨⟨[], [1, 3, 26, 27, 28, 38, 39, 40, 41, 44, 45, 46, 47, 48, 49, 50, 51, 52, 53, 54, 55, 56, 57, 58, 59, 60, 64, 65, 66, 75, 76, 79, 80, 83, 84, 85, 86, 87, 88, 91, 92, 93, 94, 95, 96], []⟩, sh_I_goodGroup_5, o_I_goodGroup_5, fun d => b_I_goodGroup_5 d.1 d.2.1 d.2.2.1 d.2.2.2.1 d.2.2.2.2.1⟩
noncomputable def pl_I_goodGroup : Plan := ⟨[(2, o_I_goodGroup_2), (8, o_I_goodGroup_8), (10, o_I_goodGroup_10)], [(5, lp_I_goodGroup_5)], 0, 0⟩
noncomputable def f_I_goodGroup (t0 : PV Y_impl_Group) : Option (PVs [.bool] × PVs []) :=
  ((
      (f_I_in t0.1 0 999).bind fun r8 =>
        bif (!r8.1.1) then
          some (t0, true, ())
        else
          (f_I_in t0.2.1 0 999).bind fun r9 =>
            bif (!r9.1.1) then
              some (t0, true, ())
            else
              (f_I_in (t0.2.2.1.length : Int) 1 80).bind fun r10 =>
                some (t0, (!r10.1.1), ()) : Option ((PV Y_impl_Group × PV .bool × Unit)))).bind fun j11 =>
    bif j11.2.1 then
      some ((false, ()), ())
    else
      (w_I_goodGroup_5 (j11.1, false, j11.1.2.2.1, (j11.1.2.2.1.length : Int), 0, ())).bind fun x31 =>
        match x31 with
        | .inl l22 =>
          (f_I_Group_old l22.1).bind fun r25 =>
            (f_I_Group_fresh l22.1).bind fun r26 =>
              bif l22.2.1 then
                (f_I_goodLines r25.1.1).bind fun r27 =>
                  bif r27.1.1 then
                    (f_I_goodLines r26.1.1).bind fun r28 =>
                      bif r28.1.1 then
                        bif (decide ((IntKind.wrap .i64 (l22.1.1 + (r25.1.1.length : Int))) ≤ 1000)) then
                          some (((decide ((IntKind.wrap .i64 (l22.1.2.1 + (r26.1.1.length : Int))) ≤ 1000)), ()), ())
                        else
                          some ((false, ()), ())
                      else
                        some ((false, ()), ())
                  else
                    some ((false, ()), ())
              else
                some ((false, ()), ())
        | .inr l29 =>
          some ((l29.1, ()), ())
noncomputable def ct_I_goodGroup : Ct := ⟨[(.bor, Y_impl_Group)], [(.bool, .b)], fun x => f_I_goodGroup x.1⟩
noncomputable def cx_I_goodGroup : Cx := ⟨tab, arrs, [(49, ct_I_goodLines), (58, ct_I_Group_old), (59, ct_I_Group_fresh), (93, ct_I_in), (99, ct_I_isLine)], [], gl, []⟩
theorem eb_I_goodGroup_5 (t1 : PV Y_impl_Group) (t3 : PV .bool) (t26 : PV S_impl_Row) (t27 : PV (.int .i64)) (t28 : PV (.int .i64)) : denK cx_I_goodGroup (rcN cx_I_goodGroup 0) pl_I_goodGroup 0 ((loopsOf (bodyOf Tryz.f57)).getD 0 .skip) (fillS sh_I_goodGroup_5 (t1, t3, t26, t27, t28, ())) (roundK 0 lp_I_goodGroup_5) = b_I_goodGroup_5 t1 t3 t26 t27 t28 := by kernel_rfl
theorem ef_I_goodGroup (t0 : PV Y_impl_Group) : denF cx_I_goodGroup 0 pl_I_goodGroup Tryz.f57.ntmps (bodyOf Tryz.f57) Tryz.f57.results.toList [(.bor, Y_impl_Group)] [(.bool, .b)] (t0, ()) = f_I_goodGroup t0 := by kernel_rfl
theorem ok_I_goodGroup : FnOk gl Tryz.prog 57 ct_I_goodGroup :=
  fnOk (cx := cx_I_goodGroup) (pl := pl_I_goodGroup) (dp := 0) (ok0_of tabOk (by unfold ArrOk; kernel_rfl) mix ⟨ok_I_goodLines, ok_I_Group_old, ok_I_Group_fresh, ok_I_in, ok_I_isLine, trivial⟩ trivial) Tryz.func57 (by kernel_rfl) (by kernel_rfl) (by kernel_rfl)
    (by rw [show loopsOf (bodyOf Tryz.f57) = [((loopsOf (bodyOf Tryz.f57)).getD 0 .skip)] from by kernel_rfl]; exact ⟨(by rw [show lookup pl_I_goodGroup.loops (firstId ((loopsOf (bodyOf Tryz.f57)).getD 0 .skip)) = some lp_I_goodGroup_5 from by kernel_rfl]; exact fun d z h => (eb_I_goodGroup_5 d.1 d.2.1 d.2.2.1 d.2.2.2.1 d.2.2.2.2.1).trans h), trivial⟩) (fun x => ef_I_goodGroup x.1)
end R
