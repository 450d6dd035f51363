/- The functions that L_FnExactMerge, L_FnExactMarkedText reach, as pure functions, and that the program computes them. -/
import Derived.Test.YthcnbokoghjkjaaL3
import Derived.Test.YthcnbokoghjkjaaChecked
import Derived.KernelRfl
open Go Go.Dn Go.Proofs
namespace R
set_option linter.unusedVariables false
@[reducible] def S_string : Ty := (.slice 9 .str)
@[reducible] def S_uint8 : Ty := (.slice 5 (.int .u8))
@[reducible] def S_int : Ty := (.slice 3 (.int .i64))
@[reducible] def S_S_string : Ty := (.slice 31 S_string)
@[reducible] def S_S_int : Ty := (.slice 132 S_int)
@[reducible] def Y_impl_Row : Ty := (.pair (.int .i64) (.pair .str .unit))
@[reducible] def Y__2_int : Ty := (.pair (.int .i64) (.pair (.int .i64) .unit))
@[reducible] def S_impl_Row : Ty := (.slice 170 Y_impl_Row)
@[reducible] def S__2_int : Ty := (.slice 179 Y__2_int)
@[reducible] def Y_impl_Hunk : Ty := (.pair (.int .i64) (.pair (.int .i64) (.pair S_string .unit)))
@[reducible] def S_impl_Hunk : Ty := (.slice 111 Y_impl_Hunk)
@[reducible] def Y_impl_Order : Ty := (.pair (.int .i64) Y_impl_Hunk)
@[reducible] def S_S_impl_Hunk : Ty := (.slice 38 S_impl_Hunk)
@[reducible] def S_impl_Order : Ty := (.slice 145 Y_impl_Order)
@[reducible] def Y_impl_Group : Ty := (.pair (.int .i64) (.pair (.int .i64) (.pair S_impl_Row .unit)))
@[reducible] def Y_impl_Part : Ty := (.pair (.int .i64) (.pair (.int .i64) (.pair (.int .i64) (.pair S_string (.pair S_string .unit)))))
@[reducible] def S_impl_Group : Ty := (.slice 99 Y_impl_Group)
@[reducible] def S_impl_Part : Ty := (.slice 150 Y_impl_Part)
@[reducible] def Y_impl_Series : Ty := (.pair S_string (.pair S_S_impl_Hunk .unit))
noncomputable def tab : List (TypeId × Ty) := [(3, (.int .i64)), (4, .bool), (5, (.int .u8)), (9, .str), (24, S_impl_Group), (31, S_string), (38, S_impl_Hunk), (49, S_S_impl_Hunk), (51, Y_impl_Series), (59, S_S_string), (61, S_S_int), (69, S_impl_Order), (77, S_impl_Part), (97, S_impl_Row), (99, Y_impl_Group), (111, Y_impl_Hunk), (132, S_int), (145, Y_impl_Order), (150, Y_impl_Part), (170, Y_impl_Row), (174, S_uint8), (177, S__2_int), (179, Y__2_int)]
noncomputable def arrs : List TypeId := [179]
theorem tabOk : TabOk Try.prog tab := by unfold TabOk; kernel_rfl
theorem mix : Try.prog.follows .mixedOrders = true := by kernel_rfl
noncomputable def gl : Glob := noGlob
open Go.Shelf
set_option maxRecDepth 20000
def lays_strings_Join_ren : Go.Shelf.Ren := ⟨fun | 0 => 0 | 1 => 1 | 2 => 2 | 99 => 193 | 100 => 206 | 102 => 212 | 143 => 230 | 144 => 220 | 156 => 134 | 165 => 180 | 166 => 181 | 169 => 182 | 193 => 87 | 206 => 219 | 207 => 225 | 209 => 228 | 212 => 223 | 217 => 235 | 219 => 234 | 224 => 237 | 225 => 236 | 240 => 210 | 241 => 211 | 263 => 231 | 264 => 232 | 266 => 239 | 267 => 238 | 276 => 226 | 277 => 227 | 314 => 240 | 347 => 241 | 348 => 242 | 349 => 243 | 350 => 244 | 351 => 245 | 352 => 246 | 353 => 247 | 354 => 248 | 355 => 249 | 356 => 250 | 357 => 251 | 358 => 252 | 359 => 253 | 360 => 254 | 361 => 255 | 362 => 259 | 366 => 260 | n => n, fun | 0 => 0 | 1 => 1 | 2 => 2 | 3 => 3 | 4 => 4 | 5 => 5 | 6 => 6 | 7 => 7 | 8 => 8 | 9 => 9 | 10 => 10 | 11 => 11 | 12 => 12 | 13 => 13 | 14 => 14 | 15 => 15 | 16 => 16 | 17 => 17 | 18 => 18 | 19 => 19 | 20 => 20 | 21 => 21 | 22 => 205 | 23 => 217 | 24 => 82 | 27 => 231 | 28 => 132 | 30 => 136 | 31 => 31 | 34 => 135 | 37 => 174 | 43 => 143 | 46 => 224 | 51 => 232 | 53 => 235 | 55 => 239 | 67 => 156 | 69 => 198 | 70 => 188 | 71 => 189 | 72 => 190 | 73 => 191 | 74 => 192 | 75 => 193 | 76 => 194 | 77 => 195 | 80 => 196 | 81 => 247 | 83 => 124 | 100 => 238 | 101 => 40 | 102 => 37 | 104 => 175 | 109 => 225 | 110 => 226 | 114 => 240 | 127 => 216 | 131 => 130 | 146 => 233 | 147 => 234 | 148 => 236 | 149 => 237 | 151 => 241 | 164 => 227 | 165 => 228 | 166 => 229 | 238 => 242 | 239 => 243 | 240 => 244 | 241 => 245 | 242 => 246 | 243 => 248 | 244 => 249 | 245 => 250 | 246 => 251 | 247 => 252 | 248 => 253 | 249 => 254 | n => n, fun | 1 => 0 | n => n⟩
theorem lays_strings_Join : Go.Proofs.Lays.n156 Try.prog lays_strings_Join_ren where
  mixed := by kernel_rfl
  f156 := Try.func134.trans (congrArg some (by kernel_rfl))
  f165 := Try.func180.trans (congrArg some (by kernel_rfl))
  f166 := Try.func181.trans (congrArg some (by kernel_rfl))
  f169 := Try.func182.trans (congrArg some (by kernel_rfl))
  f240 := Try.func210.trans (congrArg some (by kernel_rfl))
  f241 := Try.func211.trans (congrArg some (by kernel_rfl))
  f276 := Try.func226.trans (congrArg some (by kernel_rfl))
  f277 := Try.func227.trans (congrArg some (by kernel_rfl))
  t0 := Try.underlying0
  a0 := Try.isAgg0
  z0 := Try.sizeOf0
  v0 := Try.zeroValue0
  t3 := Try.underlying3
  a3 := Try.isAgg3
  z3 := Try.sizeOf3
  v3 := Try.zeroValue3
  t4 := Try.underlying4
  a4 := Try.isAgg4
  z4 := Try.sizeOf4
  v4 := Try.zeroValue4
  t9 := Try.underlying9
  a9 := Try.isAgg9
  z9 := Try.sizeOf9
  v9 := Try.zeroValue9
  t20 := Try.underlying20
  a20 := Try.isAgg20
  z20 := Try.sizeOf20
  v20 := Try.zeroValue20
  t31 := Try.underlying31
  a31 := Try.isAgg31
  z31 := Try.sizeOf31
  v31 := Try.zeroValue31
  t37 := Try.underlying174
  a37 := Try.isAgg174
  z37 := Try.sizeOf174
  v37 := Try.zeroValue174
  t70 := Try.underlying188
  a70 := Try.isAgg188
  z70 := Try.sizeOf188
  v70 := Try.zeroValue188
  t72 := Try.underlying190
  a72 := Try.isAgg190
  z72 := Try.sizeOf190
  v72 := Try.zeroValue190
  t75 := Try.underlying193
  a75 := Try.isAgg193
  z75 := Try.sizeOf193
  v75 := Try.zeroValue193
  t76 := Try.underlying194
  a76 := Try.isAgg194
  z76 := Try.sizeOf194
  v76 := Try.zeroValue194
  t127 := Try.underlying216
  a127 := Try.isAgg216
  z127 := Try.sizeOf216
  v127 := Try.zeroValue216
  t164 := Try.underlying227
  a164 := Try.isAgg227
  z164 := Try.sizeOf227
  v164 := Try.zeroValue227
def extra_strings_Join_ren : Go.Shelf.Ren := ⟨fun | 0 => 0 | 1 => 1 | 2 => 2 | 99 => 193 | 100 => 206 | 102 => 212 | 143 => 230 | 144 => 220 | 156 => 134 | 165 => 180 | 166 => 181 | 169 => 182 | 193 => 87 | 206 => 219 | 207 => 225 | 209 => 228 | 212 => 223 | 217 => 235 | 219 => 234 | 224 => 237 | 225 => 236 | 240 => 210 | 241 => 211 | 263 => 231 | 264 => 232 | 266 => 239 | 267 => 238 | 276 => 226 | 277 => 227 | 314 => 240 | 347 => 241 | 348 => 242 | 349 => 243 | 350 => 244 | 351 => 245 | 352 => 246 | 353 => 247 | 354 => 248 | 355 => 249 | 356 => 250 | 357 => 251 | 358 => 252 | 359 => 253 | 360 => 254 | 361 => 255 | 362 => 259 | 366 => 260 | n => n, fun | 0 => 0 | 1 => 1 | 2 => 2 | 3 => 3 | 4 => 4 | 5 => 5 | 6 => 6 | 7 => 7 | 8 => 8 | 9 => 9 | 10 => 10 | 11 => 11 | 12 => 12 | 13 => 13 | 14 => 14 | 15 => 15 | 16 => 16 | 17 => 17 | 18 => 18 | 19 => 19 | 20 => 20 | 21 => 21 | 22 => 205 | 23 => 217 | 24 => 82 | 27 => 231 | 28 => 132 | 30 => 136 | 31 => 31 | 34 => 135 | 37 => 174 | 43 => 143 | 46 => 224 | 51 => 232 | 53 => 235 | 55 => 239 | 67 => 156 | 69 => 198 | 70 => 188 | 71 => 189 | 72 => 190 | 73 => 191 | 74 => 192 | 75 => 193 | 76 => 194 | 77 => 195 | 80 => 196 | 81 => 247 | 83 => 124 | 100 => 238 | 101 => 40 | 102 => 37 | 104 => 175 | 109 => 225 | 110 => 226 | 114 => 240 | 127 => 216 | 131 => 130 | 146 => 233 | 147 => 234 | 148 => 236 | 149 => 237 | 151 => 241 | 164 => 227 | 165 => 228 | 166 => 229 | 238 => 242 | 239 => 243 | 240 => 244 | 241 => 245 | 242 => 246 | 243 => 248 | 244 => 249 | 245 => 250 | 246 => 251 | 247 => 252 | 248 => 253 | 249 => 254 | n => n, fun | 1 => 0 | n => n⟩
theorem extra_strings_Join : Go.Proofs.Builder.Extra Try.prog extra_strings_Join_ren where
  sizeBuilder := by kernel_rfl
  liesBuilder := by kernel_rfl
  t5 := Try.underlying5
  a5 := Try.isAgg5
  z5 := Try.sizeOf5
  v5 := Try.zeroValue5
  infoByte := by kernel_rfl
  cellsByte := by kernel_rfl
  sizeByte := by kernel_rfl
  neB5 := by decide +kernel

noncomputable def f_strings_Join (t0 : PV S_string) (t1 : PV .str) : Option (PVs [.str] × PVs []) := Go.Dn.joinF t0 t1
noncomputable def ct_strings_Join : Ct := ⟨[(.bor, S_string), (.bor, .str)], [(.str, .b)], fun x => f_strings_Join x.1 x.2.1⟩
theorem ok_strings_Join : FnOk gl Try.prog 134 ct_strings_Join := Go.Dn.join_ok lays_strings_Join extra_strings_Join
noncomputable def f_slices_Clone_string (t0 : PV S_string) : Option (PVs [S_string] × PVs []) := bif roomB ((([] : PV S_string)).length + t0.length) then some ((([] : PV S_string) ++ t0, ()), ()) else none
noncomputable def ct_slices_Clone_string : Ct := ⟨[(.bor, S_string)], [(S_string, (.row .b))], fun x => f_slices_Clone_string x.1⟩
noncomputable def pl_slices_Clone_string : Plan := ⟨[], [], 0, 0⟩
noncomputable def cx_slices_Clone_string : Cx := ⟨tab, arrs, [], [], gl, []⟩
theorem ok_slices_Clone_string : FnOk gl Try.prog 144 ct_slices_Clone_string :=
  fnOk_nil' (cx := cx_slices_Clone_string) (pl := pl_slices_Clone_string) (dp := 0) (t3 := 3) (te := 9) (T := .str) (ok0_of tabOk (by unfold ArrOk; kernel_rfl) mix trivial trivial) Try.func144 (fn := Try.f144) (rvs := Try.f144.results.toList) rfl (by kernel_rfl) (by kernel_rfl) (by kernel_rfl) rfl rfl rfl rfl Try.underlying31 ⟨⟨⟨trivial, trivial⟩, trivial⟩, ⟨trivial, trivial⟩⟩ (fun x => by kernel_rfl) (fun x => by kernel_rfl) (fun x => by kernel_rfl) (fun x => by kernel_rfl) (by kernel_rfl)
def lays_grow_ren : Go.Shelf.Ren := ⟨fun | 4 => 183 | n => n, fun | 0 => 0 | 3 => 3 | 4 => 4 | 9 => 9 | 20 => 20 | 22 => 31 | 25 => 9 | n => n, fun n => n⟩
theorem lays_grow : Go.Proofs.Lays8.n4 Try.prog lays_grow_ren where
  mixed := by kernel_rfl
  f4 := ⟨Try.f183.name, by kernel_rfl, Try.func183.trans (congrArg some (by kernel_rfl))⟩
  t0 := Try.underlying0
  a0 := Try.isAgg0
  z0 := Try.sizeOf0
  v0 := Try.zeroValue0
  t3 := Try.underlying3
  a3 := Try.isAgg3
  z3 := Try.sizeOf3
  v3 := Try.zeroValue3
  t4 := Try.underlying4
  a4 := Try.isAgg4
  z4 := Try.sizeOf4
  v4 := Try.zeroValue4
  t9 := Try.underlying9
  a9 := Try.isAgg9
  z9 := Try.sizeOf9
  v9 := Try.zeroValue9
  t20 := Try.underlying20
  a20 := Try.isAgg20
  z20 := Try.sizeOf20
  v20 := Try.zeroValue20
  t22 := Try.underlying31
  a22 := Try.isAgg31
  z22 := Try.sizeOf31
  v22 := Try.zeroValue31

noncomputable def f_slices_Grow_string (t0 : PV S_string) (t1 : PV (.int .i64)) : Option (PVs [S_string] × PVs []) := Go.Dn.growF 9 t0 t1
noncomputable def ct_slices_Grow_string : Ct := ⟨[(.own, S_string), (.bor, .int .i64)], [(S_string, .row .b)], fun x => f_slices_Grow_string x.1 x.2.1⟩
theorem ok_slices_Grow_string : FnOk gl Try.prog 183 ct_slices_Grow_string := Go.Dn.grow_ok lays_grow rfl (by kernel_rfl)
def lays_math_bits_Mul_ren : Go.Shelf.Ren := ⟨fun | 0 => 0 | 1 => 1 | 2 => 2 | 99 => 193 | 100 => 206 | 102 => 212 | 143 => 230 | 144 => 220 | 156 => 134 | 165 => 180 | 166 => 181 | 169 => 182 | 193 => 87 | 206 => 219 | 207 => 225 | 209 => 228 | 212 => 223 | 217 => 235 | 219 => 234 | 224 => 237 | 225 => 236 | 240 => 210 | 241 => 211 | 263 => 231 | 264 => 232 | 266 => 239 | 267 => 238 | 276 => 226 | 277 => 227 | 314 => 240 | 347 => 241 | 348 => 242 | 349 => 243 | 350 => 244 | 351 => 245 | 352 => 246 | 353 => 247 | 354 => 248 | 355 => 249 | 356 => 250 | 357 => 251 | 358 => 252 | 359 => 253 | 360 => 254 | 361 => 255 | 362 => 259 | 366 => 260 | n => n, fun | 0 => 0 | 1 => 1 | 2 => 2 | 3 => 3 | 4 => 4 | 5 => 5 | 6 => 6 | 7 => 7 | 8 => 8 | 9 => 9 | 10 => 10 | 11 => 11 | 12 => 12 | 13 => 13 | 14 => 14 | 15 => 15 | 16 => 16 | 17 => 17 | 18 => 18 | 19 => 19 | 20 => 20 | 21 => 21 | 22 => 205 | 23 => 217 | 24 => 82 | 27 => 231 | 28 => 132 | 30 => 136 | 31 => 31 | 34 => 135 | 37 => 174 | 43 => 143 | 46 => 224 | 51 => 232 | 53 => 235 | 55 => 239 | 67 => 156 | 69 => 198 | 70 => 188 | 71 => 189 | 72 => 190 | 73 => 191 | 74 => 192 | 75 => 193 | 76 => 194 | 77 => 195 | 80 => 196 | 81 => 247 | 83 => 124 | 100 => 238 | 101 => 40 | 102 => 37 | 104 => 175 | 109 => 225 | 110 => 226 | 114 => 240 | 127 => 216 | 131 => 130 | 146 => 233 | 147 => 234 | 148 => 236 | 149 => 237 | 151 => 241 | 164 => 227 | 165 => 228 | 166 => 229 | 238 => 242 | 239 => 243 | 240 => 244 | 241 => 245 | 242 => 246 | 243 => 248 | 244 => 249 | 245 => 250 | 246 => 251 | 247 => 252 | 248 => 253 | 249 => 254 | n => n, fun | 1 => 0 | n => n⟩
theorem lays_math_bits_Mul : Go.Proofs.Lays.n212 Try.prog lays_math_bits_Mul_ren where
  mixed := by kernel_rfl
  f212 := Try.func223.trans (congrArg some (by kernel_rfl))
  f263 := Try.func231.trans (congrArg some (by kernel_rfl))
  f264 := Try.func232.trans (congrArg some (by kernel_rfl))
  t46 := Try.underlying224
  a46 := Try.isAgg224
  z46 := Try.sizeOf224
  v46 := Try.zeroValue224
  t51 := Try.underlying232
  a51 := Try.isAgg232
  z51 := Try.sizeOf232
  v51 := Try.zeroValue232
  t53 := Try.underlying235
  a53 := Try.isAgg235
  z53 := Try.sizeOf235
  v53 := Try.zeroValue235
  t146 := Try.underlying233
  a146 := Try.isAgg233
  z146 := Try.sizeOf233
  v146 := Try.zeroValue233
  t148 := Try.underlying236
  a148 := Try.isAgg236
  z148 := Try.sizeOf236
  v148 := Try.zeroValue236
set_option maxRecDepth 100000
section
open Go.RowKit
set_option maxHeartbeats 1000000 in
set_option maxRecDepth 100000 in
theorem rep_main (x : Int) (A : Addr) (cap c : Nat) (w : World) (hA : w.cell? A = some (.int .i64 x)) (hAb : A.block < w.heap.size) (h1 : 1 ≤ c) (hc : c ≤ 1099511627776) (h1cap : 1 ≤ cap) :
    Calls Try.prog 204 #[.slice (some A) 1 cap, .int .i64 c] w fun e w' => e = .returned (.slice (some ⟨w.heap.size, 0, none⟩) c c) ∧ w'.heap[w.heap.size]? = some (.cells (List.replicate c (.int .i64 x)).toArray 3 (0, 0)) ∧ Below w.heap.size w w' := by
  have hMul : Calls Try.prog 223 #[.int .u64 1, .int .u64 c] w fun e w' => e = .returned (.tuple #[.int .u64 0, .int .u64 c]) ∧ w' = w := by
    have h : Calls Try.prog 223 #[.int .u64 (1 : Nat), .int .u64 c] w _ := Any.bits_Mul lays_math_bits_Mul 1 c (by omega) (by omega) w
    simp only [Nat.one_mul] at h
    rw [Nat.div_eq_of_lt (by omega), Nat.mod_eq_of_lt (by omega)] at h
    exact h
  have hinf : Option.map (fun i => (i.zero, i.size, i.bytes)) (Try.prog.info? 3) = some (some (.int .i64 0), 1, 8) := by kernel_rfl
  obtain ⟨i0, hi, hz0, hz1, hz2⟩ := info_parts hinf
  have hinfo : (Try.prog.info? 3).map (·.size) = some 1 := by rw [hi]; simp [hz1]
  obtain ⟨M, hM⟩ : ∃ M, M = madeCells (Value.int .i64 0).cells (((c : Nat) : Int).toNat * i0.size) := ⟨_, rfl⟩
  have hMl : Hid (M = (rowK (.int .i64 x) 0 c).toArray) := by
    show M = _
    rw [hM, hz1, rowK_zero]
    apply Array.ext'
    simp [madeCells, Value.cells, Nat.mod_one]
    rw [List.map_const', List.length_range]
  have hmk : ∀ W : World, (Instr.makeSlice 132 (.int .i64 (c : Int)) (.int .i64 (c : Int))).run Try.prog W = .ok (.slice (some ⟨W.heap.size, 0, none⟩) c c) (W.alloc (.cells M 3)) := fun W => by
      have h := run_make (P := Try.prog) W 132 3 i0 (.int .i64 0) Try.underlying132 hi hz0 .i64 .i64 (c : Int) (c : Int) (by omega) (by omega) (by rw [hz2]; omega) (by omega)
      rw [← hM] at h
      simpa using h
  clear hM
  have hcp := run_copy_row (P := Try.prog) (w.alloc (.cells M 3)) 132 132 3 3 w.heap.size 0 c c A 1 cap M 3 [.int .i64 x] Try.underlying132 hinfo (heap_alloc_new w _) (Nat.min_eq_left h1).symm (fun j v hj => by
    have hj0 : j = 0 := by have := (List.getElem?_eq_some_iff.1 hj).1; simp at this; omega
    subst hj0
    obtain rfl : v = .int .i64 x := (Option.some.inj hj).symm
    exact (show (w.alloc (.cells M 3)).cell? A = w.cell? A by
      unfold World.cell?
      rw [Go.Dn.heap_alloc_ne w _ _ hAb]).trans hA) (by rw [hMl.out]; simp [rowK]; omega) (by simp [Value.oneCell'])
  obtain ⟨Y, hY⟩ : ∃ Y, Y = ((w.alloc (.cells M 3)).setRow w.heap.size (List.take 0 M.toList ++ [Value.int .i64 x] ++ List.drop (0 + [Value.int .i64 x].length) M.toList).toArray) := ⟨_, rfl⟩
  rw [← hY] at hcp
  have hYg : Hid (Y.heap[w.heap.size]? = some (.cells (rowK (.int .i64 x) 1 c).toArray 3 (0, 0))) := by
    show Y.heap[w.heap.size]? = _
    rw [hY, setRow_heap _ _ M _ 3 (0, 0) (heap_alloc_new w _)]
    have h := rowK_splice (.int .i64 x) (k := 0) (c := c) (m := 1) (by omega)
    rw [Nat.zero_add] at h
    rw [← h, hMl.out]
    simp [splice]
  have hYb : Below w.heap.size w Y := by rw [hY]; exact below_setRow ((Below.refl _ w).alloc (Nat.le_refl _) _) (Nat.le_refl _) _
  clear hY
  go_enter Try.func204, Try.ntmps204
  go_wp2_with (go_at_fn 223; go_fit hMul; rintro e w' ⟨rfl, hw⟩; rw [hw])
  refine hMul.mono ?_
  rintro e w' ⟨rfl, hw⟩
  rw [hw]
  clear hw w'
  go_wp2
  go_loopg [8] (c - 1) (fun g s8 wx => ∃ n : Nat, 1 ≤ n ∧ n + g = c ∧ s8 = .int .i64 (n : Int) ∧ Hid (wx.heap[w.heap.size]? = some (.cells (rowK (.int .i64 x) n c).toArray 3 (0, 0))) ∧ Below w.heap.size w wx)
  case atStart => exact ⟨1, Nat.le_refl _, by omega, rfl, hYg, hYb⟩
  case round =>
    obtain ⟨n, hn1, hng, rfl, hg, hb⟩ := hrel
    cases gk with
    | zero =>
      obtain rfl : n = c := by omega
      go_wp2
      go_ret
      exact ⟨rfl, by rw [← rowK_all]; exact hg.out, hb⟩
    | succ g =>
      have hnc : n < c := by omega
      obtain ⟨m, hm⟩ : ∃ m, m = Nat.min n (c - n) := ⟨_, rfl⟩
      have hm1 : 1 ≤ m := by rw [hm]; exact Nat.le_min.2 ⟨hn1, by omega⟩
      have hm2 : m ≤ n := by rw [hm]; exact Nat.min_le_left _ _
      have hm3 : m ≤ c - n := by rw [hm]; exact Nat.min_le_right _ _
      have hcl : (List.replicate m (Value.int .i64 x)).length = Nat.min n (c - n) := by rw [List.length_replicate]; exact hm
      have hfit : n + (List.replicate m (Value.int .i64 x)).length ≤ (rowK (.int .i64 x) n c).length := by rw [List.length_replicate, rowK_len _ (by omega)]; omega
      have hone : ∀ v ∈ List.replicate m (Value.int .i64 x), v.oneCell' = true := fun v hv => by rw [List.eq_of_mem_replicate hv]; rfl
      have HP : Hid (∀ j v, (List.replicate m (Value.int .i64 x))[j]? = some v → wr.drew.cell? (({ block := w.heap.size, off := 0, spot := none } : Addr).add j) = some v) := fun j v hj => by
          have hj' : j < m := by have := (List.getElem?_eq_some_iff.1 hj).1; simpa using this
          have hv : v = .int .i64 x := by rw [List.getElem?_replicate_of_lt hj'] at hj; exact (Option.some.inj hj).symm
          rw [hv, ← rowK_at (.int .i64 x) (k := n) (c := c) (j := j) (by omega)]
          refine (cell_row (w := wr.drew) (show wr.drew.heap[w.heap.size]? = _ from hg.out) j).trans ?_
          simp
      have hle : n ≤ c := by omega
      have hne : ¬ c = n := by omega
      have HM : Hid (m = Nat.min n (c - n)) := hm
      have HL : Hid ((List.replicate m (Value.int .i64 x)).length = Nat.min n (c - n)) := hcl
      clear hm hcl
      go_wp2
      go_region_law (refine step_copy_splice rfl (.tmp 41) (.tmp 44) 132 132 rfl 3 Try.underlying132 hinfo (some ⟨w.heap.size, n, none⟩) (some ⟨w.heap.size, 0, none⟩) (c - n) (c - n) n c (by simp [Act.eval, Act.put]) (by simp [Act.eval, Act.put]) w.heap.size n (rowK (.int .i64 x) n c) 3 (show wr.drew.heap[w.heap.size]? = _ from hg.out) (List.replicate m (.int .i64 x)) HL.out (fun _ => ⟨rfl, _, rfl, HP.out⟩) hfit hone w.heap.size w hb.drew (Nat.le_refl _) ?_; intro w4 hg4 hb4)
      have HE : Hid (splice (rowK (.int .i64 x) n c) n (List.replicate m (.int .i64 x)) = rowK (.int .i64 x) (n + m) c) := rowK_splice _ (by omega)
      go_wp2
      go_roundg (c - (n + m))
      case measure => omega
      case rel => exact ⟨n + m, by omega, by omega, by rw [show IntKind.wrap .i64 ((n : Int) + (m : Int)) = ((n + m : Nat) : Int) from by rw [Go.Dn.wrap64 (by omega) (by omega)]; rfl], by rw [← HE.out]; exact hg4, hb4⟩

set_option maxHeartbeats 1000000 in
set_option maxRecDepth 100000 in
theorem rep_zero (x : Int) (A : Addr) (cap : Nat) (w : World) :
    Calls Try.prog 204 #[.slice (some A) 1 cap, .int .i64 (0 : Nat)] w fun e w' => e = .returned (.slice (some ⟨w.heap.size, 0, none⟩) 0 0) ∧ w'.heap[w.heap.size]? = some (.cells (List.replicate 0 (.int .i64 x)).toArray 3 (0, 0)) ∧ Below w.heap.size w w' := by
  have hMul : Calls Try.prog 223 #[.int .u64 1, .int .u64 0] w fun e w' => e = .returned (.tuple #[.int .u64 0, .int .u64 0]) ∧ w' = w := by
    have h : Calls Try.prog 223 #[.int .u64 (1 : Nat), .int .u64 (0 : Nat)] w _ := Any.bits_Mul lays_math_bits_Mul 1 0 (by omega) (by omega) w
    exact h
  have hinf : Option.map (fun i => (i.zero, i.size, i.bytes)) (Try.prog.info? 3) = some (some (.int .i64 0), 1, 8) := by kernel_rfl
  obtain ⟨i0, hi, hz0, hz1, hz2⟩ := info_parts hinf
  have hinfo : (Try.prog.info? 3).map (·.size) = some 1 := by rw [hi]; simp [hz1]
  have hmk : ∀ W : World, (Instr.makeSlice 132 (.int .i64 0) (.int .i64 0)).run Try.prog W = .ok (.slice (some ⟨W.heap.size, 0, none⟩) 0 0) (W.alloc (.cells #[] 3)) := fun W => by
      have h := run_make (P := Try.prog) W 132 3 i0 (.int .i64 0) Try.underlying132 hi hz0 .i64 .i64 0 0 (by omega) (by omega) (by rw [hz2]; omega) (by omega)
      simpa [madeCells, show Array.range 0 = #[] from rfl] using h
  have hcp := run_copy_none (P := Try.prog) (w.alloc (.cells #[] 3)) 132 132 3 3 (some ⟨w.heap.size, 0, none⟩) (some A) 0 0 1 cap Try.underlying132 hinfo (by rfl)
  have hb : Below w.heap.size w (w.alloc (.cells #[] 3)) := (Below.refl _ w).alloc (Nat.le_refl _) _
  have hh : Hid ((w.alloc (.cells #[] 3)).heap[w.heap.size]? = some (.cells #[] 3 (0, 0))) := heap_alloc_new w _
  go_enter Try.func204, Try.ntmps204
  go_wp2_with (go_at_fn 223; go_fit hMul; rintro e w' ⟨rfl, hw⟩; rw [hw])
  refine hMul.mono ?_
  rintro e w' ⟨rfl, hw⟩
  rw [hw]
  clear hw w'
  go_wp2
  go_loopg [8] 0 (fun g s8 wx => g = 0 ∧ s8 = .int .i64 0 ∧ wx = w.alloc (.cells #[] 3))
  case atStart => exact ⟨rfl, rfl, rfl⟩
  case round =>
    obtain ⟨rfl, rfl, rfl⟩ := hrel
    go_wp2
    go_ret
    exact ⟨rfl, hh.out, hb⟩

theorem rep_any (x : Int) (A : Addr) (cap c : Nat) (w : World) (hA : w.cell? A = some (.int .i64 x)) (hAb : A.block < w.heap.size) (hc : c ≤ 1099511627776) (h1cap : 1 ≤ cap) :
    Calls Try.prog 204 #[.slice (some A) 1 cap, .int .i64 c] w fun e w' => e = .returned (.slice (some ⟨w.heap.size, 0, none⟩) c c) ∧ w'.heap[w.heap.size]? = some (.cells (List.replicate c (.int .i64 x)).toArray 3 (0, 0)) ∧ Below w.heap.size w w' := by
  rcases Nat.eq_zero_or_pos c with rfl | h
  · exact rep_zero x A cap w
  · exact rep_main x A cap c w hA hAb h hc h1cap
end
noncomputable def f_slices_Repeat_int (t0 : PV S_int) (t1 : PV (.int .i64)) : Option (PVs [S_int] × PVs []) := Go.Dn.repF 3 t0 t1
noncomputable def ct_slices_Repeat_int : Ct := ⟨[(.bor, S_int), (.bor, .int .i64)], [(S_int, .row .b)], fun x => f_slices_Repeat_int x.1 x.2.1⟩
theorem ok_slices_Repeat_int : FnOk gl Try.prog 204 ct_slices_Repeat_int := fnOk_repeat ⟨_, Try.func204, rfl, rfl⟩ rep_any
def lays_strings_Contains_ren : Go.Shelf.Ren := ⟨fun | 0 => 0 | 1 => 1 | 2 => 2 | 99 => 193 | 100 => 206 | 102 => 212 | 143 => 230 | 144 => 220 | 156 => 134 | 165 => 180 | 166 => 181 | 169 => 182 | 193 => 87 | 206 => 219 | 207 => 225 | 209 => 228 | 212 => 223 | 217 => 235 | 219 => 234 | 224 => 237 | 225 => 236 | 240 => 210 | 241 => 211 | 263 => 231 | 264 => 232 | 266 => 239 | 267 => 238 | 276 => 226 | 277 => 227 | 314 => 240 | 347 => 241 | 348 => 242 | 349 => 243 | 350 => 244 | 351 => 245 | 352 => 246 | 353 => 247 | 354 => 248 | 355 => 249 | 356 => 250 | 357 => 251 | 358 => 252 | 359 => 253 | 360 => 254 | 361 => 255 | 362 => 259 | 366 => 260 | n => n, fun | 0 => 0 | 1 => 1 | 2 => 2 | 3 => 3 | 4 => 4 | 5 => 5 | 6 => 6 | 7 => 7 | 8 => 8 | 9 => 9 | 10 => 10 | 11 => 11 | 12 => 12 | 13 => 13 | 14 => 14 | 15 => 15 | 16 => 16 | 17 => 17 | 18 => 18 | 19 => 19 | 20 => 20 | 21 => 21 | 22 => 205 | 23 => 217 | 24 => 82 | 27 => 231 | 28 => 132 | 30 => 136 | 31 => 31 | 34 => 135 | 37 => 174 | 43 => 143 | 46 => 224 | 51 => 232 | 53 => 235 | 55 => 239 | 67 => 156 | 69 => 198 | 70 => 188 | 71 => 189 | 72 => 190 | 73 => 191 | 74 => 192 | 75 => 193 | 76 => 194 | 77 => 195 | 80 => 196 | 81 => 247 | 83 => 124 | 100 => 238 | 101 => 40 | 102 => 37 | 104 => 175 | 109 => 225 | 110 => 226 | 114 => 240 | 127 => 216 | 131 => 130 | 146 => 233 | 147 => 234 | 148 => 236 | 149 => 237 | 151 => 241 | 164 => 227 | 165 => 228 | 166 => 229 | 238 => 242 | 239 => 243 | 240 => 244 | 241 => 245 | 242 => 246 | 243 => 248 | 244 => 249 | 245 => 250 | 246 => 251 | 247 => 252 | 248 => 253 | 249 => 254 | n => n, fun | 1 => 0 | n => n⟩
theorem lays_strings_Contains : Go.Proofs.Lays.n144 Try.prog lays_strings_Contains_ren where
  mixed := by kernel_rfl
  f143 := Try.func230.trans (congrArg some (by kernel_rfl))
  f144 := Try.func220.trans (congrArg some (by kernel_rfl))
  f217 := Try.func235.trans (congrArg some (by kernel_rfl))
  f219 := Try.func234.trans (congrArg some (by kernel_rfl))
  f224 := Try.func237.trans (congrArg some (by kernel_rfl))
  f225 := Try.func236.trans (congrArg some (by kernel_rfl))
  f266 := Try.func239.trans (congrArg some (by kernel_rfl))
  f267 := Try.func238.trans (congrArg some (by kernel_rfl))
  f314 := Try.func240.trans (congrArg some (by kernel_rfl))
  t3 := Try.underlying3
  a3 := Try.isAgg3
  z3 := Try.sizeOf3
  v3 := Try.zeroValue3
  t4 := Try.underlying4
  a4 := Try.isAgg4
  z4 := Try.sizeOf4
  v4 := Try.zeroValue4
  t5 := Try.underlying5
  a5 := Try.isAgg5
  z5 := Try.sizeOf5
  v5 := Try.zeroValue5
  t9 := Try.underlying9
  a9 := Try.isAgg9
  z9 := Try.sizeOf9
  v9 := Try.zeroValue9
  t46 := Try.underlying224
  a46 := Try.isAgg224
  z46 := Try.sizeOf224
  v46 := Try.zeroValue224
  t51 := Try.underlying232
  a51 := Try.isAgg232
  z51 := Try.sizeOf232
  v51 := Try.zeroValue232
  t146 := Try.underlying233
  a146 := Try.isAgg233
  z146 := Try.sizeOf233
  v146 := Try.zeroValue233
  g1 := by kernel_rfl
noncomputable def f_strings_Contains (t0 : PV .str) (t1 : PV .str) : Option (PVs [.bool] × PVs []) := Go.Dn.containsF t0 t1
noncomputable def ct_strings_Contains : Ct := ⟨[(.bor, .str), (.bor, .str)], [(.bool, .b)], fun x => f_strings_Contains x.1 x.2.1⟩
theorem ok_strings_Contains : FnOk gl Try.prog 220 ct_strings_Contains := Go.Dn.contains_ok  lays_strings_Contains
noncomputable def sh_L_szStringS_5 : List Sh := mkSh 28 [(0, .val S_string .b), (1, .val (.int .i64) .b), (5, .val (.int .i64) .b)]
noncomputable def o_L_szStringS_5 : List Out := [⟨.exit 0, ⟨[], [1], []⟩, mkSh 28 [(1, .val (.int .i64) .b)]⟩, ⟨.ret, ⟨[], [4], []⟩, mkSh 28 [(4, .val (.int .i64) .b)]⟩]
noncomputable def b_L_szStringS_5 (t0 : PV S_string) (t1 : PV (.int .i64)) (t5 : PV (.int .i64)) : Option ((PV S_string × PV (.int .i64) × PV (.int .i64) × Unit) ⊕ ((PV (.int .i64) × Unit) ⊕ (PV (.int .i64) × Unit))) :=
  bif (decide (t5 < (t0.length : Int))) then
    bif inB t5 t0.length then
      bif (decide ((IntKind.wrap .i64 (t1 - ((t0.getD t5.toNat []).length : Int))) < 0)) then
        some (.inr (.inr ((-1), ())))
      else
        some (.inl (t0, (IntKind.wrap .i64 (t1 - ((t0.getD t5.toNat []).length : Int))), (IntKind.wrap .i64 (t5 + 1)), ()))
    else
      none
  else
    some (.inr (.inl (t1, ())))
noncomputable def w_L_szStringS_5 : PV S_string × PV (.int .i64) × PV (.int .i64) × Unit → Option ((PV (.int .i64) × Unit) ⊕ (PV (.int .i64) × Unit)) := fix fun d => b_L_szStringS_5 d.1 d.2.1 d.2.2.1
noncomputable def lp_L_szStringS_5 : Lp := ⟨⟨[], [0, 1, 5], []⟩, sh_L_szStringS_5, o_L_szStringS_5, fun d => b_L_szStringS_5 d.1 d.2.1 d.2.2.1⟩
noncomputable def pl_L_szStringS : Plan := ⟨[], [(5, lp_L_szStringS_5)], 0, 0⟩
noncomputable def f_L_szStringS (t0 : PV S_string) (t1 : PV (.int .i64)) : Option (PVs [(.int .i64)] × PVs []) :=
  bif (decide ((IntKind.wrap .i64 (t1 - (t0.length : Int))) < 0)) then
    some (((-1), ()), ())
  else
    (w_L_szStringS_5 (t0, (IntKind.wrap .i64 (t1 - (t0.length : Int))), 0, ())).bind fun x5 =>
      match x5 with
      | .inl l3 =>
        some ((l3.1, ()), ())
      | .inr l4 =>
        some ((l4.1, ()), ())
noncomputable def ct_L_szStringS : Ct := ⟨[(.bor, S_string), (.bor, (.int .i64))], [((.int .i64), .b)], fun x => f_L_szStringS x.1 x.2.1⟩
noncomputable def cx_L_szStringS : Cx := ⟨tab, arrs, [], [], gl, []⟩
theorem eb_L_szStringS_5 (t0 : PV S_string) (t1 : PV (.int .i64)) (t5 : PV (.int .i64)) : denK cx_L_szStringS (rcN cx_L_szStringS 0) pl_L_szStringS 0 ((loopsOf (bodyOf Try.f21)).getD 0 .skip) (fillS sh_L_szStringS_5 (t0, t1, t5, ())) (roundK 0 lp_L_szStringS_5) = b_L_szStringS_5 t0 t1 t5 := by kernel_rfl
theorem ef_L_szStringS (t0 : PV S_string) (t1 : PV (.int .i64)) : denF cx_L_szStringS 0 pl_L_szStringS Try.f21.ntmps (bodyOf Try.f21) Try.f21.results.toList [(.bor, S_string), (.bor, (.int .i64))] [((.int .i64), .b)] (t0, t1, ()) = f_L_szStringS t0 t1 := by kernel_rfl
theorem ok_L_szStringS : FnOk gl Try.prog 21 ct_L_szStringS :=
  fnOk (cx := cx_L_szStringS) (pl := pl_L_szStringS) (dp := 0) (ok0_of tabOk (by unfold ArrOk; kernel_rfl) mix trivial trivial) Try.func21 (by kernel_rfl) (by kernel_rfl) (by kernel_rfl)
    (by rw [show loopsOf (bodyOf Try.f21) = [((loopsOf (bodyOf Try.f21)).getD 0 .skip)] from by kernel_rfl]; exact ⟨(by rw [show lookup pl_L_szStringS.loops (firstId ((loopsOf (bodyOf Try.f21)).getD 0 .skip)) = some lp_L_szStringS_5 from by kernel_rfl]; exact fun d z h => (eb_L_szStringS_5 d.1 d.2.1 d.2.2.1).trans h), trivial⟩) (fun x => ef_L_szStringS x.1 x.2.1)
noncomputable def sh_L_toStringS_3 : List Sh := mkSh 22 [(0, .val S_string .b), (3, .val S_string (.row .b)), (4, .val (.int .i64) .b)]
noncomputable def o_L_toStringS_3 : List Out := [⟨.exit 0, ⟨[], [3], []⟩, mkSh 22 [(3, .val S_string (.row .b))]⟩]
noncomputable def b_L_toStringS_3 (t0 : PV S_string) (t3 : PV S_string) (t4 : PV (.int .i64)) : Option ((PV S_string × PV S_string × PV (.int .i64) × Unit) ⊕ ((PV S_string × Unit))) :=
  bif (decide (t4 < (t0.length : Int))) then
    bif inB t4 t0.length then
      bif inB t4 t3.length then
        some (.inl (t0, (t3.set t4.toNat (t0.getD t4.toNat [])), (IntKind.wrap .i64 (t4 + 1)), ()))
      else
        none
    else
      none
  else
    some (.inr (t3, ()))
noncomputable def w_L_toStringS_3 : PV S_string × PV S_string × PV (.int .i64) × Unit → Option ((PV S_string × Unit)) := fix fun d => b_L_toStringS_3 d.1 d.2.1 d.2.2.1
noncomputable def lp_L_toStringS_3 : Lp := ⟨⟨[], [0, 3, 4], []⟩, sh_L_toStringS_3, o_L_toStringS_3, fun d => b_L_toStringS_3 d.1 d.2.1 d.2.2.1⟩
noncomputable def pl_L_toStringS : Plan := ⟨[], [(3, lp_L_toStringS_3)], 0, 0⟩
noncomputable def f_L_toStringS (t0 : PV S_string) : Option (PVs [S_string] × PVs []) :=
  bif decide (0 ≤ (t0.length : Int)) && (decide ((t0.length : Int) ≤ (t0.length : Int)) && roomB (t0.length : Int).toNat) then
    (w_L_toStringS_3 (t0, (List.replicate (t0.length : Int).toNat ([] : PV .str)), 0, ())).bind fun l2 =>
      some ((l2.1, ()), ())
  else
    none
noncomputable def ct_L_toStringS : Ct := ⟨[(.bor, S_string)], [(S_string, (.row .b))], fun x => f_L_toStringS x.1⟩
noncomputable def cx_L_toStringS : Cx := ⟨tab, arrs, [], [], gl, []⟩
theorem eb_L_toStringS_3 (t0 : PV S_string) (t3 : PV S_string) (t4 : PV (.int .i64)) : denK cx_L_toStringS (rcN cx_L_toStringS 0) pl_L_toStringS 0 ((loopsOf (bodyOf Try.f24)).getD 0 .skip) (fillS sh_L_toStringS_3 (t0, t3, t4, ())) (roundK 0 lp_L_toStringS_3) = b_L_toStringS_3 t0 t3 t4 := by kernel_rfl
theorem ef_L_toStringS (t0 : PV S_string) : denF cx_L_toStringS 0 pl_L_toStringS Try.f24.ntmps (bodyOf Try.f24) Try.f24.results.toList [(.bor, S_string)] [(S_string, (.row .b))] (t0, ()) = f_L_toStringS t0 := by kernel_rfl
theorem ok_L_toStringS : FnOk gl Try.prog 24 ct_L_toStringS :=
  fnOk (cx := cx_L_toStringS) (pl := pl_L_toStringS) (dp := 0) (ok0_of tabOk (by unfold ArrOk; kernel_rfl) mix trivial trivial) Try.func24 (by kernel_rfl) (by kernel_rfl) (by kernel_rfl)
    (by rw [show loopsOf (bodyOf Try.f24) = [((loopsOf (bodyOf Try.f24)).getD 0 .skip)] from by kernel_rfl]; exact ⟨(by rw [show lookup pl_L_toStringS.loops (firstId ((loopsOf (bodyOf Try.f24)).getD 0 .skip)) = some lp_L_toStringS_3 from by kernel_rfl]; exact fun d z h => (eb_L_toStringS_3 d.1 d.2.1 d.2.2.1).trans h), trivial⟩) (fun x => ef_L_toStringS x.1)
noncomputable def pl_S_l1In : Plan := ⟨[], [], 0, 0⟩
noncomputable def f_S_l1In (t0 : PV (.int .i64)) (t1 : PV (.int .i64)) (t2 : PV (.int .i64)) : Option (PVs [.bool] × PVs []) :=
  bif (decide (t0 ≥ t1)) then
    some (((decide (t0 ≤ t2)), ()), ())
  else
    some ((false, ()), ())
noncomputable def ct_S_l1In : Ct := ⟨[(.bor, (.int .i64)), (.bor, (.int .i64)), (.bor, (.int .i64))], [(.bool, .b)], fun x => f_S_l1In x.1 x.2.1 x.2.2.1⟩
noncomputable def cx_S_l1In : Cx := ⟨tab, arrs, [], [], gl, []⟩
theorem ef_S_l1In (t0 : PV (.int .i64)) (t1 : PV (.int .i64)) (t2 : PV (.int .i64)) : denF cx_S_l1In 0 pl_S_l1In Try.f91.ntmps (bodyOf Try.f91) Try.f91.results.toList [(.bor, (.int .i64)), (.bor, (.int .i64)), (.bor, (.int .i64))] [(.bool, .b)] (t0, t1, t2, ()) = f_S_l1In t0 t1 t2 := by kernel_rfl
theorem ok_S_l1In : FnOk gl Try.prog 91 ct_S_l1In :=
  fnOk (cx := cx_S_l1In) (pl := pl_S_l1In) (dp := 0) (ok0_of tabOk (by unfold ArrOk; kernel_rfl) mix trivial trivial) Try.func91 (by kernel_rfl) (by kernel_rfl) (by kernel_rfl)
    (by rw [show loopsOf (bodyOf Try.f91) = [] from by kernel_rfl]; exact trivial) (fun x => ef_S_l1In x.1 x.2.1 x.2.2.1)
noncomputable def sh_S_l1Line_2 : List Sh := mkSh 18 [(0, .val .str .b), (3, .val (.int .i64) .b)]
noncomputable def o_S_l1Line_2 : List Out := [⟨.exit 0, ⟨[], [0], []⟩, mkSh 18 [(0, .val .str .b)]⟩, ⟨.ret, ⟨[], [2], []⟩, mkSh 18 [(2, .val .bool .b)]⟩]
noncomputable def b_S_l1Line_2 (t0 : PV .str) (t3 : PV (.int .i64)) : Option ((PV .str × PV (.int .i64) × Unit) ⊕ ((PV .str × Unit) ⊕ (PV .bool × Unit))) :=
  bif (decide (t3 < (IntKind.wrap .i64 ((t0.length : Int) - 1)))) then
    bif inB t3 t0.length then
      bif (((t0.getD t3.toNat 0).toNat : Int) == 10) then
        some (.inr (.inr (false, ())))
      else
        some (.inl (t0, (IntKind.wrap .i64 (t3 + 1)), ()))
    else
      none
  else
    some (.inr (.inl (t0, ())))
noncomputable def w_S_l1Line_2 : PV .str × PV (.int .i64) × Unit → Option ((PV .str × Unit) ⊕ (PV .bool × Unit)) := fix fun d => b_S_l1Line_2 d.1 d.2.1
noncomputable def lp_S_l1Line_2 : Lp := ⟨⟨[], [0, 3], []⟩, sh_S_l1Line_2, o_S_l1Line_2, fun d => b_S_l1Line_2 d.1 d.2.1⟩
noncomputable def pl_S_l1Line : Plan := ⟨[], [(2, lp_S_l1Line_2)], 0, 0⟩
noncomputable def f_S_l1Line (t0 : PV .str) : Option (PVs [.bool] × PVs []) :=
  (w_S_l1Line_2 (t0, 0, ())).bind fun x6 =>
    match x6 with
    | .inl l3 =>
      (f_S_l1In (l3.1.length : Int) 1 30).bind fun r4 =>
        some ((r4.1.1, ()), ())
    | .inr l5 =>
      some ((l5.1, ()), ())
noncomputable def ct_S_l1Line : Ct := ⟨[(.bor, .str)], [(.bool, .b)], fun x => f_S_l1Line x.1⟩
noncomputable def cx_S_l1Line : Cx := ⟨tab, arrs, [(91, ct_S_l1In)], [], gl, []⟩
theorem eb_S_l1Line_2 (t0 : PV .str) (t3 : PV (.int .i64)) : denK cx_S_l1Line (rcN cx_S_l1Line 0) pl_S_l1Line 0 ((loopsOf (bodyOf Try.f161)).getD 0 .skip) (fillS sh_S_l1Line_2 (t0, t3, ())) (roundK 0 lp_S_l1Line_2) = b_S_l1Line_2 t0 t3 := by kernel_rfl
theorem ef_S_l1Line (t0 : PV .str) : denF cx_S_l1Line 0 pl_S_l1Line Try.f161.ntmps (bodyOf Try.f161) Try.f161.results.toList [(.bor, .str)] [(.bool, .b)] (t0, ()) = f_S_l1Line t0 := by kernel_rfl
theorem ok_S_l1Line : FnOk gl Try.prog 161 ct_S_l1Line :=
  fnOk (cx := cx_S_l1Line) (pl := pl_S_l1Line) (dp := 0) (ok0_of tabOk (by unfold ArrOk; kernel_rfl) mix ⟨ok_S_l1In, trivial⟩ trivial) Try.func161 (by kernel_rfl) (by kernel_rfl) (by kernel_rfl)
    (by rw [show loopsOf (bodyOf Try.f161) = [((loopsOf (bodyOf Try.f161)).getD 0 .skip)] from by kernel_rfl]; exact ⟨(by rw [show lookup pl_S_l1Line.loops (firstId ((loopsOf (bodyOf Try.f161)).getD 0 .skip)) = some lp_S_l1Line_2 from by kernel_rfl]; exact fun d z h => (eb_S_l1Line_2 d.1 d.2.1).trans h), trivial⟩) (fun x => ef_S_l1Line x.1)
noncomputable def pl_S_l1Ends : Plan := ⟨[], [], 0, 0⟩
noncomputable def f_S_l1Ends (t0 : PV .str) : Option (PVs [.bool] × PVs []) :=
  bif inB (IntKind.wrap .i64 ((t0.length : Int) - 1)) t0.length then
    some (((((t0.getD (IntKind.wrap .i64 ((t0.length : Int) - 1)).toNat 0).toNat : Int) == 10), ()), ())
  else
    none
noncomputable def ct_S_l1Ends : Ct := ⟨[(.bor, .str)], [(.bool, .b)], fun x => f_S_l1Ends x.1⟩
noncomputable def cx_S_l1Ends : Cx := ⟨tab, arrs, [], [], gl, []⟩
theorem ef_S_l1Ends (t0 : PV .str) : denF cx_S_l1Ends 0 pl_S_l1Ends Try.f177.ntmps (bodyOf Try.f177) Try.f177.results.toList [(.bor, .str)] [(.bool, .b)] (t0, ()) = f_S_l1Ends t0 := by kernel_rfl
theorem ok_S_l1Ends : FnOk gl Try.prog 177 ct_S_l1Ends :=
  fnOk (cx := cx_S_l1Ends) (pl := pl_S_l1Ends) (dp := 0) (ok0_of tabOk (by unfold ArrOk; kernel_rfl) mix trivial trivial) Try.func177 (by kernel_rfl) (by kernel_rfl) (by kernel_rfl)
    (by rw [show loopsOf (bodyOf Try.f177) = [] from by kernel_rfl]; exact trivial) (fun x => ef_S_l1Ends x.1)
noncomputable def o_S_l1Good_5 : List Out := [⟨.normal, ⟨[], [0, 5, 6, 7, 26], []⟩, mkSh 31 [(0, .val S_string .b), (5, .val S_string .b), (6, .val (.int .i64) .b), (7, .val (.int .i64) .b), (26, .val .bool .b)]⟩]
noncomputable def sh_S_l1Good_2 : List Sh := mkSh 31 [(0, .val S_string .b), (5, .val S_string .b), (6, .val (.int .i64) .b), (7, .val (.int .i64) .b)]
noncomputable def o_S_l1Good_2 : List Out := [⟨.exit 0, ⟨[], [0], []⟩, mkSh 31 [(0, .val S_string .b)]⟩, ⟨.ret, ⟨[], [2], []⟩, mkSh 31 [(2, .val .bool .b)]⟩]
noncomputable def b_S_l1Good_2 (t0 : PV S_string) (t5 : PV S_string) (t6 : PV (.int .i64)) (t7 : PV (.int .i64)) : Option ((PV S_string × PV S_string × PV (.int .i64) × PV (.int .i64) × Unit) ⊕ ((PV S_string × Unit) ⊕ (PV .bool × Unit))) :=
  bif (decide (t7 < t6)) then
    bif inB t7 t5.length then
      ((
          (f_S_l1Line (t5.getD t7.toNat [])).bind fun r4 =>
            bif (!r4.1.1) then
              some (t0, t5, t6, t7, true, ())
            else
              bif (decide (t7 < (IntKind.wrap .i64 ((t0.length : Int) - 1)))) then
                (f_S_l1Ends (t5.getD t7.toNat [])).bind fun r5 =>
                  some (t0, t5, t6, t7, (!r5.1.1), ())
              else
                some (t0, t5, t6, t7, false, ()) : Option ((PV S_string × PV S_string × PV (.int .i64) × PV (.int .i64) × PV .bool × Unit)))).bind fun j6 =>
        bif j6.2.2.2.2.1 then
          some (.inr (.inr (false, ())))
        else
          some (.inl (j6.1, j6.2.1, j6.2.2.1, (IntKind.wrap .i64 (j6.2.2.2.1 + 1)), ()))
    else
      none
  else
    some (.inr (.inl (t0, ())))
noncomputable def w_S_l1Good_2 : PV S_string × PV S_string × PV (.int .i64) × PV (.int .i64) × Unit → Option ((PV S_string × Unit) ⊕ (PV .bool × Unit)) := fix fun d => b_S_l1Good_2 d.1 d.2.1 d.2.2.1 d.2.2.2.1
noncomputable def lp_S_l1Good_2 : Lp := ⟨⟨[], [0, 5, 6, 7, 16, 17, 18, 19, 20, 21, 22, 23, 24, 25], []⟩, sh_S_l1Good_2, o_S_l1Good_2, fun d => b_S_l1Good_2 d.1 d.2.1 d.2.2.1 d.2.2.2.1⟩
noncomputable def pl_S_l1Good : Plan := ⟨[(5, o_S_l1Good_5)], [(2, lp_S_l1Good_2)], 0, 0⟩
noncomputable def f_S_l1Good (t0 : PV S_string) : Option (PVs [.bool] × PVs []) :=
  (w_S_l1Good_2 (t0, t0, (t0.length : Int), 0, ())).bind fun x11 =>
    match x11 with
    | .inl l9 =>
      some (((decide ((l9.1.length : Int) ≤ 40)), ()), ())
    | .inr l10 =>
      some ((l10.1, ()), ())
noncomputable def ct_S_l1Good : Ct := ⟨[(.bor, S_string)], [(.bool, .b)], fun x => f_S_l1Good x.1⟩
noncomputable def cx_S_l1Good : Cx := ⟨tab, arrs, [(161, ct_S_l1Line), (177, ct_S_l1Ends)], [], gl, []⟩
theorem eb_S_l1Good_2 (t0 : PV S_string) (t5 : PV S_string) (t6 : PV (.int .i64)) (t7 : PV (.int .i64)) : denK cx_S_l1Good (rcN cx_S_l1Good 0) pl_S_l1Good 0 ((loopsOf (bodyOf Try.f126)).getD 0 .skip) (fillS sh_S_l1Good_2 (t0, t5, t6, t7, ())) (roundK 0 lp_S_l1Good_2) = b_S_l1Good_2 t0 t5 t6 t7 := by kernel_rfl
theorem ef_S_l1Good (t0 : PV S_string) : denF cx_S_l1Good 0 pl_S_l1Good Try.f126.ntmps (bodyOf Try.f126) Try.f126.results.toList [(.bor, S_string)] [(.bool, .b)] (t0, ()) = f_S_l1Good t0 := by kernel_rfl
theorem ok_S_l1Good : FnOk gl Try.prog 126 ct_S_l1Good :=
  fnOk (cx := cx_S_l1Good) (pl := pl_S_l1Good) (dp := 0) (ok0_of tabOk (by unfold ArrOk; kernel_rfl) mix ⟨ok_S_l1Line, ok_S_l1Ends, trivial⟩ trivial) Try.func126 (by kernel_rfl) (by kernel_rfl) (by kernel_rfl)
    (by rw [show loopsOf (bodyOf Try.f126) = [((loopsOf (bodyOf Try.f126)).getD 0 .skip)] from by kernel_rfl]; exact ⟨(by rw [show lookup pl_S_l1Good.loops (firstId ((loopsOf (bodyOf Try.f126)).getD 0 .skip)) = some lp_S_l1Good_2 from by kernel_rfl]; exact fun d z h => (eb_S_l1Good_2 d.1 d.2.1 d.2.2.1 d.2.2.2.1).trans h), trivial⟩) (fun x => ef_S_l1Good x.1)
noncomputable def pl_S_l11Three : Plan := ⟨[], [], 0, 0⟩
noncomputable def f_S_l11Three (t0 : PV S_string) (t1 : PV S_string) (t2 : PV S_string) : Option (PVs [.bool] × PVs []) :=
  (f_S_l1Good t0).bind fun r1 =>
    bif r1.1.1 then
      (f_S_l1Good t1).bind fun r2 =>
        bif r2.1.1 then
          (f_S_l1Good t2).bind fun r3 =>
            some ((r3.1.1, ()), ())
        else
          some ((false, ()), ())
    else
      some ((false, ()), ())
noncomputable def ct_S_l11Three : Ct := ⟨[(.bor, S_string), (.bor, S_string), (.bor, S_string)], [(.bool, .b)], fun x => f_S_l11Three x.1 x.2.1 x.2.2.1⟩
noncomputable def cx_S_l11Three : Cx := ⟨tab, arrs, [(126, ct_S_l1Good)], [], gl, []⟩
theorem ef_S_l11Three (t0 : PV S_string) (t1 : PV S_string) (t2 : PV S_string) : denF cx_S_l11Three 0 pl_S_l11Three Try.f123.ntmps (bodyOf Try.f123) Try.f123.results.toList [(.bor, S_string), (.bor, S_string), (.bor, S_string)] [(.bool, .b)] (t0, t1, t2, ()) = f_S_l11Three t0 t1 t2 := by kernel_rfl
theorem ok_S_l11Three : FnOk gl Try.prog 123 ct_S_l11Three :=
  fnOk (cx := cx_S_l11Three) (pl := pl_S_l11Three) (dp := 0) (ok0_of tabOk (by unfold ArrOk; kernel_rfl) mix ⟨ok_S_l1Good, trivial⟩ trivial) Try.func123 (by kernel_rfl) (by kernel_rfl) (by kernel_rfl)
    (by rw [show loopsOf (bodyOf Try.f123) = [] from by kernel_rfl]; exact trivial) (fun x => ef_S_l11Three x.1 x.2.1 x.2.2.1)
noncomputable def pl_S_l1Most : Plan := ⟨[], [], 0, 0⟩
noncomputable def f_S_l1Most (t0 : PV (.int .i64)) (t1 : PV (.int .i64)) : Option (PVs [(.int .i64)] × PVs []) :=
  bif (decide (t0 > t1)) then
    some ((t0, ()), ())
  else
    some ((t1, ()), ())
noncomputable def ct_S_l1Most : Ct := ⟨[(.bor, (.int .i64)), (.bor, (.int .i64))], [((.int .i64), .b)], fun x => f_S_l1Most x.1 x.2.1⟩
noncomputable def cx_S_l1Most : Cx := ⟨tab, arrs, [], [], gl, []⟩
theorem ef_S_l1Most (t0 : PV (.int .i64)) (t1 : PV (.int .i64)) : denF cx_S_l1Most 0 pl_S_l1Most Try.f222.ntmps (bodyOf Try.f222) Try.f222.results.toList [(.bor, (.int .i64)), (.bor, (.int .i64))] [((.int .i64), .b)] (t0, t1, ()) = f_S_l1Most t0 t1 := by kernel_rfl
theorem ok_S_l1Most : FnOk gl Try.prog 222 ct_S_l1Most :=
  fnOk (cx := cx_S_l1Most) (pl := pl_S_l1Most) (dp := 0) (ok0_of tabOk (by unfold ArrOk; kernel_rfl) mix trivial trivial) Try.func222 (by kernel_rfl) (by kernel_rfl) (by kernel_rfl)
    (by rw [show loopsOf (bodyOf Try.f222) = [] from by kernel_rfl]; exact trivial) (fun x => ef_S_l1Most x.1 x.2.1)
noncomputable def o_S_l3Table_12 : List Out := [⟨.normal, ⟨[], [0, 1, 5, 7, 8], []⟩, mkSh 97 [(0, .val S_string .b), (1, .val S_string .b), (5, .val S_S_int (.row (.row .b))), (7, .val (.int .i64) .b), (8, .val (.int .i64) .b)]⟩]
noncomputable def sh_S_l3Table_3 : List Sh := mkSh 97 [(0, .val S_string .b), (1, .val S_string .b), (5, .val S_S_int (.row (.row .b))), (14, .val (.int .i64) .b), (15, .val (.int .i64) .b)]
noncomputable def o_S_l3Table_3 : List Out := [⟨.exit 0, ⟨[], [0, 1, 5], []⟩, mkSh 97 [(0, .val S_string .b), (1, .val S_string .b), (5, .val S_S_int (.row (.row .b)))]⟩]
noncomputable def b_S_l3Table_3 (t0 : PV S_string) (t1 : PV S_string) (t5 : PV S_S_int) (t14 : PV (.int .i64)) (t15 : PV (.int .i64)) : Option ((PV S_string × PV S_string × PV S_S_int × PV (.int .i64) × PV (.int .i64) × Unit) ⊕ ((PV S_string × PV S_string × PV S_S_int × Unit))) :=
  bif (decide (t15 < t14)) then
    bif decide (0 ≤ (IntKind.wrap .i64 ((t1.length : Int) + 1))) && (decide ((IntKind.wrap .i64 ((t1.length : Int) + 1)) ≤ (IntKind.wrap .i64 ((t1.length : Int) + 1))) && roomB (IntKind.wrap .i64 ((t1.length : Int) + 1)).toNat) then
      bif inB t15 t5.length then
        some (.inl (t0, t1, (t5.set t15.toNat (List.replicate (IntKind.wrap .i64 ((t1.length : Int) + 1)).toNat (0 : Int))), t14, (IntKind.wrap .i64 (t15 + 1)), ()))
      else
        none
    else
      none
  else
    some (.inr (t0, t1, t5, ()))
noncomputable def w_S_l3Table_3 : PV S_string × PV S_string × PV S_S_int × PV (.int .i64) × PV (.int .i64) × Unit → Option ((PV S_string × PV S_string × PV S_S_int × Unit)) := fix fun d => b_S_l3Table_3 d.1 d.2.1 d.2.2.1 d.2.2.2.1 d.2.2.2.2.1
noncomputable def lp_S_l3Table_3 : Lp := ⟨⟨[], [0, 1, 5, 14, 15], []⟩, sh_S_l3Table_3, o_S_l3Table_3, fun d => b_S_l3Table_3 d.1 d.2.1 d.2.2.1 d.2.2.2.1 d.2.2.2.2.1⟩
noncomputable def sh_S_l3Table_11 : List Sh := mkSh 97 [(0, .val S_string .b), (1, .val S_string .b), (5, .val S_S_int (.row (.row .b))), (7, .val (.int .i64) .b), (8, .val (.int .i64) .b)]
noncomputable def o_S_l3Table_11 : List Out := [⟨.exit 4, ⟨[], [0, 1, 5, 7], []⟩, mkSh 97 [(0, .val S_string .b), (1, .val S_string .b), (5, .val S_S_int (.row (.row .b))), (7, .val (.int .i64) .b)]⟩]
noncomputable def b_S_l3Table_11 (t0 : PV S_string) (t1 : PV S_string) (t5 : PV S_S_int) (t7 : PV (.int .i64)) (t8 : PV (.int .i64)) : Option ((PV S_string × PV S_string × PV S_S_int × PV (.int .i64) × PV (.int .i64) × Unit) ⊕ ((PV S_string × PV S_string × PV S_S_int × PV (.int .i64) × Unit))) :=
  bif (decide (t8 ≥ 0)) then
    ((
        bif inB t7 t5.length then
          bif inB (IntKind.wrap .i64 (t7 + 1)) t5.length then
            bif inB t8 (t5.getD ((IntKind.wrap .i64 (t7 + 1)).toNat) []).length then
              bif inB t7 t5.length then
                bif inB (IntKind.wrap .i64 (t8 + 1)) (t5.getD t7.toNat []).length then
                  (f_S_l1Most ((t5.getD ((IntKind.wrap .i64 (t7 + 1)).toNat) []).getD t8.toNat (0 : Int)) ((t5.getD t7.toNat []).getD ((IntKind.wrap .i64 (t8 + 1)).toNat) (0 : Int))).bind fun r4 =>
                    bif inB t8 (t5.getD t7.toNat []).length then
                      bif inB t7 t0.length then
                        bif inB t8 t1.length then
                          bif ((t0.getD t7.toNat []) == (t1.getD t8.toNat [])) then
                            bif inB t7 (t5.set t7.toNat ((t5.getD t7.toNat []).set t8.toNat r4.1.1)).length then
                              bif inB t7 (t5.set t7.toNat ((t5.getD t7.toNat []).set t8.toNat r4.1.1)).length then
                                bif inB t8 ((t5.set t7.toNat ((t5.getD t7.toNat []).set t8.toNat r4.1.1)).getD t7.toNat []).length then
                                  bif inB (IntKind.wrap .i64 (t7 + 1)) (t5.set t7.toNat ((t5.getD t7.toNat []).set t8.toNat r4.1.1)).length then
                                    bif inB (IntKind.wrap .i64 (t8 + 1)) ((t5.set t7.toNat ((t5.getD t7.toNat []).set t8.toNat r4.1.1)).getD ((IntKind.wrap .i64 (t7 + 1)).toNat) []).length then
                                      (f_S_l1Most (((t5.set t7.toNat ((t5.getD t7.toNat []).set t8.toNat r4.1.1)).getD t7.toNat []).getD t8.toNat (0 : Int)) (IntKind.wrap .i64 ((((t5.set t7.toNat ((t5.getD t7.toNat []).set t8.toNat r4.1.1)).getD ((IntKind.wrap .i64 (t7 + 1)).toNat) []).getD ((IntKind.wrap .i64 (t8 + 1)).toNat) (0 : Int)) + 1))).bind fun r5 =>
                                        bif inB t8 ((t5.set t7.toNat ((t5.getD t7.toNat []).set t8.toNat r4.1.1)).getD t7.toNat []).length then
                                          some (t0, t1, ((t5.set t7.toNat ((t5.getD t7.toNat []).set t8.toNat r4.1.1)).set t7.toNat (((t5.set t7.toNat ((t5.getD t7.toNat []).set t8.toNat r4.1.1)).getD t7.toNat []).set t8.toNat r5.1.1)), t7, t8, ())
                                        else
                                          none
                                    else
                                      none
                                  else
                                    none
                                else
                                  none
                              else
                                none
                            else
                              none
                          else
                            some (t0, t1, (t5.set t7.toNat ((t5.getD t7.toNat []).set t8.toNat r4.1.1)), t7, t8, ())
                        else
                          none
                      else
                        none
                    else
                      none
                else
                  none
              else
                none
            else
              none
          else
            none
        else
          none : Option ((PV S_string × PV S_string × PV S_S_int × PV (.int .i64) × PV (.int .i64) × Unit)))).bind fun j6 =>
      some (.inl (j6.1, j6.2.1, j6.2.2.1, j6.2.2.2.1, (IntKind.wrap .i64 (j6.2.2.2.2.1 - 1)), ()))
  else
    some (.inr (t0, t1, t5, t7, ()))
noncomputable def w_S_l3Table_11 : PV S_string × PV S_string × PV S_S_int × PV (.int .i64) × PV (.int .i64) × Unit → Option ((PV S_string × PV S_string × PV S_S_int × PV (.int .i64) × Unit)) := fix fun d => b_S_l3Table_11 d.1 d.2.1 d.2.2.1 d.2.2.2.1 d.2.2.2.2.1
noncomputable def lp_S_l3Table_11 : Lp := ⟨⟨[], [0, 1, 5, 7, 8], []⟩, sh_S_l3Table_11, o_S_l3Table_11, fun d => b_S_l3Table_11 d.1 d.2.1 d.2.2.1 d.2.2.2.1 d.2.2.2.2.1⟩
noncomputable def sh_S_l3Table_8 : List Sh := mkSh 97 [(0, .val S_string .b), (1, .val S_string .b), (5, .val S_S_int (.row (.row .b))), (7, .val (.int .i64) .b)]
noncomputable def o_S_l3Table_8 : List Out := [⟨.exit 2, ⟨[], [5], []⟩, mkSh 97 [(5, .val S_S_int (.row (.row .b)))]⟩]
noncomputable def b_S_l3Table_8 (t0 : PV S_string) (t1 : PV S_string) (t5 : PV S_S_int) (t7 : PV (.int .i64)) : Option ((PV S_string × PV S_string × PV S_S_int × PV (.int .i64) × Unit) ⊕ ((PV S_S_int × Unit))) :=
  bif (decide (t7 ≥ 0)) then
    (w_S_l3Table_11 (t0, t1, t5, t7, (IntKind.wrap .i64 ((t1.length : Int) - 1)), ())).bind fun l4 =>
      some (.inl (l4.1, l4.2.1, l4.2.2.1, (IntKind.wrap .i64 (l4.2.2.2.1 - 1)), ()))
  else
    some (.inr (t5, ()))
noncomputable def w_S_l3Table_8 : PV S_string × PV S_string × PV S_S_int × PV (.int .i64) × Unit → Option ((PV S_S_int × Unit)) := fix fun d => b_S_l3Table_8 d.1 d.2.1 d.2.2.1 d.2.2.2.1
noncomputable def lp_S_l3Table_8 : Lp := ⟨⟨[], [0, 1, 5, 7], []⟩, sh_S_l3Table_8, o_S_l3Table_8, fun d => b_S_l3Table_8 d.1 d.2.1 d.2.2.1 d.2.2.2.1⟩
noncomputable def pl_S_l3Table : Plan := ⟨[(12, o_S_l3Table_12)], [(3, lp_S_l3Table_3), (11, lp_S_l3Table_11), (8, lp_S_l3Table_8)], 0, 0⟩
noncomputable def f_S_l3Table (t0 : PV S_string) (t1 : PV S_string) : Option (PVs [S_S_int] × PVs []) :=
  bif decide (0 ≤ (IntKind.wrap .i64 ((t0.length : Int) + 1))) && (decide ((IntKind.wrap .i64 ((t0.length : Int) + 1)) ≤ (IntKind.wrap .i64 ((t0.length : Int) + 1))) && roomB (IntKind.wrap .i64 ((t0.length : Int) + 1)).toNat) then
    (w_S_l3Table_3 (t0, t1, (List.replicate (IntKind.wrap .i64 ((t0.length : Int) + 1)).toNat ([] : PV S_int)), ((List.replicate (IntKind.wrap .i64 ((t0.length : Int) + 1)).toNat ([] : PV S_int)).length : Int), 0, ())).bind fun l2 =>
      (w_S_l3Table_8 (l2.1, l2.2.1, l2.2.2.1, (IntKind.wrap .i64 ((l2.1.length : Int) - 1)), ())).bind fun l6 =>
        some ((l6.1, ()), ())
  else
    none
noncomputable def ct_S_l3Table : Ct := ⟨[(.bor, S_string), (.bor, S_string)], [(S_S_int, (.row (.row .b)))], fun x => f_S_l3Table x.1 x.2.1⟩
noncomputable def cx_S_l3Table : Cx := ⟨tab, arrs, [(222, ct_S_l1Most)], [], gl, []⟩
theorem eb_S_l3Table_3 (t0 : PV S_string) (t1 : PV S_string) (t5 : PV S_S_int) (t14 : PV (.int .i64)) (t15 : PV (.int .i64)) : denK cx_S_l3Table (rcN cx_S_l3Table 0) pl_S_l3Table 0 ((loopsOf (bodyOf Try.f202)).getD 0 .skip) (fillS sh_S_l3Table_3 (t0, t1, t5, t14, t15, ())) (roundK 0 lp_S_l3Table_3) = b_S_l3Table_3 t0 t1 t5 t14 t15 := by kernel_rfl
theorem eb_S_l3Table_8 (t0 : PV S_string) (t1 : PV S_string) (t5 : PV S_S_int) (t7 : PV (.int .i64)) : denK cx_S_l3Table (rcN cx_S_l3Table 0) pl_S_l3Table 0 ((loopsOf (bodyOf Try.f202)).getD 1 .skip) (fillS sh_S_l3Table_8 (t0, t1, t5, t7, ())) (roundK 0 lp_S_l3Table_8) = b_S_l3Table_8 t0 t1 t5 t7 := by kernel_rfl
theorem eb_S_l3Table_11 (t0 : PV S_string) (t1 : PV S_string) (t5 : PV S_S_int) (t7 : PV (.int .i64)) (t8 : PV (.int .i64)) : denK cx_S_l3Table (rcN cx_S_l3Table 0) pl_S_l3Table 0 ((loopsOf (bodyOf Try.f202)).getD 2 .skip) (fillS sh_S_l3Table_11 (t0, t1, t5, t7, t8, ())) (roundK 0 lp_S_l3Table_11) = b_S_l3Table_11 t0 t1 t5 t7 t8 := by kernel_rfl
theorem ef_S_l3Table (t0 : PV S_string) (t1 : PV S_string) : denF cx_S_l3Table 0 pl_S_l3Table Try.f202.ntmps (bodyOf Try.f202) Try.f202.results.toList [(.bor, S_string), (.bor, S_string)] [(S_S_int, (.row (.row .b)))] (t0, t1, ()) = f_S_l3Table t0 t1 := by kernel_rfl
theorem ok_S_l3Table : FnOk gl Try.prog 202 ct_S_l3Table :=
  fnOk (cx := cx_S_l3Table) (pl := pl_S_l3Table) (dp := 0) (ok0_of tabOk (by unfold ArrOk; kernel_rfl) mix ⟨ok_S_l1Most, trivial⟩ trivial) Try.func202 (by kernel_rfl) (by kernel_rfl) (by kernel_rfl)
    (by rw [show loopsOf (bodyOf Try.f202) = [((loopsOf (bodyOf Try.f202)).getD 0 .skip), ((loopsOf (bodyOf Try.f202)).getD 1 .skip), ((loopsOf (bodyOf Try.f202)).getD 2 .skip)] from by kernel_rfl]; exact ⟨(by rw [show lookup pl_S_l3Table.loops (firstId ((loopsOf (bodyOf Try.f202)).getD 0 .skip)) = some lp_S_l3Table_3 from by kernel_rfl]; exact fun d z h => (eb_S_l3Table_3 d.1 d.2.1 d.2.2.1 d.2.2.2.1 d.2.2.2.2.1).trans h), (by rw [show lookup pl_S_l3Table.loops (firstId ((loopsOf (bodyOf Try.f202)).getD 1 .skip)) = some lp_S_l3Table_8 from by kernel_rfl]; exact fun d z h => (eb_S_l3Table_8 d.1 d.2.1 d.2.2.1 d.2.2.2.1).trans h), (by rw [show lookup pl_S_l3Table.loops (firstId ((loopsOf (bodyOf Try.f202)).getD 2 .skip)) = some lp_S_l3Table_11 from by kernel_rfl]; exact fun d z h => (eb_S_l3Table_11 d.1 d.2.1 d.2.2.1 d.2.2.2.1 d.2.2.2.2.1).trans h), trivial⟩) (fun x => ef_S_l3Table x.1 x.2.1)
noncomputable def o_S_l3Pairs_13 : List Out := [⟨.normal, ⟨[], [0, 1, 5, 6, 7, 8, 9, 10, 11, 12, 72], []⟩, mkSh 86 [(0, .val S_string .b), (1, .val S_string .b), (5, .val S_S_int (.row (.row .b))), (6, .val S__2_int (.row (.pr .b (.pr .b .b)))), (7, .val (.int .i64) .b), (8, .val (.int .i64) .b), (9, .val (.int .i64) .b), (10, .val (.int .i64) .b), (11, .val (.int .i64) .b), (12, .val (.int .i64) .b), (72, .val .bool .b)]⟩]
noncomputable def o_S_l3Pairs_11 : List Out := [⟨.normal, ⟨[], [0, 1, 5, 6, 7, 8, 9, 10, 11, 12, 54, 55, 56, 57, 58, 59, 60, 61, 62, 63, 64, 65, 66, 67, 68, 69, 70, 71], []⟩, mkSh 86 [(0, .val S_string .b), (1, .val S_string .b), (5, .val S_S_int (.row (.row .b))), (6, .val S__2_int (.row (.pr .b (.pr .b .b)))), (7, .val (.int .i64) .b), (8, .val (.int .i64) .b), (9, .val (.int .i64) .b), (10, .val (.int .i64) .b), (11, .val (.int .i64) .b), (12, .val (.int .i64) .b)]⟩]
noncomputable def sh_S_l3Pairs_10 : List Sh := mkSh 86 [(0, .val S_string .b), (1, .val S_string .b), (5, .val S_S_int (.row (.row .b))), (6, .val S__2_int (.row (.pr .b (.pr .b .b)))), (7, .val (.int .i64) .b), (8, .val (.int .i64) .b), (9, .val (.int .i64) .b), (10, .val (.int .i64) .b), (11, .val (.int .i64) .b), (12, .val (.int .i64) .b)]
noncomputable def o_S_l3Pairs_10 : List Out := [⟨.exit 4, ⟨[], [0, 1, 5, 6, 7, 8, 9, 10, 11, 54, 55, 56, 57, 58, 59, 60, 61, 62, 63, 64, 65, 66, 67, 68, 69, 70, 71], []⟩, mkSh 86 [(0, .val S_string .b), (1, .val S_string .b), (5, .val S_S_int (.row (.row .b))), (6, .val S__2_int (.row (.pr .b (.pr .b .b)))), (7, .val (.int .i64) .b), (8, .val (.int .i64) .b), (9, .val (.int .i64) .b), (10, .val (.int .i64) .b), (11, .val (.int .i64) .b)]⟩]
noncomputable def b_S_l3Pairs_10 (t0 : PV S_string) (t1 : PV S_string) (t5 : PV S_S_int) (t6 : PV S__2_int) (t7 : PV (.int .i64)) (t8 : PV (.int .i64)) (t9 : PV (.int .i64)) (t10 : PV (.int .i64)) (t11 : PV (.int .i64)) (t12 : PV (.int .i64)) : Option ((PV S_string × PV S_string × PV S_S_int × PV S__2_int × PV (.int .i64) × PV (.int .i64) × PV (.int .i64) × PV (.int .i64) × PV (.int .i64) × PV (.int .i64) × Unit) ⊕ ((PV S_string × PV S_string × PV S_S_int × PV S__2_int × PV (.int .i64) × PV (.int .i64) × PV (.int .i64) × PV (.int .i64) × PV (.int .i64) × Unit))) :=
  bif (decide (t12 ≥ t8)) then
    ((
        ((
            bif inB t11 t0.length then
              bif inB t12 t1.length then
                bif ((t0.getD t11.toNat []) == (t1.getD t12.toNat [])) then
                  bif inB (IntKind.wrap .i64 (t11 + 1)) t5.length then
                    bif inB (IntKind.wrap .i64 (t12 + 1)) (t5.getD ((IntKind.wrap .i64 (t11 + 1)).toNat) []).length then
                      bif inB t7 t5.length then
                        bif inB t8 (t5.getD t7.toNat []).length then
                          some (t0, t1, t5, t6, t7, t8, t9, t10, t11, t12, ((IntKind.wrap .i64 (((t5.getD ((IntKind.wrap .i64 (t11 + 1)).toNat) []).getD ((IntKind.wrap .i64 (t12 + 1)).toNat) (0 : Int)) + 1)) == ((t5.getD t7.toNat []).getD t8.toNat (0 : Int))), ())
                        else
                          none
                      else
                        none
                    else
                      none
                  else
                    none
                else
                  some (t0, t1, t5, t6, t7, t8, t9, t10, t11, t12, false, ())
              else
                none
            else
              none : Option ((PV S_string × PV S_string × PV S_S_int × PV S__2_int × PV (.int .i64) × PV (.int .i64) × PV (.int .i64) × PV (.int .i64) × PV (.int .i64) × PV (.int .i64) × PV .bool × Unit)))).bind fun j3 =>
          bif j3.2.2.2.2.2.2.2.2.2.2.1 then
            some (j3.1, j3.2.1, j3.2.2.1, j3.2.2.2.1, j3.2.2.2.2.1, j3.2.2.2.2.2.1, j3.2.2.2.2.2.2.2.2.1, j3.2.2.2.2.2.2.2.2.2.1, j3.2.2.2.2.2.2.2.2.1, j3.2.2.2.2.2.2.2.2.2.1, ())
          else
            some (j3.1, j3.2.1, j3.2.2.1, j3.2.2.2.1, j3.2.2.2.2.1, j3.2.2.2.2.2.1, j3.2.2.2.2.2.2.1, j3.2.2.2.2.2.2.2.1, j3.2.2.2.2.2.2.2.2.1, j3.2.2.2.2.2.2.2.2.2.1, ()) : Option ((PV S_string × PV S_string × PV S_S_int × PV S__2_int × PV (.int .i64) × PV (.int .i64) × PV (.int .i64) × PV (.int .i64) × PV (.int .i64) × PV (.int .i64) × Unit)))).bind fun j4 =>
      some (.inl (j4.1, j4.2.1, j4.2.2.1, j4.2.2.2.1, j4.2.2.2.2.1, j4.2.2.2.2.2.1, j4.2.2.2.2.2.2.1, j4.2.2.2.2.2.2.2.1, j4.2.2.2.2.2.2.2.2.1, (IntKind.wrap .i64 (j4.2.2.2.2.2.2.2.2.2.1 - 1)), ()))
  else
    some (.inr (t0, t1, t5, t6, t7, t8, t9, t10, t11, ()))
noncomputable def w_S_l3Pairs_10 : PV S_string × PV S_string × PV S_S_int × PV S__2_int × PV (.int .i64) × PV (.int .i64) × PV (.int .i64) × PV (.int .i64) × PV (.int .i64) × PV (.int .i64) × Unit → Option ((PV S_string × PV S_string × PV S_S_int × PV S__2_int × PV (.int .i64) × PV (.int .i64) × PV (.int .i64) × PV (.int .i64) × PV (.int .i64) × Unit)) := fix fun d => b_S_l3Pairs_10 d.1 d.2.1 d.2.2.1 d.2.2.2.1 d.2.2.2.2.1 d.2.2.2.2.2.1 d.2.2.2.2.2.2.1 d.2.2.2.2.2.2.2.1 d.2.2.2.2.2.2.2.2.1 d.2.2.2.2.2.2.2.2.2.1
noncomputable def lp_S_l3Pairs_10 : Lp := ⟨⟨[], [0, 1, 5, 6, 7, 8, 9, 10, 11, 12, 54, 55, 56, 57, 58, 59, 60, 61, 62, 63, 64, 65, 66, 67, 68, 69, 70, 71], []⟩, sh_S_l3Pairs_10, o_S_l3Pairs_10, fun d => b_S_l3Pairs_10 d.1 d.2.1 d.2.2.1 d.2.2.2.1 d.2.2.2.2.1 d.2.2.2.2.2.1 d.2.2.2.2.2.2.1 d.2.2.2.2.2.2.2.1 d.2.2.2.2.2.2.2.2.1 d.2.2.2.2.2.2.2.2.2.1⟩
noncomputable def sh_S_l3Pairs_7 : List Sh := mkSh 86 [(0, .val S_string .b), (1, .val S_string .b), (5, .val S_S_int (.row (.row .b))), (6, .val S__2_int (.row (.pr .b (.pr .b .b)))), (7, .val (.int .i64) .b), (8, .val (.int .i64) .b), (9, .val (.int .i64) .b), (10, .val (.int .i64) .b), (11, .val (.int .i64) .b)]
noncomputable def o_S_l3Pairs_7 : List Out := [⟨.exit 2, ⟨[], [0, 1, 5, 6, 9, 10, 54, 55, 56, 57, 58, 59, 60, 61, 62, 63, 64, 65, 66, 67, 68, 69, 70, 71], []⟩, mkSh 86 [(0, .val S_string .b), (1, .val S_string .b), (5, .val S_S_int (.row (.row .b))), (6, .val S__2_int (.row (.pr .b (.pr .b .b)))), (9, .val (.int .i64) .b), (10, .val (.int .i64) .b)]⟩]
noncomputable def b_S_l3Pairs_7 (t0 : PV S_string) (t1 : PV S_string) (t5 : PV S_S_int) (t6 : PV S__2_int) (t7 : PV (.int .i64)) (t8 : PV (.int .i64)) (t9 : PV (.int .i64)) (t10 : PV (.int .i64)) (t11 : PV (.int .i64)) : Option ((PV S_string × PV S_string × PV S_S_int × PV S__2_int × PV (.int .i64) × PV (.int .i64) × PV (.int .i64) × PV (.int .i64) × PV (.int .i64) × Unit) ⊕ ((PV S_string × PV S_string × PV S_S_int × PV S__2_int × PV (.int .i64) × PV (.int .i64) × Unit))) :=
  bif (decide (t11 ≥ t7)) then
    (w_S_l3Pairs_10 (t0, t1, t5, t6, t7, t8, t9, t10, t11, (IntKind.wrap .i64 ((t1.length : Int) - 1)), ())).bind fun l4 =>
      some (.inl (l4.1, l4.2.1, l4.2.2.1, l4.2.2.2.1, l4.2.2.2.2.1, l4.2.2.2.2.2.1, l4.2.2.2.2.2.2.1, l4.2.2.2.2.2.2.2.1, (IntKind.wrap .i64 (l4.2.2.2.2.2.2.2.2.1 - 1)), ()))
  else
    some (.inr (t0, t1, t5, t6, t9, t10, ()))
noncomputable def w_S_l3Pairs_7 : PV S_string × PV S_string × PV S_S_int × PV S__2_int × PV (.int .i64) × PV (.int .i64) × PV (.int .i64) × PV (.int .i64) × PV (.int .i64) × Unit → Option ((PV S_string × PV S_string × PV S_S_int × PV S__2_int × PV (.int .i64) × PV (.int .i64) × Unit)) := fix fun d => b_S_l3Pairs_7 d.1 d.2.1 d.2.2.1 d.2.2.2.1 d.2.2.2.2.1 d.2.2.2.2.2.1 d.2.2.2.2.2.2.1 d.2.2.2.2.2.2.2.1 d.2.2.2.2.2.2.2.2.1
noncomputable def lp_S_l3Pairs_7 : Lp := ⟨⟨[], [0, 1, 5, 6, 7, 8, 9, 10, 11, 54, 55, 56, 57, 58, 59, 60, 61, 62, 63, 64, 65, 66, 67, 68, 69, 70, 71], []⟩, sh_S_l3Pairs_7, o_S_l3Pairs_7, fun d => b_S_l3Pairs_7 d.1 d.2.1 d.2.2.1 d.2.2.2.1 d.2.2.2.2.1 d.2.2.2.2.2.1 d.2.2.2.2.2.2.1 d.2.2.2.2.2.2.2.1 d.2.2.2.2.2.2.2.2.1⟩
noncomputable def sh_S_l3Pairs_4 : List Sh := mkSh 86 [(0, .val S_string .b), (1, .val S_string .b), (5, .val S_S_int (.row (.row .b))), (6, .val S__2_int (.row (.pr .b (.pr .b .b)))), (7, .val (.int .i64) .b), (8, .val (.int .i64) .b)]
noncomputable def o_S_l3Pairs_4 : List Out := [⟨.exit 0, ⟨[], [6], []⟩, mkSh 86 [(6, .val S__2_int (.row (.pr .b (.pr .b .b))))]⟩]
noncomputable def b_S_l3Pairs_4 (t0 : PV S_string) (t1 : PV S_string) (t5 : PV S_S_int) (t6 : PV S__2_int) (t7 : PV (.int .i64)) (t8 : PV (.int .i64)) : Option ((PV S_string × PV S_string × PV S_S_int × PV S__2_int × PV (.int .i64) × PV (.int .i64) × Unit) ⊕ ((PV S__2_int × Unit))) :=
  bif inB t7 t5.length then
    bif inB t8 (t5.getD t7.toNat []).length then
      bif (decide (((t5.getD t7.toNat []).getD t8.toNat (0 : Int)) > 0)) then
        (w_S_l3Pairs_7 (t0, t1, t5, t6, t7, t8, (t0.length : Int), (t1.length : Int), (IntKind.wrap .i64 ((t0.length : Int) - 1)), ())).bind fun l4 =>
          bif roomB (l4.2.2.2.1.length + [(l4.2.2.2.2.1, (l4.2.2.2.2.2.1, ()))].length) then
            some (.inl (l4.1, l4.2.1, l4.2.2.1, (l4.2.2.2.1 ++ [(l4.2.2.2.2.1, (l4.2.2.2.2.2.1, ()))]), (IntKind.wrap .i64 (l4.2.2.2.2.1 + 1)), (IntKind.wrap .i64 (l4.2.2.2.2.2.1 + 1)), ()))
          else
            none
      else
        some (.inr (t6, ()))
    else
      none
  else
    none
noncomputable def w_S_l3Pairs_4 : PV S_string × PV S_string × PV S_S_int × PV S__2_int × PV (.int .i64) × PV (.int .i64) × Unit → Option ((PV S__2_int × Unit)) := fix fun d => b_S_l3Pairs_4 d.1 d.2.1 d.2.2.1 d.2.2.2.1 d.2.2.2.2.1 d.2.2.2.2.2.1
noncomputable def lp_S_l3Pairs_4 : Lp := ⟨⟨[], [0, 1, 5, 6, 7, 8, 54, 55, 56, 57, 58, 59, 60, 61, 62, 63, 64, 65, 66, 67, 68, 69, 70, 71], []⟩, sh_S_l3Pairs_4, o_S_l3Pairs_4, fun d => b_S_l3Pairs_4 d.1 d.2.1 d.2.2.1 d.2.2.2.1 d.2.2.2.2.1 d.2.2.2.2.2.1⟩
noncomputable def pl_S_l3Pairs : Plan := ⟨[(13, o_S_l3Pairs_13), (11, o_S_l3Pairs_11)], [(10, lp_S_l3Pairs_10), (7, lp_S_l3Pairs_7), (4, lp_S_l3Pairs_4)], 0, 0⟩
noncomputable def f_S_l3Pairs (t0 : PV S_string) (t1 : PV S_string) : Option (PVs [S__2_int] × PVs []) :=
  (f_S_l3Table t0 t1).bind fun r2 =>
    (w_S_l3Pairs_4 (t0, t1, r2.1.1, [], 0, 0, ())).bind fun l6 =>
      some ((l6.1, ()), ())
noncomputable def ct_S_l3Pairs : Ct := ⟨[(.bor, S_string), (.bor, S_string)], [(S__2_int, (.row (.pr .b (.pr .b .b))))], fun x => f_S_l3Pairs x.1 x.2.1⟩
noncomputable def cx_S_l3Pairs : Cx := ⟨tab, arrs, [(202, ct_S_l3Table)], [], gl, []⟩
theorem eb_S_l3Pairs_4 (t0 : PV S_string) (t1 : PV S_string) (t5 : PV S_S_int) (t6 : PV S__2_int) (t7 : PV (.int .i64)) (t8 : PV (.int .i64)) : denK cx_S_l3Pairs (rcN cx_S_l3Pairs 0) pl_S_l3Pairs 0 ((loopsOf (bodyOf Try.f165)).getD 0 .skip) (fillS sh_S_l3Pairs_4 (t0, t1, t5, t6, t7, t8, ())) (roundK 0 lp_S_l3Pairs_4) = b_S_l3Pairs_4 t0 t1 t5 t6 t7 t8 := by kernel_rfl
theorem eb_S_l3Pairs_7 (t0 : PV S_string) (t1 : PV S_string) (t5 : PV S_S_int) (t6 : PV S__2_int) (t7 : PV (.int .i64)) (t8 : PV (.int .i64)) (t9 : PV (.int .i64)) (t10 : PV (.int .i64)) (t11 : PV (.int .i64)) : denK cx_S_l3Pairs (rcN cx_S_l3Pairs 0) pl_S_l3Pairs 0 ((loopsOf (bodyOf Try.f165)).getD 1 .skip) (fillS sh_S_l3Pairs_7 (t0, t1, t5, t6, t7, t8, t9, t10, t11, ())) (roundK 0 lp_S_l3Pairs_7) = b_S_l3Pairs_7 t0 t1 t5 t6 t7 t8 t9 t10 t11 := by kernel_rfl
theorem eb_S_l3Pairs_10 (t0 : PV S_string) (t1 : PV S_string) (t5 : PV S_S_int) (t6 : PV S__2_int) (t7 : PV (.int .i64)) (t8 : PV (.int .i64)) (t9 : PV (.int .i64)) (t10 : PV (.int .i64)) (t11 : PV (.int .i64)) (t12 : PV (.int .i64)) : denK cx_S_l3Pairs (rcN cx_S_l3Pairs 0) pl_S_l3Pairs 0 ((loopsOf (bodyOf Try.f165)).getD 2 .skip) (fillS sh_S_l3Pairs_10 (t0, t1, t5, t6, t7, t8, t9, t10, t11, t12, ())) (roundK 0 lp_S_l3Pairs_10) = b_S_l3Pairs_10 t0 t1 t5 t6 t7 t8 t9 t10 t11 t12 := by kernel_rfl
theorem ef_S_l3Pairs (t0 : PV S_string) (t1 : PV S_string) : denF cx_S_l3Pairs 0 pl_S_l3Pairs Try.f165.ntmps (bodyOf Try.f165) Try.f165.results.toList [(.bor, S_string), (.bor, S_string)] [(S__2_int, (.row (.pr .b (.pr .b .b))))] (t0, t1, ()) = f_S_l3Pairs t0 t1 := by kernel_rfl
theorem ok_S_l3Pairs : FnOk gl Try.prog 165 ct_S_l3Pairs :=
  fnOk (cx := cx_S_l3Pairs) (pl := pl_S_l3Pairs) (dp := 0) (ok0_of tabOk (by unfold ArrOk; kernel_rfl) mix ⟨ok_S_l3Table, trivial⟩ trivial) Try.func165 (by kernel_rfl) (by kernel_rfl) (by kernel_rfl)
    (by rw [show loopsOf (bodyOf Try.f165) = [((loopsOf (bodyOf Try.f165)).getD 0 .skip), ((loopsOf (bodyOf Try.f165)).getD 1 .skip), ((loopsOf (bodyOf Try.f165)).getD 2 .skip)] from by kernel_rfl]; exact ⟨(by rw [show lookup pl_S_l3Pairs.loops (firstId ((loopsOf (bodyOf Try.f165)).getD 0 .skip)) = some lp_S_l3Pairs_4 from by kernel_rfl]; exact fun d z h => (eb_S_l3Pairs_4 d.1 d.2.1 d.2.2.1 d.2.2.2.1 d.2.2.2.2.1 d.2.2.2.2.2.1).trans h), (by rw [show lookup pl_S_l3Pairs.loops (firstId ((loopsOf (bodyOf Try.f165)).getD 1 .skip)) = some lp_S_l3Pairs_7 from by kernel_rfl]; exact fun d z h => (eb_S_l3Pairs_7 d.1 d.2.1 d.2.2.1 d.2.2.2.1 d.2.2.2.2.1 d.2.2.2.2.2.1 d.2.2.2.2.2.2.1 d.2.2.2.2.2.2.2.1 d.2.2.2.2.2.2.2.2.1).trans h), (by rw [show lookup pl_S_l3Pairs.loops (firstId ((loopsOf (bodyOf Try.f165)).getD 2 .skip)) = some lp_S_l3Pairs_10 from by kernel_rfl]; exact fun d z h => (eb_S_l3Pairs_10 d.1 d.2.1 d.2.2.1 d.2.2.2.1 d.2.2.2.2.1 d.2.2.2.2.2.1 d.2.2.2.2.2.2.1 d.2.2.2.2.2.2.2.1 d.2.2.2.2.2.2.2.2.1 d.2.2.2.2.2.2.2.2.2.1).trans h), trivial⟩) (fun x => ef_S_l3Pairs x.1 x.2.1)
noncomputable def o_S_l11Stand_21 : List Out := [⟨.normal, ⟨[], [7, 13, 14, 60, 61, 62, 74], []⟩, mkSh 81 [(7, .val S__2_int (.row (.pr .b (.pr .b .b)))), (13, .val (.int .i64) .b), (14, .var Y__2_int .b), (60, .sub ⟨7, [], 0, 0⟩), (61, .val (.int .i64) .b), (62, .val (.int .i64) .b), (74, .val .bool .b)]⟩]
noncomputable def o_S_l11Stand_22 : List Out := [⟨.normal, ⟨[], [7, 60, 61, 62, 71, 72, 73], []⟩, mkSh 81 [(7, .val S__2_int (.row (.pr .b (.pr .b .b)))), (60, .sub ⟨7, [], 0, 0⟩), (61, .val (.int .i64) .b), (62, .val (.int .i64) .b)]⟩]
noncomputable def sh_S_l11Stand_3 : List Sh := mkSh 81 [(0, .val S_string .b), (1, .val S_string .b), (2, .val S_string .b), (7, .val S__2_int (.row (.pr .b (.pr .b .b)))), (19, .val (.int .i64) .b), (20, .val (.int .i64) .b)]
noncomputable def o_S_l11Stand_3 : List Out := [⟨.exit 0, ⟨[], [0, 1, 2, 7, 71, 72, 73], []⟩, mkSh 81 [(0, .val S_string .b), (1, .val S_string .b), (2, .val S_string .b), (7, .val S__2_int (.row (.pr .b (.pr .b .b))))]⟩]
noncomputable def b_S_l11Stand_3 (t0 : PV S_string) (t1 : PV S_string) (t2 : PV S_string) (t7 : PV S__2_int) (t19 : PV (.int .i64)) (t20 : PV (.int .i64)) : Option ((PV S_string × PV S_string × PV S_string × PV S__2_int × PV (.int .i64) × PV (.int .i64) × Unit) ⊕ ((PV S_string × PV S_string × PV S_string × PV S__2_int × Unit))) :=
  bif (decide (t20 < t19)) then
    bif inB t20 t7.length then
      some (.inl (t0, t1, t2, (t7.set t20.toNat ((-1), ((-1), ()))), t19, (IntKind.wrap .i64 (t20 + 1)), ()))
    else
      none
  else
    some (.inr (t0, t1, t2, t7, ()))
noncomputable def w_S_l11Stand_3 : PV S_string × PV S_string × PV S_string × PV S__2_int × PV (.int .i64) × PV (.int .i64) × Unit → Option ((PV S_string × PV S_string × PV S_string × PV S__2_int × Unit)) := fix fun d => b_S_l11Stand_3 d.1 d.2.1 d.2.2.1 d.2.2.2.1 d.2.2.2.2.1 d.2.2.2.2.2.1
noncomputable def lp_S_l11Stand_3 : Lp := ⟨⟨[], [0, 1, 2, 7, 19, 20, 71, 72, 73], []⟩, sh_S_l11Stand_3, o_S_l11Stand_3, fun d => b_S_l11Stand_3 d.1 d.2.1 d.2.2.1 d.2.2.2.1 d.2.2.2.2.1 d.2.2.2.2.2.1⟩
noncomputable def sh_S_l11Stand_8 : List Sh := mkSh 81 [(0, .val S_string .b), (2, .val S_string .b), (7, .val S__2_int (.row (.pr .b (.pr .b .b)))), (30, .val S__2_int (.row (.pr .b (.pr .b .b)))), (31, .val (.int .i64) .b), (32, .val (.int .i64) .b)]
noncomputable def o_S_l11Stand_8 : List Out := [⟨.exit 2, ⟨[], [0, 2, 7, 71, 72, 73], []⟩, mkSh 81 [(0, .val S_string .b), (2, .val S_string .b), (7, .val S__2_int (.row (.pr .b (.pr .b .b))))]⟩]
noncomputable def b_S_l11Stand_8 (t0 : PV S_string) (t2 : PV S_string) (t7 : PV S__2_int) (t30 : PV S__2_int) (t31 : PV (.int .i64)) (t32 : PV (.int .i64)) : Option ((PV S_string × PV S_string × PV S__2_int × PV S__2_int × PV (.int .i64) × PV (.int .i64) × Unit) ⊕ ((PV S_string × PV S_string × PV S__2_int × Unit))) :=
  bif (decide (t32 < t31)) then
    bif inB t32 t30.length then
      bif inB ((t30.getD t32.toNat (dflt Y__2_int)).1) t7.length then
        some (.inl (t0, t2, (t7.set (((t30.getD t32.toNat (dflt Y__2_int)).1).toNat) (((t30.getD t32.toNat (dflt Y__2_int)).2).1, (t7.getD (((t30.getD t32.toNat (dflt Y__2_int)).1).toNat) (dflt Y__2_int)).2)), t30, t31, (IntKind.wrap .i64 (t32 + 1)), ()))
      else
        none
    else
      none
  else
    some (.inr (t0, t2, t7, ()))
noncomputable def w_S_l11Stand_8 : PV S_string × PV S_string × PV S__2_int × PV S__2_int × PV (.int .i64) × PV (.int .i64) × Unit → Option ((PV S_string × PV S_string × PV S__2_int × Unit)) := fix fun d => b_S_l11Stand_8 d.1 d.2.1 d.2.2.1 d.2.2.2.1 d.2.2.2.2.1 d.2.2.2.2.2.1
noncomputable def lp_S_l11Stand_8 : Lp := ⟨⟨[], [0, 2, 7, 30, 31, 32, 71, 72, 73], []⟩, sh_S_l11Stand_8, o_S_l11Stand_8, fun d => b_S_l11Stand_8 d.1 d.2.1 d.2.2.1 d.2.2.2.1 d.2.2.2.2.1 d.2.2.2.2.2.1⟩
noncomputable def sh_S_l11Stand_13 : List Sh := mkSh 81 [(7, .val S__2_int (.row (.pr .b (.pr .b .b)))), (46, .val S__2_int (.row (.pr .b (.pr .b .b)))), (47, .val (.int .i64) .b), (48, .val (.int .i64) .b)]
noncomputable def o_S_l11Stand_13 : List Out := [⟨.exit 4, ⟨[], [7, 71, 72, 73], []⟩, mkSh 81 [(7, .val S__2_int (.row (.pr .b (.pr .b .b))))]⟩]
noncomputable def b_S_l11Stand_13 (t7 : PV S__2_int) (t46 : PV S__2_int) (t47 : PV (.int .i64)) (t48 : PV (.int .i64)) : Option ((PV S__2_int × PV S__2_int × PV (.int .i64) × PV (.int .i64) × Unit) ⊕ ((PV S__2_int × Unit))) :=
  bif (decide (t48 < t47)) then
    bif inB t48 t46.length then
      bif inB ((t46.getD t48.toNat (dflt Y__2_int)).1) t7.length then
        some (.inl ((t7.set (((t46.getD t48.toNat (dflt Y__2_int)).1).toNat) ((t7.getD (((t46.getD t48.toNat (dflt Y__2_int)).1).toNat) (dflt Y__2_int)).1, (((t46.getD t48.toNat (dflt Y__2_int)).2).1, ((t7.getD (((t46.getD t48.toNat (dflt Y__2_int)).1).toNat) (dflt Y__2_int)).2).2))), t46, t47, (IntKind.wrap .i64 (t48 + 1)), ()))
      else
        none
    else
      none
  else
    some (.inr (t7, ()))
noncomputable def w_S_l11Stand_13 : PV S__2_int × PV S__2_int × PV (.int .i64) × PV (.int .i64) × Unit → Option ((PV S__2_int × Unit)) := fix fun d => b_S_l11Stand_13 d.1 d.2.1 d.2.2.1 d.2.2.2.1
noncomputable def lp_S_l11Stand_13 : Lp := ⟨⟨[], [7, 46, 47, 48, 71, 72, 73], []⟩, sh_S_l11Stand_13, o_S_l11Stand_13, fun d => b_S_l11Stand_13 d.1 d.2.1 d.2.2.1 d.2.2.2.1⟩
noncomputable def sh_S_l11Stand_18 : List Sh := mkSh 81 [(7, .val S__2_int (.row (.pr .b (.pr .b .b)))), (60, .sub ⟨7, [], 0, 0⟩), (61, .val (.int .i64) .b), (62, .val (.int .i64) .b)]
noncomputable def o_S_l11Stand_18 : List Out := [⟨.exit 6, ⟨[], [7], []⟩, mkSh 81 [(7, .val S__2_int (.row (.pr .b (.pr .b .b))))]⟩]
noncomputable def b_S_l11Stand_18 (t7 : PV S__2_int) (t61 : PV (.int .i64)) (t62 : PV (.int .i64)) : Option ((PV S__2_int × PV (.int .i64) × PV (.int .i64) × Unit) ⊕ ((PV S__2_int × Unit))) :=
  bif (decide (t62 < t61)) then
    ((
        bif inB t62 t7.length then
          ((
              bif (decide (((t7.getD t62.toNat (dflt Y__2_int)).1) < 0)) then
                some (t7, t62, (t7.getD t62.toNat (dflt Y__2_int)), t61, t62, true, ())
              else
                some (t7, t62, (t7.getD t62.toNat (dflt Y__2_int)), t61, t62, (decide ((((t7.getD t62.toNat (dflt Y__2_int)).2).1) < 0)), ()) : Option ((PV S__2_int × PV (.int .i64) × PV Y__2_int × PV (.int .i64) × PV (.int .i64) × PV .bool × Unit)))).bind fun j15 =>
            bif j15.2.2.2.2.2.1 then
              bif inB j15.2.1 j15.1.length then
                some ((j15.1.set j15.2.1.toNat ((-1), ((-1), ()))), j15.2.2.2.1, j15.2.2.2.2.1, ())
              else
                none
            else
              some (j15.1, j15.2.2.2.1, j15.2.2.2.2.1, ())
        else
          none : Option ((PV S__2_int × PV (.int .i64) × PV (.int .i64) × Unit)))).bind fun j16 =>
      some (.inl (j16.1, j16.2.1, (IntKind.wrap .i64 (j16.2.2.1 + 1)), ()))
  else
    some (.inr (t7, ()))
noncomputable def w_S_l11Stand_18 : PV S__2_int × PV (.int .i64) × PV (.int .i64) × Unit → Option ((PV S__2_int × Unit)) := fix fun d => b_S_l11Stand_18 d.1 d.2.1 d.2.2.1
noncomputable def lp_S_l11Stand_18 : Lp := ⟨⟨[], [7, 60, 61, 62, 71, 72, 73], []⟩, sh_S_l11Stand_18, o_S_l11Stand_18, fun d => b_S_l11Stand_18 d.1 d.2.1 d.2.2.1⟩
noncomputable def pl_S_l11Stand : Plan := ⟨[(21, o_S_l11Stand_21), (22, o_S_l11Stand_22)], [(3, lp_S_l11Stand_3), (8, lp_S_l11Stand_8), (13, lp_S_l11Stand_13), (18, lp_S_l11Stand_18)], 0, 0⟩
noncomputable def f_S_l11Stand (t0 : PV S_string) (t1 : PV S_string) (t2 : PV S_string) : Option (PVs [S__2_int] × PVs []) :=
  bif decide (0 ≤ (t0.length : Int)) && (decide ((t0.length : Int) ≤ (t0.length : Int)) && roomB (t0.length : Int).toNat) then
    (w_S_l11Stand_3 (t0, t1, t2, (List.replicate (t0.length : Int).toNat (dflt Y__2_int)), ((List.replicate (t0.length : Int).toNat (dflt Y__2_int)).length : Int), 0, ())).bind fun l2 =>
      (f_S_l3Pairs l2.1 l2.2.1).bind fun r7 =>
        (w_S_l11Stand_8 (l2.1, l2.2.2.1, l2.2.2.2.1, r7.1.1, (r7.1.1.length : Int), 0, ())).bind fun l8 =>
          (f_S_l3Pairs l8.1 l8.2.1).bind fun r13 =>
            (w_S_l11Stand_13 (l8.2.2.1, r13.1.1, (r13.1.1.length : Int), 0, ())).bind fun l14 =>
              (w_S_l11Stand_18 (l14.1, (l14.1.length : Int), 0, ())).bind fun l18 =>
                some ((l18.1, ()), ())
  else
    none
noncomputable def ct_S_l11Stand : Ct := ⟨[(.bor, S_string), (.bor, S_string), (.bor, S_string)], [(S__2_int, (.row (.pr .b (.pr .b .b))))], fun x => f_S_l11Stand x.1 x.2.1 x.2.2.1⟩
noncomputable def cx_S_l11Stand : Cx := ⟨tab, arrs, [(165, ct_S_l3Pairs)], [], gl, []⟩
theorem eb_S_l11Stand_3 (t0 : PV S_string) (t1 : PV S_string) (t2 : PV S_string) (t7 : PV S__2_int) (t19 : PV (.int .i64)) (t20 : PV (.int .i64)) : denK cx_S_l11Stand (rcN cx_S_l11Stand 0) pl_S_l11Stand 0 ((loopsOf (bodyOf Try.f175)).getD 0 .skip) (fillS sh_S_l11Stand_3 (t0, t1, t2, t7, t19, t20, ())) (roundK 0 lp_S_l11Stand_3) = b_S_l11Stand_3 t0 t1 t2 t7 t19 t20 := by kernel_rfl
theorem eb_S_l11Stand_8 (t0 : PV S_string) (t2 : PV S_string) (t7 : PV S__2_int) (t30 : PV S__2_int) (t31 : PV (.int .i64)) (t32 : PV (.int .i64)) : denK cx_S_l11Stand (rcN cx_S_l11Stand 0) pl_S_l11Stand 0 ((loopsOf (bodyOf Try.f175)).getD 1 .skip) (fillS sh_S_l11Stand_8 (t0, t2, t7, t30, t31, t32, ())) (roundK 0 lp_S_l11Stand_8) = b_S_l11Stand_8 t0 t2 t7 t30 t31 t32 := by kernel_rfl
theorem eb_S_l11Stand_13 (t7 : PV S__2_int) (t46 : PV S__2_int) (t47 : PV (.int .i64)) (t48 : PV (.int .i64)) : denK cx_S_l11Stand (rcN cx_S_l11Stand 0) pl_S_l11Stand 0 ((loopsOf (bodyOf Try.f175)).getD 2 .skip) (fillS sh_S_l11Stand_13 (t7, t46, t47, t48, ())) (roundK 0 lp_S_l11Stand_13) = b_S_l11Stand_13 t7 t46 t47 t48 := by kernel_rfl
theorem eb_S_l11Stand_18 (t7 : PV S__2_int) (t61 : PV (.int .i64)) (t62 : PV (.int .i64)) : denK cx_S_l11Stand (rcN cx_S_l11Stand 0) pl_S_l11Stand 0 ((loopsOf (bodyOf Try.f175)).getD 3 .skip) (fillS sh_S_l11Stand_18 (t7, t61, t62, ())) (roundK 0 lp_S_l11Stand_18) = b_S_l11Stand_18 t7 t61 t62 := by kernel_rfl
theorem ef_S_l11Stand (t0 : PV S_string) (t1 : PV S_string) (t2 : PV S_string) : denF cx_S_l11Stand 0 pl_S_l11Stand Try.f175.ntmps (bodyOf Try.f175) Try.f175.results.toList [(.bor, S_string), (.bor, S_string), (.bor, S_string)] [(S__2_int, (.row (.pr .b (.pr .b .b))))] (t0, t1, t2, ()) = f_S_l11Stand t0 t1 t2 := by kernel_rfl
theorem ok_S_l11Stand : FnOk gl Try.prog 175 ct_S_l11Stand :=
  fnOk (cx := cx_S_l11Stand) (pl := pl_S_l11Stand) (dp := 0) (ok0_of tabOk (by unfold ArrOk; kernel_rfl) mix ⟨ok_S_l3Pairs, trivial⟩ trivial) Try.func175 (by kernel_rfl) (by kernel_rfl) (by kernel_rfl)
    (by rw [show loopsOf (bodyOf Try.f175) = [((loopsOf (bodyOf Try.f175)).getD 0 .skip), ((loopsOf (bodyOf Try.f175)).getD 1 .skip), ((loopsOf (bodyOf Try.f175)).getD 2 .skip), ((loopsOf (bodyOf Try.f175)).getD 3 .skip)] from by kernel_rfl]; exact ⟨(by rw [show lookup pl_S_l11Stand.loops (firstId ((loopsOf (bodyOf Try.f175)).getD 0 .skip)) = some lp_S_l11Stand_3 from by kernel_rfl]; exact fun d z h => (eb_S_l11Stand_3 d.1 d.2.1 d.2.2.1 d.2.2.2.1 d.2.2.2.2.1 d.2.2.2.2.2.1).trans h), (by rw [show lookup pl_S_l11Stand.loops (firstId ((loopsOf (bodyOf Try.f175)).getD 1 .skip)) = some lp_S_l11Stand_8 from by kernel_rfl]; exact fun d z h => (eb_S_l11Stand_8 d.1 d.2.1 d.2.2.1 d.2.2.2.1 d.2.2.2.2.1 d.2.2.2.2.2.1).trans h), (by rw [show lookup pl_S_l11Stand.loops (firstId ((loopsOf (bodyOf Try.f175)).getD 2 .skip)) = some lp_S_l11Stand_13 from by kernel_rfl]; exact fun d z h => (eb_S_l11Stand_13 d.1 d.2.1 d.2.2.1 d.2.2.2.1).trans h), (by rw [show lookup pl_S_l11Stand.loops (firstId ((loopsOf (bodyOf Try.f175)).getD 3 .skip)) = some lp_S_l11Stand_18 from by kernel_rfl]; exact fun d z h => (eb_S_l11Stand_18 d.1 d.2.1 d.2.2.1).trans h), trivial⟩) (fun x => ef_S_l11Stand x.1 x.2.1 x.2.2.1)
noncomputable def sh_S_l1SameT_4 : List Sh := mkSh 26 [(0, .val S_string .b), (1, .val S_string .b), (12, .val (.int .i64) .b), (13, .val (.int .i64) .b)]
noncomputable def o_S_l1SameT_4 : List Out := [⟨.exit 0, ⟨[], [], []⟩, mkSh 26 []⟩, ⟨.ret, ⟨[], [4], []⟩, mkSh 26 [(4, .val .bool .b)]⟩]
noncomputable def b_S_l1SameT_4 (t0 : PV S_string) (t1 : PV S_string) (t12 : PV (.int .i64)) (t13 : PV (.int .i64)) : Option ((PV S_string × PV S_string × PV (.int .i64) × PV (.int .i64) × Unit) ⊕ ((Unit) ⊕ (PV .bool × Unit))) :=
  bif (decide (t13 < t12)) then
    bif inB t13 t0.length then
      bif inB t13 t1.length then
        bif (!((t0.getD t13.toNat []) == (t1.getD t13.toNat []))) then
          some (.inr (.inr (false, ())))
        else
          some (.inl (t0, t1, t12, (IntKind.wrap .i64 (t13 + 1)), ()))
      else
        none
    else
      none
  else
    some (.inr (.inl ()))
noncomputable def w_S_l1SameT_4 : PV S_string × PV S_string × PV (.int .i64) × PV (.int .i64) × Unit → Option ((Unit) ⊕ (PV .bool × Unit)) := fix fun d => b_S_l1SameT_4 d.1 d.2.1 d.2.2.1 d.2.2.2.1
noncomputable def lp_S_l1SameT_4 : Lp := ⟨⟨[], [0, 1, 12, 13], []⟩, sh_S_l1SameT_4, o_S_l1SameT_4, fun d => b_S_l1SameT_4 d.1 d.2.1 d.2.2.1 d.2.2.2.1⟩
noncomputable def pl_S_l1SameT : Plan := ⟨[], [(4, lp_S_l1SameT_4)], 0, 0⟩
noncomputable def f_S_l1SameT (t0 : PV S_string) (t1 : PV S_string) : Option (PVs [.bool] × PVs []) :=
  bif (!((t0.length : Int) == (t1.length : Int))) then
    some ((false, ()), ())
  else
    (w_S_l1SameT_4 (t0, t1, (t0.length : Int), 0, ())).bind fun x5 =>
      match x5 with
      | .inl l3 =>
        some ((true, ()), ())
      | .inr l4 =>
        some ((l4.1, ()), ())
noncomputable def ct_S_l1SameT : Ct := ⟨[(.bor, S_string), (.bor, S_string)], [(.bool, .b)], fun x => f_S_l1SameT x.1 x.2.1⟩
noncomputable def cx_S_l1SameT : Cx := ⟨tab, arrs, [], [], gl, []⟩
theorem eb_S_l1SameT_4 (t0 : PV S_string) (t1 : PV S_string) (t12 : PV (.int .i64)) (t13 : PV (.int .i64)) : denK cx_S_l1SameT (rcN cx_S_l1SameT 0) pl_S_l1SameT 0 ((loopsOf (bodyOf Try.f83)).getD 0 .skip) (fillS sh_S_l1SameT_4 (t0, t1, t12, t13, ())) (roundK 0 lp_S_l1SameT_4) = b_S_l1SameT_4 t0 t1 t12 t13 := by kernel_rfl
theorem ef_S_l1SameT (t0 : PV S_string) (t1 : PV S_string) : denF cx_S_l1SameT 0 pl_S_l1SameT Try.f83.ntmps (bodyOf Try.f83) Try.f83.results.toList [(.bor, S_string), (.bor, S_string)] [(.bool, .b)] (t0, t1, ()) = f_S_l1SameT t0 t1 := by kernel_rfl
theorem ok_S_l1SameT : FnOk gl Try.prog 83 ct_S_l1SameT :=
  fnOk (cx := cx_S_l1SameT) (pl := pl_S_l1SameT) (dp := 0) (ok0_of tabOk (by unfold ArrOk; kernel_rfl) mix trivial trivial) Try.func83 (by kernel_rfl) (by kernel_rfl) (by kernel_rfl)
    (by rw [show loopsOf (bodyOf Try.f83) = [((loopsOf (bodyOf Try.f83)).getD 0 .skip)] from by kernel_rfl]; exact ⟨(by rw [show lookup pl_S_l1SameT.loops (firstId ((loopsOf (bodyOf Try.f83)).getD 0 .skip)) = some lp_S_l1SameT_4 from by kernel_rfl]; exact fun d z h => (eb_S_l1SameT_4 d.1 d.2.1 d.2.2.1 d.2.2.2.1).trans h), trivial⟩) (fun x => ef_S_l1SameT x.1 x.2.1)
noncomputable def o_S_l11Kind_3 : List Out := [⟨.normal, ⟨[], [1, 2, 7, 8, 15], []⟩, mkSh 28 [(1, .val S_string .b), (2, .val S_string .b), (7, .val .bool .b), (8, .val .bool .b), (15, .val .bool .b)]⟩]
noncomputable def pl_S_l11Kind : Plan := ⟨[(3, o_S_l11Kind_3)], [], 0, 0⟩
noncomputable def f_S_l11Kind (t0 : PV S_string) (t1 : PV S_string) (t2 : PV S_string) : Option (PVs [(.int .i64)] × PVs []) :=
  (f_S_l1SameT t0 t1).bind fun r3 =>
    (f_S_l1SameT t0 t2).bind fun r4 =>
      ((
          bif r3.1.1 then
            some (t1, t2, r3.1.1, r4.1.1, r4.1.1, ())
          else
            some (t1, t2, r3.1.1, r4.1.1, false, ()) : Option ((PV S_string × PV S_string × PV .bool × PV .bool × PV .bool × Unit)))).bind fun j8 =>
        bif j8.2.2.2.2.1 then
          some ((1, ()), ())
        else
          bif j8.2.2.2.1 then
            some ((2, ()), ())
          else
            bif j8.2.2.1 then
              some ((3, ()), ())
            else
              (f_S_l1SameT j8.1 j8.2.1).bind fun r10 =>
                bif r10.1.1 then
                  some ((4, ()), ())
                else
                  some ((5, ()), ())
noncomputable def ct_S_l11Kind : Ct := ⟨[(.bor, S_string), (.bor, S_string), (.bor, S_string)], [((.int .i64), .b)], fun x => f_S_l11Kind x.1 x.2.1 x.2.2.1⟩
noncomputable def cx_S_l11Kind : Cx := ⟨tab, arrs, [(83, ct_S_l1SameT)], [], gl, []⟩
theorem ef_S_l11Kind (t0 : PV S_string) (t1 : PV S_string) (t2 : PV S_string) : denF cx_S_l11Kind 0 pl_S_l11Kind Try.f209.ntmps (bodyOf Try.f209) Try.f209.results.toList [(.bor, S_string), (.bor, S_string), (.bor, S_string)] [((.int .i64), .b)] (t0, t1, t2, ()) = f_S_l11Kind t0 t1 t2 := by kernel_rfl
theorem ok_S_l11Kind : FnOk gl Try.prog 209 ct_S_l11Kind :=
  fnOk (cx := cx_S_l11Kind) (pl := pl_S_l11Kind) (dp := 0) (ok0_of tabOk (by unfold ArrOk; kernel_rfl) mix ⟨ok_S_l1SameT, trivial⟩ trivial) Try.func209 (by kernel_rfl) (by kernel_rfl) (by kernel_rfl)
    (by rw [show loopsOf (bodyOf Try.f209) = [] from by kernel_rfl]; exact trivial) (fun x => ef_S_l11Kind x.1 x.2.1 x.2.2.1)
noncomputable def pl_S_l1OwnT : Plan := ⟨[], [], 0, 0⟩
noncomputable def f_S_l1OwnT (t0 : PV S_string) : Option (PVs [S_string] × PVs []) :=
  bif roomB (([] : PV S_string).length + t0.length) then
    some (((([] : PV S_string) ++ t0), ()), ())
  else
    none
noncomputable def ct_S_l1OwnT : Ct := ⟨[(.bor, S_string)], [(S_string, (.row .b))], fun x => f_S_l1OwnT x.1⟩
noncomputable def cx_S_l1OwnT : Cx := ⟨tab, arrs, [], [], gl, []⟩
theorem ef_S_l1OwnT (t0 : PV S_string) : denF cx_S_l1OwnT 0 pl_S_l1OwnT Try.f158.ntmps (bodyOf Try.f158) Try.f158.results.toList [(.bor, S_string)] [(S_string, (.row .b))] (t0, ()) = f_S_l1OwnT t0 := by kernel_rfl
theorem ok_S_l1OwnT : FnOk gl Try.prog 158 ct_S_l1OwnT :=
  fnOk (cx := cx_S_l1OwnT) (pl := pl_S_l1OwnT) (dp := 0) (ok0_of tabOk (by unfold ArrOk; kernel_rfl) mix trivial trivial) Try.func158 (by kernel_rfl) (by kernel_rfl) (by kernel_rfl)
    (by rw [show loopsOf (bodyOf Try.f158) = [] from by kernel_rfl]; exact trivial) (fun x => ef_S_l1OwnT x.1)
noncomputable def pl_S_l11Part : Plan := ⟨[], [], 0, 0⟩
noncomputable def f_S_l11Part (t0 : PV S_string) (t1 : PV S_string) (t2 : PV S_string) (t3 : PV (.int .i64)) (t4 : PV (.int .i64)) : Option (PVs [Y_impl_Part] × PVs []) :=
  (f_S_l11Kind t0 t1 t2).bind fun r1 =>
    (f_S_l1OwnT t1).bind fun r2 =>
      (f_S_l1OwnT t2).bind fun r3 =>
        some (((r1.1.1, (t3, (t4, (r2.1.1, (r3.1.1, ()))))), ()), ())
noncomputable def ct_S_l11Part : Ct := ⟨[(.bor, S_string), (.bor, S_string), (.bor, S_string), (.bor, (.int .i64)), (.bor, (.int .i64))], [(Y_impl_Part, (.pr .b (.pr .b (.pr .b (.pr (.row .b) (.pr (.row .b) .b))))))], fun x => f_S_l11Part x.1 x.2.1 x.2.2.1 x.2.2.2.1 x.2.2.2.2.1⟩
noncomputable def cx_S_l11Part : Cx := ⟨tab, arrs, [(158, ct_S_l1OwnT), (209, ct_S_l11Kind)], [], gl, []⟩
theorem ef_S_l11Part (t0 : PV S_string) (t1 : PV S_string) (t2 : PV S_string) (t3 : PV (.int .i64)) (t4 : PV (.int .i64)) : denF cx_S_l11Part 0 pl_S_l11Part Try.f176.ntmps (bodyOf Try.f176) Try.f176.results.toList [(.bor, S_string), (.bor, S_string), (.bor, S_string), (.bor, (.int .i64)), (.bor, (.int .i64))] [(Y_impl_Part, (.pr .b (.pr .b (.pr .b (.pr (.row .b) (.pr (.row .b) .b))))))] (t0, t1, t2, t3, t4, ()) = f_S_l11Part t0 t1 t2 t3 t4 := by kernel_rfl
theorem ok_S_l11Part : FnOk gl Try.prog 176 ct_S_l11Part :=
  fnOk (cx := cx_S_l11Part) (pl := pl_S_l11Part) (dp := 0) (ok0_of tabOk (by unfold ArrOk; kernel_rfl) mix ⟨ok_S_l1OwnT, ok_S_l11Kind, trivial⟩ trivial) Try.func176 (by kernel_rfl) (by kernel_rfl) (by kernel_rfl)
    (by rw [show loopsOf (bodyOf Try.f176) = [] from by kernel_rfl]; exact trivial) (fun x => ef_S_l11Part x.1 x.2.1 x.2.2.1 x.2.2.2.1 x.2.2.2.2.1)
noncomputable def o_S_l11Parts_5 : List Out := [⟨.exit 0, ⟨[], [8], []⟩, mkSh 152 [(8, .val S_impl_Part (.row (.pr .b (.pr .b (.pr .b (.pr (.row .b) (.pr (.row .b) .b)))))))]⟩, ⟨.normal, ⟨[], [0, 1, 2, 7, 8, 9, 10, 11, 43, 44, 45, 46, 47, 48, 49, 50, 51, 52, 53, 54, 55, 56, 103, 104, 105, 106, 107, 108], []⟩, mkSh 152 [(0, .val S_string .b), (1, .val S_string .b), (2, .val S_string .b), (7, .val S__2_int (.row (.pr .b (.pr .b .b)))), (8, .val S_impl_Part (.row (.pr .b (.pr .b (.pr .b (.pr (.row .b) (.pr (.row .b) .b))))))), (9, .val (.int .i64) .b), (10, .val (.int .i64) .b), (11, .val (.int .i64) .b)]⟩]
noncomputable def o_S_l11Parts_20 : List Out := [⟨.normal, ⟨[], [0, 1, 2, 7, 8, 9, 10, 11, 13, 14, 15, 25, 26, 27, 28, 31, 32, 33, 34, 43, 44, 45, 46, 47, 48, 49, 50, 51, 52, 53, 54, 55, 56, 103, 104, 105, 106, 107, 108], []⟩, mkSh 152 [(0, .val S_string .b), (1, .val S_string .b), (2, .val S_string .b), (7, .val S__2_int (.row (.pr .b (.pr .b .b)))), (8, .val S_impl_Part (.row (.pr .b (.pr .b (.pr .b (.pr (.row .b) (.pr (.row .b) .b))))))), (9, .val (.int .i64) .b), (10, .val (.int .i64) .b), (11, .val (.int .i64) .b), (13, .val (.int .i64) .b), (14, .val (.int .i64) .b), (15, .val (.int .i64) .b)]⟩]
noncomputable def sh_S_l11Parts_6 : List Sh := mkSh 152 [(0, .val S_string .b), (1, .val S_string .b), (2, .val S_string .b), (7, .val S__2_int (.row (.pr .b (.pr .b .b)))), (8, .val S_impl_Part (.row (.pr .b (.pr .b (.pr .b (.pr (.row .b) (.pr (.row .b) .b))))))), (9, .val (.int .i64) .b), (10, .val (.int .i64) .b), (11, .val (.int .i64) .b), (12, .val (.int .i64) .b)]
noncomputable def o_S_l11Parts_6 : List Out := [⟨.exit 2, ⟨[], [0, 1, 2, 7, 8, 9, 10, 11, 12, 25, 26, 27, 28, 31, 32, 33, 34, 103, 104, 105, 106, 107, 108], []⟩, mkSh 152 [(0, .val S_string .b), (1, .val S_string .b), (2, .val S_string .b), (7, .val S__2_int (.row (.pr .b (.pr .b .b)))), (8, .val S_impl_Part (.row (.pr .b (.pr .b (.pr .b (.pr (.row .b) (.pr (.row .b) .b))))))), (9, .val (.int .i64) .b), (10, .val (.int .i64) .b), (11, .val (.int .i64) .b), (12, .val (.int .i64) .b)]⟩]
noncomputable def b_S_l11Parts_6 (t0 : PV S_string) (t1 : PV S_string) (t2 : PV S_string) (t7 : PV S__2_int) (t8 : PV S_impl_Part) (t9 : PV (.int .i64)) (t10 : PV (.int .i64)) (t11 : PV (.int .i64)) (t12 : PV (.int .i64)) : Option ((PV S_string × PV S_string × PV S_string × PV S__2_int × PV S_impl_Part × PV (.int .i64) × PV (.int .i64) × PV (.int .i64) × PV (.int .i64) × Unit) ⊕ ((PV S_string × PV S_string × PV S_string × PV S__2_int × PV S_impl_Part × PV (.int .i64) × PV (.int .i64) × PV (.int .i64) × PV (.int .i64) × Unit))) :=
  bif (decide ((IntKind.wrap .i64 (t9 + t12)) < (t0.length : Int))) then
    bif inB (IntKind.wrap .i64 (t9 + t12)) t7.length then
      bif (((t7.getD ((IntKind.wrap .i64 (t9 + t12)).toNat) (dflt Y__2_int)).1 == (IntKind.wrap .i64 (t10 + t12))) && (((t7.getD ((IntKind.wrap .i64 (t9 + t12)).toNat) (dflt Y__2_int)).2).1 == (IntKind.wrap .i64 (t11 + t12)))) then
        some (.inl (t0, t1, t2, t7, t8, t9, t10, t11, (IntKind.wrap .i64 (t12 + 1)), ()))
      else
        some (.inr (t0, t1, t2, t7, t8, t9, t10, t11, t12, ()))
    else
      none
  else
    some (.inr (t0, t1, t2, t7, t8, t9, t10, t11, t12, ()))
noncomputable def w_S_l11Parts_6 : PV S_string × PV S_string × PV S_string × PV S__2_int × PV S_impl_Part × PV (.int .i64) × PV (.int .i64) × PV (.int .i64) × PV (.int .i64) × Unit → Option ((PV S_string × PV S_string × PV S_string × PV S__2_int × PV S_impl_Part × PV (.int .i64) × PV (.int .i64) × PV (.int .i64) × PV (.int .i64) × Unit)) := fix fun d => b_S_l11Parts_6 d.1 d.2.1 d.2.2.1 d.2.2.2.1 d.2.2.2.2.1 d.2.2.2.2.2.1 d.2.2.2.2.2.2.1 d.2.2.2.2.2.2.2.1 d.2.2.2.2.2.2.2.2.1
noncomputable def lp_S_l11Parts_6 : Lp := ⟨⟨[], [0, 1, 2, 7, 8, 9, 10, 11, 12, 25, 26, 27, 28, 31, 32, 33, 34, 103, 104, 105, 106, 107, 108], []⟩, sh_S_l11Parts_6, o_S_l11Parts_6, fun d => b_S_l11Parts_6 d.1 d.2.1 d.2.2.1 d.2.2.2.1 d.2.2.2.2.1 d.2.2.2.2.2.1 d.2.2.2.2.2.2.1 d.2.2.2.2.2.2.2.1 d.2.2.2.2.2.2.2.2.1⟩
noncomputable def sh_S_l11Parts_14 : List Sh := mkSh 152 [(0, .val S_string .b), (1, .val S_string .b), (2, .val S_string .b), (7, .val S__2_int (.row (.pr .b (.pr .b .b)))), (8, .val S_impl_Part (.row (.pr .b (.pr .b (.pr .b (.pr (.row .b) (.pr (.row .b) .b))))))), (9, .val (.int .i64) .b), (10, .val (.int .i64) .b), (11, .val (.int .i64) .b), (13, .val (.int .i64) .b)]
noncomputable def o_S_l11Parts_14 : List Out := [⟨.exit 4, ⟨[], [0, 1, 2, 7, 8, 9, 10, 11, 13, 25, 26, 27, 28, 31, 32, 33, 34, 43, 44, 45, 46, 47, 48, 49, 50, 51, 52, 53, 54, 55, 56], []⟩, mkSh 152 [(0, .val S_string .b), (1, .val S_string .b), (2, .val S_string .b), (7, .val S__2_int (.row (.pr .b (.pr .b .b)))), (8, .val S_impl_Part (.row (.pr .b (.pr .b (.pr .b (.pr (.row .b) (.pr (.row .b) .b))))))), (9, .val (.int .i64) .b), (10, .val (.int .i64) .b), (11, .val (.int .i64) .b), (13, .val (.int .i64) .b)]⟩]
noncomputable def b_S_l11Parts_14 (t0 : PV S_string) (t1 : PV S_string) (t2 : PV S_string) (t7 : PV S__2_int) (t8 : PV S_impl_Part) (t9 : PV (.int .i64)) (t10 : PV (.int .i64)) (t11 : PV (.int .i64)) (t13 : PV (.int .i64)) : Option ((PV S_string × PV S_string × PV S_string × PV S__2_int × PV S_impl_Part × PV (.int .i64) × PV (.int .i64) × PV (.int .i64) × PV (.int .i64) × Unit) ⊕ ((PV S_string × PV S_string × PV S_string × PV S__2_int × PV S_impl_Part × PV (.int .i64) × PV (.int .i64) × PV (.int .i64) × PV (.int .i64) × Unit))) :=
  bif (decide (t13 < (t0.length : Int))) then
    bif inB t13 t7.length then
      bif (decide (((t7.getD t13.toNat (dflt Y__2_int)).1) < 0)) then
        some (.inl (t0, t1, t2, t7, t8, t9, t10, t11, (IntKind.wrap .i64 (t13 + 1)), ()))
      else
        some (.inr (t0, t1, t2, t7, t8, t9, t10, t11, t13, ()))
    else
      none
  else
    some (.inr (t0, t1, t2, t7, t8, t9, t10, t11, t13, ()))
noncomputable def w_S_l11Parts_14 : PV S_string × PV S_string × PV S_string × PV S__2_int × PV S_impl_Part × PV (.int .i64) × PV (.int .i64) × PV (.int .i64) × PV (.int .i64) × Unit → Option ((PV S_string × PV S_string × PV S_string × PV S__2_int × PV S_impl_Part × PV (.int .i64) × PV (.int .i64) × PV (.int .i64) × PV (.int .i64) × Unit)) := fix fun d => b_S_l11Parts_14 d.1 d.2.1 d.2.2.1 d.2.2.2.1 d.2.2.2.2.1 d.2.2.2.2.2.1 d.2.2.2.2.2.2.1 d.2.2.2.2.2.2.2.1 d.2.2.2.2.2.2.2.2.1
noncomputable def lp_S_l11Parts_14 : Lp := ⟨⟨[], [0, 1, 2, 7, 8, 9, 10, 11, 13, 25, 26, 27, 28, 31, 32, 33, 34, 43, 44, 45, 46, 47, 48, 49, 50, 51, 52, 53, 54, 55, 56], []⟩, sh_S_l11Parts_14, o_S_l11Parts_14, fun d => b_S_l11Parts_14 d.1 d.2.1 d.2.2.1 d.2.2.2.1 d.2.2.2.2.1 d.2.2.2.2.2.1 d.2.2.2.2.2.2.1 d.2.2.2.2.2.2.2.1 d.2.2.2.2.2.2.2.2.1⟩
noncomputable def sh_S_l11Parts_4 : List Sh := mkSh 152 [(0, .val S_string .b), (1, .val S_string .b), (2, .val S_string .b), (7, .val S__2_int (.row (.pr .b (.pr .b .b)))), (8, .val S_impl_Part (.row (.pr .b (.pr .b (.pr .b (.pr (.row .b) (.pr (.row .b) .b))))))), (9, .val (.int .i64) .b), (10, .val (.int .i64) .b), (11, .val (.int .i64) .b)]
noncomputable def o_S_l11Parts_4 : List Out := [⟨.exit 0, ⟨[], [8], []⟩, mkSh 152 [(8, .val S_impl_Part (.row (.pr .b (.pr .b (.pr .b (.pr (.row .b) (.pr (.row .b) .b)))))))]⟩]
noncomputable def b_S_l11Parts_4 (t0 : PV S_string) (t1 : PV S_string) (t2 : PV S_string) (t7 : PV S__2_int) (t8 : PV S_impl_Part) (t9 : PV (.int .i64)) (t10 : PV (.int .i64)) (t11 : PV (.int .i64)) : Option ((PV S_string × PV S_string × PV S_string × PV S__2_int × PV S_impl_Part × PV (.int .i64) × PV (.int .i64) × PV (.int .i64) × Unit) ⊕ ((PV S_impl_Part × Unit))) :=
  ((
      bif (decide (t9 < (t0.length : Int))) then
        some (.inr (t0, t1, t2, t7, t8, t9, t10, t11, ()))
      else
        bif (decide (t10 < (t1.length : Int))) then
          some (.inr (t0, t1, t2, t7, t8, t9, t10, t11, ()))
        else
          bif (decide (t11 < (t2.length : Int))) then
            some (.inr (t0, t1, t2, t7, t8, t9, t10, t11, ()))
          else
            some (.inl (t8, ())) : Option ((PV S_impl_Part × Unit) ⊕ (PV S_string × PV S_string × PV S_string × PV S__2_int × PV S_impl_Part × PV (.int .i64) × PV (.int .i64) × PV (.int .i64) × Unit)))).bind fun x18 =>
    match x18 with
    | .inl j3 =>
      some (.inr (j3.1, ()))
    | .inr j4 =>
      (w_S_l11Parts_6 (j4.1, j4.2.1, j4.2.2.1, j4.2.2.2.1, j4.2.2.2.2.1, j4.2.2.2.2.2.1, j4.2.2.2.2.2.2.1, j4.2.2.2.2.2.2.2.1, 0, ())).bind fun l6 =>
        bif (decide (l6.2.2.2.2.2.2.2.2.1 > 0)) then
          bif cutB l6.2.2.2.2.2.1 (IntKind.wrap .i64 (l6.2.2.2.2.2.1 + l6.2.2.2.2.2.2.2.2.1)) l6.1.length then
            bif cutB l6.2.2.2.2.2.2.1 (IntKind.wrap .i64 (l6.2.2.2.2.2.2.1 + l6.2.2.2.2.2.2.2.2.1)) l6.2.1.length then
              bif cutB l6.2.2.2.2.2.2.2.1 (IntKind.wrap .i64 (l6.2.2.2.2.2.2.2.1 + l6.2.2.2.2.2.2.2.2.1)) l6.2.2.1.length then
                (f_S_l11Part (cutL l6.2.2.2.2.2.1 (IntKind.wrap .i64 (l6.2.2.2.2.2.1 + l6.2.2.2.2.2.2.2.2.1)) l6.1) (cutL l6.2.2.2.2.2.2.1 (IntKind.wrap .i64 (l6.2.2.2.2.2.2.1 + l6.2.2.2.2.2.2.2.2.1)) l6.2.1) (cutL l6.2.2.2.2.2.2.2.1 (IntKind.wrap .i64 (l6.2.2.2.2.2.2.2.1 + l6.2.2.2.2.2.2.2.2.1)) l6.2.2.1) l6.2.2.2.2.2.1 (IntKind.wrap .i64 (l6.2.2.2.2.2.1 + l6.2.2.2.2.2.2.2.2.1))).bind fun r10 =>
                  bif roomB (l6.2.2.2.2.1.length + [r10.1.1].length) then
                    some (.inl (l6.1, l6.2.1, l6.2.2.1, l6.2.2.2.1, (l6.2.2.2.2.1 ++ [r10.1.1]), (IntKind.wrap .i64 (l6.2.2.2.2.2.1 + l6.2.2.2.2.2.2.2.2.1)), (IntKind.wrap .i64 (l6.2.2.2.2.2.2.1 + l6.2.2.2.2.2.2.2.2.1)), (IntKind.wrap .i64 (l6.2.2.2.2.2.2.2.1 + l6.2.2.2.2.2.2.2.2.1)), ()))
                  else
                    none
              else
                none
            else
              none
          else
            none
        else
          (w_S_l11Parts_14 (l6.1, l6.2.1, l6.2.2.1, l6.2.2.2.1, l6.2.2.2.2.1, l6.2.2.2.2.2.1, l6.2.2.2.2.2.2.1, l6.2.2.2.2.2.2.2.1, l6.2.2.2.2.2.1, ())).bind fun l12 =>
            ((
                bif (decide (l12.2.2.2.2.2.2.2.2.1 < (l12.1.length : Int))) then
                  bif inB l12.2.2.2.2.2.2.2.2.1 l12.2.2.2.1.length then
                    bif inB l12.2.2.2.2.2.2.2.2.1 l12.2.2.2.1.length then
                      some (l12.1, l12.2.1, l12.2.2.1, l12.2.2.2.1, l12.2.2.2.2.1, l12.2.2.2.2.2.1, l12.2.2.2.2.2.2.1, l12.2.2.2.2.2.2.2.1, l12.2.2.2.2.2.2.2.2.1, (l12.2.2.2.1.getD l12.2.2.2.2.2.2.2.2.1.toNat (dflt Y__2_int)).1, ((l12.2.2.2.1.getD l12.2.2.2.2.2.2.2.2.1.toNat (dflt Y__2_int)).2).1, ())
                    else
                      none
                  else
                    none
                else
                  some (l12.1, l12.2.1, l12.2.2.1, l12.2.2.2.1, l12.2.2.2.2.1, l12.2.2.2.2.2.1, l12.2.2.2.2.2.2.1, l12.2.2.2.2.2.2.2.1, l12.2.2.2.2.2.2.2.2.1, (l12.2.1.length : Int), (l12.2.2.1.length : Int), ()) : Option ((PV S_string × PV S_string × PV S_string × PV S__2_int × PV S_impl_Part × PV (.int .i64) × PV (.int .i64) × PV (.int .i64) × PV (.int .i64) × PV (.int .i64) × PV (.int .i64) × Unit)))).bind fun j13 =>
              bif cutB j13.2.2.2.2.2.1 j13.2.2.2.2.2.2.2.2.1 j13.1.length then
                bif cutB j13.2.2.2.2.2.2.1 j13.2.2.2.2.2.2.2.2.2.1 j13.2.1.length then
                  bif cutB j13.2.2.2.2.2.2.2.1 j13.2.2.2.2.2.2.2.2.2.2.1 j13.2.2.1.length then
                    (f_S_l11Part (cutL j13.2.2.2.2.2.1 j13.2.2.2.2.2.2.2.2.1 j13.1) (cutL j13.2.2.2.2.2.2.1 j13.2.2.2.2.2.2.2.2.2.1 j13.2.1) (cutL j13.2.2.2.2.2.2.2.1 j13.2.2.2.2.2.2.2.2.2.2.1 j13.2.2.1) j13.2.2.2.2.2.1 j13.2.2.2.2.2.2.2.2.1).bind fun r15 =>
                      bif roomB (j13.2.2.2.2.1.length + [r15.1.1].length) then
                        some (.inl (j13.1, j13.2.1, j13.2.2.1, j13.2.2.2.1, (j13.2.2.2.2.1 ++ [r15.1.1]), j13.2.2.2.2.2.2.2.2.1, j13.2.2.2.2.2.2.2.2.2.1, j13.2.2.2.2.2.2.2.2.2.2.1, ()))
                      else
                        none
                  else
                    none
                else
                  none
              else
                none
noncomputable def w_S_l11Parts_4 : PV S_string × PV S_string × PV S_string × PV S__2_int × PV S_impl_Part × PV (.int .i64) × PV (.int .i64) × PV (.int .i64) × Unit → Option ((PV S_impl_Part × Unit)) := fix fun d => b_S_l11Parts_4 d.1 d.2.1 d.2.2.1 d.2.2.2.1 d.2.2.2.2.1 d.2.2.2.2.2.1 d.2.2.2.2.2.2.1 d.2.2.2.2.2.2.2.1
noncomputable def lp_S_l11Parts_4 : Lp := ⟨⟨[], [0, 1, 2, 7, 8, 9, 10, 11, 25, 26, 27, 28, 31, 32, 33, 34, 43, 44, 45, 46, 47, 48, 49, 50, 51, 52, 53, 54, 55, 56, 103, 104, 105, 106, 107, 108], []⟩, sh_S_l11Parts_4, o_S_l11Parts_4, fun d => b_S_l11Parts_4 d.1 d.2.1 d.2.2.1 d.2.2.2.1 d.2.2.2.2.1 d.2.2.2.2.2.1 d.2.2.2.2.2.2.1 d.2.2.2.2.2.2.2.1⟩
noncomputable def pl_S_l11Parts : Plan := ⟨[(5, o_S_l11Parts_5), (20, o_S_l11Parts_20)], [(6, lp_S_l11Parts_6), (14, lp_S_l11Parts_14), (4, lp_S_l11Parts_4)], 0, 0⟩
noncomputable def f_S_l11Parts (t0 : PV S_string) (t1 : PV S_string) (t2 : PV S_string) : Option (PVs [S_impl_Part] × PVs []) :=
  (f_S_l11Stand t0 t1 t2).bind fun r2 =>
    (w_S_l11Parts_4 (t0, t1, t2, r2.1.1, [], 0, 0, 0, ())).bind fun l17 =>
      some ((l17.1, ()), ())
noncomputable def ct_S_l11Parts : Ct := ⟨[(.bor, S_string), (.bor, S_string), (.bor, S_string)], [(S_impl_Part, .b)], fun x => f_S_l11Parts x.1 x.2.1 x.2.2.1⟩
noncomputable def cx_S_l11Parts : Cx := ⟨tab, arrs, [(175, ct_S_l11Stand), (176, ct_S_l11Part)], [], gl, []⟩
theorem eb_S_l11Parts_4 (t0 : PV S_string) (t1 : PV S_string) (t2 : PV S_string) (t7 : PV S__2_int) (t8 : PV S_impl_Part) (t9 : PV (.int .i64)) (t10 : PV (.int .i64)) (t11 : PV (.int .i64)) : denK cx_S_l11Parts (rcN cx_S_l11Parts 0) pl_S_l11Parts 0 ((loopsOf (bodyOf Try.f124)).getD 0 .skip) (fillS sh_S_l11Parts_4 (t0, t1, t2, t7, t8, t9, t10, t11, ())) (roundK 0 lp_S_l11Parts_4) = b_S_l11Parts_4 t0 t1 t2 t7 t8 t9 t10 t11 := by kernel_rfl
theorem eb_S_l11Parts_6 (t0 : PV S_string) (t1 : PV S_string) (t2 : PV S_string) (t7 : PV S__2_int) (t8 : PV S_impl_Part) (t9 : PV (.int .i64)) (t10 : PV (.int .i64)) (t11 : PV (.int .i64)) (t12 : PV (.int .i64)) : denK cx_S_l11Parts (rcN cx_S_l11Parts 0) pl_S_l11Parts 0 ((loopsOf (bodyOf Try.f124)).getD 1 .skip) (fillS sh_S_l11Parts_6 (t0, t1, t2, t7, t8, t9, t10, t11, t12, ())) (roundK 0 lp_S_l11Parts_6) = b_S_l11Parts_6 t0 t1 t2 t7 t8 t9 t10 t11 t12 := by kernel_rfl
theorem eb_S_l11Parts_14 (t0 : PV S_string) (t1 : PV S_string) (t2 : PV S_string) (t7 : PV S__2_int) (t8 : PV S_impl_Part) (t9 : PV (.int .i64)) (t10 : PV (.int .i64)) (t11 : PV (.int .i64)) (t13 : PV (.int .i64)) : denK cx_S_l11Parts (rcN cx_S_l11Parts 0) pl_S_l11Parts 0 ((loopsOf (bodyOf Try.f124)).getD 2 .skip) (fillS sh_S_l11Parts_14 (t0, t1, t2, t7, t8, t9, t10, t11, t13, ())) (roundK 0 lp_S_l11Parts_14) = b_S_l11Parts_14 t0 t1 t2 t7 t8 t9 t10 t11 t13 := by kernel_rfl
theorem ef_S_l11Parts (t0 : PV S_string) (t1 : PV S_string) (t2 : PV S_string) : denF cx_S_l11Parts 0 pl_S_l11Parts Try.f124.ntmps (bodyOf Try.f124) Try.f124.results.toList [(.bor, S_string), (.bor, S_string), (.bor, S_string)] [(S_impl_Part, .b)] (t0, t1, t2, ()) = f_S_l11Parts t0 t1 t2 := by kernel_rfl
theorem ok_S_l11Parts : FnOk gl Try.prog 124 ct_S_l11Parts :=
  fnOk (cx := cx_S_l11Parts) (pl := pl_S_l11Parts) (dp := 0) (ok0_of tabOk (by unfold ArrOk; kernel_rfl) mix ⟨ok_S_l11Stand, ok_S_l11Part, trivial⟩ trivial) Try.func124 (by kernel_rfl) (by kernel_rfl) (by kernel_rfl)
    (by rw [show loopsOf (bodyOf Try.f124) = [((loopsOf (bodyOf Try.f124)).getD 0 .skip), ((loopsOf (bodyOf Try.f124)).getD 1 .skip), ((loopsOf (bodyOf Try.f124)).getD 2 .skip)] from by kernel_rfl]; exact ⟨(by rw [show lookup pl_S_l11Parts.loops (firstId ((loopsOf (bodyOf Try.f124)).getD 0 .skip)) = some lp_S_l11Parts_4 from by kernel_rfl]; exact fun d z h => (eb_S_l11Parts_4 d.1 d.2.1 d.2.2.1 d.2.2.2.1 d.2.2.2.2.1 d.2.2.2.2.2.1 d.2.2.2.2.2.2.1 d.2.2.2.2.2.2.2.1).trans h), (by rw [show lookup pl_S_l11Parts.loops (firstId ((loopsOf (bodyOf Try.f124)).getD 1 .skip)) = some lp_S_l11Parts_6 from by kernel_rfl]; exact fun d z h => (eb_S_l11Parts_6 d.1 d.2.1 d.2.2.1 d.2.2.2.1 d.2.2.2.2.1 d.2.2.2.2.2.1 d.2.2.2.2.2.2.1 d.2.2.2.2.2.2.2.1 d.2.2.2.2.2.2.2.2.1).trans h), (by rw [show lookup pl_S_l11Parts.loops (firstId ((loopsOf (bodyOf Try.f124)).getD 2 .skip)) = some lp_S_l11Parts_14 from by kernel_rfl]; exact fun d z h => (eb_S_l11Parts_14 d.1 d.2.1 d.2.2.1 d.2.2.2.1 d.2.2.2.2.1 d.2.2.2.2.2.1 d.2.2.2.2.2.2.1 d.2.2.2.2.2.2.2.1 d.2.2.2.2.2.2.2.2.1).trans h), trivial⟩) (fun x => ef_S_l11Parts x.1 x.2.1 x.2.2.1)
noncomputable def pl_S_l11Taken : Plan := ⟨[], [], 0, 0⟩
noncomputable def f_S_l11Taken (t0 : PV Y_impl_Part) : Option (PVs [S_string] × PVs []) :=
  bif (t0.1 == 3) then
    some ((t0.2.2.2.2.1, ()), ())
  else
    some ((t0.2.2.2.1, ()), ())
noncomputable def ct_S_l11Taken : Ct := ⟨[(.bor, Y_impl_Part)], [(S_string, .b)], fun x => f_S_l11Taken x.1⟩
noncomputable def cx_S_l11Taken : Cx := ⟨tab, arrs, [], [], gl, []⟩
theorem ef_S_l11Taken (t0 : PV Y_impl_Part) : denF cx_S_l11Taken 0 pl_S_l11Taken Try.f125.ntmps (bodyOf Try.f125) Try.f125.results.toList [(.bor, Y_impl_Part)] [(S_string, .b)] (t0, ()) = f_S_l11Taken t0 := by kernel_rfl
theorem ok_S_l11Taken : FnOk gl Try.prog 125 ct_S_l11Taken :=
  fnOk (cx := cx_S_l11Taken) (pl := pl_S_l11Taken) (dp := 0) (ok0_of tabOk (by unfold ArrOk; kernel_rfl) mix trivial trivial) Try.func125 (by kernel_rfl) (by kernel_rfl) (by kernel_rfl)
    (by rw [show loopsOf (bodyOf Try.f125) = [] from by kernel_rfl]; exact trivial) (fun x => ef_S_l11Taken x.1)
noncomputable def sh_S_Merge_5 : List Sh := mkSh 37 [(8, .val S_string (.row .b)), (19, .val S_impl_Part .b), (20, .val (.int .i64) .b), (21, .val (.int .i64) .b)]
noncomputable def o_S_Merge_5 : List Out := [⟨.exit 0, ⟨[], [8], []⟩, mkSh 37 [(8, .val S_string (.row .b))]⟩, ⟨.ret, ⟨[], [6, 7], []⟩, mkSh 37 [(6, .val S_string (.row .b)), (7, .val .bool .b)]⟩]
noncomputable def b_S_Merge_5 (t8 : PV S_string) (t19 : PV S_impl_Part) (t20 : PV (.int .i64)) (t21 : PV (.int .i64)) : Option ((PV S_string × PV S_impl_Part × PV (.int .i64) × PV (.int .i64) × Unit) ⊕ ((PV S_string × Unit) ⊕ (PV S_string × PV .bool × Unit))) :=
  bif (decide (t21 < t20)) then
    bif inB t21 t19.length then
      bif (((t19.getD t21.toNat (dflt Y_impl_Part)).1) == 5) then
        some (.inr (.inr ([], false, ())))
      else
        (f_S_l11Taken (t19.getD t21.toNat (dflt Y_impl_Part))).bind fun r8 =>
          bif roomB (t8.length + r8.1.1.length) then
            some (.inl ((t8 ++ r8.1.1), t19, t20, (IntKind.wrap .i64 (t21 + 1)), ()))
          else
            none
    else
      none
  else
    some (.inr (.inl (t8, ())))
noncomputable def w_S_Merge_5 : PV S_string × PV S_impl_Part × PV (.int .i64) × PV (.int .i64) × Unit → Option ((PV S_string × Unit) ⊕ (PV S_string × PV .bool × Unit)) := fix fun d => b_S_Merge_5 d.1 d.2.1 d.2.2.1 d.2.2.2.1
noncomputable def lp_S_Merge_5 : Lp := ⟨⟨[], [8, 19, 20, 21], []⟩, sh_S_Merge_5, o_S_Merge_5, fun d => b_S_Merge_5 d.1 d.2.1 d.2.2.1 d.2.2.2.1⟩
noncomputable def pl_S_Merge : Plan := ⟨[], [(5, lp_S_Merge_5)], 0, 0⟩
noncomputable def f_S_Merge (t0 : PV S_string) (t1 : PV S_string) (t2 : PV S_string) : Option (PVs [S_string, .bool] × PVs []) :=
  (f_S_l11Three t0 t1 t2).bind fun r4 =>
    bif (!r4.1.1) then
      some (([], false, ()), ())
    else
      (f_S_l11Parts t0 t1 t2).bind fun r12 =>
        (w_S_Merge_5 ([], r12.1.1, (r12.1.1.length : Int), 0, ())).bind fun x19 =>
          match x19 with
          | .inl l13 =>
            (f_S_l1Good l13.1).bind fun r17 =>
              bif (!r17.1.1) then
                some (([], false, ()), ())
              else
                some ((l13.1, true, ()), ())
          | .inr l18 =>
            some ((l18.1, l18.2.1, ()), ())
noncomputable def ct_S_Merge : Ct := ⟨[(.bor, S_string), (.bor, S_string), (.bor, S_string)], [(S_string, (.row .b)), (.bool, .b)], fun x => f_S_Merge x.1 x.2.1 x.2.2.1⟩
noncomputable def cx_S_Merge : Cx := ⟨tab, arrs, [(123, ct_S_l11Three), (124, ct_S_l11Parts), (125, ct_S_l11Taken), (126, ct_S_l1Good)], [], gl, []⟩
theorem eb_S_Merge_5 (t8 : PV S_string) (t19 : PV S_impl_Part) (t20 : PV (.int .i64)) (t21 : PV (.int .i64)) : denK cx_S_Merge (rcN cx_S_Merge 0) pl_S_Merge 0 ((loopsOf (bodyOf Try.f55)).getD 0 .skip) (fillS sh_S_Merge_5 (t8, t19, t20, t21, ())) (roundK 0 lp_S_Merge_5) = b_S_Merge_5 t8 t19 t20 t21 := by kernel_rfl
theorem ef_S_Merge (t0 : PV S_string) (t1 : PV S_string) (t2 : PV S_string) : denF cx_S_Merge 0 pl_S_Merge Try.f55.ntmps (bodyOf Try.f55) Try.f55.results.toList [(.bor, S_string), (.bor, S_string), (.bor, S_string)] [(S_string, (.row .b)), (.bool, .b)] (t0, t1, t2, ()) = f_S_Merge t0 t1 t2 := by kernel_rfl
theorem ok_S_Merge : FnOk gl Try.prog 55 ct_S_Merge :=
  fnOk (cx := cx_S_Merge) (pl := pl_S_Merge) (dp := 0) (ok0_of tabOk (by unfold ArrOk; kernel_rfl) mix ⟨ok_S_l11Three, ok_S_l11Parts, ok_S_l11Taken, ok_S_l1Good, trivial⟩ trivial) Try.func55 (by kernel_rfl) (by kernel_rfl) (by kernel_rfl)
    (by rw [show loopsOf (bodyOf Try.f55) = [((loopsOf (bodyOf Try.f55)).getD 0 .skip)] from by kernel_rfl]; exact ⟨(by rw [show lookup pl_S_Merge.loops (firstId ((loopsOf (bodyOf Try.f55)).getD 0 .skip)) = some lp_S_Merge_5 from by kernel_rfl]; exact fun d z h => (eb_S_Merge_5 d.1 d.2.1 d.2.2.1 d.2.2.2.1).trans h), trivial⟩) (fun x => ef_S_Merge x.1 x.2.1 x.2.2.1)
noncomputable def pl_I_in : Plan := ⟨[], [], 0, 0⟩
noncomputable def f_I_in (t0 : PV (.int .i64)) (t1 : PV (.int .i64)) (t2 : PV (.int .i64)) : Option (PVs [.bool] × PVs []) :=
  bif (decide (t0 ≥ t1)) then
    some (((decide (t0 ≤ t2)), ()), ())
  else
    some ((false, ()), ())
noncomputable def ct_I_in : Ct := ⟨[(.bor, (.int .i64)), (.bor, (.int .i64)), (.bor, (.int .i64))], [(.bool, .b)], fun x => f_I_in x.1 x.2.1 x.2.2.1⟩
noncomputable def cx_I_in : Cx := ⟨tab, arrs, [], [], gl, []⟩
theorem ef_I_in (t0 : PV (.int .i64)) (t1 : PV (.int .i64)) (t2 : PV (.int .i64)) : denF cx_I_in 0 pl_I_in Try.f95.ntmps (bodyOf Try.f95) Try.f95.results.toList [(.bor, (.int .i64)), (.bor, (.int .i64)), (.bor, (.int .i64))] [(.bool, .b)] (t0, t1, t2, ()) = f_I_in t0 t1 t2 := by kernel_rfl
theorem ok_I_in : FnOk gl Try.prog 95 ct_I_in :=
  fnOk (cx := cx_I_in) (pl := pl_I_in) (dp := 0) (ok0_of tabOk (by unfold ArrOk; kernel_rfl) mix trivial trivial) Try.func95 (by kernel_rfl) (by kernel_rfl) (by kernel_rfl)
    (by rw [show loopsOf (bodyOf Try.f95) = [] from by kernel_rfl]; exact trivial) (fun x => ef_I_in x.1 x.2.1 x.2.2.1)
noncomputable def pl_I_isLine : Plan := ⟨[], [], 0, 0⟩
noncomputable def f_I_isLine (t0 : PV .str) : Option (PVs [.bool] × PVs []) :=
  (f_I_in (t0.length : Int) 1 30).bind fun r1 =>
    bif r1.1.1 then
      bif cutB 0 (IntKind.wrap .i64 ((t0.length : Int) - 1)) t0.length then
        (f_strings_Contains (cutL 0 (IntKind.wrap .i64 ((t0.length : Int) - 1)) t0) [10]).bind fun r2 =>
          some (((!r2.1.1), ()), ())
      else
        none
    else
      some ((false, ()), ())
noncomputable def ct_I_isLine : Ct := ⟨[(.bor, .str)], [(.bool, .b)], fun x => f_I_isLine x.1⟩
noncomputable def cx_I_isLine : Cx := ⟨tab, arrs, [(95, ct_I_in), (220, ct_strings_Contains)], [], gl, []⟩
theorem ef_I_isLine (t0 : PV .str) : denF cx_I_isLine 0 pl_I_isLine Try.f197.ntmps (bodyOf Try.f197) Try.f197.results.toList [(.bor, .str)] [(.bool, .b)] (t0, ()) = f_I_isLine t0 := by kernel_rfl
theorem ok_I_isLine : FnOk gl Try.prog 197 ct_I_isLine :=
  fnOk (cx := cx_I_isLine) (pl := pl_I_isLine) (dp := 0) (ok0_of tabOk (by unfold ArrOk; kernel_rfl) mix ⟨ok_I_in, ok_strings_Contains, trivial⟩ trivial) Try.func197 (by kernel_rfl) (by kernel_rfl) (by kernel_rfl)
    (by rw [show loopsOf (bodyOf Try.f197) = [] from by kernel_rfl]; exact trivial) (fun x => ef_I_isLine x.1)
noncomputable def pl_I_areLines_1 : Plan := ⟨[], [], 0, 0⟩
noncomputable def f_I_areLines_1 (t0 : PV .str) : Option (PVs [.bool] × PVs []) :=
  (f_I_isLine t0).bind fun r1 =>
    some (((!r1.1.1), ()), ())
noncomputable def ct_I_areLines_1 : Ct := ⟨[(.bor, .str)], [(.bool, .b)], fun x => f_I_areLines_1 x.1⟩
noncomputable def cx_I_areLines_1 : Cx := ⟨tab, arrs, [(197, ct_I_isLine)], [], gl, []⟩
theorem ef_I_areLines_1 (t0 : PV .str) : denF cx_I_areLines_1 0 pl_I_areLines_1 Try.f201.ntmps (bodyOf Try.f201) Try.f201.results.toList [(.bor, .str)] [(.bool, .b)] (t0, ()) = f_I_areLines_1 t0 := by kernel_rfl
theorem ok_I_areLines_1 : FnOk gl Try.prog 201 ct_I_areLines_1 :=
  fnOk (cx := cx_I_areLines_1) (pl := pl_I_areLines_1) (dp := 0) (ok0_of tabOk (by unfold ArrOk; kernel_rfl) mix ⟨ok_I_isLine, trivial⟩ trivial) Try.func201 (by kernel_rfl) (by kernel_rfl) (by kernel_rfl)
    (by rw [show loopsOf (bodyOf Try.f201) = [] from by kernel_rfl]; exact trivial) (fun x => ef_I_areLines_1 x.1)
noncomputable def pl_I_areLines_200 : Plan := ⟨[], [], 1, 11⟩
noncomputable def sh_I_areLines_221_2 : List Sh := mkSh 39 [(0, .val S_string .b), (2, .val .bool .b), (3, .val S_string .b), (4, .val (.int .i64) .b), (5, .val .bool .b), (6, .val .bool .b), (7, .val S_string .b), (11, .val S_string .b), (12, .fn 201 []), (15, .val .bool .b), (16, .val S_string .b), (17, .fn 201 []), (20, .val S_string .b), (21, .fn 201 []), (27, .val (.int .i64) .b), (28, .val (.int .i64) .b)]
noncomputable def o_I_areLines_221_2 : List Out := [⟨.exit 0, ⟨[], [], []⟩, mkSh 39 [(0, .val S_string .b), (2, .val .bool .b), (3, .val S_string .b), (4, .val (.int .i64) .b), (5, .val .bool .b), (6, .val .bool .b), (7, .val S_string .b), (11, .val S_string .b), (12, .fn 201 []), (15, .val .bool .b), (16, .val S_string .b), (17, .fn 201 [])]⟩, ⟨.ret, ⟨[], [4], []⟩, mkSh 39 [(0, .val S_string .b), (2, .val .bool .b), (3, .val S_string .b), (4, .val (.int .i64) .b), (5, .val .bool .b), (6, .val .bool .b), (7, .val S_string .b), (11, .val S_string .b), (12, .fn 201 []), (15, .val .bool .b), (16, .val S_string .b), (17, .fn 201 []), (24, .val (.int .i64) .b)]⟩]
noncomputable def b_I_areLines_221_2 (t0 : PV S_string) (t2 : PV .bool) (t3 : PV S_string) (t4 : PV (.int .i64)) (t5 : PV .bool) (t6 : PV .bool) (t7 : PV S_string) (t11 : PV S_string) (t15 : PV .bool) (t16 : PV S_string) (t20 : PV S_string) (t27 : PV (.int .i64)) (t28 : PV (.int .i64)) : Option ((PV S_string × PV .bool × PV S_string × PV (.int .i64) × PV .bool × PV .bool × PV S_string × PV S_string × PV .bool × PV S_string × PV S_string × PV (.int .i64) × PV (.int .i64) × Unit) ⊕ ((PV S_string × PV .bool × PV S_string × PV (.int .i64) × PV .bool × PV .bool × PV S_string × PV S_string × PV .bool × PV S_string × Unit) ⊕ (PV S_string × PV .bool × PV S_string × PV (.int .i64) × PV .bool × PV .bool × PV S_string × PV S_string × PV .bool × PV S_string × PV (.int .i64) × Unit))) :=
  bif (decide (t28 < t27)) then
    bif inB t28 t20.length then
      (f_I_areLines_1 (t20.getD t28.toNat [])).bind fun r4 =>
        bif r4.1.1 then
          some (.inr (.inr (t0, t2, t3, t4, t5, t6, t7, t11, t15, t16, t28, ())))
        else
          some (.inl (t0, t2, t3, t4, t5, t6, t7, t11, t15, t16, t20, t27, (IntKind.wrap .i64 (t28 + 1)), ()))
    else
      none
  else
    some (.inr (.inl (t0, t2, t3, t4, t5, t6, t7, t11, t15, t16, ())))
noncomputable def w_I_areLines_221_2 : PV S_string × PV .bool × PV S_string × PV (.int .i64) × PV .bool × PV .bool × PV S_string × PV S_string × PV .bool × PV S_string × PV S_string × PV (.int .i64) × PV (.int .i64) × Unit → Option ((PV S_string × PV .bool × PV S_string × PV (.int .i64) × PV .bool × PV .bool × PV S_string × PV S_string × PV .bool × PV S_string × Unit) ⊕ (PV S_string × PV .bool × PV S_string × PV (.int .i64) × PV .bool × PV .bool × PV S_string × PV S_string × PV .bool × PV S_string × PV (.int .i64) × Unit)) := fix fun d => b_I_areLines_221_2 d.1 d.2.1 d.2.2.1 d.2.2.2.1 d.2.2.2.2.1 d.2.2.2.2.2.1 d.2.2.2.2.2.2.1 d.2.2.2.2.2.2.2.1 d.2.2.2.2.2.2.2.2.1 d.2.2.2.2.2.2.2.2.2.1 d.2.2.2.2.2.2.2.2.2.2.1 d.2.2.2.2.2.2.2.2.2.2.2.1 d.2.2.2.2.2.2.2.2.2.2.2.2.1
noncomputable def lp_I_areLines_221_2 : Lp := ⟨⟨[], [0, 1, 7, 8], []⟩, sh_I_areLines_221_2, o_I_areLines_221_2, fun d => b_I_areLines_221_2 d.1 d.2.1 d.2.2.1 d.2.2.2.1 d.2.2.2.2.1 d.2.2.2.2.2.1 d.2.2.2.2.2.2.1 d.2.2.2.2.2.2.2.1 d.2.2.2.2.2.2.2.2.1 d.2.2.2.2.2.2.2.2.2.1 d.2.2.2.2.2.2.2.2.2.2.1 d.2.2.2.2.2.2.2.2.2.2.2.1 d.2.2.2.2.2.2.2.2.2.2.2.2.1⟩
noncomputable def pl_I_areLines_221 : Plan := ⟨[], [(2, lp_I_areLines_221_2)], 0, 20⟩
noncomputable def pl_I_areLines : Plan := ⟨[], [], 2, 0⟩
noncomputable def f_I_areLines (t0 : PV S_string) : Option (PVs [.bool] × PVs []) :=
  bif (decide ((t0.length : Int) ≤ 40)) then
    (w_I_areLines_221_2 (t0, false, t0, (t0.length : Int), (decide ((t0.length : Int) ≤ 40)), true, t0, t0, false, t0, t0, (t0.length : Int), 0, ())).bind fun x9 =>
      match x9 with
      | .inl l7 =>
        bif l7.2.2.2.2.2.1 then
          some (((!(decide ((-1) ≥ 0))), ()), ())
        else
          some ((false, ()), ())
      | .inr l8 =>
        bif l8.2.2.2.2.2.1 then
          some (((!(decide (l8.2.2.2.2.2.2.2.2.2.2.1 ≥ 0))), ()), ())
        else
          some ((false, ()), ())
  else
    some ((false, ()), ())
noncomputable def ct_I_areLines : Ct := ⟨[(.bor, S_string)], [(.bool, .b)], fun x => f_I_areLines x.1⟩
noncomputable def cx_I_areLines : Cx := ⟨tab, arrs, [(201, ct_I_areLines_1)], [(200, Try.f200, pl_I_areLines_200), (221, Try.f221, pl_I_areLines_221)], gl, []⟩
theorem eb_I_areLines_221_2 (t0 : PV S_string) (t2 : PV .bool) (t3 : PV S_string) (t4 : PV (.int .i64)) (t5 : PV .bool) (t6 : PV .bool) (t7 : PV S_string) (t11 : PV S_string) (t15 : PV .bool) (t16 : PV S_string) (t20 : PV S_string) (t27 : PV (.int .i64)) (t28 : PV (.int .i64)) : denK cx_I_areLines (rcN cx_I_areLines 0) pl_I_areLines_221 20 ((loopsOf (bodyOf Try.f221)).getD 0 .skip) (fillS sh_I_areLines_221_2 (t0, t2, t3, t4, t5, t6, t7, t11, t15, t16, t20, t27, t28, ())) (roundK 20 lp_I_areLines_221_2) = b_I_areLines_221_2 t0 t2 t3 t4 t5 t6 t7 t11 t15 t16 t20 t27 t28 := by kernel_rfl
theorem ef_I_areLines (t0 : PV S_string) : denF cx_I_areLines 2 pl_I_areLines Try.f164.ntmps (bodyOf Try.f164) Try.f164.results.toList [(.bor, S_string)] [(.bool, .b)] (t0, ()) = f_I_areLines t0 := by kernel_rfl
theorem ok_I_areLines : FnOk gl Try.prog 164 ct_I_areLines :=
  fnOk (cx := cx_I_areLines) (pl := pl_I_areLines) (dp := 2) (ok0_of tabOk (by unfold ArrOk; kernel_rfl) mix ⟨ok_I_areLines_1, trivial⟩ ⟨⟨Try.func200, by kernel_rfl, (by rw [show loopsOf (bodyOf Try.f200) = [] from by kernel_rfl]; exact trivial)⟩, ⟨Try.func221, by kernel_rfl, (by rw [show loopsOf (bodyOf Try.f221) = [((loopsOf (bodyOf Try.f221)).getD 0 .skip)] from by kernel_rfl]; exact ⟨(by rw [show lookup pl_I_areLines_221.loops (firstId ((loopsOf (bodyOf Try.f221)).getD 0 .skip)) = some lp_I_areLines_221_2 from by kernel_rfl]; exact fun d z h => (eb_I_areLines_221_2 d.1 d.2.1 d.2.2.1 d.2.2.2.1 d.2.2.2.2.1 d.2.2.2.2.2.1 d.2.2.2.2.2.2.1 d.2.2.2.2.2.2.2.1 d.2.2.2.2.2.2.2.2.1 d.2.2.2.2.2.2.2.2.2.1 d.2.2.2.2.2.2.2.2.2.2.1 d.2.2.2.2.2.2.2.2.2.2.2.1 d.2.2.2.2.2.2.2.2.2.2.2.2.1).trans h), trivial⟩)⟩, trivial⟩) Try.func164 (by kernel_rfl) (by kernel_rfl) (by kernel_rfl)
    (by rw [show loopsOf (bodyOf Try.f164) = [] from by kernel_rfl]; exact trivial) (fun x => ef_I_areLines x.1)
noncomputable def pl_internal_stringslite_HasSuffix : Plan := ⟨[], [], 0, 0⟩
noncomputable def f_internal_stringslite_HasSuffix (t0 : PV .str) (t1 : PV .str) : Option (PVs [.bool] × PVs []) :=
  bif (decide ((t0.length : Int) ≥ (t1.length : Int))) then
    bif cutB (IntKind.wrap .i64 ((t0.length : Int) - (t1.length : Int))) (t0.length : Int) t0.length then
      some ((((cutL (IntKind.wrap .i64 ((t0.length : Int) - (t1.length : Int))) (t0.length : Int) t0) == t1), ()), ())
    else
      none
  else
    some ((false, ()), ())
noncomputable def ct_internal_stringslite_HasSuffix : Ct := ⟨[(.bor, .str), (.bor, .str)], [(.bool, .b)], fun x => f_internal_stringslite_HasSuffix x.1 x.2.1⟩
noncomputable def cx_internal_stringslite_HasSuffix : Cx := ⟨tab, arrs, [], [], gl, []⟩
theorem ef_internal_stringslite_HasSuffix (t0 : PV .str) (t1 : PV .str) : denF cx_internal_stringslite_HasSuffix 0 pl_internal_stringslite_HasSuffix Try.f225.ntmps (bodyOf Try.f225) Try.f225.results.toList [(.bor, .str), (.bor, .str)] [(.bool, .b)] (t0, t1, ()) = f_internal_stringslite_HasSuffix t0 t1 := by kernel_rfl
theorem ok_internal_stringslite_HasSuffix : FnOk gl Try.prog 225 ct_internal_stringslite_HasSuffix :=
  fnOk (cx := cx_internal_stringslite_HasSuffix) (pl := pl_internal_stringslite_HasSuffix) (dp := 0) (ok0_of tabOk (by unfold ArrOk; kernel_rfl) mix trivial trivial) Try.func225 (by kernel_rfl) (by kernel_rfl) (by kernel_rfl)
    (by rw [show loopsOf (bodyOf Try.f225) = [] from by kernel_rfl]; exact trivial) (fun x => ef_internal_stringslite_HasSuffix x.1 x.2.1)
noncomputable def pl_strings_HasSuffix : Plan := ⟨[], [], 0, 0⟩
noncomputable def f_strings_HasSuffix (t0 : PV .str) (t1 : PV .str) : Option (PVs [.bool] × PVs []) :=
  (f_internal_stringslite_HasSuffix t0 t1).bind fun r1 =>
    some ((r1.1.1, ()), ())
noncomputable def ct_strings_HasSuffix : Ct := ⟨[(.bor, .str), (.bor, .str)], [(.bool, .b)], fun x => f_strings_HasSuffix x.1 x.2.1⟩
noncomputable def cx_strings_HasSuffix : Cx := ⟨tab, arrs, [(225, ct_internal_stringslite_HasSuffix)], [], gl, []⟩
theorem ef_strings_HasSuffix (t0 : PV .str) (t1 : PV .str) : denF cx_strings_HasSuffix 0 pl_strings_HasSuffix Try.f206.ntmps (bodyOf Try.f206) Try.f206.results.toList [(.bor, .str), (.bor, .str)] [(.bool, .b)] (t0, t1, ()) = f_strings_HasSuffix t0 t1 := by kernel_rfl
theorem ok_strings_HasSuffix : FnOk gl Try.prog 206 ct_strings_HasSuffix :=
  fnOk (cx := cx_strings_HasSuffix) (pl := pl_strings_HasSuffix) (dp := 0) (ok0_of tabOk (by unfold ArrOk; kernel_rfl) mix ⟨ok_internal_stringslite_HasSuffix, trivial⟩ trivial) Try.func206 (by kernel_rfl) (by kernel_rfl) (by kernel_rfl)
    (by rw [show loopsOf (bodyOf Try.f206) = [] from by kernel_rfl]; exact trivial) (fun x => ef_strings_HasSuffix x.1 x.2.1)
noncomputable def pl_I_isEnded : Plan := ⟨[], [], 0, 0⟩
noncomputable def f_I_isEnded (t0 : PV .str) : Option (PVs [.bool] × PVs []) :=
  (f_strings_HasSuffix t0 [10]).bind fun r1 =>
    some ((r1.1.1, ()), ())
noncomputable def ct_I_isEnded : Ct := ⟨[(.bor, .str)], [(.bool, .b)], fun x => f_I_isEnded x.1⟩
noncomputable def cx_I_isEnded : Cx := ⟨tab, arrs, [(206, ct_strings_HasSuffix)], [], gl, []⟩
theorem ef_I_isEnded (t0 : PV .str) : denF cx_I_isEnded 0 pl_I_isEnded Try.f170.ntmps (bodyOf Try.f170) Try.f170.results.toList [(.bor, .str)] [(.bool, .b)] (t0, ()) = f_I_isEnded t0 := by kernel_rfl
theorem ok_I_isEnded : FnOk gl Try.prog 170 ct_I_isEnded :=
  fnOk (cx := cx_I_isEnded) (pl := pl_I_isEnded) (dp := 0) (ok0_of tabOk (by unfold ArrOk; kernel_rfl) mix ⟨ok_strings_HasSuffix, trivial⟩ trivial) Try.func170 (by kernel_rfl) (by kernel_rfl) (by kernel_rfl)
    (by rw [show loopsOf (bodyOf Try.f170) = [] from by kernel_rfl]; exact trivial) (fun x => ef_I_isEnded x.1)
noncomputable def o_I_goodLines_7 : List Out := [⟨.normal, ⟨[], [0, 8, 9, 10, 24], []⟩, mkSh 26 [(0, .val S_string .b), (8, .val S_string .b), (9, .val (.int .i64) .b), (10, .val (.int .i64) .b), (24, .val .bool .b)]⟩]
noncomputable def sh_I_goodLines_4 : List Sh := mkSh 26 [(0, .val S_string .b), (8, .val S_string .b), (9, .val (.int .i64) .b), (10, .val (.int .i64) .b)]
noncomputable def o_I_goodLines_4 : List Out := [⟨.exit 0, ⟨[], [], []⟩, mkSh 26 []⟩, ⟨.ret, ⟨[], [2], []⟩, mkSh 26 [(2, .val .bool .b)]⟩]
noncomputable def b_I_goodLines_4 (t0 : PV S_string) (t8 : PV S_string) (t9 : PV (.int .i64)) (t10 : PV (.int .i64)) : Option ((PV S_string × PV S_string × PV (.int .i64) × PV (.int .i64) × Unit) ⊕ ((Unit) ⊕ (PV .bool × Unit))) :=
  bif (decide (t10 < t9)) then
    bif inB t10 t8.length then
      ((
          bif (decide (t10 < (IntKind.wrap .i64 ((t0.length : Int) - 1)))) then
            (f_I_isEnded (t8.getD t10.toNat [])).bind fun r7 =>
              some (t0, t8, t9, t10, (!r7.1.1), ())
          else
            some (t0, t8, t9, t10, false, ()) : Option ((PV S_string × PV S_string × PV (.int .i64) × PV (.int .i64) × PV .bool × Unit)))).bind fun j8 =>
        bif j8.2.2.2.2.1 then
          some (.inr (.inr (false, ())))
        else
          some (.inl (j8.1, j8.2.1, j8.2.2.1, (IntKind.wrap .i64 (j8.2.2.2.1 + 1)), ()))
    else
      none
  else
    some (.inr (.inl ()))
noncomputable def w_I_goodLines_4 : PV S_string × PV S_string × PV (.int .i64) × PV (.int .i64) × Unit → Option ((Unit) ⊕ (PV .bool × Unit)) := fix fun d => b_I_goodLines_4 d.1 d.2.1 d.2.2.1 d.2.2.2.1
noncomputable def lp_I_goodLines_4 : Lp := ⟨⟨[], [0, 8, 9, 10, 21, 22, 23], []⟩, sh_I_goodLines_4, o_I_goodLines_4, fun d => b_I_goodLines_4 d.1 d.2.1 d.2.2.1 d.2.2.2.1⟩
noncomputable def pl_I_goodLines : Plan := ⟨[(7, o_I_goodLines_7)], [(4, lp_I_goodLines_4)], 0, 0⟩
noncomputable def f_I_goodLines (t0 : PV S_string) : Option (PVs [.bool] × PVs []) :=
  (f_I_areLines t0).bind fun r4 =>
    bif (!r4.1.1) then
      some ((false, ()), ())
    else
      (w_I_goodLines_4 (t0, t0, (t0.length : Int), 0, ())).bind fun x13 =>
        match x13 with
        | .inl l11 =>
          some ((true, ()), ())
        | .inr l12 =>
          some ((l12.1, ()), ())
noncomputable def ct_I_goodLines : Ct := ⟨[(.bor, S_string)], [(.bool, .b)], fun x => f_I_goodLines x.1⟩
noncomputable def cx_I_goodLines : Cx := ⟨tab, arrs, [(164, ct_I_areLines), (170, ct_I_isEnded)], [], gl, []⟩
theorem eb_I_goodLines_4 (t0 : PV S_string) (t8 : PV S_string) (t9 : PV (.int .i64)) (t10 : PV (.int .i64)) : denK cx_I_goodLines (rcN cx_I_goodLines 0) pl_I_goodLines 0 ((loopsOf (bodyOf Try.f129)).getD 0 .skip) (fillS sh_I_goodLines_4 (t0, t8, t9, t10, ())) (roundK 0 lp_I_goodLines_4) = b_I_goodLines_4 t0 t8 t9 t10 := by kernel_rfl
theorem ef_I_goodLines (t0 : PV S_string) : denF cx_I_goodLines 0 pl_I_goodLines Try.f129.ntmps (bodyOf Try.f129) Try.f129.results.toList [(.bor, S_string)] [(.bool, .b)] (t0, ()) = f_I_goodLines t0 := by kernel_rfl
theorem ok_I_goodLines : FnOk gl Try.prog 129 ct_I_goodLines :=
  fnOk (cx := cx_I_goodLines) (pl := pl_I_goodLines) (dp := 0) (ok0_of tabOk (by unfold ArrOk; kernel_rfl) mix ⟨ok_I_areLines, ok_I_isEnded, trivial⟩ trivial) Try.func129 (by kernel_rfl) (by kernel_rfl) (by kernel_rfl)
    (by rw [show loopsOf (bodyOf Try.f129) = [((loopsOf (bodyOf Try.f129)).getD 0 .skip)] from by kernel_rfl]; exact ⟨(by rw [show lookup pl_I_goodLines.loops (firstId ((loopsOf (bodyOf Try.f129)).getD 0 .skip)) = some lp_I_goodLines_4 from by kernel_rfl]; exact fun d z h => (eb_I_goodLines_4 d.1 d.2.1 d.2.2.1 d.2.2.2.1).trans h), trivial⟩) (fun x => ef_I_goodLines x.1)
noncomputable def o_I_common_9 : List Out := [⟨.normal, ⟨[], [0, 1, 5, 6, 7], []⟩, mkSh 90 [(0, .val S_string .b), (1, .val S_string .b), (5, .val S_S_int (.row (.row .b))), (6, .val (.int .i64) .b), (7, .val (.int .i64) .b)]⟩]
noncomputable def sh_I_common_8 : List Sh := mkSh 90 [(0, .val S_string .b), (1, .val S_string .b), (5, .val S_S_int (.row (.row .b))), (6, .val (.int .i64) .b), (7, .val (.int .i64) .b)]
noncomputable def o_I_common_8 : List Out := [⟨.exit 2, ⟨[], [0, 1, 5, 6], []⟩, mkSh 90 [(0, .val S_string .b), (1, .val S_string .b), (5, .val S_S_int (.row (.row .b))), (6, .val (.int .i64) .b)]⟩]
noncomputable def b_I_common_8 (t0 : PV S_string) (t1 : PV S_string) (t5 : PV S_S_int) (t6 : PV (.int .i64)) (t7 : PV (.int .i64)) : Option ((PV S_string × PV S_string × PV S_S_int × PV (.int .i64) × PV (.int .i64) × Unit) ⊕ ((PV S_string × PV S_string × PV S_S_int × PV (.int .i64) × Unit))) :=
  bif (decide (t7 ≥ 0)) then
    ((
        bif inB t6 t0.length then
          bif inB t7 t1.length then
            bif ((t0.getD t6.toNat []) == (t1.getD t7.toNat [])) then
              bif inB t6 t5.length then
                bif inB (IntKind.wrap .i64 (t6 + 1)) t5.length then
                  bif inB (IntKind.wrap .i64 (t7 + 1)) (t5.getD ((IntKind.wrap .i64 (t6 + 1)).toNat) []).length then
                    bif inB t7 (t5.getD t6.toNat []).length then
                      some (t0, t1, (t5.set t6.toNat ((t5.getD t6.toNat []).set t7.toNat (IntKind.wrap .i64 (((t5.getD ((IntKind.wrap .i64 (t6 + 1)).toNat) []).getD ((IntKind.wrap .i64 (t7 + 1)).toNat) (0 : Int)) + 1)))), t6, t7, ())
                    else
                      none
                  else
                    none
                else
                  none
              else
                none
            else
              bif inB t6 t5.length then
                bif inB (IntKind.wrap .i64 (t6 + 1)) t5.length then
                  bif inB t7 (t5.getD ((IntKind.wrap .i64 (t6 + 1)).toNat) []).length then
                    bif inB t6 t5.length then
                      bif inB (IntKind.wrap .i64 (t7 + 1)) (t5.getD t6.toNat []).length then
                        bif inB t7 (t5.getD t6.toNat []).length then
                          some (t0, t1, (t5.set t6.toNat ((t5.getD t6.toNat []).set t7.toNat (bif decide (((t5.getD t6.toNat []).getD ((IntKind.wrap .i64 (t7 + 1)).toNat) (0 : Int)) > ((t5.getD ((IntKind.wrap .i64 (t6 + 1)).toNat) []).getD t7.toNat (0 : Int))) then ((t5.getD t6.toNat []).getD ((IntKind.wrap .i64 (t7 + 1)).toNat) (0 : Int)) else ((t5.getD ((IntKind.wrap .i64 (t6 + 1)).toNat) []).getD t7.toNat (0 : Int))))), t6, t7, ())
                        else
                          none
                      else
                        none
                    else
                      none
                  else
                    none
                else
                  none
              else
                none
          else
            none
        else
          none : Option ((PV S_string × PV S_string × PV S_S_int × PV (.int .i64) × PV (.int .i64) × Unit)))).bind fun j1 =>
      some (.inl (j1.1, j1.2.1, j1.2.2.1, j1.2.2.2.1, (IntKind.wrap .i64 (j1.2.2.2.2.1 - 1)), ()))
  else
    some (.inr (t0, t1, t5, t6, ()))
noncomputable def w_I_common_8 : PV S_string × PV S_string × PV S_S_int × PV (.int .i64) × PV (.int .i64) × Unit → Option ((PV S_string × PV S_string × PV S_S_int × PV (.int .i64) × Unit)) := fix fun d => b_I_common_8 d.1 d.2.1 d.2.2.1 d.2.2.2.1 d.2.2.2.2.1
noncomputable def lp_I_common_8 : Lp := ⟨⟨[], [0, 1, 5, 6, 7], []⟩, sh_I_common_8, o_I_common_8, fun d => b_I_common_8 d.1 d.2.1 d.2.2.1 d.2.2.2.1 d.2.2.2.2.1⟩
noncomputable def sh_I_common_4 : List Sh := mkSh 90 [(0, .val S_string .b), (1, .val S_string .b), (5, .val S_S_int (.row (.row .b))), (6, .val (.int .i64) .b)]
noncomputable def o_I_common_4 : List Out := [⟨.exit 0, ⟨[], [5], []⟩, mkSh 90 [(5, .val S_S_int (.row (.row .b)))]⟩]
noncomputable def b_I_common_4 (t0 : PV S_string) (t1 : PV S_string) (t5 : PV S_S_int) (t6 : PV (.int .i64)) : Option ((PV S_string × PV S_string × PV S_S_int × PV (.int .i64) × Unit) ⊕ ((PV S_S_int × Unit))) :=
  bif (decide (t6 ≥ 0)) then
    bif decide (0 ≤ (IntKind.wrap .i64 ((t1.length : Int) + 1))) && (decide ((IntKind.wrap .i64 ((t1.length : Int) + 1)) ≤ (IntKind.wrap .i64 ((t1.length : Int) + 1))) && roomB (IntKind.wrap .i64 ((t1.length : Int) + 1)).toNat) then
      bif inB t6 t5.length then
        (w_I_common_8 (t0, t1, (t5.set t6.toNat (List.replicate (IntKind.wrap .i64 ((t1.length : Int) + 1)).toNat (0 : Int))), t6, (IntKind.wrap .i64 ((t1.length : Int) - 1)), ())).bind fun l2 =>
          some (.inl (l2.1, l2.2.1, l2.2.2.1, (IntKind.wrap .i64 (l2.2.2.2.1 - 1)), ()))
      else
        none
    else
      none
  else
    some (.inr (t5, ()))
noncomputable def w_I_common_4 : PV S_string × PV S_string × PV S_S_int × PV (.int .i64) × Unit → Option ((PV S_S_int × Unit)) := fix fun d => b_I_common_4 d.1 d.2.1 d.2.2.1 d.2.2.2.1
noncomputable def lp_I_common_4 : Lp := ⟨⟨[], [0, 1, 5, 6], []⟩, sh_I_common_4, o_I_common_4, fun d => b_I_common_4 d.1 d.2.1 d.2.2.1 d.2.2.2.1⟩
noncomputable def pl_I_common : Plan := ⟨[(9, o_I_common_9)], [(8, lp_I_common_8), (4, lp_I_common_4)], 0, 0⟩
noncomputable def f_I_common (t0 : PV S_string) (t1 : PV S_string) : Option (PVs [S_S_int] × PVs []) :=
  bif decide (0 ≤ (IntKind.wrap .i64 ((t0.length : Int) + 1))) && (decide ((IntKind.wrap .i64 ((t0.length : Int) + 1)) ≤ (IntKind.wrap .i64 ((t0.length : Int) + 1))) && roomB (IntKind.wrap .i64 ((t0.length : Int) + 1)).toNat) then
    bif decide (0 ≤ (IntKind.wrap .i64 ((t1.length : Int) + 1))) && (decide ((IntKind.wrap .i64 ((t1.length : Int) + 1)) ≤ (IntKind.wrap .i64 ((t1.length : Int) + 1))) && roomB (IntKind.wrap .i64 ((t1.length : Int) + 1)).toNat) then
      bif inB (t0.length : Int) (List.replicate (IntKind.wrap .i64 ((t0.length : Int) + 1)).toNat ([] : PV S_int)).length then
        (w_I_common_4 (t0, t1, ((List.replicate (IntKind.wrap .i64 ((t0.length : Int) + 1)).toNat ([] : PV S_int)).set ((t0.length : Int).toNat) (List.replicate (IntKind.wrap .i64 ((t1.length : Int) + 1)).toNat (0 : Int))), (IntKind.wrap .i64 ((t0.length : Int) - 1)), ())).bind fun l4 =>
          some ((l4.1, ()), ())
      else
        none
    else
      none
  else
    none
noncomputable def ct_I_common : Ct := ⟨[(.bor, S_string), (.bor, S_string)], [(S_S_int, (.row (.row .b)))], fun x => f_I_common x.1 x.2.1⟩
noncomputable def cx_I_common : Cx := ⟨tab, arrs, [], [], gl, []⟩
theorem eb_I_common_4 (t0 : PV S_string) (t1 : PV S_string) (t5 : PV S_S_int) (t6 : PV (.int .i64)) : denK cx_I_common (rcN cx_I_common 0) pl_I_common 0 ((loopsOf (bodyOf Try.f224)).getD 0 .skip) (fillS sh_I_common_4 (t0, t1, t5, t6, ())) (roundK 0 lp_I_common_4) = b_I_common_4 t0 t1 t5 t6 := by kernel_rfl
theorem eb_I_common_8 (t0 : PV S_string) (t1 : PV S_string) (t5 : PV S_S_int) (t6 : PV (.int .i64)) (t7 : PV (.int .i64)) : denK cx_I_common (rcN cx_I_common 0) pl_I_common 0 ((loopsOf (bodyOf Try.f224)).getD 1 .skip) (fillS sh_I_common_8 (t0, t1, t5, t6, t7, ())) (roundK 0 lp_I_common_8) = b_I_common_8 t0 t1 t5 t6 t7 := by kernel_rfl
theorem ef_I_common (t0 : PV S_string) (t1 : PV S_string) : denF cx_I_common 0 pl_I_common Try.f224.ntmps (bodyOf Try.f224) Try.f224.results.toList [(.bor, S_string), (.bor, S_string)] [(S_S_int, (.row (.row .b)))] (t0, t1, ()) = f_I_common t0 t1 := by kernel_rfl
theorem ok_I_common : FnOk gl Try.prog 224 ct_I_common :=
  fnOk (cx := cx_I_common) (pl := pl_I_common) (dp := 0) (ok0_of tabOk (by unfold ArrOk; kernel_rfl) mix trivial trivial) Try.func224 (by kernel_rfl) (by kernel_rfl) (by kernel_rfl)
    (by rw [show loopsOf (bodyOf Try.f224) = [((loopsOf (bodyOf Try.f224)).getD 0 .skip), ((loopsOf (bodyOf Try.f224)).getD 1 .skip)] from by kernel_rfl]; exact ⟨(by rw [show lookup pl_I_common.loops (firstId ((loopsOf (bodyOf Try.f224)).getD 0 .skip)) = some lp_I_common_4 from by kernel_rfl]; exact fun d z h => (eb_I_common_4 d.1 d.2.1 d.2.2.1 d.2.2.2.1).trans h), (by rw [show lookup pl_I_common.loops (firstId ((loopsOf (bodyOf Try.f224)).getD 1 .skip)) = some lp_I_common_8 from by kernel_rfl]; exact fun d z h => (eb_I_common_8 d.1 d.2.1 d.2.2.1 d.2.2.2.1 d.2.2.2.2.1).trans h), trivial⟩) (fun x => ef_I_common x.1 x.2.1)
noncomputable def o_I_commonLines_10 : List Out := [⟨.normal, ⟨[], [0, 1, 5, 6, 7, 8, 9, 10, 21, 22, 31, 32, 58], []⟩, mkSh 71 [(0, .val S_string .b), (1, .val S_string .b), (5, .val S_S_int (.row (.row .b))), (6, .val S_S_int (.row (.row .b))), (7, .val (.int .i64) .b), (8, .val (.int .i64) .b), (9, .val (.int .i64) .b), (10, .val (.int .i64) .b), (21, .val (.int .i64) .b), (22, .val (.int .i64) .b), (31, .val (.int .i64) .b), (32, .val .bool .b), (58, .val .bool .b)]⟩]
noncomputable def sh_I_commonLines_7 : List Sh := mkSh 71 [(0, .val S_string .b), (1, .val S_string .b), (5, .val S_S_int (.row (.row .b))), (6, .val S_S_int (.row (.row .b))), (7, .val (.int .i64) .b), (8, .val (.int .i64) .b), (9, .val (.int .i64) .b), (10, .val (.int .i64) .b), (21, .val (.int .i64) .b), (22, .val (.int .i64) .b)]
noncomputable def o_I_commonLines_7 : List Out := [⟨.exit 2, ⟨[], [0, 1, 5, 6, 7, 8, 21, 22, 46, 47, 48, 49, 50, 51, 52, 53, 54, 55, 56, 57], []⟩, mkSh 71 [(0, .val S_string .b), (1, .val S_string .b), (5, .val S_S_int (.row (.row .b))), (6, .val S_S_int (.row (.row .b))), (7, .val (.int .i64) .b), (8, .val (.int .i64) .b), (21, .val (.int .i64) .b), (22, .val (.int .i64) .b)]⟩]
noncomputable def b_I_commonLines_7 (t0 : PV S_string) (t1 : PV S_string) (t5 : PV S_S_int) (t6 : PV S_S_int) (t7 : PV (.int .i64)) (t8 : PV (.int .i64)) (t9 : PV (.int .i64)) (t10 : PV (.int .i64)) (t21 : PV (.int .i64)) (t22 : PV (.int .i64)) : Option ((PV S_string × PV S_string × PV S_S_int × PV S_S_int × PV (.int .i64) × PV (.int .i64) × PV (.int .i64) × PV (.int .i64) × PV (.int .i64) × PV (.int .i64) × Unit) ⊕ ((PV S_string × PV S_string × PV S_S_int × PV S_S_int × PV (.int .i64) × PV (.int .i64) × PV (.int .i64) × PV (.int .i64) × Unit))) :=
  bif (decide (t10 < (t1.length : Int))) then
    bif (decide (t8 > 0)) then
      ((
          bif inB t9 t0.length then
            bif inB t10 t1.length then
              bif ((t0.getD t9.toNat []) == (t1.getD t10.toNat [])) then
                bif inB (IntKind.wrap .i64 (t9 + 1)) t5.length then
                  bif inB (IntKind.wrap .i64 (t10 + 1)) (t5.getD ((IntKind.wrap .i64 (t9 + 1)).toNat) []).length then
                    some (t0, t1, t5, t6, t7, t8, t9, t10, t21, t22, t8, (decide (t8 > 0)), (((t5.getD ((IntKind.wrap .i64 (t9 + 1)).toNat) []).getD ((IntKind.wrap .i64 (t10 + 1)).toNat) (0 : Int)) == (IntKind.wrap .i64 (t8 - 1))), ())
                  else
                    none
                else
                  none
              else
                some (t0, t1, t5, t6, t7, t8, t9, t10, t21, t22, t8, (decide (t8 > 0)), false, ())
            else
              none
          else
            none : Option ((PV S_string × PV S_string × PV S_S_int × PV S_S_int × PV (.int .i64) × PV (.int .i64) × PV (.int .i64) × PV (.int .i64) × PV (.int .i64) × PV (.int .i64) × PV (.int .i64) × PV .bool × PV .bool × Unit)))).bind fun j6 =>
        bif j6.2.2.2.2.2.2.2.2.2.2.2.2.1 then
          bif roomB (j6.2.2.2.1.length + [[j6.2.2.2.2.2.2.1, j6.2.2.2.2.2.2.2.1]].length) then
            some (.inr (j6.1, j6.2.1, j6.2.2.1, (j6.2.2.2.1 ++ [[j6.2.2.2.2.2.2.1, j6.2.2.2.2.2.2.2.1]]), (IntKind.wrap .i64 (j6.2.2.2.2.2.2.2.1 + 1)), (IntKind.wrap .i64 (j6.2.2.2.2.2.1 - 1)), j6.2.2.2.2.2.2.2.2.1, j6.2.2.2.2.2.2.2.2.2.1, ()))
          else
            none
        else
          some (.inl (j6.1, j6.2.1, j6.2.2.1, j6.2.2.2.1, j6.2.2.2.2.1, j6.2.2.2.2.2.1, j6.2.2.2.2.2.2.1, (IntKind.wrap .i64 (j6.2.2.2.2.2.2.2.1 + 1)), j6.2.2.2.2.2.2.2.2.1, j6.2.2.2.2.2.2.2.2.2.1, ()))
    else
      some (.inr (t0, t1, t5, t6, t7, t8, t21, t22, ()))
  else
    some (.inr (t0, t1, t5, t6, t7, t8, t21, t22, ()))
noncomputable def w_I_commonLines_7 : PV S_string × PV S_string × PV S_S_int × PV S_S_int × PV (.int .i64) × PV (.int .i64) × PV (.int .i64) × PV (.int .i64) × PV (.int .i64) × PV (.int .i64) × Unit → Option ((PV S_string × PV S_string × PV S_S_int × PV S_S_int × PV (.int .i64) × PV (.int .i64) × PV (.int .i64) × PV (.int .i64) × Unit)) := fix fun d => b_I_commonLines_7 d.1 d.2.1 d.2.2.1 d.2.2.2.1 d.2.2.2.2.1 d.2.2.2.2.2.1 d.2.2.2.2.2.2.1 d.2.2.2.2.2.2.2.1 d.2.2.2.2.2.2.2.2.1 d.2.2.2.2.2.2.2.2.2.1
noncomputable def lp_I_commonLines_7 : Lp := ⟨⟨[], [0, 1, 5, 6, 7, 8, 9, 10, 21, 22, 46, 47, 48, 49, 50, 51, 52, 53, 54, 55, 56, 57], []⟩, sh_I_commonLines_7, o_I_commonLines_7, fun d => b_I_commonLines_7 d.1 d.2.1 d.2.2.1 d.2.2.2.1 d.2.2.2.2.1 d.2.2.2.2.2.1 d.2.2.2.2.2.2.1 d.2.2.2.2.2.2.2.1 d.2.2.2.2.2.2.2.2.1 d.2.2.2.2.2.2.2.2.2.1⟩
noncomputable def sh_I_commonLines_4 : List Sh := mkSh 71 [(0, .val S_string .b), (1, .val S_string .b), (5, .val S_S_int (.row (.row .b))), (6, .val S_S_int (.row (.row .b))), (7, .val (.int .i64) .b), (8, .val (.int .i64) .b), (21, .val (.int .i64) .b), (22, .val (.int .i64) .b)]
noncomputable def o_I_commonLines_4 : List Out := [⟨.exit 0, ⟨[], [6], []⟩, mkSh 71 [(6, .val S_S_int (.row (.row .b)))]⟩]
noncomputable def b_I_commonLines_4 (t0 : PV S_string) (t1 : PV S_string) (t5 : PV S_S_int) (t6 : PV S_S_int) (t7 : PV (.int .i64)) (t8 : PV (.int .i64)) (t21 : PV (.int .i64)) (t22 : PV (.int .i64)) : Option ((PV S_string × PV S_string × PV S_S_int × PV S_S_int × PV (.int .i64) × PV (.int .i64) × PV (.int .i64) × PV (.int .i64) × Unit) ⊕ ((PV S_S_int × Unit))) :=
  bif (decide (t22 < t21)) then
    (w_I_commonLines_7 (t0, t1, t5, t6, t7, t8, t22, t7, t21, t22, ())).bind fun l4 =>
      some (.inl (l4.1, l4.2.1, l4.2.2.1, l4.2.2.2.1, l4.2.2.2.2.1, l4.2.2.2.2.2.1, l4.2.2.2.2.2.2.1, (IntKind.wrap .i64 (l4.2.2.2.2.2.2.2.1 + 1)), ()))
  else
    some (.inr (t6, ()))
noncomputable def w_I_commonLines_4 : PV S_string × PV S_string × PV S_S_int × PV S_S_int × PV (.int .i64) × PV (.int .i64) × PV (.int .i64) × PV (.int .i64) × Unit → Option ((PV S_S_int × Unit)) := fix fun d => b_I_commonLines_4 d.1 d.2.1 d.2.2.1 d.2.2.2.1 d.2.2.2.2.1 d.2.2.2.2.2.1 d.2.2.2.2.2.2.1 d.2.2.2.2.2.2.2.1
noncomputable def lp_I_commonLines_4 : Lp := ⟨⟨[], [0, 1, 5, 6, 7, 8, 21, 22, 31, 32, 46, 47, 48, 49, 50, 51, 52, 53, 54, 55, 56, 57], []⟩, sh_I_commonLines_4, o_I_commonLines_4, fun d => b_I_commonLines_4 d.1 d.2.1 d.2.2.1 d.2.2.2.1 d.2.2.2.2.1 d.2.2.2.2.2.1 d.2.2.2.2.2.2.1 d.2.2.2.2.2.2.2.1⟩
noncomputable def pl_I_commonLines : Plan := ⟨[(10, o_I_commonLines_10)], [(7, lp_I_commonLines_7), (4, lp_I_commonLines_4)], 0, 0⟩
noncomputable def f_I_commonLines (t0 : PV S_string) (t1 : PV S_string) : Option (PVs [S_S_int] × PVs []) :=
  (f_I_common t0 t1).bind fun r2 =>
    bif inB 0 r2.1.1.length then
      bif inB 0 (r2.1.1.getD ((0 : Int).toNat) []).length then
        (w_I_commonLines_4 (t0, t1, r2.1.1, ([] : PV S_S_int), 0, ((r2.1.1.getD ((0 : Int).toNat) []).getD ((0 : Int).toNat) (0 : Int)), (t0.length : Int), 0, ())).bind fun l6 =>
          some ((l6.1, ()), ())
      else
        none
    else
      none
noncomputable def ct_I_commonLines : Ct := ⟨[(.bor, S_string), (.bor, S_string)], [(S_S_int, (.row (.row .b)))], fun x => f_I_commonLines x.1 x.2.1⟩
noncomputable def cx_I_commonLines : Cx := ⟨tab, arrs, [(224, ct_I_common)], [], gl, []⟩
theorem eb_I_commonLines_4 (t0 : PV S_string) (t1 : PV S_string) (t5 : PV S_S_int) (t6 : PV S_S_int) (t7 : PV (.int .i64)) (t8 : PV (.int .i64)) (t21 : PV (.int .i64)) (t22 : PV (.int .i64)) : denK cx_I_commonLines (rcN cx_I_commonLines 0) pl_I_commonLines 0 ((loopsOf (bodyOf Try.f205)).getD 0 .skip) (fillS sh_I_commonLines_4 (t0, t1, t5, t6, t7, t8, t21, t22, ())) (roundK 0 lp_I_commonLines_4) = b_I_commonLines_4 t0 t1 t5 t6 t7 t8 t21 t22 := by kernel_rfl
theorem eb_I_commonLines_7 (t0 : PV S_string) (t1 : PV S_string) (t5 : PV S_S_int) (t6 : PV S_S_int) (t7 : PV (.int .i64)) (t8 : PV (.int .i64)) (t9 : PV (.int .i64)) (t10 : PV (.int .i64)) (t21 : PV (.int .i64)) (t22 : PV (.int .i64)) : denK cx_I_commonLines (rcN cx_I_commonLines 0) pl_I_commonLines 0 ((loopsOf (bodyOf Try.f205)).getD 1 .skip) (fillS sh_I_commonLines_7 (t0, t1, t5, t6, t7, t8, t9, t10, t21, t22, ())) (roundK 0 lp_I_commonLines_7) = b_I_commonLines_7 t0 t1 t5 t6 t7 t8 t9 t10 t21 t22 := by kernel_rfl
theorem ef_I_commonLines (t0 : PV S_string) (t1 : PV S_string) : denF cx_I_commonLines 0 pl_I_commonLines Try.f205.ntmps (bodyOf Try.f205) Try.f205.results.toList [(.bor, S_string), (.bor, S_string)] [(S_S_int, (.row (.row .b)))] (t0, t1, ()) = f_I_commonLines t0 t1 := by kernel_rfl
theorem ok_I_commonLines : FnOk gl Try.prog 205 ct_I_commonLines :=
  fnOk (cx := cx_I_commonLines) (pl := pl_I_commonLines) (dp := 0) (ok0_of tabOk (by unfold ArrOk; kernel_rfl) mix ⟨ok_I_common, trivial⟩ trivial) Try.func205 (by kernel_rfl) (by kernel_rfl) (by kernel_rfl)
    (by rw [show loopsOf (bodyOf Try.f205) = [((loopsOf (bodyOf Try.f205)).getD 0 .skip), ((loopsOf (bodyOf Try.f205)).getD 1 .skip)] from by kernel_rfl]; exact ⟨(by rw [show lookup pl_I_commonLines.loops (firstId ((loopsOf (bodyOf Try.f205)).getD 0 .skip)) = some lp_I_commonLines_4 from by kernel_rfl]; exact fun d z h => (eb_I_commonLines_4 d.1 d.2.1 d.2.2.1 d.2.2.2.1 d.2.2.2.2.1 d.2.2.2.2.2.1 d.2.2.2.2.2.2.1 d.2.2.2.2.2.2.2.1).trans h), (by rw [show lookup pl_I_commonLines.loops (firstId ((loopsOf (bodyOf Try.f205)).getD 1 .skip)) = some lp_I_commonLines_7 from by kernel_rfl]; exact fun d z h => (eb_I_commonLines_7 d.1 d.2.1 d.2.2.1 d.2.2.2.1 d.2.2.2.2.1 d.2.2.2.2.2.1 d.2.2.2.2.2.2.1 d.2.2.2.2.2.2.2.1 d.2.2.2.2.2.2.2.2.1 d.2.2.2.2.2.2.2.2.2.1).trans h), trivial⟩) (fun x => ef_I_commonLines x.1 x.2.1)
noncomputable def sh_I_mates_3 : List Sh := mkSh 30 [(5, .val S_int (.row .b)), (14, .val S_S_int (.row (.row .b))), (15, .val (.int .i64) .b), (16, .val (.int .i64) .b)]
noncomputable def o_I_mates_3 : List Out := [⟨.exit 0, ⟨[], [5], []⟩, mkSh 30 [(5, .val S_int (.row .b))]⟩]
noncomputable def b_I_mates_3 (t5 : PV S_int) (t14 : PV S_S_int) (t15 : PV (.int .i64)) (t16 : PV (.int .i64)) : Option ((PV S_int × PV S_S_int × PV (.int .i64) × PV (.int .i64) × Unit) ⊕ ((PV S_int × Unit))) :=
  bif (decide (t16 < t15)) then
    bif inB t16 t14.length then
      bif inB 0 (t14.getD t16.toNat []).length then
        bif inB 1 (t14.getD t16.toNat []).length then
          bif inB ((t14.getD t16.toNat []).getD ((0 : Int).toNat) (0 : Int)) t5.length then
            some (.inl ((t5.set (((t14.getD t16.toNat []).getD ((0 : Int).toNat) (0 : Int)).toNat) ((t14.getD t16.toNat []).getD ((1 : Int).toNat) (0 : Int))), t14, t15, (IntKind.wrap .i64 (t16 + 1)), ()))
          else
            none
        else
          none
      else
        none
    else
      none
  else
    some (.inr (t5, ()))
noncomputable def w_I_mates_3 : PV S_int × PV S_S_int × PV (.int .i64) × PV (.int .i64) × Unit → Option ((PV S_int × Unit)) := fix fun d => b_I_mates_3 d.1 d.2.1 d.2.2.1 d.2.2.2.1
noncomputable def lp_I_mates_3 : Lp := ⟨⟨[], [5, 14, 15, 16], []⟩, sh_I_mates_3, o_I_mates_3, fun d => b_I_mates_3 d.1 d.2.1 d.2.2.1 d.2.2.2.1⟩
noncomputable def pl_I_mates : Plan := ⟨[], [(3, lp_I_mates_3)], 0, 0⟩
noncomputable def f_I_mates (t0 : PV S_string) (t1 : PV S_string) : Option (PVs [S_int] × PVs []) :=
  (f_slices_Repeat_int [(-1)] (t0.length : Int)).bind fun r2 =>
    (f_I_commonLines t0 t1).bind fun r7 =>
      (w_I_mates_3 (r2.1.1, r7.1.1, (r7.1.1.length : Int), 0, ())).bind fun l8 =>
        some ((l8.1, ()), ())
noncomputable def ct_I_mates : Ct := ⟨[(.bor, S_string), (.bor, S_string)], [(S_int, (.row .b))], fun x => f_I_mates x.1 x.2.1⟩
noncomputable def cx_I_mates : Cx := ⟨tab, arrs, [(204, ct_slices_Repeat_int), (205, ct_I_commonLines)], [], gl, []⟩
theorem eb_I_mates_3 (t5 : PV S_int) (t14 : PV S_S_int) (t15 : PV (.int .i64)) (t16 : PV (.int .i64)) : denK cx_I_mates (rcN cx_I_mates 0) pl_I_mates 0 ((loopsOf (bodyOf Try.f168)).getD 0 .skip) (fillS sh_I_mates_3 (t5, t14, t15, t16, ())) (roundK 0 lp_I_mates_3) = b_I_mates_3 t5 t14 t15 t16 := by kernel_rfl
theorem ef_I_mates (t0 : PV S_string) (t1 : PV S_string) : denF cx_I_mates 0 pl_I_mates Try.f168.ntmps (bodyOf Try.f168) Try.f168.results.toList [(.bor, S_string), (.bor, S_string)] [(S_int, (.row .b))] (t0, t1, ()) = f_I_mates t0 t1 := by kernel_rfl
theorem ok_I_mates : FnOk gl Try.prog 168 ct_I_mates :=
  fnOk (cx := cx_I_mates) (pl := pl_I_mates) (dp := 0) (ok0_of tabOk (by unfold ArrOk; kernel_rfl) mix ⟨ok_slices_Repeat_int, ok_I_commonLines, trivial⟩ trivial) Try.func168 (by kernel_rfl) (by kernel_rfl) (by kernel_rfl)
    (by rw [show loopsOf (bodyOf Try.f168) = [((loopsOf (bodyOf Try.f168)).getD 0 .skip)] from by kernel_rfl]; exact ⟨(by rw [show lookup pl_I_mates.loops (firstId ((loopsOf (bodyOf Try.f168)).getD 0 .skip)) = some lp_I_mates_3 from by kernel_rfl]; exact fun d z h => (eb_I_mates_3 d.1 d.2.1 d.2.2.1 d.2.2.2.1).trans h), trivial⟩) (fun x => ef_I_mates x.1 x.2.1)
noncomputable def sh_slices_Equal_string_4 : List Sh := mkSh 26 [(0, .val S_string .b), (1, .val S_string .b), (12, .val (.int .i64) .b), (13, .val (.int .i64) .b)]
noncomputable def o_slices_Equal_string_4 : List Out := [⟨.exit 0, ⟨[], [], []⟩, mkSh 26 []⟩, ⟨.ret, ⟨[], [4], []⟩, mkSh 26 [(4, .val .bool .b)]⟩]
noncomputable def b_slices_Equal_string_4 (t0 : PV S_string) (t1 : PV S_string) (t12 : PV (.int .i64)) (t13 : PV (.int .i64)) : Option ((PV S_string × PV S_string × PV (.int .i64) × PV (.int .i64) × Unit) ⊕ ((Unit) ⊕ (PV .bool × Unit))) :=
  bif (decide (t13 < t12)) then
    bif inB t13 t0.length then
      bif inB t13 t1.length then
        bif (!((t0.getD t13.toNat []) == (t1.getD t13.toNat []))) then
          some (.inr (.inr (false, ())))
        else
          some (.inl (t0, t1, t12, (IntKind.wrap .i64 (t13 + 1)), ()))
      else
        none
    else
      none
  else
    some (.inr (.inl ()))
noncomputable def w_slices_Equal_string_4 : PV S_string × PV S_string × PV (.int .i64) × PV (.int .i64) × Unit → Option ((Unit) ⊕ (PV .bool × Unit)) := fix fun d => b_slices_Equal_string_4 d.1 d.2.1 d.2.2.1 d.2.2.2.1
noncomputable def lp_slices_Equal_string_4 : Lp := ⟨⟨[], [0, 1, 12, 13], []⟩, sh_slices_Equal_string_4, o_slices_Equal_string_4, fun d => b_slices_Equal_string_4 d.1 d.2.1 d.2.2.1 d.2.2.2.1⟩
noncomputable def pl_slices_Equal_string : Plan := ⟨[], [(4, lp_slices_Equal_string_4)], 0, 0⟩
noncomputable def f_slices_Equal_string (t0 : PV S_string) (t1 : PV S_string) : Option (PVs [.bool] × PVs []) :=
  bif (!((t0.length : Int) == (t1.length : Int))) then
    some ((false, ()), ())
  else
    (w_slices_Equal_string_4 (t0, t1, (t0.length : Int), 0, ())).bind fun x5 =>
      match x5 with
      | .inl l3 =>
        some ((true, ()), ())
      | .inr l4 =>
        some ((l4.1, ()), ())
noncomputable def ct_slices_Equal_string : Ct := ⟨[(.bor, S_string), (.bor, S_string)], [(.bool, .b)], fun x => f_slices_Equal_string x.1 x.2.1⟩
noncomputable def cx_slices_Equal_string : Cx := ⟨tab, arrs, [], [], gl, []⟩
theorem eb_slices_Equal_string_4 (t0 : PV S_string) (t1 : PV S_string) (t12 : PV (.int .i64)) (t13 : PV (.int .i64)) : denK cx_slices_Equal_string (rcN cx_slices_Equal_string 0) pl_slices_Equal_string 0 ((loopsOf (bodyOf Try.f87)).getD 0 .skip) (fillS sh_slices_Equal_string_4 (t0, t1, t12, t13, ())) (roundK 0 lp_slices_Equal_string_4) = b_slices_Equal_string_4 t0 t1 t12 t13 := by kernel_rfl
theorem ef_slices_Equal_string (t0 : PV S_string) (t1 : PV S_string) : denF cx_slices_Equal_string 0 pl_slices_Equal_string Try.f87.ntmps (bodyOf Try.f87) Try.f87.results.toList [(.bor, S_string), (.bor, S_string)] [(.bool, .b)] (t0, t1, ()) = f_slices_Equal_string t0 t1 := by kernel_rfl
theorem ok_slices_Equal_string : FnOk gl Try.prog 87 ct_slices_Equal_string :=
  fnOk (cx := cx_slices_Equal_string) (pl := pl_slices_Equal_string) (dp := 0) (ok0_of tabOk (by unfold ArrOk; kernel_rfl) mix trivial trivial) Try.func87 (by kernel_rfl) (by kernel_rfl) (by kernel_rfl)
    (by rw [show loopsOf (bodyOf Try.f87) = [((loopsOf (bodyOf Try.f87)).getD 0 .skip)] from by kernel_rfl]; exact ⟨(by rw [show lookup pl_slices_Equal_string.loops (firstId ((loopsOf (bodyOf Try.f87)).getD 0 .skip)) = some lp_slices_Equal_string_4 from by kernel_rfl]; exact fun d z h => (eb_slices_Equal_string_4 d.1 d.2.1 d.2.2.1 d.2.2.2.1).trans h), trivial⟩) (fun x => ef_slices_Equal_string x.1 x.2.1)
noncomputable def o_I_kindOf_3 : List Out := [⟨.normal, ⟨[], [1, 2, 7, 8, 15, 28, 29, 34, 35, 41, 42, 43], []⟩, mkSh 45 [(1, .val S_string .b), (2, .val S_string .b), (7, .val .bool .b), (8, .val .bool .b), (15, .val .bool .b)]⟩]
noncomputable def o_I_kindOf_5 : List Out := [⟨.normal, ⟨[], [1, 2, 7, 8, 25, 34, 35, 41, 42, 43], []⟩, mkSh 45 [(1, .val S_string .b), (2, .val S_string .b), (7, .val .bool .b), (8, .val .bool .b), (25, .val .bool .b)]⟩]
noncomputable def o_I_kindOf_7 : List Out := [⟨.normal, ⟨[], [1, 2, 7, 31, 41, 42, 43], []⟩, mkSh 45 [(1, .val S_string .b), (2, .val S_string .b), (7, .val .bool .b), (31, .val .bool .b)]⟩]
noncomputable def o_I_kindOf_9 : List Out := [⟨.normal, ⟨[], [37], []⟩, mkSh 45 [(37, .val .bool .b)]⟩]
noncomputable def pl_I_kindOf : Plan := ⟨[(3, o_I_kindOf_3), (5, o_I_kindOf_5), (7, o_I_kindOf_7), (9, o_I_kindOf_9)], [], 0, 0⟩
noncomputable def f_I_kindOf (t0 : PV S_string) (t1 : PV S_string) (t2 : PV S_string) : Option (PVs [(.int .i64)] × PVs []) :=
  (f_slices_Equal_string t0 t1).bind fun r3 =>
    (f_slices_Equal_string t0 t2).bind fun r4 =>
      ((
          bif r3.1.1 then
            bif r4.1.1 then
              some (t1, t2, r3.1.1, r4.1.1, (decide ((t0.length : Int) > 0)), ())
            else
              some (t1, t2, r3.1.1, r4.1.1, false, ())
          else
            some (t1, t2, r3.1.1, r4.1.1, false, ()) : Option ((PV S_string × PV S_string × PV .bool × PV .bool × PV .bool × Unit)))).bind fun j11 =>
        bif j11.2.2.2.2.1 then
          some ((1, ()), ())
        else
          ((
              bif j11.2.2.2.1 then
                some (j11.1, j11.2.1, j11.2.2.1, j11.2.2.2.1, (!j11.2.2.1), ())
              else
                some (j11.1, j11.2.1, j11.2.2.1, j11.2.2.2.1, false, ()) : Option ((PV S_string × PV S_string × PV .bool × PV .bool × PV .bool × Unit)))).bind fun j12 =>
            bif j12.2.2.2.2.1 then
              some ((2, ()), ())
            else
              ((
                  bif j12.2.2.1 then
                    some (j12.1, j12.2.1, j12.2.2.1, (!j12.2.2.2.1), ())
                  else
                    some (j12.1, j12.2.1, j12.2.2.1, false, ()) : Option ((PV S_string × PV S_string × PV .bool × PV .bool × Unit)))).bind fun j13 =>
                bif j13.2.2.2.1 then
                  some ((3, ()), ())
                else
                  ((
                      bif (!j13.2.2.1) then
                        (f_slices_Equal_string j13.1 j13.2.1).bind fun r14 =>
                          some (r14.1.1, ())
                      else
                        some (false, ()) : Option ((PV .bool × Unit)))).bind fun j15 =>
                    bif j15.1 then
                      some ((4, ()), ())
                    else
                      some ((5, ()), ())
noncomputable def ct_I_kindOf : Ct := ⟨[(.bor, S_string), (.bor, S_string), (.bor, S_string)], [((.int .i64), .b)], fun x => f_I_kindOf x.1 x.2.1 x.2.2.1⟩
noncomputable def cx_I_kindOf : Cx := ⟨tab, arrs, [(87, ct_slices_Equal_string)], [], gl, []⟩
theorem ef_I_kindOf (t0 : PV S_string) (t1 : PV S_string) (t2 : PV S_string) : denF cx_I_kindOf 0 pl_I_kindOf Try.f179.ntmps (bodyOf Try.f179) Try.f179.results.toList [(.bor, S_string), (.bor, S_string), (.bor, S_string)] [((.int .i64), .b)] (t0, t1, t2, ()) = f_I_kindOf t0 t1 t2 := by kernel_rfl
theorem ok_I_kindOf : FnOk gl Try.prog 179 ct_I_kindOf :=
  fnOk (cx := cx_I_kindOf) (pl := pl_I_kindOf) (dp := 0) (ok0_of tabOk (by unfold ArrOk; kernel_rfl) mix ⟨ok_slices_Equal_string, trivial⟩ trivial) Try.func179 (by kernel_rfl) (by kernel_rfl) (by kernel_rfl)
    (by rw [show loopsOf (bodyOf Try.f179) = [] from by kernel_rfl]; exact trivial) (fun x => ef_I_kindOf x.1 x.2.1 x.2.2.1)
end R
