/- The functions that L_FnMerged reach, as pure functions, and that the program computes them. -/
import Derived.Test.YtifjjdpgheoogaaL3
import Derived.Test.YtifjjdpgheoogaaChecked
import Derived.KernelRfl
open Go Go.Dn Go.Proofs
namespace R
set_option linter.unusedVariables false
@[reducible] def S_string : Ty := (.slice 9 .str)
@[reducible] def S_uint8 : Ty := (.slice 5 (.int .u8))
@[reducible] def S_int : Ty := (.slice 3 (.int .i64))
@[reducible] def S_S_string : Ty := (.slice 22 S_string)
@[reducible] def S_S_int : Ty := (.slice 163 S_int)
@[reducible] def Y__2_int : Ty := (.pair (.int .i64) (.pair (.int .i64) .unit))
@[reducible] def S__2_int : Ty := (.slice 169 Y__2_int)
@[reducible] def Y_impl_Hunk : Ty := (.pair (.int .i64) (.pair (.int .i64) (.pair S_string .unit)))
@[reducible] def Y_spec_l1Cur : Ty := (.pair S_uint8 (.pair (.int .i64) (.pair (.int .u64) .unit)))
@[reducible] def S_impl_Hunk : Ty := (.slice 95 Y_impl_Hunk)
@[reducible] def Y_impl_Order : Ty := (.pair (.int .i64) Y_impl_Hunk)
@[reducible] def S_S_impl_Hunk : Ty := (.slice 26 S_impl_Hunk)
@[reducible] def S_impl_Order : Ty := (.slice 112 Y_impl_Order)
@[reducible] def Y_impl_Part : Ty := (.pair (.int .i64) (.pair (.int .i64) (.pair (.int .i64) (.pair S_string (.pair S_string .unit)))))
@[reducible] def S_impl_Part : Ty := (.slice 129 Y_impl_Part)
@[reducible] def Y_impl_Series : Ty := (.pair S_string (.pair S_S_impl_Hunk .unit))
noncomputable def tab : List (TypeId × Ty) := [(3, (.int .i64)), (4, .bool), (5, (.int .u8)), (9, .str), (22, S_string), (26, S_impl_Hunk), (35, S_impl_Order), (47, S_uint8), (51, S_impl_Part), (73, S_S_impl_Hunk), (75, Y_impl_Series), (95, Y_impl_Hunk), (112, Y_impl_Order), (122, (.int .u64)), (124, Y_spec_l1Cur), (129, Y_impl_Part), (131, S_S_string), (163, S_int), (167, S__2_int), (169, Y__2_int), (186, S_S_int)]
noncomputable def arrs : List TypeId := [169]
theorem tabOk : TabOk Try.prog tab := by unfold TabOk; kernel_rfl
theorem mix : Try.prog.follows .mixedOrders = true := by kernel_rfl
noncomputable def gl : Glob := noGlob
open Go.Shelf
set_option maxRecDepth 20000
noncomputable def f_slices_Clone_string (t0 : PV S_string) : Option (PVs [S_string] × PVs []) := bif roomB ((([] : PV S_string)).length + t0.length) then some ((([] : PV S_string) ++ t0, ()), ()) else none
noncomputable def ct_slices_Clone_string : Ct := ⟨[(.bor, S_string)], [(S_string, (.row .b))], fun x => f_slices_Clone_string x.1⟩
noncomputable def pl_slices_Clone_string : Plan := ⟨[], [], 0, 0⟩
noncomputable def cx_slices_Clone_string : Cx := ⟨tab, arrs, [], [], gl, []⟩
theorem ok_slices_Clone_string : FnOk gl Try.prog 97 ct_slices_Clone_string :=
  fnOk_nil' (cx := cx_slices_Clone_string) (pl := pl_slices_Clone_string) (dp := 0) (t3 := 3) (te := 9) (T := .str) (ok0_of tabOk (by unfold ArrOk; kernel_rfl) mix trivial trivial) Try.func97 (fn := Try.f97) (rvs := Try.f97.results.toList) rfl (by kernel_rfl) (by kernel_rfl) (by kernel_rfl) rfl rfl rfl rfl Try.underlying22 ⟨⟨⟨trivial, trivial⟩, trivial⟩, ⟨trivial, trivial⟩⟩ (fun x => by kernel_rfl) (fun x => by kernel_rfl) (fun x => by kernel_rfl) (fun x => by kernel_rfl) (by kernel_rfl)
def lays_strings_Join_ren : Go.Shelf.Ren := ⟨fun | 0 => 0 | 1 => 1 | 2 => 2 | 99 => 159 | 100 => 191 | 102 => 199 | 143 => 226 | 144 => 215 | 156 => 115 | 165 => 172 | 166 => 173 | 169 => 174 | 193 => 203 | 206 => 198 | 207 => 216 | 209 => 218 | 212 => 219 | 217 => 231 | 219 => 230 | 224 => 233 | 225 => 232 | 240 => 207 | 241 => 208 | 263 => 228 | 264 => 229 | 266 => 235 | 267 => 234 | 276 => 222 | 277 => 223 | 314 => 236 | 347 => 237 | 348 => 238 | 349 => 239 | 350 => 240 | 351 => 241 | 352 => 242 | 353 => 243 | 354 => 244 | 355 => 245 | 356 => 246 | 357 => 247 | 358 => 248 | 359 => 249 | 360 => 250 | 361 => 251 | 362 => 253 | 366 => 254 | n => n, fun | 0 => 0 | 1 => 1 | 2 => 2 | 3 => 3 | 4 => 4 | 5 => 5 | 6 => 6 | 7 => 7 | 8 => 8 | 9 => 9 | 10 => 10 | 11 => 11 | 12 => 12 | 13 => 13 | 14 => 14 | 15 => 15 | 16 => 16 | 17 => 17 | 18 => 18 | 19 => 19 | 20 => 20 | 21 => 21 | 22 => 161 | 23 => 197 | 24 => 66 | 27 => 217 | 28 => 163 | 31 => 22 | 37 => 47 | 38 => 48 | 43 => 110 | 46 => 202 | 51 => 219 | 53 => 122 | 55 => 224 | 67 => 138 | 69 => 162 | 70 => 174 | 71 => 175 | 72 => 176 | 73 => 177 | 74 => 178 | 75 => 179 | 76 => 180 | 77 => 181 | 80 => 182 | 81 => 173 | 83 => 103 | 100 => 218 | 101 => 32 | 102 => 29 | 104 => 154 | 109 => 210 | 110 => 211 | 111 => 153 | 114 => 134 | 127 => 203 | 131 => 63 | 146 => 220 | 147 => 221 | 148 => 222 | 149 => 223 | 151 => 225 | 164 => 212 | 165 => 213 | 166 => 214 | 238 => 226 | 239 => 227 | 240 => 228 | 241 => 229 | 242 => 230 | 243 => 231 | 244 => 232 | 245 => 233 | 246 => 234 | 247 => 235 | 248 => 236 | 249 => 237 | n => n, fun | 1 => 0 | n => n⟩
theorem lays_strings_Join : Go.Proofs.Lays.n156 Try.prog lays_strings_Join_ren where
  mixed := by kernel_rfl
  f156 := Try.func115.trans (congrArg some (by kernel_rfl))
  f165 := Try.func172.trans (congrArg some (by kernel_rfl))
  f166 := Try.func173.trans (congrArg some (by kernel_rfl))
  f169 := Try.func174.trans (congrArg some (by kernel_rfl))
  f240 := Try.func207.trans (congrArg some (by kernel_rfl))
  f241 := Try.func208.trans (congrArg some (by kernel_rfl))
  f276 := Try.func222.trans (congrArg some (by kernel_rfl))
  f277 := Try.func223.trans (congrArg some (by kernel_rfl))
  t0 := Try.underlying0
  a0 := Try.isAgg0
  z0 := Try.sizeOf0
  v0 := Try.zeroValue0
  t3 := Try.underlying3
  a3 := Try.isAgg3
  z3 := Try.sizeOf3
  v3 := Try.zeroValue3
  t4 := Try.underlying4
  a4 := Try.isAgg4
  z4 := Try.sizeOf4
  v4 := Try.zeroValue4
  t9 := Try.underlying9
  a9 := Try.isAgg9
  z9 := Try.sizeOf9
  v9 := Try.zeroValue9
  t20 := Try.underlying20
  a20 := Try.isAgg20
  z20 := Try.sizeOf20
  v20 := Try.zeroValue20
  t31 := Try.underlying22
  a31 := Try.isAgg22
  z31 := Try.sizeOf22
  v31 := Try.zeroValue22
  t37 := Try.underlying47
  a37 := Try.isAgg47
  z37 := Try.sizeOf47
  v37 := Try.zeroValue47
  t70 := Try.underlying174
  a70 := Try.isAgg174
  z70 := Try.sizeOf174
  v70 := Try.zeroValue174
  t72 := Try.underlying176
  a72 := Try.isAgg176
  z72 := Try.sizeOf176
  v72 := Try.zeroValue176
  t75 := Try.underlying179
  a75 := Try.isAgg179
  z75 := Try.sizeOf179
  v75 := Try.zeroValue179
  t76 := Try.underlying180
  a76 := Try.isAgg180
  z76 := Try.sizeOf180
  v76 := Try.zeroValue180
  t127 := Try.underlying203
  a127 := Try.isAgg203
  z127 := Try.sizeOf203
  v127 := Try.zeroValue203
  t164 := Try.underlying212
  a164 := Try.isAgg212
  z164 := Try.sizeOf212
  v164 := Try.zeroValue212
def extra_strings_Join_ren : Go.Shelf.Ren := ⟨fun | 0 => 0 | 1 => 1 | 2 => 2 | 99 => 159 | 100 => 191 | 102 => 199 | 143 => 226 | 144 => 215 | 156 => 115 | 165 => 172 | 166 => 173 | 169 => 174 | 193 => 203 | 206 => 198 | 207 => 216 | 209 => 218 | 212 => 219 | 217 => 231 | 219 => 230 | 224 => 233 | 225 => 232 | 240 => 207 | 241 => 208 | 263 => 228 | 264 => 229 | 266 => 235 | 267 => 234 | 276 => 222 | 277 => 223 | 314 => 236 | 347 => 237 | 348 => 238 | 349 => 239 | 350 => 240 | 351 => 241 | 352 => 242 | 353 => 243 | 354 => 244 | 355 => 245 | 356 => 246 | 357 => 247 | 358 => 248 | 359 => 249 | 360 => 250 | 361 => 251 | 362 => 253 | 366 => 254 | n => n, fun | 0 => 0 | 1 => 1 | 2 => 2 | 3 => 3 | 4 => 4 | 5 => 5 | 6 => 6 | 7 => 7 | 8 => 8 | 9 => 9 | 10 => 10 | 11 => 11 | 12 => 12 | 13 => 13 | 14 => 14 | 15 => 15 | 16 => 16 | 17 => 17 | 18 => 18 | 19 => 19 | 20 => 20 | 21 => 21 | 22 => 161 | 23 => 197 | 24 => 66 | 27 => 217 | 28 => 163 | 31 => 22 | 37 => 47 | 38 => 48 | 43 => 110 | 46 => 202 | 51 => 219 | 53 => 122 | 55 => 224 | 67 => 138 | 69 => 162 | 70 => 174 | 71 => 175 | 72 => 176 | 73 => 177 | 74 => 178 | 75 => 179 | 76 => 180 | 77 => 181 | 80 => 182 | 81 => 173 | 83 => 103 | 100 => 218 | 101 => 32 | 102 => 29 | 104 => 154 | 109 => 210 | 110 => 211 | 111 => 153 | 114 => 134 | 127 => 203 | 131 => 63 | 146 => 220 | 147 => 221 | 148 => 222 | 149 => 223 | 151 => 225 | 164 => 212 | 165 => 213 | 166 => 214 | 238 => 226 | 239 => 227 | 240 => 228 | 241 => 229 | 242 => 230 | 243 => 231 | 244 => 232 | 245 => 233 | 246 => 234 | 247 => 235 | 248 => 236 | 249 => 237 | n => n, fun | 1 => 0 | n => n⟩
theorem extra_strings_Join : Go.Proofs.Builder.Extra Try.prog extra_strings_Join_ren where
  sizeBuilder := by kernel_rfl
  liesBuilder := by kernel_rfl
  t5 := Try.underlying5
  a5 := Try.isAgg5
  z5 := Try.sizeOf5
  v5 := Try.zeroValue5
  infoByte := by kernel_rfl
  cellsByte := by kernel_rfl
  sizeByte := by kernel_rfl
  neB5 := by decide +kernel

noncomputable def f_strings_Join (t0 : PV S_string) (t1 : PV .str) : Option (PVs [.str] × PVs []) := Go.Dn.joinF t0 t1
noncomputable def ct_strings_Join : Ct := ⟨[(.bor, S_string), (.bor, .str)], [(.str, .b)], fun x => f_strings_Join x.1 x.2.1⟩
theorem ok_strings_Join : FnOk gl Try.prog 115 ct_strings_Join := Go.Dn.join_ok lays_strings_Join extra_strings_Join
def lays_grow_ren : Go.Shelf.Ren := ⟨fun | 4 => 175 | n => n, fun | 0 => 0 | 3 => 3 | 4 => 4 | 9 => 9 | 20 => 20 | 22 => 22 | 25 => 9 | n => n, fun n => n⟩
theorem lays_grow : Go.Proofs.Lays8.n4 Try.prog lays_grow_ren where
  mixed := by kernel_rfl
  f4 := ⟨Try.f175.name, by kernel_rfl, Try.func175.trans (congrArg some (by kernel_rfl))⟩
  t0 := Try.underlying0
  a0 := Try.isAgg0
  z0 := Try.sizeOf0
  v0 := Try.zeroValue0
  t3 := Try.underlying3
  a3 := Try.isAgg3
  z3 := Try.sizeOf3
  v3 := Try.zeroValue3
  t4 := Try.underlying4
  a4 := Try.isAgg4
  z4 := Try.sizeOf4
  v4 := Try.zeroValue4
  t9 := Try.underlying9
  a9 := Try.isAgg9
  z9 := Try.sizeOf9
  v9 := Try.zeroValue9
  t20 := Try.underlying20
  a20 := Try.isAgg20
  z20 := Try.sizeOf20
  v20 := Try.zeroValue20
  t22 := Try.underlying22
  a22 := Try.isAgg22
  z22 := Try.sizeOf22
  v22 := Try.zeroValue22

noncomputable def f_slices_Grow_string (t0 : PV S_string) (t1 : PV (.int .i64)) : Option (PVs [S_string] × PVs []) := Go.Dn.growF 9 t0 t1
noncomputable def ct_slices_Grow_string : Ct := ⟨[(.own, S_string), (.bor, .int .i64)], [(S_string, .row .b)], fun x => f_slices_Grow_string x.1 x.2.1⟩
theorem ok_slices_Grow_string : FnOk gl Try.prog 175 ct_slices_Grow_string := Go.Dn.grow_ok lays_grow rfl (by kernel_rfl)
def lays_math_bits_Mul_ren : Go.Shelf.Ren := ⟨fun | 0 => 0 | 1 => 1 | 2 => 2 | 99 => 159 | 100 => 191 | 102 => 199 | 143 => 226 | 144 => 215 | 156 => 115 | 165 => 172 | 166 => 173 | 169 => 174 | 193 => 203 | 206 => 198 | 207 => 216 | 209 => 218 | 212 => 219 | 217 => 231 | 219 => 230 | 224 => 233 | 225 => 232 | 240 => 207 | 241 => 208 | 263 => 228 | 264 => 229 | 266 => 235 | 267 => 234 | 276 => 222 | 277 => 223 | 314 => 236 | 347 => 237 | 348 => 238 | 349 => 239 | 350 => 240 | 351 => 241 | 352 => 242 | 353 => 243 | 354 => 244 | 355 => 245 | 356 => 246 | 357 => 247 | 358 => 248 | 359 => 249 | 360 => 250 | 361 => 251 | 362 => 253 | 366 => 254 | n => n, fun | 0 => 0 | 1 => 1 | 2 => 2 | 3 => 3 | 4 => 4 | 5 => 5 | 6 => 6 | 7 => 7 | 8 => 8 | 9 => 9 | 10 => 10 | 11 => 11 | 12 => 12 | 13 => 13 | 14 => 14 | 15 => 15 | 16 => 16 | 17 => 17 | 18 => 18 | 19 => 19 | 20 => 20 | 21 => 21 | 22 => 161 | 23 => 197 | 24 => 66 | 27 => 217 | 28 => 163 | 31 => 22 | 37 => 47 | 38 => 48 | 43 => 110 | 46 => 202 | 51 => 219 | 53 => 122 | 55 => 224 | 67 => 138 | 69 => 162 | 70 => 174 | 71 => 175 | 72 => 176 | 73 => 177 | 74 => 178 | 75 => 179 | 76 => 180 | 77 => 181 | 80 => 182 | 81 => 173 | 83 => 103 | 100 => 218 | 101 => 32 | 102 => 29 | 104 => 154 | 109 => 210 | 110 => 211 | 111 => 153 | 114 => 134 | 127 => 203 | 131 => 63 | 146 => 220 | 147 => 221 | 148 => 222 | 149 => 223 | 151 => 225 | 164 => 212 | 165 => 213 | 166 => 214 | 238 => 226 | 239 => 227 | 240 => 228 | 241 => 229 | 242 => 230 | 243 => 231 | 244 => 232 | 245 => 233 | 246 => 234 | 247 => 235 | 248 => 236 | 249 => 237 | n => n, fun | 1 => 0 | n => n⟩
theorem lays_math_bits_Mul : Go.Proofs.Lays.n212 Try.prog lays_math_bits_Mul_ren where
  mixed := by kernel_rfl
  f212 := Try.func219.trans (congrArg some (by kernel_rfl))
  f263 := Try.func228.trans (congrArg some (by kernel_rfl))
  f264 := Try.func229.trans (congrArg some (by kernel_rfl))
  t46 := Try.underlying202
  a46 := Try.isAgg202
  z46 := Try.sizeOf202
  v46 := Try.zeroValue202
  t51 := Try.underlying219
  a51 := Try.isAgg219
  z51 := Try.sizeOf219
  v51 := Try.zeroValue219
  t53 := Try.underlying122
  a53 := Try.isAgg122
  z53 := Try.sizeOf122
  v53 := Try.zeroValue122
  t146 := Try.underlying220
  a146 := Try.isAgg220
  z146 := Try.sizeOf220
  v146 := Try.zeroValue220
  t148 := Try.underlying222
  a148 := Try.isAgg222
  z148 := Try.sizeOf222
  v148 := Try.zeroValue222
set_option maxRecDepth 100000
section
open Go.RowKit
set_option maxHeartbeats 1000000 in
set_option maxRecDepth 100000 in
theorem rep_main (x : Int) (A : Addr) (cap c : Nat) (w : World) (hA : w.cell? A = some (.int .i64 x)) (hAb : A.block < w.heap.size) (h1 : 1 ≤ c) (hc : c ≤ 1099511627776) (h1cap : 1 ≤ cap) :
    Calls Try.prog 201 #[.slice (some A) 1 cap, .int .i64 c] w fun e w' => e = .returned (.slice (some ⟨w.heap.size, 0, none⟩) c c) ∧ w'.heap[w.heap.size]? = some (.cells (List.replicate c (.int .i64 x)).toArray 3 (0, 0)) ∧ Below w.heap.size w w' := by
  have hMul : Calls Try.prog 219 #[.int .u64 1, .int .u64 c] w fun e w' => e = .returned (.tuple #[.int .u64 0, .int .u64 c]) ∧ w' = w := by
    have h : Calls Try.prog 219 #[.int .u64 (1 : Nat), .int .u64 c] w _ := Any.bits_Mul lays_math_bits_Mul 1 c (by omega) (by omega) w
    simp only [Nat.one_mul] at h
    rw [Nat.div_eq_of_lt (by omega), Nat.mod_eq_of_lt (by omega)] at h
    exact h
  have hinf : Option.map (fun i => (i.zero, i.size, i.bytes)) (Try.prog.info? 3) = some (some (.int .i64 0), 1, 8) := by kernel_rfl
  obtain ⟨i0, hi, hz0, hz1, hz2⟩ := info_parts hinf
  have hinfo : (Try.prog.info? 3).map (·.size) = some 1 := by rw [hi]; simp [hz1]
  obtain ⟨M, hM⟩ : ∃ M, M = madeCells (Value.int .i64 0).cells (((c : Nat) : Int).toNat * i0.size) := ⟨_, rfl⟩
  have hMl : Hid (M = (rowK (.int .i64 x) 0 c).toArray) := by
    show M = _
    rw [hM, hz1, rowK_zero]
    apply Array.ext'
    simp [madeCells, Value.cells, Nat.mod_one]
    rw [List.map_const', List.length_range]
  have hmk : ∀ W : World, (Instr.makeSlice 163 (.int .i64 (c : Int)) (.int .i64 (c : Int))).run Try.prog W = .ok (.slice (some ⟨W.heap.size, 0, none⟩) c c) (W.alloc (.cells M 3)) := fun W => by
      have h := run_make (P := Try.prog) W 163 3 i0 (.int .i64 0) Try.underlying163 hi hz0 .i64 .i64 (c : Int) (c : Int) (by omega) (by omega) (by rw [hz2]; omega) (by omega)
      rw [← hM] at h
      simpa using h
  clear hM
  have hcp := run_copy_row (P := Try.prog) (w.alloc (.cells M 3)) 163 163 3 3 w.heap.size 0 c c A 1 cap M 3 [.int .i64 x] Try.underlying163 hinfo (heap_alloc_new w _) (Nat.min_eq_left h1).symm (fun j v hj => by
    have hj0 : j = 0 := by have := (List.getElem?_eq_some_iff.1 hj).1; simp at this; omega
    subst hj0
    obtain rfl : v = .int .i64 x := (Option.some.inj hj).symm
    exact (show (w.alloc (.cells M 3)).cell? A = w.cell? A by
      unfold World.cell?
      rw [Go.Dn.heap_alloc_ne w _ _ hAb]).trans hA) (by rw [hMl.out]; simp [rowK]; omega) (by simp [Value.oneCell'])
  obtain ⟨Y, hY⟩ : ∃ Y, Y = ((w.alloc (.cells M 3)).setRow w.heap.size (List.take 0 M.toList ++ [Value.int .i64 x] ++ List.drop (0 + [Value.int .i64 x].length) M.toList).toArray) := ⟨_, rfl⟩
  rw [← hY] at hcp
  have hYg : Hid (Y.heap[w.heap.size]? = some (.cells (rowK (.int .i64 x) 1 c).toArray 3 (0, 0))) := by
    show Y.heap[w.heap.size]? = _
    rw [hY, setRow_heap _ _ M _ 3 (0, 0) (heap_alloc_new w _)]
    have h := rowK_splice (.int .i64 x) (k := 0) (c := c) (m := 1) (by omega)
    rw [Nat.zero_add] at h
    rw [← h, hMl.out]
    simp [splice]
  have hYb : Below w.heap.size w Y := by rw [hY]; exact below_setRow ((Below.refl _ w).alloc (Nat.le_refl _) _) (Nat.le_refl _) _
  clear hY
  go_enter Try.func201, Try.ntmps201
  go_wp2_with (go_at_fn 219; go_fit hMul; rintro e w' ⟨rfl, hw⟩; rw [hw])
  refine hMul.mono ?_
  rintro e w' ⟨rfl, hw⟩
  rw [hw]
  clear hw w'
  go_wp2
  go_loopg [8] (c - 1) (fun g s8 wx => ∃ n : Nat, 1 ≤ n ∧ n + g = c ∧ s8 = .int .i64 (n : Int) ∧ Hid (wx.heap[w.heap.size]? = some (.cells (rowK (.int .i64 x) n c).toArray 3 (0, 0))) ∧ Below w.heap.size w wx)
  case atStart => exact ⟨1, Nat.le_refl _, by omega, rfl, hYg, hYb⟩
  case round =>
    obtain ⟨n, hn1, hng, rfl, hg, hb⟩ := hrel
    cases gk with
    | zero =>
      obtain rfl : n = c := by omega
      go_wp2
      go_ret
      exact ⟨rfl, by rw [← rowK_all]; exact hg.out, hb⟩
    | succ g =>
      have hnc : n < c := by omega
      obtain ⟨m, hm⟩ : ∃ m, m = Nat.min n (c - n) := ⟨_, rfl⟩
      have hm1 : 1 ≤ m := by rw [hm]; exact Nat.le_min.2 ⟨hn1, by omega⟩
      have hm2 : m ≤ n := by rw [hm]; exact Nat.min_le_left _ _
      have hm3 : m ≤ c - n := by rw [hm]; exact Nat.min_le_right _ _
      have hcl : (List.replicate m (Value.int .i64 x)).length = Nat.min n (c - n) := by rw [List.length_replicate]; exact hm
      have hfit : n + (List.replicate m (Value.int .i64 x)).length ≤ (rowK (.int .i64 x) n c).length := by rw [List.length_replicate, rowK_len _ (by omega)]; omega
      have hone : ∀ v ∈ List.replicate m (Value.int .i64 x), v.oneCell' = true := fun v hv => by rw [List.eq_of_mem_replicate hv]; rfl
      have HP : Hid (∀ j v, (List.replicate m (Value.int .i64 x))[j]? = some v → wr.drew.cell? (({ block := w.heap.size, off := 0, spot := none } : Addr).add j) = some v) := fun j v hj => by
          have hj' : j < m := by have := (List.getElem?_eq_some_iff.1 hj).1; simpa using this
          have hv : v = .int .i64 x := by rw [List.getElem?_replicate_of_lt hj'] at hj; exact (Option.some.inj hj).symm
          rw [hv, ← rowK_at (.int .i64 x) (k := n) (c := c) (j := j) (by omega)]
          refine (cell_row (w := wr.drew) (show wr.drew.heap[w.heap.size]? = _ from hg.out) j).trans ?_
          simp
      have hle : n ≤ c := by omega
      have hne : ¬ c = n := by omega
      have HM : Hid (m = Nat.min n (c - n)) := hm
      have HL : Hid ((List.replicate m (Value.int .i64 x)).length = Nat.min n (c - n)) := hcl
      clear hm hcl
      go_wp2
      go_region_law (refine step_copy_splice rfl (.tmp 41) (.tmp 44) 163 163 rfl 3 Try.underlying163 hinfo (some ⟨w.heap.size, n, none⟩) (some ⟨w.heap.size, 0, none⟩) (c - n) (c - n) n c (by simp [Act.eval, Act.put]) (by simp [Act.eval, Act.put]) w.heap.size n (rowK (.int .i64 x) n c) 3 (show wr.drew.heap[w.heap.size]? = _ from hg.out) (List.replicate m (.int .i64 x)) HL.out (fun _ => ⟨rfl, _, rfl, HP.out⟩) hfit hone w.heap.size w hb.drew (Nat.le_refl _) ?_; intro w4 hg4 hb4)
      have HE : Hid (splice (rowK (.int .i64 x) n c) n (List.replicate m (.int .i64 x)) = rowK (.int .i64 x) (n + m) c) := rowK_splice _ (by omega)
      go_wp2
      go_roundg (c - (n + m))
      case measure => omega
      case rel => exact ⟨n + m, by omega, by omega, by rw [show IntKind.wrap .i64 ((n : Int) + (m : Int)) = ((n + m : Nat) : Int) from by rw [Go.Dn.wrap64 (by omega) (by omega)]; rfl], by rw [← HE.out]; exact hg4, hb4⟩

set_option maxHeartbeats 1000000 in
set_option maxRecDepth 100000 in
theorem rep_zero (x : Int) (A : Addr) (cap : Nat) (w : World) :
    Calls Try.prog 201 #[.slice (some A) 1 cap, .int .i64 (0 : Nat)] w fun e w' => e = .returned (.slice (some ⟨w.heap.size, 0, none⟩) 0 0) ∧ w'.heap[w.heap.size]? = some (.cells (List.replicate 0 (.int .i64 x)).toArray 3 (0, 0)) ∧ Below w.heap.size w w' := by
  have hMul : Calls Try.prog 219 #[.int .u64 1, .int .u64 0] w fun e w' => e = .returned (.tuple #[.int .u64 0, .int .u64 0]) ∧ w' = w := by
    have h : Calls Try.prog 219 #[.int .u64 (1 : Nat), .int .u64 (0 : Nat)] w _ := Any.bits_Mul lays_math_bits_Mul 1 0 (by omega) (by omega) w
    exact h
  have hinf : Option.map (fun i => (i.zero, i.size, i.bytes)) (Try.prog.info? 3) = some (some (.int .i64 0), 1, 8) := by kernel_rfl
  obtain ⟨i0, hi, hz0, hz1, hz2⟩ := info_parts hinf
  have hinfo : (Try.prog.info? 3).map (·.size) = some 1 := by rw [hi]; simp [hz1]
  have hmk : ∀ W : World, (Instr.makeSlice 163 (.int .i64 0) (.int .i64 0)).run Try.prog W = .ok (.slice (some ⟨W.heap.size, 0, none⟩) 0 0) (W.alloc (.cells #[] 3)) := fun W => by
      have h := run_make (P := Try.prog) W 163 3 i0 (.int .i64 0) Try.underlying163 hi hz0 .i64 .i64 0 0 (by omega) (by omega) (by rw [hz2]; omega) (by omega)
      simpa [madeCells, show Array.range 0 = #[] from rfl] using h
  have hcp := run_copy_none (P := Try.prog) (w.alloc (.cells #[] 3)) 163 163 3 3 (some ⟨w.heap.size, 0, none⟩) (some A) 0 0 1 cap Try.underlying163 hinfo (by rfl)
  have hb : Below w.heap.size w (w.alloc (.cells #[] 3)) := (Below.refl _ w).alloc (Nat.le_refl _) _
  have hh : Hid ((w.alloc (.cells #[] 3)).heap[w.heap.size]? = some (.cells #[] 3 (0, 0))) := heap_alloc_new w _
  go_enter Try.func201, Try.ntmps201
  go_wp2_with (go_at_fn 219; go_fit hMul; rintro e w' ⟨rfl, hw⟩; rw [hw])
  refine hMul.mono ?_
  rintro e w' ⟨rfl, hw⟩
  rw [hw]
  clear hw w'
  go_wp2
  go_loopg [8] 0 (fun g s8 wx => g = 0 ∧ s8 = .int .i64 0 ∧ wx = w.alloc (.cells #[] 3))
  case atStart => exact ⟨rfl, rfl, rfl⟩
  case round =>
    obtain ⟨rfl, rfl, rfl⟩ := hrel
    go_wp2
    go_ret
    exact ⟨rfl, hh.out, hb⟩

theorem rep_any (x : Int) (A : Addr) (cap c : Nat) (w : World) (hA : w.cell? A = some (.int .i64 x)) (hAb : A.block < w.heap.size) (hc : c ≤ 1099511627776) (h1cap : 1 ≤ cap) :
    Calls Try.prog 201 #[.slice (some A) 1 cap, .int .i64 c] w fun e w' => e = .returned (.slice (some ⟨w.heap.size, 0, none⟩) c c) ∧ w'.heap[w.heap.size]? = some (.cells (List.replicate c (.int .i64 x)).toArray 3 (0, 0)) ∧ Below w.heap.size w w' := by
  rcases Nat.eq_zero_or_pos c with rfl | h
  · exact rep_zero x A cap w
  · exact rep_main x A cap c w hA hAb h hc h1cap
end
noncomputable def f_slices_Repeat_int (t0 : PV S_int) (t1 : PV (.int .i64)) : Option (PVs [S_int] × PVs []) := Go.Dn.repF 3 t0 t1
noncomputable def ct_slices_Repeat_int : Ct := ⟨[(.bor, S_int), (.bor, .int .i64)], [(S_int, .row .b)], fun x => f_slices_Repeat_int x.1 x.2.1⟩
theorem ok_slices_Repeat_int : FnOk gl Try.prog 201 ct_slices_Repeat_int := fnOk_repeat ⟨_, Try.func201, rfl, rfl⟩ rep_any
def lays_strings_Contains_ren : Go.Shelf.Ren := ⟨fun | 0 => 0 | 1 => 1 | 2 => 2 | 99 => 159 | 100 => 191 | 102 => 199 | 143 => 226 | 144 => 215 | 156 => 115 | 165 => 172 | 166 => 173 | 169 => 174 | 193 => 203 | 206 => 198 | 207 => 216 | 209 => 218 | 212 => 219 | 217 => 231 | 219 => 230 | 224 => 233 | 225 => 232 | 240 => 207 | 241 => 208 | 263 => 228 | 264 => 229 | 266 => 235 | 267 => 234 | 276 => 222 | 277 => 223 | 314 => 236 | 347 => 237 | 348 => 238 | 349 => 239 | 350 => 240 | 351 => 241 | 352 => 242 | 353 => 243 | 354 => 244 | 355 => 245 | 356 => 246 | 357 => 247 | 358 => 248 | 359 => 249 | 360 => 250 | 361 => 251 | 362 => 253 | 366 => 254 | n => n, fun | 0 => 0 | 1 => 1 | 2 => 2 | 3 => 3 | 4 => 4 | 5 => 5 | 6 => 6 | 7 => 7 | 8 => 8 | 9 => 9 | 10 => 10 | 11 => 11 | 12 => 12 | 13 => 13 | 14 => 14 | 15 => 15 | 16 => 16 | 17 => 17 | 18 => 18 | 19 => 19 | 20 => 20 | 21 => 21 | 22 => 161 | 23 => 197 | 24 => 66 | 27 => 217 | 28 => 163 | 31 => 22 | 37 => 47 | 38 => 48 | 43 => 110 | 46 => 202 | 51 => 219 | 53 => 122 | 55 => 224 | 67 => 138 | 69 => 162 | 70 => 174 | 71 => 175 | 72 => 176 | 73 => 177 | 74 => 178 | 75 => 179 | 76 => 180 | 77 => 181 | 80 => 182 | 81 => 173 | 83 => 103 | 100 => 218 | 101 => 32 | 102 => 29 | 104 => 154 | 109 => 210 | 110 => 211 | 111 => 153 | 114 => 134 | 127 => 203 | 131 => 63 | 146 => 220 | 147 => 221 | 148 => 222 | 149 => 223 | 151 => 225 | 164 => 212 | 165 => 213 | 166 => 214 | 238 => 226 | 239 => 227 | 240 => 228 | 241 => 229 | 242 => 230 | 243 => 231 | 244 => 232 | 245 => 233 | 246 => 234 | 247 => 235 | 248 => 236 | 249 => 237 | n => n, fun | 1 => 0 | n => n⟩
theorem lays_strings_Contains : Go.Proofs.Lays.n144 Try.prog lays_strings_Contains_ren where
  mixed := by kernel_rfl
  f143 := Try.func226.trans (congrArg some (by kernel_rfl))
  f144 := Try.func215.trans (congrArg some (by kernel_rfl))
  f217 := Try.func231.trans (congrArg some (by kernel_rfl))
  f219 := Try.func230.trans (congrArg some (by kernel_rfl))
  f224 := Try.func233.trans (congrArg some (by kernel_rfl))
  f225 := Try.func232.trans (congrArg some (by kernel_rfl))
  f266 := Try.func235.trans (congrArg some (by kernel_rfl))
  f267 := Try.func234.trans (congrArg some (by kernel_rfl))
  f314 := Try.func236.trans (congrArg some (by kernel_rfl))
  t3 := Try.underlying3
  a3 := Try.isAgg3
  z3 := Try.sizeOf3
  v3 := Try.zeroValue3
  t4 := Try.underlying4
  a4 := Try.isAgg4
  z4 := Try.sizeOf4
  v4 := Try.zeroValue4
  t5 := Try.underlying5
  a5 := Try.isAgg5
  z5 := Try.sizeOf5
  v5 := Try.zeroValue5
  t9 := Try.underlying9
  a9 := Try.isAgg9
  z9 := Try.sizeOf9
  v9 := Try.zeroValue9
  t46 := Try.underlying202
  a46 := Try.isAgg202
  z46 := Try.sizeOf202
  v46 := Try.zeroValue202
  t51 := Try.underlying219
  a51 := Try.isAgg219
  z51 := Try.sizeOf219
  v51 := Try.zeroValue219
  t146 := Try.underlying220
  a146 := Try.isAgg220
  z146 := Try.sizeOf220
  v146 := Try.zeroValue220
  g1 := by kernel_rfl
noncomputable def f_strings_Contains (t0 : PV .str) (t1 : PV .str) : Option (PVs [.bool] × PVs []) := Go.Dn.containsF t0 t1
noncomputable def ct_strings_Contains : Ct := ⟨[(.bor, .str), (.bor, .str)], [(.bool, .b)], fun x => f_strings_Contains x.1 x.2.1⟩
theorem ok_strings_Contains : FnOk gl Try.prog 215 ct_strings_Contains := Go.Dn.contains_ok  lays_strings_Contains
noncomputable def pl_L_big : Plan := ⟨[], [], 0, 0⟩
noncomputable def f_L_big (t0 : PV S_uint8) (t1 : PV S_uint8) : Option (PVs [.bool] × PVs []) :=
  bif (decide ((t0.length : Int) > 1048576)) then
    some ((true, ()), ())
  else
    some (((decide ((t1.length : Int) > (IntKind.wrap .i64 (1048576 - (t0.length : Int))))), ()), ())
noncomputable def ct_L_big : Ct := ⟨[(.bor, S_uint8), (.bor, S_uint8)], [(.bool, .b)], fun x => f_L_big x.1 x.2.1⟩
noncomputable def cx_L_big : Cx := ⟨tab, arrs, [], [], gl, []⟩
theorem ef_L_big (t0 : PV S_uint8) (t1 : PV S_uint8) : denF cx_L_big 0 pl_L_big Try.f31.ntmps (bodyOf Try.f31) Try.f31.results.toList [(.bor, S_uint8), (.bor, S_uint8)] [(.bool, .b)] (t0, t1, ()) = f_L_big t0 t1 := by kernel_rfl
theorem ok_L_big : FnOk gl Try.prog 31 ct_L_big :=
  fnOk (cx := cx_L_big) (pl := pl_L_big) (dp := 0) (ok0_of tabOk (by unfold ArrOk; kernel_rfl) mix trivial trivial) Try.func31 (by kernel_rfl) (by kernel_rfl) (by kernel_rfl)
    (by rw [show loopsOf (bodyOf Try.f31) = [] from by kernel_rfl]; exact trivial) (fun x => ef_L_big x.1 x.2.1)
noncomputable def o_S_l1Cur_next_4 : List Out := [⟨.normal, ⟨[], [0, 3], []⟩, mkSh 63 [(0, .var Y_spec_l1Cur .b), (1, .addr ⟨0, [], 0, 0⟩), (4, .val (.int .i64) .b)]⟩]
noncomputable def pl_S_l1Cur_next : Plan := ⟨[(4, o_S_l1Cur_next_4)], [], 0, 1⟩
noncomputable def f_S_l1Cur_next (t0 : PV Y_spec_l1Cur) : Option (PVs [(.int .i64)] × PVs [Y_spec_l1Cur]) :=
  ((
      bif (decide (t0.2.1 < (t0.1.length : Int))) then
        bif inB t0.2.1 t0.1.length then
          some (t0, (IntKind.wrap .i64 (t0.1.getD t0.2.1.toNat (0 : Int))), ())
        else
          none
      else
        some (t0, 0, ()) : Option ((PV Y_spec_l1Cur × PV (.int .i64) × Unit)))).bind fun j1 =>
    bif (decide ((IntKind.wrap .i64 (j1.1.2.1 + 1)) ≤ (j1.1.1.length : Int))) then
      some ((j1.2.1, ()), ((j1.1.1, ((IntKind.wrap .i64 (j1.1.2.1 + 1)), ((IntKind.wrap .u64 ((IntKind.wrap .u64 ((IntKind.wrap .u64 (j1.1.2.2.1 * 6364136223846793005)) + (IntKind.wrap .u64 j1.2.1))) + 1442695040888963407)), j1.1.2.2.2))), ()))
    else
      bif decide (0 ≤ 40) then
        some (((IntKind.wrap .i64 (IntKind.wrap .u64 ((BitVec.ofInt (IntKind.bits .u64) ((IntKind.wrap .u64 ((IntKind.wrap .u64 ((IntKind.wrap .u64 (j1.1.2.2.1 * 6364136223846793005)) + (IntKind.wrap .u64 j1.2.1))) + 1442695040888963407)).fdiv (2 ^ (min (40 : Int).toNat (IntKind.bits .u64)))) &&& BitVec.ofInt (IntKind.bits .u64) 255).toNat : Int))), ()), ((j1.1.1, ((IntKind.wrap .i64 (j1.1.2.1 + 1)), ((IntKind.wrap .u64 ((IntKind.wrap .u64 ((IntKind.wrap .u64 (j1.1.2.2.1 * 6364136223846793005)) + (IntKind.wrap .u64 j1.2.1))) + 1442695040888963407)), j1.1.2.2.2))), ()))
      else
        none
noncomputable def ct_S_l1Cur_next : Ct := ⟨[(.ptr, Y_spec_l1Cur)], [((.int .i64), .b)], fun x => f_S_l1Cur_next x.1⟩
noncomputable def cx_S_l1Cur_next : Cx := ⟨tab, arrs, [], [], gl, []⟩
theorem ef_S_l1Cur_next (t0 : PV Y_spec_l1Cur) : denF cx_S_l1Cur_next 0 pl_S_l1Cur_next Try.f170.ntmps (bodyOf Try.f170) Try.f170.results.toList [(.ptr, Y_spec_l1Cur)] [((.int .i64), .b)] (t0, ()) = f_S_l1Cur_next t0 := by kernel_rfl
theorem ok_S_l1Cur_next : FnOk gl Try.prog 170 ct_S_l1Cur_next :=
  fnOk (cx := cx_S_l1Cur_next) (pl := pl_S_l1Cur_next) (dp := 0) (ok0_of tabOk (by unfold ArrOk; kernel_rfl) mix trivial trivial) Try.func170 (by kernel_rfl) (by kernel_rfl) (by kernel_rfl)
    (by rw [show loopsOf (bodyOf Try.f170) = [] from by kernel_rfl]; exact trivial) (fun x => ef_S_l1Cur_next x.1)
noncomputable def o_S_l1Cur_pick_6 : List Out := [⟨.normal, ⟨[], [1, 5], []⟩, mkSh 21 [(0, .var Y_spec_l1Cur .b), (2, .val (.int .i64) .b), (6, .val (.int .i64) .b)]⟩]
noncomputable def pl_S_l1Cur_pick : Plan := ⟨[(6, o_S_l1Cur_pick_6)], [], 0, 1⟩
noncomputable def f_S_l1Cur_pick (t0 : PV Y_spec_l1Cur) (t1 : PV (.int .i64)) : Option (PVs [(.int .i64)] × PVs [Y_spec_l1Cur]) :=
  bif (decide (t1 ≤ 1)) then
    some ((0, ()), (t0, ()))
  else
    (f_S_l1Cur_next t0).bind fun r2 =>
      ((
          bif (decide (t1 > 200)) then
            (f_S_l1Cur_next r2.2.1).bind fun r4 =>
              some (r4.2.1, t1, (IntKind.wrap .i64 ((IntKind.wrap .i64 (r2.1.1 * 256)) + r4.1.1)), ())
          else
            some (r2.2.1, t1, r2.1.1, ()) : Option ((PV Y_spec_l1Cur × PV (.int .i64) × PV (.int .i64) × Unit)))).bind fun j5 =>
        bif j5.2.1 == 0 then
          none
        else
          some (((j5.2.2.1.tmod j5.2.1), ()), (j5.1, ()))
noncomputable def ct_S_l1Cur_pick : Ct := ⟨[(.ptr, Y_spec_l1Cur), (.bor, (.int .i64))], [((.int .i64), .b)], fun x => f_S_l1Cur_pick x.1 x.2.1⟩
noncomputable def cx_S_l1Cur_pick : Cx := ⟨tab, arrs, [(170, ct_S_l1Cur_next)], [], gl, []⟩
theorem ef_S_l1Cur_pick (t0 : PV Y_spec_l1Cur) (t1 : PV (.int .i64)) : denF cx_S_l1Cur_pick 0 pl_S_l1Cur_pick Try.f107.ntmps (bodyOf Try.f107) Try.f107.results.toList [(.ptr, Y_spec_l1Cur), (.bor, (.int .i64))] [((.int .i64), .b)] (t0, t1, ()) = f_S_l1Cur_pick t0 t1 := by kernel_rfl
theorem ok_S_l1Cur_pick : FnOk gl Try.prog 107 ct_S_l1Cur_pick :=
  fnOk (cx := cx_S_l1Cur_pick) (pl := pl_S_l1Cur_pick) (dp := 0) (ok0_of tabOk (by unfold ArrOk; kernel_rfl) mix ⟨ok_S_l1Cur_next, trivial⟩ trivial) Try.func107 (by kernel_rfl) (by kernel_rfl) (by kernel_rfl)
    (by rw [show loopsOf (bodyOf Try.f107) = [] from by kernel_rfl]; exact trivial) (fun x => ef_S_l1Cur_pick x.1 x.2.1)
noncomputable def pl_S_l1Cur_line_186 : Plan := ⟨[], [], 0, 7⟩
noncomputable def pl_S_l1Cur_line : Plan := ⟨[], [], 1, 1⟩
noncomputable def f_S_l1Cur_line (t0 : PV Y_spec_l1Cur) : Option (PVs [.str] × PVs [Y_spec_l1Cur]) :=
  (f_S_l1Cur_pick t0 ([[97], [98], [99], [100], [], [46], [46, 46], [111, 110, 101, 32, 116, 119, 111], [43, 120], [45, 121], [92, 32, 122], [64, 64]].length : Int)).bind fun r1 =>
    bif inB r1.1.1 [[97], [98], [99], [100], [], [46], [46, 46], [111, 110, 101, 32, 116, 119, 111], [43, 120], [45, 121], [92, 32, 122], [64, 64]].length then
      some ((([[97], [98], [99], [100], [], [46], [46, 46], [111, 110, 101, 32, 116, 119, 111], [43, 120], [45, 121], [92, 32, 122], [64, 64]].getD r1.1.1.toNat []), ()), (r1.2.1, ()))
    else
      none
noncomputable def ct_S_l1Cur_line : Ct := ⟨[(.ptr, Y_spec_l1Cur)], [(.str, .b)], fun x => f_S_l1Cur_line x.1⟩
noncomputable def cx_S_l1Cur_line : Cx := ⟨tab, arrs, [(107, ct_S_l1Cur_pick)], [(186, Try.f186, pl_S_l1Cur_line_186)], gl, []⟩
theorem ef_S_l1Cur_line (t0 : PV Y_spec_l1Cur) : denF cx_S_l1Cur_line 1 pl_S_l1Cur_line Try.f185.ntmps (bodyOf Try.f185) Try.f185.results.toList [(.ptr, Y_spec_l1Cur)] [(.str, .b)] (t0, ()) = f_S_l1Cur_line t0 := by kernel_rfl
theorem ok_S_l1Cur_line : FnOk gl Try.prog 185 ct_S_l1Cur_line :=
  fnOk (cx := cx_S_l1Cur_line) (pl := pl_S_l1Cur_line) (dp := 1) (ok0_of tabOk (by unfold ArrOk; kernel_rfl) mix ⟨ok_S_l1Cur_pick, trivial⟩ ⟨⟨Try.func186, by kernel_rfl, (by rw [show loopsOf (bodyOf Try.f186) = [] from by kernel_rfl]; exact trivial)⟩, trivial⟩) Try.func185 (by kernel_rfl) (by kernel_rfl) (by kernel_rfl)
    (by rw [show loopsOf (bodyOf Try.f185) = [] from by kernel_rfl]; exact trivial) (fun x => ef_S_l1Cur_line x.1)
noncomputable def pl_S_l1Cur_one : Plan := ⟨[], [], 0, 1⟩
noncomputable def f_S_l1Cur_one (t0 : PV Y_spec_l1Cur) (t1 : PV (.int .i64)) : Option (PVs [.bool] × PVs [Y_spec_l1Cur]) :=
  (f_S_l1Cur_pick t0 t1).bind fun r1 =>
    some (((r1.1.1 == 0), ()), (r1.2.1, ()))
noncomputable def ct_S_l1Cur_one : Ct := ⟨[(.ptr, Y_spec_l1Cur), (.bor, (.int .i64))], [(.bool, .b)], fun x => f_S_l1Cur_one x.1 x.2.1⟩
noncomputable def cx_S_l1Cur_one : Cx := ⟨tab, arrs, [(107, ct_S_l1Cur_pick)], [], gl, []⟩
theorem ef_S_l1Cur_one (t0 : PV Y_spec_l1Cur) (t1 : PV (.int .i64)) : denF cx_S_l1Cur_one 0 pl_S_l1Cur_one Try.f138.ntmps (bodyOf Try.f138) Try.f138.results.toList [(.ptr, Y_spec_l1Cur), (.bor, (.int .i64))] [(.bool, .b)] (t0, t1, ()) = f_S_l1Cur_one t0 t1 := by kernel_rfl
theorem ok_S_l1Cur_one : FnOk gl Try.prog 138 ct_S_l1Cur_one :=
  fnOk (cx := cx_S_l1Cur_one) (pl := pl_S_l1Cur_one) (dp := 0) (ok0_of tabOk (by unfold ArrOk; kernel_rfl) mix ⟨ok_S_l1Cur_pick, trivial⟩ trivial) Try.func138 (by kernel_rfl) (by kernel_rfl) (by kernel_rfl)
    (by rw [show loopsOf (bodyOf Try.f138) = [] from by kernel_rfl]; exact trivial) (fun x => ef_S_l1Cur_one x.1 x.2.1)
noncomputable def o_S_l1Cur_text_8 : List Out := [⟨.normal, ⟨[], [3], []⟩, mkSh 27 [(0, .var Y_spec_l1Cur .b), (4, .val S_string (.row .b))]⟩]
noncomputable def pl_S_l1Cur_text_186 : Plan := ⟨[], [], 0, 27⟩
noncomputable def sh_S_l1Cur_text_3 : List Sh := mkSh 27 [(0, .var Y_spec_l1Cur .b), (1, .addr ⟨0, [], 0, 0⟩), (4, .val S_string (.row .b)), (5, .val (.int .i64) .b)]
noncomputable def o_S_l1Cur_text_3 : List Out := [⟨.exit 0, ⟨[], [0, 3], []⟩, mkSh 27 [(0, .var Y_spec_l1Cur .b), (1, .addr ⟨0, [], 0, 0⟩), (4, .val S_string (.row .b))]⟩]
noncomputable def b_S_l1Cur_text_3 (t0 : PV Y_spec_l1Cur) (t4 : PV S_string) (t5 : PV (.int .i64)) : Option ((PV Y_spec_l1Cur × PV S_string × PV (.int .i64) × Unit) ⊕ ((PV Y_spec_l1Cur × PV S_string × Unit))) :=
  bif (decide (t5 > 0)) then
    (f_S_l1Cur_line t0).bind fun r4 =>
      bif decide (r4.1.1.length + [10].length ≤ 1099511627776) then
        bif roomB (t4.length + [(r4.1.1 ++ [10])].length) then
          some (.inl (r4.2.1, (t4 ++ [(r4.1.1 ++ [10])]), (IntKind.wrap .i64 (t5 - 1)), ()))
        else
          none
      else
        none
  else
    some (.inr (t0, t4, ()))
noncomputable def w_S_l1Cur_text_3 : PV Y_spec_l1Cur × PV S_string × PV (.int .i64) × Unit → Option ((PV Y_spec_l1Cur × PV S_string × Unit)) := fix fun d => b_S_l1Cur_text_3 d.1 d.2.1 d.2.2.1
noncomputable def lp_S_l1Cur_text_3 : Lp := ⟨⟨[], [0, 3, 4], []⟩, sh_S_l1Cur_text_3, o_S_l1Cur_text_3, fun d => b_S_l1Cur_text_3 d.1 d.2.1 d.2.2.1⟩
noncomputable def pl_S_l1Cur_text : Plan := ⟨[(8, o_S_l1Cur_text_8)], [(3, lp_S_l1Cur_text_3)], 1, 1⟩
noncomputable def f_S_l1Cur_text (t0 : PV Y_spec_l1Cur) : Option (PVs [S_string] × PVs [Y_spec_l1Cur]) :=
  (f_S_l1Cur_pick t0 9).bind fun r7 =>
    (w_S_l1Cur_text_3 (r7.2.1, [], r7.1.1, ())).bind fun l8 =>
      ((
          (f_S_l1Cur_one l8.1 5).bind fun r13 =>
            bif r13.1.1 then
              (f_S_l1Cur_pick r13.2.1 ([[97], [101, 110, 100], [46]].length : Int)).bind fun r14 =>
                bif inB r14.1.1 [[97], [101, 110, 100], [46]].length then
                  bif roomB (l8.2.1.length + [([[97], [101, 110, 100], [46]].getD r14.1.1.toNat [])].length) then
                    some (r14.2.1, (l8.2.1 ++ [([[97], [101, 110, 100], [46]].getD r14.1.1.toNat [])]), ())
                  else
                    none
                else
                  none
            else
              some (r13.2.1, l8.2.1, ()) : Option ((PV Y_spec_l1Cur × PV S_string × Unit)))).bind fun j15 =>
        some ((j15.2.1, ()), (j15.1, ()))
noncomputable def ct_S_l1Cur_text : Ct := ⟨[(.ptr, Y_spec_l1Cur)], [(S_string, .b)], fun x => f_S_l1Cur_text x.1⟩
noncomputable def cx_S_l1Cur_text : Cx := ⟨tab, arrs, [(107, ct_S_l1Cur_pick), (138, ct_S_l1Cur_one), (185, ct_S_l1Cur_line)], [(186, Try.f186, pl_S_l1Cur_text_186)], gl, []⟩
theorem eb_S_l1Cur_text_3 (t0 : PV Y_spec_l1Cur) (t4 : PV S_string) (t5 : PV (.int .i64)) : denK cx_S_l1Cur_text (rcN cx_S_l1Cur_text 1) pl_S_l1Cur_text 1 ((loopsOf (bodyOf Try.f136)).getD 0 .skip) (fillS sh_S_l1Cur_text_3 (t0, t4, t5, ())) (roundK 1 lp_S_l1Cur_text_3) = b_S_l1Cur_text_3 t0 t4 t5 := by kernel_rfl
theorem ef_S_l1Cur_text (t0 : PV Y_spec_l1Cur) : denF cx_S_l1Cur_text 1 pl_S_l1Cur_text Try.f136.ntmps (bodyOf Try.f136) Try.f136.results.toList [(.ptr, Y_spec_l1Cur)] [(S_string, .b)] (t0, ()) = f_S_l1Cur_text t0 := by kernel_rfl
theorem ok_S_l1Cur_text : FnOk gl Try.prog 136 ct_S_l1Cur_text :=
  fnOk (cx := cx_S_l1Cur_text) (pl := pl_S_l1Cur_text) (dp := 1) (ok0_of tabOk (by unfold ArrOk; kernel_rfl) mix ⟨ok_S_l1Cur_pick, ok_S_l1Cur_one, ok_S_l1Cur_line, trivial⟩ ⟨⟨Try.func186, by kernel_rfl, (by rw [show loopsOf (bodyOf Try.f186) = [] from by kernel_rfl]; exact trivial)⟩, trivial⟩) Try.func136 (by kernel_rfl) (by kernel_rfl) (by kernel_rfl)
    (by rw [show loopsOf (bodyOf Try.f136) = [((loopsOf (bodyOf Try.f136)).getD 0 .skip)] from by kernel_rfl]; exact ⟨(by rw [show lookup pl_S_l1Cur_text.loops (firstId ((loopsOf (bodyOf Try.f136)).getD 0 .skip)) = some lp_S_l1Cur_text_3 from by kernel_rfl]; exact fun d z h => (eb_S_l1Cur_text_3 d.1 d.2.1 d.2.2.1).trans h), trivial⟩) (fun x => ef_S_l1Cur_text x.1)
noncomputable def pl_S_l1OwnT : Plan := ⟨[], [], 0, 0⟩
noncomputable def f_S_l1OwnT (t0 : PV S_string) : Option (PVs [S_string] × PVs []) :=
  bif roomB (([] : PV S_string).length + t0.length) then
    some (((([] : PV S_string) ++ t0), ()), ())
  else
    none
noncomputable def ct_S_l1OwnT : Ct := ⟨[(.bor, S_string)], [(S_string, (.row .b))], fun x => f_S_l1OwnT x.1⟩
noncomputable def cx_S_l1OwnT : Cx := ⟨tab, arrs, [], [], gl, []⟩
theorem ef_S_l1OwnT (t0 : PV S_string) : denF cx_S_l1OwnT 0 pl_S_l1OwnT Try.f111.ntmps (bodyOf Try.f111) Try.f111.results.toList [(.bor, S_string)] [(S_string, (.row .b))] (t0, ()) = f_S_l1OwnT t0 := by kernel_rfl
theorem ok_S_l1OwnT : FnOk gl Try.prog 111 ct_S_l1OwnT :=
  fnOk (cx := cx_S_l1OwnT) (pl := pl_S_l1OwnT) (dp := 0) (ok0_of tabOk (by unfold ArrOk; kernel_rfl) mix trivial trivial) Try.func111 (by kernel_rfl) (by kernel_rfl) (by kernel_rfl)
    (by rw [show loopsOf (bodyOf Try.f111) = [] from by kernel_rfl]; exact trivial) (fun x => ef_S_l1OwnT x.1)
noncomputable def pl_S_l1Ends : Plan := ⟨[], [], 0, 0⟩
noncomputable def f_S_l1Ends (t0 : PV .str) : Option (PVs [.bool] × PVs []) :=
  bif inB (IntKind.wrap .i64 ((t0.length : Int) - 1)) t0.length then
    some (((((t0.getD (IntKind.wrap .i64 ((t0.length : Int) - 1)).toNat 0).toNat : Int) == 10), ()), ())
  else
    none
noncomputable def ct_S_l1Ends : Ct := ⟨[(.bor, .str)], [(.bool, .b)], fun x => f_S_l1Ends x.1⟩
noncomputable def cx_S_l1Ends : Cx := ⟨tab, arrs, [], [], gl, []⟩
theorem ef_S_l1Ends (t0 : PV .str) : denF cx_S_l1Ends 0 pl_S_l1Ends Try.f154.ntmps (bodyOf Try.f154) Try.f154.results.toList [(.bor, .str)] [(.bool, .b)] (t0, ()) = f_S_l1Ends t0 := by kernel_rfl
theorem ok_S_l1Ends : FnOk gl Try.prog 154 ct_S_l1Ends :=
  fnOk (cx := cx_S_l1Ends) (pl := pl_S_l1Ends) (dp := 0) (ok0_of tabOk (by unfold ArrOk; kernel_rfl) mix trivial trivial) Try.func154 (by kernel_rfl) (by kernel_rfl) (by kernel_rfl)
    (by rw [show loopsOf (bodyOf Try.f154) = [] from by kernel_rfl]; exact trivial) (fun x => ef_S_l1Ends x.1)
noncomputable def pl_S_l1Whole : Plan := ⟨[], [], 0, 0⟩
noncomputable def f_S_l1Whole (t0 : PV S_string) : Option (PVs [.bool] × PVs []) :=
  bif ((t0.length : Int) == 0) then
    some ((true, ()), ())
  else
    bif inB (IntKind.wrap .i64 ((t0.length : Int) - 1)) t0.length then
      (f_S_l1Ends (t0.getD ((IntKind.wrap .i64 ((t0.length : Int) - 1)).toNat) [])).bind fun r1 =>
        some ((r1.1.1, ()), ())
    else
      none
noncomputable def ct_S_l1Whole : Ct := ⟨[(.bor, S_string)], [(.bool, .b)], fun x => f_S_l1Whole x.1⟩
noncomputable def cx_S_l1Whole : Cx := ⟨tab, arrs, [(154, ct_S_l1Ends)], [], gl, []⟩
theorem ef_S_l1Whole (t0 : PV S_string) : denF cx_S_l1Whole 0 pl_S_l1Whole Try.f148.ntmps (bodyOf Try.f148) Try.f148.results.toList [(.bor, S_string)] [(.bool, .b)] (t0, ()) = f_S_l1Whole t0 := by kernel_rfl
theorem ok_S_l1Whole : FnOk gl Try.prog 148 ct_S_l1Whole :=
  fnOk (cx := cx_S_l1Whole) (pl := pl_S_l1Whole) (dp := 0) (ok0_of tabOk (by unfold ArrOk; kernel_rfl) mix ⟨ok_S_l1Ends, trivial⟩ trivial) Try.func148 (by kernel_rfl) (by kernel_rfl) (by kernel_rfl)
    (by rw [show loopsOf (bodyOf Try.f148) = [] from by kernel_rfl]; exact trivial) (fun x => ef_S_l1Whole x.1)
noncomputable def pl_S_l1Plain : Plan := ⟨[], [], 0, 0⟩
noncomputable def f_S_l1Plain (t0 : PV .str) : Option (PVs [.str] × PVs []) :=
  (f_S_l1Ends t0).bind fun r4 =>
    bif r4.1.1 then
      bif cutB 0 (IntKind.wrap .i64 ((t0.length : Int) - 1)) t0.length then
        some (((cutL 0 (IntKind.wrap .i64 ((t0.length : Int) - 1)) t0), ()), ())
      else
        none
    else
      some ((t0, ()), ())
noncomputable def ct_S_l1Plain : Ct := ⟨[(.bor, .str)], [(.str, .b)], fun x => f_S_l1Plain x.1⟩
noncomputable def cx_S_l1Plain : Cx := ⟨tab, arrs, [(154, ct_S_l1Ends)], [], gl, []⟩
theorem ef_S_l1Plain (t0 : PV .str) : denF cx_S_l1Plain 0 pl_S_l1Plain Try.f200.ntmps (bodyOf Try.f200) Try.f200.results.toList [(.bor, .str)] [(.str, .b)] (t0, ()) = f_S_l1Plain t0 := by kernel_rfl
theorem ok_S_l1Plain : FnOk gl Try.prog 200 ct_S_l1Plain :=
  fnOk (cx := cx_S_l1Plain) (pl := pl_S_l1Plain) (dp := 0) (ok0_of tabOk (by unfold ArrOk; kernel_rfl) mix ⟨ok_S_l1Ends, trivial⟩ trivial) Try.func200 (by kernel_rfl) (by kernel_rfl) (by kernel_rfl)
    (by rw [show loopsOf (bodyOf Try.f200) = [] from by kernel_rfl]; exact trivial) (fun x => ef_S_l1Plain x.1)
noncomputable def o_S_l1Cur_other_14 : List Out := [⟨.normal, ⟨[], [0, 5, 6, 7, 29, 30, 72, 83, 84], []⟩, mkSh 120 [(0, .var Y_spec_l1Cur .b), (1, .addr ⟨0, [], 0, 0⟩), (6, .val S_string (.row .b)), (7, .val (.int .i64) .b), (8, .val (.int .i64) .b), (73, .val .bool .b)]⟩]
noncomputable def o_S_l1Cur_other_8 : List Out := [⟨.normal, ⟨[], [0, 5, 6, 7, 31, 67, 68, 69, 70, 71, 83, 84], []⟩, mkSh 120 [(0, .var Y_spec_l1Cur .b), (1, .addr ⟨0, [], 0, 0⟩), (6, .val S_string (.row .b)), (7, .val (.int .i64) .b), (8, .val (.int .i64) .b), (32, .val .bool .b)]⟩]
noncomputable def o_S_l1Cur_other_4 : List Out := [⟨.normal, ⟨[], [0, 5, 6, 29, 30, 67, 68, 69, 70, 71, 83, 84], []⟩, mkSh 120 [(0, .var Y_spec_l1Cur .b), (1, .addr ⟨0, [], 0, 0⟩), (6, .val S_string (.row .b)), (7, .val (.int .i64) .b)]⟩]
noncomputable def o_S_l1Cur_other_16 : List Out := [⟨.normal, ⟨[], [5, 85], []⟩, mkSh 120 [(0, .var Y_spec_l1Cur .b), (6, .val S_string (.row .b)), (86, .val .bool .b)]⟩]
noncomputable def o_S_l1Cur_other_21 : List Out := [⟨.normal, ⟨[], [5], []⟩, mkSh 120 [(0, .var Y_spec_l1Cur .b), (6, .val S_string (.row .b))]⟩]
noncomputable def sh_S_l1Cur_other_3 : List Sh := mkSh 120 [(0, .var Y_spec_l1Cur .b), (1, .addr ⟨0, [], 0, 0⟩), (6, .val S_string (.row .b)), (7, .val (.int .i64) .b)]
noncomputable def o_S_l1Cur_other_3 : List Out := [⟨.exit 0, ⟨[], [0, 5, 83, 84], []⟩, mkSh 120 [(0, .var Y_spec_l1Cur .b), (1, .addr ⟨0, [], 0, 0⟩), (6, .val S_string (.row .b))]⟩]
noncomputable def b_S_l1Cur_other_3 (t0 : PV Y_spec_l1Cur) (t6 : PV S_string) (t7 : PV (.int .i64)) : Option ((PV Y_spec_l1Cur × PV S_string × PV (.int .i64) × Unit) ⊕ ((PV Y_spec_l1Cur × PV S_string × Unit))) :=
  bif (decide (t7 > 0)) then
    ((
        (f_S_l1Cur_pick t0 (IntKind.wrap .i64 ((t6.length : Int) + 1))).bind fun r6 =>
          (f_S_l1Cur_pick r6.2.1 3).bind fun r8 =>
            bif (r8.1.1 == 0) then
              bif (decide (r6.1.1 < (t6.length : Int))) then
                bif cutB 0 r6.1.1 t6.length then
                  (f_S_l1OwnT (cutL 0 r6.1.1 t6)).bind fun r9 =>
                    bif cutB (IntKind.wrap .i64 (r6.1.1 + 1)) (t6.length : Int) t6.length then
                      bif roomB (r9.1.1.length + (cutL (IntKind.wrap .i64 (r6.1.1 + 1)) (t6.length : Int) t6).length) then
                        some (r8.2.1, (r9.1.1 ++ (cutL (IntKind.wrap .i64 (r6.1.1 + 1)) (t6.length : Int) t6)), t7, ())
                      else
                        none
                    else
                      none
                else
                  none
              else
                some (r8.2.1, t6, t7, ())
            else
              bif (r8.1.1 == 1) then
                ((
                    bif (decide (r6.1.1 < (t6.length : Int))) then
                      bif inB r6.1.1 t6.length then
                        (f_S_l1Ends (t6.getD r6.1.1.toNat [])).bind fun r10 =>
                          some (r8.2.1, t6, t7, r6.1.1, r10.1.1, ())
                      else
                        none
                    else
                      some (r8.2.1, t6, t7, r6.1.1, false, ()) : Option ((PV Y_spec_l1Cur × PV S_string × PV (.int .i64) × PV (.int .i64) × PV .bool × Unit)))).bind fun j11 =>
                  bif j11.2.2.2.2.1 then
                    (f_S_l1Cur_line j11.1).bind fun r12 =>
                      bif decide (r12.1.1.length + [10].length ≤ 1099511627776) then
                        bif inB j11.2.2.2.1 j11.2.1.length then
                          some (r12.2.1, (j11.2.1.set j11.2.2.2.1.toNat (r12.1.1 ++ [10])), j11.2.2.1, ())
                        else
                          none
                      else
                        none
                  else
                    some (j11.1, j11.2.1, j11.2.2.1, ())
              else
                ((
                    bif (decide (r6.1.1 < (t6.length : Int))) then
                      some (r8.2.1, t6, t7, r6.1.1, true, ())
                    else
                      (f_S_l1Whole t6).bind fun r13 =>
                        some (r8.2.1, t6, t7, r6.1.1, r13.1.1, ()) : Option ((PV Y_spec_l1Cur × PV S_string × PV (.int .i64) × PV (.int .i64) × PV .bool × Unit)))).bind fun j14 =>
                  bif j14.2.2.2.2.1 then
                    bif cutB 0 j14.2.2.2.1 j14.2.1.length then
                      (f_S_l1OwnT (cutL 0 j14.2.2.2.1 j14.2.1)).bind fun r15 =>
                        (f_S_l1Cur_line j14.1).bind fun r16 =>
                          bif decide (r16.1.1.length + [10].length ≤ 1099511627776) then
                            bif roomB (r15.1.1.length + [(r16.1.1 ++ [10])].length) then
                              bif cutB j14.2.2.2.1 (j14.2.1.length : Int) j14.2.1.length then
                                bif roomB ((r15.1.1 ++ [(r16.1.1 ++ [10])]).length + (cutL j14.2.2.2.1 (j14.2.1.length : Int) j14.2.1).length) then
                                  some (r16.2.1, ((r15.1.1 ++ [(r16.1.1 ++ [10])]) ++ (cutL j14.2.2.2.1 (j14.2.1.length : Int) j14.2.1)), j14.2.2.1, ())
                                else
                                  none
                              else
                                none
                            else
                              none
                          else
                            none
                    else
                      none
                  else
                    some (j14.1, j14.2.1, j14.2.2.1, ()) : Option ((PV Y_spec_l1Cur × PV S_string × PV (.int .i64) × Unit)))).bind fun j17 =>
      some (.inl (j17.1, j17.2.1, (IntKind.wrap .i64 (j17.2.2.1 - 1)), ()))
  else
    some (.inr (t0, t6, ()))
noncomputable def w_S_l1Cur_other_3 : PV Y_spec_l1Cur × PV S_string × PV (.int .i64) × Unit → Option ((PV Y_spec_l1Cur × PV S_string × Unit)) := fix fun d => b_S_l1Cur_other_3 d.1 d.2.1 d.2.2.1
noncomputable def lp_S_l1Cur_other_3 : Lp := ⟨⟨[], [0, 5, 6, 29, 30, 67, 68, 69, 70, 71, 83, 84], []⟩, sh_S_l1Cur_other_3, o_S_l1Cur_other_3, fun d => b_S_l1Cur_other_3 d.1 d.2.1 d.2.2.1⟩
noncomputable def pl_S_l1Cur_other : Plan := ⟨[(14, o_S_l1Cur_other_14), (8, o_S_l1Cur_other_8), (4, o_S_l1Cur_other_4), (16, o_S_l1Cur_other_16), (21, o_S_l1Cur_other_21)], [(3, lp_S_l1Cur_other_3)], 0, 1⟩
noncomputable def f_S_l1Cur_other (t0 : PV Y_spec_l1Cur) (t1 : PV S_string) : Option (PVs [S_string] × PVs [Y_spec_l1Cur]) :=
  (f_S_l1OwnT t1).bind fun r2 =>
    (f_S_l1Cur_pick t0 4).bind fun r20 =>
      (w_S_l1Cur_other_3 (r20.2.1, r2.1.1, r20.1.1, ())).bind fun l21 =>
        ((
            ((
                bif (decide ((l21.2.1.length : Int) > 0)) then
                  (f_S_l1Cur_one l21.1 6).bind fun r29 =>
                    some (r29.2.1, l21.2.1, r29.1.1, ())
                else
                  some (l21.1, l21.2.1, false, ()) : Option ((PV Y_spec_l1Cur × PV S_string × PV .bool × Unit)))).bind fun j30 =>
              bif j30.2.2.1 then
                bif inB (IntKind.wrap .i64 ((j30.2.1.length : Int) - 1)) j30.2.1.length then
                  (f_S_l1Plain (j30.2.1.getD ((IntKind.wrap .i64 ((j30.2.1.length : Int) - 1)).toNat) [])).bind fun r32 =>
                    bif inB (IntKind.wrap .i64 ((j30.2.1.length : Int) - 1)) j30.2.1.length then
                      (f_S_l1Ends (j30.2.1.getD ((IntKind.wrap .i64 ((j30.2.1.length : Int) - 1)).toNat) [])).bind fun r34 =>
                        bif (!r34.1.1) then
                          bif decide (r32.1.1.length + [10].length ≤ 1099511627776) then
                            bif inB (IntKind.wrap .i64 ((j30.2.1.length : Int) - 1)) j30.2.1.length then
                              some (j30.1, (j30.2.1.set ((IntKind.wrap .i64 ((j30.2.1.length : Int) - 1)).toNat) (r32.1.1 ++ [10])), ())
                            else
                              none
                          else
                            none
                        else
                          bif (!(r32.1.1 == [])) then
                            bif inB (IntKind.wrap .i64 ((j30.2.1.length : Int) - 1)) j30.2.1.length then
                              some (j30.1, (j30.2.1.set ((IntKind.wrap .i64 ((j30.2.1.length : Int) - 1)).toNat) r32.1.1), ())
                            else
                              none
                          else
                            some (j30.1, j30.2.1, ())
                    else
                      none
                else
                  none
              else
                some (j30.1, j30.2.1, ()) : Option ((PV Y_spec_l1Cur × PV S_string × Unit)))).bind fun j35 =>
          some ((j35.2.1, ()), (j35.1, ()))
noncomputable def ct_S_l1Cur_other : Ct := ⟨[(.ptr, Y_spec_l1Cur), (.bor, S_string)], [(S_string, .b)], fun x => f_S_l1Cur_other x.1 x.2.1⟩
noncomputable def cx_S_l1Cur_other : Cx := ⟨tab, arrs, [(107, ct_S_l1Cur_pick), (111, ct_S_l1OwnT), (138, ct_S_l1Cur_one), (148, ct_S_l1Whole), (154, ct_S_l1Ends), (185, ct_S_l1Cur_line), (200, ct_S_l1Plain)], [], gl, []⟩
theorem eb_S_l1Cur_other_3 (t0 : PV Y_spec_l1Cur) (t6 : PV S_string) (t7 : PV (.int .i64)) : denK cx_S_l1Cur_other (rcN cx_S_l1Cur_other 0) pl_S_l1Cur_other 1 ((loopsOf (bodyOf Try.f161)).getD 0 .skip) (fillS sh_S_l1Cur_other_3 (t0, t6, t7, ())) (roundK 1 lp_S_l1Cur_other_3) = b_S_l1Cur_other_3 t0 t6 t7 := by kernel_rfl
theorem ef_S_l1Cur_other (t0 : PV Y_spec_l1Cur) (t1 : PV S_string) : denF cx_S_l1Cur_other 0 pl_S_l1Cur_other Try.f161.ntmps (bodyOf Try.f161) Try.f161.results.toList [(.ptr, Y_spec_l1Cur), (.bor, S_string)] [(S_string, .b)] (t0, t1, ()) = f_S_l1Cur_other t0 t1 := by kernel_rfl
theorem ok_S_l1Cur_other : FnOk gl Try.prog 161 ct_S_l1Cur_other :=
  fnOk (cx := cx_S_l1Cur_other) (pl := pl_S_l1Cur_other) (dp := 0) (ok0_of tabOk (by unfold ArrOk; kernel_rfl) mix ⟨ok_S_l1Cur_pick, ok_S_l1OwnT, ok_S_l1Cur_one, ok_S_l1Whole, ok_S_l1Ends, ok_S_l1Cur_line, ok_S_l1Plain, trivial⟩ trivial) Try.func161 (by kernel_rfl) (by kernel_rfl) (by kernel_rfl)
    (by rw [show loopsOf (bodyOf Try.f161) = [((loopsOf (bodyOf Try.f161)).getD 0 .skip)] from by kernel_rfl]; exact ⟨(by rw [show lookup pl_S_l1Cur_other.loops (firstId ((loopsOf (bodyOf Try.f161)).getD 0 .skip)) = some lp_S_l1Cur_other_3 from by kernel_rfl]; exact fun d z h => (eb_S_l1Cur_other_3 d.1 d.2.1 d.2.2.1).trans h), trivial⟩) (fun x => ef_S_l1Cur_other x.1 x.2.1)
noncomputable def o_S_l1Cur_anyText_136_8 : List Out := [⟨.normal, ⟨[], [3], []⟩, mkSh 51 [(0, .var Y_spec_l1Cur .b), (1, .addr ⟨0, [], 0, 0⟩), (3, .val S_string (.row .b)), (5, .addr ⟨0, [], 0, 0⟩), (28, .val S_string (.row .b))]⟩]
noncomputable def o_S_l1Cur_anyText_10 : List Out := [⟨.normal, ⟨[], [3], []⟩, mkSh 25 [(0, .var Y_spec_l1Cur .b), (4, .val S_string (.row .b))]⟩]
noncomputable def sh_S_l1Cur_anyText_136_3 : List Sh := mkSh 51 [(0, .var Y_spec_l1Cur .b), (1, .addr ⟨0, [], 0, 0⟩), (3, .val S_string (.row .b)), (5, .addr ⟨0, [], 0, 0⟩), (25, .addr ⟨0, [], 0, 0⟩), (28, .val S_string (.row .b)), (29, .val (.int .i64) .b)]
noncomputable def o_S_l1Cur_anyText_136_3 : List Out := [⟨.exit 0, ⟨[], [0, 3], []⟩, mkSh 51 [(0, .var Y_spec_l1Cur .b), (1, .addr ⟨0, [], 0, 0⟩), (3, .val S_string (.row .b)), (5, .addr ⟨0, [], 0, 0⟩), (25, .addr ⟨0, [], 0, 0⟩), (28, .val S_string (.row .b))]⟩]
noncomputable def b_S_l1Cur_anyText_136_3 (t0 : PV Y_spec_l1Cur) (t3 : PV S_string) (t28 : PV S_string) (t29 : PV (.int .i64)) : Option ((PV Y_spec_l1Cur × PV S_string × PV S_string × PV (.int .i64) × Unit) ⊕ ((PV Y_spec_l1Cur × PV S_string × PV S_string × Unit))) :=
  bif (decide (t29 > 0)) then
    (f_S_l1Cur_line t0).bind fun r4 =>
      bif decide (r4.1.1.length + [10].length ≤ 1099511627776) then
        bif roomB (t28.length + [(r4.1.1 ++ [10])].length) then
          some (.inl (r4.2.1, t3, (t28 ++ [(r4.1.1 ++ [10])]), (IntKind.wrap .i64 (t29 - 1)), ()))
        else
          none
      else
        none
  else
    some (.inr (t0, t3, t28, ()))
noncomputable def w_S_l1Cur_anyText_136_3 : PV Y_spec_l1Cur × PV S_string × PV S_string × PV (.int .i64) × Unit → Option ((PV Y_spec_l1Cur × PV S_string × PV S_string × Unit)) := fix fun d => b_S_l1Cur_anyText_136_3 d.1 d.2.1 d.2.2.1 d.2.2.2.1
noncomputable def lp_S_l1Cur_anyText_136_3 : Lp := ⟨⟨[], [0, 3, 4], []⟩, sh_S_l1Cur_anyText_136_3, o_S_l1Cur_anyText_136_3, fun d => b_S_l1Cur_anyText_136_3 d.1 d.2.1 d.2.2.1 d.2.2.2.1⟩
noncomputable def pl_S_l1Cur_anyText_136 : Plan := ⟨[(8, o_S_l1Cur_anyText_136_8)], [(3, lp_S_l1Cur_anyText_136_3)], 1, 25⟩
noncomputable def pl_S_l1Cur_anyText_186 : Plan := ⟨[], [], 0, 51⟩
noncomputable def pl_S_l1Cur_anyText : Plan := ⟨[(10, o_S_l1Cur_anyText_10)], [], 2, 1⟩
noncomputable def f_S_l1Cur_anyText (t0 : PV Y_spec_l1Cur) : Option (PVs [S_string] × PVs [Y_spec_l1Cur]) :=
  (f_S_l1Cur_pick t0 9).bind fun r20 =>
    (w_S_l1Cur_anyText_136_3 (r20.2.1, [], [], r20.1.1, ())).bind fun l21 =>
      ((
          (f_S_l1Cur_one l21.1 5).bind fun r23 =>
            bif r23.1.1 then
              (f_S_l1Cur_pick r23.2.1 ([[97], [101, 110, 100], [46]].length : Int)).bind fun r24 =>
                bif inB r24.1.1 [[97], [101, 110, 100], [46]].length then
                  bif roomB (l21.2.2.1.length + [([[97], [101, 110, 100], [46]].getD r24.1.1.toNat [])].length) then
                    some (r24.2.1, l21.2.1, (l21.2.2.1 ++ [([[97], [101, 110, 100], [46]].getD r24.1.1.toNat [])]), ())
                  else
                    none
                else
                  none
            else
              some (r23.2.1, l21.2.1, l21.2.2.1, ()) : Option ((PV Y_spec_l1Cur × PV S_string × PV S_string × Unit)))).bind fun j25 =>
        ((
            bif (decide ((j25.2.2.1.length : Int) > 1)) then
              (f_S_l1Cur_pick j25.1 25).bind fun r29 =>
                bif (r29.1.1 == 0) then
                  bif inB 0 j25.2.2.1.length then
                    some (r29.2.1, (j25.2.2.1.set ((0 : Int).toNat) [120]), ())
                  else
                    none
                else
                  bif (r29.1.1 == 1) then
                    bif inB 0 j25.2.2.1.length then
                      some (r29.2.1, (j25.2.2.1.set ((0 : Int).toNat) []), ())
                    else
                      none
                  else
                    bif (r29.1.1 == 2) then
                      bif inB 0 j25.2.2.1.length then
                        some (r29.2.1, (j25.2.2.1.set ((0 : Int).toNat) [97, 10, 98, 10]), ())
                      else
                        none
                    else
                      some (r29.2.1, j25.2.2.1, ())
            else
              some (j25.1, j25.2.2.1, ()) : Option ((PV Y_spec_l1Cur × PV S_string × Unit)))).bind fun j30 =>
          some ((j30.2.1, ()), (j30.1, ()))
noncomputable def ct_S_l1Cur_anyText : Ct := ⟨[(.ptr, Y_spec_l1Cur)], [(S_string, (.row .b))], fun x => f_S_l1Cur_anyText x.1⟩
noncomputable def cx_S_l1Cur_anyText : Cx := ⟨tab, arrs, [(107, ct_S_l1Cur_pick), (138, ct_S_l1Cur_one), (185, ct_S_l1Cur_line)], [(136, Try.f136, pl_S_l1Cur_anyText_136), (186, Try.f186, pl_S_l1Cur_anyText_186)], gl, []⟩
theorem eb_S_l1Cur_anyText_136_3 (t0 : PV Y_spec_l1Cur) (t3 : PV S_string) (t28 : PV S_string) (t29 : PV (.int .i64)) : denK cx_S_l1Cur_anyText (rcN cx_S_l1Cur_anyText 1) pl_S_l1Cur_anyText_136 25 ((loopsOf (bodyOf Try.f136)).getD 0 .skip) (fillS sh_S_l1Cur_anyText_136_3 (t0, t3, t28, t29, ())) (roundK 25 lp_S_l1Cur_anyText_136_3) = b_S_l1Cur_anyText_136_3 t0 t3 t28 t29 := by kernel_rfl
theorem ef_S_l1Cur_anyText (t0 : PV Y_spec_l1Cur) : denF cx_S_l1Cur_anyText 2 pl_S_l1Cur_anyText Try.f162.ntmps (bodyOf Try.f162) Try.f162.results.toList [(.ptr, Y_spec_l1Cur)] [(S_string, (.row .b))] (t0, ()) = f_S_l1Cur_anyText t0 := by kernel_rfl
theorem ok_S_l1Cur_anyText : FnOk gl Try.prog 162 ct_S_l1Cur_anyText :=
  fnOk (cx := cx_S_l1Cur_anyText) (pl := pl_S_l1Cur_anyText) (dp := 2) (ok0_of tabOk (by unfold ArrOk; kernel_rfl) mix ⟨ok_S_l1Cur_pick, ok_S_l1Cur_one, ok_S_l1Cur_line, trivial⟩ ⟨⟨Try.func136, by kernel_rfl, (by rw [show loopsOf (bodyOf Try.f136) = [((loopsOf (bodyOf Try.f136)).getD 0 .skip)] from by kernel_rfl]; exact ⟨(by rw [show lookup pl_S_l1Cur_anyText_136.loops (firstId ((loopsOf (bodyOf Try.f136)).getD 0 .skip)) = some lp_S_l1Cur_anyText_136_3 from by kernel_rfl]; exact fun d z h => (eb_S_l1Cur_anyText_136_3 d.1 d.2.1 d.2.2.1 d.2.2.2.1).trans h), trivial⟩)⟩, ⟨Try.func186, by kernel_rfl, (by rw [show loopsOf (bodyOf Try.f186) = [] from by kernel_rfl]; exact trivial)⟩, trivial⟩) Try.func162 (by kernel_rfl) (by kernel_rfl) (by kernel_rfl)
    (by rw [show loopsOf (bodyOf Try.f162) = [] from by kernel_rfl]; exact trivial) (fun x => ef_S_l1Cur_anyText x.1)
noncomputable def o_S_l1Cur_three_11 : List Out := [⟨.normal, ⟨[(7, .b)], [5, 6, 7], []⟩, mkSh 32 [(0, .var Y_spec_l1Cur .b), (6, .val S_string .b), (7, .val S_string .b), (8, .val S_string .b)]⟩]
noncomputable def pl_S_l1Cur_three : Plan := ⟨[(11, o_S_l1Cur_three_11)], [], 0, 1⟩
noncomputable def f_S_l1Cur_three (t0 : PV Y_spec_l1Cur) : Option (PVs [S_string, S_string, S_string] × PVs [Y_spec_l1Cur]) :=
  (f_S_l1Cur_text t0).bind fun r2 =>
    (f_S_l1Cur_other r2.2.1 r2.1.1).bind fun r4 =>
      (f_S_l1Cur_other r4.2.1 r2.1.1).bind fun r6 =>
        ((
            (f_S_l1Cur_pick r6.2.1 12).bind fun r11 =>
              bif (r11.1.1 == 0) then
                some (r11.2.1, r2.1.1, r4.1.1, r4.1.1, ())
              else
                bif (r11.1.1 == 1) then
                  some (r11.2.1, r2.1.1, r2.1.1, r6.1.1, ())
                else
                  bif (r11.1.1 == 2) then
                    (f_S_l1Cur_anyText r11.2.1).bind fun r12 =>
                      some (r12.2.1, r2.1.1, r4.1.1, r12.1.1, ())
                  else
                    some (r11.2.1, r2.1.1, r4.1.1, r6.1.1, ()) : Option ((PV Y_spec_l1Cur × PV S_string × PV S_string × PV S_string × Unit)))).bind fun j13 =>
          some ((j13.2.1, j13.2.2.1, j13.2.2.2.1, ()), (j13.1, ()))
noncomputable def ct_S_l1Cur_three : Ct := ⟨[(.ptr, Y_spec_l1Cur)], [(S_string, .b), (S_string, .b), (S_string, .b)], fun x => f_S_l1Cur_three x.1⟩
noncomputable def cx_S_l1Cur_three : Cx := ⟨tab, arrs, [(107, ct_S_l1Cur_pick), (136, ct_S_l1Cur_text), (161, ct_S_l1Cur_other), (162, ct_S_l1Cur_anyText)], [], gl, []⟩
theorem ef_S_l1Cur_three (t0 : PV Y_spec_l1Cur) : denF cx_S_l1Cur_three 0 pl_S_l1Cur_three Try.f99.ntmps (bodyOf Try.f99) Try.f99.results.toList [(.ptr, Y_spec_l1Cur)] [(S_string, .b), (S_string, .b), (S_string, .b)] (t0, ()) = f_S_l1Cur_three t0 := by kernel_rfl
theorem ok_S_l1Cur_three : FnOk gl Try.prog 99 ct_S_l1Cur_three :=
  fnOk (cx := cx_S_l1Cur_three) (pl := pl_S_l1Cur_three) (dp := 0) (ok0_of tabOk (by unfold ArrOk; kernel_rfl) mix ⟨ok_S_l1Cur_pick, ok_S_l1Cur_text, ok_S_l1Cur_other, ok_S_l1Cur_anyText, trivial⟩ trivial) Try.func99 (by kernel_rfl) (by kernel_rfl) (by kernel_rfl)
    (by rw [show loopsOf (bodyOf Try.f99) = [] from by kernel_rfl]; exact trivial) (fun x => ef_S_l1Cur_three x.1)
noncomputable def pl_S_DrawPartsOf : Plan := ⟨[], [], 0, 0⟩
noncomputable def f_S_DrawPartsOf (t0 : PV S_uint8) : Option (PVs [S_string, S_string, S_string] × PVs []) :=
  (f_S_l1Cur_three (t0, (0, (0, ())))).bind fun r1 =>
    some ((r1.1.1, r1.1.2.1, r1.1.2.2.1, ()), ())
noncomputable def ct_S_DrawPartsOf : Ct := ⟨[(.bor, S_uint8)], [(S_string, .b), (S_string, .b), (S_string, .b)], fun x => f_S_DrawPartsOf x.1⟩
noncomputable def cx_S_DrawPartsOf : Cx := ⟨tab, arrs, [(99, ct_S_l1Cur_three)], [], gl, []⟩
theorem ef_S_DrawPartsOf (t0 : PV S_uint8) : denF cx_S_DrawPartsOf 0 pl_S_DrawPartsOf Try.f32.ntmps (bodyOf Try.f32) Try.f32.results.toList [(.bor, S_uint8)] [(S_string, .b), (S_string, .b), (S_string, .b)] (t0, ()) = f_S_DrawPartsOf t0 := by kernel_rfl
theorem ok_S_DrawPartsOf : FnOk gl Try.prog 32 ct_S_DrawPartsOf :=
  fnOk (cx := cx_S_DrawPartsOf) (pl := pl_S_DrawPartsOf) (dp := 0) (ok0_of tabOk (by unfold ArrOk; kernel_rfl) mix ⟨ok_S_l1Cur_three, trivial⟩ trivial) Try.func32 (by kernel_rfl) (by kernel_rfl) (by kernel_rfl)
    (by rw [show loopsOf (bodyOf Try.f32) = [] from by kernel_rfl]; exact trivial) (fun x => ef_S_DrawPartsOf x.1)
noncomputable def pl_S_DrawMerge : Plan := ⟨[], [], 0, 0⟩
noncomputable def f_S_DrawMerge (t0 : PV S_uint8) : Option (PVs [S_string, S_string, S_string] × PVs []) :=
  (f_S_DrawPartsOf t0).bind fun r1 =>
    some ((r1.1.1, r1.1.2.1, r1.1.2.2.1, ()), ())
noncomputable def ct_S_DrawMerge : Ct := ⟨[(.bor, S_uint8)], [(S_string, .b), (S_string, .b), (S_string, .b)], fun x => f_S_DrawMerge x.1⟩
noncomputable def cx_S_DrawMerge : Cx := ⟨tab, arrs, [(32, ct_S_DrawPartsOf)], [], gl, []⟩
theorem ef_S_DrawMerge (t0 : PV S_uint8) : denF cx_S_DrawMerge 0 pl_S_DrawMerge Try.f47.ntmps (bodyOf Try.f47) Try.f47.results.toList [(.bor, S_uint8)] [(S_string, .b), (S_string, .b), (S_string, .b)] (t0, ()) = f_S_DrawMerge t0 := by kernel_rfl
theorem ok_S_DrawMerge : FnOk gl Try.prog 47 ct_S_DrawMerge :=
  fnOk (cx := cx_S_DrawMerge) (pl := pl_S_DrawMerge) (dp := 0) (ok0_of tabOk (by unfold ArrOk; kernel_rfl) mix ⟨ok_S_DrawPartsOf, trivial⟩ trivial) Try.func47 (by kernel_rfl) (by kernel_rfl) (by kernel_rfl)
    (by rw [show loopsOf (bodyOf Try.f47) = [] from by kernel_rfl]; exact trivial) (fun x => ef_S_DrawMerge x.1)
noncomputable def pl_I_in : Plan := ⟨[], [], 0, 0⟩
noncomputable def f_I_in (t0 : PV (.int .i64)) (t1 : PV (.int .i64)) (t2 : PV (.int .i64)) : Option (PVs [.bool] × PVs []) :=
  bif (decide (t0 ≥ t1)) then
    some (((decide (t0 ≤ t2)), ()), ())
  else
    some ((false, ()), ())
noncomputable def ct_I_in : Ct := ⟨[(.bor, (.int .i64)), (.bor, (.int .i64)), (.bor, (.int .i64))], [(.bool, .b)], fun x => f_I_in x.1 x.2.1 x.2.2.1⟩
noncomputable def cx_I_in : Cx := ⟨tab, arrs, [], [], gl, []⟩
theorem ef_I_in (t0 : PV (.int .i64)) (t1 : PV (.int .i64)) (t2 : PV (.int .i64)) : denF cx_I_in 0 pl_I_in Try.f104.ntmps (bodyOf Try.f104) Try.f104.results.toList [(.bor, (.int .i64)), (.bor, (.int .i64)), (.bor, (.int .i64))] [(.bool, .b)] (t0, t1, t2, ()) = f_I_in t0 t1 t2 := by kernel_rfl
theorem ok_I_in : FnOk gl Try.prog 104 ct_I_in :=
  fnOk (cx := cx_I_in) (pl := pl_I_in) (dp := 0) (ok0_of tabOk (by unfold ArrOk; kernel_rfl) mix trivial trivial) Try.func104 (by kernel_rfl) (by kernel_rfl) (by kernel_rfl)
    (by rw [show loopsOf (bodyOf Try.f104) = [] from by kernel_rfl]; exact trivial) (fun x => ef_I_in x.1 x.2.1 x.2.2.1)
noncomputable def pl_I_isLine : Plan := ⟨[], [], 0, 0⟩
noncomputable def f_I_isLine (t0 : PV .str) : Option (PVs [.bool] × PVs []) :=
  (f_I_in (t0.length : Int) 1 30).bind fun r1 =>
    bif r1.1.1 then
      bif cutB 0 (IntKind.wrap .i64 ((t0.length : Int) - 1)) t0.length then
        (f_strings_Contains (cutL 0 (IntKind.wrap .i64 ((t0.length : Int) - 1)) t0) [10]).bind fun r2 =>
          some (((!r2.1.1), ()), ())
      else
        none
    else
      some ((false, ()), ())
noncomputable def ct_I_isLine : Ct := ⟨[(.bor, .str)], [(.bool, .b)], fun x => f_I_isLine x.1⟩
noncomputable def cx_I_isLine : Cx := ⟨tab, arrs, [(104, ct_I_in), (215, ct_strings_Contains)], [], gl, []⟩
theorem ef_I_isLine (t0 : PV .str) : denF cx_I_isLine 0 pl_I_isLine Try.f190.ntmps (bodyOf Try.f190) Try.f190.results.toList [(.bor, .str)] [(.bool, .b)] (t0, ()) = f_I_isLine t0 := by kernel_rfl
theorem ok_I_isLine : FnOk gl Try.prog 190 ct_I_isLine :=
  fnOk (cx := cx_I_isLine) (pl := pl_I_isLine) (dp := 0) (ok0_of tabOk (by unfold ArrOk; kernel_rfl) mix ⟨ok_I_in, ok_strings_Contains, trivial⟩ trivial) Try.func190 (by kernel_rfl) (by kernel_rfl) (by kernel_rfl)
    (by rw [show loopsOf (bodyOf Try.f190) = [] from by kernel_rfl]; exact trivial) (fun x => ef_I_isLine x.1)
noncomputable def pl_I_areLines_1 : Plan := ⟨[], [], 0, 0⟩
noncomputable def f_I_areLines_1 (t0 : PV .str) : Option (PVs [.bool] × PVs []) :=
  (f_I_isLine t0).bind fun r1 =>
    some (((!r1.1.1), ()), ())
noncomputable def ct_I_areLines_1 : Ct := ⟨[(.bor, .str)], [(.bool, .b)], fun x => f_I_areLines_1 x.1⟩
noncomputable def cx_I_areLines_1 : Cx := ⟨tab, arrs, [(190, ct_I_isLine)], [], gl, []⟩
theorem ef_I_areLines_1 (t0 : PV .str) : denF cx_I_areLines_1 0 pl_I_areLines_1 Try.f189.ntmps (bodyOf Try.f189) Try.f189.results.toList [(.bor, .str)] [(.bool, .b)] (t0, ()) = f_I_areLines_1 t0 := by kernel_rfl
theorem ok_I_areLines_1 : FnOk gl Try.prog 189 ct_I_areLines_1 :=
  fnOk (cx := cx_I_areLines_1) (pl := pl_I_areLines_1) (dp := 0) (ok0_of tabOk (by unfold ArrOk; kernel_rfl) mix ⟨ok_I_isLine, trivial⟩ trivial) Try.func189 (by kernel_rfl) (by kernel_rfl) (by kernel_rfl)
    (by rw [show loopsOf (bodyOf Try.f189) = [] from by kernel_rfl]; exact trivial) (fun x => ef_I_areLines_1 x.1)
noncomputable def pl_I_areLines_188 : Plan := ⟨[], [], 1, 11⟩
noncomputable def sh_I_areLines_214_2 : List Sh := mkSh 39 [(0, .val S_string .b), (2, .val .bool .b), (3, .val S_string .b), (4, .val (.int .i64) .b), (5, .val .bool .b), (6, .val .bool .b), (7, .val S_string .b), (11, .val S_string .b), (12, .fn 189 []), (15, .val .bool .b), (16, .val S_string .b), (17, .fn 189 []), (20, .val S_string .b), (21, .fn 189 []), (27, .val (.int .i64) .b), (28, .val (.int .i64) .b)]
noncomputable def o_I_areLines_214_2 : List Out := [⟨.exit 0, ⟨[], [], []⟩, mkSh 39 [(0, .val S_string .b), (2, .val .bool .b), (3, .val S_string .b), (4, .val (.int .i64) .b), (5, .val .bool .b), (6, .val .bool .b), (7, .val S_string .b), (11, .val S_string .b), (12, .fn 189 []), (15, .val .bool .b), (16, .val S_string .b), (17, .fn 189 [])]⟩, ⟨.ret, ⟨[], [4], []⟩, mkSh 39 [(0, .val S_string .b), (2, .val .bool .b), (3, .val S_string .b), (4, .val (.int .i64) .b), (5, .val .bool .b), (6, .val .bool .b), (7, .val S_string .b), (11, .val S_string .b), (12, .fn 189 []), (15, .val .bool .b), (16, .val S_string .b), (17, .fn 189 []), (24, .val (.int .i64) .b)]⟩]
noncomputable def b_I_areLines_214_2 (t0 : PV S_string) (t2 : PV .bool) (t3 : PV S_string) (t4 : PV (.int .i64)) (t5 : PV .bool) (t6 : PV .bool) (t7 : PV S_string) (t11 : PV S_string) (t15 : PV .bool) (t16 : PV S_string) (t20 : PV S_string) (t27 : PV (.int .i64)) (t28 : PV (.int .i64)) : Option ((PV S_string × PV .bool × PV S_string × PV (.int .i64) × PV .bool × PV .bool × PV S_string × PV S_string × PV .bool × PV S_string × PV S_string × PV (.int .i64) × PV (.int .i64) × Unit) ⊕ ((PV S_string × PV .bool × PV S_string × PV (.int .i64) × PV .bool × PV .bool × PV S_string × PV S_string × PV .bool × PV S_string × Unit) ⊕ (PV S_string × PV .bool × PV S_string × PV (.int .i64) × PV .bool × PV .bool × PV S_string × PV S_string × PV .bool × PV S_string × PV (.int .i64) × Unit))) :=
  bif (decide (t28 < t27)) then
    bif inB t28 t20.length then
      (f_I_areLines_1 (t20.getD t28.toNat [])).bind fun r4 =>
        bif r4.1.1 then
          some (.inr (.inr (t0, t2, t3, t4, t5, t6, t7, t11, t15, t16, t28, ())))
        else
          some (.inl (t0, t2, t3, t4, t5, t6, t7, t11, t15, t16, t20, t27, (IntKind.wrap .i64 (t28 + 1)), ()))
    else
      none
  else
    some (.inr (.inl (t0, t2, t3, t4, t5, t6, t7, t11, t15, t16, ())))
noncomputable def w_I_areLines_214_2 : PV S_string × PV .bool × PV S_string × PV (.int .i64) × PV .bool × PV .bool × PV S_string × PV S_string × PV .bool × PV S_string × PV S_string × PV (.int .i64) × PV (.int .i64) × Unit → Option ((PV S_string × PV .bool × PV S_string × PV (.int .i64) × PV .bool × PV .bool × PV S_string × PV S_string × PV .bool × PV S_string × Unit) ⊕ (PV S_string × PV .bool × PV S_string × PV (.int .i64) × PV .bool × PV .bool × PV S_string × PV S_string × PV .bool × PV S_string × PV (.int .i64) × Unit)) := fix fun d => b_I_areLines_214_2 d.1 d.2.1 d.2.2.1 d.2.2.2.1 d.2.2.2.2.1 d.2.2.2.2.2.1 d.2.2.2.2.2.2.1 d.2.2.2.2.2.2.2.1 d.2.2.2.2.2.2.2.2.1 d.2.2.2.2.2.2.2.2.2.1 d.2.2.2.2.2.2.2.2.2.2.1 d.2.2.2.2.2.2.2.2.2.2.2.1 d.2.2.2.2.2.2.2.2.2.2.2.2.1
noncomputable def lp_I_areLines_214_2 : Lp := ⟨⟨[], [0, 1, 7, 8], []⟩, sh_I_areLines_214_2, o_I_areLines_214_2, fun d => b_I_areLines_214_2 d.1 d.2.1 d.2.2.1 d.2.2.2.1 d.2.2.2.2.1 d.2.2.2.2.2.1 d.2.2.2.2.2.2.1 d.2.2.2.2.2.2.2.1 d.2.2.2.2.2.2.2.2.1 d.2.2.2.2.2.2.2.2.2.1 d.2.2.2.2.2.2.2.2.2.2.1 d.2.2.2.2.2.2.2.2.2.2.2.1 d.2.2.2.2.2.2.2.2.2.2.2.2.1⟩
noncomputable def pl_I_areLines_214 : Plan := ⟨[], [(2, lp_I_areLines_214_2)], 0, 20⟩
noncomputable def pl_I_areLines : Plan := ⟨[], [], 2, 0⟩
noncomputable def f_I_areLines (t0 : PV S_string) : Option (PVs [.bool] × PVs []) :=
  bif (decide ((t0.length : Int) ≤ 40)) then
    (w_I_areLines_214_2 (t0, false, t0, (t0.length : Int), (decide ((t0.length : Int) ≤ 40)), true, t0, t0, false, t0, t0, (t0.length : Int), 0, ())).bind fun x9 =>
      match x9 with
      | .inl l7 =>
        bif l7.2.2.2.2.2.1 then
          some (((!(decide ((-1) ≥ 0))), ()), ())
        else
          some ((false, ()), ())
      | .inr l8 =>
        bif l8.2.2.2.2.2.1 then
          some (((!(decide (l8.2.2.2.2.2.2.2.2.2.2.1 ≥ 0))), ()), ())
        else
          some ((false, ()), ())
  else
    some ((false, ()), ())
noncomputable def ct_I_areLines : Ct := ⟨[(.bor, S_string)], [(.bool, .b)], fun x => f_I_areLines x.1⟩
noncomputable def cx_I_areLines : Cx := ⟨tab, arrs, [(189, ct_I_areLines_1)], [(188, Try.f188, pl_I_areLines_188), (214, Try.f214, pl_I_areLines_214)], gl, []⟩
theorem eb_I_areLines_214_2 (t0 : PV S_string) (t2 : PV .bool) (t3 : PV S_string) (t4 : PV (.int .i64)) (t5 : PV .bool) (t6 : PV .bool) (t7 : PV S_string) (t11 : PV S_string) (t15 : PV .bool) (t16 : PV S_string) (t20 : PV S_string) (t27 : PV (.int .i64)) (t28 : PV (.int .i64)) : denK cx_I_areLines (rcN cx_I_areLines 0) pl_I_areLines_214 20 ((loopsOf (bodyOf Try.f214)).getD 0 .skip) (fillS sh_I_areLines_214_2 (t0, t2, t3, t4, t5, t6, t7, t11, t15, t16, t20, t27, t28, ())) (roundK 20 lp_I_areLines_214_2) = b_I_areLines_214_2 t0 t2 t3 t4 t5 t6 t7 t11 t15 t16 t20 t27 t28 := by kernel_rfl
theorem ef_I_areLines (t0 : PV S_string) : denF cx_I_areLines 2 pl_I_areLines Try.f147.ntmps (bodyOf Try.f147) Try.f147.results.toList [(.bor, S_string)] [(.bool, .b)] (t0, ()) = f_I_areLines t0 := by kernel_rfl
theorem ok_I_areLines : FnOk gl Try.prog 147 ct_I_areLines :=
  fnOk (cx := cx_I_areLines) (pl := pl_I_areLines) (dp := 2) (ok0_of tabOk (by unfold ArrOk; kernel_rfl) mix ⟨ok_I_areLines_1, trivial⟩ ⟨⟨Try.func188, by kernel_rfl, (by rw [show loopsOf (bodyOf Try.f188) = [] from by kernel_rfl]; exact trivial)⟩, ⟨Try.func214, by kernel_rfl, (by rw [show loopsOf (bodyOf Try.f214) = [((loopsOf (bodyOf Try.f214)).getD 0 .skip)] from by kernel_rfl]; exact ⟨(by rw [show lookup pl_I_areLines_214.loops (firstId ((loopsOf (bodyOf Try.f214)).getD 0 .skip)) = some lp_I_areLines_214_2 from by kernel_rfl]; exact fun d z h => (eb_I_areLines_214_2 d.1 d.2.1 d.2.2.1 d.2.2.2.1 d.2.2.2.2.1 d.2.2.2.2.2.1 d.2.2.2.2.2.2.1 d.2.2.2.2.2.2.2.1 d.2.2.2.2.2.2.2.2.1 d.2.2.2.2.2.2.2.2.2.1 d.2.2.2.2.2.2.2.2.2.2.1 d.2.2.2.2.2.2.2.2.2.2.2.1 d.2.2.2.2.2.2.2.2.2.2.2.2.1).trans h), trivial⟩)⟩, trivial⟩) Try.func147 (by kernel_rfl) (by kernel_rfl) (by kernel_rfl)
    (by rw [show loopsOf (bodyOf Try.f147) = [] from by kernel_rfl]; exact trivial) (fun x => ef_I_areLines x.1)
noncomputable def pl_internal_stringslite_HasSuffix : Plan := ⟨[], [], 0, 0⟩
noncomputable def f_internal_stringslite_HasSuffix (t0 : PV .str) (t1 : PV .str) : Option (PVs [.bool] × PVs []) :=
  bif (decide ((t0.length : Int) ≥ (t1.length : Int))) then
    bif cutB (IntKind.wrap .i64 ((t0.length : Int) - (t1.length : Int))) (t0.length : Int) t0.length then
      some ((((cutL (IntKind.wrap .i64 ((t0.length : Int) - (t1.length : Int))) (t0.length : Int) t0) == t1), ()), ())
    else
      none
  else
    some ((false, ()), ())
noncomputable def ct_internal_stringslite_HasSuffix : Ct := ⟨[(.bor, .str), (.bor, .str)], [(.bool, .b)], fun x => f_internal_stringslite_HasSuffix x.1 x.2.1⟩
noncomputable def cx_internal_stringslite_HasSuffix : Cx := ⟨tab, arrs, [], [], gl, []⟩
theorem ef_internal_stringslite_HasSuffix (t0 : PV .str) (t1 : PV .str) : denF cx_internal_stringslite_HasSuffix 0 pl_internal_stringslite_HasSuffix Try.f216.ntmps (bodyOf Try.f216) Try.f216.results.toList [(.bor, .str), (.bor, .str)] [(.bool, .b)] (t0, t1, ()) = f_internal_stringslite_HasSuffix t0 t1 := by kernel_rfl
theorem ok_internal_stringslite_HasSuffix : FnOk gl Try.prog 216 ct_internal_stringslite_HasSuffix :=
  fnOk (cx := cx_internal_stringslite_HasSuffix) (pl := pl_internal_stringslite_HasSuffix) (dp := 0) (ok0_of tabOk (by unfold ArrOk; kernel_rfl) mix trivial trivial) Try.func216 (by kernel_rfl) (by kernel_rfl) (by kernel_rfl)
    (by rw [show loopsOf (bodyOf Try.f216) = [] from by kernel_rfl]; exact trivial) (fun x => ef_internal_stringslite_HasSuffix x.1 x.2.1)
noncomputable def pl_strings_HasSuffix : Plan := ⟨[], [], 0, 0⟩
noncomputable def f_strings_HasSuffix (t0 : PV .str) (t1 : PV .str) : Option (PVs [.bool] × PVs []) :=
  (f_internal_stringslite_HasSuffix t0 t1).bind fun r1 =>
    some ((r1.1.1, ()), ())
noncomputable def ct_strings_HasSuffix : Ct := ⟨[(.bor, .str), (.bor, .str)], [(.bool, .b)], fun x => f_strings_HasSuffix x.1 x.2.1⟩
noncomputable def cx_strings_HasSuffix : Cx := ⟨tab, arrs, [(216, ct_internal_stringslite_HasSuffix)], [], gl, []⟩
theorem ef_strings_HasSuffix (t0 : PV .str) (t1 : PV .str) : denF cx_strings_HasSuffix 0 pl_strings_HasSuffix Try.f191.ntmps (bodyOf Try.f191) Try.f191.results.toList [(.bor, .str), (.bor, .str)] [(.bool, .b)] (t0, t1, ()) = f_strings_HasSuffix t0 t1 := by kernel_rfl
theorem ok_strings_HasSuffix : FnOk gl Try.prog 191 ct_strings_HasSuffix :=
  fnOk (cx := cx_strings_HasSuffix) (pl := pl_strings_HasSuffix) (dp := 0) (ok0_of tabOk (by unfold ArrOk; kernel_rfl) mix ⟨ok_internal_stringslite_HasSuffix, trivial⟩ trivial) Try.func191 (by kernel_rfl) (by kernel_rfl) (by kernel_rfl)
    (by rw [show loopsOf (bodyOf Try.f191) = [] from by kernel_rfl]; exact trivial) (fun x => ef_strings_HasSuffix x.1 x.2.1)
noncomputable def pl_I_isEnded : Plan := ⟨[], [], 0, 0⟩
noncomputable def f_I_isEnded (t0 : PV .str) : Option (PVs [.bool] × PVs []) :=
  (f_strings_HasSuffix t0 [10]).bind fun r1 =>
    some ((r1.1.1, ()), ())
noncomputable def ct_I_isEnded : Ct := ⟨[(.bor, .str)], [(.bool, .b)], fun x => f_I_isEnded x.1⟩
noncomputable def cx_I_isEnded : Cx := ⟨tab, arrs, [(191, ct_strings_HasSuffix)], [], gl, []⟩
theorem ef_I_isEnded (t0 : PV .str) : denF cx_I_isEnded 0 pl_I_isEnded Try.f149.ntmps (bodyOf Try.f149) Try.f149.results.toList [(.bor, .str)] [(.bool, .b)] (t0, ()) = f_I_isEnded t0 := by kernel_rfl
theorem ok_I_isEnded : FnOk gl Try.prog 149 ct_I_isEnded :=
  fnOk (cx := cx_I_isEnded) (pl := pl_I_isEnded) (dp := 0) (ok0_of tabOk (by unfold ArrOk; kernel_rfl) mix ⟨ok_strings_HasSuffix, trivial⟩ trivial) Try.func149 (by kernel_rfl) (by kernel_rfl) (by kernel_rfl)
    (by rw [show loopsOf (bodyOf Try.f149) = [] from by kernel_rfl]; exact trivial) (fun x => ef_I_isEnded x.1)
noncomputable def o_I_goodLines_7 : List Out := [⟨.normal, ⟨[], [0, 8, 9, 10, 24], []⟩, mkSh 26 [(0, .val S_string .b), (8, .val S_string .b), (9, .val (.int .i64) .b), (10, .val (.int .i64) .b), (24, .val .bool .b)]⟩]
noncomputable def sh_I_goodLines_4 : List Sh := mkSh 26 [(0, .val S_string .b), (8, .val S_string .b), (9, .val (.int .i64) .b), (10, .val (.int .i64) .b)]
noncomputable def o_I_goodLines_4 : List Out := [⟨.exit 0, ⟨[], [], []⟩, mkSh 26 []⟩, ⟨.ret, ⟨[], [2], []⟩, mkSh 26 [(2, .val .bool .b)]⟩]
noncomputable def b_I_goodLines_4 (t0 : PV S_string) (t8 : PV S_string) (t9 : PV (.int .i64)) (t10 : PV (.int .i64)) : Option ((PV S_string × PV S_string × PV (.int .i64) × PV (.int .i64) × Unit) ⊕ ((Unit) ⊕ (PV .bool × Unit))) :=
  bif (decide (t10 < t9)) then
    bif inB t10 t8.length then
      ((
          bif (decide (t10 < (IntKind.wrap .i64 ((t0.length : Int) - 1)))) then
            (f_I_isEnded (t8.getD t10.toNat [])).bind fun r7 =>
              some (t0, t8, t9, t10, (!r7.1.1), ())
          else
            some (t0, t8, t9, t10, false, ()) : Option ((PV S_string × PV S_string × PV (.int .i64) × PV (.int .i64) × PV .bool × Unit)))).bind fun j8 =>
        bif j8.2.2.2.2.1 then
          some (.inr (.inr (false, ())))
        else
          some (.inl (j8.1, j8.2.1, j8.2.2.1, (IntKind.wrap .i64 (j8.2.2.2.1 + 1)), ()))
    else
      none
  else
    some (.inr (.inl ()))
noncomputable def w_I_goodLines_4 : PV S_string × PV S_string × PV (.int .i64) × PV (.int .i64) × Unit → Option ((Unit) ⊕ (PV .bool × Unit)) := fix fun d => b_I_goodLines_4 d.1 d.2.1 d.2.2.1 d.2.2.2.1
noncomputable def lp_I_goodLines_4 : Lp := ⟨⟨[], [0, 8, 9, 10, 21, 22, 23], []⟩, sh_I_goodLines_4, o_I_goodLines_4, fun d => b_I_goodLines_4 d.1 d.2.1 d.2.2.1 d.2.2.2.1⟩
noncomputable def pl_I_goodLines : Plan := ⟨[(7, o_I_goodLines_7)], [(4, lp_I_goodLines_4)], 0, 0⟩
noncomputable def f_I_goodLines (t0 : PV S_string) : Option (PVs [.bool] × PVs []) :=
  (f_I_areLines t0).bind fun r4 =>
    bif (!r4.1.1) then
      some ((false, ()), ())
    else
      (w_I_goodLines_4 (t0, t0, (t0.length : Int), 0, ())).bind fun x13 =>
        match x13 with
        | .inl l11 =>
          some ((true, ()), ())
        | .inr l12 =>
          some ((l12.1, ()), ())
noncomputable def ct_I_goodLines : Ct := ⟨[(.bor, S_string)], [(.bool, .b)], fun x => f_I_goodLines x.1⟩
noncomputable def cx_I_goodLines : Cx := ⟨tab, arrs, [(147, ct_I_areLines), (149, ct_I_isEnded)], [], gl, []⟩
theorem eb_I_goodLines_4 (t0 : PV S_string) (t8 : PV S_string) (t9 : PV (.int .i64)) (t10 : PV (.int .i64)) : denK cx_I_goodLines (rcN cx_I_goodLines 0) pl_I_goodLines 0 ((loopsOf (bodyOf Try.f96)).getD 0 .skip) (fillS sh_I_goodLines_4 (t0, t8, t9, t10, ())) (roundK 0 lp_I_goodLines_4) = b_I_goodLines_4 t0 t8 t9 t10 := by kernel_rfl
theorem ef_I_goodLines (t0 : PV S_string) : denF cx_I_goodLines 0 pl_I_goodLines Try.f96.ntmps (bodyOf Try.f96) Try.f96.results.toList [(.bor, S_string)] [(.bool, .b)] (t0, ()) = f_I_goodLines t0 := by kernel_rfl
theorem ok_I_goodLines : FnOk gl Try.prog 96 ct_I_goodLines :=
  fnOk (cx := cx_I_goodLines) (pl := pl_I_goodLines) (dp := 0) (ok0_of tabOk (by unfold ArrOk; kernel_rfl) mix ⟨ok_I_areLines, ok_I_isEnded, trivial⟩ trivial) Try.func96 (by kernel_rfl) (by kernel_rfl) (by kernel_rfl)
    (by rw [show loopsOf (bodyOf Try.f96) = [((loopsOf (bodyOf Try.f96)).getD 0 .skip)] from by kernel_rfl]; exact ⟨(by rw [show lookup pl_I_goodLines.loops (firstId ((loopsOf (bodyOf Try.f96)).getD 0 .skip)) = some lp_I_goodLines_4 from by kernel_rfl]; exact fun d z h => (eb_I_goodLines_4 d.1 d.2.1 d.2.2.1 d.2.2.2.1).trans h), trivial⟩) (fun x => ef_I_goodLines x.1)
noncomputable def o_I_common_9 : List Out := [⟨.normal, ⟨[], [0, 1, 5, 6, 7], []⟩, mkSh 90 [(0, .val S_string .b), (1, .val S_string .b), (5, .val S_S_int (.row (.row .b))), (6, .val (.int .i64) .b), (7, .val (.int .i64) .b)]⟩]
noncomputable def sh_I_common_8 : List Sh := mkSh 90 [(0, .val S_string .b), (1, .val S_string .b), (5, .val S_S_int (.row (.row .b))), (6, .val (.int .i64) .b), (7, .val (.int .i64) .b)]
noncomputable def o_I_common_8 : List Out := [⟨.exit 2, ⟨[], [0, 1, 5, 6], []⟩, mkSh 90 [(0, .val S_string .b), (1, .val S_string .b), (5, .val S_S_int (.row (.row .b))), (6, .val (.int .i64) .b)]⟩]
noncomputable def b_I_common_8 (t0 : PV S_string) (t1 : PV S_string) (t5 : PV S_S_int) (t6 : PV (.int .i64)) (t7 : PV (.int .i64)) : Option ((PV S_string × PV S_string × PV S_S_int × PV (.int .i64) × PV (.int .i64) × Unit) ⊕ ((PV S_string × PV S_string × PV S_S_int × PV (.int .i64) × Unit))) :=
  bif (decide (t7 ≥ 0)) then
    ((
        bif inB t6 t0.length then
          bif inB t7 t1.length then
            bif ((t0.getD t6.toNat []) == (t1.getD t7.toNat [])) then
              bif inB t6 t5.length then
                bif inB (IntKind.wrap .i64 (t6 + 1)) t5.length then
                  bif inB (IntKind.wrap .i64 (t7 + 1)) (t5.getD ((IntKind.wrap .i64 (t6 + 1)).toNat) []).length then
                    bif inB t7 (t5.getD t6.toNat []).length then
                      some (t0, t1, (t5.set t6.toNat ((t5.getD t6.toNat []).set t7.toNat (IntKind.wrap .i64 (((t5.getD ((IntKind.wrap .i64 (t6 + 1)).toNat) []).getD ((IntKind.wrap .i64 (t7 + 1)).toNat) (0 : Int)) + 1)))), t6, t7, ())
                    else
                      none
                  else
                    none
                else
                  none
              else
                none
            else
              bif inB t6 t5.length then
                bif inB (IntKind.wrap .i64 (t6 + 1)) t5.length then
                  bif inB t7 (t5.getD ((IntKind.wrap .i64 (t6 + 1)).toNat) []).length then
                    bif inB t6 t5.length then
                      bif inB (IntKind.wrap .i64 (t7 + 1)) (t5.getD t6.toNat []).length then
                        bif inB t7 (t5.getD t6.toNat []).length then
                          some (t0, t1, (t5.set t6.toNat ((t5.getD t6.toNat []).set t7.toNat (bif decide (((t5.getD t6.toNat []).getD ((IntKind.wrap .i64 (t7 + 1)).toNat) (0 : Int)) > ((t5.getD ((IntKind.wrap .i64 (t6 + 1)).toNat) []).getD t7.toNat (0 : Int))) then ((t5.getD t6.toNat []).getD ((IntKind.wrap .i64 (t7 + 1)).toNat) (0 : Int)) else ((t5.getD ((IntKind.wrap .i64 (t6 + 1)).toNat) []).getD t7.toNat (0 : Int))))), t6, t7, ())
                        else
                          none
                      else
                        none
                    else
                      none
                  else
                    none
                else
                  none
              else
                none
          else
            none
        else
          none : Option ((PV S_string × PV S_string × PV S_S_int × PV (.int .i64) × PV (.int .i64) × Unit)))).bind fun j1 =>
      some (.inl (j1.1, j1.2.1, j1.2.2.1, j1.2.2.2.1, (IntKind.wrap .i64 (j1.2.2.2.2.1 - 1)), ()))
  else
    some (.inr (t0, t1, t5, t6, ()))
noncomputable def w_I_common_8 : PV S_string × PV S_string × PV S_S_int × PV (.int .i64) × PV (.int .i64) × Unit → Option ((PV S_string × PV S_string × PV S_S_int × PV (.int .i64) × Unit)) := fix fun d => b_I_common_8 d.1 d.2.1 d.2.2.1 d.2.2.2.1 d.2.2.2.2.1
noncomputable def lp_I_common_8 : Lp := ⟨⟨[], [0, 1, 5, 6, 7], []⟩, sh_I_common_8, o_I_common_8, fun d => b_I_common_8 d.1 d.2.1 d.2.2.1 d.2.2.2.1 d.2.2.2.2.1⟩
noncomputable def sh_I_common_4 : List Sh := mkSh 90 [(0, .val S_string .b), (1, .val S_string .b), (5, .val S_S_int (.row (.row .b))), (6, .val (.int .i64) .b)]
noncomputable def o_I_common_4 : List Out := [⟨.exit 0, ⟨[], [5], []⟩, mkSh 90 [(5, .val S_S_int (.row (.row .b)))]⟩]
noncomputable def b_I_common_4 (t0 : PV S_string) (t1 : PV S_string) (t5 : PV S_S_int) (t6 : PV (.int .i64)) : Option ((PV S_string × PV S_string × PV S_S_int × PV (.int .i64) × Unit) ⊕ ((PV S_S_int × Unit))) :=
  bif (decide (t6 ≥ 0)) then
    bif decide (0 ≤ (IntKind.wrap .i64 ((t1.length : Int) + 1))) && (decide ((IntKind.wrap .i64 ((t1.length : Int) + 1)) ≤ (IntKind.wrap .i64 ((t1.length : Int) + 1))) && roomB (IntKind.wrap .i64 ((t1.length : Int) + 1)).toNat) then
      bif inB t6 t5.length then
        (w_I_common_8 (t0, t1, (t5.set t6.toNat (List.replicate (IntKind.wrap .i64 ((t1.length : Int) + 1)).toNat (0 : Int))), t6, (IntKind.wrap .i64 ((t1.length : Int) - 1)), ())).bind fun l2 =>
          some (.inl (l2.1, l2.2.1, l2.2.2.1, (IntKind.wrap .i64 (l2.2.2.2.1 - 1)), ()))
      else
        none
    else
      none
  else
    some (.inr (t5, ()))
noncomputable def w_I_common_4 : PV S_string × PV S_string × PV S_S_int × PV (.int .i64) × Unit → Option ((PV S_S_int × Unit)) := fix fun d => b_I_common_4 d.1 d.2.1 d.2.2.1 d.2.2.2.1
noncomputable def lp_I_common_4 : Lp := ⟨⟨[], [0, 1, 5, 6], []⟩, sh_I_common_4, o_I_common_4, fun d => b_I_common_4 d.1 d.2.1 d.2.2.1 d.2.2.2.1⟩
noncomputable def pl_I_common : Plan := ⟨[(9, o_I_common_9)], [(8, lp_I_common_8), (4, lp_I_common_4)], 0, 0⟩
noncomputable def f_I_common (t0 : PV S_string) (t1 : PV S_string) : Option (PVs [S_S_int] × PVs []) :=
  bif decide (0 ≤ (IntKind.wrap .i64 ((t0.length : Int) + 1))) && (decide ((IntKind.wrap .i64 ((t0.length : Int) + 1)) ≤ (IntKind.wrap .i64 ((t0.length : Int) + 1))) && roomB (IntKind.wrap .i64 ((t0.length : Int) + 1)).toNat) then
    bif decide (0 ≤ (IntKind.wrap .i64 ((t1.length : Int) + 1))) && (decide ((IntKind.wrap .i64 ((t1.length : Int) + 1)) ≤ (IntKind.wrap .i64 ((t1.length : Int) + 1))) && roomB (IntKind.wrap .i64 ((t1.length : Int) + 1)).toNat) then
      bif inB (t0.length : Int) (List.replicate (IntKind.wrap .i64 ((t0.length : Int) + 1)).toNat ([] : PV S_int)).length then
        (w_I_common_4 (t0, t1, ((List.replicate (IntKind.wrap .i64 ((t0.length : Int) + 1)).toNat ([] : PV S_int)).set ((t0.length : Int).toNat) (List.replicate (IntKind.wrap .i64 ((t1.length : Int) + 1)).toNat (0 : Int))), (IntKind.wrap .i64 ((t0.length : Int) - 1)), ())).bind fun l4 =>
          some ((l4.1, ()), ())
      else
        none
    else
      none
  else
    none
noncomputable def ct_I_common : Ct := ⟨[(.bor, S_string), (.bor, S_string)], [(S_S_int, (.row (.row .b)))], fun x => f_I_common x.1 x.2.1⟩
noncomputable def cx_I_common : Cx := ⟨tab, arrs, [], [], gl, []⟩
theorem eb_I_common_4 (t0 : PV S_string) (t1 : PV S_string) (t5 : PV S_S_int) (t6 : PV (.int .i64)) : denK cx_I_common (rcN cx_I_common 0) pl_I_common 0 ((loopsOf (bodyOf Try.f220)).getD 0 .skip) (fillS sh_I_common_4 (t0, t1, t5, t6, ())) (roundK 0 lp_I_common_4) = b_I_common_4 t0 t1 t5 t6 := by kernel_rfl
theorem eb_I_common_8 (t0 : PV S_string) (t1 : PV S_string) (t5 : PV S_S_int) (t6 : PV (.int .i64)) (t7 : PV (.int .i64)) : denK cx_I_common (rcN cx_I_common 0) pl_I_common 0 ((loopsOf (bodyOf Try.f220)).getD 1 .skip) (fillS sh_I_common_8 (t0, t1, t5, t6, t7, ())) (roundK 0 lp_I_common_8) = b_I_common_8 t0 t1 t5 t6 t7 := by kernel_rfl
theorem ef_I_common (t0 : PV S_string) (t1 : PV S_string) : denF cx_I_common 0 pl_I_common Try.f220.ntmps (bodyOf Try.f220) Try.f220.results.toList [(.bor, S_string), (.bor, S_string)] [(S_S_int, (.row (.row .b)))] (t0, t1, ()) = f_I_common t0 t1 := by kernel_rfl
theorem ok_I_common : FnOk gl Try.prog 220 ct_I_common :=
  fnOk (cx := cx_I_common) (pl := pl_I_common) (dp := 0) (ok0_of tabOk (by unfold ArrOk; kernel_rfl) mix trivial trivial) Try.func220 (by kernel_rfl) (by kernel_rfl) (by kernel_rfl)
    (by rw [show loopsOf (bodyOf Try.f220) = [((loopsOf (bodyOf Try.f220)).getD 0 .skip), ((loopsOf (bodyOf Try.f220)).getD 1 .skip)] from by kernel_rfl]; exact ⟨(by rw [show lookup pl_I_common.loops (firstId ((loopsOf (bodyOf Try.f220)).getD 0 .skip)) = some lp_I_common_4 from by kernel_rfl]; exact fun d z h => (eb_I_common_4 d.1 d.2.1 d.2.2.1 d.2.2.2.1).trans h), (by rw [show lookup pl_I_common.loops (firstId ((loopsOf (bodyOf Try.f220)).getD 1 .skip)) = some lp_I_common_8 from by kernel_rfl]; exact fun d z h => (eb_I_common_8 d.1 d.2.1 d.2.2.1 d.2.2.2.1 d.2.2.2.2.1).trans h), trivial⟩) (fun x => ef_I_common x.1 x.2.1)
noncomputable def o_I_commonLines_10 : List Out := [⟨.normal, ⟨[], [0, 1, 5, 6, 7, 8, 9, 10, 21, 22, 31, 32, 58], []⟩, mkSh 71 [(0, .val S_string .b), (1, .val S_string .b), (5, .val S_S_int (.row (.row .b))), (6, .val S_S_int (.row (.row .b))), (7, .val (.int .i64) .b), (8, .val (.int .i64) .b), (9, .val (.int .i64) .b), (10, .val (.int .i64) .b), (21, .val (.int .i64) .b), (22, .val (.int .i64) .b), (31, .val (.int .i64) .b), (32, .val .bool .b), (58, .val .bool .b)]⟩]
noncomputable def sh_I_commonLines_7 : List Sh := mkSh 71 [(0, .val S_string .b), (1, .val S_string .b), (5, .val S_S_int (.row (.row .b))), (6, .val S_S_int (.row (.row .b))), (7, .val (.int .i64) .b), (8, .val (.int .i64) .b), (9, .val (.int .i64) .b), (10, .val (.int .i64) .b), (21, .val (.int .i64) .b), (22, .val (.int .i64) .b)]
noncomputable def o_I_commonLines_7 : List Out := [⟨.exit 2, ⟨[], [0, 1, 5, 6, 7, 8, 21, 22, 46, 47, 48, 49, 50, 51, 52, 53, 54, 55, 56, 57], []⟩, mkSh 71 [(0, .val S_string .b), (1, .val S_string .b), (5, .val S_S_int (.row (.row .b))), (6, .val S_S_int (.row (.row .b))), (7, .val (.int .i64) .b), (8, .val (.int .i64) .b), (21, .val (.int .i64) .b), (22, .val (.int .i64) .b)]⟩]
noncomputable def b_I_commonLines_7 (t0 : PV S_string) (t1 : PV S_string) (t5 : PV S_S_int) (t6 : PV S_S_int) (t7 : PV (.int .i64)) (t8 : PV (.int .i64)) (t9 : PV (.int .i64)) (t10 : PV (.int .i64)) (t21 : PV (.int .i64)) (t22 : PV (.int .i64)) : Option ((PV S_string × PV S_string × PV S_S_int × PV S_S_int × PV (.int .i64) × PV (.int .i64) × PV (.int .i64) × PV (.int .i64) × PV (.int .i64) × PV (.int .i64) × Unit) ⊕ ((PV S_string × PV S_string × PV S_S_int × PV S_S_int × PV (.int .i64) × PV (.int .i64) × PV (.int .i64) × PV (.int .i64) × Unit))) :=
  bif (decide (t10 < (t1.length : Int))) then
    bif (decide (t8 > 0)) then
      ((
          bif inB t9 t0.length then
            bif inB t10 t1.length then
              bif ((t0.getD t9.toNat []) == (t1.getD t10.toNat [])) then
                bif inB (IntKind.wrap .i64 (t9 + 1)) t5.length then
                  bif inB (IntKind.wrap .i64 (t10 + 1)) (t5.getD ((IntKind.wrap .i64 (t9 + 1)).toNat) []).length then
                    some (t0, t1, t5, t6, t7, t8, t9, t10, t21, t22, t8, (decide (t8 > 0)), (((t5.getD ((IntKind.wrap .i64 (t9 + 1)).toNat) []).getD ((IntKind.wrap .i64 (t10 + 1)).toNat) (0 : Int)) == (IntKind.wrap .i64 (t8 - 1))), ())
                  else
                    none
                else
                  none
              else
                some (t0, t1, t5, t6, t7, t8, t9, t10, t21, t22, t8, (decide (t8 > 0)), false, ())
            else
              none
          else
            none : Option ((PV S_string × PV S_string × PV S_S_int × PV S_S_int × PV (.int .i64) × PV (.int .i64) × PV (.int .i64) × PV (.int .i64) × PV (.int .i64) × PV (.int .i64) × PV (.int .i64) × PV .bool × PV .bool × Unit)))).bind fun j6 =>
        bif j6.2.2.2.2.2.2.2.2.2.2.2.2.1 then
          bif roomB (j6.2.2.2.1.length + [[j6.2.2.2.2.2.2.1, j6.2.2.2.2.2.2.2.1]].length) then
            some (.inr (j6.1, j6.2.1, j6.2.2.1, (j6.2.2.2.1 ++ [[j6.2.2.2.2.2.2.1, j6.2.2.2.2.2.2.2.1]]), (IntKind.wrap .i64 (j6.2.2.2.2.2.2.2.1 + 1)), (IntKind.wrap .i64 (j6.2.2.2.2.2.1 - 1)), j6.2.2.2.2.2.2.2.2.1, j6.2.2.2.2.2.2.2.2.2.1, ()))
          else
            none
        else
          some (.inl (j6.1, j6.2.1, j6.2.2.1, j6.2.2.2.1, j6.2.2.2.2.1, j6.2.2.2.2.2.1, j6.2.2.2.2.2.2.1, (IntKind.wrap .i64 (j6.2.2.2.2.2.2.2.1 + 1)), j6.2.2.2.2.2.2.2.2.1, j6.2.2.2.2.2.2.2.2.2.1, ()))
    else
      some (.inr (t0, t1, t5, t6, t7, t8, t21, t22, ()))
  else
    some (.inr (t0, t1, t5, t6, t7, t8, t21, t22, ()))
noncomputable def w_I_commonLines_7 : PV S_string × PV S_string × PV S_S_int × PV S_S_int × PV (.int .i64) × PV (.int .i64) × PV (.int .i64) × PV (.int .i64) × PV (.int .i64) × PV (.int .i64) × Unit → Option ((PV S_string × PV S_string × PV S_S_int × PV S_S_int × PV (.int .i64) × PV (.int .i64) × PV (.int .i64) × PV (.int .i64) × Unit)) := fix fun d => b_I_commonLines_7 d.1 d.2.1 d.2.2.1 d.2.2.2.1 d.2.2.2.2.1 d.2.2.2.2.2.1 d.2.2.2.2.2.2.1 d.2.2.2.2.2.2.2.1 d.2.2.2.2.2.2.2.2.1 d.2.2.2.2.2.2.2.2.2.1
noncomputable def lp_I_commonLines_7 : Lp := ⟨⟨[], [0, 1, 5, 6, 7, 8, 9, 10, 21, 22, 46, 47, 48, 49, 50, 51, 52, 53, 54, 55, 56, 57], []⟩, sh_I_commonLines_7, o_I_commonLines_7, fun d => b_I_commonLines_7 d.1 d.2.1 d.2.2.1 d.2.2.2.1 d.2.2.2.2.1 d.2.2.2.2.2.1 d.2.2.2.2.2.2.1 d.2.2.2.2.2.2.2.1 d.2.2.2.2.2.2.2.2.1 d.2.2.2.2.2.2.2.2.2.1⟩
noncomputable def sh_I_commonLines_4 : List Sh := mkSh 71 [(0, .val S_string .b), (1, .val S_string .b), (5, .val S_S_int (.row (.row .b))), (6, .val S_S_int (.row (.row .b))), (7, .val (.int .i64) .b), (8, .val (.int .i64) .b), (21, .val (.int .i64) .b), (22, .val (.int .i64) .b)]
noncomputable def o_I_commonLines_4 : List Out := [⟨.exit 0, ⟨[], [6], []⟩, mkSh 71 [(6, .val S_S_int (.row (.row .b)))]⟩]
noncomputable def b_I_commonLines_4 (t0 : PV S_string) (t1 : PV S_string) (t5 : PV S_S_int) (t6 : PV S_S_int) (t7 : PV (.int .i64)) (t8 : PV (.int .i64)) (t21 : PV (.int .i64)) (t22 : PV (.int .i64)) : Option ((PV S_string × PV S_string × PV S_S_int × PV S_S_int × PV (.int .i64) × PV (.int .i64) × PV (.int .i64) × PV (.int .i64) × Unit) ⊕ ((PV S_S_int × Unit))) :=
  bif (decide (t22 < t21)) then
    (w_I_commonLines_7 (t0, t1, t5, t6, t7, t8, t22, t7, t21, t22, ())).bind fun l4 =>
      some (.inl (l4.1, l4.2.1, l4.2.2.1, l4.2.2.2.1, l4.2.2.2.2.1, l4.2.2.2.2.2.1, l4.2.2.2.2.2.2.1, (IntKind.wrap .i64 (l4.2.2.2.2.2.2.2.1 + 1)), ()))
  else
    some (.inr (t6, ()))
noncomputable def w_I_commonLines_4 : PV S_string × PV S_string × PV S_S_int × PV S_S_int × PV (.int .i64) × PV (.int .i64) × PV (.int .i64) × PV (.int .i64) × Unit → Option ((PV S_S_int × Unit)) := fix fun d => b_I_commonLines_4 d.1 d.2.1 d.2.2.1 d.2.2.2.1 d.2.2.2.2.1 d.2.2.2.2.2.1 d.2.2.2.2.2.2.1 d.2.2.2.2.2.2.2.1
noncomputable def lp_I_commonLines_4 : Lp := ⟨⟨[], [0, 1, 5, 6, 7, 8, 21, 22, 31, 32, 46, 47, 48, 49, 50, 51, 52, 53, 54, 55, 56, 57], []⟩, sh_I_commonLines_4, o_I_commonLines_4, fun d => b_I_commonLines_4 d.1 d.2.1 d.2.2.1 d.2.2.2.1 d.2.2.2.2.1 d.2.2.2.2.2.1 d.2.2.2.2.2.2.1 d.2.2.2.2.2.2.2.1⟩
noncomputable def pl_I_commonLines : Plan := ⟨[(10, o_I_commonLines_10)], [(7, lp_I_commonLines_7), (4, lp_I_commonLines_4)], 0, 0⟩
noncomputable def f_I_commonLines (t0 : PV S_string) (t1 : PV S_string) : Option (PVs [S_S_int] × PVs []) :=
  (f_I_common t0 t1).bind fun r2 =>
    bif inB 0 r2.1.1.length then
      bif inB 0 (r2.1.1.getD ((0 : Int).toNat) []).length then
        (w_I_commonLines_4 (t0, t1, r2.1.1, ([] : PV S_S_int), 0, ((r2.1.1.getD ((0 : Int).toNat) []).getD ((0 : Int).toNat) (0 : Int)), (t0.length : Int), 0, ())).bind fun l6 =>
          some ((l6.1, ()), ())
      else
        none
    else
      none
noncomputable def ct_I_commonLines : Ct := ⟨[(.bor, S_string), (.bor, S_string)], [(S_S_int, (.row (.row .b)))], fun x => f_I_commonLines x.1 x.2.1⟩
noncomputable def cx_I_commonLines : Cx := ⟨tab, arrs, [(220, ct_I_common)], [], gl, []⟩
theorem eb_I_commonLines_4 (t0 : PV S_string) (t1 : PV S_string) (t5 : PV S_S_int) (t6 : PV S_S_int) (t7 : PV (.int .i64)) (t8 : PV (.int .i64)) (t21 : PV (.int .i64)) (t22 : PV (.int .i64)) : denK cx_I_commonLines (rcN cx_I_commonLines 0) pl_I_commonLines 0 ((loopsOf (bodyOf Try.f202)).getD 0 .skip) (fillS sh_I_commonLines_4 (t0, t1, t5, t6, t7, t8, t21, t22, ())) (roundK 0 lp_I_commonLines_4) = b_I_commonLines_4 t0 t1 t5 t6 t7 t8 t21 t22 := by kernel_rfl
theorem eb_I_commonLines_7 (t0 : PV S_string) (t1 : PV S_string) (t5 : PV S_S_int) (t6 : PV S_S_int) (t7 : PV (.int .i64)) (t8 : PV (.int .i64)) (t9 : PV (.int .i64)) (t10 : PV (.int .i64)) (t21 : PV (.int .i64)) (t22 : PV (.int .i64)) : denK cx_I_commonLines (rcN cx_I_commonLines 0) pl_I_commonLines 0 ((loopsOf (bodyOf Try.f202)).getD 1 .skip) (fillS sh_I_commonLines_7 (t0, t1, t5, t6, t7, t8, t9, t10, t21, t22, ())) (roundK 0 lp_I_commonLines_7) = b_I_commonLines_7 t0 t1 t5 t6 t7 t8 t9 t10 t21 t22 := by kernel_rfl
theorem ef_I_commonLines (t0 : PV S_string) (t1 : PV S_string) : denF cx_I_commonLines 0 pl_I_commonLines Try.f202.ntmps (bodyOf Try.f202) Try.f202.results.toList [(.bor, S_string), (.bor, S_string)] [(S_S_int, (.row (.row .b)))] (t0, t1, ()) = f_I_commonLines t0 t1 := by kernel_rfl
theorem ok_I_commonLines : FnOk gl Try.prog 202 ct_I_commonLines :=
  fnOk (cx := cx_I_commonLines) (pl := pl_I_commonLines) (dp := 0) (ok0_of tabOk (by unfold ArrOk; kernel_rfl) mix ⟨ok_I_common, trivial⟩ trivial) Try.func202 (by kernel_rfl) (by kernel_rfl) (by kernel_rfl)
    (by rw [show loopsOf (bodyOf Try.f202) = [((loopsOf (bodyOf Try.f202)).getD 0 .skip), ((loopsOf (bodyOf Try.f202)).getD 1 .skip)] from by kernel_rfl]; exact ⟨(by rw [show lookup pl_I_commonLines.loops (firstId ((loopsOf (bodyOf Try.f202)).getD 0 .skip)) = some lp_I_commonLines_4 from by kernel_rfl]; exact fun d z h => (eb_I_commonLines_4 d.1 d.2.1 d.2.2.1 d.2.2.2.1 d.2.2.2.2.1 d.2.2.2.2.2.1 d.2.2.2.2.2.2.1 d.2.2.2.2.2.2.2.1).trans h), (by rw [show lookup pl_I_commonLines.loops (firstId ((loopsOf (bodyOf Try.f202)).getD 1 .skip)) = some lp_I_commonLines_7 from by kernel_rfl]; exact fun d z h => (eb_I_commonLines_7 d.1 d.2.1 d.2.2.1 d.2.2.2.1 d.2.2.2.2.1 d.2.2.2.2.2.1 d.2.2.2.2.2.2.1 d.2.2.2.2.2.2.2.1 d.2.2.2.2.2.2.2.2.1 d.2.2.2.2.2.2.2.2.2.1).trans h), trivial⟩) (fun x => ef_I_commonLines x.1 x.2.1)
noncomputable def sh_I_mates_3 : List Sh := mkSh 30 [(5, .val S_int (.row .b)), (14, .val S_S_int (.row (.row .b))), (15, .val (.int .i64) .b), (16, .val (.int .i64) .b)]
noncomputable def o_I_mates_3 : List Out := [⟨.exit 0, ⟨[], [5], []⟩, mkSh 30 [(5, .val S_int (.row .b))]⟩]
noncomputable def b_I_mates_3 (t5 : PV S_int) (t14 : PV S_S_int) (t15 : PV (.int .i64)) (t16 : PV (.int .i64)) : Option ((PV S_int × PV S_S_int × PV (.int .i64) × PV (.int .i64) × Unit) ⊕ ((PV S_int × Unit))) :=
  bif (decide (t16 < t15)) then
    bif inB t16 t14.length then
      bif inB 0 (t14.getD t16.toNat []).length then
        bif inB 1 (t14.getD t16.toNat []).length then
          bif inB ((t14.getD t16.toNat []).getD ((0 : Int).toNat) (0 : Int)) t5.length then
            some (.inl ((t5.set (((t14.getD t16.toNat []).getD ((0 : Int).toNat) (0 : Int)).toNat) ((t14.getD t16.toNat []).getD ((1 : Int).toNat) (0 : Int))), t14, t15, (IntKind.wrap .i64 (t16 + 1)), ()))
          else
            none
        else
          none
      else
        none
    else
      none
  else
    some (.inr (t5, ()))
noncomputable def w_I_mates_3 : PV S_int × PV S_S_int × PV (.int .i64) × PV (.int .i64) × Unit → Option ((PV S_int × Unit)) := fix fun d => b_I_mates_3 d.1 d.2.1 d.2.2.1 d.2.2.2.1
noncomputable def lp_I_mates_3 : Lp := ⟨⟨[], [5, 14, 15, 16], []⟩, sh_I_mates_3, o_I_mates_3, fun d => b_I_mates_3 d.1 d.2.1 d.2.2.1 d.2.2.2.1⟩
noncomputable def pl_I_mates : Plan := ⟨[], [(3, lp_I_mates_3)], 0, 0⟩
noncomputable def f_I_mates (t0 : PV S_string) (t1 : PV S_string) : Option (PVs [S_int] × PVs []) :=
  (f_slices_Repeat_int [(-1)] (t0.length : Int)).bind fun r2 =>
    (f_I_commonLines t0 t1).bind fun r7 =>
      (w_I_mates_3 (r2.1.1, r7.1.1, (r7.1.1.length : Int), 0, ())).bind fun l8 =>
        some ((l8.1, ()), ())
noncomputable def ct_I_mates : Ct := ⟨[(.bor, S_string), (.bor, S_string)], [(S_int, (.row .b))], fun x => f_I_mates x.1 x.2.1⟩
noncomputable def cx_I_mates : Cx := ⟨tab, arrs, [(201, ct_slices_Repeat_int), (202, ct_I_commonLines)], [], gl, []⟩
theorem eb_I_mates_3 (t5 : PV S_int) (t14 : PV S_S_int) (t15 : PV (.int .i64)) (t16 : PV (.int .i64)) : denK cx_I_mates (rcN cx_I_mates 0) pl_I_mates 0 ((loopsOf (bodyOf Try.f163)).getD 0 .skip) (fillS sh_I_mates_3 (t5, t14, t15, t16, ())) (roundK 0 lp_I_mates_3) = b_I_mates_3 t5 t14 t15 t16 := by kernel_rfl
theorem ef_I_mates (t0 : PV S_string) (t1 : PV S_string) : denF cx_I_mates 0 pl_I_mates Try.f163.ntmps (bodyOf Try.f163) Try.f163.results.toList [(.bor, S_string), (.bor, S_string)] [(S_int, (.row .b))] (t0, t1, ()) = f_I_mates t0 t1 := by kernel_rfl
theorem ok_I_mates : FnOk gl Try.prog 163 ct_I_mates :=
  fnOk (cx := cx_I_mates) (pl := pl_I_mates) (dp := 0) (ok0_of tabOk (by unfold ArrOk; kernel_rfl) mix ⟨ok_slices_Repeat_int, ok_I_commonLines, trivial⟩ trivial) Try.func163 (by kernel_rfl) (by kernel_rfl) (by kernel_rfl)
    (by rw [show loopsOf (bodyOf Try.f163) = [((loopsOf (bodyOf Try.f163)).getD 0 .skip)] from by kernel_rfl]; exact ⟨(by rw [show lookup pl_I_mates.loops (firstId ((loopsOf (bodyOf Try.f163)).getD 0 .skip)) = some lp_I_mates_3 from by kernel_rfl]; exact fun d z h => (eb_I_mates_3 d.1 d.2.1 d.2.2.1 d.2.2.2.1).trans h), trivial⟩) (fun x => ef_I_mates x.1 x.2.1)
noncomputable def sh_slices_Equal_string_4 : List Sh := mkSh 26 [(0, .val S_string .b), (1, .val S_string .b), (12, .val (.int .i64) .b), (13, .val (.int .i64) .b)]
noncomputable def o_slices_Equal_string_4 : List Out := [⟨.exit 0, ⟨[], [], []⟩, mkSh 26 []⟩, ⟨.ret, ⟨[], [4], []⟩, mkSh 26 [(4, .val .bool .b)]⟩]
noncomputable def b_slices_Equal_string_4 (t0 : PV S_string) (t1 : PV S_string) (t12 : PV (.int .i64)) (t13 : PV (.int .i64)) : Option ((PV S_string × PV S_string × PV (.int .i64) × PV (.int .i64) × Unit) ⊕ ((Unit) ⊕ (PV .bool × Unit))) :=
  bif (decide (t13 < t12)) then
    bif inB t13 t0.length then
      bif inB t13 t1.length then
        bif (!((t0.getD t13.toNat []) == (t1.getD t13.toNat []))) then
          some (.inr (.inr (false, ())))
        else
          some (.inl (t0, t1, t12, (IntKind.wrap .i64 (t13 + 1)), ()))
      else
        none
    else
      none
  else
    some (.inr (.inl ()))
noncomputable def w_slices_Equal_string_4 : PV S_string × PV S_string × PV (.int .i64) × PV (.int .i64) × Unit → Option ((Unit) ⊕ (PV .bool × Unit)) := fix fun d => b_slices_Equal_string_4 d.1 d.2.1 d.2.2.1 d.2.2.2.1
noncomputable def lp_slices_Equal_string_4 : Lp := ⟨⟨[], [0, 1, 12, 13], []⟩, sh_slices_Equal_string_4, o_slices_Equal_string_4, fun d => b_slices_Equal_string_4 d.1 d.2.1 d.2.2.1 d.2.2.2.1⟩
noncomputable def pl_slices_Equal_string : Plan := ⟨[], [(4, lp_slices_Equal_string_4)], 0, 0⟩
noncomputable def f_slices_Equal_string (t0 : PV S_string) (t1 : PV S_string) : Option (PVs [.bool] × PVs []) :=
  bif (!((t0.length : Int) == (t1.length : Int))) then
    some ((false, ()), ())
  else
    (w_slices_Equal_string_4 (t0, t1, (t0.length : Int), 0, ())).bind fun x5 =>
      match x5 with
      | .inl l3 =>
        some ((true, ()), ())
      | .inr l4 =>
        some ((l4.1, ()), ())
noncomputable def ct_slices_Equal_string : Ct := ⟨[(.bor, S_string), (.bor, S_string)], [(.bool, .b)], fun x => f_slices_Equal_string x.1 x.2.1⟩
noncomputable def cx_slices_Equal_string : Cx := ⟨tab, arrs, [], [], gl, []⟩
theorem eb_slices_Equal_string_4 (t0 : PV S_string) (t1 : PV S_string) (t12 : PV (.int .i64)) (t13 : PV (.int .i64)) : denK cx_slices_Equal_string (rcN cx_slices_Equal_string 0) pl_slices_Equal_string 0 ((loopsOf (bodyOf Try.f203)).getD 0 .skip) (fillS sh_slices_Equal_string_4 (t0, t1, t12, t13, ())) (roundK 0 lp_slices_Equal_string_4) = b_slices_Equal_string_4 t0 t1 t12 t13 := by kernel_rfl
theorem ef_slices_Equal_string (t0 : PV S_string) (t1 : PV S_string) : denF cx_slices_Equal_string 0 pl_slices_Equal_string Try.f203.ntmps (bodyOf Try.f203) Try.f203.results.toList [(.bor, S_string), (.bor, S_string)] [(.bool, .b)] (t0, t1, ()) = f_slices_Equal_string t0 t1 := by kernel_rfl
theorem ok_slices_Equal_string : FnOk gl Try.prog 203 ct_slices_Equal_string :=
  fnOk (cx := cx_slices_Equal_string) (pl := pl_slices_Equal_string) (dp := 0) (ok0_of tabOk (by unfold ArrOk; kernel_rfl) mix trivial trivial) Try.func203 (by kernel_rfl) (by kernel_rfl) (by kernel_rfl)
    (by rw [show loopsOf (bodyOf Try.f203) = [((loopsOf (bodyOf Try.f203)).getD 0 .skip)] from by kernel_rfl]; exact ⟨(by rw [show lookup pl_slices_Equal_string.loops (firstId ((loopsOf (bodyOf Try.f203)).getD 0 .skip)) = some lp_slices_Equal_string_4 from by kernel_rfl]; exact fun d z h => (eb_slices_Equal_string_4 d.1 d.2.1 d.2.2.1 d.2.2.2.1).trans h), trivial⟩) (fun x => ef_slices_Equal_string x.1 x.2.1)
noncomputable def o_I_kindOf_3 : List Out := [⟨.normal, ⟨[], [1, 2, 7, 8, 15, 28, 29, 34, 35, 41, 42, 43], []⟩, mkSh 45 [(1, .val S_string .b), (2, .val S_string .b), (7, .val .bool .b), (8, .val .bool .b), (15, .val .bool .b)]⟩]
noncomputable def o_I_kindOf_5 : List Out := [⟨.normal, ⟨[], [1, 2, 7, 8, 25, 34, 35, 41, 42, 43], []⟩, mkSh 45 [(1, .val S_string .b), (2, .val S_string .b), (7, .val .bool .b), (8, .val .bool .b), (25, .val .bool .b)]⟩]
noncomputable def o_I_kindOf_7 : List Out := [⟨.normal, ⟨[], [1, 2, 7, 31, 41, 42, 43], []⟩, mkSh 45 [(1, .val S_string .b), (2, .val S_string .b), (7, .val .bool .b), (31, .val .bool .b)]⟩]
noncomputable def o_I_kindOf_9 : List Out := [⟨.normal, ⟨[], [37], []⟩, mkSh 45 [(37, .val .bool .b)]⟩]
noncomputable def pl_I_kindOf : Plan := ⟨[(3, o_I_kindOf_3), (5, o_I_kindOf_5), (7, o_I_kindOf_7), (9, o_I_kindOf_9)], [], 0, 0⟩
noncomputable def f_I_kindOf (t0 : PV S_string) (t1 : PV S_string) (t2 : PV S_string) : Option (PVs [(.int .i64)] × PVs []) :=
  (f_slices_Equal_string t0 t1).bind fun r3 =>
    (f_slices_Equal_string t0 t2).bind fun r4 =>
      ((
          bif r3.1.1 then
            bif r4.1.1 then
              some (t1, t2, r3.1.1, r4.1.1, (decide ((t0.length : Int) > 0)), ())
            else
              some (t1, t2, r3.1.1, r4.1.1, false, ())
          else
            some (t1, t2, r3.1.1, r4.1.1, false, ()) : Option ((PV S_string × PV S_string × PV .bool × PV .bool × PV .bool × Unit)))).bind fun j11 =>
        bif j11.2.2.2.2.1 then
          some ((1, ()), ())
        else
          ((
              bif j11.2.2.2.1 then
                some (j11.1, j11.2.1, j11.2.2.1, j11.2.2.2.1, (!j11.2.2.1), ())
              else
                some (j11.1, j11.2.1, j11.2.2.1, j11.2.2.2.1, false, ()) : Option ((PV S_string × PV S_string × PV .bool × PV .bool × PV .bool × Unit)))).bind fun j12 =>
            bif j12.2.2.2.2.1 then
              some ((2, ()), ())
            else
              ((
                  bif j12.2.2.1 then
                    some (j12.1, j12.2.1, j12.2.2.1, (!j12.2.2.2.1), ())
                  else
                    some (j12.1, j12.2.1, j12.2.2.1, false, ()) : Option ((PV S_string × PV S_string × PV .bool × PV .bool × Unit)))).bind fun j13 =>
                bif j13.2.2.2.1 then
                  some ((3, ()), ())
                else
                  ((
                      bif (!j13.2.2.1) then
                        (f_slices_Equal_string j13.1 j13.2.1).bind fun r14 =>
                          some (r14.1.1, ())
                      else
                        some (false, ()) : Option ((PV .bool × Unit)))).bind fun j15 =>
                    bif j15.1 then
                      some ((4, ()), ())
                    else
                      some ((5, ()), ())
noncomputable def ct_I_kindOf : Ct := ⟨[(.bor, S_string), (.bor, S_string), (.bor, S_string)], [((.int .i64), .b)], fun x => f_I_kindOf x.1 x.2.1 x.2.2.1⟩
noncomputable def cx_I_kindOf : Cx := ⟨tab, arrs, [(203, ct_slices_Equal_string)], [], gl, []⟩
theorem ef_I_kindOf (t0 : PV S_string) (t1 : PV S_string) (t2 : PV S_string) : denF cx_I_kindOf 0 pl_I_kindOf Try.f165.ntmps (bodyOf Try.f165) Try.f165.results.toList [(.bor, S_string), (.bor, S_string), (.bor, S_string)] [((.int .i64), .b)] (t0, t1, t2, ()) = f_I_kindOf t0 t1 t2 := by kernel_rfl
theorem ok_I_kindOf : FnOk gl Try.prog 165 ct_I_kindOf :=
  fnOk (cx := cx_I_kindOf) (pl := pl_I_kindOf) (dp := 0) (ok0_of tabOk (by unfold ArrOk; kernel_rfl) mix ⟨ok_slices_Equal_string, trivial⟩ trivial) Try.func165 (by kernel_rfl) (by kernel_rfl) (by kernel_rfl)
    (by rw [show loopsOf (bodyOf Try.f165) = [] from by kernel_rfl]; exact trivial) (fun x => ef_I_kindOf x.1 x.2.1 x.2.2.1)
noncomputable def o_I_partsOf_164_52_1 : List Out := [⟨.normal, ⟨[], [0, 1, 2, 3, 4, 5, 6, 7, 8, 9, 25], [32, 38, 46, 50]⟩, mkSh 171 [(3, .var S_string .b), (4, .var S_string .b), (5, .var S_string .b), (7, .var S_impl_Part (.row (.pr .b (.pr .b (.pr .b (.pr (.row .b) (.pr (.row .b) .b))))))), (8, .val S_int (.row .b)), (9, .val S_int (.row .b)), (10, .var (.int .i64) .b), (11, .var (.int .i64) .b), (12, .var (.int .i64) .b), (13, .fn 164 [⟨10, [], 0, 0⟩, ⟨11, [], 0, 0⟩, ⟨12, [], 0, 0⟩, ⟨7, [], 0, 0⟩, ⟨3, [], 0, 0⟩, ⟨4, [], 0, 0⟩, ⟨5, [], 0, 0⟩]), (14, .val (.int .i64) .b), (24, .val (.int .i64) .b), (25, .val S_string .b), (26, .val (.int .i64) .b), (27, .val .bool .b), (30, .sub ⟨8, [], 0, 0⟩), (31, .val (.int .i64) .b), (33, .val (.int .i64) .b), (34, .val .bool .b), (35, .val .bool .b), (36, .sub ⟨9, [], 0, 0⟩), (37, .val (.int .i64) .b), (39, .val (.int .i64) .b), (40, .val .bool .b), (41, .val .bool .b), (42, .fn 164 [⟨10, [], 0, 0⟩, ⟨11, [], 0, 0⟩, ⟨12, [], 0, 0⟩, ⟨7, [], 0, 0⟩, ⟨3, [], 0, 0⟩, ⟨4, [], 0, 0⟩, ⟨5, [], 0, 0⟩]), (43, .val (.int .i64) .b), (44, .sub ⟨8, [], 0, 0⟩), (45, .val (.int .i64) .b), (47, .val (.int .i64) .b), (48, .sub ⟨9, [], 0, 0⟩), (49, .val (.int .i64) .b), (51, .val (.int .i64) .b), (113, .val (.int .i64) .b), (114, .val (.int .i64) .b), (115, .val (.int .i64) .b), (116, .addr ⟨10, [], 0, 0⟩), (117, .addr ⟨11, [], 0, 0⟩), (118, .addr ⟨12, [], 0, 0⟩), (119, .addr ⟨7, [], 0, 0⟩), (120, .addr ⟨3, [], 0, 0⟩), (121, .addr ⟨4, [], 0, 0⟩), (122, .addr ⟨5, [], 0, 0⟩), (138, .val .bool .b)]⟩]
noncomputable def o_I_partsOf_164_52_2 : List Out := [⟨.normal, ⟨[], [0, 1, 2, 3, 4, 5], []⟩, mkSh 171 [(3, .var S_string .b), (4, .var S_string .b), (5, .var S_string .b), (7, .var S_impl_Part (.row (.pr .b (.pr .b (.pr .b (.pr (.row .b) (.pr (.row .b) .b))))))), (8, .val S_int (.row .b)), (9, .val S_int (.row .b)), (10, .var (.int .i64) .b), (11, .var (.int .i64) .b), (12, .var (.int .i64) .b), (13, .fn 164 [⟨10, [], 0, 0⟩, ⟨11, [], 0, 0⟩, ⟨12, [], 0, 0⟩, ⟨7, [], 0, 0⟩, ⟨3, [], 0, 0⟩, ⟨4, [], 0, 0⟩, ⟨5, [], 0, 0⟩]), (14, .val (.int .i64) .b), (24, .val (.int .i64) .b), (25, .val S_string .b), (26, .val (.int .i64) .b), (27, .val .bool .b), (30, .sub ⟨8, [], 0, 0⟩), (31, .val (.int .i64) .b), (33, .val (.int .i64) .b), (34, .val .bool .b), (35, .val .bool .b), (36, .sub ⟨9, [], 0, 0⟩), (37, .val (.int .i64) .b), (39, .val (.int .i64) .b), (40, .val .bool .b), (41, .val .bool .b), (42, .fn 164 [⟨10, [], 0, 0⟩, ⟨11, [], 0, 0⟩, ⟨12, [], 0, 0⟩, ⟨7, [], 0, 0⟩, ⟨3, [], 0, 0⟩, ⟨4, [], 0, 0⟩, ⟨5, [], 0, 0⟩]), (43, .val (.int .i64) .b), (44, .sub ⟨8, [], 0, 0⟩), (45, .val (.int .i64) .b), (47, .val (.int .i64) .b), (48, .sub ⟨9, [], 0, 0⟩), (49, .val (.int .i64) .b), (51, .val (.int .i64) .b), (113, .val (.int .i64) .b), (114, .val (.int .i64) .b), (115, .val (.int .i64) .b), (116, .addr ⟨10, [], 0, 0⟩), (117, .addr ⟨11, [], 0, 0⟩), (118, .addr ⟨12, [], 0, 0⟩)]⟩]
noncomputable def o_I_partsOf_164_101_1 : List Out := [⟨.normal, ⟨[], [0, 1, 2, 3, 4, 5, 6, 7, 8, 9, 25], [92, 98]⟩, mkSh 171 [(3, .var S_string .b), (4, .var S_string .b), (5, .var S_string .b), (7, .var S_impl_Part (.row (.pr .b (.pr .b (.pr .b (.pr (.row .b) (.pr (.row .b) .b))))))), (8, .val S_int (.row .b)), (9, .val S_int (.row .b)), (10, .var (.int .i64) .b), (11, .var (.int .i64) .b), (12, .var (.int .i64) .b), (13, .fn 164 [⟨10, [], 0, 0⟩, ⟨11, [], 0, 0⟩, ⟨12, [], 0, 0⟩, ⟨7, [], 0, 0⟩, ⟨3, [], 0, 0⟩, ⟨4, [], 0, 0⟩, ⟨5, [], 0, 0⟩]), (15, .val (.int .i64) .b), (36, .sub ⟨9, [], 0, 0⟩), (37, .val (.int .i64) .b), (39, .val (.int .i64) .b), (40, .val .bool .b), (87, .fn 164 [⟨10, [], 0, 0⟩, ⟨11, [], 0, 0⟩, ⟨12, [], 0, 0⟩, ⟨7, [], 0, 0⟩, ⟨3, [], 0, 0⟩, ⟨4, [], 0, 0⟩, ⟨5, [], 0, 0⟩]), (88, .val (.int .i64) .b), (89, .sub ⟨8, [], 0, 0⟩), (90, .val (.int .i64) .b), (91, .val (.int .i64) .b), (93, .val (.int .i64) .b), (94, .val (.int .i64) .b), (95, .sub ⟨9, [], 0, 0⟩), (96, .val (.int .i64) .b), (97, .val (.int .i64) .b), (99, .val (.int .i64) .b), (100, .val (.int .i64) .b), (113, .val (.int .i64) .b), (114, .val (.int .i64) .b), (115, .val (.int .i64) .b), (116, .addr ⟨10, [], 0, 0⟩), (117, .addr ⟨11, [], 0, 0⟩), (118, .addr ⟨12, [], 0, 0⟩), (119, .addr ⟨7, [], 0, 0⟩), (120, .addr ⟨3, [], 0, 0⟩), (121, .addr ⟨4, [], 0, 0⟩), (122, .addr ⟨5, [], 0, 0⟩), (138, .val .bool .b)]⟩]
noncomputable def o_I_partsOf_164_101_2 : List Out := [⟨.normal, ⟨[], [0, 1, 2, 3, 4, 5], []⟩, mkSh 171 [(3, .var S_string .b), (4, .var S_string .b), (5, .var S_string .b), (7, .var S_impl_Part (.row (.pr .b (.pr .b (.pr .b (.pr (.row .b) (.pr (.row .b) .b))))))), (8, .val S_int (.row .b)), (9, .val S_int (.row .b)), (10, .var (.int .i64) .b), (11, .var (.int .i64) .b), (12, .var (.int .i64) .b), (13, .fn 164 [⟨10, [], 0, 0⟩, ⟨11, [], 0, 0⟩, ⟨12, [], 0, 0⟩, ⟨7, [], 0, 0⟩, ⟨3, [], 0, 0⟩, ⟨4, [], 0, 0⟩, ⟨5, [], 0, 0⟩]), (15, .val (.int .i64) .b), (36, .sub ⟨9, [], 0, 0⟩), (37, .val (.int .i64) .b), (39, .val (.int .i64) .b), (40, .val .bool .b), (87, .fn 164 [⟨10, [], 0, 0⟩, ⟨11, [], 0, 0⟩, ⟨12, [], 0, 0⟩, ⟨7, [], 0, 0⟩, ⟨3, [], 0, 0⟩, ⟨4, [], 0, 0⟩, ⟨5, [], 0, 0⟩]), (88, .val (.int .i64) .b), (89, .sub ⟨8, [], 0, 0⟩), (90, .val (.int .i64) .b), (91, .val (.int .i64) .b), (93, .val (.int .i64) .b), (94, .val (.int .i64) .b), (95, .sub ⟨9, [], 0, 0⟩), (96, .val (.int .i64) .b), (97, .val (.int .i64) .b), (99, .val (.int .i64) .b), (100, .val (.int .i64) .b), (113, .val (.int .i64) .b), (114, .val (.int .i64) .b), (115, .val (.int .i64) .b), (116, .addr ⟨10, [], 0, 0⟩), (117, .addr ⟨11, [], 0, 0⟩), (118, .addr ⟨12, [], 0, 0⟩)]⟩]
noncomputable def o_I_partsOf_164_111_1 : List Out := [⟨.normal, ⟨[], [0, 1, 2, 3, 4, 5, 6, 7, 8, 9, 25], []⟩, mkSh 171 [(3, .var S_string .b), (4, .var S_string .b), (5, .var S_string .b), (7, .var S_impl_Part (.row (.pr .b (.pr .b (.pr .b (.pr (.row .b) (.pr (.row .b) .b))))))), (10, .var (.int .i64) .b), (11, .var (.int .i64) .b), (12, .var (.int .i64) .b), (13, .fn 164 [⟨10, [], 0, 0⟩, ⟨11, [], 0, 0⟩, ⟨12, [], 0, 0⟩, ⟨7, [], 0, 0⟩, ⟨3, [], 0, 0⟩, ⟨4, [], 0, 0⟩, ⟨5, [], 0, 0⟩]), (104, .fn 164 [⟨10, [], 0, 0⟩, ⟨11, [], 0, 0⟩, ⟨12, [], 0, 0⟩, ⟨7, [], 0, 0⟩, ⟨3, [], 0, 0⟩, ⟨4, [], 0, 0⟩, ⟨5, [], 0, 0⟩]), (105, .val S_string .b), (106, .val (.int .i64) .b), (107, .val S_string .b), (108, .val (.int .i64) .b), (109, .val S_string .b), (110, .val (.int .i64) .b), (113, .val (.int .i64) .b), (114, .val (.int .i64) .b), (115, .val (.int .i64) .b), (116, .addr ⟨10, [], 0, 0⟩), (117, .addr ⟨11, [], 0, 0⟩), (118, .addr ⟨12, [], 0, 0⟩), (119, .addr ⟨7, [], 0, 0⟩), (120, .addr ⟨3, [], 0, 0⟩), (121, .addr ⟨4, [], 0, 0⟩), (122, .addr ⟨5, [], 0, 0⟩), (138, .val .bool .b)]⟩]
noncomputable def o_I_partsOf_164_111_2 : List Out := [⟨.normal, ⟨[], [0, 1, 2, 3, 4, 5], []⟩, mkSh 171 [(3, .var S_string .b), (4, .var S_string .b), (5, .var S_string .b), (7, .var S_impl_Part (.row (.pr .b (.pr .b (.pr .b (.pr (.row .b) (.pr (.row .b) .b))))))), (10, .var (.int .i64) .b), (11, .var (.int .i64) .b), (12, .var (.int .i64) .b), (13, .fn 164 [⟨10, [], 0, 0⟩, ⟨11, [], 0, 0⟩, ⟨12, [], 0, 0⟩, ⟨7, [], 0, 0⟩, ⟨3, [], 0, 0⟩, ⟨4, [], 0, 0⟩, ⟨5, [], 0, 0⟩]), (104, .fn 164 [⟨10, [], 0, 0⟩, ⟨11, [], 0, 0⟩, ⟨12, [], 0, 0⟩, ⟨7, [], 0, 0⟩, ⟨3, [], 0, 0⟩, ⟨4, [], 0, 0⟩, ⟨5, [], 0, 0⟩]), (105, .val S_string .b), (106, .val (.int .i64) .b), (107, .val S_string .b), (108, .val (.int .i64) .b), (109, .val S_string .b), (110, .val (.int .i64) .b), (113, .val (.int .i64) .b), (114, .val (.int .i64) .b), (115, .val (.int .i64) .b), (116, .addr ⟨10, [], 0, 0⟩), (117, .addr ⟨11, [], 0, 0⟩), (118, .addr ⟨12, [], 0, 0⟩)]⟩]
noncomputable def o_I_partsOf_6 : List Out := [⟨.normal, ⟨[], [3, 4, 5, 7, 8, 9, 10, 11, 12, 13, 14, 60, 61, 62, 63, 64, 65, 66, 67, 68, 69, 70, 73, 74, 75, 76, 77, 78, 79, 80, 81, 82, 83], []⟩, mkSh 113 [(3, .var S_string .b), (4, .var S_string .b), (5, .var S_string .b), (7, .var S_impl_Part (.row (.pr .b (.pr .b (.pr .b (.pr (.row .b) (.pr (.row .b) .b))))))), (8, .val S_int (.row .b)), (9, .val S_int (.row .b)), (10, .var (.int .i64) .b), (11, .var (.int .i64) .b), (12, .var (.int .i64) .b), (13, .fn 164 [⟨10, [], 0, 0⟩, ⟨11, [], 0, 0⟩, ⟨12, [], 0, 0⟩, ⟨7, [], 0, 0⟩, ⟨3, [], 0, 0⟩, ⟨4, [], 0, 0⟩, ⟨5, [], 0, 0⟩]), (14, .val (.int .i64) .b)]⟩]
noncomputable def pl_I_partsOf_164_52 : Plan := ⟨[(1, o_I_partsOf_164_52_1), (2, o_I_partsOf_164_52_2)], [], 0, 113⟩
noncomputable def pl_I_partsOf_164_101 : Plan := ⟨[(1, o_I_partsOf_164_101_1), (2, o_I_partsOf_164_101_2)], [], 0, 113⟩
noncomputable def pl_I_partsOf_164_111 : Plan := ⟨[(1, o_I_partsOf_164_111_1), (2, o_I_partsOf_164_111_2)], [], 0, 113⟩
noncomputable def sh_I_partsOf_10 : List Sh := mkSh 113 [(3, .var S_string .b), (4, .var S_string .b), (5, .var S_string .b), (7, .var S_impl_Part (.row (.pr .b (.pr .b (.pr .b (.pr (.row .b) (.pr (.row .b) .b))))))), (8, .val S_int (.row .b)), (9, .val S_int (.row .b)), (10, .var (.int .i64) .b), (11, .var (.int .i64) .b), (12, .var (.int .i64) .b), (13, .fn 164 [⟨10, [], 0, 0⟩, ⟨11, [], 0, 0⟩, ⟨12, [], 0, 0⟩, ⟨7, [], 0, 0⟩, ⟨3, [], 0, 0⟩, ⟨4, [], 0, 0⟩, ⟨5, [], 0, 0⟩]), (15, .val (.int .i64) .b), (36, .sub ⟨9, [], 0, 0⟩), (37, .val (.int .i64) .b), (39, .val (.int .i64) .b), (40, .val .bool .b)]
noncomputable def o_I_partsOf_10 : List Out := [⟨.exit 2, ⟨[], [3, 4, 5, 7, 8, 9, 10, 11, 12, 13, 15, 36, 37, 38, 39, 40], []⟩, mkSh 113 [(3, .var S_string .b), (4, .var S_string .b), (5, .var S_string .b), (7, .var S_impl_Part (.row (.pr .b (.pr .b (.pr .b (.pr (.row .b) (.pr (.row .b) .b))))))), (8, .val S_int (.row .b)), (9, .val S_int (.row .b)), (10, .var (.int .i64) .b), (11, .var (.int .i64) .b), (12, .var (.int .i64) .b), (13, .fn 164 [⟨10, [], 0, 0⟩, ⟨11, [], 0, 0⟩, ⟨12, [], 0, 0⟩, ⟨7, [], 0, 0⟩, ⟨3, [], 0, 0⟩, ⟨4, [], 0, 0⟩, ⟨5, [], 0, 0⟩]), (15, .val (.int .i64) .b), (36, .sub ⟨9, [], 0, 0⟩), (37, .val (.int .i64) .b), (39, .val (.int .i64) .b), (40, .val .bool .b)]⟩]
noncomputable def b_I_partsOf_10 (t3 : PV S_string) (t4 : PV S_string) (t5 : PV S_string) (t7 : PV S_impl_Part) (t8 : PV S_int) (t9 : PV S_int) (t10 : PV (.int .i64)) (t11 : PV (.int .i64)) (t12 : PV (.int .i64)) (t15 : PV (.int .i64)) (t37 : PV (.int .i64)) (t39 : PV (.int .i64)) (t40 : PV .bool) : Option ((PV S_string × PV S_string × PV S_string × PV S_impl_Part × PV S_int × PV S_int × PV (.int .i64) × PV (.int .i64) × PV (.int .i64) × PV (.int .i64) × PV (.int .i64) × PV (.int .i64) × PV .bool × Unit) ⊕ ((PV S_string × PV S_string × PV S_string × PV S_impl_Part × PV S_int × PV S_int × PV (.int .i64) × PV (.int .i64) × PV (.int .i64) × PV (.int .i64) × PV (.int .i64) × PV (.int .i64) × PV .bool × Unit))) :=
  bif (decide (t15 < (t3.length : Int))) then
    bif inB t15 t8.length then
      bif inB (IntKind.wrap .i64 (t15 - 1)) t8.length then
        bif ((t8.getD t15.toNat (0 : Int)) == (IntKind.wrap .i64 ((t8.getD ((IntKind.wrap .i64 (t15 - 1)).toNat) (0 : Int)) + 1))) then
          bif inB t15 t9.length then
            bif inB (IntKind.wrap .i64 (t15 - 1)) t9.length then
              bif ((t9.getD t15.toNat (0 : Int)) == (IntKind.wrap .i64 ((t9.getD ((IntKind.wrap .i64 (t15 - 1)).toNat) (0 : Int)) + 1))) then
                some (.inl (t3, t4, t5, t7, t8, t9, t10, t11, t12, (IntKind.wrap .i64 (t15 + 1)), t37, t39, t40, ()))
              else
                some (.inr (t3, t4, t5, t7, t8, t9, t10, t11, t12, t15, t37, t39, t40, ()))
            else
              none
          else
            none
        else
          some (.inr (t3, t4, t5, t7, t8, t9, t10, t11, t12, t15, t37, t39, t40, ()))
      else
        none
    else
      none
  else
    some (.inr (t3, t4, t5, t7, t8, t9, t10, t11, t12, t15, t37, t39, t40, ()))
noncomputable def w_I_partsOf_10 : PV S_string × PV S_string × PV S_string × PV S_impl_Part × PV S_int × PV S_int × PV (.int .i64) × PV (.int .i64) × PV (.int .i64) × PV (.int .i64) × PV (.int .i64) × PV (.int .i64) × PV .bool × Unit → Option ((PV S_string × PV S_string × PV S_string × PV S_impl_Part × PV S_int × PV S_int × PV (.int .i64) × PV (.int .i64) × PV (.int .i64) × PV (.int .i64) × PV (.int .i64) × PV (.int .i64) × PV .bool × Unit)) := fix fun d => b_I_partsOf_10 d.1 d.2.1 d.2.2.1 d.2.2.2.1 d.2.2.2.2.1 d.2.2.2.2.2.1 d.2.2.2.2.2.2.1 d.2.2.2.2.2.2.2.1 d.2.2.2.2.2.2.2.2.1 d.2.2.2.2.2.2.2.2.2.1 d.2.2.2.2.2.2.2.2.2.2.1 d.2.2.2.2.2.2.2.2.2.2.2.1 d.2.2.2.2.2.2.2.2.2.2.2.2.1
noncomputable def lp_I_partsOf_10 : Lp := ⟨⟨[], [3, 4, 5, 7, 8, 9, 10, 11, 12, 13, 15, 36, 37, 38, 39, 40], []⟩, sh_I_partsOf_10, o_I_partsOf_10, fun d => b_I_partsOf_10 d.1 d.2.1 d.2.2.1 d.2.2.2.1 d.2.2.2.2.1 d.2.2.2.2.2.1 d.2.2.2.2.2.2.1 d.2.2.2.2.2.2.2.1 d.2.2.2.2.2.2.2.2.1 d.2.2.2.2.2.2.2.2.2.1 d.2.2.2.2.2.2.2.2.2.2.1 d.2.2.2.2.2.2.2.2.2.2.2.1 d.2.2.2.2.2.2.2.2.2.2.2.2.1⟩
noncomputable def sh_I_partsOf_5 : List Sh := mkSh 113 [(3, .var S_string .b), (4, .var S_string .b), (5, .var S_string .b), (7, .var S_impl_Part (.row (.pr .b (.pr .b (.pr .b (.pr (.row .b) (.pr (.row .b) .b))))))), (8, .val S_int (.row .b)), (9, .val S_int (.row .b)), (10, .var (.int .i64) .b), (11, .var (.int .i64) .b), (12, .var (.int .i64) .b), (13, .fn 164 [⟨10, [], 0, 0⟩, ⟨11, [], 0, 0⟩, ⟨12, [], 0, 0⟩, ⟨7, [], 0, 0⟩, ⟨3, [], 0, 0⟩, ⟨4, [], 0, 0⟩, ⟨5, [], 0, 0⟩]), (14, .val (.int .i64) .b)]
noncomputable def o_I_partsOf_5 : List Out := [⟨.exit 0, ⟨[], [3, 4, 5, 7, 10, 11, 12, 13], []⟩, mkSh 113 [(3, .var S_string .b), (4, .var S_string .b), (5, .var S_string .b), (7, .var S_impl_Part (.row (.pr .b (.pr .b (.pr .b (.pr (.row .b) (.pr (.row .b) .b))))))), (10, .var (.int .i64) .b), (11, .var (.int .i64) .b), (12, .var (.int .i64) .b), (13, .fn 164 [⟨10, [], 0, 0⟩, ⟨11, [], 0, 0⟩, ⟨12, [], 0, 0⟩, ⟨7, [], 0, 0⟩, ⟨3, [], 0, 0⟩, ⟨4, [], 0, 0⟩, ⟨5, [], 0, 0⟩])]⟩]
noncomputable def b_I_partsOf_5 (t3 : PV S_string) (t4 : PV S_string) (t5 : PV S_string) (t7 : PV S_impl_Part) (t8 : PV S_int) (t9 : PV S_int) (t10 : PV (.int .i64)) (t11 : PV (.int .i64)) (t12 : PV (.int .i64)) (t14 : PV (.int .i64)) : Option ((PV S_string × PV S_string × PV S_string × PV S_impl_Part × PV S_int × PV S_int × PV (.int .i64) × PV (.int .i64) × PV (.int .i64) × PV (.int .i64) × Unit) ⊕ ((PV S_string × PV S_string × PV S_string × PV S_impl_Part × PV (.int .i64) × PV (.int .i64) × PV (.int .i64) × Unit))) :=
  bif (decide (t14 < (t3.length : Int))) then
    ((
        bif inB t14 t8.length then
          bif (decide ((t8.getD t14.toNat (0 : Int)) < 0)) then
            some (t3, t4, t5, t7, t8, t9, t10, t11, t12, t14, ())
          else
            bif inB t14 t9.length then
              bif (decide ((t9.getD t14.toNat (0 : Int)) < 0)) then
                some (t3, t4, t5, t7, t8, t9, t10, t11, t12, t14, ())
              else
                bif inB t14 t8.length then
                  bif inB t14 t9.length then
                    ((
                        ((
                            bif (decide (t14 > t10)) then
                              some (t3, t4, t5, t7, t8, t9, t10, t11, t12, t14, t14, t3, (t3.length : Int), (decide (t14 < (t3.length : Int))), t14, (t8.getD t14.toNat (0 : Int)), (decide ((t8.getD t14.toNat (0 : Int)) < 0)), false, t14, (t9.getD t14.toNat (0 : Int)), (decide ((t9.getD t14.toNat (0 : Int)) < 0)), (decide ((t9.getD t14.toNat (0 : Int)) < 0)), t14, t14, (t8.getD t14.toNat (0 : Int)), t14, (t9.getD t14.toNat (0 : Int)), t14, (t8.getD t14.toNat (0 : Int)), (t9.getD t14.toNat (0 : Int)), true, ())
                            else
                              bif (decide ((t8.getD t14.toNat (0 : Int)) > t11)) then
                                some (t3, t4, t5, t7, t8, t9, t10, t11, t12, t14, t14, t3, (t3.length : Int), (decide (t14 < (t3.length : Int))), t14, (t8.getD t14.toNat (0 : Int)), (decide ((t8.getD t14.toNat (0 : Int)) < 0)), false, t14, (t9.getD t14.toNat (0 : Int)), (decide ((t9.getD t14.toNat (0 : Int)) < 0)), (decide ((t9.getD t14.toNat (0 : Int)) < 0)), t14, t14, (t8.getD t14.toNat (0 : Int)), t14, (t9.getD t14.toNat (0 : Int)), t14, (t8.getD t14.toNat (0 : Int)), (t9.getD t14.toNat (0 : Int)), true, ())
                              else
                                some (t3, t4, t5, t7, t8, t9, t10, t11, t12, t14, t14, t3, (t3.length : Int), (decide (t14 < (t3.length : Int))), t14, (t8.getD t14.toNat (0 : Int)), (decide ((t8.getD t14.toNat (0 : Int)) < 0)), false, t14, (t9.getD t14.toNat (0 : Int)), (decide ((t9.getD t14.toNat (0 : Int)) < 0)), (decide ((t9.getD t14.toNat (0 : Int)) < 0)), t14, t14, (t8.getD t14.toNat (0 : Int)), t14, (t9.getD t14.toNat (0 : Int)), t14, (t8.getD t14.toNat (0 : Int)), (t9.getD t14.toNat (0 : Int)), (decide ((t9.getD t14.toNat (0 : Int)) > t12)), ()) : Option ((PV S_string × PV S_string × PV S_string × PV S_impl_Part × PV S_int × PV S_int × PV (.int .i64) × PV (.int .i64) × PV (.int .i64) × PV (.int .i64) × PV (.int .i64) × PV S_string × PV (.int .i64) × PV .bool × PV (.int .i64) × PV (.int .i64) × PV .bool × PV .bool × PV (.int .i64) × PV (.int .i64) × PV .bool × PV .bool × PV (.int .i64) × PV (.int .i64) × PV (.int .i64) × PV (.int .i64) × PV (.int .i64) × PV (.int .i64) × PV (.int .i64) × PV (.int .i64) × PV .bool × Unit)))).bind fun j10 =>
                          bif j10.2.2.2.2.2.2.2.2.2.2.2.2.2.2.2.2.2.2.2.2.2.2.2.2.2.2.2.2.2.2.1 then
                            bif cutB j10.2.2.2.2.2.2.1 j10.2.2.2.2.2.2.2.2.2.2.2.2.2.2.2.2.2.2.2.2.2.2.2.2.2.2.2.1 j10.1.length then
                              bif cutB j10.2.2.2.2.2.2.2.1 j10.2.2.2.2.2.2.2.2.2.2.2.2.2.2.2.2.2.2.2.2.2.2.2.2.2.2.2.2.1 j10.2.1.length then
                                bif cutB j10.2.2.2.2.2.2.2.2.1 j10.2.2.2.2.2.2.2.2.2.2.2.2.2.2.2.2.2.2.2.2.2.2.2.2.2.2.2.2.2.1 j10.2.2.1.length then
                                  (f_I_kindOf (cutL j10.2.2.2.2.2.2.1 j10.2.2.2.2.2.2.2.2.2.2.2.2.2.2.2.2.2.2.2.2.2.2.2.2.2.2.2.1 j10.1) (cutL j10.2.2.2.2.2.2.2.1 j10.2.2.2.2.2.2.2.2.2.2.2.2.2.2.2.2.2.2.2.2.2.2.2.2.2.2.2.2.1 j10.2.1) (cutL j10.2.2.2.2.2.2.2.2.1 j10.2.2.2.2.2.2.2.2.2.2.2.2.2.2.2.2.2.2.2.2.2.2.2.2.2.2.2.2.2.1 j10.2.2.1)).bind fun r11 =>
                                    bif cutB j10.2.2.2.2.2.2.2.1 j10.2.2.2.2.2.2.2.2.2.2.2.2.2.2.2.2.2.2.2.2.2.2.2.2.2.2.2.2.1 j10.2.1.length then
                                      (f_slices_Clone_string (cutL j10.2.2.2.2.2.2.2.1 j10.2.2.2.2.2.2.2.2.2.2.2.2.2.2.2.2.2.2.2.2.2.2.2.2.2.2.2.2.1 j10.2.1)).bind fun r12 =>
                                        bif cutB j10.2.2.2.2.2.2.2.2.1 j10.2.2.2.2.2.2.2.2.2.2.2.2.2.2.2.2.2.2.2.2.2.2.2.2.2.2.2.2.2.1 j10.2.2.1.length then
                                          (f_slices_Clone_string (cutL j10.2.2.2.2.2.2.2.2.1 j10.2.2.2.2.2.2.2.2.2.2.2.2.2.2.2.2.2.2.2.2.2.2.2.2.2.2.2.2.2.1 j10.2.2.1)).bind fun r13 =>
                                            bif roomB (j10.2.2.2.1.length + [(r11.1.1, (j10.2.2.2.2.2.2.1, (j10.2.2.2.2.2.2.2.2.2.2.2.2.2.2.2.2.2.2.2.2.2.2.2.2.2.2.2.1, (r12.1.1, (r13.1.1, ())))))].length) then
                                              some (j10.1, j10.2.1, j10.2.2.1, (j10.2.2.2.1 ++ [(r11.1.1, (j10.2.2.2.2.2.2.1, (j10.2.2.2.2.2.2.2.2.2.2.2.2.2.2.2.2.2.2.2.2.2.2.2.2.2.2.2.1, (r12.1.1, (r13.1.1, ())))))]), j10.2.2.2.2.1, j10.2.2.2.2.2.1, j10.2.2.2.2.2.2.1, j10.2.2.2.2.2.2.2.1, j10.2.2.2.2.2.2.2.2.1, j10.2.2.2.2.2.2.2.2.2.1, j10.2.2.2.2.2.2.2.2.2.2.1, j10.2.2.2.2.2.2.2.2.2.2.2.1, j10.2.2.2.2.2.2.2.2.2.2.2.2.1, j10.2.2.2.2.2.2.2.2.2.2.2.2.2.1, j10.2.2.2.2.2.2.2.2.2.2.2.2.2.2.1, j10.2.2.2.2.2.2.2.2.2.2.2.2.2.2.2.1, j10.2.2.2.2.2.2.2.2.2.2.2.2.2.2.2.2.1, j10.2.2.2.2.2.2.2.2.2.2.2.2.2.2.2.2.2.1, j10.2.2.2.2.2.2.2.2.2.2.2.2.2.2.2.2.2.2.1, j10.2.2.2.2.2.2.2.2.2.2.2.2.2.2.2.2.2.2.2.1, j10.2.2.2.2.2.2.2.2.2.2.2.2.2.2.2.2.2.2.2.2.1, j10.2.2.2.2.2.2.2.2.2.2.2.2.2.2.2.2.2.2.2.2.2.1, j10.2.2.2.2.2.2.2.2.2.2.2.2.2.2.2.2.2.2.2.2.2.2.1, j10.2.2.2.2.2.2.2.2.2.2.2.2.2.2.2.2.2.2.2.2.2.2.2.1, j10.2.2.2.2.2.2.2.2.2.2.2.2.2.2.2.2.2.2.2.2.2.2.2.2.1, j10.2.2.2.2.2.2.2.2.2.2.2.2.2.2.2.2.2.2.2.2.2.2.2.2.2.1, j10.2.2.2.2.2.2.2.2.2.2.2.2.2.2.2.2.2.2.2.2.2.2.2.2.2.2.1, j10.2.2.2.2.2.2.2.2.2.2.2.2.2.2.2.2.2.2.2.2.2.2.2.2.2.2.2.1, j10.2.2.2.2.2.2.2.2.2.2.2.2.2.2.2.2.2.2.2.2.2.2.2.2.2.2.2.2.1, j10.2.2.2.2.2.2.2.2.2.2.2.2.2.2.2.2.2.2.2.2.2.2.2.2.2.2.2.2.2.1, ())
                                            else
                                              none
                                        else
                                          none
                                    else
                                      none
                                else
                                  none
                              else
                                none
                            else
                              none
                          else
                            some (j10.1, j10.2.1, j10.2.2.1, j10.2.2.2.1, j10.2.2.2.2.1, j10.2.2.2.2.2.1, j10.2.2.2.2.2.2.1, j10.2.2.2.2.2.2.2.1, j10.2.2.2.2.2.2.2.2.1, j10.2.2.2.2.2.2.2.2.2.1, j10.2.2.2.2.2.2.2.2.2.2.1, j10.2.2.2.2.2.2.2.2.2.2.2.1, j10.2.2.2.2.2.2.2.2.2.2.2.2.1, j10.2.2.2.2.2.2.2.2.2.2.2.2.2.1, j10.2.2.2.2.2.2.2.2.2.2.2.2.2.2.1, j10.2.2.2.2.2.2.2.2.2.2.2.2.2.2.2.1, j10.2.2.2.2.2.2.2.2.2.2.2.2.2.2.2.2.1, j10.2.2.2.2.2.2.2.2.2.2.2.2.2.2.2.2.2.1, j10.2.2.2.2.2.2.2.2.2.2.2.2.2.2.2.2.2.2.1, j10.2.2.2.2.2.2.2.2.2.2.2.2.2.2.2.2.2.2.2.1, j10.2.2.2.2.2.2.2.2.2.2.2.2.2.2.2.2.2.2.2.2.1, j10.2.2.2.2.2.2.2.2.2.2.2.2.2.2.2.2.2.2.2.2.2.1, j10.2.2.2.2.2.2.2.2.2.2.2.2.2.2.2.2.2.2.2.2.2.2.1, j10.2.2.2.2.2.2.2.2.2.2.2.2.2.2.2.2.2.2.2.2.2.2.2.1, j10.2.2.2.2.2.2.2.2.2.2.2.2.2.2.2.2.2.2.2.2.2.2.2.2.1, j10.2.2.2.2.2.2.2.2.2.2.2.2.2.2.2.2.2.2.2.2.2.2.2.2.2.1, j10.2.2.2.2.2.2.2.2.2.2.2.2.2.2.2.2.2.2.2.2.2.2.2.2.2.2.1, j10.2.2.2.2.2.2.2.2.2.2.2.2.2.2.2.2.2.2.2.2.2.2.2.2.2.2.2.1, j10.2.2.2.2.2.2.2.2.2.2.2.2.2.2.2.2.2.2.2.2.2.2.2.2.2.2.2.2.1, j10.2.2.2.2.2.2.2.2.2.2.2.2.2.2.2.2.2.2.2.2.2.2.2.2.2.2.2.2.2.1, ()) : Option ((PV S_string × PV S_string × PV S_string × PV S_impl_Part × PV S_int × PV S_int × PV (.int .i64) × PV (.int .i64) × PV (.int .i64) × PV (.int .i64) × PV (.int .i64) × PV S_string × PV (.int .i64) × PV .bool × PV (.int .i64) × PV (.int .i64) × PV .bool × PV .bool × PV (.int .i64) × PV (.int .i64) × PV .bool × PV .bool × PV (.int .i64) × PV (.int .i64) × PV (.int .i64) × PV (.int .i64) × PV (.int .i64) × PV (.int .i64) × PV (.int .i64) × PV (.int .i64) × Unit)))).bind fun j14 =>
                      (w_I_partsOf_10 (j14.1, j14.2.1, j14.2.2.1, j14.2.2.2.1, j14.2.2.2.2.1, j14.2.2.2.2.2.1, j14.2.2.2.2.2.2.2.2.2.2.2.2.2.2.2.2.2.2.2.2.2.2.2.2.2.2.2.1, j14.2.2.2.2.2.2.2.2.2.2.2.2.2.2.2.2.2.2.2.2.2.2.2.2.2.2.2.2.1, j14.2.2.2.2.2.2.2.2.2.2.2.2.2.2.2.2.2.2.2.2.2.2.2.2.2.2.2.2.2.1, (IntKind.wrap .i64 (j14.2.2.2.2.2.2.2.2.2.1 + 1)), j14.2.2.2.2.2.2.2.2.2.2.2.2.2.2.2.2.2.2.1, j14.2.2.2.2.2.2.2.2.2.2.2.2.2.2.2.2.2.2.2.1, j14.2.2.2.2.2.2.2.2.2.2.2.2.2.2.2.2.2.2.2.2.1, ())).bind fun l16 =>
                        bif inB (IntKind.wrap .i64 (l16.2.2.2.2.2.2.2.2.2.1 - 1)) l16.2.2.2.2.1.length then
                          bif inB (IntKind.wrap .i64 (l16.2.2.2.2.2.2.2.2.2.1 - 1)) l16.2.2.2.2.2.1.length then
                            ((
                                ((
                                    bif (decide (l16.2.2.2.2.2.2.2.2.2.1 > l16.2.2.2.2.2.2.1)) then
                                      some (l16.1, l16.2.1, l16.2.2.1, l16.2.2.2.1, l16.2.2.2.2.1, l16.2.2.2.2.2.1, l16.2.2.2.2.2.2.1, l16.2.2.2.2.2.2.2.1, l16.2.2.2.2.2.2.2.2.1, l16.2.2.2.2.2.2.2.2.2.1, l16.2.2.2.2.2.2.2.2.2.2.1, l16.2.2.2.2.2.2.2.2.2.2.2.1, l16.2.2.2.2.2.2.2.2.2.2.2.2.1, l16.2.2.2.2.2.2.2.2.2.1, l16.2.2.2.2.2.2.2.2.2.1, (IntKind.wrap .i64 (l16.2.2.2.2.2.2.2.2.2.1 - 1)), (l16.2.2.2.2.1.getD ((IntKind.wrap .i64 (l16.2.2.2.2.2.2.2.2.2.1 - 1)).toNat) (0 : Int)), (IntKind.wrap .i64 ((l16.2.2.2.2.1.getD ((IntKind.wrap .i64 (l16.2.2.2.2.2.2.2.2.2.1 - 1)).toNat) (0 : Int)) + 1)), l16.2.2.2.2.2.2.2.2.2.1, (IntKind.wrap .i64 (l16.2.2.2.2.2.2.2.2.2.1 - 1)), (l16.2.2.2.2.2.1.getD ((IntKind.wrap .i64 (l16.2.2.2.2.2.2.2.2.2.1 - 1)).toNat) (0 : Int)), (IntKind.wrap .i64 ((l16.2.2.2.2.2.1.getD ((IntKind.wrap .i64 (l16.2.2.2.2.2.2.2.2.2.1 - 1)).toNat) (0 : Int)) + 1)), l16.2.2.2.2.2.2.2.2.2.1, (IntKind.wrap .i64 ((l16.2.2.2.2.1.getD ((IntKind.wrap .i64 (l16.2.2.2.2.2.2.2.2.2.1 - 1)).toNat) (0 : Int)) + 1)), (IntKind.wrap .i64 ((l16.2.2.2.2.2.1.getD ((IntKind.wrap .i64 (l16.2.2.2.2.2.2.2.2.2.1 - 1)).toNat) (0 : Int)) + 1)), true, ())
                                    else
                                      bif (decide ((IntKind.wrap .i64 ((l16.2.2.2.2.1.getD ((IntKind.wrap .i64 (l16.2.2.2.2.2.2.2.2.2.1 - 1)).toNat) (0 : Int)) + 1)) > l16.2.2.2.2.2.2.2.1)) then
                                        some (l16.1, l16.2.1, l16.2.2.1, l16.2.2.2.1, l16.2.2.2.2.1, l16.2.2.2.2.2.1, l16.2.2.2.2.2.2.1, l16.2.2.2.2.2.2.2.1, l16.2.2.2.2.2.2.2.2.1, l16.2.2.2.2.2.2.2.2.2.1, l16.2.2.2.2.2.2.2.2.2.2.1, l16.2.2.2.2.2.2.2.2.2.2.2.1, l16.2.2.2.2.2.2.2.2.2.2.2.2.1, l16.2.2.2.2.2.2.2.2.2.1, l16.2.2.2.2.2.2.2.2.2.1, (IntKind.wrap .i64 (l16.2.2.2.2.2.2.2.2.2.1 - 1)), (l16.2.2.2.2.1.getD ((IntKind.wrap .i64 (l16.2.2.2.2.2.2.2.2.2.1 - 1)).toNat) (0 : Int)), (IntKind.wrap .i64 ((l16.2.2.2.2.1.getD ((IntKind.wrap .i64 (l16.2.2.2.2.2.2.2.2.2.1 - 1)).toNat) (0 : Int)) + 1)), l16.2.2.2.2.2.2.2.2.2.1, (IntKind.wrap .i64 (l16.2.2.2.2.2.2.2.2.2.1 - 1)), (l16.2.2.2.2.2.1.getD ((IntKind.wrap .i64 (l16.2.2.2.2.2.2.2.2.2.1 - 1)).toNat) (0 : Int)), (IntKind.wrap .i64 ((l16.2.2.2.2.2.1.getD ((IntKind.wrap .i64 (l16.2.2.2.2.2.2.2.2.2.1 - 1)).toNat) (0 : Int)) + 1)), l16.2.2.2.2.2.2.2.2.2.1, (IntKind.wrap .i64 ((l16.2.2.2.2.1.getD ((IntKind.wrap .i64 (l16.2.2.2.2.2.2.2.2.2.1 - 1)).toNat) (0 : Int)) + 1)), (IntKind.wrap .i64 ((l16.2.2.2.2.2.1.getD ((IntKind.wrap .i64 (l16.2.2.2.2.2.2.2.2.2.1 - 1)).toNat) (0 : Int)) + 1)), true, ())
                                      else
                                        some (l16.1, l16.2.1, l16.2.2.1, l16.2.2.2.1, l16.2.2.2.2.1, l16.2.2.2.2.2.1, l16.2.2.2.2.2.2.1, l16.2.2.2.2.2.2.2.1, l16.2.2.2.2.2.2.2.2.1, l16.2.2.2.2.2.2.2.2.2.1, l16.2.2.2.2.2.2.2.2.2.2.1, l16.2.2.2.2.2.2.2.2.2.2.2.1, l16.2.2.2.2.2.2.2.2.2.2.2.2.1, l16.2.2.2.2.2.2.2.2.2.1, l16.2.2.2.2.2.2.2.2.2.1, (IntKind.wrap .i64 (l16.2.2.2.2.2.2.2.2.2.1 - 1)), (l16.2.2.2.2.1.getD ((IntKind.wrap .i64 (l16.2.2.2.2.2.2.2.2.2.1 - 1)).toNat) (0 : Int)), (IntKind.wrap .i64 ((l16.2.2.2.2.1.getD ((IntKind.wrap .i64 (l16.2.2.2.2.2.2.2.2.2.1 - 1)).toNat) (0 : Int)) + 1)), l16.2.2.2.2.2.2.2.2.2.1, (IntKind.wrap .i64 (l16.2.2.2.2.2.2.2.2.2.1 - 1)), (l16.2.2.2.2.2.1.getD ((IntKind.wrap .i64 (l16.2.2.2.2.2.2.2.2.2.1 - 1)).toNat) (0 : Int)), (IntKind.wrap .i64 ((l16.2.2.2.2.2.1.getD ((IntKind.wrap .i64 (l16.2.2.2.2.2.2.2.2.2.1 - 1)).toNat) (0 : Int)) + 1)), l16.2.2.2.2.2.2.2.2.2.1, (IntKind.wrap .i64 ((l16.2.2.2.2.1.getD ((IntKind.wrap .i64 (l16.2.2.2.2.2.2.2.2.2.1 - 1)).toNat) (0 : Int)) + 1)), (IntKind.wrap .i64 ((l16.2.2.2.2.2.1.getD ((IntKind.wrap .i64 (l16.2.2.2.2.2.2.2.2.2.1 - 1)).toNat) (0 : Int)) + 1)), (decide ((IntKind.wrap .i64 ((l16.2.2.2.2.2.1.getD ((IntKind.wrap .i64 (l16.2.2.2.2.2.2.2.2.2.1 - 1)).toNat) (0 : Int)) + 1)) > l16.2.2.2.2.2.2.2.2.1)), ()) : Option ((PV S_string × PV S_string × PV S_string × PV S_impl_Part × PV S_int × PV S_int × PV (.int .i64) × PV (.int .i64) × PV (.int .i64) × PV (.int .i64) × PV (.int .i64) × PV (.int .i64) × PV .bool × PV (.int .i64) × PV (.int .i64) × PV (.int .i64) × PV (.int .i64) × PV (.int .i64) × PV (.int .i64) × PV (.int .i64) × PV (.int .i64) × PV (.int .i64) × PV (.int .i64) × PV (.int .i64) × PV (.int .i64) × PV .bool × Unit)))).bind fun j22 =>
                                  bif j22.2.2.2.2.2.2.2.2.2.2.2.2.2.2.2.2.2.2.2.2.2.2.2.2.2.1 then
                                    bif cutB j22.2.2.2.2.2.2.1 j22.2.2.2.2.2.2.2.2.2.2.2.2.2.2.2.2.2.2.2.2.2.2.1 j22.1.length then
                                      bif cutB j22.2.2.2.2.2.2.2.1 j22.2.2.2.2.2.2.2.2.2.2.2.2.2.2.2.2.2.2.2.2.2.2.2.1 j22.2.1.length then
                                        bif cutB j22.2.2.2.2.2.2.2.2.1 j22.2.2.2.2.2.2.2.2.2.2.2.2.2.2.2.2.2.2.2.2.2.2.2.2.1 j22.2.2.1.length then
                                          (f_I_kindOf (cutL j22.2.2.2.2.2.2.1 j22.2.2.2.2.2.2.2.2.2.2.2.2.2.2.2.2.2.2.2.2.2.2.1 j22.1) (cutL j22.2.2.2.2.2.2.2.1 j22.2.2.2.2.2.2.2.2.2.2.2.2.2.2.2.2.2.2.2.2.2.2.2.1 j22.2.1) (cutL j22.2.2.2.2.2.2.2.2.1 j22.2.2.2.2.2.2.2.2.2.2.2.2.2.2.2.2.2.2.2.2.2.2.2.2.1 j22.2.2.1)).bind fun r23 =>
                                            bif cutB j22.2.2.2.2.2.2.2.1 j22.2.2.2.2.2.2.2.2.2.2.2.2.2.2.2.2.2.2.2.2.2.2.2.1 j22.2.1.length then
                                              (f_slices_Clone_string (cutL j22.2.2.2.2.2.2.2.1 j22.2.2.2.2.2.2.2.2.2.2.2.2.2.2.2.2.2.2.2.2.2.2.2.1 j22.2.1)).bind fun r24 =>
                                                bif cutB j22.2.2.2.2.2.2.2.2.1 j22.2.2.2.2.2.2.2.2.2.2.2.2.2.2.2.2.2.2.2.2.2.2.2.2.1 j22.2.2.1.length then
                                                  (f_slices_Clone_string (cutL j22.2.2.2.2.2.2.2.2.1 j22.2.2.2.2.2.2.2.2.2.2.2.2.2.2.2.2.2.2.2.2.2.2.2.2.1 j22.2.2.1)).bind fun r25 =>
                                                    bif roomB (j22.2.2.2.1.length + [(r23.1.1, (j22.2.2.2.2.2.2.1, (j22.2.2.2.2.2.2.2.2.2.2.2.2.2.2.2.2.2.2.2.2.2.2.1, (r24.1.1, (r25.1.1, ())))))].length) then
                                                      some (j22.1, j22.2.1, j22.2.2.1, (j22.2.2.2.1 ++ [(r23.1.1, (j22.2.2.2.2.2.2.1, (j22.2.2.2.2.2.2.2.2.2.2.2.2.2.2.2.2.2.2.2.2.2.2.1, (r24.1.1, (r25.1.1, ())))))]), j22.2.2.2.2.1, j22.2.2.2.2.2.1, j22.2.2.2.2.2.2.1, j22.2.2.2.2.2.2.2.1, j22.2.2.2.2.2.2.2.2.1, j22.2.2.2.2.2.2.2.2.2.1, j22.2.2.2.2.2.2.2.2.2.2.1, j22.2.2.2.2.2.2.2.2.2.2.2.1, j22.2.2.2.2.2.2.2.2.2.2.2.2.1, j22.2.2.2.2.2.2.2.2.2.2.2.2.2.1, j22.2.2.2.2.2.2.2.2.2.2.2.2.2.2.1, j22.2.2.2.2.2.2.2.2.2.2.2.2.2.2.2.1, j22.2.2.2.2.2.2.2.2.2.2.2.2.2.2.2.2.1, j22.2.2.2.2.2.2.2.2.2.2.2.2.2.2.2.2.2.1, j22.2.2.2.2.2.2.2.2.2.2.2.2.2.2.2.2.2.2.1, j22.2.2.2.2.2.2.2.2.2.2.2.2.2.2.2.2.2.2.2.1, j22.2.2.2.2.2.2.2.2.2.2.2.2.2.2.2.2.2.2.2.2.1, j22.2.2.2.2.2.2.2.2.2.2.2.2.2.2.2.2.2.2.2.2.2.1, j22.2.2.2.2.2.2.2.2.2.2.2.2.2.2.2.2.2.2.2.2.2.2.1, j22.2.2.2.2.2.2.2.2.2.2.2.2.2.2.2.2.2.2.2.2.2.2.2.1, j22.2.2.2.2.2.2.2.2.2.2.2.2.2.2.2.2.2.2.2.2.2.2.2.2.1, ())
                                                    else
                                                      none
                                                else
                                                  none
                                            else
                                              none
                                        else
                                          none
                                      else
                                        none
                                    else
                                      none
                                  else
                                    some (j22.1, j22.2.1, j22.2.2.1, j22.2.2.2.1, j22.2.2.2.2.1, j22.2.2.2.2.2.1, j22.2.2.2.2.2.2.1, j22.2.2.2.2.2.2.2.1, j22.2.2.2.2.2.2.2.2.1, j22.2.2.2.2.2.2.2.2.2.1, j22.2.2.2.2.2.2.2.2.2.2.1, j22.2.2.2.2.2.2.2.2.2.2.2.1, j22.2.2.2.2.2.2.2.2.2.2.2.2.1, j22.2.2.2.2.2.2.2.2.2.2.2.2.2.1, j22.2.2.2.2.2.2.2.2.2.2.2.2.2.2.1, j22.2.2.2.2.2.2.2.2.2.2.2.2.2.2.2.1, j22.2.2.2.2.2.2.2.2.2.2.2.2.2.2.2.2.1, j22.2.2.2.2.2.2.2.2.2.2.2.2.2.2.2.2.2.1, j22.2.2.2.2.2.2.2.2.2.2.2.2.2.2.2.2.2.2.1, j22.2.2.2.2.2.2.2.2.2.2.2.2.2.2.2.2.2.2.2.1, j22.2.2.2.2.2.2.2.2.2.2.2.2.2.2.2.2.2.2.2.2.1, j22.2.2.2.2.2.2.2.2.2.2.2.2.2.2.2.2.2.2.2.2.2.1, j22.2.2.2.2.2.2.2.2.2.2.2.2.2.2.2.2.2.2.2.2.2.2.1, j22.2.2.2.2.2.2.2.2.2.2.2.2.2.2.2.2.2.2.2.2.2.2.2.1, j22.2.2.2.2.2.2.2.2.2.2.2.2.2.2.2.2.2.2.2.2.2.2.2.2.1, ()) : Option ((PV S_string × PV S_string × PV S_string × PV S_impl_Part × PV S_int × PV S_int × PV (.int .i64) × PV (.int .i64) × PV (.int .i64) × PV (.int .i64) × PV (.int .i64) × PV (.int .i64) × PV .bool × PV (.int .i64) × PV (.int .i64) × PV (.int .i64) × PV (.int .i64) × PV (.int .i64) × PV (.int .i64) × PV (.int .i64) × PV (.int .i64) × PV (.int .i64) × PV (.int .i64) × PV (.int .i64) × PV (.int .i64) × Unit)))).bind fun j26 =>
                              some (j26.1, j26.2.1, j26.2.2.1, j26.2.2.2.1, j26.2.2.2.2.1, j26.2.2.2.2.2.1, j26.2.2.2.2.2.2.2.2.2.2.2.2.2.2.2.2.2.2.2.2.2.2.1, j26.2.2.2.2.2.2.2.2.2.2.2.2.2.2.2.2.2.2.2.2.2.2.2.1, j26.2.2.2.2.2.2.2.2.2.2.2.2.2.2.2.2.2.2.2.2.2.2.2.2.1, (IntKind.wrap .i64 (j26.2.2.2.2.2.2.2.2.2.1 - 1)), ())
                          else
                            none
                        else
                          none
                  else
                    none
                else
                  none
            else
              none
        else
          none : Option ((PV S_string × PV S_string × PV S_string × PV S_impl_Part × PV S_int × PV S_int × PV (.int .i64) × PV (.int .i64) × PV (.int .i64) × PV (.int .i64) × Unit)))).bind fun j27 =>
      some (.inl (j27.1, j27.2.1, j27.2.2.1, j27.2.2.2.1, j27.2.2.2.2.1, j27.2.2.2.2.2.1, j27.2.2.2.2.2.2.1, j27.2.2.2.2.2.2.2.1, j27.2.2.2.2.2.2.2.2.1, (IntKind.wrap .i64 (j27.2.2.2.2.2.2.2.2.2.1 + 1)), ()))
  else
    some (.inr (t3, t4, t5, t7, t10, t11, t12, ()))
noncomputable def w_I_partsOf_5 : PV S_string × PV S_string × PV S_string × PV S_impl_Part × PV S_int × PV S_int × PV (.int .i64) × PV (.int .i64) × PV (.int .i64) × PV (.int .i64) × Unit → Option ((PV S_string × PV S_string × PV S_string × PV S_impl_Part × PV (.int .i64) × PV (.int .i64) × PV (.int .i64) × Unit)) := fix fun d => b_I_partsOf_5 d.1 d.2.1 d.2.2.1 d.2.2.2.1 d.2.2.2.2.1 d.2.2.2.2.2.1 d.2.2.2.2.2.2.1 d.2.2.2.2.2.2.2.1 d.2.2.2.2.2.2.2.2.1 d.2.2.2.2.2.2.2.2.2.1
noncomputable def lp_I_partsOf_5 : Lp := ⟨⟨[], [3, 4, 5, 7, 8, 9, 10, 11, 12, 13, 14, 36, 37, 38, 39, 40, 60, 61, 62, 63, 64, 65, 66, 67, 68, 69, 70, 73, 74, 75, 76, 77, 78, 79, 80, 81, 82, 83], []⟩, sh_I_partsOf_5, o_I_partsOf_5, fun d => b_I_partsOf_5 d.1 d.2.1 d.2.2.1 d.2.2.2.1 d.2.2.2.2.1 d.2.2.2.2.2.1 d.2.2.2.2.2.2.1 d.2.2.2.2.2.2.2.1 d.2.2.2.2.2.2.2.2.1 d.2.2.2.2.2.2.2.2.2.1⟩
noncomputable def pl_I_partsOf : Plan := ⟨[(6, o_I_partsOf_6)], [(10, lp_I_partsOf_10), (5, lp_I_partsOf_5)], 1, 0⟩
noncomputable def f_I_partsOf (t0 : PV S_string) (t1 : PV S_string) (t2 : PV S_string) : Option (PVs [S_impl_Part] × PVs []) :=
  (f_I_mates t0 t1).bind fun r3 =>
    (f_I_mates t0 t2).bind fun r4 =>
      (w_I_partsOf_5 (t0, t1, t2, ([] : PV S_impl_Part), r3.1.1, r4.1.1, 0, 0, 0, 0, ())).bind fun l29 =>
        ((
            ((
                bif (decide ((l29.1.length : Int) > l29.2.2.2.2.1)) then
                  some (l29.1, l29.2.1, l29.2.2.1, l29.2.2.2.1, l29.2.2.2.2.1, l29.2.2.2.2.2.1, l29.2.2.2.2.2.2.1, l29.1, (l29.1.length : Int), l29.2.1, (l29.2.1.length : Int), l29.2.2.1, (l29.2.2.1.length : Int), (l29.1.length : Int), (l29.2.1.length : Int), (l29.2.2.1.length : Int), true, ())
                else
                  bif (decide ((l29.2.1.length : Int) > l29.2.2.2.2.2.1)) then
                    some (l29.1, l29.2.1, l29.2.2.1, l29.2.2.2.1, l29.2.2.2.2.1, l29.2.2.2.2.2.1, l29.2.2.2.2.2.2.1, l29.1, (l29.1.length : Int), l29.2.1, (l29.2.1.length : Int), l29.2.2.1, (l29.2.2.1.length : Int), (l29.1.length : Int), (l29.2.1.length : Int), (l29.2.2.1.length : Int), true, ())
                  else
                    some (l29.1, l29.2.1, l29.2.2.1, l29.2.2.2.1, l29.2.2.2.2.1, l29.2.2.2.2.2.1, l29.2.2.2.2.2.2.1, l29.1, (l29.1.length : Int), l29.2.1, (l29.2.1.length : Int), l29.2.2.1, (l29.2.2.1.length : Int), (l29.1.length : Int), (l29.2.1.length : Int), (l29.2.2.1.length : Int), (decide ((l29.2.2.1.length : Int) > l29.2.2.2.2.2.2.1)), ()) : Option ((PV S_string × PV S_string × PV S_string × PV S_impl_Part × PV (.int .i64) × PV (.int .i64) × PV (.int .i64) × PV S_string × PV (.int .i64) × PV S_string × PV (.int .i64) × PV S_string × PV (.int .i64) × PV (.int .i64) × PV (.int .i64) × PV (.int .i64) × PV .bool × Unit)))).bind fun j39 =>
              bif j39.2.2.2.2.2.2.2.2.2.2.2.2.2.2.2.2.1 then
                bif cutB j39.2.2.2.2.1 j39.2.2.2.2.2.2.2.2.2.2.2.2.2.1 j39.1.length then
                  bif cutB j39.2.2.2.2.2.1 j39.2.2.2.2.2.2.2.2.2.2.2.2.2.2.1 j39.2.1.length then
                    bif cutB j39.2.2.2.2.2.2.1 j39.2.2.2.2.2.2.2.2.2.2.2.2.2.2.2.1 j39.2.2.1.length then
                      (f_I_kindOf (cutL j39.2.2.2.2.1 j39.2.2.2.2.2.2.2.2.2.2.2.2.2.1 j39.1) (cutL j39.2.2.2.2.2.1 j39.2.2.2.2.2.2.2.2.2.2.2.2.2.2.1 j39.2.1) (cutL j39.2.2.2.2.2.2.1 j39.2.2.2.2.2.2.2.2.2.2.2.2.2.2.2.1 j39.2.2.1)).bind fun r40 =>
                        bif cutB j39.2.2.2.2.2.1 j39.2.2.2.2.2.2.2.2.2.2.2.2.2.2.1 j39.2.1.length then
                          (f_slices_Clone_string (cutL j39.2.2.2.2.2.1 j39.2.2.2.2.2.2.2.2.2.2.2.2.2.2.1 j39.2.1)).bind fun r41 =>
                            bif cutB j39.2.2.2.2.2.2.1 j39.2.2.2.2.2.2.2.2.2.2.2.2.2.2.2.1 j39.2.2.1.length then
                              (f_slices_Clone_string (cutL j39.2.2.2.2.2.2.1 j39.2.2.2.2.2.2.2.2.2.2.2.2.2.2.2.1 j39.2.2.1)).bind fun r42 =>
                                bif roomB (j39.2.2.2.1.length + [(r40.1.1, (j39.2.2.2.2.1, (j39.2.2.2.2.2.2.2.2.2.2.2.2.2.1, (r41.1.1, (r42.1.1, ())))))].length) then
                                  some (j39.1, j39.2.1, j39.2.2.1, (j39.2.2.2.1 ++ [(r40.1.1, (j39.2.2.2.2.1, (j39.2.2.2.2.2.2.2.2.2.2.2.2.2.1, (r41.1.1, (r42.1.1, ())))))]), j39.2.2.2.2.1, j39.2.2.2.2.2.1, j39.2.2.2.2.2.2.1, j39.2.2.2.2.2.2.2.1, j39.2.2.2.2.2.2.2.2.1, j39.2.2.2.2.2.2.2.2.2.1, j39.2.2.2.2.2.2.2.2.2.2.1, j39.2.2.2.2.2.2.2.2.2.2.2.1, j39.2.2.2.2.2.2.2.2.2.2.2.2.1, j39.2.2.2.2.2.2.2.2.2.2.2.2.2.1, j39.2.2.2.2.2.2.2.2.2.2.2.2.2.2.1, j39.2.2.2.2.2.2.2.2.2.2.2.2.2.2.2.1, ())
                                else
                                  none
                            else
                              none
                        else
                          none
                    else
                      none
                  else
                    none
                else
                  none
              else
                some (j39.1, j39.2.1, j39.2.2.1, j39.2.2.2.1, j39.2.2.2.2.1, j39.2.2.2.2.2.1, j39.2.2.2.2.2.2.1, j39.2.2.2.2.2.2.2.1, j39.2.2.2.2.2.2.2.2.1, j39.2.2.2.2.2.2.2.2.2.1, j39.2.2.2.2.2.2.2.2.2.2.1, j39.2.2.2.2.2.2.2.2.2.2.2.1, j39.2.2.2.2.2.2.2.2.2.2.2.2.1, j39.2.2.2.2.2.2.2.2.2.2.2.2.2.1, j39.2.2.2.2.2.2.2.2.2.2.2.2.2.2.1, j39.2.2.2.2.2.2.2.2.2.2.2.2.2.2.2.1, ()) : Option ((PV S_string × PV S_string × PV S_string × PV S_impl_Part × PV (.int .i64) × PV (.int .i64) × PV (.int .i64) × PV S_string × PV (.int .i64) × PV S_string × PV (.int .i64) × PV S_string × PV (.int .i64) × PV (.int .i64) × PV (.int .i64) × PV (.int .i64) × Unit)))).bind fun j43 =>
          some ((j43.2.2.2.1, ()), ())
noncomputable def ct_I_partsOf : Ct := ⟨[(.bor, S_string), (.bor, S_string), (.bor, S_string)], [(S_impl_Part, (.row (.pr .b (.pr .b (.pr .b (.pr (.row .b) (.pr (.row .b) .b)))))))], fun x => f_I_partsOf x.1 x.2.1 x.2.2.1⟩
noncomputable def cx_I_partsOf : Cx := ⟨tab, arrs, [(97, ct_slices_Clone_string), (163, ct_I_mates), (165, ct_I_kindOf)], [], gl, [(52, 164, Try.f164, pl_I_partsOf_164_52), (101, 164, Try.f164, pl_I_partsOf_164_101), (111, 164, Try.f164, pl_I_partsOf_164_111)]⟩
theorem eb_I_partsOf_5 (t3 : PV S_string) (t4 : PV S_string) (t5 : PV S_string) (t7 : PV S_impl_Part) (t8 : PV S_int) (t9 : PV S_int) (t10 : PV (.int .i64)) (t11 : PV (.int .i64)) (t12 : PV (.int .i64)) (t14 : PV (.int .i64)) : denK cx_I_partsOf (rcN cx_I_partsOf 1) pl_I_partsOf 0 ((loopsOf (bodyOf Try.f100)).getD 0 .skip) (fillS sh_I_partsOf_5 (t3, t4, t5, t7, t8, t9, t10, t11, t12, t14, ())) (roundK 0 lp_I_partsOf_5) = b_I_partsOf_5 t3 t4 t5 t7 t8 t9 t10 t11 t12 t14 := by kernel_rfl
theorem eb_I_partsOf_10 (t3 : PV S_string) (t4 : PV S_string) (t5 : PV S_string) (t7 : PV S_impl_Part) (t8 : PV S_int) (t9 : PV S_int) (t10 : PV (.int .i64)) (t11 : PV (.int .i64)) (t12 : PV (.int .i64)) (t15 : PV (.int .i64)) (t37 : PV (.int .i64)) (t39 : PV (.int .i64)) (t40 : PV .bool) : denK cx_I_partsOf (rcN cx_I_partsOf 1) pl_I_partsOf 0 ((loopsOf (bodyOf Try.f100)).getD 1 .skip) (fillS sh_I_partsOf_10 (t3, t4, t5, t7, t8, t9, t10, t11, t12, t15, t37, t39, t40, ())) (roundK 0 lp_I_partsOf_10) = b_I_partsOf_10 t3 t4 t5 t7 t8 t9 t10 t11 t12 t15 t37 t39 t40 := by kernel_rfl
theorem ef_I_partsOf (t0 : PV S_string) (t1 : PV S_string) (t2 : PV S_string) : denF cx_I_partsOf 1 pl_I_partsOf Try.f100.ntmps (bodyOf Try.f100) Try.f100.results.toList [(.bor, S_string), (.bor, S_string), (.bor, S_string)] [(S_impl_Part, (.row (.pr .b (.pr .b (.pr .b (.pr (.row .b) (.pr (.row .b) .b)))))))] (t0, t1, t2, ()) = f_I_partsOf t0 t1 t2 := by kernel_rfl
theorem ok_I_partsOf : FnOk gl Try.prog 100 ct_I_partsOf :=
  fnOk (cx := cx_I_partsOf) (pl := pl_I_partsOf) (dp := 1) (ok0_of tabOk (by unfold ArrOk; kernel_rfl) mix ⟨ok_slices_Clone_string, ok_I_mates, ok_I_kindOf, trivial⟩ trivial (hsi := ⟨⟨Try.func164, by kernel_rfl, (by rw [show loopsOf (bodyOf Try.f164) = [] from by kernel_rfl]; exact trivial)⟩, ⟨Try.func164, by kernel_rfl, (by rw [show loopsOf (bodyOf Try.f164) = [] from by kernel_rfl]; exact trivial)⟩, ⟨Try.func164, by kernel_rfl, (by rw [show loopsOf (bodyOf Try.f164) = [] from by kernel_rfl]; exact trivial)⟩, trivial⟩)) Try.func100 (by kernel_rfl) (by kernel_rfl) (by kernel_rfl)
    (by rw [show loopsOf (bodyOf Try.f100) = [((loopsOf (bodyOf Try.f100)).getD 0 .skip), ((loopsOf (bodyOf Try.f100)).getD 1 .skip)] from by kernel_rfl]; exact ⟨(by rw [show lookup pl_I_partsOf.loops (firstId ((loopsOf (bodyOf Try.f100)).getD 0 .skip)) = some lp_I_partsOf_5 from by kernel_rfl]; exact fun d z h => (eb_I_partsOf_5 d.1 d.2.1 d.2.2.1 d.2.2.2.1 d.2.2.2.2.1 d.2.2.2.2.2.1 d.2.2.2.2.2.2.1 d.2.2.2.2.2.2.2.1 d.2.2.2.2.2.2.2.2.1 d.2.2.2.2.2.2.2.2.2.1).trans h), (by rw [show lookup pl_I_partsOf.loops (firstId ((loopsOf (bodyOf Try.f100)).getD 1 .skip)) = some lp_I_partsOf_10 from by kernel_rfl]; exact fun d z h => (eb_I_partsOf_10 d.1 d.2.1 d.2.2.1 d.2.2.2.1 d.2.2.2.2.1 d.2.2.2.2.2.1 d.2.2.2.2.2.2.1 d.2.2.2.2.2.2.2.1 d.2.2.2.2.2.2.2.2.1 d.2.2.2.2.2.2.2.2.2.1 d.2.2.2.2.2.2.2.2.2.2.1 d.2.2.2.2.2.2.2.2.2.2.2.1 d.2.2.2.2.2.2.2.2.2.2.2.2.1).trans h), trivial⟩) (fun x => ef_I_partsOf x.1 x.2.1 x.2.2.1)
noncomputable def o_I_PartsOf_2 : List Out := [⟨.normal, ⟨[], [0, 1, 2, 20], []⟩, mkSh 25 [(0, .val S_string .b), (1, .val S_string .b), (2, .val S_string .b), (20, .val .bool .b)]⟩]
noncomputable def pl_I_PartsOf : Plan := ⟨[(2, o_I_PartsOf_2)], [], 0, 0⟩
noncomputable def f_I_PartsOf (t0 : PV S_string) (t1 : PV S_string) (t2 : PV S_string) : Option (PVs [S_impl_Part, .bool] × PVs []) :=
  ((
      (f_I_goodLines t0).bind fun r8 =>
        bif (!r8.1.1) then
          some (t0, t1, t2, true, ())
        else
          (f_I_goodLines t1).bind fun r9 =>
            bif (!r9.1.1) then
              some (t0, t1, t2, true, ())
            else
              (f_I_goodLines t2).bind fun r10 =>
                some (t0, t1, t2, (!r10.1.1), ()) : Option ((PV S_string × PV S_string × PV S_string × PV .bool × Unit)))).bind fun j11 =>
    bif j11.2.2.2.1 then
      some (([], false, ()), ())
    else
      (f_I_partsOf j11.1 j11.2.1 j11.2.2.1).bind fun r12 =>
        some ((r12.1.1, true, ()), ())
noncomputable def ct_I_PartsOf : Ct := ⟨[(.bor, S_string), (.bor, S_string), (.bor, S_string)], [(S_impl_Part, .b), (.bool, .b)], fun x => f_I_PartsOf x.1 x.2.1 x.2.2.1⟩
noncomputable def cx_I_PartsOf : Cx := ⟨tab, arrs, [(96, ct_I_goodLines), (100, ct_I_partsOf)], [], gl, []⟩
theorem ef_I_PartsOf (t0 : PV S_string) (t1 : PV S_string) (t2 : PV S_string) : denF cx_I_PartsOf 0 pl_I_PartsOf Try.f33.ntmps (bodyOf Try.f33) Try.f33.results.toList [(.bor, S_string), (.bor, S_string), (.bor, S_string)] [(S_impl_Part, .b), (.bool, .b)] (t0, t1, t2, ()) = f_I_PartsOf t0 t1 t2 := by kernel_rfl
theorem ok_I_PartsOf : FnOk gl Try.prog 33 ct_I_PartsOf :=
  fnOk (cx := cx_I_PartsOf) (pl := pl_I_PartsOf) (dp := 0) (ok0_of tabOk (by unfold ArrOk; kernel_rfl) mix ⟨ok_I_goodLines, ok_I_partsOf, trivial⟩ trivial) Try.func33 (by kernel_rfl) (by kernel_rfl) (by kernel_rfl)
    (by rw [show loopsOf (bodyOf Try.f33) = [] from by kernel_rfl]; exact trivial) (fun x => ef_I_PartsOf x.1 x.2.1 x.2.2.1)
noncomputable def o_I_clashes_7 : List Out := [⟨.normal, ⟨[], [3, 6, 7, 8], []⟩, mkSh 19 [(3, .val (.int .i64) .b), (6, .val S_impl_Part .b), (7, .val (.int .i64) .b), (8, .val (.int .i64) .b)]⟩]
noncomputable def sh_I_clashes_3 : List Sh := mkSh 19 [(3, .val (.int .i64) .b), (6, .val S_impl_Part .b), (7, .val (.int .i64) .b), (8, .val (.int .i64) .b)]
noncomputable def o_I_clashes_3 : List Out := [⟨.exit 0, ⟨[], [3], []⟩, mkSh 19 [(3, .val (.int .i64) .b)]⟩]
noncomputable def b_I_clashes_3 (t3 : PV (.int .i64)) (t6 : PV S_impl_Part) (t7 : PV (.int .i64)) (t8 : PV (.int .i64)) : Option ((PV (.int .i64) × PV S_impl_Part × PV (.int .i64) × PV (.int .i64) × Unit) ⊕ ((PV (.int .i64) × Unit))) :=
  bif (decide (t8 < t7)) then
    ((
        bif inB t8 t6.length then
          bif (((t6.getD t8.toNat (dflt Y_impl_Part)).1) == 5) then
            some ((IntKind.wrap .i64 (t3 + 1)), t6, t7, t8, ())
          else
            some (t3, t6, t7, t8, ())
        else
          none : Option ((PV (.int .i64) × PV S_impl_Part × PV (.int .i64) × PV (.int .i64) × Unit)))).bind fun j1 =>
      some (.inl (j1.1, j1.2.1, j1.2.2.1, (IntKind.wrap .i64 (j1.2.2.2.1 + 1)), ()))
  else
    some (.inr (t3, ()))
noncomputable def w_I_clashes_3 : PV (.int .i64) × PV S_impl_Part × PV (.int .i64) × PV (.int .i64) × Unit → Option ((PV (.int .i64) × Unit)) := fix fun d => b_I_clashes_3 d.1 d.2.1 d.2.2.1 d.2.2.2.1
noncomputable def lp_I_clashes_3 : Lp := ⟨⟨[], [3, 6, 7, 8], []⟩, sh_I_clashes_3, o_I_clashes_3, fun d => b_I_clashes_3 d.1 d.2.1 d.2.2.1 d.2.2.2.1⟩
noncomputable def pl_I_clashes : Plan := ⟨[(7, o_I_clashes_7)], [(3, lp_I_clashes_3)], 0, 0⟩
noncomputable def f_I_clashes (t0 : PV S_impl_Part) : Option (PVs [(.int .i64)] × PVs []) :=
  (w_I_clashes_3 (0, t0, (t0.length : Int), 0, ())).bind fun l3 =>
    some ((l3.1, ()), ())
noncomputable def ct_I_clashes : Ct := ⟨[(.bor, S_impl_Part)], [((.int .i64), .b)], fun x => f_I_clashes x.1⟩
noncomputable def cx_I_clashes : Cx := ⟨tab, arrs, [], [], gl, []⟩
theorem eb_I_clashes_3 (t3 : PV (.int .i64)) (t6 : PV S_impl_Part) (t7 : PV (.int .i64)) (t8 : PV (.int .i64)) : denK cx_I_clashes (rcN cx_I_clashes 0) pl_I_clashes 0 ((loopsOf (bodyOf Try.f112)).getD 0 .skip) (fillS sh_I_clashes_3 (t3, t6, t7, t8, ())) (roundK 0 lp_I_clashes_3) = b_I_clashes_3 t3 t6 t7 t8 := by kernel_rfl
theorem ef_I_clashes (t0 : PV S_impl_Part) : denF cx_I_clashes 0 pl_I_clashes Try.f112.ntmps (bodyOf Try.f112) Try.f112.results.toList [(.bor, S_impl_Part)] [((.int .i64), .b)] (t0, ()) = f_I_clashes t0 := by kernel_rfl
theorem ok_I_clashes : FnOk gl Try.prog 112 ct_I_clashes :=
  fnOk (cx := cx_I_clashes) (pl := pl_I_clashes) (dp := 0) (ok0_of tabOk (by unfold ArrOk; kernel_rfl) mix trivial trivial) Try.func112 (by kernel_rfl) (by kernel_rfl) (by kernel_rfl)
    (by rw [show loopsOf (bodyOf Try.f112) = [((loopsOf (bodyOf Try.f112)).getD 0 .skip)] from by kernel_rfl]; exact ⟨(by rw [show lookup pl_I_clashes.loops (firstId ((loopsOf (bodyOf Try.f112)).getD 0 .skip)) = some lp_I_clashes_3 from by kernel_rfl]; exact fun d z h => (eb_I_clashes_3 d.1 d.2.1 d.2.2.1 d.2.2.2.1).trans h), trivial⟩) (fun x => ef_I_clashes x.1)
noncomputable def o_I_Merge_113_11 : List Out := [⟨.normal, ⟨[], [1, 5, 9, 10, 11], []⟩, mkSh 67 [(8, .val S_impl_Part .b), (24, .val .bool .b), (25, .val S_impl_Part .b), (36, .val S_string (.row .b)), (40, .val S_impl_Part .b), (41, .val (.int .i64) .b), (42, .val (.int .i64) .b)]⟩]
noncomputable def o_I_Merge_3 : List Out := [⟨.normal, ⟨[], [8, 24], []⟩, mkSh 31 [(8, .val S_impl_Part .b), (24, .val .bool .b)]⟩]
noncomputable def sh_I_Merge_113_3 : List Sh := mkSh 67 [(8, .val S_impl_Part .b), (24, .val .bool .b), (25, .val S_impl_Part .b), (36, .val S_string (.row .b)), (40, .val S_impl_Part .b), (41, .val (.int .i64) .b), (42, .val (.int .i64) .b)]
noncomputable def o_I_Merge_113_3 : List Out := [⟨.exit 0, ⟨[], [5], []⟩, mkSh 67 [(8, .val S_impl_Part .b), (24, .val .bool .b), (25, .val S_impl_Part .b), (36, .val S_string (.row .b))]⟩]
noncomputable def b_I_Merge_113_3 (t8 : PV S_impl_Part) (t24 : PV .bool) (t25 : PV S_impl_Part) (t36 : PV S_string) (t40 : PV S_impl_Part) (t41 : PV (.int .i64)) (t42 : PV (.int .i64)) : Option ((PV S_impl_Part × PV .bool × PV S_impl_Part × PV S_string × PV S_impl_Part × PV (.int .i64) × PV (.int .i64) × Unit) ⊕ ((PV S_impl_Part × PV .bool × PV S_impl_Part × PV S_string × Unit))) :=
  bif (decide (t42 < t41)) then
    ((
        bif inB t42 t40.length then
          bif (((t40.getD t42.toNat (dflt Y_impl_Part)).1) == 5) then
            none
          else
            bif (((t40.getD t42.toNat (dflt Y_impl_Part)).1) == 3) then
              bif roomB (t36.length + ((((((t40.getD t42.toNat (dflt Y_impl_Part)).2).2).2).2).1).length) then
                some (t8, t24, t25, (t36 ++ ((((((t40.getD t42.toNat (dflt Y_impl_Part)).2).2).2).2).1)), t40, t41, t42, ())
              else
                none
            else
              bif roomB (t36.length + (((((t40.getD t42.toNat (dflt Y_impl_Part)).2).2).2).1).length) then
                some (t8, t24, t25, (t36 ++ (((((t40.getD t42.toNat (dflt Y_impl_Part)).2).2).2).1)), t40, t41, t42, ())
              else
                none
        else
          none : Option ((PV S_impl_Part × PV .bool × PV S_impl_Part × PV S_string × PV S_impl_Part × PV (.int .i64) × PV (.int .i64) × Unit)))).bind fun j8 =>
      some (.inl (j8.1, j8.2.1, j8.2.2.1, j8.2.2.2.1, j8.2.2.2.2.1, j8.2.2.2.2.2.1, (IntKind.wrap .i64 (j8.2.2.2.2.2.2.1 + 1)), ()))
  else
    some (.inr (t8, t24, t25, t36, ()))
noncomputable def w_I_Merge_113_3 : PV S_impl_Part × PV .bool × PV S_impl_Part × PV S_string × PV S_impl_Part × PV (.int .i64) × PV (.int .i64) × Unit → Option ((PV S_impl_Part × PV .bool × PV S_impl_Part × PV S_string × Unit)) := fix fun d => b_I_Merge_113_3 d.1 d.2.1 d.2.2.1 d.2.2.2.1 d.2.2.2.2.1 d.2.2.2.2.2.1 d.2.2.2.2.2.2.1
noncomputable def lp_I_Merge_113_3 : Lp := ⟨⟨[], [1, 5, 9, 10, 11], []⟩, sh_I_Merge_113_3, o_I_Merge_113_3, fun d => b_I_Merge_113_3 d.1 d.2.1 d.2.2.1 d.2.2.2.1 d.2.2.2.2.1 d.2.2.2.2.2.1 d.2.2.2.2.2.2.1⟩
noncomputable def pl_I_Merge_113 : Plan := ⟨[(11, o_I_Merge_113_11)], [(3, lp_I_Merge_113_3)], 0, 31⟩
noncomputable def pl_I_Merge : Plan := ⟨[(3, o_I_Merge_3)], [], 1, 0⟩
noncomputable def f_I_Merge (t0 : PV S_string) (t1 : PV S_string) (t2 : PV S_string) : Option (PVs [S_string, .bool] × PVs []) :=
  (f_I_PartsOf t0 t1 t2).bind fun r2 =>
    ((
        bif (!r2.1.2.1) then
          some (r2.1.1, true, ())
        else
          (f_I_clashes r2.1.1).bind fun r6 =>
            some (r2.1.1, (decide (r6.1.1 > 0)), ()) : Option ((PV S_impl_Part × PV .bool × Unit)))).bind fun j7 =>
      bif j7.2.1 then
        some (([], false, ()), ())
      else
        (w_I_Merge_113_3 (j7.1, j7.2.1, j7.1, ([] : PV S_string), j7.1, (j7.1.length : Int), 0, ())).bind fun l12 =>
          (f_I_goodLines l12.2.2.2.1).bind fun r16 =>
            bif (!r16.1.1) then
              some (([], false, ()), ())
            else
              some ((l12.2.2.2.1, true, ()), ())
noncomputable def ct_I_Merge : Ct := ⟨[(.bor, S_string), (.bor, S_string), (.bor, S_string)], [(S_string, (.row .b)), (.bool, .b)], fun x => f_I_Merge x.1 x.2.1 x.2.2.1⟩
noncomputable def cx_I_Merge : Cx := ⟨tab, arrs, [(33, ct_I_PartsOf), (96, ct_I_goodLines), (112, ct_I_clashes)], [(113, Try.f113, pl_I_Merge_113)], gl, []⟩
theorem eb_I_Merge_113_3 (t8 : PV S_impl_Part) (t24 : PV .bool) (t25 : PV S_impl_Part) (t36 : PV S_string) (t40 : PV S_impl_Part) (t41 : PV (.int .i64)) (t42 : PV (.int .i64)) : denK cx_I_Merge (rcN cx_I_Merge 0) pl_I_Merge_113 31 ((loopsOf (bodyOf Try.f113)).getD 0 .skip) (fillS sh_I_Merge_113_3 (t8, t24, t25, t36, t40, t41, t42, ())) (roundK 31 lp_I_Merge_113_3) = b_I_Merge_113_3 t8 t24 t25 t36 t40 t41 t42 := by kernel_rfl
theorem ef_I_Merge (t0 : PV S_string) (t1 : PV S_string) (t2 : PV S_string) : denF cx_I_Merge 1 pl_I_Merge Try.f48.ntmps (bodyOf Try.f48) Try.f48.results.toList [(.bor, S_string), (.bor, S_string), (.bor, S_string)] [(S_string, (.row .b)), (.bool, .b)] (t0, t1, t2, ()) = f_I_Merge t0 t1 t2 := by kernel_rfl
theorem ok_I_Merge : FnOk gl Try.prog 48 ct_I_Merge :=
  fnOk (cx := cx_I_Merge) (pl := pl_I_Merge) (dp := 1) (ok0_of tabOk (by unfold ArrOk; kernel_rfl) mix ⟨ok_I_PartsOf, ok_I_goodLines, ok_I_clashes, trivial⟩ ⟨⟨Try.func113, by kernel_rfl, (by rw [show loopsOf (bodyOf Try.f113) = [((loopsOf (bodyOf Try.f113)).getD 0 .skip)] from by kernel_rfl]; exact ⟨(by rw [show lookup pl_I_Merge_113.loops (firstId ((loopsOf (bodyOf Try.f113)).getD 0 .skip)) = some lp_I_Merge_113_3 from by kernel_rfl]; exact fun d z h => (eb_I_Merge_113_3 d.1 d.2.1 d.2.2.1 d.2.2.2.1 d.2.2.2.2.1 d.2.2.2.2.2.1 d.2.2.2.2.2.2.1).trans h), trivial⟩)⟩, trivial⟩) Try.func48 (by kernel_rfl) (by kernel_rfl) (by kernel_rfl)
    (by rw [show loopsOf (bodyOf Try.f48) = [] from by kernel_rfl]; exact trivial) (fun x => ef_I_Merge x.1 x.2.1 x.2.2.1)
noncomputable def pl_S_l1In : Plan := ⟨[], [], 0, 0⟩
noncomputable def f_S_l1In (t0 : PV (.int .i64)) (t1 : PV (.int .i64)) (t2 : PV (.int .i64)) : Option (PVs [.bool] × PVs []) :=
  bif (decide (t0 ≥ t1)) then
    some (((decide (t0 ≤ t2)), ()), ())
  else
    some ((false, ()), ())
noncomputable def ct_S_l1In : Ct := ⟨[(.bor, (.int .i64)), (.bor, (.int .i64)), (.bor, (.int .i64))], [(.bool, .b)], fun x => f_S_l1In x.1 x.2.1 x.2.2.1⟩
noncomputable def cx_S_l1In : Cx := ⟨tab, arrs, [], [], gl, []⟩
theorem ef_S_l1In (t0 : PV (.int .i64)) (t1 : PV (.int .i64)) (t2 : PV (.int .i64)) : denF cx_S_l1In 0 pl_S_l1In Try.f109.ntmps (bodyOf Try.f109) Try.f109.results.toList [(.bor, (.int .i64)), (.bor, (.int .i64)), (.bor, (.int .i64))] [(.bool, .b)] (t0, t1, t2, ()) = f_S_l1In t0 t1 t2 := by kernel_rfl
theorem ok_S_l1In : FnOk gl Try.prog 109 ct_S_l1In :=
  fnOk (cx := cx_S_l1In) (pl := pl_S_l1In) (dp := 0) (ok0_of tabOk (by unfold ArrOk; kernel_rfl) mix trivial trivial) Try.func109 (by kernel_rfl) (by kernel_rfl) (by kernel_rfl)
    (by rw [show loopsOf (bodyOf Try.f109) = [] from by kernel_rfl]; exact trivial) (fun x => ef_S_l1In x.1 x.2.1 x.2.2.1)
noncomputable def sh_S_l1Line_2 : List Sh := mkSh 18 [(0, .val .str .b), (3, .val (.int .i64) .b)]
noncomputable def o_S_l1Line_2 : List Out := [⟨.exit 0, ⟨[], [0], []⟩, mkSh 18 [(0, .val .str .b)]⟩, ⟨.ret, ⟨[], [2], []⟩, mkSh 18 [(2, .val .bool .b)]⟩]
noncomputable def b_S_l1Line_2 (t0 : PV .str) (t3 : PV (.int .i64)) : Option ((PV .str × PV (.int .i64) × Unit) ⊕ ((PV .str × Unit) ⊕ (PV .bool × Unit))) :=
  bif (decide (t3 < (IntKind.wrap .i64 ((t0.length : Int) - 1)))) then
    bif inB t3 t0.length then
      bif (((t0.getD t3.toNat 0).toNat : Int) == 10) then
        some (.inr (.inr (false, ())))
      else
        some (.inl (t0, (IntKind.wrap .i64 (t3 + 1)), ()))
    else
      none
  else
    some (.inr (.inl (t0, ())))
noncomputable def w_S_l1Line_2 : PV .str × PV (.int .i64) × Unit → Option ((PV .str × Unit) ⊕ (PV .bool × Unit)) := fix fun d => b_S_l1Line_2 d.1 d.2.1
noncomputable def lp_S_l1Line_2 : Lp := ⟨⟨[], [0, 3], []⟩, sh_S_l1Line_2, o_S_l1Line_2, fun d => b_S_l1Line_2 d.1 d.2.1⟩
noncomputable def pl_S_l1Line : Plan := ⟨[], [(2, lp_S_l1Line_2)], 0, 0⟩
noncomputable def f_S_l1Line (t0 : PV .str) : Option (PVs [.bool] × PVs []) :=
  (w_S_l1Line_2 (t0, 0, ())).bind fun x6 =>
    match x6 with
    | .inl l3 =>
      (f_S_l1In (l3.1.length : Int) 1 30).bind fun r4 =>
        some ((r4.1.1, ()), ())
    | .inr l5 =>
      some ((l5.1, ()), ())
noncomputable def ct_S_l1Line : Ct := ⟨[(.bor, .str)], [(.bool, .b)], fun x => f_S_l1Line x.1⟩
noncomputable def cx_S_l1Line : Cx := ⟨tab, arrs, [(109, ct_S_l1In)], [], gl, []⟩
theorem eb_S_l1Line_2 (t0 : PV .str) (t3 : PV (.int .i64)) : denK cx_S_l1Line (rcN cx_S_l1Line 0) pl_S_l1Line 0 ((loopsOf (bodyOf Try.f143)).getD 0 .skip) (fillS sh_S_l1Line_2 (t0, t3, ())) (roundK 0 lp_S_l1Line_2) = b_S_l1Line_2 t0 t3 := by kernel_rfl
theorem ef_S_l1Line (t0 : PV .str) : denF cx_S_l1Line 0 pl_S_l1Line Try.f143.ntmps (bodyOf Try.f143) Try.f143.results.toList [(.bor, .str)] [(.bool, .b)] (t0, ()) = f_S_l1Line t0 := by kernel_rfl
theorem ok_S_l1Line : FnOk gl Try.prog 143 ct_S_l1Line :=
  fnOk (cx := cx_S_l1Line) (pl := pl_S_l1Line) (dp := 0) (ok0_of tabOk (by unfold ArrOk; kernel_rfl) mix ⟨ok_S_l1In, trivial⟩ trivial) Try.func143 (by kernel_rfl) (by kernel_rfl) (by kernel_rfl)
    (by rw [show loopsOf (bodyOf Try.f143) = [((loopsOf (bodyOf Try.f143)).getD 0 .skip)] from by kernel_rfl]; exact ⟨(by rw [show lookup pl_S_l1Line.loops (firstId ((loopsOf (bodyOf Try.f143)).getD 0 .skip)) = some lp_S_l1Line_2 from by kernel_rfl]; exact fun d z h => (eb_S_l1Line_2 d.1 d.2.1).trans h), trivial⟩) (fun x => ef_S_l1Line x.1)
noncomputable def o_S_l1Good_5 : List Out := [⟨.normal, ⟨[], [0, 5, 6, 7, 26], []⟩, mkSh 31 [(0, .val S_string .b), (5, .val S_string .b), (6, .val (.int .i64) .b), (7, .val (.int .i64) .b), (26, .val .bool .b)]⟩]
noncomputable def sh_S_l1Good_2 : List Sh := mkSh 31 [(0, .val S_string .b), (5, .val S_string .b), (6, .val (.int .i64) .b), (7, .val (.int .i64) .b)]
noncomputable def o_S_l1Good_2 : List Out := [⟨.exit 0, ⟨[], [0], []⟩, mkSh 31 [(0, .val S_string .b)]⟩, ⟨.ret, ⟨[], [2], []⟩, mkSh 31 [(2, .val .bool .b)]⟩]
noncomputable def b_S_l1Good_2 (t0 : PV S_string) (t5 : PV S_string) (t6 : PV (.int .i64)) (t7 : PV (.int .i64)) : Option ((PV S_string × PV S_string × PV (.int .i64) × PV (.int .i64) × Unit) ⊕ ((PV S_string × Unit) ⊕ (PV .bool × Unit))) :=
  bif (decide (t7 < t6)) then
    bif inB t7 t5.length then
      ((
          (f_S_l1Line (t5.getD t7.toNat [])).bind fun r4 =>
            bif (!r4.1.1) then
              some (t0, t5, t6, t7, true, ())
            else
              bif (decide (t7 < (IntKind.wrap .i64 ((t0.length : Int) - 1)))) then
                (f_S_l1Ends (t5.getD t7.toNat [])).bind fun r5 =>
                  some (t0, t5, t6, t7, (!r5.1.1), ())
              else
                some (t0, t5, t6, t7, false, ()) : Option ((PV S_string × PV S_string × PV (.int .i64) × PV (.int .i64) × PV .bool × Unit)))).bind fun j6 =>
        bif j6.2.2.2.2.1 then
          some (.inr (.inr (false, ())))
        else
          some (.inl (j6.1, j6.2.1, j6.2.2.1, (IntKind.wrap .i64 (j6.2.2.2.1 + 1)), ()))
    else
      none
  else
    some (.inr (.inl (t0, ())))
noncomputable def w_S_l1Good_2 : PV S_string × PV S_string × PV (.int .i64) × PV (.int .i64) × Unit → Option ((PV S_string × Unit) ⊕ (PV .bool × Unit)) := fix fun d => b_S_l1Good_2 d.1 d.2.1 d.2.2.1 d.2.2.2.1
noncomputable def lp_S_l1Good_2 : Lp := ⟨⟨[], [0, 5, 6, 7, 16, 17, 18, 19, 20, 21, 22, 23, 24, 25], []⟩, sh_S_l1Good_2, o_S_l1Good_2, fun d => b_S_l1Good_2 d.1 d.2.1 d.2.2.1 d.2.2.2.1⟩
noncomputable def pl_S_l1Good : Plan := ⟨[(5, o_S_l1Good_5)], [(2, lp_S_l1Good_2)], 0, 0⟩
noncomputable def f_S_l1Good (t0 : PV S_string) : Option (PVs [.bool] × PVs []) :=
  (w_S_l1Good_2 (t0, t0, (t0.length : Int), 0, ())).bind fun x11 =>
    match x11 with
    | .inl l9 =>
      some (((decide ((l9.1.length : Int) ≤ 40)), ()), ())
    | .inr l10 =>
      some ((l10.1, ()), ())
noncomputable def ct_S_l1Good : Ct := ⟨[(.bor, S_string)], [(.bool, .b)], fun x => f_S_l1Good x.1⟩
noncomputable def cx_S_l1Good : Cx := ⟨tab, arrs, [(143, ct_S_l1Line), (154, ct_S_l1Ends)], [], gl, []⟩
theorem eb_S_l1Good_2 (t0 : PV S_string) (t5 : PV S_string) (t6 : PV (.int .i64)) (t7 : PV (.int .i64)) : denK cx_S_l1Good (rcN cx_S_l1Good 0) pl_S_l1Good 0 ((loopsOf (bodyOf Try.f92)).getD 0 .skip) (fillS sh_S_l1Good_2 (t0, t5, t6, t7, ())) (roundK 0 lp_S_l1Good_2) = b_S_l1Good_2 t0 t5 t6 t7 := by kernel_rfl
theorem ef_S_l1Good (t0 : PV S_string) : denF cx_S_l1Good 0 pl_S_l1Good Try.f92.ntmps (bodyOf Try.f92) Try.f92.results.toList [(.bor, S_string)] [(.bool, .b)] (t0, ()) = f_S_l1Good t0 := by kernel_rfl
theorem ok_S_l1Good : FnOk gl Try.prog 92 ct_S_l1Good :=
  fnOk (cx := cx_S_l1Good) (pl := pl_S_l1Good) (dp := 0) (ok0_of tabOk (by unfold ArrOk; kernel_rfl) mix ⟨ok_S_l1Line, ok_S_l1Ends, trivial⟩ trivial) Try.func92 (by kernel_rfl) (by kernel_rfl) (by kernel_rfl)
    (by rw [show loopsOf (bodyOf Try.f92) = [((loopsOf (bodyOf Try.f92)).getD 0 .skip)] from by kernel_rfl]; exact ⟨(by rw [show lookup pl_S_l1Good.loops (firstId ((loopsOf (bodyOf Try.f92)).getD 0 .skip)) = some lp_S_l1Good_2 from by kernel_rfl]; exact fun d z h => (eb_S_l1Good_2 d.1 d.2.1 d.2.2.1 d.2.2.2.1).trans h), trivial⟩) (fun x => ef_S_l1Good x.1)
noncomputable def pl_S_l11Three : Plan := ⟨[], [], 0, 0⟩
noncomputable def f_S_l11Three (t0 : PV S_string) (t1 : PV S_string) (t2 : PV S_string) : Option (PVs [.bool] × PVs []) :=
  (f_S_l1Good t0).bind fun r1 =>
    bif r1.1.1 then
      (f_S_l1Good t1).bind fun r2 =>
        bif r2.1.1 then
          (f_S_l1Good t2).bind fun r3 =>
            some ((r3.1.1, ()), ())
        else
          some ((false, ()), ())
    else
      some ((false, ()), ())
noncomputable def ct_S_l11Three : Ct := ⟨[(.bor, S_string), (.bor, S_string), (.bor, S_string)], [(.bool, .b)], fun x => f_S_l11Three x.1 x.2.1 x.2.2.1⟩
noncomputable def cx_S_l11Three : Cx := ⟨tab, arrs, [(92, ct_S_l1Good)], [], gl, []⟩
theorem ef_S_l11Three (t0 : PV S_string) (t1 : PV S_string) (t2 : PV S_string) : denF cx_S_l11Three 0 pl_S_l11Three Try.f101.ntmps (bodyOf Try.f101) Try.f101.results.toList [(.bor, S_string), (.bor, S_string), (.bor, S_string)] [(.bool, .b)] (t0, t1, t2, ()) = f_S_l11Three t0 t1 t2 := by kernel_rfl
theorem ok_S_l11Three : FnOk gl Try.prog 101 ct_S_l11Three :=
  fnOk (cx := cx_S_l11Three) (pl := pl_S_l11Three) (dp := 0) (ok0_of tabOk (by unfold ArrOk; kernel_rfl) mix ⟨ok_S_l1Good, trivial⟩ trivial) Try.func101 (by kernel_rfl) (by kernel_rfl) (by kernel_rfl)
    (by rw [show loopsOf (bodyOf Try.f101) = [] from by kernel_rfl]; exact trivial) (fun x => ef_S_l11Three x.1 x.2.1 x.2.2.1)
noncomputable def pl_S_l1Most : Plan := ⟨[], [], 0, 0⟩
noncomputable def f_S_l1Most (t0 : PV (.int .i64)) (t1 : PV (.int .i64)) : Option (PVs [(.int .i64)] × PVs []) :=
  bif (decide (t0 > t1)) then
    some ((t0, ()), ())
  else
    some ((t1, ()), ())
noncomputable def ct_S_l1Most : Ct := ⟨[(.bor, (.int .i64)), (.bor, (.int .i64))], [((.int .i64), .b)], fun x => f_S_l1Most x.1 x.2.1⟩
noncomputable def cx_S_l1Most : Cx := ⟨tab, arrs, [], [], gl, []⟩
theorem ef_S_l1Most (t0 : PV (.int .i64)) (t1 : PV (.int .i64)) : denF cx_S_l1Most 0 pl_S_l1Most Try.f135.ntmps (bodyOf Try.f135) Try.f135.results.toList [(.bor, (.int .i64)), (.bor, (.int .i64))] [((.int .i64), .b)] (t0, t1, ()) = f_S_l1Most t0 t1 := by kernel_rfl
theorem ok_S_l1Most : FnOk gl Try.prog 135 ct_S_l1Most :=
  fnOk (cx := cx_S_l1Most) (pl := pl_S_l1Most) (dp := 0) (ok0_of tabOk (by unfold ArrOk; kernel_rfl) mix trivial trivial) Try.func135 (by kernel_rfl) (by kernel_rfl) (by kernel_rfl)
    (by rw [show loopsOf (bodyOf Try.f135) = [] from by kernel_rfl]; exact trivial) (fun x => ef_S_l1Most x.1 x.2.1)
end R
