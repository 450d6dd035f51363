/- The functions that L_FnSince reach, as pure functions, and that the program computes them. -/
import Derived.Test.YtegfhigkmghmjaaDoorL3
import Derived.Test.YtegfhigkmghmjaaDoorChecked
import Derived.KernelRfl
open Go Go.Dn Go.Proofs
namespace R
set_option linter.unusedVariables false
@[reducible] def S_string : Ty := (.slice 9 .str)
@[reducible] def S_uint8 : Ty := (.slice 5 (.int .u8))
@[reducible] def S_int : Ty := (.slice 3 (.int .i64))
@[reducible] def S_S_string : Ty := (.slice 54 S_string)
@[reducible] def S_S_int : Ty := (.slice 46 S_int)
@[reducible] def Y__2_int : Ty := (.pair (.int .i64) (.pair (.int .i64) .unit))
@[reducible] def S__2_int : Ty := (.slice 148 Y__2_int)
@[reducible] def Y_spec_l1Cur : Ty := (.pair S_uint8 (.pair (.int .i64) (.pair (.int .u64) .unit)))
noncomputable def tab : List (TypeId × Ty) := [(3, (.int .i64)), (4, .bool), (5, (.int .u8)), (9, .str), (37, S_S_string), (43, S_uint8), (46, S_int), (49, S_S_int), (54, S_string), (97, (.int .u64)), (99, Y_spec_l1Cur), (146, S__2_int), (148, Y__2_int)]
noncomputable def arrs : List TypeId := [148]
theorem tabOk : TabOk Tryd.prog tab := by unfold TabOk; kernel_rfl
theorem mix : Tryd.prog.follows .mixedOrders = true := by kernel_rfl
noncomputable def gl : Glob := tabGlob Tryd.prog 2
open Go.Shelf
set_option maxRecDepth 20000
def lays_strconv_Itoa_ren : Go.Shelf.Ren := ⟨fun | 0 => 0 | 1 => 1 | 2 => 2 | 100 => 186 | 102 => 117 | 129 => 206 | 143 => 204 | 144 => 185 | 156 => 57 | 165 => 95 | 166 => 96 | 169 => 97 | 171 => 71 | 207 => 193 | 209 => 161 | 212 => 174 | 217 => 213 | 219 => 210 | 224 => 215 | 225 => 214 | 240 => 149 | 241 => 150 | 243 => 116 | 246 => 160 | 263 => 198 | 264 => 199 | 266 => 217 | 267 => 216 | 276 => 187 | 277 => 188 | 283 => 189 | 284 => 190 | 285 => 191 | 286 => 192 | 314 => 218 | 317 => 205 | 318 => 207 | 319 => 208 | 320 => 209 | 337 => 211 | 338 => 212 | 347 => 219 | 348 => 220 | 349 => 221 | 350 => 222 | 351 => 223 | 352 => 224 | 353 => 225 | 354 => 226 | 355 => 227 | 356 => 228 | 357 => 229 | 358 => 230 | 359 => 231 | 360 => 232 | 361 => 233 | 362 => 235 | 366 => 236 | 367 => 244 | n => n, fun | 0 => 0 | 1 => 1 | 2 => 2 | 3 => 3 | 4 => 4 | 5 => 5 | 6 => 6 | 7 => 7 | 8 => 8 | 9 => 9 | 10 => 10 | 11 => 11 | 12 => 12 | 13 => 13 | 14 => 14 | 15 => 15 | 16 => 16 | 17 => 17 | 18 => 18 | 19 => 19 | 20 => 20 | 21 => 21 | 22 => 183 | 23 => 133 | 24 => 24 | 27 => 199 | 28 => 46 | 31 => 54 | 34 => 52 | 37 => 43 | 38 => 44 | 43 => 141 | 46 => 173 | 47 => 203 | 51 => 193 | 52 => 204 | 53 => 97 | 54 => 188 | 55 => 205 | 67 => 79 | 69 => 95 | 70 => 119 | 71 => 120 | 72 => 121 | 73 => 122 | 74 => 123 | 75 => 124 | 76 => 125 | 77 => 126 | 80 => 127 | 81 => 171 | 83 => 94 | 84 => 164 | 101 => 65 | 102 => 62 | 104 => 138 | 109 => 174 | 110 => 175 | 111 => 142 | 112 => 170 | 114 => 143 | 127 => 158 | 146 => 194 | 147 => 195 | 148 => 196 | 149 => 197 | 151 => 208 | 164 => 184 | 165 => 185 | 166 => 186 | 171 => 187 | 172 => 189 | 173 => 190 | 174 => 191 | 211 => 200 | 212 => 201 | 213 => 202 | 232 => 206 | 233 => 207 | 238 => 209 | 239 => 210 | 240 => 211 | 241 => 212 | 242 => 213 | 243 => 214 | 244 => 215 | 245 => 216 | 246 => 217 | 247 => 218 | 248 => 219 | 249 => 220 | n => n, fun | 1 => 1 | 17 => 2 | 18 => 3 | 19 => 4 | n => n⟩
theorem lays_strconv_Itoa : Go.Proofs.LaysM.n171 Tryd.prog lays_strconv_Itoa_ren where
  mixed := by kernel_rfl
  f129 := Tryd.func206.trans (congrArg some (by kernel_rfl))
  f171 := Tryd.func71.trans (congrArg some (by kernel_rfl))
  f243 := Tryd.func116.trans (congrArg some (by kernel_rfl))
  f246 := Tryd.func160.trans (congrArg some (by kernel_rfl))
  f283 := Tryd.func189.trans (congrArg some (by kernel_rfl))
  f284 := Tryd.func190.trans (congrArg some (by kernel_rfl))
  f285 := Tryd.func191.trans (congrArg some (by kernel_rfl))
  f286 := Tryd.func192.trans (congrArg some (by kernel_rfl))
  f317 := Tryd.func205.trans (congrArg some (by kernel_rfl))
  f318 := Tryd.func207.trans (congrArg some (by kernel_rfl))
  f319 := Tryd.func208.trans (congrArg some (by kernel_rfl))
  f320 := Tryd.func209.trans (congrArg some (by kernel_rfl))
  f337 := Tryd.func211.trans (congrArg some (by kernel_rfl))
  f338 := Tryd.func212.trans (congrArg some (by kernel_rfl))
  t0 := Tryd.underlying0
  a0 := Tryd.isAgg0
  z0 := Tryd.sizeOf0
  v0 := Tryd.zeroValue0
  t2 := Tryd.underlying2
  a2 := Tryd.isAgg2
  z2 := Tryd.sizeOf2
  v2 := Tryd.zeroValue2
  t3 := Tryd.underlying3
  a3 := Tryd.isAgg3
  z3 := Tryd.sizeOf3
  v3 := Tryd.zeroValue3
  t4 := Tryd.underlying4
  a4 := Tryd.isAgg4
  z4 := Tryd.sizeOf4
  v4 := Tryd.zeroValue4
  t5 := Tryd.underlying5
  a5 := Tryd.isAgg5
  z5 := Tryd.sizeOf5
  v5 := Tryd.zeroValue5
  t9 := Tryd.underlying9
  a9 := Tryd.isAgg9
  z9 := Tryd.sizeOf9
  v9 := Tryd.zeroValue9
  t20 := Tryd.underlying20
  a20 := Tryd.isAgg20
  z20 := Tryd.sizeOf20
  v20 := Tryd.zeroValue20
  t37 := Tryd.underlying43
  a37 := Tryd.isAgg43
  z37 := Tryd.sizeOf43
  v37 := Tryd.zeroValue43
  t46 := Tryd.underlying173
  a46 := Tryd.isAgg173
  z46 := Tryd.sizeOf173
  v46 := Tryd.zeroValue173
  t51 := Tryd.underlying193
  a51 := Tryd.isAgg193
  z51 := Tryd.sizeOf193
  v51 := Tryd.zeroValue193
  t53 := Tryd.underlying97
  a53 := Tryd.isAgg97
  z53 := Tryd.sizeOf97
  v53 := Tryd.zeroValue97
  t171 := Tryd.underlying187
  a171 := Tryd.isAgg187
  z171 := Tryd.sizeOf187
  v171 := Tryd.zeroValue187
  t173 := Tryd.underlying190
  a173 := Tryd.isAgg190
  z173 := Tryd.sizeOf190
  v173 := Tryd.zeroValue190
  t212 := Tryd.underlying201
  a212 := Tryd.isAgg201
  z212 := Tryd.sizeOf201
  v212 := Tryd.zeroValue201
  t213 := Tryd.underlying202
  a213 := Tryd.isAgg202
  z213 := Tryd.sizeOf202
  t232 := Tryd.underlying206
  a232 := Tryd.isAgg206
  z232 := Tryd.sizeOf206
  v232 := Tryd.zeroValue206
  t233 := Tryd.underlying207
  a233 := Tryd.isAgg207
  z233 := Tryd.sizeOf207
  v233 := Tryd.zeroValue207
  g17 := by kernel_rfl
  g18 := by kernel_rfl
  g19 := by kernel_rfl
  i0 := by kernel_rfl
  i2 := by kernel_rfl
  i3 := by kernel_rfl
  i4 := by kernel_rfl
  i5 := by kernel_rfl
  i9 := by kernel_rfl
  i20 := by kernel_rfl
  i37 := by kernel_rfl
  i46 := by kernel_rfl
  i51 := by kernel_rfl
  i53 := by kernel_rfl
  i171 := by kernel_rfl
  i173 := by kernel_rfl
  i212 := by kernel_rfl
  i232 := by kernel_rfl
  i233 := by kernel_rfl
  m17 := by kernel_rfl
  m18 := by kernel_rfl
  m19 := by kernel_rfl
noncomputable def f_strconv_Itoa (t0 : PV (.int .i64)) : Option (PVs [.str] × PVs []) := Go.Dn.itoaF t0
noncomputable def ct_strconv_Itoa : Ct := ⟨[(.bor, (.int .i64))], [(.str, .b)], fun x => f_strconv_Itoa x.1⟩
theorem ok_strconv_Itoa : FnOk gl Tryd.prog 71 ct_strconv_Itoa := Go.Dn.itoa_ok tabGlob_tab lays_strconv_Itoa
def lays_math_bits_Mul_ren : Go.Shelf.Ren := ⟨fun | 0 => 0 | 1 => 1 | 2 => 2 | 100 => 186 | 102 => 117 | 129 => 206 | 143 => 204 | 144 => 185 | 156 => 57 | 165 => 95 | 166 => 96 | 169 => 97 | 171 => 71 | 207 => 193 | 209 => 161 | 212 => 174 | 217 => 213 | 219 => 210 | 224 => 215 | 225 => 214 | 240 => 149 | 241 => 150 | 243 => 116 | 246 => 160 | 263 => 198 | 264 => 199 | 266 => 217 | 267 => 216 | 276 => 187 | 277 => 188 | 283 => 189 | 284 => 190 | 285 => 191 | 286 => 192 | 314 => 218 | 317 => 205 | 318 => 207 | 319 => 208 | 320 => 209 | 337 => 211 | 338 => 212 | 347 => 219 | 348 => 220 | 349 => 221 | 350 => 222 | 351 => 223 | 352 => 224 | 353 => 225 | 354 => 226 | 355 => 227 | 356 => 228 | 357 => 229 | 358 => 230 | 359 => 231 | 360 => 232 | 361 => 233 | 362 => 235 | 366 => 236 | 367 => 244 | n => n, fun | 0 => 0 | 1 => 1 | 2 => 2 | 3 => 3 | 4 => 4 | 5 => 5 | 6 => 6 | 7 => 7 | 8 => 8 | 9 => 9 | 10 => 10 | 11 => 11 | 12 => 12 | 13 => 13 | 14 => 14 | 15 => 15 | 16 => 16 | 17 => 17 | 18 => 18 | 19 => 19 | 20 => 20 | 21 => 21 | 22 => 183 | 23 => 133 | 24 => 24 | 27 => 199 | 28 => 46 | 31 => 54 | 34 => 52 | 37 => 43 | 38 => 44 | 43 => 141 | 46 => 173 | 47 => 203 | 51 => 193 | 52 => 204 | 53 => 97 | 54 => 188 | 55 => 205 | 67 => 79 | 69 => 95 | 70 => 119 | 71 => 120 | 72 => 121 | 73 => 122 | 74 => 123 | 75 => 124 | 76 => 125 | 77 => 126 | 80 => 127 | 81 => 171 | 83 => 94 | 84 => 164 | 101 => 65 | 102 => 62 | 104 => 138 | 109 => 174 | 110 => 175 | 111 => 142 | 112 => 170 | 114 => 143 | 127 => 158 | 146 => 194 | 147 => 195 | 148 => 196 | 149 => 197 | 151 => 208 | 164 => 184 | 165 => 185 | 166 => 186 | 171 => 187 | 172 => 189 | 173 => 190 | 174 => 191 | 211 => 200 | 212 => 201 | 213 => 202 | 232 => 206 | 233 => 207 | 238 => 209 | 239 => 210 | 240 => 211 | 241 => 212 | 242 => 213 | 243 => 214 | 244 => 215 | 245 => 216 | 246 => 217 | 247 => 218 | 248 => 219 | 249 => 220 | n => n, fun | 1 => 1 | 17 => 2 | 18 => 3 | 19 => 4 | n => n⟩
theorem lays_math_bits_Mul : Go.Proofs.Lays.n212 Tryd.prog lays_math_bits_Mul_ren where
  mixed := by kernel_rfl
  f212 := Tryd.func174.trans (congrArg some (by kernel_rfl))
  f263 := Tryd.func198.trans (congrArg some (by kernel_rfl))
  f264 := Tryd.func199.trans (congrArg some (by kernel_rfl))
  t46 := Tryd.underlying173
  a46 := Tryd.isAgg173
  z46 := Tryd.sizeOf173
  v46 := Tryd.zeroValue173
  t51 := Tryd.underlying193
  a51 := Tryd.isAgg193
  z51 := Tryd.sizeOf193
  v51 := Tryd.zeroValue193
  t53 := Tryd.underlying97
  a53 := Tryd.isAgg97
  z53 := Tryd.sizeOf97
  v53 := Tryd.zeroValue97
  t146 := Tryd.underlying194
  a146 := Tryd.isAgg194
  z146 := Tryd.sizeOf194
  v146 := Tryd.zeroValue194
  t148 := Tryd.underlying196
  a148 := Tryd.isAgg196
  z148 := Tryd.sizeOf196
  v148 := Tryd.zeroValue196
set_option maxRecDepth 100000
section
open Go.RowKit
set_option maxHeartbeats 1000000 in
set_option maxRecDepth 100000 in
theorem rep_main (x : Int) (A : Addr) (cap c : Nat) (w : World) (hA : w.cell? A = some (.int .i64 x)) (hAb : A.block < w.heap.size) (h1 : 1 ≤ c) (hc : c ≤ 1099511627776) (h1cap : 1 ≤ cap) :
    Calls Tryd.prog 131 #[.slice (some A) 1 cap, .int .i64 c] w fun e w' => e = .returned (.slice (some ⟨w.heap.size, 0, none⟩) c c) ∧ w'.heap[w.heap.size]? = some (.cells (List.replicate c (.int .i64 x)).toArray 3 (0, 0)) ∧ Below w.heap.size w w' := by
  have hMul : Calls Tryd.prog 174 #[.int .u64 1, .int .u64 c] w fun e w' => e = .returned (.tuple #[.int .u64 0, .int .u64 c]) ∧ w' = w := by
    have h : Calls Tryd.prog 174 #[.int .u64 (1 : Nat), .int .u64 c] w _ := Any.bits_Mul lays_math_bits_Mul 1 c (by omega) (by omega) w
    simp only [Nat.one_mul] at h
    rw [Nat.div_eq_of_lt (by omega), Nat.mod_eq_of_lt (by omega)] at h
    exact h
  have hinf : Option.map (fun i => (i.zero, i.size, i.bytes)) (Tryd.prog.info? 3) = some (some (.int .i64 0), 1, 8) := by kernel_rfl
  obtain ⟨i0, hi, hz0, hz1, hz2⟩ := info_parts hinf
  have hinfo : (Tryd.prog.info? 3).map (·.size) = some 1 := by rw [hi]; simp [hz1]
  obtain ⟨M, hM⟩ : ∃ M, M = madeCells (Value.int .i64 0).cells (((c : Nat) : Int).toNat * i0.size) := ⟨_, rfl⟩
  have hMl : Hid (M = (rowK (.int .i64 x) 0 c).toArray) := by
    show M = _
    rw [hM, hz1, rowK_zero]
    apply Array.ext'
    simp [madeCells, Value.cells, Nat.mod_one]
    rw [List.map_const', List.length_range]
  have hmk : ∀ W : World, (Instr.makeSlice 46 (.int .i64 (c : Int)) (.int .i64 (c : Int))).run Tryd.prog W = .ok (.slice (some ⟨W.heap.size, 0, none⟩) c c) (W.alloc (.cells M 3)) := fun W => by
      have h := run_make (P := Tryd.prog) W 46 3 i0 (.int .i64 0) Tryd.underlying46 hi hz0 .i64 .i64 (c : Int) (c : Int) (by omega) (by omega) (by rw [hz2]; omega) (by omega)
      rw [← hM] at h
      simpa using h
  clear hM
  have hcp := run_copy_row (P := Tryd.prog) (w.alloc (.cells M 3)) 46 46 3 3 w.heap.size 0 c c A 1 cap M 3 [.int .i64 x] Tryd.underlying46 hinfo (heap_alloc_new w _) (Nat.min_eq_left h1).symm (fun j v hj => by
    have hj0 : j = 0 := by have := (List.getElem?_eq_some_iff.1 hj).1; simp at this; omega
    subst hj0
    obtain rfl : v = .int .i64 x := (Option.some.inj hj).symm
    exact (show (w.alloc (.cells M 3)).cell? A = w.cell? A by
      unfold World.cell?
      rw [Go.Dn.heap_alloc_ne w _ _ hAb]).trans hA) (by rw [hMl.out]; simp [rowK]; omega) (by simp [Value.oneCell'])
  obtain ⟨Y, hY⟩ : ∃ Y, Y = ((w.alloc (.cells M 3)).setRow w.heap.size (List.take 0 M.toList ++ [Value.int .i64 x] ++ List.drop (0 + [Value.int .i64 x].length) M.toList).toArray) := ⟨_, rfl⟩
  rw [← hY] at hcp
  have hYg : Hid (Y.heap[w.heap.size]? = some (.cells (rowK (.int .i64 x) 1 c).toArray 3 (0, 0))) := by
    show Y.heap[w.heap.size]? = _
    rw [hY, setRow_heap _ _ M _ 3 (0, 0) (heap_alloc_new w _)]
    have h := rowK_splice (.int .i64 x) (k := 0) (c := c) (m := 1) (by omega)
    rw [Nat.zero_add] at h
    rw [← h, hMl.out]
    simp [splice]
  have hYb : Below w.heap.size w Y := by rw [hY]; exact below_setRow ((Below.refl _ w).alloc (Nat.le_refl _) _) (Nat.le_refl _) _
  clear hY
  go_enter Tryd.func131, Tryd.ntmps131
  go_wp2_with (go_at_fn 174; go_fit hMul; rintro e w' ⟨rfl, hw⟩; rw [hw])
  refine hMul.mono ?_
  rintro e w' ⟨rfl, hw⟩
  rw [hw]
  clear hw w'
  go_wp2
  go_loopg [8] (c - 1) (fun g s8 wx => ∃ n : Nat, 1 ≤ n ∧ n + g = c ∧ s8 = .int .i64 (n : Int) ∧ Hid (wx.heap[w.heap.size]? = some (.cells (rowK (.int .i64 x) n c).toArray 3 (0, 0))) ∧ Below w.heap.size w wx)
  case atStart => exact ⟨1, Nat.le_refl _, by omega, rfl, hYg, hYb⟩
  case round =>
    obtain ⟨n, hn1, hng, rfl, hg, hb⟩ := hrel
    cases gk with
    | zero =>
      obtain rfl : n = c := by omega
      go_wp2
      go_ret
      exact ⟨rfl, by rw [← rowK_all]; exact hg.out, hb⟩
    | succ g =>
      have hnc : n < c := by omega
      obtain ⟨m, hm⟩ : ∃ m, m = Nat.min n (c - n) := ⟨_, rfl⟩
      have hm1 : 1 ≤ m := by rw [hm]; exact Nat.le_min.2 ⟨hn1, by omega⟩
      have hm2 : m ≤ n := by rw [hm]; exact Nat.min_le_left _ _
      have hm3 : m ≤ c - n := by rw [hm]; exact Nat.min_le_right _ _
      have hcl : (List.replicate m (Value.int .i64 x)).length = Nat.min n (c - n) := by rw [List.length_replicate]; exact hm
      have hfit : n + (List.replicate m (Value.int .i64 x)).length ≤ (rowK (.int .i64 x) n c).length := by rw [List.length_replicate, rowK_len _ (by omega)]; omega
      have hone : ∀ v ∈ List.replicate m (Value.int .i64 x), v.oneCell' = true := fun v hv => by rw [List.eq_of_mem_replicate hv]; rfl
      have HP : Hid (∀ j v, (List.replicate m (Value.int .i64 x))[j]? = some v → wr.drew.cell? (({ block := w.heap.size, off := 0, spot := none } : Addr).add j) = some v) := fun j v hj => by
          have hj' : j < m := by have := (List.getElem?_eq_some_iff.1 hj).1; simpa using this
          have hv : v = .int .i64 x := by rw [List.getElem?_replicate_of_lt hj'] at hj; exact (Option.some.inj hj).symm
          rw [hv, ← rowK_at (.int .i64 x) (k := n) (c := c) (j := j) (by omega)]
          refine (cell_row (w := wr.drew) (show wr.drew.heap[w.heap.size]? = _ from hg.out) j).trans ?_
          simp
      have hle : n ≤ c := by omega
      have hne : ¬ c = n := by omega
      have HM : Hid (m = Nat.min n (c - n)) := hm
      have HL : Hid ((List.replicate m (Value.int .i64 x)).length = Nat.min n (c - n)) := hcl
      clear hm hcl
      go_wp2
      go_region_law (refine step_copy_splice rfl (.tmp 41) (.tmp 44) 46 46 rfl 3 Tryd.underlying46 hinfo (some ⟨w.heap.size, n, none⟩) (some ⟨w.heap.size, 0, none⟩) (c - n) (c - n) n c (by simp [Act.eval, Act.put]) (by simp [Act.eval, Act.put]) w.heap.size n (rowK (.int .i64 x) n c) 3 (show wr.drew.heap[w.heap.size]? = _ from hg.out) (List.replicate m (.int .i64 x)) HL.out (fun _ => ⟨rfl, _, rfl, HP.out⟩) hfit hone w.heap.size w hb.drew (Nat.le_refl _) ?_; intro w4 hg4 hb4)
      have HE : Hid (splice (rowK (.int .i64 x) n c) n (List.replicate m (.int .i64 x)) = rowK (.int .i64 x) (n + m) c) := rowK_splice _ (by omega)
      go_wp2
      go_roundg (c - (n + m))
      case measure => omega
      case rel => exact ⟨n + m, by omega, by omega, by rw [show IntKind.wrap .i64 ((n : Int) + (m : Int)) = ((n + m : Nat) : Int) from by rw [Go.Dn.wrap64 (by omega) (by omega)]; rfl], by rw [← HE.out]; exact hg4, hb4⟩

set_option maxHeartbeats 1000000 in
set_option maxRecDepth 100000 in
theorem rep_zero (x : Int) (A : Addr) (cap : Nat) (w : World) :
    Calls Tryd.prog 131 #[.slice (some A) 1 cap, .int .i64 (0 : Nat)] w fun e w' => e = .returned (.slice (some ⟨w.heap.size, 0, none⟩) 0 0) ∧ w'.heap[w.heap.size]? = some (.cells (List.replicate 0 (.int .i64 x)).toArray 3 (0, 0)) ∧ Below w.heap.size w w' := by
  have hMul : Calls Tryd.prog 174 #[.int .u64 1, .int .u64 0] w fun e w' => e = .returned (.tuple #[.int .u64 0, .int .u64 0]) ∧ w' = w := by
    have h : Calls Tryd.prog 174 #[.int .u64 (1 : Nat), .int .u64 (0 : Nat)] w _ := Any.bits_Mul lays_math_bits_Mul 1 0 (by omega) (by omega) w
    exact h
  have hinf : Option.map (fun i => (i.zero, i.size, i.bytes)) (Tryd.prog.info? 3) = some (some (.int .i64 0), 1, 8) := by kernel_rfl
  obtain ⟨i0, hi, hz0, hz1, hz2⟩ := info_parts hinf
  have hinfo : (Tryd.prog.info? 3).map (·.size) = some 1 := by rw [hi]; simp [hz1]
  have hmk : ∀ W : World, (Instr.makeSlice 46 (.int .i64 0) (.int .i64 0)).run Tryd.prog W = .ok (.slice (some ⟨W.heap.size, 0, none⟩) 0 0) (W.alloc (.cells #[] 3)) := fun W => by
      have h := run_make (P := Tryd.prog) W 46 3 i0 (.int .i64 0) Tryd.underlying46 hi hz0 .i64 .i64 0 0 (by omega) (by omega) (by rw [hz2]; omega) (by omega)
      simpa [madeCells, show Array.range 0 = #[] from rfl] using h
  have hcp := run_copy_none (P := Tryd.prog) (w.alloc (.cells #[] 3)) 46 46 3 3 (some ⟨w.heap.size, 0, none⟩) (some A) 0 0 1 cap Tryd.underlying46 hinfo (by rfl)
  have hb : Below w.heap.size w (w.alloc (.cells #[] 3)) := (Below.refl _ w).alloc (Nat.le_refl _) _
  have hh : Hid ((w.alloc (.cells #[] 3)).heap[w.heap.size]? = some (.cells #[] 3 (0, 0))) := heap_alloc_new w _
  go_enter Tryd.func131, Tryd.ntmps131
  go_wp2_with (go_at_fn 174; go_fit hMul; rintro e w' ⟨rfl, hw⟩; rw [hw])
  refine hMul.mono ?_
  rintro e w' ⟨rfl, hw⟩
  rw [hw]
  clear hw w'
  go_wp2
  go_loopg [8] 0 (fun g s8 wx => g = 0 ∧ s8 = .int .i64 0 ∧ wx = w.alloc (.cells #[] 3))
  case atStart => exact ⟨rfl, rfl, rfl⟩
  case round =>
    obtain ⟨rfl, rfl, rfl⟩ := hrel
    go_wp2
    go_ret
    exact ⟨rfl, hh.out, hb⟩

theorem rep_any (x : Int) (A : Addr) (cap c : Nat) (w : World) (hA : w.cell? A = some (.int .i64 x)) (hAb : A.block < w.heap.size) (hc : c ≤ 1099511627776) (h1cap : 1 ≤ cap) :
    Calls Tryd.prog 131 #[.slice (some A) 1 cap, .int .i64 c] w fun e w' => e = .returned (.slice (some ⟨w.heap.size, 0, none⟩) c c) ∧ w'.heap[w.heap.size]? = some (.cells (List.replicate c (.int .i64 x)).toArray 3 (0, 0)) ∧ Below w.heap.size w w' := by
  rcases Nat.eq_zero_or_pos c with rfl | h
  · exact rep_zero x A cap w
  · exact rep_main x A cap c w hA hAb h hc h1cap
end
noncomputable def f_slices_Repeat_int (t0 : PV S_int) (t1 : PV (.int .i64)) : Option (PVs [S_int] × PVs []) := Go.Dn.repF 3 t0 t1
noncomputable def ct_slices_Repeat_int : Ct := ⟨[(.bor, S_int), (.bor, .int .i64)], [(S_int, .row .b)], fun x => f_slices_Repeat_int x.1 x.2.1⟩
theorem ok_slices_Repeat_int : FnOk gl Tryd.prog 131 ct_slices_Repeat_int := fnOk_repeat ⟨_, Tryd.func131, rfl, rfl⟩ rep_any
def lays_strings_Contains_ren : Go.Shelf.Ren := ⟨fun | 0 => 0 | 1 => 1 | 2 => 2 | 100 => 186 | 102 => 117 | 129 => 206 | 143 => 204 | 144 => 185 | 156 => 57 | 165 => 95 | 166 => 96 | 169 => 97 | 171 => 71 | 207 => 193 | 209 => 161 | 212 => 174 | 217 => 213 | 219 => 210 | 224 => 215 | 225 => 214 | 240 => 149 | 241 => 150 | 243 => 116 | 246 => 160 | 263 => 198 | 264 => 199 | 266 => 217 | 267 => 216 | 276 => 187 | 277 => 188 | 283 => 189 | 284 => 190 | 285 => 191 | 286 => 192 | 314 => 218 | 317 => 205 | 318 => 207 | 319 => 208 | 320 => 209 | 337 => 211 | 338 => 212 | 347 => 219 | 348 => 220 | 349 => 221 | 350 => 222 | 351 => 223 | 352 => 224 | 353 => 225 | 354 => 226 | 355 => 227 | 356 => 228 | 357 => 229 | 358 => 230 | 359 => 231 | 360 => 232 | 361 => 233 | 362 => 235 | 366 => 236 | 367 => 244 | n => n, fun | 0 => 0 | 1 => 1 | 2 => 2 | 3 => 3 | 4 => 4 | 5 => 5 | 6 => 6 | 7 => 7 | 8 => 8 | 9 => 9 | 10 => 10 | 11 => 11 | 12 => 12 | 13 => 13 | 14 => 14 | 15 => 15 | 16 => 16 | 17 => 17 | 18 => 18 | 19 => 19 | 20 => 20 | 21 => 21 | 22 => 183 | 23 => 133 | 24 => 24 | 27 => 199 | 28 => 46 | 31 => 54 | 34 => 52 | 37 => 43 | 38 => 44 | 43 => 141 | 46 => 173 | 47 => 203 | 51 => 193 | 52 => 204 | 53 => 97 | 54 => 188 | 55 => 205 | 67 => 79 | 69 => 95 | 70 => 119 | 71 => 120 | 72 => 121 | 73 => 122 | 74 => 123 | 75 => 124 | 76 => 125 | 77 => 126 | 80 => 127 | 81 => 171 | 83 => 94 | 84 => 164 | 101 => 65 | 102 => 62 | 104 => 138 | 109 => 174 | 110 => 175 | 111 => 142 | 112 => 170 | 114 => 143 | 127 => 158 | 146 => 194 | 147 => 195 | 148 => 196 | 149 => 197 | 151 => 208 | 164 => 184 | 165 => 185 | 166 => 186 | 171 => 187 | 172 => 189 | 173 => 190 | 174 => 191 | 211 => 200 | 212 => 201 | 213 => 202 | 232 => 206 | 233 => 207 | 238 => 209 | 239 => 210 | 240 => 211 | 241 => 212 | 242 => 213 | 243 => 214 | 244 => 215 | 245 => 216 | 246 => 217 | 247 => 218 | 248 => 219 | 249 => 220 | n => n, fun | 1 => 1 | 17 => 2 | 18 => 3 | 19 => 4 | n => n⟩
theorem lays_strings_Contains : Go.Proofs.Lays.n144 Tryd.prog lays_strings_Contains_ren where
  mixed := by kernel_rfl
  f143 := Tryd.func204.trans (congrArg some (by kernel_rfl))
  f144 := Tryd.func185.trans (congrArg some (by kernel_rfl))
  f217 := Tryd.func213.trans (congrArg some (by kernel_rfl))
  f219 := Tryd.func210.trans (congrArg some (by kernel_rfl))
  f224 := Tryd.func215.trans (congrArg some (by kernel_rfl))
  f225 := Tryd.func214.trans (congrArg some (by kernel_rfl))
  f266 := Tryd.func217.trans (congrArg some (by kernel_rfl))
  f267 := Tryd.func216.trans (congrArg some (by kernel_rfl))
  f314 := Tryd.func218.trans (congrArg some (by kernel_rfl))
  t3 := Tryd.underlying3
  a3 := Tryd.isAgg3
  z3 := Tryd.sizeOf3
  v3 := Tryd.zeroValue3
  t4 := Tryd.underlying4
  a4 := Tryd.isAgg4
  z4 := Tryd.sizeOf4
  v4 := Tryd.zeroValue4
  t5 := Tryd.underlying5
  a5 := Tryd.isAgg5
  z5 := Tryd.sizeOf5
  v5 := Tryd.zeroValue5
  t9 := Tryd.underlying9
  a9 := Tryd.isAgg9
  z9 := Tryd.sizeOf9
  v9 := Tryd.zeroValue9
  t46 := Tryd.underlying173
  a46 := Tryd.isAgg173
  z46 := Tryd.sizeOf173
  v46 := Tryd.zeroValue173
  t51 := Tryd.underlying193
  a51 := Tryd.isAgg193
  z51 := Tryd.sizeOf193
  v51 := Tryd.zeroValue193
  t146 := Tryd.underlying194
  a146 := Tryd.isAgg194
  z146 := Tryd.sizeOf194
  v146 := Tryd.zeroValue194
  g1 := by kernel_rfl
noncomputable def f_strings_Contains (t0 : PV .str) (t1 : PV .str) : Option (PVs [.bool] × PVs []) := Go.Dn.containsF t0 t1
noncomputable def ct_strings_Contains : Ct := ⟨[(.bor, .str), (.bor, .str)], [(.bool, .b)], fun x => f_strings_Contains x.1 x.2.1⟩
theorem ok_strings_Contains : FnOk gl Tryd.prog 185 ct_strings_Contains := Go.Dn.contains_ok  lays_strings_Contains
noncomputable def pl_L_big : Plan := ⟨[], [], 0, 0⟩
noncomputable def f_L_big (t0 : PV S_uint8) (t1 : PV S_uint8) : Option (PVs [.bool] × PVs []) :=
  bif (decide ((t0.length : Int) > 1048576)) then
    some ((true, ()), ())
  else
    some (((decide ((t1.length : Int) > (IntKind.wrap .i64 (1048576 - (t0.length : Int))))), ()), ())
noncomputable def ct_L_big : Ct := ⟨[(.bor, S_uint8), (.bor, S_uint8)], [(.bool, .b)], fun x => f_L_big x.1 x.2.1⟩
noncomputable def cx_L_big : Cx := ⟨tab, arrs, [], [], gl, []⟩
theorem ef_L_big (t0 : PV S_uint8) (t1 : PV S_uint8) : denF cx_L_big 0 pl_L_big Tryd.f28.ntmps (bodyOf Tryd.f28) Tryd.f28.results.toList [(.bor, S_uint8), (.bor, S_uint8)] [(.bool, .b)] (t0, t1, ()) = f_L_big t0 t1 := by kernel_rfl
theorem ok_L_big : FnOk gl Tryd.prog 28 ct_L_big :=
  fnOk (cx := cx_L_big) (pl := pl_L_big) (dp := 0) (ok0_of tabOk (by unfold ArrOk; kernel_rfl) mix trivial trivial) Tryd.func28 (by kernel_rfl) (by kernel_rfl) (by kernel_rfl)
    (by rw [show loopsOf (bodyOf Tryd.f28) = [] from by kernel_rfl]; exact trivial) (fun x => ef_L_big x.1 x.2.1)
noncomputable def o_S_l1Cur_next_4 : List Out := [⟨.normal, ⟨[], [0, 3], []⟩, mkSh 63 [(0, .var Y_spec_l1Cur .b), (1, .addr ⟨0, [], 0, 0⟩), (4, .val (.int .i64) .b)]⟩]
noncomputable def pl_S_l1Cur_next : Plan := ⟨[(4, o_S_l1Cur_next_4)], [], 0, 1⟩
noncomputable def f_S_l1Cur_next (t0 : PV Y_spec_l1Cur) : Option (PVs [(.int .i64)] × PVs [Y_spec_l1Cur]) :=
  ((
      bif (decide (t0.2.1 < (t0.1.length : Int))) then
        bif inB t0.2.1 t0.1.length then
          some (t0, (IntKind.wrap .i64 (t0.1.getD t0.2.1.toNat (0 : Int))), ())
        else
          none
      else
        some (t0, 0, ()) : Option ((PV Y_spec_l1Cur × PV (.int .i64) × Unit)))).bind fun j1 =>
    bif (decide ((IntKind.wrap .i64 (j1.1.2.1 + 1)) ≤ (j1.1.1.length : Int))) then
      some ((j1.2.1, ()), ((j1.1.1, ((IntKind.wrap .i64 (j1.1.2.1 + 1)), ((IntKind.wrap .u64 ((IntKind.wrap .u64 ((IntKind.wrap .u64 (j1.1.2.2.1 * 6364136223846793005)) + (IntKind.wrap .u64 j1.2.1))) + 1442695040888963407)), j1.1.2.2.2))), ()))
    else
      bif decide (0 ≤ 40) then
        some (((IntKind.wrap .i64 (IntKind.wrap .u64 ((BitVec.ofInt (IntKind.bits .u64) ((IntKind.wrap .u64 ((IntKind.wrap .u64 ((IntKind.wrap .u64 (j1.1.2.2.1 * 6364136223846793005)) + (IntKind.wrap .u64 j1.2.1))) + 1442695040888963407)).fdiv (2 ^ (min (40 : Int).toNat (IntKind.bits .u64)))) &&& BitVec.ofInt (IntKind.bits .u64) 255).toNat : Int))), ()), ((j1.1.1, ((IntKind.wrap .i64 (j1.1.2.1 + 1)), ((IntKind.wrap .u64 ((IntKind.wrap .u64 ((IntKind.wrap .u64 (j1.1.2.2.1 * 6364136223846793005)) + (IntKind.wrap .u64 j1.2.1))) + 1442695040888963407)), j1.1.2.2.2))), ()))
      else
        none
noncomputable def ct_S_l1Cur_next : Ct := ⟨[(.ptr, Y_spec_l1Cur)], [((.int .i64), .b)], fun x => f_S_l1Cur_next x.1⟩
noncomputable def cx_S_l1Cur_next : Cx := ⟨tab, arrs, [], [], gl, []⟩
theorem ef_S_l1Cur_next (t0 : PV Y_spec_l1Cur) : denF cx_S_l1Cur_next 0 pl_S_l1Cur_next Tryd.f169.ntmps (bodyOf Tryd.f169) Tryd.f169.results.toList [(.ptr, Y_spec_l1Cur)] [((.int .i64), .b)] (t0, ()) = f_S_l1Cur_next t0 := by kernel_rfl
theorem ok_S_l1Cur_next : FnOk gl Tryd.prog 169 ct_S_l1Cur_next :=
  fnOk (cx := cx_S_l1Cur_next) (pl := pl_S_l1Cur_next) (dp := 0) (ok0_of tabOk (by unfold ArrOk; kernel_rfl) mix trivial trivial) Tryd.func169 (by kernel_rfl) (by kernel_rfl) (by kernel_rfl)
    (by rw [show loopsOf (bodyOf Tryd.f169) = [] from by kernel_rfl]; exact trivial) (fun x => ef_S_l1Cur_next x.1)
noncomputable def o_S_l1Cur_pick_6 : List Out := [⟨.normal, ⟨[], [1, 5], []⟩, mkSh 21 [(0, .var Y_spec_l1Cur .b), (2, .val (.int .i64) .b), (6, .val (.int .i64) .b)]⟩]
noncomputable def pl_S_l1Cur_pick : Plan := ⟨[(6, o_S_l1Cur_pick_6)], [], 0, 1⟩
noncomputable def f_S_l1Cur_pick (t0 : PV Y_spec_l1Cur) (t1 : PV (.int .i64)) : Option (PVs [(.int .i64)] × PVs [Y_spec_l1Cur]) :=
  bif (decide (t1 ≤ 1)) then
    some ((0, ()), (t0, ()))
  else
    (f_S_l1Cur_next t0).bind fun r2 =>
      ((
          bif (decide (t1 > 200)) then
            (f_S_l1Cur_next r2.2.1).bind fun r4 =>
              some (r4.2.1, t1, (IntKind.wrap .i64 ((IntKind.wrap .i64 (r2.1.1 * 256)) + r4.1.1)), ())
          else
            some (r2.2.1, t1, r2.1.1, ()) : Option ((PV Y_spec_l1Cur × PV (.int .i64) × PV (.int .i64) × Unit)))).bind fun j5 =>
        bif j5.2.1 == 0 then
          none
        else
          some (((j5.2.2.1.tmod j5.2.1), ()), (j5.1, ()))
noncomputable def ct_S_l1Cur_pick : Ct := ⟨[(.ptr, Y_spec_l1Cur), (.bor, (.int .i64))], [((.int .i64), .b)], fun x => f_S_l1Cur_pick x.1 x.2.1⟩
noncomputable def cx_S_l1Cur_pick : Cx := ⟨tab, arrs, [(169, ct_S_l1Cur_next)], [], gl, []⟩
theorem ef_S_l1Cur_pick (t0 : PV Y_spec_l1Cur) (t1 : PV (.int .i64)) : denF cx_S_l1Cur_pick 0 pl_S_l1Cur_pick Tryd.f126.ntmps (bodyOf Tryd.f126) Tryd.f126.results.toList [(.ptr, Y_spec_l1Cur), (.bor, (.int .i64))] [((.int .i64), .b)] (t0, t1, ()) = f_S_l1Cur_pick t0 t1 := by kernel_rfl
theorem ok_S_l1Cur_pick : FnOk gl Tryd.prog 126 ct_S_l1Cur_pick :=
  fnOk (cx := cx_S_l1Cur_pick) (pl := pl_S_l1Cur_pick) (dp := 0) (ok0_of tabOk (by unfold ArrOk; kernel_rfl) mix ⟨ok_S_l1Cur_next, trivial⟩ trivial) Tryd.func126 (by kernel_rfl) (by kernel_rfl) (by kernel_rfl)
    (by rw [show loopsOf (bodyOf Tryd.f126) = [] from by kernel_rfl]; exact trivial) (fun x => ef_S_l1Cur_pick x.1 x.2.1)
noncomputable def pl_S_l1Cur_line_168 : Plan := ⟨[], [], 0, 7⟩
noncomputable def pl_S_l1Cur_line : Plan := ⟨[], [], 1, 1⟩
noncomputable def f_S_l1Cur_line (t0 : PV Y_spec_l1Cur) : Option (PVs [.str] × PVs [Y_spec_l1Cur]) :=
  (f_S_l1Cur_pick t0 ([[97], [98], [99], [100], [], [46], [46, 46], [111, 110, 101, 32, 116, 119, 111], [43, 120], [45, 121], [92, 32, 122], [64, 64]].length : Int)).bind fun r1 =>
    bif inB r1.1.1 [[97], [98], [99], [100], [], [46], [46, 46], [111, 110, 101, 32, 116, 119, 111], [43, 120], [45, 121], [92, 32, 122], [64, 64]].length then
      some ((([[97], [98], [99], [100], [], [46], [46, 46], [111, 110, 101, 32, 116, 119, 111], [43, 120], [45, 121], [92, 32, 122], [64, 64]].getD r1.1.1.toNat []), ()), (r1.2.1, ()))
    else
      none
noncomputable def ct_S_l1Cur_line : Ct := ⟨[(.ptr, Y_spec_l1Cur)], [(.str, .b)], fun x => f_S_l1Cur_line x.1⟩
noncomputable def cx_S_l1Cur_line : Cx := ⟨tab, arrs, [(126, ct_S_l1Cur_pick)], [(168, Tryd.f168, pl_S_l1Cur_line_168)], gl, []⟩
theorem ef_S_l1Cur_line (t0 : PV Y_spec_l1Cur) : denF cx_S_l1Cur_line 1 pl_S_l1Cur_line Tryd.f166.ntmps (bodyOf Tryd.f166) Tryd.f166.results.toList [(.ptr, Y_spec_l1Cur)] [(.str, .b)] (t0, ()) = f_S_l1Cur_line t0 := by kernel_rfl
theorem ok_S_l1Cur_line : FnOk gl Tryd.prog 166 ct_S_l1Cur_line :=
  fnOk (cx := cx_S_l1Cur_line) (pl := pl_S_l1Cur_line) (dp := 1) (ok0_of tabOk (by unfold ArrOk; kernel_rfl) mix ⟨ok_S_l1Cur_pick, trivial⟩ ⟨⟨Tryd.func168, by kernel_rfl, (by rw [show loopsOf (bodyOf Tryd.f168) = [] from by kernel_rfl]; exact trivial)⟩, trivial⟩) Tryd.func166 (by kernel_rfl) (by kernel_rfl) (by kernel_rfl)
    (by rw [show loopsOf (bodyOf Tryd.f166) = [] from by kernel_rfl]; exact trivial) (fun x => ef_S_l1Cur_line x.1)
noncomputable def pl_S_l1Cur_one : Plan := ⟨[], [], 0, 1⟩
noncomputable def f_S_l1Cur_one (t0 : PV Y_spec_l1Cur) (t1 : PV (.int .i64)) : Option (PVs [.bool] × PVs [Y_spec_l1Cur]) :=
  (f_S_l1Cur_pick t0 t1).bind fun r1 =>
    some (((r1.1.1 == 0), ()), (r1.2.1, ()))
noncomputable def ct_S_l1Cur_one : Ct := ⟨[(.ptr, Y_spec_l1Cur), (.bor, (.int .i64))], [(.bool, .b)], fun x => f_S_l1Cur_one x.1 x.2.1⟩
noncomputable def cx_S_l1Cur_one : Cx := ⟨tab, arrs, [(126, ct_S_l1Cur_pick)], [], gl, []⟩
theorem ef_S_l1Cur_one (t0 : PV Y_spec_l1Cur) (t1 : PV (.int .i64)) : denF cx_S_l1Cur_one 0 pl_S_l1Cur_one Tryd.f167.ntmps (bodyOf Tryd.f167) Tryd.f167.results.toList [(.ptr, Y_spec_l1Cur), (.bor, (.int .i64))] [(.bool, .b)] (t0, t1, ()) = f_S_l1Cur_one t0 t1 := by kernel_rfl
theorem ok_S_l1Cur_one : FnOk gl Tryd.prog 167 ct_S_l1Cur_one :=
  fnOk (cx := cx_S_l1Cur_one) (pl := pl_S_l1Cur_one) (dp := 0) (ok0_of tabOk (by unfold ArrOk; kernel_rfl) mix ⟨ok_S_l1Cur_pick, trivial⟩ trivial) Tryd.func167 (by kernel_rfl) (by kernel_rfl) (by kernel_rfl)
    (by rw [show loopsOf (bodyOf Tryd.f167) = [] from by kernel_rfl]; exact trivial) (fun x => ef_S_l1Cur_one x.1 x.2.1)
noncomputable def o_S_l1Cur_text_8 : List Out := [⟨.normal, ⟨[], [3], []⟩, mkSh 27 [(0, .var Y_spec_l1Cur .b), (4, .val S_string (.row .b))]⟩]
noncomputable def pl_S_l1Cur_text_168 : Plan := ⟨[], [], 0, 27⟩
noncomputable def sh_S_l1Cur_text_3 : List Sh := mkSh 27 [(0, .var Y_spec_l1Cur .b), (1, .addr ⟨0, [], 0, 0⟩), (4, .val S_string (.row .b)), (5, .val (.int .i64) .b)]
noncomputable def o_S_l1Cur_text_3 : List Out := [⟨.exit 0, ⟨[], [0, 3], []⟩, mkSh 27 [(0, .var Y_spec_l1Cur .b), (1, .addr ⟨0, [], 0, 0⟩), (4, .val S_string (.row .b))]⟩]
noncomputable def b_S_l1Cur_text_3 (t0 : PV Y_spec_l1Cur) (t4 : PV S_string) (t5 : PV (.int .i64)) : Option ((PV Y_spec_l1Cur × PV S_string × PV (.int .i64) × Unit) ⊕ ((PV Y_spec_l1Cur × PV S_string × Unit))) :=
  bif (decide (t5 > 0)) then
    (f_S_l1Cur_line t0).bind fun r4 =>
      bif decide (r4.1.1.length + [10].length ≤ 1099511627776) then
        bif roomB (t4.length + [(r4.1.1 ++ [10])].length) then
          some (.inl (r4.2.1, (t4 ++ [(r4.1.1 ++ [10])]), (IntKind.wrap .i64 (t5 - 1)), ()))
        else
          none
      else
        none
  else
    some (.inr (t0, t4, ()))
noncomputable def w_S_l1Cur_text_3 : PV Y_spec_l1Cur × PV S_string × PV (.int .i64) × Unit → Option ((PV Y_spec_l1Cur × PV S_string × Unit)) := fix fun d => b_S_l1Cur_text_3 d.1 d.2.1 d.2.2.1
noncomputable def lp_S_l1Cur_text_3 : Lp := ⟨⟨[], [0, 3, 4], []⟩, sh_S_l1Cur_text_3, o_S_l1Cur_text_3, fun d => b_S_l1Cur_text_3 d.1 d.2.1 d.2.2.1⟩
noncomputable def pl_S_l1Cur_text : Plan := ⟨[(8, o_S_l1Cur_text_8)], [(3, lp_S_l1Cur_text_3)], 1, 1⟩
noncomputable def f_S_l1Cur_text (t0 : PV Y_spec_l1Cur) : Option (PVs [S_string] × PVs [Y_spec_l1Cur]) :=
  (f_S_l1Cur_pick t0 9).bind fun r7 =>
    (w_S_l1Cur_text_3 (r7.2.1, [], r7.1.1, ())).bind fun l8 =>
      ((
          (f_S_l1Cur_one l8.1 5).bind fun r13 =>
            bif r13.1.1 then
              (f_S_l1Cur_pick r13.2.1 ([[97], [101, 110, 100], [46]].length : Int)).bind fun r14 =>
                bif inB r14.1.1 [[97], [101, 110, 100], [46]].length then
                  bif roomB (l8.2.1.length + [([[97], [101, 110, 100], [46]].getD r14.1.1.toNat [])].length) then
                    some (r14.2.1, (l8.2.1 ++ [([[97], [101, 110, 100], [46]].getD r14.1.1.toNat [])]), ())
                  else
                    none
                else
                  none
            else
              some (r13.2.1, l8.2.1, ()) : Option ((PV Y_spec_l1Cur × PV S_string × Unit)))).bind fun j15 =>
        some ((j15.2.1, ()), (j15.1, ()))
noncomputable def ct_S_l1Cur_text : Ct := ⟨[(.ptr, Y_spec_l1Cur)], [(S_string, .b)], fun x => f_S_l1Cur_text x.1⟩
noncomputable def cx_S_l1Cur_text : Cx := ⟨tab, arrs, [(126, ct_S_l1Cur_pick), (166, ct_S_l1Cur_line), (167, ct_S_l1Cur_one)], [(168, Tryd.f168, pl_S_l1Cur_text_168)], gl, []⟩
theorem eb_S_l1Cur_text_3 (t0 : PV Y_spec_l1Cur) (t4 : PV S_string) (t5 : PV (.int .i64)) : denK cx_S_l1Cur_text (rcN cx_S_l1Cur_text 1) pl_S_l1Cur_text 1 ((loopsOf (bodyOf Tryd.f125)).getD 0 .skip) (fillS sh_S_l1Cur_text_3 (t0, t4, t5, ())) (roundK 1 lp_S_l1Cur_text_3) = b_S_l1Cur_text_3 t0 t4 t5 := by kernel_rfl
theorem ef_S_l1Cur_text (t0 : PV Y_spec_l1Cur) : denF cx_S_l1Cur_text 1 pl_S_l1Cur_text Tryd.f125.ntmps (bodyOf Tryd.f125) Tryd.f125.results.toList [(.ptr, Y_spec_l1Cur)] [(S_string, .b)] (t0, ()) = f_S_l1Cur_text t0 := by kernel_rfl
theorem ok_S_l1Cur_text : FnOk gl Tryd.prog 125 ct_S_l1Cur_text :=
  fnOk (cx := cx_S_l1Cur_text) (pl := pl_S_l1Cur_text) (dp := 1) (ok0_of tabOk (by unfold ArrOk; kernel_rfl) mix ⟨ok_S_l1Cur_pick, ok_S_l1Cur_line, ok_S_l1Cur_one, trivial⟩ ⟨⟨Tryd.func168, by kernel_rfl, (by rw [show loopsOf (bodyOf Tryd.f168) = [] from by kernel_rfl]; exact trivial)⟩, trivial⟩) Tryd.func125 (by kernel_rfl) (by kernel_rfl) (by kernel_rfl)
    (by rw [show loopsOf (bodyOf Tryd.f125) = [((loopsOf (bodyOf Tryd.f125)).getD 0 .skip)] from by kernel_rfl]; exact ⟨(by rw [show lookup pl_S_l1Cur_text.loops (firstId ((loopsOf (bodyOf Tryd.f125)).getD 0 .skip)) = some lp_S_l1Cur_text_3 from by kernel_rfl]; exact fun d z h => (eb_S_l1Cur_text_3 d.1 d.2.1 d.2.2.1).trans h), trivial⟩) (fun x => ef_S_l1Cur_text x.1)
noncomputable def pl_S_l1OwnT : Plan := ⟨[], [], 0, 0⟩
noncomputable def f_S_l1OwnT (t0 : PV S_string) : Option (PVs [S_string] × PVs []) :=
  bif roomB (([] : PV S_string).length + t0.length) then
    some (((([] : PV S_string) ++ t0), ()), ())
  else
    none
noncomputable def ct_S_l1OwnT : Ct := ⟨[(.bor, S_string)], [(S_string, (.row .b))], fun x => f_S_l1OwnT x.1⟩
noncomputable def cx_S_l1OwnT : Cx := ⟨tab, arrs, [], [], gl, []⟩
theorem ef_S_l1OwnT (t0 : PV S_string) : denF cx_S_l1OwnT 0 pl_S_l1OwnT Tryd.f170.ntmps (bodyOf Tryd.f170) Tryd.f170.results.toList [(.bor, S_string)] [(S_string, (.row .b))] (t0, ()) = f_S_l1OwnT t0 := by kernel_rfl
theorem ok_S_l1OwnT : FnOk gl Tryd.prog 170 ct_S_l1OwnT :=
  fnOk (cx := cx_S_l1OwnT) (pl := pl_S_l1OwnT) (dp := 0) (ok0_of tabOk (by unfold ArrOk; kernel_rfl) mix trivial trivial) Tryd.func170 (by kernel_rfl) (by kernel_rfl) (by kernel_rfl)
    (by rw [show loopsOf (bodyOf Tryd.f170) = [] from by kernel_rfl]; exact trivial) (fun x => ef_S_l1OwnT x.1)
noncomputable def pl_S_l1Ends : Plan := ⟨[], [], 0, 0⟩
noncomputable def f_S_l1Ends (t0 : PV .str) : Option (PVs [.bool] × PVs []) :=
  bif inB (IntKind.wrap .i64 ((t0.length : Int) - 1)) t0.length then
    some (((((t0.getD (IntKind.wrap .i64 ((t0.length : Int) - 1)).toNat 0).toNat : Int) == 10), ()), ())
  else
    none
noncomputable def ct_S_l1Ends : Ct := ⟨[(.bor, .str)], [(.bool, .b)], fun x => f_S_l1Ends x.1⟩
noncomputable def cx_S_l1Ends : Cx := ⟨tab, arrs, [], [], gl, []⟩
theorem ef_S_l1Ends (t0 : PV .str) : denF cx_S_l1Ends 0 pl_S_l1Ends Tryd.f115.ntmps (bodyOf Tryd.f115) Tryd.f115.results.toList [(.bor, .str)] [(.bool, .b)] (t0, ()) = f_S_l1Ends t0 := by kernel_rfl
theorem ok_S_l1Ends : FnOk gl Tryd.prog 115 ct_S_l1Ends :=
  fnOk (cx := cx_S_l1Ends) (pl := pl_S_l1Ends) (dp := 0) (ok0_of tabOk (by unfold ArrOk; kernel_rfl) mix trivial trivial) Tryd.func115 (by kernel_rfl) (by kernel_rfl) (by kernel_rfl)
    (by rw [show loopsOf (bodyOf Tryd.f115) = [] from by kernel_rfl]; exact trivial) (fun x => ef_S_l1Ends x.1)
noncomputable def pl_S_l1Whole : Plan := ⟨[], [], 0, 0⟩
noncomputable def f_S_l1Whole (t0 : PV S_string) : Option (PVs [.bool] × PVs []) :=
  bif ((t0.length : Int) == 0) then
    some ((true, ()), ())
  else
    bif inB (IntKind.wrap .i64 ((t0.length : Int) - 1)) t0.length then
      (f_S_l1Ends (t0.getD ((IntKind.wrap .i64 ((t0.length : Int) - 1)).toNat) [])).bind fun r1 =>
        some ((r1.1.1, ()), ())
    else
      none
noncomputable def ct_S_l1Whole : Ct := ⟨[(.bor, S_string)], [(.bool, .b)], fun x => f_S_l1Whole x.1⟩
noncomputable def cx_S_l1Whole : Cx := ⟨tab, arrs, [(115, ct_S_l1Ends)], [], gl, []⟩
theorem ef_S_l1Whole (t0 : PV S_string) : denF cx_S_l1Whole 0 pl_S_l1Whole Tryd.f171.ntmps (bodyOf Tryd.f171) Tryd.f171.results.toList [(.bor, S_string)] [(.bool, .b)] (t0, ()) = f_S_l1Whole t0 := by kernel_rfl
theorem ok_S_l1Whole : FnOk gl Tryd.prog 171 ct_S_l1Whole :=
  fnOk (cx := cx_S_l1Whole) (pl := pl_S_l1Whole) (dp := 0) (ok0_of tabOk (by unfold ArrOk; kernel_rfl) mix ⟨ok_S_l1Ends, trivial⟩ trivial) Tryd.func171 (by kernel_rfl) (by kernel_rfl) (by kernel_rfl)
    (by rw [show loopsOf (bodyOf Tryd.f171) = [] from by kernel_rfl]; exact trivial) (fun x => ef_S_l1Whole x.1)
noncomputable def pl_S_l1Plain : Plan := ⟨[], [], 0, 0⟩
noncomputable def f_S_l1Plain (t0 : PV .str) : Option (PVs [.str] × PVs []) :=
  (f_S_l1Ends t0).bind fun r4 =>
    bif r4.1.1 then
      bif cutB 0 (IntKind.wrap .i64 ((t0.length : Int) - 1)) t0.length then
        some (((cutL 0 (IntKind.wrap .i64 ((t0.length : Int) - 1)) t0), ()), ())
      else
        none
    else
      some ((t0, ()), ())
noncomputable def ct_S_l1Plain : Ct := ⟨[(.bor, .str)], [(.str, .b)], fun x => f_S_l1Plain x.1⟩
noncomputable def cx_S_l1Plain : Cx := ⟨tab, arrs, [(115, ct_S_l1Ends)], [], gl, []⟩
theorem ef_S_l1Plain (t0 : PV .str) : denF cx_S_l1Plain 0 pl_S_l1Plain Tryd.f70.ntmps (bodyOf Tryd.f70) Tryd.f70.results.toList [(.bor, .str)] [(.str, .b)] (t0, ()) = f_S_l1Plain t0 := by kernel_rfl
theorem ok_S_l1Plain : FnOk gl Tryd.prog 70 ct_S_l1Plain :=
  fnOk (cx := cx_S_l1Plain) (pl := pl_S_l1Plain) (dp := 0) (ok0_of tabOk (by unfold ArrOk; kernel_rfl) mix ⟨ok_S_l1Ends, trivial⟩ trivial) Tryd.func70 (by kernel_rfl) (by kernel_rfl) (by kernel_rfl)
    (by rw [show loopsOf (bodyOf Tryd.f70) = [] from by kernel_rfl]; exact trivial) (fun x => ef_S_l1Plain x.1)
noncomputable def o_S_l1Cur_other_14 : List Out := [⟨.normal, ⟨[], [0, 5, 6, 7, 29, 30, 72, 83, 84], []⟩, mkSh 120 [(0, .var Y_spec_l1Cur .b), (1, .addr ⟨0, [], 0, 0⟩), (6, .val S_string (.row .b)), (7, .val (.int .i64) .b), (8, .val (.int .i64) .b), (73, .val .bool .b)]⟩]
noncomputable def o_S_l1Cur_other_8 : List Out := [⟨.normal, ⟨[], [0, 5, 6, 7, 31, 67, 68, 69, 70, 71, 83, 84], []⟩, mkSh 120 [(0, .var Y_spec_l1Cur .b), (1, .addr ⟨0, [], 0, 0⟩), (6, .val S_string (.row .b)), (7, .val (.int .i64) .b), (8, .val (.int .i64) .b), (32, .val .bool .b)]⟩]
noncomputable def o_S_l1Cur_other_4 : List Out := [⟨.normal, ⟨[], [0, 5, 6, 29, 30, 67, 68, 69, 70, 71, 83, 84], []⟩, mkSh 120 [(0, .var Y_spec_l1Cur .b), (1, .addr ⟨0, [], 0, 0⟩), (6, .val S_string (.row .b)), (7, .val (.int .i64) .b)]⟩]
noncomputable def o_S_l1Cur_other_16 : List Out := [⟨.normal, ⟨[], [5, 85], []⟩, mkSh 120 [(0, .var Y_spec_l1Cur .b), (6, .val S_string (.row .b)), (86, .val .bool .b)]⟩]
noncomputable def o_S_l1Cur_other_21 : List Out := [⟨.normal, ⟨[], [5], []⟩, mkSh 120 [(0, .var Y_spec_l1Cur .b), (6, .val S_string (.row .b))]⟩]
noncomputable def sh_S_l1Cur_other_3 : List Sh := mkSh 120 [(0, .var Y_spec_l1Cur .b), (1, .addr ⟨0, [], 0, 0⟩), (6, .val S_string (.row .b)), (7, .val (.int .i64) .b)]
noncomputable def o_S_l1Cur_other_3 : List Out := [⟨.exit 0, ⟨[], [0, 5, 83, 84], []⟩, mkSh 120 [(0, .var Y_spec_l1Cur .b), (1, .addr ⟨0, [], 0, 0⟩), (6, .val S_string (.row .b))]⟩]
noncomputable def b_S_l1Cur_other_3 (t0 : PV Y_spec_l1Cur) (t6 : PV S_string) (t7 : PV (.int .i64)) : Option ((PV Y_spec_l1Cur × PV S_string × PV (.int .i64) × Unit) ⊕ ((PV Y_spec_l1Cur × PV S_string × Unit))) :=
  bif (decide (t7 > 0)) then
    ((
        (f_S_l1Cur_pick t0 (IntKind.wrap .i64 ((t6.length : Int) + 1))).bind fun r6 =>
          (f_S_l1Cur_pick r6.2.1 3).bind fun r8 =>
            bif (r8.1.1 == 0) then
              bif (decide (r6.1.1 < (t6.length : Int))) then
                bif cutB 0 r6.1.1 t6.length then
                  (f_S_l1OwnT (cutL 0 r6.1.1 t6)).bind fun r9 =>
                    bif cutB (IntKind.wrap .i64 (r6.1.1 + 1)) (t6.length : Int) t6.length then
                      bif roomB (r9.1.1.length + (cutL (IntKind.wrap .i64 (r6.1.1 + 1)) (t6.length : Int) t6).length) then
                        some (r8.2.1, (r9.1.1 ++ (cutL (IntKind.wrap .i64 (r6.1.1 + 1)) (t6.length : Int) t6)), t7, ())
                      else
                        none
                    else
                      none
                else
                  none
              else
                some (r8.2.1, t6, t7, ())
            else
              bif (r8.1.1 == 1) then
                ((
                    bif (decide (r6.1.1 < (t6.length : Int))) then
                      bif inB r6.1.1 t6.length then
                        (f_S_l1Ends (t6.getD r6.1.1.toNat [])).bind fun r10 =>
                          some (r8.2.1, t6, t7, r6.1.1, r10.1.1, ())
                      else
                        none
                    else
                      some (r8.2.1, t6, t7, r6.1.1, false, ()) : Option ((PV Y_spec_l1Cur × PV S_string × PV (.int .i64) × PV (.int .i64) × PV .bool × Unit)))).bind fun j11 =>
                  bif j11.2.2.2.2.1 then
                    (f_S_l1Cur_line j11.1).bind fun r12 =>
                      bif decide (r12.1.1.length + [10].length ≤ 1099511627776) then
                        bif inB j11.2.2.2.1 j11.2.1.length then
                          some (r12.2.1, (j11.2.1.set j11.2.2.2.1.toNat (r12.1.1 ++ [10])), j11.2.2.1, ())
                        else
                          none
                      else
                        none
                  else
                    some (j11.1, j11.2.1, j11.2.2.1, ())
              else
                ((
                    bif (decide (r6.1.1 < (t6.length : Int))) then
                      some (r8.2.1, t6, t7, r6.1.1, true, ())
                    else
                      (f_S_l1Whole t6).bind fun r13 =>
                        some (r8.2.1, t6, t7, r6.1.1, r13.1.1, ()) : Option ((PV Y_spec_l1Cur × PV S_string × PV (.int .i64) × PV (.int .i64) × PV .bool × Unit)))).bind fun j14 =>
                  bif j14.2.2.2.2.1 then
                    bif cutB 0 j14.2.2.2.1 j14.2.1.length then
                      (f_S_l1OwnT (cutL 0 j14.2.2.2.1 j14.2.1)).bind fun r15 =>
                        (f_S_l1Cur_line j14.1).bind fun r16 =>
                          bif decide (r16.1.1.length + [10].length ≤ 1099511627776) then
                            bif roomB (r15.1.1.length + [(r16.1.1 ++ [10])].length) then
                              bif cutB j14.2.2.2.1 (j14.2.1.length : Int) j14.2.1.length then
                                bif roomB ((r15.1.1 ++ [(r16.1.1 ++ [10])]).length + (cutL j14.2.2.2.1 (j14.2.1.length : Int) j14.2.1).length) then
                                  some (r16.2.1, ((r15.1.1 ++ [(r16.1.1 ++ [10])]) ++ (cutL j14.2.2.2.1 (j14.2.1.length : Int) j14.2.1)), j14.2.2.1, ())
                                else
                                  none
                              else
                                none
                            else
                              none
                          else
                            none
                    else
                      none
                  else
                    some (j14.1, j14.2.1, j14.2.2.1, ()) : Option ((PV Y_spec_l1Cur × PV S_string × PV (.int .i64) × Unit)))).bind fun j17 =>
      some (.inl (j17.1, j17.2.1, (IntKind.wrap .i64 (j17.2.2.1 - 1)), ()))
  else
    some (.inr (t0, t6, ()))
noncomputable def w_S_l1Cur_other_3 : PV Y_spec_l1Cur × PV S_string × PV (.int .i64) × Unit → Option ((PV Y_spec_l1Cur × PV S_string × Unit)) := fix fun d => b_S_l1Cur_other_3 d.1 d.2.1 d.2.2.1
noncomputable def lp_S_l1Cur_other_3 : Lp := ⟨⟨[], [0, 5, 6, 29, 30, 67, 68, 69, 70, 71, 83, 84], []⟩, sh_S_l1Cur_other_3, o_S_l1Cur_other_3, fun d => b_S_l1Cur_other_3 d.1 d.2.1 d.2.2.1⟩
noncomputable def pl_S_l1Cur_other : Plan := ⟨[(14, o_S_l1Cur_other_14), (8, o_S_l1Cur_other_8), (4, o_S_l1Cur_other_4), (16, o_S_l1Cur_other_16), (21, o_S_l1Cur_other_21)], [(3, lp_S_l1Cur_other_3)], 0, 1⟩
noncomputable def f_S_l1Cur_other (t0 : PV Y_spec_l1Cur) (t1 : PV S_string) : Option (PVs [S_string] × PVs [Y_spec_l1Cur]) :=
  (f_S_l1OwnT t1).bind fun r2 =>
    (f_S_l1Cur_pick t0 4).bind fun r20 =>
      (w_S_l1Cur_other_3 (r20.2.1, r2.1.1, r20.1.1, ())).bind fun l21 =>
        ((
            ((
                bif (decide ((l21.2.1.length : Int) > 0)) then
                  (f_S_l1Cur_one l21.1 6).bind fun r29 =>
                    some (r29.2.1, l21.2.1, r29.1.1, ())
                else
                  some (l21.1, l21.2.1, false, ()) : Option ((PV Y_spec_l1Cur × PV S_string × PV .bool × Unit)))).bind fun j30 =>
              bif j30.2.2.1 then
                bif inB (IntKind.wrap .i64 ((j30.2.1.length : Int) - 1)) j30.2.1.length then
                  (f_S_l1Plain (j30.2.1.getD ((IntKind.wrap .i64 ((j30.2.1.length : Int) - 1)).toNat) [])).bind fun r32 =>
                    bif inB (IntKind.wrap .i64 ((j30.2.1.length : Int) - 1)) j30.2.1.length then
                      (f_S_l1Ends (j30.2.1.getD ((IntKind.wrap .i64 ((j30.2.1.length : Int) - 1)).toNat) [])).bind fun r34 =>
                        bif (!r34.1.1) then
                          bif decide (r32.1.1.length + [10].length ≤ 1099511627776) then
                            bif inB (IntKind.wrap .i64 ((j30.2.1.length : Int) - 1)) j30.2.1.length then
                              some (j30.1, (j30.2.1.set ((IntKind.wrap .i64 ((j30.2.1.length : Int) - 1)).toNat) (r32.1.1 ++ [10])), ())
                            else
                              none
                          else
                            none
                        else
                          bif (!(r32.1.1 == [])) then
                            bif inB (IntKind.wrap .i64 ((j30.2.1.length : Int) - 1)) j30.2.1.length then
                              some (j30.1, (j30.2.1.set ((IntKind.wrap .i64 ((j30.2.1.length : Int) - 1)).toNat) r32.1.1), ())
                            else
                              none
                          else
                            some (j30.1, j30.2.1, ())
                    else
                      none
                else
                  none
              else
                some (j30.1, j30.2.1, ()) : Option ((PV Y_spec_l1Cur × PV S_string × Unit)))).bind fun j35 =>
          some ((j35.2.1, ()), (j35.1, ()))
noncomputable def ct_S_l1Cur_other : Ct := ⟨[(.ptr, Y_spec_l1Cur), (.bor, S_string)], [(S_string, .b)], fun x => f_S_l1Cur_other x.1 x.2.1⟩
noncomputable def cx_S_l1Cur_other : Cx := ⟨tab, arrs, [(70, ct_S_l1Plain), (115, ct_S_l1Ends), (126, ct_S_l1Cur_pick), (166, ct_S_l1Cur_line), (167, ct_S_l1Cur_one), (170, ct_S_l1OwnT), (171, ct_S_l1Whole)], [], gl, []⟩
theorem eb_S_l1Cur_other_3 (t0 : PV Y_spec_l1Cur) (t6 : PV S_string) (t7 : PV (.int .i64)) : denK cx_S_l1Cur_other (rcN cx_S_l1Cur_other 0) pl_S_l1Cur_other 1 ((loopsOf (bodyOf Tryd.f127)).getD 0 .skip) (fillS sh_S_l1Cur_other_3 (t0, t6, t7, ())) (roundK 1 lp_S_l1Cur_other_3) = b_S_l1Cur_other_3 t0 t6 t7 := by kernel_rfl
theorem ef_S_l1Cur_other (t0 : PV Y_spec_l1Cur) (t1 : PV S_string) : denF cx_S_l1Cur_other 0 pl_S_l1Cur_other Tryd.f127.ntmps (bodyOf Tryd.f127) Tryd.f127.results.toList [(.ptr, Y_spec_l1Cur), (.bor, S_string)] [(S_string, .b)] (t0, t1, ()) = f_S_l1Cur_other t0 t1 := by kernel_rfl
theorem ok_S_l1Cur_other : FnOk gl Tryd.prog 127 ct_S_l1Cur_other :=
  fnOk (cx := cx_S_l1Cur_other) (pl := pl_S_l1Cur_other) (dp := 0) (ok0_of tabOk (by unfold ArrOk; kernel_rfl) mix ⟨ok_S_l1Plain, ok_S_l1Ends, ok_S_l1Cur_pick, ok_S_l1Cur_line, ok_S_l1Cur_one, ok_S_l1OwnT, ok_S_l1Whole, trivial⟩ trivial) Tryd.func127 (by kernel_rfl) (by kernel_rfl) (by kernel_rfl)
    (by rw [show loopsOf (bodyOf Tryd.f127) = [((loopsOf (bodyOf Tryd.f127)).getD 0 .skip)] from by kernel_rfl]; exact ⟨(by rw [show lookup pl_S_l1Cur_other.loops (firstId ((loopsOf (bodyOf Tryd.f127)).getD 0 .skip)) = some lp_S_l1Cur_other_3 from by kernel_rfl]; exact fun d z h => (eb_S_l1Cur_other_3 d.1 d.2.1 d.2.2.1).trans h), trivial⟩) (fun x => ef_S_l1Cur_other x.1 x.2.1)
noncomputable def o_S_l1Cur_versions_14 : List Out := [⟨.normal, ⟨[(3, (.row .b))], [3], []⟩, mkSh 50 [(0, .var Y_spec_l1Cur .b), (4, .val S_S_string (.row .b))]⟩]
noncomputable def sh_S_l1Cur_versions_3 : List Sh := mkSh 50 [(0, .var Y_spec_l1Cur .b), (1, .addr ⟨0, [], 0, 0⟩), (4, .val S_S_string (.row .b)), (5, .val (.int .i64) .b)]
noncomputable def o_S_l1Cur_versions_3 : List Out := [⟨.exit 0, ⟨[], [0, 3], []⟩, mkSh 50 [(0, .var Y_spec_l1Cur .b), (1, .addr ⟨0, [], 0, 0⟩), (4, .val S_S_string (.row .b))]⟩]
noncomputable def b_S_l1Cur_versions_3 (t0 : PV Y_spec_l1Cur) (t4 : PV S_S_string) (t5 : PV (.int .i64)) : Option ((PV Y_spec_l1Cur × PV S_S_string × PV (.int .i64) × Unit) ⊕ ((PV Y_spec_l1Cur × PV S_S_string × Unit))) :=
  bif (decide (t5 > 0)) then
    bif inB (IntKind.wrap .i64 ((t4.length : Int) - 1)) t4.length then
      (f_S_l1Cur_other t0 (t4.getD ((IntKind.wrap .i64 ((t4.length : Int) - 1)).toNat) [])).bind fun r6 =>
        bif roomB (t4.length + [r6.1.1].length) then
          some (.inl (r6.2.1, (t4 ++ [r6.1.1]), (IntKind.wrap .i64 (t5 - 1)), ()))
        else
          none
    else
      none
  else
    some (.inr (t0, t4, ()))
noncomputable def w_S_l1Cur_versions_3 : PV Y_spec_l1Cur × PV S_S_string × PV (.int .i64) × Unit → Option ((PV Y_spec_l1Cur × PV S_S_string × Unit)) := fix fun d => b_S_l1Cur_versions_3 d.1 d.2.1 d.2.2.1
noncomputable def lp_S_l1Cur_versions_3 : Lp := ⟨⟨[], [0, 3, 4], []⟩, sh_S_l1Cur_versions_3, o_S_l1Cur_versions_3, fun d => b_S_l1Cur_versions_3 d.1 d.2.1 d.2.2.1⟩
noncomputable def sh_S_l1Cur_versions_12 : List Sh := mkSh 50 [(0, .var Y_spec_l1Cur .b), (1, .addr ⟨0, [], 0, 0⟩), (4, .val S_S_string (.row .b))]
noncomputable def o_S_l1Cur_versions_12 : List Out := [⟨.exit 3, ⟨[], [3], []⟩, mkSh 50 [(0, .var Y_spec_l1Cur .b), (4, .val S_S_string (.row .b))]⟩]
noncomputable def b_S_l1Cur_versions_12 (t0 : PV Y_spec_l1Cur) (t4 : PV S_S_string) : Option ((PV Y_spec_l1Cur × PV S_S_string × Unit) ⊕ ((PV Y_spec_l1Cur × PV S_S_string × Unit))) :=
  (f_S_l1Cur_pick t0 2).bind fun r14 =>
    bif (decide ((t4.length : Int) < (IntKind.wrap .i64 (8 + r14.1.1)))) then
      bif inB 0 t4.length then
        bif roomB (t4.length + [(t4.getD ((0 : Int).toNat) [])].length) then
          some (.inl (r14.2.1, (t4 ++ [(t4.getD ((0 : Int).toNat) [])]), ()))
        else
          none
      else
        none
    else
      some (.inr (r14.2.1, t4, ()))
noncomputable def w_S_l1Cur_versions_12 : PV Y_spec_l1Cur × PV S_S_string × Unit → Option ((PV Y_spec_l1Cur × PV S_S_string × Unit)) := fix fun d => b_S_l1Cur_versions_12 d.1 d.2.1
noncomputable def lp_S_l1Cur_versions_12 : Lp := ⟨⟨[], [0, 3], []⟩, sh_S_l1Cur_versions_12, o_S_l1Cur_versions_12, fun d => b_S_l1Cur_versions_12 d.1 d.2.1⟩
noncomputable def pl_S_l1Cur_versions : Plan := ⟨[(14, o_S_l1Cur_versions_14)], [(3, lp_S_l1Cur_versions_3), (12, lp_S_l1Cur_versions_12)], 0, 1⟩
noncomputable def f_S_l1Cur_versions (t0 : PV Y_spec_l1Cur) : Option (PVs [S_S_string] × PVs [Y_spec_l1Cur]) :=
  (f_S_l1Cur_text t0).bind fun r2 =>
    (f_S_l1Cur_pick r2.2.1 4).bind fun r9 =>
      (w_S_l1Cur_versions_3 (r9.2.1, [r2.1.1], r9.1.1, ())).bind fun l10 =>
        ((
            (f_S_l1Cur_pick l10.1 30).bind fun r17 =>
              bif (r17.1.1 == 0) then
                some (r17.2.1, [], ())
              else
                bif (r17.1.1 == 1) then
                  bif inB 0 l10.2.1.length then
                    some (r17.2.1, (l10.2.1.set ((0 : Int).toNat) [[97], [98]]), ())
                  else
                    none
                else
                  bif (r17.1.1 == 2) then
                    (w_S_l1Cur_versions_12 (r17.2.1, l10.2.1, ())).bind fun l18 =>
                      some (l18.1, l18.2.1, ())
                  else
                    some (r17.2.1, l10.2.1, ()) : Option ((PV Y_spec_l1Cur × PV S_S_string × Unit)))).bind fun j19 =>
          some ((j19.2.1, ()), (j19.1, ()))
noncomputable def ct_S_l1Cur_versions : Ct := ⟨[(.ptr, Y_spec_l1Cur)], [(S_S_string, .b)], fun x => f_S_l1Cur_versions x.1⟩
noncomputable def cx_S_l1Cur_versions : Cx := ⟨tab, arrs, [(125, ct_S_l1Cur_text), (126, ct_S_l1Cur_pick), (127, ct_S_l1Cur_other)], [], gl, []⟩
theorem eb_S_l1Cur_versions_3 (t0 : PV Y_spec_l1Cur) (t4 : PV S_S_string) (t5 : PV (.int .i64)) : denK cx_S_l1Cur_versions (rcN cx_S_l1Cur_versions 0) pl_S_l1Cur_versions 1 ((loopsOf (bodyOf Tryd.f75)).getD 0 .skip) (fillS sh_S_l1Cur_versions_3 (t0, t4, t5, ())) (roundK 1 lp_S_l1Cur_versions_3) = b_S_l1Cur_versions_3 t0 t4 t5 := by kernel_rfl
theorem eb_S_l1Cur_versions_12 (t0 : PV Y_spec_l1Cur) (t4 : PV S_S_string) : denK cx_S_l1Cur_versions (rcN cx_S_l1Cur_versions 0) pl_S_l1Cur_versions 1 ((loopsOf (bodyOf Tryd.f75)).getD 1 .skip) (fillS sh_S_l1Cur_versions_12 (t0, t4, ())) (roundK 1 lp_S_l1Cur_versions_12) = b_S_l1Cur_versions_12 t0 t4 := by kernel_rfl
theorem ef_S_l1Cur_versions (t0 : PV Y_spec_l1Cur) : denF cx_S_l1Cur_versions 0 pl_S_l1Cur_versions Tryd.f75.ntmps (bodyOf Tryd.f75) Tryd.f75.results.toList [(.ptr, Y_spec_l1Cur)] [(S_S_string, .b)] (t0, ()) = f_S_l1Cur_versions t0 := by kernel_rfl
theorem ok_S_l1Cur_versions : FnOk gl Tryd.prog 75 ct_S_l1Cur_versions :=
  fnOk (cx := cx_S_l1Cur_versions) (pl := pl_S_l1Cur_versions) (dp := 0) (ok0_of tabOk (by unfold ArrOk; kernel_rfl) mix ⟨ok_S_l1Cur_text, ok_S_l1Cur_pick, ok_S_l1Cur_other, trivial⟩ trivial) Tryd.func75 (by kernel_rfl) (by kernel_rfl) (by kernel_rfl)
    (by rw [show loopsOf (bodyOf Tryd.f75) = [((loopsOf (bodyOf Tryd.f75)).getD 0 .skip), ((loopsOf (bodyOf Tryd.f75)).getD 1 .skip)] from by kernel_rfl]; exact ⟨(by rw [show lookup pl_S_l1Cur_versions.loops (firstId ((loopsOf (bodyOf Tryd.f75)).getD 0 .skip)) = some lp_S_l1Cur_versions_3 from by kernel_rfl]; exact fun d z h => (eb_S_l1Cur_versions_3 d.1 d.2.1 d.2.2.1).trans h), (by rw [show lookup pl_S_l1Cur_versions.loops (firstId ((loopsOf (bodyOf Tryd.f75)).getD 1 .skip)) = some lp_S_l1Cur_versions_12 from by kernel_rfl]; exact fun d z h => (eb_S_l1Cur_versions_12 d.1 d.2.1).trans h), trivial⟩) (fun x => ef_S_l1Cur_versions x.1)
noncomputable def pl_S_DrawSinceOf : Plan := ⟨[], [], 0, 0⟩
noncomputable def f_S_DrawSinceOf (t0 : PV S_uint8) : Option (PVs [S_S_string] × PVs []) :=
  (f_S_l1Cur_versions (t0, (0, (0, ())))).bind fun r1 =>
    some ((r1.1.1, ()), ())
noncomputable def ct_S_DrawSinceOf : Ct := ⟨[(.bor, S_uint8)], [(S_S_string, .b)], fun x => f_S_DrawSinceOf x.1⟩
noncomputable def cx_S_DrawSinceOf : Cx := ⟨tab, arrs, [(75, ct_S_l1Cur_versions)], [], gl, []⟩
theorem ef_S_DrawSinceOf (t0 : PV S_uint8) : denF cx_S_DrawSinceOf 0 pl_S_DrawSinceOf Tryd.f29.ntmps (bodyOf Tryd.f29) Tryd.f29.results.toList [(.bor, S_uint8)] [(S_S_string, .b)] (t0, ()) = f_S_DrawSinceOf t0 := by kernel_rfl
theorem ok_S_DrawSinceOf : FnOk gl Tryd.prog 29 ct_S_DrawSinceOf :=
  fnOk (cx := cx_S_DrawSinceOf) (pl := pl_S_DrawSinceOf) (dp := 0) (ok0_of tabOk (by unfold ArrOk; kernel_rfl) mix ⟨ok_S_l1Cur_versions, trivial⟩ trivial) Tryd.func29 (by kernel_rfl) (by kernel_rfl) (by kernel_rfl)
    (by rw [show loopsOf (bodyOf Tryd.f29) = [] from by kernel_rfl]; exact trivial) (fun x => ef_S_DrawSinceOf x.1)
noncomputable def pl_I_in : Plan := ⟨[], [], 0, 0⟩
noncomputable def f_I_in (t0 : PV (.int .i64)) (t1 : PV (.int .i64)) (t2 : PV (.int .i64)) : Option (PVs [.bool] × PVs []) :=
  bif (decide (t0 ≥ t1)) then
    some (((decide (t0 ≤ t2)), ()), ())
  else
    some ((false, ()), ())
noncomputable def ct_I_in : Ct := ⟨[(.bor, (.int .i64)), (.bor, (.int .i64)), (.bor, (.int .i64))], [(.bool, .b)], fun x => f_I_in x.1 x.2.1 x.2.2.1⟩
noncomputable def cx_I_in : Cx := ⟨tab, arrs, [], [], gl, []⟩
theorem ef_I_in (t0 : PV (.int .i64)) (t1 : PV (.int .i64)) (t2 : PV (.int .i64)) : denF cx_I_in 0 pl_I_in Tryd.f80.ntmps (bodyOf Tryd.f80) Tryd.f80.results.toList [(.bor, (.int .i64)), (.bor, (.int .i64)), (.bor, (.int .i64))] [(.bool, .b)] (t0, t1, t2, ()) = f_I_in t0 t1 t2 := by kernel_rfl
theorem ok_I_in : FnOk gl Tryd.prog 80 ct_I_in :=
  fnOk (cx := cx_I_in) (pl := pl_I_in) (dp := 0) (ok0_of tabOk (by unfold ArrOk; kernel_rfl) mix trivial trivial) Tryd.func80 (by kernel_rfl) (by kernel_rfl) (by kernel_rfl)
    (by rw [show loopsOf (bodyOf Tryd.f80) = [] from by kernel_rfl]; exact trivial) (fun x => ef_I_in x.1 x.2.1 x.2.2.1)
noncomputable def pl_I_isLine : Plan := ⟨[], [], 0, 0⟩
noncomputable def f_I_isLine (t0 : PV .str) : Option (PVs [.bool] × PVs []) :=
  (f_I_in (t0.length : Int) 1 30).bind fun r1 =>
    bif r1.1.1 then
      bif cutB 0 (IntKind.wrap .i64 ((t0.length : Int) - 1)) t0.length then
        (f_strings_Contains (cutL 0 (IntKind.wrap .i64 ((t0.length : Int) - 1)) t0) [10]).bind fun r2 =>
          some (((!r2.1.1), ()), ())
      else
        none
    else
      some ((false, ()), ())
noncomputable def ct_I_isLine : Ct := ⟨[(.bor, .str)], [(.bool, .b)], fun x => f_I_isLine x.1⟩
noncomputable def cx_I_isLine : Cx := ⟨tab, arrs, [(80, ct_I_in), (185, ct_strings_Contains)], [], gl, []⟩
theorem ef_I_isLine (t0 : PV .str) : denF cx_I_isLine 0 pl_I_isLine Tryd.f147.ntmps (bodyOf Tryd.f147) Tryd.f147.results.toList [(.bor, .str)] [(.bool, .b)] (t0, ()) = f_I_isLine t0 := by kernel_rfl
theorem ok_I_isLine : FnOk gl Tryd.prog 147 ct_I_isLine :=
  fnOk (cx := cx_I_isLine) (pl := pl_I_isLine) (dp := 0) (ok0_of tabOk (by unfold ArrOk; kernel_rfl) mix ⟨ok_I_in, ok_strings_Contains, trivial⟩ trivial) Tryd.func147 (by kernel_rfl) (by kernel_rfl) (by kernel_rfl)
    (by rw [show loopsOf (bodyOf Tryd.f147) = [] from by kernel_rfl]; exact trivial) (fun x => ef_I_isLine x.1)
noncomputable def pl_I_areLines_1 : Plan := ⟨[], [], 0, 0⟩
noncomputable def f_I_areLines_1 (t0 : PV .str) : Option (PVs [.bool] × PVs []) :=
  (f_I_isLine t0).bind fun r1 =>
    some (((!r1.1.1), ()), ())
noncomputable def ct_I_areLines_1 : Ct := ⟨[(.bor, .str)], [(.bool, .b)], fun x => f_I_areLines_1 x.1⟩
noncomputable def cx_I_areLines_1 : Cx := ⟨tab, arrs, [(147, ct_I_isLine)], [], gl, []⟩
theorem ef_I_areLines_1 (t0 : PV .str) : denF cx_I_areLines_1 0 pl_I_areLines_1 Tryd.f197.ntmps (bodyOf Tryd.f197) Tryd.f197.results.toList [(.bor, .str)] [(.bool, .b)] (t0, ()) = f_I_areLines_1 t0 := by kernel_rfl
theorem ok_I_areLines_1 : FnOk gl Tryd.prog 197 ct_I_areLines_1 :=
  fnOk (cx := cx_I_areLines_1) (pl := pl_I_areLines_1) (dp := 0) (ok0_of tabOk (by unfold ArrOk; kernel_rfl) mix ⟨ok_I_isLine, trivial⟩ trivial) Tryd.func197 (by kernel_rfl) (by kernel_rfl) (by kernel_rfl)
    (by rw [show loopsOf (bodyOf Tryd.f197) = [] from by kernel_rfl]; exact trivial) (fun x => ef_I_areLines_1 x.1)
noncomputable def pl_I_areLines_145 : Plan := ⟨[], [], 1, 11⟩
noncomputable def sh_I_areLines_184_2 : List Sh := mkSh 39 [(0, .val S_string .b), (2, .val .bool .b), (3, .val S_string .b), (4, .val (.int .i64) .b), (5, .val .bool .b), (6, .val .bool .b), (7, .val S_string .b), (11, .val S_string .b), (12, .fn 197 []), (15, .val .bool .b), (16, .val S_string .b), (17, .fn 197 []), (20, .val S_string .b), (21, .fn 197 []), (27, .val (.int .i64) .b), (28, .val (.int .i64) .b)]
noncomputable def o_I_areLines_184_2 : List Out := [⟨.exit 0, ⟨[], [], []⟩, mkSh 39 [(0, .val S_string .b), (2, .val .bool .b), (3, .val S_string .b), (4, .val (.int .i64) .b), (5, .val .bool .b), (6, .val .bool .b), (7, .val S_string .b), (11, .val S_string .b), (12, .fn 197 []), (15, .val .bool .b), (16, .val S_string .b), (17, .fn 197 [])]⟩, ⟨.ret, ⟨[], [4], []⟩, mkSh 39 [(0, .val S_string .b), (2, .val .bool .b), (3, .val S_string .b), (4, .val (.int .i64) .b), (5, .val .bool .b), (6, .val .bool .b), (7, .val S_string .b), (11, .val S_string .b), (12, .fn 197 []), (15, .val .bool .b), (16, .val S_string .b), (17, .fn 197 []), (24, .val (.int .i64) .b)]⟩]
noncomputable def b_I_areLines_184_2 (t0 : PV S_string) (t2 : PV .bool) (t3 : PV S_string) (t4 : PV (.int .i64)) (t5 : PV .bool) (t6 : PV .bool) (t7 : PV S_string) (t11 : PV S_string) (t15 : PV .bool) (t16 : PV S_string) (t20 : PV S_string) (t27 : PV (.int .i64)) (t28 : PV (.int .i64)) : Option ((PV S_string × PV .bool × PV S_string × PV (.int .i64) × PV .bool × PV .bool × PV S_string × PV S_string × PV .bool × PV S_string × PV S_string × PV (.int .i64) × PV (.int .i64) × Unit) ⊕ ((PV S_string × PV .bool × PV S_string × PV (.int .i64) × PV .bool × PV .bool × PV S_string × PV S_string × PV .bool × PV S_string × Unit) ⊕ (PV S_string × PV .bool × PV S_string × PV (.int .i64) × PV .bool × PV .bool × PV S_string × PV S_string × PV .bool × PV S_string × PV (.int .i64) × Unit))) :=
  bif (decide (t28 < t27)) then
    bif inB t28 t20.length then
      (f_I_areLines_1 (t20.getD t28.toNat [])).bind fun r4 =>
        bif r4.1.1 then
          some (.inr (.inr (t0, t2, t3, t4, t5, t6, t7, t11, t15, t16, t28, ())))
        else
          some (.inl (t0, t2, t3, t4, t5, t6, t7, t11, t15, t16, t20, t27, (IntKind.wrap .i64 (t28 + 1)), ()))
    else
      none
  else
    some (.inr (.inl (t0, t2, t3, t4, t5, t6, t7, t11, t15, t16, ())))
noncomputable def w_I_areLines_184_2 : PV S_string × PV .bool × PV S_string × PV (.int .i64) × PV .bool × PV .bool × PV S_string × PV S_string × PV .bool × PV S_string × PV S_string × PV (.int .i64) × PV (.int .i64) × Unit → Option ((PV S_string × PV .bool × PV S_string × PV (.int .i64) × PV .bool × PV .bool × PV S_string × PV S_string × PV .bool × PV S_string × Unit) ⊕ (PV S_string × PV .bool × PV S_string × PV (.int .i64) × PV .bool × PV .bool × PV S_string × PV S_string × PV .bool × PV S_string × PV (.int .i64) × Unit)) := fix fun d => b_I_areLines_184_2 d.1 d.2.1 d.2.2.1 d.2.2.2.1 d.2.2.2.2.1 d.2.2.2.2.2.1 d.2.2.2.2.2.2.1 d.2.2.2.2.2.2.2.1 d.2.2.2.2.2.2.2.2.1 d.2.2.2.2.2.2.2.2.2.1 d.2.2.2.2.2.2.2.2.2.2.1 d.2.2.2.2.2.2.2.2.2.2.2.1 d.2.2.2.2.2.2.2.2.2.2.2.2.1
noncomputable def lp_I_areLines_184_2 : Lp := ⟨⟨[], [0, 1, 7, 8], []⟩, sh_I_areLines_184_2, o_I_areLines_184_2, fun d => b_I_areLines_184_2 d.1 d.2.1 d.2.2.1 d.2.2.2.1 d.2.2.2.2.1 d.2.2.2.2.2.1 d.2.2.2.2.2.2.1 d.2.2.2.2.2.2.2.1 d.2.2.2.2.2.2.2.2.1 d.2.2.2.2.2.2.2.2.2.1 d.2.2.2.2.2.2.2.2.2.2.1 d.2.2.2.2.2.2.2.2.2.2.2.1 d.2.2.2.2.2.2.2.2.2.2.2.2.1⟩
noncomputable def pl_I_areLines_184 : Plan := ⟨[], [(2, lp_I_areLines_184_2)], 0, 20⟩
noncomputable def pl_I_areLines : Plan := ⟨[], [], 2, 0⟩
noncomputable def f_I_areLines (t0 : PV S_string) : Option (PVs [.bool] × PVs []) :=
  bif (decide ((t0.length : Int) ≤ 40)) then
    (w_I_areLines_184_2 (t0, false, t0, (t0.length : Int), (decide ((t0.length : Int) ≤ 40)), true, t0, t0, false, t0, t0, (t0.length : Int), 0, ())).bind fun x9 =>
      match x9 with
      | .inl l7 =>
        bif l7.2.2.2.2.2.1 then
          some (((!(decide ((-1) ≥ 0))), ()), ())
        else
          some ((false, ()), ())
      | .inr l8 =>
        bif l8.2.2.2.2.2.1 then
          some (((!(decide (l8.2.2.2.2.2.2.2.2.2.2.1 ≥ 0))), ()), ())
        else
          some ((false, ()), ())
  else
    some ((false, ()), ())
noncomputable def ct_I_areLines : Ct := ⟨[(.bor, S_string)], [(.bool, .b)], fun x => f_I_areLines x.1⟩
noncomputable def cx_I_areLines : Cx := ⟨tab, arrs, [(197, ct_I_areLines_1)], [(145, Tryd.f145, pl_I_areLines_145), (184, Tryd.f184, pl_I_areLines_184)], gl, []⟩
theorem eb_I_areLines_184_2 (t0 : PV S_string) (t2 : PV .bool) (t3 : PV S_string) (t4 : PV (.int .i64)) (t5 : PV .bool) (t6 : PV .bool) (t7 : PV S_string) (t11 : PV S_string) (t15 : PV .bool) (t16 : PV S_string) (t20 : PV S_string) (t27 : PV (.int .i64)) (t28 : PV (.int .i64)) : denK cx_I_areLines (rcN cx_I_areLines 0) pl_I_areLines_184 20 ((loopsOf (bodyOf Tryd.f184)).getD 0 .skip) (fillS sh_I_areLines_184_2 (t0, t2, t3, t4, t5, t6, t7, t11, t15, t16, t20, t27, t28, ())) (roundK 20 lp_I_areLines_184_2) = b_I_areLines_184_2 t0 t2 t3 t4 t5 t6 t7 t11 t15 t16 t20 t27 t28 := by kernel_rfl
theorem ef_I_areLines (t0 : PV S_string) : denF cx_I_areLines 2 pl_I_areLines Tryd.f173.ntmps (bodyOf Tryd.f173) Tryd.f173.results.toList [(.bor, S_string)] [(.bool, .b)] (t0, ()) = f_I_areLines t0 := by kernel_rfl
theorem ok_I_areLines : FnOk gl Tryd.prog 173 ct_I_areLines :=
  fnOk (cx := cx_I_areLines) (pl := pl_I_areLines) (dp := 2) (ok0_of tabOk (by unfold ArrOk; kernel_rfl) mix ⟨ok_I_areLines_1, trivial⟩ ⟨⟨Tryd.func145, by kernel_rfl, (by rw [show loopsOf (bodyOf Tryd.f145) = [] from by kernel_rfl]; exact trivial)⟩, ⟨Tryd.func184, by kernel_rfl, (by rw [show loopsOf (bodyOf Tryd.f184) = [((loopsOf (bodyOf Tryd.f184)).getD 0 .skip)] from by kernel_rfl]; exact ⟨(by rw [show lookup pl_I_areLines_184.loops (firstId ((loopsOf (bodyOf Tryd.f184)).getD 0 .skip)) = some lp_I_areLines_184_2 from by kernel_rfl]; exact fun d z h => (eb_I_areLines_184_2 d.1 d.2.1 d.2.2.1 d.2.2.2.1 d.2.2.2.2.1 d.2.2.2.2.2.1 d.2.2.2.2.2.2.1 d.2.2.2.2.2.2.2.1 d.2.2.2.2.2.2.2.2.1 d.2.2.2.2.2.2.2.2.2.1 d.2.2.2.2.2.2.2.2.2.2.1 d.2.2.2.2.2.2.2.2.2.2.2.1 d.2.2.2.2.2.2.2.2.2.2.2.2.1).trans h), trivial⟩)⟩, trivial⟩) Tryd.func173 (by kernel_rfl) (by kernel_rfl) (by kernel_rfl)
    (by rw [show loopsOf (bodyOf Tryd.f173) = [] from by kernel_rfl]; exact trivial) (fun x => ef_I_areLines x.1)
noncomputable def pl_internal_stringslite_HasSuffix : Plan := ⟨[], [], 0, 0⟩
noncomputable def f_internal_stringslite_HasSuffix (t0 : PV .str) (t1 : PV .str) : Option (PVs [.bool] × PVs []) :=
  bif (decide ((t0.length : Int) ≥ (t1.length : Int))) then
    bif cutB (IntKind.wrap .i64 ((t0.length : Int) - (t1.length : Int))) (t0.length : Int) t0.length then
      some ((((cutL (IntKind.wrap .i64 ((t0.length : Int) - (t1.length : Int))) (t0.length : Int) t0) == t1), ()), ())
    else
      none
  else
    some ((false, ()), ())
noncomputable def ct_internal_stringslite_HasSuffix : Ct := ⟨[(.bor, .str), (.bor, .str)], [(.bool, .b)], fun x => f_internal_stringslite_HasSuffix x.1 x.2.1⟩
noncomputable def cx_internal_stringslite_HasSuffix : Cx := ⟨tab, arrs, [], [], gl, []⟩
theorem ef_internal_stringslite_HasSuffix (t0 : PV .str) (t1 : PV .str) : denF cx_internal_stringslite_HasSuffix 0 pl_internal_stringslite_HasSuffix Tryd.f193.ntmps (bodyOf Tryd.f193) Tryd.f193.results.toList [(.bor, .str), (.bor, .str)] [(.bool, .b)] (t0, t1, ()) = f_internal_stringslite_HasSuffix t0 t1 := by kernel_rfl
theorem ok_internal_stringslite_HasSuffix : FnOk gl Tryd.prog 193 ct_internal_stringslite_HasSuffix :=
  fnOk (cx := cx_internal_stringslite_HasSuffix) (pl := pl_internal_stringslite_HasSuffix) (dp := 0) (ok0_of tabOk (by unfold ArrOk; kernel_rfl) mix trivial trivial) Tryd.func193 (by kernel_rfl) (by kernel_rfl) (by kernel_rfl)
    (by rw [show loopsOf (bodyOf Tryd.f193) = [] from by kernel_rfl]; exact trivial) (fun x => ef_internal_stringslite_HasSuffix x.1 x.2.1)
noncomputable def pl_strings_HasSuffix : Plan := ⟨[], [], 0, 0⟩
noncomputable def f_strings_HasSuffix (t0 : PV .str) (t1 : PV .str) : Option (PVs [.bool] × PVs []) :=
  (f_internal_stringslite_HasSuffix t0 t1).bind fun r1 =>
    some ((r1.1.1, ()), ())
noncomputable def ct_strings_HasSuffix : Ct := ⟨[(.bor, .str), (.bor, .str)], [(.bool, .b)], fun x => f_strings_HasSuffix x.1 x.2.1⟩
noncomputable def cx_strings_HasSuffix : Cx := ⟨tab, arrs, [(193, ct_internal_stringslite_HasSuffix)], [], gl, []⟩
theorem ef_strings_HasSuffix (t0 : PV .str) (t1 : PV .str) : denF cx_strings_HasSuffix 0 pl_strings_HasSuffix Tryd.f186.ntmps (bodyOf Tryd.f186) Tryd.f186.results.toList [(.bor, .str), (.bor, .str)] [(.bool, .b)] (t0, t1, ()) = f_strings_HasSuffix t0 t1 := by kernel_rfl
theorem ok_strings_HasSuffix : FnOk gl Tryd.prog 186 ct_strings_HasSuffix :=
  fnOk (cx := cx_strings_HasSuffix) (pl := pl_strings_HasSuffix) (dp := 0) (ok0_of tabOk (by unfold ArrOk; kernel_rfl) mix ⟨ok_internal_stringslite_HasSuffix, trivial⟩ trivial) Tryd.func186 (by kernel_rfl) (by kernel_rfl) (by kernel_rfl)
    (by rw [show loopsOf (bodyOf Tryd.f186) = [] from by kernel_rfl]; exact trivial) (fun x => ef_strings_HasSuffix x.1 x.2.1)
noncomputable def pl_I_isEnded : Plan := ⟨[], [], 0, 0⟩
noncomputable def f_I_isEnded (t0 : PV .str) : Option (PVs [.bool] × PVs []) :=
  (f_strings_HasSuffix t0 [10]).bind fun r1 =>
    some ((r1.1.1, ()), ())
noncomputable def ct_I_isEnded : Ct := ⟨[(.bor, .str)], [(.bool, .b)], fun x => f_I_isEnded x.1⟩
noncomputable def cx_I_isEnded : Cx := ⟨tab, arrs, [(186, ct_strings_HasSuffix)], [], gl, []⟩
theorem ef_I_isEnded (t0 : PV .str) : denF cx_I_isEnded 0 pl_I_isEnded Tryd.f148.ntmps (bodyOf Tryd.f148) Tryd.f148.results.toList [(.bor, .str)] [(.bool, .b)] (t0, ()) = f_I_isEnded t0 := by kernel_rfl
theorem ok_I_isEnded : FnOk gl Tryd.prog 148 ct_I_isEnded :=
  fnOk (cx := cx_I_isEnded) (pl := pl_I_isEnded) (dp := 0) (ok0_of tabOk (by unfold ArrOk; kernel_rfl) mix ⟨ok_strings_HasSuffix, trivial⟩ trivial) Tryd.func148 (by kernel_rfl) (by kernel_rfl) (by kernel_rfl)
    (by rw [show loopsOf (bodyOf Tryd.f148) = [] from by kernel_rfl]; exact trivial) (fun x => ef_I_isEnded x.1)
noncomputable def o_I_goodLines_7 : List Out := [⟨.normal, ⟨[], [0, 8, 9, 10, 24], []⟩, mkSh 26 [(0, .val S_string .b), (8, .val S_string .b), (9, .val (.int .i64) .b), (10, .val (.int .i64) .b), (24, .val .bool .b)]⟩]
noncomputable def sh_I_goodLines_4 : List Sh := mkSh 26 [(0, .val S_string .b), (8, .val S_string .b), (9, .val (.int .i64) .b), (10, .val (.int .i64) .b)]
noncomputable def o_I_goodLines_4 : List Out := [⟨.exit 0, ⟨[], [], []⟩, mkSh 26 []⟩, ⟨.ret, ⟨[], [2], []⟩, mkSh 26 [(2, .val .bool .b)]⟩]
noncomputable def b_I_goodLines_4 (t0 : PV S_string) (t8 : PV S_string) (t9 : PV (.int .i64)) (t10 : PV (.int .i64)) : Option ((PV S_string × PV S_string × PV (.int .i64) × PV (.int .i64) × Unit) ⊕ ((Unit) ⊕ (PV .bool × Unit))) :=
  bif (decide (t10 < t9)) then
    bif inB t10 t8.length then
      ((
          bif (decide (t10 < (IntKind.wrap .i64 ((t0.length : Int) - 1)))) then
            (f_I_isEnded (t8.getD t10.toNat [])).bind fun r7 =>
              some (t0, t8, t9, t10, (!r7.1.1), ())
          else
            some (t0, t8, t9, t10, false, ()) : Option ((PV S_string × PV S_string × PV (.int .i64) × PV (.int .i64) × PV .bool × Unit)))).bind fun j8 =>
        bif j8.2.2.2.2.1 then
          some (.inr (.inr (false, ())))
        else
          some (.inl (j8.1, j8.2.1, j8.2.2.1, (IntKind.wrap .i64 (j8.2.2.2.1 + 1)), ()))
    else
      none
  else
    some (.inr (.inl ()))
noncomputable def w_I_goodLines_4 : PV S_string × PV S_string × PV (.int .i64) × PV (.int .i64) × Unit → Option ((Unit) ⊕ (PV .bool × Unit)) := fix fun d => b_I_goodLines_4 d.1 d.2.1 d.2.2.1 d.2.2.2.1
noncomputable def lp_I_goodLines_4 : Lp := ⟨⟨[], [0, 8, 9, 10, 21, 22, 23], []⟩, sh_I_goodLines_4, o_I_goodLines_4, fun d => b_I_goodLines_4 d.1 d.2.1 d.2.2.1 d.2.2.2.1⟩
noncomputable def pl_I_goodLines : Plan := ⟨[(7, o_I_goodLines_7)], [(4, lp_I_goodLines_4)], 0, 0⟩
noncomputable def f_I_goodLines (t0 : PV S_string) : Option (PVs [.bool] × PVs []) :=
  (f_I_areLines t0).bind fun r4 =>
    bif (!r4.1.1) then
      some ((false, ()), ())
    else
      (w_I_goodLines_4 (t0, t0, (t0.length : Int), 0, ())).bind fun x13 =>
        match x13 with
        | .inl l11 =>
          some ((true, ()), ())
        | .inr l12 =>
          some ((l12.1, ()), ())
noncomputable def ct_I_goodLines : Ct := ⟨[(.bor, S_string)], [(.bool, .b)], fun x => f_I_goodLines x.1⟩
noncomputable def cx_I_goodLines : Cx := ⟨tab, arrs, [(148, ct_I_isEnded), (173, ct_I_areLines)], [], gl, []⟩
theorem eb_I_goodLines_4 (t0 : PV S_string) (t8 : PV S_string) (t9 : PV (.int .i64)) (t10 : PV (.int .i64)) : denK cx_I_goodLines (rcN cx_I_goodLines 0) pl_I_goodLines 0 ((loopsOf (bodyOf Tryd.f130)).getD 0 .skip) (fillS sh_I_goodLines_4 (t0, t8, t9, t10, ())) (roundK 0 lp_I_goodLines_4) = b_I_goodLines_4 t0 t8 t9 t10 := by kernel_rfl
theorem ef_I_goodLines (t0 : PV S_string) : denF cx_I_goodLines 0 pl_I_goodLines Tryd.f130.ntmps (bodyOf Tryd.f130) Tryd.f130.results.toList [(.bor, S_string)] [(.bool, .b)] (t0, ()) = f_I_goodLines t0 := by kernel_rfl
theorem ok_I_goodLines : FnOk gl Tryd.prog 130 ct_I_goodLines :=
  fnOk (cx := cx_I_goodLines) (pl := pl_I_goodLines) (dp := 0) (ok0_of tabOk (by unfold ArrOk; kernel_rfl) mix ⟨ok_I_isEnded, ok_I_areLines, trivial⟩ trivial) Tryd.func130 (by kernel_rfl) (by kernel_rfl) (by kernel_rfl)
    (by rw [show loopsOf (bodyOf Tryd.f130) = [((loopsOf (bodyOf Tryd.f130)).getD 0 .skip)] from by kernel_rfl]; exact ⟨(by rw [show lookup pl_I_goodLines.loops (firstId ((loopsOf (bodyOf Tryd.f130)).getD 0 .skip)) = some lp_I_goodLines_4 from by kernel_rfl]; exact fun d z h => (eb_I_goodLines_4 d.1 d.2.1 d.2.2.1 d.2.2.2.1).trans h), trivial⟩) (fun x => ef_I_goodLines x.1)
noncomputable def pl_I_areVersions_1 : Plan := ⟨[], [], 0, 0⟩
noncomputable def f_I_areVersions_1 (t0 : PV S_string) : Option (PVs [.bool] × PVs []) :=
  (f_I_goodLines t0).bind fun r1 =>
    some (((!r1.1.1), ()), ())
noncomputable def ct_I_areVersions_1 : Ct := ⟨[(.bor, S_string)], [(.bool, .b)], fun x => f_I_areVersions_1 x.1⟩
noncomputable def cx_I_areVersions_1 : Cx := ⟨tab, arrs, [(130, ct_I_goodLines)], [], gl, []⟩
theorem ef_I_areVersions_1 (t0 : PV S_string) : denF cx_I_areVersions_1 0 pl_I_areVersions_1 Tryd.f129.ntmps (bodyOf Tryd.f129) Tryd.f129.results.toList [(.bor, S_string)] [(.bool, .b)] (t0, ()) = f_I_areVersions_1 t0 := by kernel_rfl
theorem ok_I_areVersions_1 : FnOk gl Tryd.prog 129 ct_I_areVersions_1 :=
  fnOk (cx := cx_I_areVersions_1) (pl := pl_I_areVersions_1) (dp := 0) (ok0_of tabOk (by unfold ArrOk; kernel_rfl) mix ⟨ok_I_goodLines, trivial⟩ trivial) Tryd.func129 (by kernel_rfl) (by kernel_rfl) (by kernel_rfl)
    (by rw [show loopsOf (bodyOf Tryd.f129) = [] from by kernel_rfl]; exact trivial) (fun x => ef_I_areVersions_1 x.1)
noncomputable def pl_I_areVersions_128 : Plan := ⟨[], [], 1, 11⟩
noncomputable def sh_I_areVersions_172_2 : List Sh := mkSh 39 [(0, .val S_S_string .b), (2, .val .bool .b), (3, .val S_S_string .b), (4, .val (.int .i64) .b), (5, .val .bool .b), (6, .val .bool .b), (7, .val S_S_string .b), (11, .val S_S_string .b), (12, .fn 129 []), (15, .val .bool .b), (16, .val S_S_string .b), (17, .fn 129 []), (20, .val S_S_string .b), (21, .fn 129 []), (27, .val (.int .i64) .b), (28, .val (.int .i64) .b)]
noncomputable def o_I_areVersions_172_2 : List Out := [⟨.exit 0, ⟨[], [], []⟩, mkSh 39 [(0, .val S_S_string .b), (2, .val .bool .b), (3, .val S_S_string .b), (4, .val (.int .i64) .b), (5, .val .bool .b), (6, .val .bool .b), (7, .val S_S_string .b), (11, .val S_S_string .b), (12, .fn 129 []), (15, .val .bool .b), (16, .val S_S_string .b), (17, .fn 129 [])]⟩, ⟨.ret, ⟨[], [4], []⟩, mkSh 39 [(0, .val S_S_string .b), (2, .val .bool .b), (3, .val S_S_string .b), (4, .val (.int .i64) .b), (5, .val .bool .b), (6, .val .bool .b), (7, .val S_S_string .b), (11, .val S_S_string .b), (12, .fn 129 []), (15, .val .bool .b), (16, .val S_S_string .b), (17, .fn 129 []), (24, .val (.int .i64) .b)]⟩]
noncomputable def b_I_areVersions_172_2 (t0 : PV S_S_string) (t2 : PV .bool) (t3 : PV S_S_string) (t4 : PV (.int .i64)) (t5 : PV .bool) (t6 : PV .bool) (t7 : PV S_S_string) (t11 : PV S_S_string) (t15 : PV .bool) (t16 : PV S_S_string) (t20 : PV S_S_string) (t27 : PV (.int .i64)) (t28 : PV (.int .i64)) : Option ((PV S_S_string × PV .bool × PV S_S_string × PV (.int .i64) × PV .bool × PV .bool × PV S_S_string × PV S_S_string × PV .bool × PV S_S_string × PV S_S_string × PV (.int .i64) × PV (.int .i64) × Unit) ⊕ ((PV S_S_string × PV .bool × PV S_S_string × PV (.int .i64) × PV .bool × PV .bool × PV S_S_string × PV S_S_string × PV .bool × PV S_S_string × Unit) ⊕ (PV S_S_string × PV .bool × PV S_S_string × PV (.int .i64) × PV .bool × PV .bool × PV S_S_string × PV S_S_string × PV .bool × PV S_S_string × PV (.int .i64) × Unit))) :=
  bif (decide (t28 < t27)) then
    bif inB t28 t20.length then
      (f_I_areVersions_1 (t20.getD t28.toNat [])).bind fun r5 =>
        bif r5.1.1 then
          some (.inr (.inr (t0, t2, t3, t4, t5, t6, t7, t11, t15, t16, t28, ())))
        else
          some (.inl (t0, t2, t3, t4, t5, t6, t7, t11, t15, t16, t20, t27, (IntKind.wrap .i64 (t28 + 1)), ()))
    else
      none
  else
    some (.inr (.inl (t0, t2, t3, t4, t5, t6, t7, t11, t15, t16, ())))
noncomputable def w_I_areVersions_172_2 : PV S_S_string × PV .bool × PV S_S_string × PV (.int .i64) × PV .bool × PV .bool × PV S_S_string × PV S_S_string × PV .bool × PV S_S_string × PV S_S_string × PV (.int .i64) × PV (.int .i64) × Unit → Option ((PV S_S_string × PV .bool × PV S_S_string × PV (.int .i64) × PV .bool × PV .bool × PV S_S_string × PV S_S_string × PV .bool × PV S_S_string × Unit) ⊕ (PV S_S_string × PV .bool × PV S_S_string × PV (.int .i64) × PV .bool × PV .bool × PV S_S_string × PV S_S_string × PV .bool × PV S_S_string × PV (.int .i64) × Unit)) := fix fun d => b_I_areVersions_172_2 d.1 d.2.1 d.2.2.1 d.2.2.2.1 d.2.2.2.2.1 d.2.2.2.2.2.1 d.2.2.2.2.2.2.1 d.2.2.2.2.2.2.2.1 d.2.2.2.2.2.2.2.2.1 d.2.2.2.2.2.2.2.2.2.1 d.2.2.2.2.2.2.2.2.2.2.1 d.2.2.2.2.2.2.2.2.2.2.2.1 d.2.2.2.2.2.2.2.2.2.2.2.2.1
noncomputable def lp_I_areVersions_172_2 : Lp := ⟨⟨[], [0, 1, 7, 8], []⟩, sh_I_areVersions_172_2, o_I_areVersions_172_2, fun d => b_I_areVersions_172_2 d.1 d.2.1 d.2.2.1 d.2.2.2.1 d.2.2.2.2.1 d.2.2.2.2.2.1 d.2.2.2.2.2.2.1 d.2.2.2.2.2.2.2.1 d.2.2.2.2.2.2.2.2.1 d.2.2.2.2.2.2.2.2.2.1 d.2.2.2.2.2.2.2.2.2.2.1 d.2.2.2.2.2.2.2.2.2.2.2.1 d.2.2.2.2.2.2.2.2.2.2.2.2.1⟩
noncomputable def pl_I_areVersions_172 : Plan := ⟨[], [(2, lp_I_areVersions_172_2)], 0, 20⟩
noncomputable def pl_I_areVersions : Plan := ⟨[], [], 2, 0⟩
noncomputable def f_I_areVersions (t0 : PV S_S_string) : Option (PVs [.bool] × PVs []) :=
  (f_I_in (t0.length : Int) 1 8).bind fun r1 =>
    bif r1.1.1 then
      (w_I_areVersions_172_2 (t0, false, t0, (t0.length : Int), r1.1.1, true, t0, t0, false, t0, t0, (t0.length : Int), 0, ())).bind fun x10 =>
        match x10 with
        | .inl l8 =>
          bif l8.2.2.2.2.2.1 then
            some (((!(decide ((-1) ≥ 0))), ()), ())
          else
            some ((false, ()), ())
        | .inr l9 =>
          bif l9.2.2.2.2.2.1 then
            some (((!(decide (l9.2.2.2.2.2.2.2.2.2.2.1 ≥ 0))), ()), ())
          else
            some ((false, ()), ())
    else
      some ((false, ()), ())
noncomputable def ct_I_areVersions : Ct := ⟨[(.bor, S_S_string)], [(.bool, .b)], fun x => f_I_areVersions x.1⟩
noncomputable def cx_I_areVersions : Cx := ⟨tab, arrs, [(80, ct_I_in), (129, ct_I_areVersions_1)], [(128, Tryd.f128, pl_I_areVersions_128), (172, Tryd.f172, pl_I_areVersions_172)], gl, []⟩
theorem eb_I_areVersions_172_2 (t0 : PV S_S_string) (t2 : PV .bool) (t3 : PV S_S_string) (t4 : PV (.int .i64)) (t5 : PV .bool) (t6 : PV .bool) (t7 : PV S_S_string) (t11 : PV S_S_string) (t15 : PV .bool) (t16 : PV S_S_string) (t20 : PV S_S_string) (t27 : PV (.int .i64)) (t28 : PV (.int .i64)) : denK cx_I_areVersions (rcN cx_I_areVersions 0) pl_I_areVersions_172 20 ((loopsOf (bodyOf Tryd.f172)).getD 0 .skip) (fillS sh_I_areVersions_172_2 (t0, t2, t3, t4, t5, t6, t7, t11, t15, t16, t20, t27, t28, ())) (roundK 20 lp_I_areVersions_172_2) = b_I_areVersions_172_2 t0 t2 t3 t4 t5 t6 t7 t11 t15 t16 t20 t27 t28 := by kernel_rfl
theorem ef_I_areVersions (t0 : PV S_S_string) : denF cx_I_areVersions 2 pl_I_areVersions Tryd.f76.ntmps (bodyOf Tryd.f76) Tryd.f76.results.toList [(.bor, S_S_string)] [(.bool, .b)] (t0, ()) = f_I_areVersions t0 := by kernel_rfl
theorem ok_I_areVersions : FnOk gl Tryd.prog 76 ct_I_areVersions :=
  fnOk (cx := cx_I_areVersions) (pl := pl_I_areVersions) (dp := 2) (ok0_of tabOk (by unfold ArrOk; kernel_rfl) mix ⟨ok_I_in, ok_I_areVersions_1, trivial⟩ ⟨⟨Tryd.func128, by kernel_rfl, (by rw [show loopsOf (bodyOf Tryd.f128) = [] from by kernel_rfl]; exact trivial)⟩, ⟨Tryd.func172, by kernel_rfl, (by rw [show loopsOf (bodyOf Tryd.f172) = [((loopsOf (bodyOf Tryd.f172)).getD 0 .skip)] from by kernel_rfl]; exact ⟨(by rw [show lookup pl_I_areVersions_172.loops (firstId ((loopsOf (bodyOf Tryd.f172)).getD 0 .skip)) = some lp_I_areVersions_172_2 from by kernel_rfl]; exact fun d z h => (eb_I_areVersions_172_2 d.1 d.2.1 d.2.2.1 d.2.2.2.1 d.2.2.2.2.1 d.2.2.2.2.2.1 d.2.2.2.2.2.2.1 d.2.2.2.2.2.2.2.1 d.2.2.2.2.2.2.2.2.1 d.2.2.2.2.2.2.2.2.2.1 d.2.2.2.2.2.2.2.2.2.2.1 d.2.2.2.2.2.2.2.2.2.2.2.1 d.2.2.2.2.2.2.2.2.2.2.2.2.1).trans h), trivial⟩)⟩, trivial⟩) Tryd.func76 (by kernel_rfl) (by kernel_rfl) (by kernel_rfl)
    (by rw [show loopsOf (bodyOf Tryd.f76) = [] from by kernel_rfl]; exact trivial) (fun x => ef_I_areVersions x.1)
noncomputable def o_I_common_9 : List Out := [⟨.normal, ⟨[], [0, 1, 5, 6, 7], []⟩, mkSh 90 [(0, .val S_string .b), (1, .val S_string .b), (5, .val S_S_int (.row (.row .b))), (6, .val (.int .i64) .b), (7, .val (.int .i64) .b)]⟩]
noncomputable def sh_I_common_8 : List Sh := mkSh 90 [(0, .val S_string .b), (1, .val S_string .b), (5, .val S_S_int (.row (.row .b))), (6, .val (.int .i64) .b), (7, .val (.int .i64) .b)]
noncomputable def o_I_common_8 : List Out := [⟨.exit 2, ⟨[], [0, 1, 5, 6], []⟩, mkSh 90 [(0, .val S_string .b), (1, .val S_string .b), (5, .val S_S_int (.row (.row .b))), (6, .val (.int .i64) .b)]⟩]
noncomputable def b_I_common_8 (t0 : PV S_string) (t1 : PV S_string) (t5 : PV S_S_int) (t6 : PV (.int .i64)) (t7 : PV (.int .i64)) : Option ((PV S_string × PV S_string × PV S_S_int × PV (.int .i64) × PV (.int .i64) × Unit) ⊕ ((PV S_string × PV S_string × PV S_S_int × PV (.int .i64) × Unit))) :=
  bif (decide (t7 ≥ 0)) then
    ((
        bif inB t6 t0.length then
          bif inB t7 t1.length then
            bif ((t0.getD t6.toNat []) == (t1.getD t7.toNat [])) then
              bif inB t6 t5.length then
                bif inB (IntKind.wrap .i64 (t6 + 1)) t5.length then
                  bif inB (IntKind.wrap .i64 (t7 + 1)) (t5.getD ((IntKind.wrap .i64 (t6 + 1)).toNat) []).length then
                    bif inB t7 (t5.getD t6.toNat []).length then
                      some (t0, t1, (t5.set t6.toNat ((t5.getD t6.toNat []).set t7.toNat (IntKind.wrap .i64 (((t5.getD ((IntKind.wrap .i64 (t6 + 1)).toNat) []).getD ((IntKind.wrap .i64 (t7 + 1)).toNat) (0 : Int)) + 1)))), t6, t7, ())
                    else
                      none
                  else
                    none
                else
                  none
              else
                none
            else
              bif inB t6 t5.length then
                bif inB (IntKind.wrap .i64 (t6 + 1)) t5.length then
                  bif inB t7 (t5.getD ((IntKind.wrap .i64 (t6 + 1)).toNat) []).length then
                    bif inB t6 t5.length then
                      bif inB (IntKind.wrap .i64 (t7 + 1)) (t5.getD t6.toNat []).length then
                        bif inB t7 (t5.getD t6.toNat []).length then
                          some (t0, t1, (t5.set t6.toNat ((t5.getD t6.toNat []).set t7.toNat (bif decide (((t5.getD t6.toNat []).getD ((IntKind.wrap .i64 (t7 + 1)).toNat) (0 : Int)) > ((t5.getD ((IntKind.wrap .i64 (t6 + 1)).toNat) []).getD t7.toNat (0 : Int))) then ((t5.getD t6.toNat []).getD ((IntKind.wrap .i64 (t7 + 1)).toNat) (0 : Int)) else ((t5.getD ((IntKind.wrap .i64 (t6 + 1)).toNat) []).getD t7.toNat (0 : Int))))), t6, t7, ())
                        else
                          none
                      else
                        none
                    else
                      none
                  else
                    none
                else
                  none
              else
                none
          else
            none
        else
          none : Option ((PV S_string × PV S_string × PV S_S_int × PV (.int .i64) × PV (.int .i64) × Unit)))).bind fun j1 =>
      some (.inl (j1.1, j1.2.1, j1.2.2.1, j1.2.2.2.1, (IntKind.wrap .i64 (j1.2.2.2.2.1 - 1)), ()))
  else
    some (.inr (t0, t1, t5, t6, ()))
noncomputable def w_I_common_8 : PV S_string × PV S_string × PV S_S_int × PV (.int .i64) × PV (.int .i64) × Unit → Option ((PV S_string × PV S_string × PV S_S_int × PV (.int .i64) × Unit)) := fix fun d => b_I_common_8 d.1 d.2.1 d.2.2.1 d.2.2.2.1 d.2.2.2.2.1
noncomputable def lp_I_common_8 : Lp := ⟨⟨[], [0, 1, 5, 6, 7], []⟩, sh_I_common_8, o_I_common_8, fun d => b_I_common_8 d.1 d.2.1 d.2.2.1 d.2.2.2.1 d.2.2.2.2.1⟩
noncomputable def sh_I_common_4 : List Sh := mkSh 90 [(0, .val S_string .b), (1, .val S_string .b), (5, .val S_S_int (.row (.row .b))), (6, .val (.int .i64) .b)]
noncomputable def o_I_common_4 : List Out := [⟨.exit 0, ⟨[], [5], []⟩, mkSh 90 [(5, .val S_S_int (.row (.row .b)))]⟩]
noncomputable def b_I_common_4 (t0 : PV S_string) (t1 : PV S_string) (t5 : PV S_S_int) (t6 : PV (.int .i64)) : Option ((PV S_string × PV S_string × PV S_S_int × PV (.int .i64) × Unit) ⊕ ((PV S_S_int × Unit))) :=
  bif (decide (t6 ≥ 0)) then
    bif decide (0 ≤ (IntKind.wrap .i64 ((t1.length : Int) + 1))) && (decide ((IntKind.wrap .i64 ((t1.length : Int) + 1)) ≤ (IntKind.wrap .i64 ((t1.length : Int) + 1))) && roomB (IntKind.wrap .i64 ((t1.length : Int) + 1)).toNat) then
      bif inB t6 t5.length then
        (w_I_common_8 (t0, t1, (t5.set t6.toNat (List.replicate (IntKind.wrap .i64 ((t1.length : Int) + 1)).toNat (0 : Int))), t6, (IntKind.wrap .i64 ((t1.length : Int) - 1)), ())).bind fun l2 =>
          some (.inl (l2.1, l2.2.1, l2.2.2.1, (IntKind.wrap .i64 (l2.2.2.2.1 - 1)), ()))
      else
        none
    else
      none
  else
    some (.inr (t5, ()))
noncomputable def w_I_common_4 : PV S_string × PV S_string × PV S_S_int × PV (.int .i64) × Unit → Option ((PV S_S_int × Unit)) := fix fun d => b_I_common_4 d.1 d.2.1 d.2.2.1 d.2.2.2.1
noncomputable def lp_I_common_4 : Lp := ⟨⟨[], [0, 1, 5, 6], []⟩, sh_I_common_4, o_I_common_4, fun d => b_I_common_4 d.1 d.2.1 d.2.2.1 d.2.2.2.1⟩
noncomputable def pl_I_common : Plan := ⟨[(9, o_I_common_9)], [(8, lp_I_common_8), (4, lp_I_common_4)], 0, 0⟩
noncomputable def f_I_common (t0 : PV S_string) (t1 : PV S_string) : Option (PVs [S_S_int] × PVs []) :=
  bif decide (0 ≤ (IntKind.wrap .i64 ((t0.length : Int) + 1))) && (decide ((IntKind.wrap .i64 ((t0.length : Int) + 1)) ≤ (IntKind.wrap .i64 ((t0.length : Int) + 1))) && roomB (IntKind.wrap .i64 ((t0.length : Int) + 1)).toNat) then
    bif decide (0 ≤ (IntKind.wrap .i64 ((t1.length : Int) + 1))) && (decide ((IntKind.wrap .i64 ((t1.length : Int) + 1)) ≤ (IntKind.wrap .i64 ((t1.length : Int) + 1))) && roomB (IntKind.wrap .i64 ((t1.length : Int) + 1)).toNat) then
      bif inB (t0.length : Int) (List.replicate (IntKind.wrap .i64 ((t0.length : Int) + 1)).toNat ([] : PV S_int)).length then
        (w_I_common_4 (t0, t1, ((List.replicate (IntKind.wrap .i64 ((t0.length : Int) + 1)).toNat ([] : PV S_int)).set ((t0.length : Int).toNat) (List.replicate (IntKind.wrap .i64 ((t1.length : Int) + 1)).toNat (0 : Int))), (IntKind.wrap .i64 ((t0.length : Int) - 1)), ())).bind fun l4 =>
          some ((l4.1, ()), ())
      else
        none
    else
      none
  else
    none
noncomputable def ct_I_common : Ct := ⟨[(.bor, S_string), (.bor, S_string)], [(S_S_int, (.row (.row .b)))], fun x => f_I_common x.1 x.2.1⟩
noncomputable def cx_I_common : Cx := ⟨tab, arrs, [], [], gl, []⟩
theorem eb_I_common_4 (t0 : PV S_string) (t1 : PV S_string) (t5 : PV S_S_int) (t6 : PV (.int .i64)) : denK cx_I_common (rcN cx_I_common 0) pl_I_common 0 ((loopsOf (bodyOf Tryd.f200)).getD 0 .skip) (fillS sh_I_common_4 (t0, t1, t5, t6, ())) (roundK 0 lp_I_common_4) = b_I_common_4 t0 t1 t5 t6 := by kernel_rfl
theorem eb_I_common_8 (t0 : PV S_string) (t1 : PV S_string) (t5 : PV S_S_int) (t6 : PV (.int .i64)) (t7 : PV (.int .i64)) : denK cx_I_common (rcN cx_I_common 0) pl_I_common 0 ((loopsOf (bodyOf Tryd.f200)).getD 1 .skip) (fillS sh_I_common_8 (t0, t1, t5, t6, t7, ())) (roundK 0 lp_I_common_8) = b_I_common_8 t0 t1 t5 t6 t7 := by kernel_rfl
theorem ef_I_common (t0 : PV S_string) (t1 : PV S_string) : denF cx_I_common 0 pl_I_common Tryd.f200.ntmps (bodyOf Tryd.f200) Tryd.f200.results.toList [(.bor, S_string), (.bor, S_string)] [(S_S_int, (.row (.row .b)))] (t0, t1, ()) = f_I_common t0 t1 := by kernel_rfl
theorem ok_I_common : FnOk gl Tryd.prog 200 ct_I_common :=
  fnOk (cx := cx_I_common) (pl := pl_I_common) (dp := 0) (ok0_of tabOk (by unfold ArrOk; kernel_rfl) mix trivial trivial) Tryd.func200 (by kernel_rfl) (by kernel_rfl) (by kernel_rfl)
    (by rw [show loopsOf (bodyOf Tryd.f200) = [((loopsOf (bodyOf Tryd.f200)).getD 0 .skip), ((loopsOf (bodyOf Tryd.f200)).getD 1 .skip)] from by kernel_rfl]; exact ⟨(by rw [show lookup pl_I_common.loops (firstId ((loopsOf (bodyOf Tryd.f200)).getD 0 .skip)) = some lp_I_common_4 from by kernel_rfl]; exact fun d z h => (eb_I_common_4 d.1 d.2.1 d.2.2.1 d.2.2.2.1).trans h), (by rw [show lookup pl_I_common.loops (firstId ((loopsOf (bodyOf Tryd.f200)).getD 1 .skip)) = some lp_I_common_8 from by kernel_rfl]; exact fun d z h => (eb_I_common_8 d.1 d.2.1 d.2.2.1 d.2.2.2.1 d.2.2.2.2.1).trans h), trivial⟩) (fun x => ef_I_common x.1 x.2.1)
noncomputable def o_I_commonLines_10 : List Out := [⟨.normal, ⟨[], [0, 1, 5, 6, 7, 8, 9, 10, 21, 22, 31, 32, 58], []⟩, mkSh 71 [(0, .val S_string .b), (1, .val S_string .b), (5, .val S_S_int (.row (.row .b))), (6, .val S_S_int (.row (.row .b))), (7, .val (.int .i64) .b), (8, .val (.int .i64) .b), (9, .val (.int .i64) .b), (10, .val (.int .i64) .b), (21, .val (.int .i64) .b), (22, .val (.int .i64) .b), (31, .val (.int .i64) .b), (32, .val .bool .b), (58, .val .bool .b)]⟩]
noncomputable def sh_I_commonLines_7 : List Sh := mkSh 71 [(0, .val S_string .b), (1, .val S_string .b), (5, .val S_S_int (.row (.row .b))), (6, .val S_S_int (.row (.row .b))), (7, .val (.int .i64) .b), (8, .val (.int .i64) .b), (9, .val (.int .i64) .b), (10, .val (.int .i64) .b), (21, .val (.int .i64) .b), (22, .val (.int .i64) .b)]
noncomputable def o_I_commonLines_7 : List Out := [⟨.exit 2, ⟨[], [0, 1, 5, 6, 7, 8, 21, 22, 46, 47, 48, 49, 50, 51, 52, 53, 54, 55, 56, 57], []⟩, mkSh 71 [(0, .val S_string .b), (1, .val S_string .b), (5, .val S_S_int (.row (.row .b))), (6, .val S_S_int (.row (.row .b))), (7, .val (.int .i64) .b), (8, .val (.int .i64) .b), (21, .val (.int .i64) .b), (22, .val (.int .i64) .b)]⟩]
noncomputable def b_I_commonLines_7 (t0 : PV S_string) (t1 : PV S_string) (t5 : PV S_S_int) (t6 : PV S_S_int) (t7 : PV (.int .i64)) (t8 : PV (.int .i64)) (t9 : PV (.int .i64)) (t10 : PV (.int .i64)) (t21 : PV (.int .i64)) (t22 : PV (.int .i64)) : Option ((PV S_string × PV S_string × PV S_S_int × PV S_S_int × PV (.int .i64) × PV (.int .i64) × PV (.int .i64) × PV (.int .i64) × PV (.int .i64) × PV (.int .i64) × Unit) ⊕ ((PV S_string × PV S_string × PV S_S_int × PV S_S_int × PV (.int .i64) × PV (.int .i64) × PV (.int .i64) × PV (.int .i64) × Unit))) :=
  bif (decide (t10 < (t1.length : Int))) then
    bif (decide (t8 > 0)) then
      ((
          bif inB t9 t0.length then
            bif inB t10 t1.length then
              bif ((t0.getD t9.toNat []) == (t1.getD t10.toNat [])) then
                bif inB (IntKind.wrap .i64 (t9 + 1)) t5.length then
                  bif inB (IntKind.wrap .i64 (t10 + 1)) (t5.getD ((IntKind.wrap .i64 (t9 + 1)).toNat) []).length then
                    some (t0, t1, t5, t6, t7, t8, t9, t10, t21, t22, t8, (decide (t8 > 0)), (((t5.getD ((IntKind.wrap .i64 (t9 + 1)).toNat) []).getD ((IntKind.wrap .i64 (t10 + 1)).toNat) (0 : Int)) == (IntKind.wrap .i64 (t8 - 1))), ())
                  else
                    none
                else
                  none
              else
                some (t0, t1, t5, t6, t7, t8, t9, t10, t21, t22, t8, (decide (t8 > 0)), false, ())
            else
              none
          else
            none : Option ((PV S_string × PV S_string × PV S_S_int × PV S_S_int × PV (.int .i64) × PV (.int .i64) × PV (.int .i64) × PV (.int .i64) × PV (.int .i64) × PV (.int .i64) × PV (.int .i64) × PV .bool × PV .bool × Unit)))).bind fun j6 =>
        bif j6.2.2.2.2.2.2.2.2.2.2.2.2.1 then
          bif roomB (j6.2.2.2.1.length + [[j6.2.2.2.2.2.2.1, j6.2.2.2.2.2.2.2.1]].length) then
            some (.inr (j6.1, j6.2.1, j6.2.2.1, (j6.2.2.2.1 ++ [[j6.2.2.2.2.2.2.1, j6.2.2.2.2.2.2.2.1]]), (IntKind.wrap .i64 (j6.2.2.2.2.2.2.2.1 + 1)), (IntKind.wrap .i64 (j6.2.2.2.2.2.1 - 1)), j6.2.2.2.2.2.2.2.2.1, j6.2.2.2.2.2.2.2.2.2.1, ()))
          else
            none
        else
          some (.inl (j6.1, j6.2.1, j6.2.2.1, j6.2.2.2.1, j6.2.2.2.2.1, j6.2.2.2.2.2.1, j6.2.2.2.2.2.2.1, (IntKind.wrap .i64 (j6.2.2.2.2.2.2.2.1 + 1)), j6.2.2.2.2.2.2.2.2.1, j6.2.2.2.2.2.2.2.2.2.1, ()))
    else
      some (.inr (t0, t1, t5, t6, t7, t8, t21, t22, ()))
  else
    some (.inr (t0, t1, t5, t6, t7, t8, t21, t22, ()))
noncomputable def w_I_commonLines_7 : PV S_string × PV S_string × PV S_S_int × PV S_S_int × PV (.int .i64) × PV (.int .i64) × PV (.int .i64) × PV (.int .i64) × PV (.int .i64) × PV (.int .i64) × Unit → Option ((PV S_string × PV S_string × PV S_S_int × PV S_S_int × PV (.int .i64) × PV (.int .i64) × PV (.int .i64) × PV (.int .i64) × Unit)) := fix fun d => b_I_commonLines_7 d.1 d.2.1 d.2.2.1 d.2.2.2.1 d.2.2.2.2.1 d.2.2.2.2.2.1 d.2.2.2.2.2.2.1 d.2.2.2.2.2.2.2.1 d.2.2.2.2.2.2.2.2.1 d.2.2.2.2.2.2.2.2.2.1
noncomputable def lp_I_commonLines_7 : Lp := ⟨⟨[], [0, 1, 5, 6, 7, 8, 9, 10, 21, 22, 46, 47, 48, 49, 50, 51, 52, 53, 54, 55, 56, 57], []⟩, sh_I_commonLines_7, o_I_commonLines_7, fun d => b_I_commonLines_7 d.1 d.2.1 d.2.2.1 d.2.2.2.1 d.2.2.2.2.1 d.2.2.2.2.2.1 d.2.2.2.2.2.2.1 d.2.2.2.2.2.2.2.1 d.2.2.2.2.2.2.2.2.1 d.2.2.2.2.2.2.2.2.2.1⟩
noncomputable def sh_I_commonLines_4 : List Sh := mkSh 71 [(0, .val S_string .b), (1, .val S_string .b), (5, .val S_S_int (.row (.row .b))), (6, .val S_S_int (.row (.row .b))), (7, .val (.int .i64) .b), (8, .val (.int .i64) .b), (21, .val (.int .i64) .b), (22, .val (.int .i64) .b)]
noncomputable def o_I_commonLines_4 : List Out := [⟨.exit 0, ⟨[], [6], []⟩, mkSh 71 [(6, .val S_S_int (.row (.row .b)))]⟩]
noncomputable def b_I_commonLines_4 (t0 : PV S_string) (t1 : PV S_string) (t5 : PV S_S_int) (t6 : PV S_S_int) (t7 : PV (.int .i64)) (t8 : PV (.int .i64)) (t21 : PV (.int .i64)) (t22 : PV (.int .i64)) : Option ((PV S_string × PV S_string × PV S_S_int × PV S_S_int × PV (.int .i64) × PV (.int .i64) × PV (.int .i64) × PV (.int .i64) × Unit) ⊕ ((PV S_S_int × Unit))) :=
  bif (decide (t22 < t21)) then
    (w_I_commonLines_7 (t0, t1, t5, t6, t7, t8, t22, t7, t21, t22, ())).bind fun l4 =>
      some (.inl (l4.1, l4.2.1, l4.2.2.1, l4.2.2.2.1, l4.2.2.2.2.1, l4.2.2.2.2.2.1, l4.2.2.2.2.2.2.1, (IntKind.wrap .i64 (l4.2.2.2.2.2.2.2.1 + 1)), ()))
  else
    some (.inr (t6, ()))
noncomputable def w_I_commonLines_4 : PV S_string × PV S_string × PV S_S_int × PV S_S_int × PV (.int .i64) × PV (.int .i64) × PV (.int .i64) × PV (.int .i64) × Unit → Option ((PV S_S_int × Unit)) := fix fun d => b_I_commonLines_4 d.1 d.2.1 d.2.2.1 d.2.2.2.1 d.2.2.2.2.1 d.2.2.2.2.2.1 d.2.2.2.2.2.2.1 d.2.2.2.2.2.2.2.1
noncomputable def lp_I_commonLines_4 : Lp := ⟨⟨[], [0, 1, 5, 6, 7, 8, 21, 22, 31, 32, 46, 47, 48, 49, 50, 51, 52, 53, 54, 55, 56, 57], []⟩, sh_I_commonLines_4, o_I_commonLines_4, fun d => b_I_commonLines_4 d.1 d.2.1 d.2.2.1 d.2.2.2.1 d.2.2.2.2.1 d.2.2.2.2.2.1 d.2.2.2.2.2.2.1 d.2.2.2.2.2.2.2.1⟩
noncomputable def pl_I_commonLines : Plan := ⟨[(10, o_I_commonLines_10)], [(7, lp_I_commonLines_7), (4, lp_I_commonLines_4)], 0, 0⟩
noncomputable def f_I_commonLines (t0 : PV S_string) (t1 : PV S_string) : Option (PVs [S_S_int] × PVs []) :=
  (f_I_common t0 t1).bind fun r2 =>
    bif inB 0 r2.1.1.length then
      bif inB 0 (r2.1.1.getD ((0 : Int).toNat) []).length then
        (w_I_commonLines_4 (t0, t1, r2.1.1, ([] : PV S_S_int), 0, ((r2.1.1.getD ((0 : Int).toNat) []).getD ((0 : Int).toNat) (0 : Int)), (t0.length : Int), 0, ())).bind fun l6 =>
          some ((l6.1, ()), ())
      else
        none
    else
      none
noncomputable def ct_I_commonLines : Ct := ⟨[(.bor, S_string), (.bor, S_string)], [(S_S_int, (.row (.row .b)))], fun x => f_I_commonLines x.1 x.2.1⟩
noncomputable def cx_I_commonLines : Cx := ⟨tab, arrs, [(200, ct_I_common)], [], gl, []⟩
theorem eb_I_commonLines_4 (t0 : PV S_string) (t1 : PV S_string) (t5 : PV S_S_int) (t6 : PV S_S_int) (t7 : PV (.int .i64)) (t8 : PV (.int .i64)) (t21 : PV (.int .i64)) (t22 : PV (.int .i64)) : denK cx_I_commonLines (rcN cx_I_commonLines 0) pl_I_commonLines 0 ((loopsOf (bodyOf Tryd.f175)).getD 0 .skip) (fillS sh_I_commonLines_4 (t0, t1, t5, t6, t7, t8, t21, t22, ())) (roundK 0 lp_I_commonLines_4) = b_I_commonLines_4 t0 t1 t5 t6 t7 t8 t21 t22 := by kernel_rfl
theorem eb_I_commonLines_7 (t0 : PV S_string) (t1 : PV S_string) (t5 : PV S_S_int) (t6 : PV S_S_int) (t7 : PV (.int .i64)) (t8 : PV (.int .i64)) (t9 : PV (.int .i64)) (t10 : PV (.int .i64)) (t21 : PV (.int .i64)) (t22 : PV (.int .i64)) : denK cx_I_commonLines (rcN cx_I_commonLines 0) pl_I_commonLines 0 ((loopsOf (bodyOf Tryd.f175)).getD 1 .skip) (fillS sh_I_commonLines_7 (t0, t1, t5, t6, t7, t8, t9, t10, t21, t22, ())) (roundK 0 lp_I_commonLines_7) = b_I_commonLines_7 t0 t1 t5 t6 t7 t8 t9 t10 t21 t22 := by kernel_rfl
theorem ef_I_commonLines (t0 : PV S_string) (t1 : PV S_string) : denF cx_I_commonLines 0 pl_I_commonLines Tryd.f175.ntmps (bodyOf Tryd.f175) Tryd.f175.results.toList [(.bor, S_string), (.bor, S_string)] [(S_S_int, (.row (.row .b)))] (t0, t1, ()) = f_I_commonLines t0 t1 := by kernel_rfl
theorem ok_I_commonLines : FnOk gl Tryd.prog 175 ct_I_commonLines :=
  fnOk (cx := cx_I_commonLines) (pl := pl_I_commonLines) (dp := 0) (ok0_of tabOk (by unfold ArrOk; kernel_rfl) mix ⟨ok_I_common, trivial⟩ trivial) Tryd.func175 (by kernel_rfl) (by kernel_rfl) (by kernel_rfl)
    (by rw [show loopsOf (bodyOf Tryd.f175) = [((loopsOf (bodyOf Tryd.f175)).getD 0 .skip), ((loopsOf (bodyOf Tryd.f175)).getD 1 .skip)] from by kernel_rfl]; exact ⟨(by rw [show lookup pl_I_commonLines.loops (firstId ((loopsOf (bodyOf Tryd.f175)).getD 0 .skip)) = some lp_I_commonLines_4 from by kernel_rfl]; exact fun d z h => (eb_I_commonLines_4 d.1 d.2.1 d.2.2.1 d.2.2.2.1 d.2.2.2.2.1 d.2.2.2.2.2.1 d.2.2.2.2.2.2.1 d.2.2.2.2.2.2.2.1).trans h), (by rw [show lookup pl_I_commonLines.loops (firstId ((loopsOf (bodyOf Tryd.f175)).getD 1 .skip)) = some lp_I_commonLines_7 from by kernel_rfl]; exact fun d z h => (eb_I_commonLines_7 d.1 d.2.1 d.2.2.1 d.2.2.2.1 d.2.2.2.2.1 d.2.2.2.2.2.1 d.2.2.2.2.2.2.1 d.2.2.2.2.2.2.2.1 d.2.2.2.2.2.2.2.2.1 d.2.2.2.2.2.2.2.2.2.1).trans h), trivial⟩) (fun x => ef_I_commonLines x.1 x.2.1)
noncomputable def sh_I_mates_3 : List Sh := mkSh 30 [(5, .val S_int (.row .b)), (14, .val S_S_int (.row (.row .b))), (15, .val (.int .i64) .b), (16, .val (.int .i64) .b)]
noncomputable def o_I_mates_3 : List Out := [⟨.exit 0, ⟨[], [5], []⟩, mkSh 30 [(5, .val S_int (.row .b))]⟩]
noncomputable def b_I_mates_3 (t5 : PV S_int) (t14 : PV S_S_int) (t15 : PV (.int .i64)) (t16 : PV (.int .i64)) : Option ((PV S_int × PV S_S_int × PV (.int .i64) × PV (.int .i64) × Unit) ⊕ ((PV S_int × Unit))) :=
  bif (decide (t16 < t15)) then
    bif inB t16 t14.length then
      bif inB 0 (t14.getD t16.toNat []).length then
        bif inB 1 (t14.getD t16.toNat []).length then
          bif inB ((t14.getD t16.toNat []).getD ((0 : Int).toNat) (0 : Int)) t5.length then
            some (.inl ((t5.set (((t14.getD t16.toNat []).getD ((0 : Int).toNat) (0 : Int)).toNat) ((t14.getD t16.toNat []).getD ((1 : Int).toNat) (0 : Int))), t14, t15, (IntKind.wrap .i64 (t16 + 1)), ()))
          else
            none
        else
          none
      else
        none
    else
      none
  else
    some (.inr (t5, ()))
noncomputable def w_I_mates_3 : PV S_int × PV S_S_int × PV (.int .i64) × PV (.int .i64) × Unit → Option ((PV S_int × Unit)) := fix fun d => b_I_mates_3 d.1 d.2.1 d.2.2.1 d.2.2.2.1
noncomputable def lp_I_mates_3 : Lp := ⟨⟨[], [5, 14, 15, 16], []⟩, sh_I_mates_3, o_I_mates_3, fun d => b_I_mates_3 d.1 d.2.1 d.2.2.1 d.2.2.2.1⟩
noncomputable def pl_I_mates : Plan := ⟨[], [(3, lp_I_mates_3)], 0, 0⟩
noncomputable def f_I_mates (t0 : PV S_string) (t1 : PV S_string) : Option (PVs [S_int] × PVs []) :=
  (f_slices_Repeat_int [(-1)] (t0.length : Int)).bind fun r2 =>
    (f_I_commonLines t0 t1).bind fun r7 =>
      (w_I_mates_3 (r2.1.1, r7.1.1, (r7.1.1.length : Int), 0, ())).bind fun l8 =>
        some ((l8.1, ()), ())
noncomputable def ct_I_mates : Ct := ⟨[(.bor, S_string), (.bor, S_string)], [(S_int, (.row .b))], fun x => f_I_mates x.1 x.2.1⟩
noncomputable def cx_I_mates : Cx := ⟨tab, arrs, [(131, ct_slices_Repeat_int), (175, ct_I_commonLines)], [], gl, []⟩
theorem eb_I_mates_3 (t5 : PV S_int) (t14 : PV S_S_int) (t15 : PV (.int .i64)) (t16 : PV (.int .i64)) : denK cx_I_mates (rcN cx_I_mates 0) pl_I_mates 0 ((loopsOf (bodyOf Tryd.f132)).getD 0 .skip) (fillS sh_I_mates_3 (t5, t14, t15, t16, ())) (roundK 0 lp_I_mates_3) = b_I_mates_3 t5 t14 t15 t16 := by kernel_rfl
theorem ef_I_mates (t0 : PV S_string) (t1 : PV S_string) : denF cx_I_mates 0 pl_I_mates Tryd.f132.ntmps (bodyOf Tryd.f132) Tryd.f132.results.toList [(.bor, S_string), (.bor, S_string)] [(S_int, (.row .b))] (t0, t1, ()) = f_I_mates t0 t1 := by kernel_rfl
theorem ok_I_mates : FnOk gl Tryd.prog 132 ct_I_mates :=
  fnOk (cx := cx_I_mates) (pl := pl_I_mates) (dp := 0) (ok0_of tabOk (by unfold ArrOk; kernel_rfl) mix ⟨ok_slices_Repeat_int, ok_I_commonLines, trivial⟩ trivial) Tryd.func132 (by kernel_rfl) (by kernel_rfl) (by kernel_rfl)
    (by rw [show loopsOf (bodyOf Tryd.f132) = [((loopsOf (bodyOf Tryd.f132)).getD 0 .skip)] from by kernel_rfl]; exact ⟨(by rw [show lookup pl_I_mates.loops (firstId ((loopsOf (bodyOf Tryd.f132)).getD 0 .skip)) = some lp_I_mates_3 from by kernel_rfl]; exact fun d z h => (eb_I_mates_3 d.1 d.2.1 d.2.2.1 d.2.2.2.1).trans h), trivial⟩) (fun x => ef_I_mates x.1 x.2.1)
noncomputable def o_I_since_12 : List Out := [⟨.normal, ⟨[], [0, 3, 4, 6, 10, 11, 12, 30, 31, 32], []⟩, mkSh 57 [(0, .val S_S_string .b), (3, .val S_S_int (.row (.row .b))), (4, .val (.int .i64) .b), (6, .val S_int (.row .b)), (10, .val S_S_string .b), (11, .val (.int .i64) .b), (12, .val (.int .i64) .b), (30, .val S_int (.row .b)), (31, .val (.int .i64) .b), (32, .val (.int .i64) .b)]⟩]
noncomputable def o_I_since_13 : List Out := [⟨.normal, ⟨[], [0, 3, 6, 10, 11, 12], []⟩, mkSh 57 [(0, .val S_S_string .b), (3, .val S_S_int (.row (.row .b))), (6, .val S_int (.row .b)), (10, .val S_S_string .b), (11, .val (.int .i64) .b), (12, .val (.int .i64) .b)]⟩]
noncomputable def sh_I_since_8 : List Sh := mkSh 57 [(0, .val S_S_string .b), (3, .val S_S_int (.row (.row .b))), (4, .val (.int .i64) .b), (6, .val S_int (.row .b)), (10, .val S_S_string .b), (11, .val (.int .i64) .b), (12, .val (.int .i64) .b), (30, .val S_int (.row .b)), (31, .val (.int .i64) .b), (32, .val (.int .i64) .b)]
noncomputable def o_I_since_8 : List Out := [⟨.exit 2, ⟨[], [0, 3, 6, 10, 11, 12], []⟩, mkSh 57 [(0, .val S_S_string .b), (3, .val S_S_int (.row (.row .b))), (6, .val S_int (.row .b)), (10, .val S_S_string .b), (11, .val (.int .i64) .b), (12, .val (.int .i64) .b)]⟩]
noncomputable def b_I_since_8 (t0 : PV S_S_string) (t3 : PV S_S_int) (t4 : PV (.int .i64)) (t6 : PV S_int) (t10 : PV S_S_string) (t11 : PV (.int .i64)) (t12 : PV (.int .i64)) (t30 : PV S_int) (t31 : PV (.int .i64)) (t32 : PV (.int .i64)) : Option ((PV S_S_string × PV S_S_int × PV (.int .i64) × PV S_int × PV S_S_string × PV (.int .i64) × PV (.int .i64) × PV S_int × PV (.int .i64) × PV (.int .i64) × Unit) ⊕ ((PV S_S_string × PV S_S_int × PV S_int × PV S_S_string × PV (.int .i64) × PV (.int .i64) × Unit))) :=
  bif (decide (t32 < t31)) then
    ((
        bif inB t32 t30.length then
          bif (decide ((t30.getD t32.toNat (0 : Int)) ≥ 0)) then
            bif inB (IntKind.wrap .i64 (t4 - 1)) t3.length then
              bif inB t32 (t3.getD ((IntKind.wrap .i64 (t4 - 1)).toNat) []).length then
                bif inB (t30.getD t32.toNat (0 : Int)) t6.length then
                  some (t0, t3, t4, (t6.set ((t30.getD t32.toNat (0 : Int)).toNat) ((t3.getD ((IntKind.wrap .i64 (t4 - 1)).toNat) []).getD t32.toNat (0 : Int))), t10, t11, t12, t30, t31, t32, ())
                else
                  none
              else
                none
            else
              none
          else
            some (t0, t3, t4, t6, t10, t11, t12, t30, t31, t32, ())
        else
          none : Option ((PV S_S_string × PV S_S_int × PV (.int .i64) × PV S_int × PV S_S_string × PV (.int .i64) × PV (.int .i64) × PV S_int × PV (.int .i64) × PV (.int .i64) × Unit)))).bind fun j5 =>
      some (.inl (j5.1, j5.2.1, j5.2.2.1, j5.2.2.2.1, j5.2.2.2.2.1, j5.2.2.2.2.2.1, j5.2.2.2.2.2.2.1, j5.2.2.2.2.2.2.2.1, j5.2.2.2.2.2.2.2.2.1, (IntKind.wrap .i64 (j5.2.2.2.2.2.2.2.2.2.1 + 1)), ()))
  else
    some (.inr (t0, t3, t6, t10, t11, t12, ()))
noncomputable def w_I_since_8 : PV S_S_string × PV S_S_int × PV (.int .i64) × PV S_int × PV S_S_string × PV (.int .i64) × PV (.int .i64) × PV S_int × PV (.int .i64) × PV (.int .i64) × Unit → Option ((PV S_S_string × PV S_S_int × PV S_int × PV S_S_string × PV (.int .i64) × PV (.int .i64) × Unit)) := fix fun d => b_I_since_8 d.1 d.2.1 d.2.2.1 d.2.2.2.1 d.2.2.2.2.1 d.2.2.2.2.2.1 d.2.2.2.2.2.2.1 d.2.2.2.2.2.2.2.1 d.2.2.2.2.2.2.2.2.1 d.2.2.2.2.2.2.2.2.2.1
noncomputable def lp_I_since_8 : Lp := ⟨⟨[], [0, 3, 4, 6, 10, 11, 12, 30, 31, 32], []⟩, sh_I_since_8, o_I_since_8, fun d => b_I_since_8 d.1 d.2.1 d.2.2.1 d.2.2.2.1 d.2.2.2.2.1 d.2.2.2.2.2.1 d.2.2.2.2.2.2.1 d.2.2.2.2.2.2.2.1 d.2.2.2.2.2.2.2.2.1 d.2.2.2.2.2.2.2.2.2.1⟩
noncomputable def sh_I_since_3 : List Sh := mkSh 57 [(0, .val S_S_string .b), (3, .val S_S_int (.row (.row .b))), (10, .val S_S_string .b), (11, .val (.int .i64) .b), (12, .val (.int .i64) .b)]
noncomputable def o_I_since_3 : List Out := [⟨.exit 0, ⟨[], [3], []⟩, mkSh 57 [(3, .val S_S_int (.row (.row .b)))]⟩]
noncomputable def b_I_since_3 (t0 : PV S_S_string) (t3 : PV S_S_int) (t10 : PV S_S_string) (t11 : PV (.int .i64)) (t12 : PV (.int .i64)) : Option ((PV S_S_string × PV S_S_int × PV S_S_string × PV (.int .i64) × PV (.int .i64) × Unit) ⊕ ((PV S_S_int × Unit))) :=
  bif (decide (t12 < t11)) then
    bif inB t12 t10.length then
      (f_slices_Repeat_int [t12] ((t10.getD t12.toNat []).length : Int)).bind fun r8 =>
        ((
            bif (decide (t12 > 0)) then
              bif inB (IntKind.wrap .i64 (t12 - 1)) t0.length then
                (f_I_mates (t0.getD ((IntKind.wrap .i64 (t12 - 1)).toNat) []) (t10.getD t12.toNat [])).bind fun r10 =>
                  (w_I_since_8 (t0, t3, t12, r8.1.1, t10, t11, t12, r10.1.1, (r10.1.1.length : Int), 0, ())).bind fun l11 =>
                    some (l11.1, l11.2.1, l11.2.2.1, l11.2.2.2.1, l11.2.2.2.2.1, l11.2.2.2.2.2.1, ())
              else
                none
            else
              some (t0, t3, r8.1.1, t10, t11, t12, ()) : Option ((PV S_S_string × PV S_S_int × PV S_int × PV S_S_string × PV (.int .i64) × PV (.int .i64) × Unit)))).bind fun j12 =>
          bif roomB (j12.2.1.length + [j12.2.2.1].length) then
            some (.inl (j12.1, (j12.2.1 ++ [j12.2.2.1]), j12.2.2.2.1, j12.2.2.2.2.1, (IntKind.wrap .i64 (j12.2.2.2.2.2.1 + 1)), ()))
          else
            none
    else
      none
  else
    some (.inr (t3, ()))
noncomputable def w_I_since_3 : PV S_S_string × PV S_S_int × PV S_S_string × PV (.int .i64) × PV (.int .i64) × Unit → Option ((PV S_S_int × Unit)) := fix fun d => b_I_since_3 d.1 d.2.1 d.2.2.1 d.2.2.2.1 d.2.2.2.2.1
noncomputable def lp_I_since_3 : Lp := ⟨⟨[], [0, 3, 10, 11, 12], []⟩, sh_I_since_3, o_I_since_3, fun d => b_I_since_3 d.1 d.2.1 d.2.2.1 d.2.2.2.1 d.2.2.2.2.1⟩
noncomputable def pl_I_since : Plan := ⟨[(12, o_I_since_12), (13, o_I_since_13)], [(8, lp_I_since_8), (3, lp_I_since_3)], 0, 0⟩
noncomputable def f_I_since (t0 : PV S_S_string) : Option (PVs [S_S_int] × PVs []) :=
  (w_I_since_3 (t0, ([] : PV S_S_int), t0, (t0.length : Int), 0, ())).bind fun l14 =>
    some ((l14.1, ()), ())
noncomputable def ct_I_since : Ct := ⟨[(.bor, S_S_string)], [(S_S_int, (.row (.row .b)))], fun x => f_I_since x.1⟩
noncomputable def cx_I_since : Cx := ⟨tab, arrs, [(131, ct_slices_Repeat_int), (132, ct_I_mates)], [], gl, []⟩
theorem eb_I_since_3 (t0 : PV S_S_string) (t3 : PV S_S_int) (t10 : PV S_S_string) (t11 : PV (.int .i64)) (t12 : PV (.int .i64)) : denK cx_I_since (rcN cx_I_since 0) pl_I_since 0 ((loopsOf (bodyOf Tryd.f77)).getD 0 .skip) (fillS sh_I_since_3 (t0, t3, t10, t11, t12, ())) (roundK 0 lp_I_since_3) = b_I_since_3 t0 t3 t10 t11 t12 := by kernel_rfl
theorem eb_I_since_8 (t0 : PV S_S_string) (t3 : PV S_S_int) (t4 : PV (.int .i64)) (t6 : PV S_int) (t10 : PV S_S_string) (t11 : PV (.int .i64)) (t12 : PV (.int .i64)) (t30 : PV S_int) (t31 : PV (.int .i64)) (t32 : PV (.int .i64)) : denK cx_I_since (rcN cx_I_since 0) pl_I_since 0 ((loopsOf (bodyOf Tryd.f77)).getD 1 .skip) (fillS sh_I_since_8 (t0, t3, t4, t6, t10, t11, t12, t30, t31, t32, ())) (roundK 0 lp_I_since_8) = b_I_since_8 t0 t3 t4 t6 t10 t11 t12 t30 t31 t32 := by kernel_rfl
theorem ef_I_since (t0 : PV S_S_string) : denF cx_I_since 0 pl_I_since Tryd.f77.ntmps (bodyOf Tryd.f77) Tryd.f77.results.toList [(.bor, S_S_string)] [(S_S_int, (.row (.row .b)))] (t0, ()) = f_I_since t0 := by kernel_rfl
theorem ok_I_since : FnOk gl Tryd.prog 77 ct_I_since :=
  fnOk (cx := cx_I_since) (pl := pl_I_since) (dp := 0) (ok0_of tabOk (by unfold ArrOk; kernel_rfl) mix ⟨ok_slices_Repeat_int, ok_I_mates, trivial⟩ trivial) Tryd.func77 (by kernel_rfl) (by kernel_rfl) (by kernel_rfl)
    (by rw [show loopsOf (bodyOf Tryd.f77) = [((loopsOf (bodyOf Tryd.f77)).getD 0 .skip), ((loopsOf (bodyOf Tryd.f77)).getD 1 .skip)] from by kernel_rfl]; exact ⟨(by rw [show lookup pl_I_since.loops (firstId ((loopsOf (bodyOf Tryd.f77)).getD 0 .skip)) = some lp_I_since_3 from by kernel_rfl]; exact fun d z h => (eb_I_since_3 d.1 d.2.1 d.2.2.1 d.2.2.2.1 d.2.2.2.2.1).trans h), (by rw [show lookup pl_I_since.loops (firstId ((loopsOf (bodyOf Tryd.f77)).getD 1 .skip)) = some lp_I_since_8 from by kernel_rfl]; exact fun d z h => (eb_I_since_8 d.1 d.2.1 d.2.2.1 d.2.2.2.1 d.2.2.2.2.1 d.2.2.2.2.2.1 d.2.2.2.2.2.2.1 d.2.2.2.2.2.2.2.1 d.2.2.2.2.2.2.2.2.1 d.2.2.2.2.2.2.2.2.2.1).trans h), trivial⟩) (fun x => ef_I_since x.1)
noncomputable def pl_I_SinceOf : Plan := ⟨[], [], 0, 0⟩
noncomputable def f_I_SinceOf (t0 : PV S_S_string) : Option (PVs [S_int, .bool] × PVs []) :=
  (f_I_areVersions t0).bind fun r4 =>
    bif (!r4.1.1) then
      some (([], false, ()), ())
    else
      (f_I_since t0).bind fun r5 =>
        bif inB (IntKind.wrap .i64 ((t0.length : Int) - 1)) r5.1.1.length then
          some (((r5.1.1.getD ((IntKind.wrap .i64 ((t0.length : Int) - 1)).toNat) []), true, ()), ())
        else
          none
noncomputable def ct_I_SinceOf : Ct := ⟨[(.bor, S_S_string)], [(S_int, (.row .b)), (.bool, .b)], fun x => f_I_SinceOf x.1⟩
noncomputable def cx_I_SinceOf : Cx := ⟨tab, arrs, [(76, ct_I_areVersions), (77, ct_I_since)], [], gl, []⟩
theorem ef_I_SinceOf (t0 : PV S_S_string) : denF cx_I_SinceOf 0 pl_I_SinceOf Tryd.f30.ntmps (bodyOf Tryd.f30) Tryd.f30.results.toList [(.bor, S_S_string)] [(S_int, (.row .b)), (.bool, .b)] (t0, ()) = f_I_SinceOf t0 := by kernel_rfl
theorem ok_I_SinceOf : FnOk gl Tryd.prog 30 ct_I_SinceOf :=
  fnOk (cx := cx_I_SinceOf) (pl := pl_I_SinceOf) (dp := 0) (ok0_of tabOk (by unfold ArrOk; kernel_rfl) mix ⟨ok_I_areVersions, ok_I_since, trivial⟩ trivial) Tryd.func30 (by kernel_rfl) (by kernel_rfl) (by kernel_rfl)
    (by rw [show loopsOf (bodyOf Tryd.f30) = [] from by kernel_rfl]; exact trivial) (fun x => ef_I_SinceOf x.1)
noncomputable def pl_S_l1In : Plan := ⟨[], [], 0, 0⟩
noncomputable def f_S_l1In (t0 : PV (.int .i64)) (t1 : PV (.int .i64)) (t2 : PV (.int .i64)) : Option (PVs [.bool] × PVs []) :=
  bif (decide (t0 ≥ t1)) then
    some (((decide (t0 ≤ t2)), ()), ())
  else
    some ((false, ()), ())
noncomputable def ct_S_l1In : Ct := ⟨[(.bor, (.int .i64)), (.bor, (.int .i64)), (.bor, (.int .i64))], [(.bool, .b)], fun x => f_S_l1In x.1 x.2.1 x.2.2.1⟩
noncomputable def cx_S_l1In : Cx := ⟨tab, arrs, [], [], gl, []⟩
theorem ef_S_l1In (t0 : PV (.int .i64)) (t1 : PV (.int .i64)) (t2 : PV (.int .i64)) : denF cx_S_l1In 0 pl_S_l1In Tryd.f114.ntmps (bodyOf Tryd.f114) Tryd.f114.results.toList [(.bor, (.int .i64)), (.bor, (.int .i64)), (.bor, (.int .i64))] [(.bool, .b)] (t0, t1, t2, ()) = f_S_l1In t0 t1 t2 := by kernel_rfl
theorem ok_S_l1In : FnOk gl Tryd.prog 114 ct_S_l1In :=
  fnOk (cx := cx_S_l1In) (pl := pl_S_l1In) (dp := 0) (ok0_of tabOk (by unfold ArrOk; kernel_rfl) mix trivial trivial) Tryd.func114 (by kernel_rfl) (by kernel_rfl) (by kernel_rfl)
    (by rw [show loopsOf (bodyOf Tryd.f114) = [] from by kernel_rfl]; exact trivial) (fun x => ef_S_l1In x.1 x.2.1 x.2.2.1)
noncomputable def sh_S_l1Line_2 : List Sh := mkSh 18 [(0, .val .str .b), (3, .val (.int .i64) .b)]
noncomputable def o_S_l1Line_2 : List Out := [⟨.exit 0, ⟨[], [0], []⟩, mkSh 18 [(0, .val .str .b)]⟩, ⟨.ret, ⟨[], [2], []⟩, mkSh 18 [(2, .val .bool .b)]⟩]
noncomputable def b_S_l1Line_2 (t0 : PV .str) (t3 : PV (.int .i64)) : Option ((PV .str × PV (.int .i64) × Unit) ⊕ ((PV .str × Unit) ⊕ (PV .bool × Unit))) :=
  bif (decide (t3 < (IntKind.wrap .i64 ((t0.length : Int) - 1)))) then
    bif inB t3 t0.length then
      bif (((t0.getD t3.toNat 0).toNat : Int) == 10) then
        some (.inr (.inr (false, ())))
      else
        some (.inl (t0, (IntKind.wrap .i64 (t3 + 1)), ()))
    else
      none
  else
    some (.inr (.inl (t0, ())))
noncomputable def w_S_l1Line_2 : PV .str × PV (.int .i64) × Unit → Option ((PV .str × Unit) ⊕ (PV .bool × Unit)) := fix fun d => b_S_l1Line_2 d.1 d.2.1
noncomputable def lp_S_l1Line_2 : Lp := ⟨⟨[], [0, 3], []⟩, sh_S_l1Line_2, o_S_l1Line_2, fun d => b_S_l1Line_2 d.1 d.2.1⟩
noncomputable def pl_S_l1Line : Plan := ⟨[], [(2, lp_S_l1Line_2)], 0, 0⟩
noncomputable def f_S_l1Line (t0 : PV .str) : Option (PVs [.bool] × PVs []) :=
  (w_S_l1Line_2 (t0, 0, ())).bind fun x6 =>
    match x6 with
    | .inl l3 =>
      (f_S_l1In (l3.1.length : Int) 1 30).bind fun r4 =>
        some ((r4.1.1, ()), ())
    | .inr l5 =>
      some ((l5.1, ()), ())
noncomputable def ct_S_l1Line : Ct := ⟨[(.bor, .str)], [(.bool, .b)], fun x => f_S_l1Line x.1⟩
noncomputable def cx_S_l1Line : Cx := ⟨tab, arrs, [(114, ct_S_l1In)], [], gl, []⟩
theorem eb_S_l1Line_2 (t0 : PV .str) (t3 : PV (.int .i64)) : denK cx_S_l1Line (rcN cx_S_l1Line 0) pl_S_l1Line 0 ((loopsOf (bodyOf Tryd.f152)).getD 0 .skip) (fillS sh_S_l1Line_2 (t0, t3, ())) (roundK 0 lp_S_l1Line_2) = b_S_l1Line_2 t0 t3 := by kernel_rfl
theorem ef_S_l1Line (t0 : PV .str) : denF cx_S_l1Line 0 pl_S_l1Line Tryd.f152.ntmps (bodyOf Tryd.f152) Tryd.f152.results.toList [(.bor, .str)] [(.bool, .b)] (t0, ()) = f_S_l1Line t0 := by kernel_rfl
theorem ok_S_l1Line : FnOk gl Tryd.prog 152 ct_S_l1Line :=
  fnOk (cx := cx_S_l1Line) (pl := pl_S_l1Line) (dp := 0) (ok0_of tabOk (by unfold ArrOk; kernel_rfl) mix ⟨ok_S_l1In, trivial⟩ trivial) Tryd.func152 (by kernel_rfl) (by kernel_rfl) (by kernel_rfl)
    (by rw [show loopsOf (bodyOf Tryd.f152) = [((loopsOf (bodyOf Tryd.f152)).getD 0 .skip)] from by kernel_rfl]; exact ⟨(by rw [show lookup pl_S_l1Line.loops (firstId ((loopsOf (bodyOf Tryd.f152)).getD 0 .skip)) = some lp_S_l1Line_2 from by kernel_rfl]; exact fun d z h => (eb_S_l1Line_2 d.1 d.2.1).trans h), trivial⟩) (fun x => ef_S_l1Line x.1)
noncomputable def o_S_l1Good_5 : List Out := [⟨.normal, ⟨[], [0, 5, 6, 7, 26], []⟩, mkSh 31 [(0, .val S_string .b), (5, .val S_string .b), (6, .val (.int .i64) .b), (7, .val (.int .i64) .b), (26, .val .bool .b)]⟩]
noncomputable def sh_S_l1Good_2 : List Sh := mkSh 31 [(0, .val S_string .b), (5, .val S_string .b), (6, .val (.int .i64) .b), (7, .val (.int .i64) .b)]
noncomputable def o_S_l1Good_2 : List Out := [⟨.exit 0, ⟨[], [0], []⟩, mkSh 31 [(0, .val S_string .b)]⟩, ⟨.ret, ⟨[], [2], []⟩, mkSh 31 [(2, .val .bool .b)]⟩]
noncomputable def b_S_l1Good_2 (t0 : PV S_string) (t5 : PV S_string) (t6 : PV (.int .i64)) (t7 : PV (.int .i64)) : Option ((PV S_string × PV S_string × PV (.int .i64) × PV (.int .i64) × Unit) ⊕ ((PV S_string × Unit) ⊕ (PV .bool × Unit))) :=
  bif (decide (t7 < t6)) then
    bif inB t7 t5.length then
      ((
          (f_S_l1Line (t5.getD t7.toNat [])).bind fun r4 =>
            bif (!r4.1.1) then
              some (t0, t5, t6, t7, true, ())
            else
              bif (decide (t7 < (IntKind.wrap .i64 ((t0.length : Int) - 1)))) then
                (f_S_l1Ends (t5.getD t7.toNat [])).bind fun r5 =>
                  some (t0, t5, t6, t7, (!r5.1.1), ())
              else
                some (t0, t5, t6, t7, false, ()) : Option ((PV S_string × PV S_string × PV (.int .i64) × PV (.int .i64) × PV .bool × Unit)))).bind fun j6 =>
        bif j6.2.2.2.2.1 then
          some (.inr (.inr (false, ())))
        else
          some (.inl (j6.1, j6.2.1, j6.2.2.1, (IntKind.wrap .i64 (j6.2.2.2.1 + 1)), ()))
    else
      none
  else
    some (.inr (.inl (t0, ())))
noncomputable def w_S_l1Good_2 : PV S_string × PV S_string × PV (.int .i64) × PV (.int .i64) × Unit → Option ((PV S_string × Unit) ⊕ (PV .bool × Unit)) := fix fun d => b_S_l1Good_2 d.1 d.2.1 d.2.2.1 d.2.2.2.1
noncomputable def lp_S_l1Good_2 : Lp := ⟨⟨[], [0, 5, 6, 7, 16, 17, 18, 19, 20, 21, 22, 23, 24, 25], []⟩, sh_S_l1Good_2, o_S_l1Good_2, fun d => b_S_l1Good_2 d.1 d.2.1 d.2.2.1 d.2.2.2.1⟩
noncomputable def pl_S_l1Good : Plan := ⟨[(5, o_S_l1Good_5)], [(2, lp_S_l1Good_2)], 0, 0⟩
noncomputable def f_S_l1Good (t0 : PV S_string) : Option (PVs [.bool] × PVs []) :=
  (w_S_l1Good_2 (t0, t0, (t0.length : Int), 0, ())).bind fun x11 =>
    match x11 with
    | .inl l9 =>
      some (((decide ((l9.1.length : Int) ≤ 40)), ()), ())
    | .inr l10 =>
      some ((l10.1, ()), ())
noncomputable def ct_S_l1Good : Ct := ⟨[(.bor, S_string)], [(.bool, .b)], fun x => f_S_l1Good x.1⟩
noncomputable def cx_S_l1Good : Cx := ⟨tab, arrs, [(115, ct_S_l1Ends), (152, ct_S_l1Line)], [], gl, []⟩
theorem eb_S_l1Good_2 (t0 : PV S_string) (t5 : PV S_string) (t6 : PV (.int .i64)) (t7 : PV (.int .i64)) : denK cx_S_l1Good (rcN cx_S_l1Good 0) pl_S_l1Good 0 ((loopsOf (bodyOf Tryd.f113)).getD 0 .skip) (fillS sh_S_l1Good_2 (t0, t5, t6, t7, ())) (roundK 0 lp_S_l1Good_2) = b_S_l1Good_2 t0 t5 t6 t7 := by kernel_rfl
theorem ef_S_l1Good (t0 : PV S_string) : denF cx_S_l1Good 0 pl_S_l1Good Tryd.f113.ntmps (bodyOf Tryd.f113) Tryd.f113.results.toList [(.bor, S_string)] [(.bool, .b)] (t0, ()) = f_S_l1Good t0 := by kernel_rfl
theorem ok_S_l1Good : FnOk gl Tryd.prog 113 ct_S_l1Good :=
  fnOk (cx := cx_S_l1Good) (pl := pl_S_l1Good) (dp := 0) (ok0_of tabOk (by unfold ArrOk; kernel_rfl) mix ⟨ok_S_l1Ends, ok_S_l1Line, trivial⟩ trivial) Tryd.func113 (by kernel_rfl) (by kernel_rfl) (by kernel_rfl)
    (by rw [show loopsOf (bodyOf Tryd.f113) = [((loopsOf (bodyOf Tryd.f113)).getD 0 .skip)] from by kernel_rfl]; exact ⟨(by rw [show lookup pl_S_l1Good.loops (firstId ((loopsOf (bodyOf Tryd.f113)).getD 0 .skip)) = some lp_S_l1Good_2 from by kernel_rfl]; exact fun d z h => (eb_S_l1Good_2 d.1 d.2.1 d.2.2.1 d.2.2.2.1).trans h), trivial⟩) (fun x => ef_S_l1Good x.1)
noncomputable def sh_S_l12Good_2 : List Sh := mkSh 18 [(0, .val S_S_string .b), (5, .val S_S_string .b), (6, .val (.int .i64) .b), (7, .val (.int .i64) .b)]
noncomputable def o_S_l12Good_2 : List Out := [⟨.exit 0, ⟨[], [0], []⟩, mkSh 18 [(0, .val S_S_string .b)]⟩, ⟨.ret, ⟨[], [2], []⟩, mkSh 18 [(2, .val .bool .b)]⟩]
noncomputable def b_S_l12Good_2 (t0 : PV S_S_string) (t5 : PV S_S_string) (t6 : PV (.int .i64)) (t7 : PV (.int .i64)) : Option ((PV S_S_string × PV S_S_string × PV (.int .i64) × PV (.int .i64) × Unit) ⊕ ((PV S_S_string × Unit) ⊕ (PV .bool × Unit))) :=
  bif (decide (t7 < t6)) then
    bif inB t7 t5.length then
      (f_S_l1Good (t5.getD t7.toNat [])).bind fun r4 =>
        bif (!r4.1.1) then
          some (.inr (.inr (false, ())))
        else
          some (.inl (t0, t5, t6, (IntKind.wrap .i64 (t7 + 1)), ()))
    else
      none
  else
    some (.inr (.inl (t0, ())))
noncomputable def w_S_l12Good_2 : PV S_S_string × PV S_S_string × PV (.int .i64) × PV (.int .i64) × Unit → Option ((PV S_S_string × Unit) ⊕ (PV .bool × Unit)) := fix fun d => b_S_l12Good_2 d.1 d.2.1 d.2.2.1 d.2.2.2.1
noncomputable def lp_S_l12Good_2 : Lp := ⟨⟨[], [0, 5, 6, 7], []⟩, sh_S_l12Good_2, o_S_l12Good_2, fun d => b_S_l12Good_2 d.1 d.2.1 d.2.2.1 d.2.2.2.1⟩
noncomputable def pl_S_l12Good : Plan := ⟨[], [(2, lp_S_l12Good_2)], 0, 0⟩
noncomputable def f_S_l12Good (t0 : PV S_S_string) : Option (PVs [.bool] × PVs []) :=
  (w_S_l12Good_2 (t0, t0, (t0.length : Int), 0, ())).bind fun x10 =>
    match x10 with
    | .inl l7 =>
      (f_S_l1In (l7.1.length : Int) 1 8).bind fun r8 =>
        some ((r8.1.1, ()), ())
    | .inr l9 =>
      some ((l9.1, ()), ())
noncomputable def ct_S_l12Good : Ct := ⟨[(.bor, S_S_string)], [(.bool, .b)], fun x => f_S_l12Good x.1⟩
noncomputable def cx_S_l12Good : Cx := ⟨tab, arrs, [(113, ct_S_l1Good), (114, ct_S_l1In)], [], gl, []⟩
theorem eb_S_l12Good_2 (t0 : PV S_S_string) (t5 : PV S_S_string) (t6 : PV (.int .i64)) (t7 : PV (.int .i64)) : denK cx_S_l12Good (rcN cx_S_l12Good 0) pl_S_l12Good 0 ((loopsOf (bodyOf Tryd.f67)).getD 0 .skip) (fillS sh_S_l12Good_2 (t0, t5, t6, t7, ())) (roundK 0 lp_S_l12Good_2) = b_S_l12Good_2 t0 t5 t6 t7 := by kernel_rfl
theorem ef_S_l12Good (t0 : PV S_S_string) : denF cx_S_l12Good 0 pl_S_l12Good Tryd.f67.ntmps (bodyOf Tryd.f67) Tryd.f67.results.toList [(.bor, S_S_string)] [(.bool, .b)] (t0, ()) = f_S_l12Good t0 := by kernel_rfl
theorem ok_S_l12Good : FnOk gl Tryd.prog 67 ct_S_l12Good :=
  fnOk (cx := cx_S_l12Good) (pl := pl_S_l12Good) (dp := 0) (ok0_of tabOk (by unfold ArrOk; kernel_rfl) mix ⟨ok_S_l1Good, ok_S_l1In, trivial⟩ trivial) Tryd.func67 (by kernel_rfl) (by kernel_rfl) (by kernel_rfl)
    (by rw [show loopsOf (bodyOf Tryd.f67) = [((loopsOf (bodyOf Tryd.f67)).getD 0 .skip)] from by kernel_rfl]; exact ⟨(by rw [show lookup pl_S_l12Good.loops (firstId ((loopsOf (bodyOf Tryd.f67)).getD 0 .skip)) = some lp_S_l12Good_2 from by kernel_rfl]; exact fun d z h => (eb_S_l12Good_2 d.1 d.2.1 d.2.2.1 d.2.2.2.1).trans h), trivial⟩) (fun x => ef_S_l12Good x.1)
noncomputable def pl_S_l1Most : Plan := ⟨[], [], 0, 0⟩
noncomputable def f_S_l1Most (t0 : PV (.int .i64)) (t1 : PV (.int .i64)) : Option (PVs [(.int .i64)] × PVs []) :=
  bif (decide (t0 > t1)) then
    some ((t0, ()), ())
  else
    some ((t1, ()), ())
noncomputable def ct_S_l1Most : Ct := ⟨[(.bor, (.int .i64)), (.bor, (.int .i64))], [((.int .i64), .b)], fun x => f_S_l1Most x.1 x.2.1⟩
noncomputable def cx_S_l1Most : Cx := ⟨tab, arrs, [], [], gl, []⟩
theorem ef_S_l1Most (t0 : PV (.int .i64)) (t1 : PV (.int .i64)) : denF cx_S_l1Most 0 pl_S_l1Most Tryd.f194.ntmps (bodyOf Tryd.f194) Tryd.f194.results.toList [(.bor, (.int .i64)), (.bor, (.int .i64))] [((.int .i64), .b)] (t0, t1, ()) = f_S_l1Most t0 t1 := by kernel_rfl
theorem ok_S_l1Most : FnOk gl Tryd.prog 194 ct_S_l1Most :=
  fnOk (cx := cx_S_l1Most) (pl := pl_S_l1Most) (dp := 0) (ok0_of tabOk (by unfold ArrOk; kernel_rfl) mix trivial trivial) Tryd.func194 (by kernel_rfl) (by kernel_rfl) (by kernel_rfl)
    (by rw [show loopsOf (bodyOf Tryd.f194) = [] from by kernel_rfl]; exact trivial) (fun x => ef_S_l1Most x.1 x.2.1)
noncomputable def o_S_l3Table_12 : List Out := [⟨.normal, ⟨[], [0, 1, 5, 7, 8], []⟩, mkSh 97 [(0, .val S_string .b), (1, .val S_string .b), (5, .val S_S_int (.row (.row .b))), (7, .val (.int .i64) .b), (8, .val (.int .i64) .b)]⟩]
noncomputable def sh_S_l3Table_3 : List Sh := mkSh 97 [(0, .val S_string .b), (1, .val S_string .b), (5, .val S_S_int (.row (.row .b))), (14, .val (.int .i64) .b), (15, .val (.int .i64) .b)]
noncomputable def o_S_l3Table_3 : List Out := [⟨.exit 0, ⟨[], [0, 1, 5], []⟩, mkSh 97 [(0, .val S_string .b), (1, .val S_string .b), (5, .val S_S_int (.row (.row .b)))]⟩]
noncomputable def b_S_l3Table_3 (t0 : PV S_string) (t1 : PV S_string) (t5 : PV S_S_int) (t14 : PV (.int .i64)) (t15 : PV (.int .i64)) : Option ((PV S_string × PV S_string × PV S_S_int × PV (.int .i64) × PV (.int .i64) × Unit) ⊕ ((PV S_string × PV S_string × PV S_S_int × Unit))) :=
  bif (decide (t15 < t14)) then
    bif decide (0 ≤ (IntKind.wrap .i64 ((t1.length : Int) + 1))) && (decide ((IntKind.wrap .i64 ((t1.length : Int) + 1)) ≤ (IntKind.wrap .i64 ((t1.length : Int) + 1))) && roomB (IntKind.wrap .i64 ((t1.length : Int) + 1)).toNat) then
      bif inB t15 t5.length then
        some (.inl (t0, t1, (t5.set t15.toNat (List.replicate (IntKind.wrap .i64 ((t1.length : Int) + 1)).toNat (0 : Int))), t14, (IntKind.wrap .i64 (t15 + 1)), ()))
      else
        none
    else
      none
  else
    some (.inr (t0, t1, t5, ()))
noncomputable def w_S_l3Table_3 : PV S_string × PV S_string × PV S_S_int × PV (.int .i64) × PV (.int .i64) × Unit → Option ((PV S_string × PV S_string × PV S_S_int × Unit)) := fix fun d => b_S_l3Table_3 d.1 d.2.1 d.2.2.1 d.2.2.2.1 d.2.2.2.2.1
noncomputable def lp_S_l3Table_3 : Lp := ⟨⟨[], [0, 1, 5, 14, 15], []⟩, sh_S_l3Table_3, o_S_l3Table_3, fun d => b_S_l3Table_3 d.1 d.2.1 d.2.2.1 d.2.2.2.1 d.2.2.2.2.1⟩
noncomputable def sh_S_l3Table_11 : List Sh := mkSh 97 [(0, .val S_string .b), (1, .val S_string .b), (5, .val S_S_int (.row (.row .b))), (7, .val (.int .i64) .b), (8, .val (.int .i64) .b)]
noncomputable def o_S_l3Table_11 : List Out := [⟨.exit 4, ⟨[], [0, 1, 5, 7], []⟩, mkSh 97 [(0, .val S_string .b), (1, .val S_string .b), (5, .val S_S_int (.row (.row .b))), (7, .val (.int .i64) .b)]⟩]
noncomputable def b_S_l3Table_11 (t0 : PV S_string) (t1 : PV S_string) (t5 : PV S_S_int) (t7 : PV (.int .i64)) (t8 : PV (.int .i64)) : Option ((PV S_string × PV S_string × PV S_S_int × PV (.int .i64) × PV (.int .i64) × Unit) ⊕ ((PV S_string × PV S_string × PV S_S_int × PV (.int .i64) × Unit))) :=
  bif (decide (t8 ≥ 0)) then
    ((
        bif inB t7 t5.length then
          bif inB (IntKind.wrap .i64 (t7 + 1)) t5.length then
            bif inB t8 (t5.getD ((IntKind.wrap .i64 (t7 + 1)).toNat) []).length then
              bif inB t7 t5.length then
                bif inB (IntKind.wrap .i64 (t8 + 1)) (t5.getD t7.toNat []).length then
                  (f_S_l1Most ((t5.getD ((IntKind.wrap .i64 (t7 + 1)).toNat) []).getD t8.toNat (0 : Int)) ((t5.getD t7.toNat []).getD ((IntKind.wrap .i64 (t8 + 1)).toNat) (0 : Int))).bind fun r4 =>
                    bif inB t8 (t5.getD t7.toNat []).length then
                      bif inB t7 t0.length then
                        bif inB t8 t1.length then
                          bif ((t0.getD t7.toNat []) == (t1.getD t8.toNat [])) then
                            bif inB t7 (t5.set t7.toNat ((t5.getD t7.toNat []).set t8.toNat r4.1.1)).length then
                              bif inB t7 (t5.set t7.toNat ((t5.getD t7.toNat []).set t8.toNat r4.1.1)).length then
                                bif inB t8 ((t5.set t7.toNat ((t5.getD t7.toNat []).set t8.toNat r4.1.1)).getD t7.toNat []).length then
                                  bif inB (IntKind.wrap .i64 (t7 + 1)) (t5.set t7.toNat ((t5.getD t7.toNat []).set t8.toNat r4.1.1)).length then
                                    bif inB (IntKind.wrap .i64 (t8 + 1)) ((t5.set t7.toNat ((t5.getD t7.toNat []).set t8.toNat r4.1.1)).getD ((IntKind.wrap .i64 (t7 + 1)).toNat) []).length then
                                      (f_S_l1Most (((t5.set t7.toNat ((t5.getD t7.toNat []).set t8.toNat r4.1.1)).getD t7.toNat []).getD t8.toNat (0 : Int)) (IntKind.wrap .i64 ((((t5.set t7.toNat ((t5.getD t7.toNat []).set t8.toNat r4.1.1)).getD ((IntKind.wrap .i64 (t7 + 1)).toNat) []).getD ((IntKind.wrap .i64 (t8 + 1)).toNat) (0 : Int)) + 1))).bind fun r5 =>
                                        bif inB t8 ((t5.set t7.toNat ((t5.getD t7.toNat []).set t8.toNat r4.1.1)).getD t7.toNat []).length then
                                          some (t0, t1, ((t5.set t7.toNat ((t5.getD t7.toNat []).set t8.toNat r4.1.1)).set t7.toNat (((t5.set t7.toNat ((t5.getD t7.toNat []).set t8.toNat r4.1.1)).getD t7.toNat []).set t8.toNat r5.1.1)), t7, t8, ())
                                        else
                                          none
                                    else
                                      none
                                  else
                                    none
                                else
                                  none
                              else
                                none
                            else
                              none
                          else
                            some (t0, t1, (t5.set t7.toNat ((t5.getD t7.toNat []).set t8.toNat r4.1.1)), t7, t8, ())
                        else
                          none
                      else
                        none
                    else
                      none
                else
                  none
              else
                none
            else
              none
          else
            none
        else
          none : Option ((PV S_string × PV S_string × PV S_S_int × PV (.int .i64) × PV (.int .i64) × Unit)))).bind fun j6 =>
      some (.inl (j6.1, j6.2.1, j6.2.2.1, j6.2.2.2.1, (IntKind.wrap .i64 (j6.2.2.2.2.1 - 1)), ()))
  else
    some (.inr (t0, t1, t5, t7, ()))
noncomputable def w_S_l3Table_11 : PV S_string × PV S_string × PV S_S_int × PV (.int .i64) × PV (.int .i64) × Unit → Option ((PV S_string × PV S_string × PV S_S_int × PV (.int .i64) × Unit)) := fix fun d => b_S_l3Table_11 d.1 d.2.1 d.2.2.1 d.2.2.2.1 d.2.2.2.2.1
noncomputable def lp_S_l3Table_11 : Lp := ⟨⟨[], [0, 1, 5, 7, 8], []⟩, sh_S_l3Table_11, o_S_l3Table_11, fun d => b_S_l3Table_11 d.1 d.2.1 d.2.2.1 d.2.2.2.1 d.2.2.2.2.1⟩
noncomputable def sh_S_l3Table_8 : List Sh := mkSh 97 [(0, .val S_string .b), (1, .val S_string .b), (5, .val S_S_int (.row (.row .b))), (7, .val (.int .i64) .b)]
noncomputable def o_S_l3Table_8 : List Out := [⟨.exit 2, ⟨[], [5], []⟩, mkSh 97 [(5, .val S_S_int (.row (.row .b)))]⟩]
noncomputable def b_S_l3Table_8 (t0 : PV S_string) (t1 : PV S_string) (t5 : PV S_S_int) (t7 : PV (.int .i64)) : Option ((PV S_string × PV S_string × PV S_S_int × PV (.int .i64) × Unit) ⊕ ((PV S_S_int × Unit))) :=
  bif (decide (t7 ≥ 0)) then
    (w_S_l3Table_11 (t0, t1, t5, t7, (IntKind.wrap .i64 ((t1.length : Int) - 1)), ())).bind fun l4 =>
      some (.inl (l4.1, l4.2.1, l4.2.2.1, (IntKind.wrap .i64 (l4.2.2.2.1 - 1)), ()))
  else
    some (.inr (t5, ()))
noncomputable def w_S_l3Table_8 : PV S_string × PV S_string × PV S_S_int × PV (.int .i64) × Unit → Option ((PV S_S_int × Unit)) := fix fun d => b_S_l3Table_8 d.1 d.2.1 d.2.2.1 d.2.2.2.1
noncomputable def lp_S_l3Table_8 : Lp := ⟨⟨[], [0, 1, 5, 7], []⟩, sh_S_l3Table_8, o_S_l3Table_8, fun d => b_S_l3Table_8 d.1 d.2.1 d.2.2.1 d.2.2.2.1⟩
noncomputable def pl_S_l3Table : Plan := ⟨[(12, o_S_l3Table_12)], [(3, lp_S_l3Table_3), (11, lp_S_l3Table_11), (8, lp_S_l3Table_8)], 0, 0⟩
noncomputable def f_S_l3Table (t0 : PV S_string) (t1 : PV S_string) : Option (PVs [S_S_int] × PVs []) :=
  bif decide (0 ≤ (IntKind.wrap .i64 ((t0.length : Int) + 1))) && (decide ((IntKind.wrap .i64 ((t0.length : Int) + 1)) ≤ (IntKind.wrap .i64 ((t0.length : Int) + 1))) && roomB (IntKind.wrap .i64 ((t0.length : Int) + 1)).toNat) then
    (w_S_l3Table_3 (t0, t1, (List.replicate (IntKind.wrap .i64 ((t0.length : Int) + 1)).toNat ([] : PV S_int)), ((List.replicate (IntKind.wrap .i64 ((t0.length : Int) + 1)).toNat ([] : PV S_int)).length : Int), 0, ())).bind fun l2 =>
      (w_S_l3Table_8 (l2.1, l2.2.1, l2.2.2.1, (IntKind.wrap .i64 ((l2.1.length : Int) - 1)), ())).bind fun l6 =>
        some ((l6.1, ()), ())
  else
    none
noncomputable def ct_S_l3Table : Ct := ⟨[(.bor, S_string), (.bor, S_string)], [(S_S_int, (.row (.row .b)))], fun x => f_S_l3Table x.1 x.2.1⟩
noncomputable def cx_S_l3Table : Cx := ⟨tab, arrs, [(194, ct_S_l1Most)], [], gl, []⟩
theorem eb_S_l3Table_3 (t0 : PV S_string) (t1 : PV S_string) (t5 : PV S_S_int) (t14 : PV (.int .i64)) (t15 : PV (.int .i64)) : denK cx_S_l3Table (rcN cx_S_l3Table 0) pl_S_l3Table 0 ((loopsOf (bodyOf Tryd.f176)).getD 0 .skip) (fillS sh_S_l3Table_3 (t0, t1, t5, t14, t15, ())) (roundK 0 lp_S_l3Table_3) = b_S_l3Table_3 t0 t1 t5 t14 t15 := by kernel_rfl
theorem eb_S_l3Table_8 (t0 : PV S_string) (t1 : PV S_string) (t5 : PV S_S_int) (t7 : PV (.int .i64)) : denK cx_S_l3Table (rcN cx_S_l3Table 0) pl_S_l3Table 0 ((loopsOf (bodyOf Tryd.f176)).getD 1 .skip) (fillS sh_S_l3Table_8 (t0, t1, t5, t7, ())) (roundK 0 lp_S_l3Table_8) = b_S_l3Table_8 t0 t1 t5 t7 := by kernel_rfl
theorem eb_S_l3Table_11 (t0 : PV S_string) (t1 : PV S_string) (t5 : PV S_S_int) (t7 : PV (.int .i64)) (t8 : PV (.int .i64)) : denK cx_S_l3Table (rcN cx_S_l3Table 0) pl_S_l3Table 0 ((loopsOf (bodyOf Tryd.f176)).getD 2 .skip) (fillS sh_S_l3Table_11 (t0, t1, t5, t7, t8, ())) (roundK 0 lp_S_l3Table_11) = b_S_l3Table_11 t0 t1 t5 t7 t8 := by kernel_rfl
theorem ef_S_l3Table (t0 : PV S_string) (t1 : PV S_string) : denF cx_S_l3Table 0 pl_S_l3Table Tryd.f176.ntmps (bodyOf Tryd.f176) Tryd.f176.results.toList [(.bor, S_string), (.bor, S_string)] [(S_S_int, (.row (.row .b)))] (t0, t1, ()) = f_S_l3Table t0 t1 := by kernel_rfl
theorem ok_S_l3Table : FnOk gl Tryd.prog 176 ct_S_l3Table :=
  fnOk (cx := cx_S_l3Table) (pl := pl_S_l3Table) (dp := 0) (ok0_of tabOk (by unfold ArrOk; kernel_rfl) mix ⟨ok_S_l1Most, trivial⟩ trivial) Tryd.func176 (by kernel_rfl) (by kernel_rfl) (by kernel_rfl)
    (by rw [show loopsOf (bodyOf Tryd.f176) = [((loopsOf (bodyOf Tryd.f176)).getD 0 .skip), ((loopsOf (bodyOf Tryd.f176)).getD 1 .skip), ((loopsOf (bodyOf Tryd.f176)).getD 2 .skip)] from by kernel_rfl]; exact ⟨(by rw [show lookup pl_S_l3Table.loops (firstId ((loopsOf (bodyOf Tryd.f176)).getD 0 .skip)) = some lp_S_l3Table_3 from by kernel_rfl]; exact fun d z h => (eb_S_l3Table_3 d.1 d.2.1 d.2.2.1 d.2.2.2.1 d.2.2.2.2.1).trans h), (by rw [show lookup pl_S_l3Table.loops (firstId ((loopsOf (bodyOf Tryd.f176)).getD 1 .skip)) = some lp_S_l3Table_8 from by kernel_rfl]; exact fun d z h => (eb_S_l3Table_8 d.1 d.2.1 d.2.2.1 d.2.2.2.1).trans h), (by rw [show lookup pl_S_l3Table.loops (firstId ((loopsOf (bodyOf Tryd.f176)).getD 2 .skip)) = some lp_S_l3Table_11 from by kernel_rfl]; exact fun d z h => (eb_S_l3Table_11 d.1 d.2.1 d.2.2.1 d.2.2.2.1 d.2.2.2.2.1).trans h), trivial⟩) (fun x => ef_S_l3Table x.1 x.2.1)
noncomputable def o_S_l3Pairs_13 : List Out := [⟨.normal, ⟨[], [0, 1, 5, 6, 7, 8, 9, 10, 11, 12, 72], []⟩, mkSh 86 [(0, .val S_string .b), (1, .val S_string .b), (5, .val S_S_int (.row (.row .b))), (6, .val S__2_int (.row (.pr .b (.pr .b .b)))), (7, .val (.int .i64) .b), (8, .val (.int .i64) .b), (9, .val (.int .i64) .b), (10, .val (.int .i64) .b), (11, .val (.int .i64) .b), (12, .val (.int .i64) .b), (72, .val .bool .b)]⟩]
noncomputable def o_S_l3Pairs_11 : List Out := [⟨.normal, ⟨[], [0, 1, 5, 6, 7, 8, 9, 10, 11, 12, 54, 55, 56, 57, 58, 59, 60, 61, 62, 63, 64, 65, 66, 67, 68, 69, 70, 71], []⟩, mkSh 86 [(0, .val S_string .b), (1, .val S_string .b), (5, .val S_S_int (.row (.row .b))), (6, .val S__2_int (.row (.pr .b (.pr .b .b)))), (7, .val (.int .i64) .b), (8, .val (.int .i64) .b), (9, .val (.int .i64) .b), (10, .val (.int .i64) .b), (11, .val (.int .i64) .b), (12, .val (.int .i64) .b)]⟩]
noncomputable def sh_S_l3Pairs_10 : List Sh := mkSh 86 [(0, .val S_string .b), (1, .val S_string .b), (5, .val S_S_int (.row (.row .b))), (6, .val S__2_int (.row (.pr .b (.pr .b .b)))), (7, .val (.int .i64) .b), (8, .val (.int .i64) .b), (9, .val (.int .i64) .b), (10, .val (.int .i64) .b), (11, .val (.int .i64) .b), (12, .val (.int .i64) .b)]
noncomputable def o_S_l3Pairs_10 : List Out := [⟨.exit 4, ⟨[], [0, 1, 5, 6, 7, 8, 9, 10, 11, 54, 55, 56, 57, 58, 59, 60, 61, 62, 63, 64, 65, 66, 67, 68, 69, 70, 71], []⟩, mkSh 86 [(0, .val S_string .b), (1, .val S_string .b), (5, .val S_S_int (.row (.row .b))), (6, .val S__2_int (.row (.pr .b (.pr .b .b)))), (7, .val (.int .i64) .b), (8, .val (.int .i64) .b), (9, .val (.int .i64) .b), (10, .val (.int .i64) .b), (11, .val (.int .i64) .b)]⟩]
noncomputable def b_S_l3Pairs_10 (t0 : PV S_string) (t1 : PV S_string) (t5 : PV S_S_int) (t6 : PV S__2_int) (t7 : PV (.int .i64)) (t8 : PV (.int .i64)) (t9 : PV (.int .i64)) (t10 : PV (.int .i64)) (t11 : PV (.int .i64)) (t12 : PV (.int .i64)) : Option ((PV S_string × PV S_string × PV S_S_int × PV S__2_int × PV (.int .i64) × PV (.int .i64) × PV (.int .i64) × PV (.int .i64) × PV (.int .i64) × PV (.int .i64) × Unit) ⊕ ((PV S_string × PV S_string × PV S_S_int × PV S__2_int × PV (.int .i64) × PV (.int .i64) × PV (.int .i64) × PV (.int .i64) × PV (.int .i64) × Unit))) :=
  bif (decide (t12 ≥ t8)) then
    ((
        ((
            bif inB t11 t0.length then
              bif inB t12 t1.length then
                bif ((t0.getD t11.toNat []) == (t1.getD t12.toNat [])) then
                  bif inB (IntKind.wrap .i64 (t11 + 1)) t5.length then
                    bif inB (IntKind.wrap .i64 (t12 + 1)) (t5.getD ((IntKind.wrap .i64 (t11 + 1)).toNat) []).length then
                      bif inB t7 t5.length then
                        bif inB t8 (t5.getD t7.toNat []).length then
                          some (t0, t1, t5, t6, t7, t8, t9, t10, t11, t12, ((IntKind.wrap .i64 (((t5.getD ((IntKind.wrap .i64 (t11 + 1)).toNat) []).getD ((IntKind.wrap .i64 (t12 + 1)).toNat) (0 : Int)) + 1)) == ((t5.getD t7.toNat []).getD t8.toNat (0 : Int))), ())
                        else
                          none
                      else
                        none
                    else
                      none
                  else
                    none
                else
                  some (t0, t1, t5, t6, t7, t8, t9, t10, t11, t12, false, ())
              else
                none
            else
              none : Option ((PV S_string × PV S_string × PV S_S_int × PV S__2_int × PV (.int .i64) × PV (.int .i64) × PV (.int .i64) × PV (.int .i64) × PV (.int .i64) × PV (.int .i64) × PV .bool × Unit)))).bind fun j3 =>
          bif j3.2.2.2.2.2.2.2.2.2.2.1 then
            some (j3.1, j3.2.1, j3.2.2.1, j3.2.2.2.1, j3.2.2.2.2.1, j3.2.2.2.2.2.1, j3.2.2.2.2.2.2.2.2.1, j3.2.2.2.2.2.2.2.2.2.1, j3.2.2.2.2.2.2.2.2.1, j3.2.2.2.2.2.2.2.2.2.1, ())
          else
            some (j3.1, j3.2.1, j3.2.2.1, j3.2.2.2.1, j3.2.2.2.2.1, j3.2.2.2.2.2.1, j3.2.2.2.2.2.2.1, j3.2.2.2.2.2.2.2.1, j3.2.2.2.2.2.2.2.2.1, j3.2.2.2.2.2.2.2.2.2.1, ()) : Option ((PV S_string × PV S_string × PV S_S_int × PV S__2_int × PV (.int .i64) × PV (.int .i64) × PV (.int .i64) × PV (.int .i64) × PV (.int .i64) × PV (.int .i64) × Unit)))).bind fun j4 =>
      some (.inl (j4.1, j4.2.1, j4.2.2.1, j4.2.2.2.1, j4.2.2.2.2.1, j4.2.2.2.2.2.1, j4.2.2.2.2.2.2.1, j4.2.2.2.2.2.2.2.1, j4.2.2.2.2.2.2.2.2.1, (IntKind.wrap .i64 (j4.2.2.2.2.2.2.2.2.2.1 - 1)), ()))
  else
    some (.inr (t0, t1, t5, t6, t7, t8, t9, t10, t11, ()))
noncomputable def w_S_l3Pairs_10 : PV S_string × PV S_string × PV S_S_int × PV S__2_int × PV (.int .i64) × PV (.int .i64) × PV (.int .i64) × PV (.int .i64) × PV (.int .i64) × PV (.int .i64) × Unit → Option ((PV S_string × PV S_string × PV S_S_int × PV S__2_int × PV (.int .i64) × PV (.int .i64) × PV (.int .i64) × PV (.int .i64) × PV (.int .i64) × Unit)) := fix fun d => b_S_l3Pairs_10 d.1 d.2.1 d.2.2.1 d.2.2.2.1 d.2.2.2.2.1 d.2.2.2.2.2.1 d.2.2.2.2.2.2.1 d.2.2.2.2.2.2.2.1 d.2.2.2.2.2.2.2.2.1 d.2.2.2.2.2.2.2.2.2.1
noncomputable def lp_S_l3Pairs_10 : Lp := ⟨⟨[], [0, 1, 5, 6, 7, 8, 9, 10, 11, 12, 54, 55, 56, 57, 58, 59, 60, 61, 62, 63, 64, 65, 66, 67, 68, 69, 70, 71], []⟩, sh_S_l3Pairs_10, o_S_l3Pairs_10, fun d => b_S_l3Pairs_10 d.1 d.2.1 d.2.2.1 d.2.2.2.1 d.2.2.2.2.1 d.2.2.2.2.2.1 d.2.2.2.2.2.2.1 d.2.2.2.2.2.2.2.1 d.2.2.2.2.2.2.2.2.1 d.2.2.2.2.2.2.2.2.2.1⟩
noncomputable def sh_S_l3Pairs_7 : List Sh := mkSh 86 [(0, .val S_string .b), (1, .val S_string .b), (5, .val S_S_int (.row (.row .b))), (6, .val S__2_int (.row (.pr .b (.pr .b .b)))), (7, .val (.int .i64) .b), (8, .val (.int .i64) .b), (9, .val (.int .i64) .b), (10, .val (.int .i64) .b), (11, .val (.int .i64) .b)]
noncomputable def o_S_l3Pairs_7 : List Out := [⟨.exit 2, ⟨[], [0, 1, 5, 6, 9, 10, 54, 55, 56, 57, 58, 59, 60, 61, 62, 63, 64, 65, 66, 67, 68, 69, 70, 71], []⟩, mkSh 86 [(0, .val S_string .b), (1, .val S_string .b), (5, .val S_S_int (.row (.row .b))), (6, .val S__2_int (.row (.pr .b (.pr .b .b)))), (9, .val (.int .i64) .b), (10, .val (.int .i64) .b)]⟩]
noncomputable def b_S_l3Pairs_7 (t0 : PV S_string) (t1 : PV S_string) (t5 : PV S_S_int) (t6 : PV S__2_int) (t7 : PV (.int .i64)) (t8 : PV (.int .i64)) (t9 : PV (.int .i64)) (t10 : PV (.int .i64)) (t11 : PV (.int .i64)) : Option ((PV S_string × PV S_string × PV S_S_int × PV S__2_int × PV (.int .i64) × PV (.int .i64) × PV (.int .i64) × PV (.int .i64) × PV (.int .i64) × Unit) ⊕ ((PV S_string × PV S_string × PV S_S_int × PV S__2_int × PV (.int .i64) × PV (.int .i64) × Unit))) :=
  bif (decide (t11 ≥ t7)) then
    (w_S_l3Pairs_10 (t0, t1, t5, t6, t7, t8, t9, t10, t11, (IntKind.wrap .i64 ((t1.length : Int) - 1)), ())).bind fun l4 =>
      some (.inl (l4.1, l4.2.1, l4.2.2.1, l4.2.2.2.1, l4.2.2.2.2.1, l4.2.2.2.2.2.1, l4.2.2.2.2.2.2.1, l4.2.2.2.2.2.2.2.1, (IntKind.wrap .i64 (l4.2.2.2.2.2.2.2.2.1 - 1)), ()))
  else
    some (.inr (t0, t1, t5, t6, t9, t10, ()))
noncomputable def w_S_l3Pairs_7 : PV S_string × PV S_string × PV S_S_int × PV S__2_int × PV (.int .i64) × PV (.int .i64) × PV (.int .i64) × PV (.int .i64) × PV (.int .i64) × Unit → Option ((PV S_string × PV S_string × PV S_S_int × PV S__2_int × PV (.int .i64) × PV (.int .i64) × Unit)) := fix fun d => b_S_l3Pairs_7 d.1 d.2.1 d.2.2.1 d.2.2.2.1 d.2.2.2.2.1 d.2.2.2.2.2.1 d.2.2.2.2.2.2.1 d.2.2.2.2.2.2.2.1 d.2.2.2.2.2.2.2.2.1
noncomputable def lp_S_l3Pairs_7 : Lp := ⟨⟨[], [0, 1, 5, 6, 7, 8, 9, 10, 11, 54, 55, 56, 57, 58, 59, 60, 61, 62, 63, 64, 65, 66, 67, 68, 69, 70, 71], []⟩, sh_S_l3Pairs_7, o_S_l3Pairs_7, fun d => b_S_l3Pairs_7 d.1 d.2.1 d.2.2.1 d.2.2.2.1 d.2.2.2.2.1 d.2.2.2.2.2.1 d.2.2.2.2.2.2.1 d.2.2.2.2.2.2.2.1 d.2.2.2.2.2.2.2.2.1⟩
noncomputable def sh_S_l3Pairs_4 : List Sh := mkSh 86 [(0, .val S_string .b), (1, .val S_string .b), (5, .val S_S_int (.row (.row .b))), (6, .val S__2_int (.row (.pr .b (.pr .b .b)))), (7, .val (.int .i64) .b), (8, .val (.int .i64) .b)]
noncomputable def o_S_l3Pairs_4 : List Out := [⟨.exit 0, ⟨[], [6], []⟩, mkSh 86 [(6, .val S__2_int (.row (.pr .b (.pr .b .b))))]⟩]
noncomputable def b_S_l3Pairs_4 (t0 : PV S_string) (t1 : PV S_string) (t5 : PV S_S_int) (t6 : PV S__2_int) (t7 : PV (.int .i64)) (t8 : PV (.int .i64)) : Option ((PV S_string × PV S_string × PV S_S_int × PV S__2_int × PV (.int .i64) × PV (.int .i64) × Unit) ⊕ ((PV S__2_int × Unit))) :=
  bif inB t7 t5.length then
    bif inB t8 (t5.getD t7.toNat []).length then
      bif (decide (((t5.getD t7.toNat []).getD t8.toNat (0 : Int)) > 0)) then
        (w_S_l3Pairs_7 (t0, t1, t5, t6, t7, t8, (t0.length : Int), (t1.length : Int), (IntKind.wrap .i64 ((t0.length : Int) - 1)), ())).bind fun l4 =>
          bif roomB (l4.2.2.2.1.length + [(l4.2.2.2.2.1, (l4.2.2.2.2.2.1, ()))].length) then
            some (.inl (l4.1, l4.2.1, l4.2.2.1, (l4.2.2.2.1 ++ [(l4.2.2.2.2.1, (l4.2.2.2.2.2.1, ()))]), (IntKind.wrap .i64 (l4.2.2.2.2.1 + 1)), (IntKind.wrap .i64 (l4.2.2.2.2.2.1 + 1)), ()))
          else
            none
      else
        some (.inr (t6, ()))
    else
      none
  else
    none
noncomputable def w_S_l3Pairs_4 : PV S_string × PV S_string × PV S_S_int × PV S__2_int × PV (.int .i64) × PV (.int .i64) × Unit → Option ((PV S__2_int × Unit)) := fix fun d => b_S_l3Pairs_4 d.1 d.2.1 d.2.2.1 d.2.2.2.1 d.2.2.2.2.1 d.2.2.2.2.2.1
noncomputable def lp_S_l3Pairs_4 : Lp := ⟨⟨[], [0, 1, 5, 6, 7, 8, 54, 55, 56, 57, 58, 59, 60, 61, 62, 63, 64, 65, 66, 67, 68, 69, 70, 71], []⟩, sh_S_l3Pairs_4, o_S_l3Pairs_4, fun d => b_S_l3Pairs_4 d.1 d.2.1 d.2.2.1 d.2.2.2.1 d.2.2.2.2.1 d.2.2.2.2.2.1⟩
noncomputable def pl_S_l3Pairs : Plan := ⟨[(13, o_S_l3Pairs_13), (11, o_S_l3Pairs_11)], [(10, lp_S_l3Pairs_10), (7, lp_S_l3Pairs_7), (4, lp_S_l3Pairs_4)], 0, 0⟩
noncomputable def f_S_l3Pairs (t0 : PV S_string) (t1 : PV S_string) : Option (PVs [S__2_int] × PVs []) :=
  (f_S_l3Table t0 t1).bind fun r2 =>
    (w_S_l3Pairs_4 (t0, t1, r2.1.1, [], 0, 0, ())).bind fun l6 =>
      some ((l6.1, ()), ())
noncomputable def ct_S_l3Pairs : Ct := ⟨[(.bor, S_string), (.bor, S_string)], [(S__2_int, (.row (.pr .b (.pr .b .b))))], fun x => f_S_l3Pairs x.1 x.2.1⟩
noncomputable def cx_S_l3Pairs : Cx := ⟨tab, arrs, [(176, ct_S_l3Table)], [], gl, []⟩
theorem eb_S_l3Pairs_4 (t0 : PV S_string) (t1 : PV S_string) (t5 : PV S_S_int) (t6 : PV S__2_int) (t7 : PV (.int .i64)) (t8 : PV (.int .i64)) : denK cx_S_l3Pairs (rcN cx_S_l3Pairs 0) pl_S_l3Pairs 0 ((loopsOf (bodyOf Tryd.f133)).getD 0 .skip) (fillS sh_S_l3Pairs_4 (t0, t1, t5, t6, t7, t8, ())) (roundK 0 lp_S_l3Pairs_4) = b_S_l3Pairs_4 t0 t1 t5 t6 t7 t8 := by kernel_rfl
theorem eb_S_l3Pairs_7 (t0 : PV S_string) (t1 : PV S_string) (t5 : PV S_S_int) (t6 : PV S__2_int) (t7 : PV (.int .i64)) (t8 : PV (.int .i64)) (t9 : PV (.int .i64)) (t10 : PV (.int .i64)) (t11 : PV (.int .i64)) : denK cx_S_l3Pairs (rcN cx_S_l3Pairs 0) pl_S_l3Pairs 0 ((loopsOf (bodyOf Tryd.f133)).getD 1 .skip) (fillS sh_S_l3Pairs_7 (t0, t1, t5, t6, t7, t8, t9, t10, t11, ())) (roundK 0 lp_S_l3Pairs_7) = b_S_l3Pairs_7 t0 t1 t5 t6 t7 t8 t9 t10 t11 := by kernel_rfl
theorem eb_S_l3Pairs_10 (t0 : PV S_string) (t1 : PV S_string) (t5 : PV S_S_int) (t6 : PV S__2_int) (t7 : PV (.int .i64)) (t8 : PV (.int .i64)) (t9 : PV (.int .i64)) (t10 : PV (.int .i64)) (t11 : PV (.int .i64)) (t12 : PV (.int .i64)) : denK cx_S_l3Pairs (rcN cx_S_l3Pairs 0) pl_S_l3Pairs 0 ((loopsOf (bodyOf Tryd.f133)).getD 2 .skip) (fillS sh_S_l3Pairs_10 (t0, t1, t5, t6, t7, t8, t9, t10, t11, t12, ())) (roundK 0 lp_S_l3Pairs_10) = b_S_l3Pairs_10 t0 t1 t5 t6 t7 t8 t9 t10 t11 t12 := by kernel_rfl
theorem ef_S_l3Pairs (t0 : PV S_string) (t1 : PV S_string) : denF cx_S_l3Pairs 0 pl_S_l3Pairs Tryd.f133.ntmps (bodyOf Tryd.f133) Tryd.f133.results.toList [(.bor, S_string), (.bor, S_string)] [(S__2_int, (.row (.pr .b (.pr .b .b))))] (t0, t1, ()) = f_S_l3Pairs t0 t1 := by kernel_rfl
theorem ok_S_l3Pairs : FnOk gl Tryd.prog 133 ct_S_l3Pairs :=
  fnOk (cx := cx_S_l3Pairs) (pl := pl_S_l3Pairs) (dp := 0) (ok0_of tabOk (by unfold ArrOk; kernel_rfl) mix ⟨ok_S_l3Table, trivial⟩ trivial) Tryd.func133 (by kernel_rfl) (by kernel_rfl) (by kernel_rfl)
    (by rw [show loopsOf (bodyOf Tryd.f133) = [((loopsOf (bodyOf Tryd.f133)).getD 0 .skip), ((loopsOf (bodyOf Tryd.f133)).getD 1 .skip), ((loopsOf (bodyOf Tryd.f133)).getD 2 .skip)] from by kernel_rfl]; exact ⟨(by rw [show lookup pl_S_l3Pairs.loops (firstId ((loopsOf (bodyOf Tryd.f133)).getD 0 .skip)) = some lp_S_l3Pairs_4 from by kernel_rfl]; exact fun d z h => (eb_S_l3Pairs_4 d.1 d.2.1 d.2.2.1 d.2.2.2.1 d.2.2.2.2.1 d.2.2.2.2.2.1).trans h), (by rw [show lookup pl_S_l3Pairs.loops (firstId ((loopsOf (bodyOf Tryd.f133)).getD 1 .skip)) = some lp_S_l3Pairs_7 from by kernel_rfl]; exact fun d z h => (eb_S_l3Pairs_7 d.1 d.2.1 d.2.2.1 d.2.2.2.1 d.2.2.2.2.1 d.2.2.2.2.2.1 d.2.2.2.2.2.2.1 d.2.2.2.2.2.2.2.1 d.2.2.2.2.2.2.2.2.1).trans h), (by rw [show lookup pl_S_l3Pairs.loops (firstId ((loopsOf (bodyOf Tryd.f133)).getD 2 .skip)) = some lp_S_l3Pairs_10 from by kernel_rfl]; exact fun d z h => (eb_S_l3Pairs_10 d.1 d.2.1 d.2.2.1 d.2.2.2.1 d.2.2.2.2.1 d.2.2.2.2.2.1 d.2.2.2.2.2.2.1 d.2.2.2.2.2.2.2.1 d.2.2.2.2.2.2.2.2.1 d.2.2.2.2.2.2.2.2.2.1).trans h), trivial⟩) (fun x => ef_S_l3Pairs x.1 x.2.1)
noncomputable def sh_S_l12Next_3 : List Sh := mkSh 37 [(0, .val S_string .b), (1, .val S_string .b), (5, .val S_int (.row .b)), (13, .val (.int .i64) .b), (14, .val (.int .i64) .b)]
noncomputable def o_S_l12Next_3 : List Out := [⟨.exit 0, ⟨[], [0, 1, 5], []⟩, mkSh 37 [(0, .val S_string .b), (1, .val S_string .b), (5, .val S_int (.row .b))]⟩]
noncomputable def b_S_l12Next_3 (t0 : PV S_string) (t1 : PV S_string) (t5 : PV S_int) (t13 : PV (.int .i64)) (t14 : PV (.int .i64)) : Option ((PV S_string × PV S_string × PV S_int × PV (.int .i64) × PV (.int .i64) × Unit) ⊕ ((PV S_string × PV S_string × PV S_int × Unit))) :=
  bif (decide (t14 < t13)) then
    bif inB t14 t5.length then
      some (.inl (t0, t1, (t5.set t14.toNat (-1)), t13, (IntKind.wrap .i64 (t14 + 1)), ()))
    else
      none
  else
    some (.inr (t0, t1, t5, ()))
noncomputable def w_S_l12Next_3 : PV S_string × PV S_string × PV S_int × PV (.int .i64) × PV (.int .i64) × Unit → Option ((PV S_string × PV S_string × PV S_int × Unit)) := fix fun d => b_S_l12Next_3 d.1 d.2.1 d.2.2.1 d.2.2.2.1 d.2.2.2.2.1
noncomputable def lp_S_l12Next_3 : Lp := ⟨⟨[], [0, 1, 5, 13, 14], []⟩, sh_S_l12Next_3, o_S_l12Next_3, fun d => b_S_l12Next_3 d.1 d.2.1 d.2.2.1 d.2.2.2.1 d.2.2.2.2.1⟩
noncomputable def sh_S_l12Next_8 : List Sh := mkSh 37 [(5, .val S_int (.row .b)), (23, .val S__2_int (.row (.pr .b (.pr .b .b)))), (24, .val (.int .i64) .b), (25, .val (.int .i64) .b)]
noncomputable def o_S_l12Next_8 : List Out := [⟨.exit 2, ⟨[], [5], []⟩, mkSh 37 [(5, .val S_int (.row .b))]⟩]
noncomputable def b_S_l12Next_8 (t5 : PV S_int) (t23 : PV S__2_int) (t24 : PV (.int .i64)) (t25 : PV (.int .i64)) : Option ((PV S_int × PV S__2_int × PV (.int .i64) × PV (.int .i64) × Unit) ⊕ ((PV S_int × Unit))) :=
  bif (decide (t25 < t24)) then
    bif inB t25 t23.length then
      bif inB ((t23.getD t25.toNat (dflt Y__2_int)).1) t5.length then
        some (.inl ((t5.set (((t23.getD t25.toNat (dflt Y__2_int)).1).toNat) (((t23.getD t25.toNat (dflt Y__2_int)).2).1)), t23, t24, (IntKind.wrap .i64 (t25 + 1)), ()))
      else
        none
    else
      none
  else
    some (.inr (t5, ()))
noncomputable def w_S_l12Next_8 : PV S_int × PV S__2_int × PV (.int .i64) × PV (.int .i64) × Unit → Option ((PV S_int × Unit)) := fix fun d => b_S_l12Next_8 d.1 d.2.1 d.2.2.1 d.2.2.2.1
noncomputable def lp_S_l12Next_8 : Lp := ⟨⟨[], [5, 23, 24, 25], []⟩, sh_S_l12Next_8, o_S_l12Next_8, fun d => b_S_l12Next_8 d.1 d.2.1 d.2.2.1 d.2.2.2.1⟩
noncomputable def pl_S_l12Next : Plan := ⟨[], [(3, lp_S_l12Next_3), (8, lp_S_l12Next_8)], 0, 0⟩
noncomputable def f_S_l12Next (t0 : PV S_string) (t1 : PV S_string) : Option (PVs [S_int] × PVs []) :=
  bif decide (0 ≤ (t0.length : Int)) && (decide ((t0.length : Int) ≤ (t0.length : Int)) && roomB (t0.length : Int).toNat) then
    (w_S_l12Next_3 (t0, t1, (List.replicate (t0.length : Int).toNat (0 : Int)), ((List.replicate (t0.length : Int).toNat (0 : Int)).length : Int), 0, ())).bind fun l2 =>
      (f_S_l3Pairs l2.1 l2.2.1).bind fun r7 =>
        (w_S_l12Next_8 (l2.2.2.1, r7.1.1, (r7.1.1.length : Int), 0, ())).bind fun l8 =>
          some ((l8.1, ()), ())
  else
    none
noncomputable def ct_S_l12Next : Ct := ⟨[(.bor, S_string), (.bor, S_string)], [(S_int, (.row .b))], fun x => f_S_l12Next x.1 x.2.1⟩
noncomputable def cx_S_l12Next : Cx := ⟨tab, arrs, [(133, ct_S_l3Pairs)], [], gl, []⟩
theorem eb_S_l12Next_3 (t0 : PV S_string) (t1 : PV S_string) (t5 : PV S_int) (t13 : PV (.int .i64)) (t14 : PV (.int .i64)) : denK cx_S_l12Next (rcN cx_S_l12Next 0) pl_S_l12Next 0 ((loopsOf (bodyOf Tryd.f79)).getD 0 .skip) (fillS sh_S_l12Next_3 (t0, t1, t5, t13, t14, ())) (roundK 0 lp_S_l12Next_3) = b_S_l12Next_3 t0 t1 t5 t13 t14 := by kernel_rfl
theorem eb_S_l12Next_8 (t5 : PV S_int) (t23 : PV S__2_int) (t24 : PV (.int .i64)) (t25 : PV (.int .i64)) : denK cx_S_l12Next (rcN cx_S_l12Next 0) pl_S_l12Next 0 ((loopsOf (bodyOf Tryd.f79)).getD 1 .skip) (fillS sh_S_l12Next_8 (t5, t23, t24, t25, ())) (roundK 0 lp_S_l12Next_8) = b_S_l12Next_8 t5 t23 t24 t25 := by kernel_rfl
theorem ef_S_l12Next (t0 : PV S_string) (t1 : PV S_string) : denF cx_S_l12Next 0 pl_S_l12Next Tryd.f79.ntmps (bodyOf Tryd.f79) Tryd.f79.results.toList [(.bor, S_string), (.bor, S_string)] [(S_int, (.row .b))] (t0, t1, ()) = f_S_l12Next t0 t1 := by kernel_rfl
theorem ok_S_l12Next : FnOk gl Tryd.prog 79 ct_S_l12Next :=
  fnOk (cx := cx_S_l12Next) (pl := pl_S_l12Next) (dp := 0) (ok0_of tabOk (by unfold ArrOk; kernel_rfl) mix ⟨ok_S_l3Pairs, trivial⟩ trivial) Tryd.func79 (by kernel_rfl) (by kernel_rfl) (by kernel_rfl)
    (by rw [show loopsOf (bodyOf Tryd.f79) = [((loopsOf (bodyOf Tryd.f79)).getD 0 .skip), ((loopsOf (bodyOf Tryd.f79)).getD 1 .skip)] from by kernel_rfl]; exact ⟨(by rw [show lookup pl_S_l12Next.loops (firstId ((loopsOf (bodyOf Tryd.f79)).getD 0 .skip)) = some lp_S_l12Next_3 from by kernel_rfl]; exact fun d z h => (eb_S_l12Next_3 d.1 d.2.1 d.2.2.1 d.2.2.2.1 d.2.2.2.2.1).trans h), (by rw [show lookup pl_S_l12Next.loops (firstId ((loopsOf (bodyOf Tryd.f79)).getD 1 .skip)) = some lp_S_l12Next_8 from by kernel_rfl]; exact fun d z h => (eb_S_l12Next_8 d.1 d.2.1 d.2.2.1 d.2.2.2.1).trans h), trivial⟩) (fun x => ef_S_l12Next x.1 x.2.1)
noncomputable def o_S_l12Since_16 : List Out := [⟨.normal, ⟨[], [0, 3, 4, 5, 45, 46, 47], []⟩, mkSh 64 [(0, .val S_S_string .b), (3, .val S_int (.row .b)), (4, .val (.int .i64) .b), (5, .val S_int (.row .b)), (45, .val S_int (.row .b)), (46, .val (.int .i64) .b), (47, .val (.int .i64) .b)]⟩]
noncomputable def sh_S_l12Since_7 : List Sh := mkSh 64 [(0, .val S_S_string .b), (3, .val S_int (.row .b)), (4, .val (.int .i64) .b), (5, .val S_int (.row .b)), (27, .val (.int .i64) .b), (28, .val (.int .i64) .b)]
noncomputable def o_S_l12Since_7 : List Out := [⟨.exit 2, ⟨[], [0, 3, 4, 5], []⟩, mkSh 64 [(0, .val S_S_string .b), (3, .val S_int (.row .b)), (4, .val (.int .i64) .b), (5, .val S_int (.row .b))]⟩]
noncomputable def b_S_l12Since_7 (t0 : PV S_S_string) (t3 : PV S_int) (t4 : PV (.int .i64)) (t5 : PV S_int) (t27 : PV (.int .i64)) (t28 : PV (.int .i64)) : Option ((PV S_S_string × PV S_int × PV (.int .i64) × PV S_int × PV (.int .i64) × PV (.int .i64) × Unit) ⊕ ((PV S_S_string × PV S_int × PV (.int .i64) × PV S_int × Unit))) :=
  bif (decide (t28 < t27)) then
    bif inB t28 t5.length then
      some (.inl (t0, t3, t4, (t5.set t28.toNat t4), t27, (IntKind.wrap .i64 (t28 + 1)), ()))
    else
      none
  else
    some (.inr (t0, t3, t4, t5, ()))
noncomputable def w_S_l12Since_7 : PV S_S_string × PV S_int × PV (.int .i64) × PV S_int × PV (.int .i64) × PV (.int .i64) × Unit → Option ((PV S_S_string × PV S_int × PV (.int .i64) × PV S_int × Unit)) := fix fun d => b_S_l12Since_7 d.1 d.2.1 d.2.2.1 d.2.2.2.1 d.2.2.2.2.1 d.2.2.2.2.2.1
noncomputable def lp_S_l12Since_7 : Lp := ⟨⟨[], [0, 3, 4, 5, 27, 28], []⟩, sh_S_l12Since_7, o_S_l12Since_7, fun d => b_S_l12Since_7 d.1 d.2.1 d.2.2.1 d.2.2.2.1 d.2.2.2.2.1 d.2.2.2.2.2.1⟩
noncomputable def sh_S_l12Since_12 : List Sh := mkSh 64 [(0, .val S_S_string .b), (3, .val S_int (.row .b)), (4, .val (.int .i64) .b), (5, .val S_int (.row .b)), (45, .val S_int (.row .b)), (46, .val (.int .i64) .b), (47, .val (.int .i64) .b)]
noncomputable def o_S_l12Since_12 : List Out := [⟨.exit 4, ⟨[], [0, 4, 5], []⟩, mkSh 64 [(0, .val S_S_string .b), (4, .val (.int .i64) .b), (5, .val S_int (.row .b))]⟩]
noncomputable def b_S_l12Since_12 (t0 : PV S_S_string) (t3 : PV S_int) (t4 : PV (.int .i64)) (t5 : PV S_int) (t45 : PV S_int) (t46 : PV (.int .i64)) (t47 : PV (.int .i64)) : Option ((PV S_S_string × PV S_int × PV (.int .i64) × PV S_int × PV S_int × PV (.int .i64) × PV (.int .i64) × Unit) ⊕ ((PV S_S_string × PV (.int .i64) × PV S_int × Unit))) :=
  bif (decide (t47 < t46)) then
    ((
        bif inB t47 t45.length then
          bif (decide ((t45.getD t47.toNat (0 : Int)) ≥ 0)) then
            bif inB t47 t3.length then
              bif inB (t45.getD t47.toNat (0 : Int)) t5.length then
                some (t0, t3, t4, (t5.set ((t45.getD t47.toNat (0 : Int)).toNat) (t3.getD t47.toNat (0 : Int))), t45, t46, t47, ())
              else
                none
            else
              none
          else
            some (t0, t3, t4, t5, t45, t46, t47, ())
        else
          none : Option ((PV S_S_string × PV S_int × PV (.int .i64) × PV S_int × PV S_int × PV (.int .i64) × PV (.int .i64) × Unit)))).bind fun j5 =>
      some (.inl (j5.1, j5.2.1, j5.2.2.1, j5.2.2.2.1, j5.2.2.2.2.1, j5.2.2.2.2.2.1, (IntKind.wrap .i64 (j5.2.2.2.2.2.2.1 + 1)), ()))
  else
    some (.inr (t0, t4, t5, ()))
noncomputable def w_S_l12Since_12 : PV S_S_string × PV S_int × PV (.int .i64) × PV S_int × PV S_int × PV (.int .i64) × PV (.int .i64) × Unit → Option ((PV S_S_string × PV (.int .i64) × PV S_int × Unit)) := fix fun d => b_S_l12Since_12 d.1 d.2.1 d.2.2.1 d.2.2.2.1 d.2.2.2.2.1 d.2.2.2.2.2.1 d.2.2.2.2.2.2.1
noncomputable def lp_S_l12Since_12 : Lp := ⟨⟨[], [0, 3, 4, 5, 45, 46, 47], []⟩, sh_S_l12Since_12, o_S_l12Since_12, fun d => b_S_l12Since_12 d.1 d.2.1 d.2.2.1 d.2.2.2.1 d.2.2.2.2.1 d.2.2.2.2.2.1 d.2.2.2.2.2.2.1⟩
noncomputable def sh_S_l12Since_3 : List Sh := mkSh 64 [(0, .val S_S_string .b), (3, .val S_int (.row .b)), (4, .val (.int .i64) .b)]
noncomputable def o_S_l12Since_3 : List Out := [⟨.exit 0, ⟨[], [3], []⟩, mkSh 64 [(3, .val S_int (.row .b))]⟩]
noncomputable def b_S_l12Since_3 (t0 : PV S_S_string) (t3 : PV S_int) (t4 : PV (.int .i64)) : Option ((PV S_S_string × PV S_int × PV (.int .i64) × Unit) ⊕ ((PV S_int × Unit))) :=
  bif (decide (t4 < (t0.length : Int))) then
    bif inB t4 t0.length then
      bif decide (0 ≤ ((t0.getD t4.toNat []).length : Int)) && (decide (((t0.getD t4.toNat []).length : Int) ≤ ((t0.getD t4.toNat []).length : Int)) && roomB ((t0.getD t4.toNat []).length : Int).toNat) then
        (w_S_l12Since_7 (t0, t3, t4, (List.replicate ((t0.getD t4.toNat []).length : Int).toNat (0 : Int)), ((List.replicate ((t0.getD t4.toNat []).length : Int).toNat (0 : Int)).length : Int), 0, ())).bind fun l10 =>
          bif inB (IntKind.wrap .i64 (l10.2.2.1 - 1)) l10.1.length then
            bif inB l10.2.2.1 l10.1.length then
              (f_S_l12Next (l10.1.getD ((IntKind.wrap .i64 (l10.2.2.1 - 1)).toNat) []) (l10.1.getD l10.2.2.1.toNat [])).bind fun r15 =>
                (w_S_l12Since_12 (l10.1, l10.2.1, l10.2.2.1, l10.2.2.2.1, r15.1.1, (r15.1.1.length : Int), 0, ())).bind fun l16 =>
                  some (.inl (l16.1, l16.2.2.1, (IntKind.wrap .i64 (l16.2.1 + 1)), ()))
            else
              none
          else
            none
      else
        none
    else
      none
  else
    some (.inr (t3, ()))
noncomputable def w_S_l12Since_3 : PV S_S_string × PV S_int × PV (.int .i64) × Unit → Option ((PV S_int × Unit)) := fix fun d => b_S_l12Since_3 d.1 d.2.1 d.2.2.1
noncomputable def lp_S_l12Since_3 : Lp := ⟨⟨[], [0, 3, 4], []⟩, sh_S_l12Since_3, o_S_l12Since_3, fun d => b_S_l12Since_3 d.1 d.2.1 d.2.2.1⟩
noncomputable def pl_S_l12Since : Plan := ⟨[(16, o_S_l12Since_16)], [(7, lp_S_l12Since_7), (12, lp_S_l12Since_12), (3, lp_S_l12Since_3)], 0, 0⟩
noncomputable def f_S_l12Since (t0 : PV S_S_string) : Option (PVs [S_int] × PVs []) :=
  bif inB 0 t0.length then
    bif decide (0 ≤ ((t0.getD ((0 : Int).toNat) []).length : Int)) && (decide (((t0.getD ((0 : Int).toNat) []).length : Int) ≤ ((t0.getD ((0 : Int).toNat) []).length : Int)) && roomB ((t0.getD ((0 : Int).toNat) []).length : Int).toNat) then
      (w_S_l12Since_3 (t0, (List.replicate ((t0.getD ((0 : Int).toNat) []).length : Int).toNat (0 : Int)), 1, ())).bind fun l18 =>
        some ((l18.1, ()), ())
    else
      none
  else
    none
noncomputable def ct_S_l12Since : Ct := ⟨[(.bor, S_S_string)], [(S_int, (.row .b))], fun x => f_S_l12Since x.1⟩
noncomputable def cx_S_l12Since : Cx := ⟨tab, arrs, [(79, ct_S_l12Next)], [], gl, []⟩
theorem eb_S_l12Since_3 (t0 : PV S_S_string) (t3 : PV S_int) (t4 : PV (.int .i64)) : denK cx_S_l12Since (rcN cx_S_l12Since 0) pl_S_l12Since 0 ((loopsOf (bodyOf Tryd.f68)).getD 0 .skip) (fillS sh_S_l12Since_3 (t0, t3, t4, ())) (roundK 0 lp_S_l12Since_3) = b_S_l12Since_3 t0 t3 t4 := by kernel_rfl
theorem eb_S_l12Since_7 (t0 : PV S_S_string) (t3 : PV S_int) (t4 : PV (.int .i64)) (t5 : PV S_int) (t27 : PV (.int .i64)) (t28 : PV (.int .i64)) : denK cx_S_l12Since (rcN cx_S_l12Since 0) pl_S_l12Since 0 ((loopsOf (bodyOf Tryd.f68)).getD 1 .skip) (fillS sh_S_l12Since_7 (t0, t3, t4, t5, t27, t28, ())) (roundK 0 lp_S_l12Since_7) = b_S_l12Since_7 t0 t3 t4 t5 t27 t28 := by kernel_rfl
theorem eb_S_l12Since_12 (t0 : PV S_S_string) (t3 : PV S_int) (t4 : PV (.int .i64)) (t5 : PV S_int) (t45 : PV S_int) (t46 : PV (.int .i64)) (t47 : PV (.int .i64)) : denK cx_S_l12Since (rcN cx_S_l12Since 0) pl_S_l12Since 0 ((loopsOf (bodyOf Tryd.f68)).getD 2 .skip) (fillS sh_S_l12Since_12 (t0, t3, t4, t5, t45, t46, t47, ())) (roundK 0 lp_S_l12Since_12) = b_S_l12Since_12 t0 t3 t4 t5 t45 t46 t47 := by kernel_rfl
theorem ef_S_l12Since (t0 : PV S_S_string) : denF cx_S_l12Since 0 pl_S_l12Since Tryd.f68.ntmps (bodyOf Tryd.f68) Tryd.f68.results.toList [(.bor, S_S_string)] [(S_int, (.row .b))] (t0, ()) = f_S_l12Since t0 := by kernel_rfl
theorem ok_S_l12Since : FnOk gl Tryd.prog 68 ct_S_l12Since :=
  fnOk (cx := cx_S_l12Since) (pl := pl_S_l12Since) (dp := 0) (ok0_of tabOk (by unfold ArrOk; kernel_rfl) mix ⟨ok_S_l12Next, trivial⟩ trivial) Tryd.func68 (by kernel_rfl) (by kernel_rfl) (by kernel_rfl)
    (by rw [show loopsOf (bodyOf Tryd.f68) = [((loopsOf (bodyOf Tryd.f68)).getD 0 .skip), ((loopsOf (bodyOf Tryd.f68)).getD 1 .skip), ((loopsOf (bodyOf Tryd.f68)).getD 2 .skip)] from by kernel_rfl]; exact ⟨(by rw [show lookup pl_S_l12Since.loops (firstId ((loopsOf (bodyOf Tryd.f68)).getD 0 .skip)) = some lp_S_l12Since_3 from by kernel_rfl]; exact fun d z h => (eb_S_l12Since_3 d.1 d.2.1 d.2.2.1).trans h), (by rw [show lookup pl_S_l12Since.loops (firstId ((loopsOf (bodyOf Tryd.f68)).getD 1 .skip)) = some lp_S_l12Since_7 from by kernel_rfl]; exact fun d z h => (eb_S_l12Since_7 d.1 d.2.1 d.2.2.1 d.2.2.2.1 d.2.2.2.2.1 d.2.2.2.2.2.1).trans h), (by rw [show lookup pl_S_l12Since.loops (firstId ((loopsOf (bodyOf Tryd.f68)).getD 2 .skip)) = some lp_S_l12Since_12 from by kernel_rfl]; exact fun d z h => (eb_S_l12Since_12 d.1 d.2.1 d.2.2.1 d.2.2.2.1 d.2.2.2.2.1 d.2.2.2.2.2.1 d.2.2.2.2.2.2.1).trans h), trivial⟩) (fun x => ef_S_l12Since x.1)
noncomputable def pl_S_SinceOf : Plan := ⟨[], [], 0, 0⟩
noncomputable def f_S_SinceOf (t0 : PV S_S_string) : Option (PVs [S_int, .bool] × PVs []) :=
  (f_S_l12Good t0).bind fun r4 =>
    bif (!r4.1.1) then
      some (([], false, ()), ())
    else
      (f_S_l12Since t0).bind fun r5 =>
        some ((r5.1.1, true, ()), ())
noncomputable def ct_S_SinceOf : Ct := ⟨[(.bor, S_S_string)], [(S_int, (.row .b)), (.bool, .b)], fun x => f_S_SinceOf x.1⟩
noncomputable def cx_S_SinceOf : Cx := ⟨tab, arrs, [(67, ct_S_l12Good), (68, ct_S_l12Since)], [], gl, []⟩
theorem ef_S_SinceOf (t0 : PV S_S_string) : denF cx_S_SinceOf 0 pl_S_SinceOf Tryd.f31.ntmps (bodyOf Tryd.f31) Tryd.f31.results.toList [(.bor, S_S_string)] [(S_int, (.row .b)), (.bool, .b)] (t0, ()) = f_S_SinceOf t0 := by kernel_rfl
theorem ok_S_SinceOf : FnOk gl Tryd.prog 31 ct_S_SinceOf :=
  fnOk (cx := cx_S_SinceOf) (pl := pl_S_SinceOf) (dp := 0) (ok0_of tabOk (by unfold ArrOk; kernel_rfl) mix ⟨ok_S_l12Good, ok_S_l12Since, trivial⟩ trivial) Tryd.func31 (by kernel_rfl) (by kernel_rfl) (by kernel_rfl)
    (by rw [show loopsOf (bodyOf Tryd.f31) = [] from by kernel_rfl]; exact trivial) (fun x => ef_S_SinceOf x.1)
noncomputable def sh_I_trace_2 : List Sh := mkSh 37 [(0, .val S_S_string .b), (1, .val (.int .i64) .b), (2, .val (.int .i64) .b), (7, .val S_int (.row .b))]
noncomputable def o_I_trace_2 : List Out := [⟨.exit 0, ⟨[], [7], []⟩, mkSh 37 [(7, .val S_int (.row .b))]⟩]
noncomputable def b_I_trace_2 (t0 : PV S_S_string) (t1 : PV (.int .i64)) (t2 : PV (.int .i64)) (t7 : PV S_int) : Option ((PV S_S_string × PV (.int .i64) × PV (.int .i64) × PV S_int × Unit) ⊕ ((PV S_int × Unit))) :=
  bif (decide ((IntKind.wrap .i64 (t1 + 1)) < (t0.length : Int))) then
    bif inB t1 t0.length then
      bif inB (IntKind.wrap .i64 (t1 + 1)) t0.length then
        (f_I_mates (t0.getD t1.toNat []) (t0.getD ((IntKind.wrap .i64 (t1 + 1)).toNat) [])).bind fun r2 =>
          bif inB t2 r2.1.1.length then
            bif (decide ((r2.1.1.getD t2.toNat (0 : Int)) < 0)) then
              some (.inr (t7, ()))
            else
              bif roomB (t7.length + [(r2.1.1.getD t2.toNat (0 : Int))].length) then
                some (.inl (t0, (IntKind.wrap .i64 (t1 + 1)), (r2.1.1.getD t2.toNat (0 : Int)), (t7 ++ [(r2.1.1.getD t2.toNat (0 : Int))]), ()))
              else
                none
          else
            none
      else
        none
    else
      none
  else
    some (.inr (t7, ()))
noncomputable def w_I_trace_2 : PV S_S_string × PV (.int .i64) × PV (.int .i64) × PV S_int × Unit → Option ((PV S_int × Unit)) := fix fun d => b_I_trace_2 d.1 d.2.1 d.2.2.1 d.2.2.2.1
noncomputable def lp_I_trace_2 : Lp := ⟨⟨[], [0, 1, 2, 7], []⟩, sh_I_trace_2, o_I_trace_2, fun d => b_I_trace_2 d.1 d.2.1 d.2.2.1 d.2.2.2.1⟩
noncomputable def pl_I_trace : Plan := ⟨[], [(2, lp_I_trace_2)], 0, 0⟩
noncomputable def f_I_trace (t0 : PV S_S_string) (t1 : PV (.int .i64)) (t2 : PV (.int .i64)) : Option (PVs [S_int] × PVs []) :=
  (w_I_trace_2 (t0, t1, t2, [t2], ())).bind fun l4 =>
    some ((l4.1, ()), ())
noncomputable def ct_I_trace : Ct := ⟨[(.bor, S_S_string), (.bor, (.int .i64)), (.bor, (.int .i64))], [(S_int, (.row .b))], fun x => f_I_trace x.1 x.2.1 x.2.2.1⟩
noncomputable def cx_I_trace : Cx := ⟨tab, arrs, [(132, ct_I_mates)], [], gl, []⟩
theorem eb_I_trace_2 (t0 : PV S_S_string) (t1 : PV (.int .i64)) (t2 : PV (.int .i64)) (t7 : PV S_int) : denK cx_I_trace (rcN cx_I_trace 0) pl_I_trace 0 ((loopsOf (bodyOf Tryd.f78)).getD 0 .skip) (fillS sh_I_trace_2 (t0, t1, t2, t7, ())) (roundK 0 lp_I_trace_2) = b_I_trace_2 t0 t1 t2 t7 := by kernel_rfl
theorem ef_I_trace (t0 : PV S_S_string) (t1 : PV (.int .i64)) (t2 : PV (.int .i64)) : denF cx_I_trace 0 pl_I_trace Tryd.f78.ntmps (bodyOf Tryd.f78) Tryd.f78.results.toList [(.bor, S_S_string), (.bor, (.int .i64)), (.bor, (.int .i64))] [(S_int, (.row .b))] (t0, t1, t2, ()) = f_I_trace t0 t1 t2 := by kernel_rfl
theorem ok_I_trace : FnOk gl Tryd.prog 78 ct_I_trace :=
  fnOk (cx := cx_I_trace) (pl := pl_I_trace) (dp := 0) (ok0_of tabOk (by unfold ArrOk; kernel_rfl) mix ⟨ok_I_mates, trivial⟩ trivial) Tryd.func78 (by kernel_rfl) (by kernel_rfl) (by kernel_rfl)
    (by rw [show loopsOf (bodyOf Tryd.f78) = [((loopsOf (bodyOf Tryd.f78)).getD 0 .skip)] from by kernel_rfl]; exact ⟨(by rw [show lookup pl_I_trace.loops (firstId ((loopsOf (bodyOf Tryd.f78)).getD 0 .skip)) = some lp_I_trace_2 from by kernel_rfl]; exact fun d z h => (eb_I_trace_2 d.1 d.2.1 d.2.2.1 d.2.2.2.1).trans h), trivial⟩) (fun x => ef_I_trace x.1 x.2.1 x.2.2.1)
end R
