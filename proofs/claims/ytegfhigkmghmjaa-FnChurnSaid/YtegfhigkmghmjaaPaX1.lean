/- The functions that L_FnChurn reach, as pure functions, and that the program computes them. -/
import Derived.Test.YtegfhigkmghmjaaL3
import Derived.Test.YtegfhigkmghmjaaChecked
import Derived.KernelRfl
open Go Go.Dn Go.Proofs
namespace R
set_option linter.unusedVariables false
@[reducible] def S_string : Ty := (.slice 9 .str)
@[reducible] def S_uint8 : Ty := (.slice 5 (.int .u8))
@[reducible] def S_int : Ty := (.slice 3 (.int .i64))
@[reducible] def S_S_string : Ty := (.slice 24 S_string)
@[reducible] def S_S_int : Ty := (.slice 41 S_int)
@[reducible] def Y__2_int : Ty := (.pair (.int .i64) (.pair (.int .i64) .unit))
@[reducible] def S__2_int : Ty := (.slice 116 Y__2_int)
@[reducible] def Y_impl_Hunk : Ty := (.pair (.int .i64) (.pair (.int .i64) (.pair S_string .unit)))
@[reducible] def Y_spec_l1Cur : Ty := (.pair S_uint8 (.pair (.int .i64) (.pair (.int .u64) .unit)))
@[reducible] def S_impl_Hunk : Ty := (.slice 72 Y_impl_Hunk)
@[reducible] def S_S_impl_Hunk : Ty := (.slice 25 S_impl_Hunk)
@[reducible] def Y_impl_Series : Ty := (.pair S_string (.pair S_S_impl_Hunk .unit))
noncomputable def tab : List (TypeId × Ty) := [(3, (.int .i64)), (4, .bool), (5, (.int .u8)), (9, .str), (22, S_uint8), (24, S_string), (25, S_impl_Hunk), (35, S_S_string), (37, S_S_int), (41, S_int), (56, S_S_impl_Hunk), (58, Y_impl_Series), (72, Y_impl_Hunk), (79, S__2_int), (83, (.int .u64)), (85, Y_spec_l1Cur), (116, Y__2_int)]
noncomputable def arrs : List TypeId := [116]
theorem tabOk : TabOk Try.prog tab := by unfold TabOk; kernel_rfl
theorem mix : Try.prog.follows .mixedOrders = true := by kernel_rfl
noncomputable def gl : Glob := noGlob
open Go.Shelf
set_option maxRecDepth 20000
def lays_math_bits_Mul_ren : Go.Shelf.Ren := ⟨fun | 0 => 0 | 1 => 1 | 2 => 2 | 100 => 125 | 143 => 142 | 144 => 138 | 193 => 34 | 207 => 139 | 212 => 140 | 217 => 146 | 219 => 145 | 224 => 148 | 225 => 147 | 263 => 143 | 264 => 144 | 266 => 150 | 267 => 149 | 314 => 151 | 347 => 152 | 348 => 153 | 349 => 154 | 350 => 155 | 351 => 156 | 352 => 157 | 353 => 158 | 354 => 159 | 355 => 160 | 356 => 161 | 357 => 162 | 358 => 163 | 359 => 164 | 360 => 165 | 361 => 166 | 366 => 168 | n => n, fun | 0 => 0 | 1 => 1 | 2 => 2 | 3 => 3 | 4 => 4 | 5 => 5 | 6 => 6 | 7 => 7 | 8 => 8 | 9 => 9 | 10 => 10 | 11 => 11 | 12 => 12 | 13 => 13 | 14 => 14 | 15 => 15 | 16 => 16 | 17 => 17 | 18 => 18 | 19 => 19 | 20 => 20 | 21 => 21 | 22 => 133 | 27 => 148 | 28 => 41 | 31 => 24 | 34 => 51 | 37 => 22 | 38 => 23 | 43 => 109 | 46 => 136 | 51 => 149 | 53 => 83 | 55 => 154 | 69 => 135 | 73 => 141 | 80 => 130 | 81 => 117 | 83 => 129 | 101 => 34 | 102 => 98 | 104 => 113 | 109 => 145 | 110 => 146 | 111 => 108 | 114 => 87 | 127 => 164 | 131 => 42 | 146 => 150 | 147 => 151 | 148 => 152 | 149 => 153 | 151 => 155 | 164 => 169 | 238 => 156 | 239 => 157 | 240 => 158 | 241 => 159 | 242 => 160 | 243 => 161 | 244 => 162 | 245 => 163 | 246 => 165 | 247 => 166 | 248 => 167 | 249 => 168 | n => n, fun | 1 => 0 | n => n⟩
theorem lays_math_bits_Mul : Go.Proofs.Lays.n212 Try.prog lays_math_bits_Mul_ren where
  mixed := by kernel_rfl
  f212 := Try.func140.trans (congrArg some (by kernel_rfl))
  f263 := Try.func143.trans (congrArg some (by kernel_rfl))
  f264 := Try.func144.trans (congrArg some (by kernel_rfl))
  t46 := Try.underlying136
  a46 := Try.isAgg136
  z46 := Try.sizeOf136
  v46 := Try.zeroValue136
  t51 := Try.underlying149
  a51 := Try.isAgg149
  z51 := Try.sizeOf149
  v51 := Try.zeroValue149
  t53 := Try.underlying83
  a53 := Try.isAgg83
  z53 := Try.sizeOf83
  v53 := Try.zeroValue83
  t146 := Try.underlying150
  a146 := Try.isAgg150
  z146 := Try.sizeOf150
  v146 := Try.zeroValue150
  t148 := Try.underlying152
  a148 := Try.isAgg152
  z148 := Try.sizeOf152
  v148 := Try.zeroValue152
set_option maxRecDepth 100000
section
open Go.RowKit
set_option maxHeartbeats 1000000 in
set_option maxRecDepth 100000 in
theorem rep_main (x : Int) (A : Addr) (cap c : Nat) (w : World) (hA : w.cell? A = some (.int .i64 x)) (hAb : A.block < w.heap.size) (h1 : 1 ≤ c) (hc : c ≤ 1099511627776) (h1cap : 1 ≤ cap) :
    Calls Try.prog 129 #[.slice (some A) 1 cap, .int .i64 c] w fun e w' => e = .returned (.slice (some ⟨w.heap.size, 0, none⟩) c c) ∧ w'.heap[w.heap.size]? = some (.cells (List.replicate c (.int .i64 x)).toArray 3 (0, 0)) ∧ Below w.heap.size w w' := by
  have hMul : Calls Try.prog 140 #[.int .u64 1, .int .u64 c] w fun e w' => e = .returned (.tuple #[.int .u64 0, .int .u64 c]) ∧ w' = w := by
    have h : Calls Try.prog 140 #[.int .u64 (1 : Nat), .int .u64 c] w _ := Any.bits_Mul lays_math_bits_Mul 1 c (by omega) (by omega) w
    simp only [Nat.one_mul] at h
    rw [Nat.div_eq_of_lt (by omega), Nat.mod_eq_of_lt (by omega)] at h
    exact h
  have hinf : Option.map (fun i => (i.zero, i.size, i.bytes)) (Try.prog.info? 3) = some (some (.int .i64 0), 1, 8) := by kernel_rfl
  obtain ⟨i0, hi, hz0, hz1, hz2⟩ := info_parts hinf
  have hinfo : (Try.prog.info? 3).map (·.size) = some 1 := by rw [hi]; simp [hz1]
  obtain ⟨M, hM⟩ : ∃ M, M = madeCells (Value.int .i64 0).cells (((c : Nat) : Int).toNat * i0.size) := ⟨_, rfl⟩
  have hMl : Hid (M = (rowK (.int .i64 x) 0 c).toArray) := by
    show M = _
    rw [hM, hz1, rowK_zero]
    apply Array.ext'
    simp [madeCells, Value.cells, Nat.mod_one]
    rw [List.map_const', List.length_range]
  have hmk : ∀ W : World, (Instr.makeSlice 41 (.int .i64 (c : Int)) (.int .i64 (c : Int))).run Try.prog W = .ok (.slice (some ⟨W.heap.size, 0, none⟩) c c) (W.alloc (.cells M 3)) := fun W => by
      have h := run_make (P := Try.prog) W 41 3 i0 (.int .i64 0) Try.underlying41 hi hz0 .i64 .i64 (c : Int) (c : Int) (by omega) (by omega) (by rw [hz2]; omega) (by omega)
      rw [← hM] at h
      simpa using h
  clear hM
  have hcp := run_copy_row (P := Try.prog) (w.alloc (.cells M 3)) 41 41 3 3 w.heap.size 0 c c A 1 cap M 3 [.int .i64 x] Try.underlying41 hinfo (heap_alloc_new w _) (Nat.min_eq_left h1).symm (fun j v hj => by
    have hj0 : j = 0 := by have := (List.getElem?_eq_some_iff.1 hj).1; simp at this; omega
    subst hj0
    obtain rfl : v = .int .i64 x := (Option.some.inj hj).symm
    exact (show (w.alloc (.cells M 3)).cell? A = w.cell? A by
      unfold World.cell?
      rw [Go.Dn.heap_alloc_ne w _ _ hAb]).trans hA) (by rw [hMl.out]; simp [rowK]; omega) (by simp [Value.oneCell'])
  obtain ⟨Y, hY⟩ : ∃ Y, Y = ((w.alloc (.cells M 3)).setRow w.heap.size (List.take 0 M.toList ++ [Value.int .i64 x] ++ List.drop (0 + [Value.int .i64 x].length) M.toList).toArray) := ⟨_, rfl⟩
  rw [← hY] at hcp
  have hYg : Hid (Y.heap[w.heap.size]? = some (.cells (rowK (.int .i64 x) 1 c).toArray 3 (0, 0))) := by
    show Y.heap[w.heap.size]? = _
    rw [hY, setRow_heap _ _ M _ 3 (0, 0) (heap_alloc_new w _)]
    have h := rowK_splice (.int .i64 x) (k := 0) (c := c) (m := 1) (by omega)
    rw [Nat.zero_add] at h
    rw [← h, hMl.out]
    simp [splice]
  have hYb : Below w.heap.size w Y := by rw [hY]; exact below_setRow ((Below.refl _ w).alloc (Nat.le_refl _) _) (Nat.le_refl _) _
  clear hY
  go_enter Try.func129, Try.ntmps129
  go_wp2_with (go_at_fn 140; go_fit hMul; rintro e w' ⟨rfl, hw⟩; rw [hw])
  refine hMul.mono ?_
  rintro e w' ⟨rfl, hw⟩
  rw [hw]
  clear hw w'
  go_wp2
  go_loopg [8] (c - 1) (fun g s8 wx => ∃ n : Nat, 1 ≤ n ∧ n + g = c ∧ s8 = .int .i64 (n : Int) ∧ Hid (wx.heap[w.heap.size]? = some (.cells (rowK (.int .i64 x) n c).toArray 3 (0, 0))) ∧ Below w.heap.size w wx)
  case atStart => exact ⟨1, Nat.le_refl _, by omega, rfl, hYg, hYb⟩
  case round =>
    obtain ⟨n, hn1, hng, rfl, hg, hb⟩ := hrel
    cases gk with
    | zero =>
      obtain rfl : n = c := by omega
      go_wp2
      go_ret
      exact ⟨rfl, by rw [← rowK_all]; exact hg.out, hb⟩
    | succ g =>
      have hnc : n < c := by omega
      obtain ⟨m, hm⟩ : ∃ m, m = Nat.min n (c - n) := ⟨_, rfl⟩
      have hm1 : 1 ≤ m := by rw [hm]; exact Nat.le_min.2 ⟨hn1, by omega⟩
      have hm2 : m ≤ n := by rw [hm]; exact Nat.min_le_left _ _
      have hm3 : m ≤ c - n := by rw [hm]; exact Nat.min_le_right _ _
      have hcl : (List.replicate m (Value.int .i64 x)).length = Nat.min n (c - n) := by rw [List.length_replicate]; exact hm
      have hfit : n + (List.replicate m (Value.int .i64 x)).length ≤ (rowK (.int .i64 x) n c).length := by rw [List.length_replicate, rowK_len _ (by omega)]; omega
      have hone : ∀ v ∈ List.replicate m (Value.int .i64 x), v.oneCell' = true := fun v hv => by rw [List.eq_of_mem_replicate hv]; rfl
      have HP : Hid (∀ j v, (List.replicate m (Value.int .i64 x))[j]? = some v → wr.drew.cell? (({ block := w.heap.size, off := 0, spot := none } : Addr).add j) = some v) := fun j v hj => by
          have hj' : j < m := by have := (List.getElem?_eq_some_iff.1 hj).1; simpa using this
          have hv : v = .int .i64 x := by rw [List.getElem?_replicate_of_lt hj'] at hj; exact (Option.some.inj hj).symm
          rw [hv, ← rowK_at (.int .i64 x) (k := n) (c := c) (j := j) (by omega)]
          refine (cell_row (w := wr.drew) (show wr.drew.heap[w.heap.size]? = _ from hg.out) j).trans ?_
          simp
      have hle : n ≤ c := by omega
      have hne : ¬ c = n := by omega
      have HM : Hid (m = Nat.min n (c - n)) := hm
      have HL : Hid ((List.replicate m (Value.int .i64 x)).length = Nat.min n (c - n)) := hcl
      clear hm hcl
      go_wp2
      go_region_law (refine step_copy_splice rfl (.tmp 41) (.tmp 44) 41 41 rfl 3 Try.underlying41 hinfo (some ⟨w.heap.size, n, none⟩) (some ⟨w.heap.size, 0, none⟩) (c - n) (c - n) n c (by simp [Act.eval, Act.put]) (by simp [Act.eval, Act.put]) w.heap.size n (rowK (.int .i64 x) n c) 3 (show wr.drew.heap[w.heap.size]? = _ from hg.out) (List.replicate m (.int .i64 x)) HL.out (fun _ => ⟨rfl, _, rfl, HP.out⟩) hfit hone w.heap.size w hb.drew (Nat.le_refl _) ?_; intro w4 hg4 hb4)
      have HE : Hid (splice (rowK (.int .i64 x) n c) n (List.replicate m (.int .i64 x)) = rowK (.int .i64 x) (n + m) c) := rowK_splice _ (by omega)
      go_wp2
      go_roundg (c - (n + m))
      case measure => omega
      case rel => exact ⟨n + m, by omega, by omega, by rw [show IntKind.wrap .i64 ((n : Int) + (m : Int)) = ((n + m : Nat) : Int) from by rw [Go.Dn.wrap64 (by omega) (by omega)]; rfl], by rw [← HE.out]; exact hg4, hb4⟩

set_option maxHeartbeats 1000000 in
set_option maxRecDepth 100000 in
theorem rep_zero (x : Int) (A : Addr) (cap : Nat) (w : World) :
    Calls Try.prog 129 #[.slice (some A) 1 cap, .int .i64 (0 : Nat)] w fun e w' => e = .returned (.slice (some ⟨w.heap.size, 0, none⟩) 0 0) ∧ w'.heap[w.heap.size]? = some (.cells (List.replicate 0 (.int .i64 x)).toArray 3 (0, 0)) ∧ Below w.heap.size w w' := by
  have hMul : Calls Try.prog 140 #[.int .u64 1, .int .u64 0] w fun e w' => e = .returned (.tuple #[.int .u64 0, .int .u64 0]) ∧ w' = w := by
    have h : Calls Try.prog 140 #[.int .u64 (1 : Nat), .int .u64 (0 : Nat)] w _ := Any.bits_Mul lays_math_bits_Mul 1 0 (by omega) (by omega) w
    exact h
  have hinf : Option.map (fun i => (i.zero, i.size, i.bytes)) (Try.prog.info? 3) = some (some (.int .i64 0), 1, 8) := by kernel_rfl
  obtain ⟨i0, hi, hz0, hz1, hz2⟩ := info_parts hinf
  have hinfo : (Try.prog.info? 3).map (·.size) = some 1 := by rw [hi]; simp [hz1]
  have hmk : ∀ W : World, (Instr.makeSlice 41 (.int .i64 0) (.int .i64 0)).run Try.prog W = .ok (.slice (some ⟨W.heap.size, 0, none⟩) 0 0) (W.alloc (.cells #[] 3)) := fun W => by
      have h := run_make (P := Try.prog) W 41 3 i0 (.int .i64 0) Try.underlying41 hi hz0 .i64 .i64 0 0 (by omega) (by omega) (by rw [hz2]; omega) (by omega)
      simpa [madeCells, show Array.range 0 = #[] from rfl] using h
  have hcp := run_copy_none (P := Try.prog) (w.alloc (.cells #[] 3)) 41 41 3 3 (some ⟨w.heap.size, 0, none⟩) (some A) 0 0 1 cap Try.underlying41 hinfo (by rfl)
  have hb : Below w.heap.size w (w.alloc (.cells #[] 3)) := (Below.refl _ w).alloc (Nat.le_refl _) _
  have hh : Hid ((w.alloc (.cells #[] 3)).heap[w.heap.size]? = some (.cells #[] 3 (0, 0))) := heap_alloc_new w _
  go_enter Try.func129, Try.ntmps129
  go_wp2_with (go_at_fn 140; go_fit hMul; rintro e w' ⟨rfl, hw⟩; rw [hw])
  refine hMul.mono ?_
  rintro e w' ⟨rfl, hw⟩
  rw [hw]
  clear hw w'
  go_wp2
  go_loopg [8] 0 (fun g s8 wx => g = 0 ∧ s8 = .int .i64 0 ∧ wx = w.alloc (.cells #[] 3))
  case atStart => exact ⟨rfl, rfl, rfl⟩
  case round =>
    obtain ⟨rfl, rfl, rfl⟩ := hrel
    go_wp2
    go_ret
    exact ⟨rfl, hh.out, hb⟩

theorem rep_any (x : Int) (A : Addr) (cap c : Nat) (w : World) (hA : w.cell? A = some (.int .i64 x)) (hAb : A.block < w.heap.size) (hc : c ≤ 1099511627776) (h1cap : 1 ≤ cap) :
    Calls Try.prog 129 #[.slice (some A) 1 cap, .int .i64 c] w fun e w' => e = .returned (.slice (some ⟨w.heap.size, 0, none⟩) c c) ∧ w'.heap[w.heap.size]? = some (.cells (List.replicate c (.int .i64 x)).toArray 3 (0, 0)) ∧ Below w.heap.size w w' := by
  rcases Nat.eq_zero_or_pos c with rfl | h
  · exact rep_zero x A cap w
  · exact rep_main x A cap c w hA hAb h hc h1cap
end
noncomputable def f_slices_Repeat_int (t0 : PV S_int) (t1 : PV (.int .i64)) : Option (PVs [S_int] × PVs []) := Go.Dn.repF 3 t0 t1
noncomputable def ct_slices_Repeat_int : Ct := ⟨[(.bor, S_int), (.bor, .int .i64)], [(S_int, .row .b)], fun x => f_slices_Repeat_int x.1 x.2.1⟩
theorem ok_slices_Repeat_int : FnOk gl Try.prog 129 ct_slices_Repeat_int := fnOk_repeat ⟨_, Try.func129, rfl, rfl⟩ rep_any
def lays_strings_Contains_ren : Go.Shelf.Ren := ⟨fun | 0 => 0 | 1 => 1 | 2 => 2 | 100 => 125 | 143 => 142 | 144 => 138 | 193 => 34 | 207 => 139 | 212 => 140 | 217 => 146 | 219 => 145 | 224 => 148 | 225 => 147 | 263 => 143 | 264 => 144 | 266 => 150 | 267 => 149 | 314 => 151 | 347 => 152 | 348 => 153 | 349 => 154 | 350 => 155 | 351 => 156 | 352 => 157 | 353 => 158 | 354 => 159 | 355 => 160 | 356 => 161 | 357 => 162 | 358 => 163 | 359 => 164 | 360 => 165 | 361 => 166 | 366 => 168 | n => n, fun | 0 => 0 | 1 => 1 | 2 => 2 | 3 => 3 | 4 => 4 | 5 => 5 | 6 => 6 | 7 => 7 | 8 => 8 | 9 => 9 | 10 => 10 | 11 => 11 | 12 => 12 | 13 => 13 | 14 => 14 | 15 => 15 | 16 => 16 | 17 => 17 | 18 => 18 | 19 => 19 | 20 => 20 | 21 => 21 | 22 => 133 | 27 => 148 | 28 => 41 | 31 => 24 | 34 => 51 | 37 => 22 | 38 => 23 | 43 => 109 | 46 => 136 | 51 => 149 | 53 => 83 | 55 => 154 | 69 => 135 | 73 => 141 | 80 => 130 | 81 => 117 | 83 => 129 | 101 => 34 | 102 => 98 | 104 => 113 | 109 => 145 | 110 => 146 | 111 => 108 | 114 => 87 | 127 => 164 | 131 => 42 | 146 => 150 | 147 => 151 | 148 => 152 | 149 => 153 | 151 => 155 | 164 => 169 | 238 => 156 | 239 => 157 | 240 => 158 | 241 => 159 | 242 => 160 | 243 => 161 | 244 => 162 | 245 => 163 | 246 => 165 | 247 => 166 | 248 => 167 | 249 => 168 | n => n, fun | 1 => 0 | n => n⟩
theorem lays_strings_Contains : Go.Proofs.Lays.n144 Try.prog lays_strings_Contains_ren where
  mixed := by kernel_rfl
  f143 := Try.func142.trans (congrArg some (by kernel_rfl))
  f144 := Try.func138.trans (congrArg some (by kernel_rfl))
  f217 := Try.func146.trans (congrArg some (by kernel_rfl))
  f219 := Try.func145.trans (congrArg some (by kernel_rfl))
  f224 := Try.func148.trans (congrArg some (by kernel_rfl))
  f225 := Try.func147.trans (congrArg some (by kernel_rfl))
  f266 := Try.func150.trans (congrArg some (by kernel_rfl))
  f267 := Try.func149.trans (congrArg some (by kernel_rfl))
  f314 := Try.func151.trans (congrArg some (by kernel_rfl))
  t3 := Try.underlying3
  a3 := Try.isAgg3
  z3 := Try.sizeOf3
  v3 := Try.zeroValue3
  t4 := Try.underlying4
  a4 := Try.isAgg4
  z4 := Try.sizeOf4
  v4 := Try.zeroValue4
  t5 := Try.underlying5
  a5 := Try.isAgg5
  z5 := Try.sizeOf5
  v5 := Try.zeroValue5
  t9 := Try.underlying9
  a9 := Try.isAgg9
  z9 := Try.sizeOf9
  v9 := Try.zeroValue9
  t46 := Try.underlying136
  a46 := Try.isAgg136
  z46 := Try.sizeOf136
  v46 := Try.zeroValue136
  t51 := Try.underlying149
  a51 := Try.isAgg149
  z51 := Try.sizeOf149
  v51 := Try.zeroValue149
  t146 := Try.underlying150
  a146 := Try.isAgg150
  z146 := Try.sizeOf150
  v146 := Try.zeroValue150
  g1 := by kernel_rfl
noncomputable def f_strings_Contains (t0 : PV .str) (t1 : PV .str) : Option (PVs [.bool] × PVs []) := Go.Dn.containsF t0 t1
noncomputable def ct_strings_Contains : Ct := ⟨[(.bor, .str), (.bor, .str)], [(.bool, .b)], fun x => f_strings_Contains x.1 x.2.1⟩
theorem ok_strings_Contains : FnOk gl Try.prog 138 ct_strings_Contains := Go.Dn.contains_ok  lays_strings_Contains
noncomputable def pl_L_big : Plan := ⟨[], [], 0, 0⟩
noncomputable def f_L_big (t0 : PV S_uint8) (t1 : PV S_uint8) : Option (PVs [.bool] × PVs []) :=
  bif (decide ((t0.length : Int) > 1048576)) then
    some ((true, ()), ())
  else
    some (((decide ((t1.length : Int) > (IntKind.wrap .i64 (1048576 - (t0.length : Int))))), ()), ())
noncomputable def ct_L_big : Ct := ⟨[(.bor, S_uint8), (.bor, S_uint8)], [(.bool, .b)], fun x => f_L_big x.1 x.2.1⟩
noncomputable def cx_L_big : Cx := ⟨tab, arrs, [], [], gl, []⟩
theorem ef_L_big (t0 : PV S_uint8) (t1 : PV S_uint8) : denF cx_L_big 0 pl_L_big Try.f6.ntmps (bodyOf Try.f6) Try.f6.results.toList [(.bor, S_uint8), (.bor, S_uint8)] [(.bool, .b)] (t0, t1, ()) = f_L_big t0 t1 := by kernel_rfl
theorem ok_L_big : FnOk gl Try.prog 6 ct_L_big :=
  fnOk (cx := cx_L_big) (pl := pl_L_big) (dp := 0) (ok0_of tabOk (by unfold ArrOk; kernel_rfl) mix trivial trivial) Try.func6 (by kernel_rfl) (by kernel_rfl) (by kernel_rfl)
    (by rw [show loopsOf (bodyOf Try.f6) = [] from by kernel_rfl]; exact trivial) (fun x => ef_L_big x.1 x.2.1)
noncomputable def o_S_l1Cur_next_4 : List Out := [⟨.normal, ⟨[], [0, 3], []⟩, mkSh 63 [(0, .var Y_spec_l1Cur .b), (1, .addr ⟨0, [], 0, 0⟩), (4, .val (.int .i64) .b)]⟩]
noncomputable def pl_S_l1Cur_next : Plan := ⟨[(4, o_S_l1Cur_next_4)], [], 0, 1⟩
noncomputable def f_S_l1Cur_next (t0 : PV Y_spec_l1Cur) : Option (PVs [(.int .i64)] × PVs [Y_spec_l1Cur]) :=
  ((
      bif (decide (t0.2.1 < (t0.1.length : Int))) then
        bif inB t0.2.1 t0.1.length then
          some (t0, (IntKind.wrap .i64 (t0.1.getD t0.2.1.toNat (0 : Int))), ())
        else
          none
      else
        some (t0, 0, ()) : Option ((PV Y_spec_l1Cur × PV (.int .i64) × Unit)))).bind fun j1 =>
    bif (decide ((IntKind.wrap .i64 (j1.1.2.1 + 1)) ≤ (j1.1.1.length : Int))) then
      some ((j1.2.1, ()), ((j1.1.1, ((IntKind.wrap .i64 (j1.1.2.1 + 1)), ((IntKind.wrap .u64 ((IntKind.wrap .u64 ((IntKind.wrap .u64 (j1.1.2.2.1 * 6364136223846793005)) + (IntKind.wrap .u64 j1.2.1))) + 1442695040888963407)), j1.1.2.2.2))), ()))
    else
      bif decide (0 ≤ 40) then
        some (((IntKind.wrap .i64 (IntKind.wrap .u64 ((BitVec.ofInt (IntKind.bits .u64) ((IntKind.wrap .u64 ((IntKind.wrap .u64 ((IntKind.wrap .u64 (j1.1.2.2.1 * 6364136223846793005)) + (IntKind.wrap .u64 j1.2.1))) + 1442695040888963407)).fdiv (2 ^ (min (40 : Int).toNat (IntKind.bits .u64)))) &&& BitVec.ofInt (IntKind.bits .u64) 255).toNat : Int))), ()), ((j1.1.1, ((IntKind.wrap .i64 (j1.1.2.1 + 1)), ((IntKind.wrap .u64 ((IntKind.wrap .u64 ((IntKind.wrap .u64 (j1.1.2.2.1 * 6364136223846793005)) + (IntKind.wrap .u64 j1.2.1))) + 1442695040888963407)), j1.1.2.2.2))), ()))
      else
        none
noncomputable def ct_S_l1Cur_next : Ct := ⟨[(.ptr, Y_spec_l1Cur)], [((.int .i64), .b)], fun x => f_S_l1Cur_next x.1⟩
noncomputable def cx_S_l1Cur_next : Cx := ⟨tab, arrs, [], [], gl, []⟩
theorem ef_S_l1Cur_next (t0 : PV Y_spec_l1Cur) : denF cx_S_l1Cur_next 0 pl_S_l1Cur_next Try.f98.ntmps (bodyOf Try.f98) Try.f98.results.toList [(.ptr, Y_spec_l1Cur)] [((.int .i64), .b)] (t0, ()) = f_S_l1Cur_next t0 := by kernel_rfl
theorem ok_S_l1Cur_next : FnOk gl Try.prog 98 ct_S_l1Cur_next :=
  fnOk (cx := cx_S_l1Cur_next) (pl := pl_S_l1Cur_next) (dp := 0) (ok0_of tabOk (by unfold ArrOk; kernel_rfl) mix trivial trivial) Try.func98 (by kernel_rfl) (by kernel_rfl) (by kernel_rfl)
    (by rw [show loopsOf (bodyOf Try.f98) = [] from by kernel_rfl]; exact trivial) (fun x => ef_S_l1Cur_next x.1)
noncomputable def o_S_l1Cur_pick_6 : List Out := [⟨.normal, ⟨[], [1, 5], []⟩, mkSh 21 [(0, .var Y_spec_l1Cur .b), (2, .val (.int .i64) .b), (6, .val (.int .i64) .b)]⟩]
noncomputable def pl_S_l1Cur_pick : Plan := ⟨[(6, o_S_l1Cur_pick_6)], [], 0, 1⟩
noncomputable def f_S_l1Cur_pick (t0 : PV Y_spec_l1Cur) (t1 : PV (.int .i64)) : Option (PVs [(.int .i64)] × PVs [Y_spec_l1Cur]) :=
  bif (decide (t1 ≤ 1)) then
    some ((0, ()), (t0, ()))
  else
    (f_S_l1Cur_next t0).bind fun r2 =>
      ((
          bif (decide (t1 > 200)) then
            (f_S_l1Cur_next r2.2.1).bind fun r4 =>
              some (r4.2.1, t1, (IntKind.wrap .i64 ((IntKind.wrap .i64 (r2.1.1 * 256)) + r4.1.1)), ())
          else
            some (r2.2.1, t1, r2.1.1, ()) : Option ((PV Y_spec_l1Cur × PV (.int .i64) × PV (.int .i64) × Unit)))).bind fun j5 =>
        bif j5.2.1 == 0 then
          none
        else
          some (((j5.2.2.1.tmod j5.2.1), ()), (j5.1, ()))
noncomputable def ct_S_l1Cur_pick : Ct := ⟨[(.ptr, Y_spec_l1Cur), (.bor, (.int .i64))], [((.int .i64), .b)], fun x => f_S_l1Cur_pick x.1 x.2.1⟩
noncomputable def cx_S_l1Cur_pick : Cx := ⟨tab, arrs, [(98, ct_S_l1Cur_next)], [], gl, []⟩
theorem ef_S_l1Cur_pick (t0 : PV Y_spec_l1Cur) (t1 : PV (.int .i64)) : denF cx_S_l1Cur_pick 0 pl_S_l1Cur_pick Try.f55.ntmps (bodyOf Try.f55) Try.f55.results.toList [(.ptr, Y_spec_l1Cur), (.bor, (.int .i64))] [((.int .i64), .b)] (t0, t1, ()) = f_S_l1Cur_pick t0 t1 := by kernel_rfl
theorem ok_S_l1Cur_pick : FnOk gl Try.prog 55 ct_S_l1Cur_pick :=
  fnOk (cx := cx_S_l1Cur_pick) (pl := pl_S_l1Cur_pick) (dp := 0) (ok0_of tabOk (by unfold ArrOk; kernel_rfl) mix ⟨ok_S_l1Cur_next, trivial⟩ trivial) Try.func55 (by kernel_rfl) (by kernel_rfl) (by kernel_rfl)
    (by rw [show loopsOf (bodyOf Try.f55) = [] from by kernel_rfl]; exact trivial) (fun x => ef_S_l1Cur_pick x.1 x.2.1)
noncomputable def pl_S_l1Cur_line_118 : Plan := ⟨[], [], 0, 7⟩
noncomputable def pl_S_l1Cur_line : Plan := ⟨[], [], 1, 1⟩
noncomputable def f_S_l1Cur_line (t0 : PV Y_spec_l1Cur) : Option (PVs [.str] × PVs [Y_spec_l1Cur]) :=
  (f_S_l1Cur_pick t0 ([[97], [98], [99], [100], [], [46], [46, 46], [111, 110, 101, 32, 116, 119, 111], [43, 120], [45, 121], [92, 32, 122], [64, 64]].length : Int)).bind fun r1 =>
    bif inB r1.1.1 [[97], [98], [99], [100], [], [46], [46, 46], [111, 110, 101, 32, 116, 119, 111], [43, 120], [45, 121], [92, 32, 122], [64, 64]].length then
      some ((([[97], [98], [99], [100], [], [46], [46, 46], [111, 110, 101, 32, 116, 119, 111], [43, 120], [45, 121], [92, 32, 122], [64, 64]].getD r1.1.1.toNat []), ()), (r1.2.1, ()))
    else
      none
noncomputable def ct_S_l1Cur_line : Ct := ⟨[(.ptr, Y_spec_l1Cur)], [(.str, .b)], fun x => f_S_l1Cur_line x.1⟩
noncomputable def cx_S_l1Cur_line : Cx := ⟨tab, arrs, [(55, ct_S_l1Cur_pick)], [(118, Try.f118, pl_S_l1Cur_line_118)], gl, []⟩
theorem ef_S_l1Cur_line (t0 : PV Y_spec_l1Cur) : denF cx_S_l1Cur_line 1 pl_S_l1Cur_line Try.f117.ntmps (bodyOf Try.f117) Try.f117.results.toList [(.ptr, Y_spec_l1Cur)] [(.str, .b)] (t0, ()) = f_S_l1Cur_line t0 := by kernel_rfl
theorem ok_S_l1Cur_line : FnOk gl Try.prog 117 ct_S_l1Cur_line :=
  fnOk (cx := cx_S_l1Cur_line) (pl := pl_S_l1Cur_line) (dp := 1) (ok0_of tabOk (by unfold ArrOk; kernel_rfl) mix ⟨ok_S_l1Cur_pick, trivial⟩ ⟨⟨Try.func118, by kernel_rfl, (by rw [show loopsOf (bodyOf Try.f118) = [] from by kernel_rfl]; exact trivial)⟩, trivial⟩) Try.func117 (by kernel_rfl) (by kernel_rfl) (by kernel_rfl)
    (by rw [show loopsOf (bodyOf Try.f117) = [] from by kernel_rfl]; exact trivial) (fun x => ef_S_l1Cur_line x.1)
noncomputable def pl_S_l1Cur_one : Plan := ⟨[], [], 0, 1⟩
noncomputable def f_S_l1Cur_one (t0 : PV Y_spec_l1Cur) (t1 : PV (.int .i64)) : Option (PVs [.bool] × PVs [Y_spec_l1Cur]) :=
  (f_S_l1Cur_pick t0 t1).bind fun r1 =>
    some (((r1.1.1 == 0), ()), (r1.2.1, ()))
noncomputable def ct_S_l1Cur_one : Ct := ⟨[(.ptr, Y_spec_l1Cur), (.bor, (.int .i64))], [(.bool, .b)], fun x => f_S_l1Cur_one x.1 x.2.1⟩
noncomputable def cx_S_l1Cur_one : Cx := ⟨tab, arrs, [(55, ct_S_l1Cur_pick)], [], gl, []⟩
theorem ef_S_l1Cur_one (t0 : PV Y_spec_l1Cur) (t1 : PV (.int .i64)) : denF cx_S_l1Cur_one 0 pl_S_l1Cur_one Try.f82.ntmps (bodyOf Try.f82) Try.f82.results.toList [(.ptr, Y_spec_l1Cur), (.bor, (.int .i64))] [(.bool, .b)] (t0, t1, ()) = f_S_l1Cur_one t0 t1 := by kernel_rfl
theorem ok_S_l1Cur_one : FnOk gl Try.prog 82 ct_S_l1Cur_one :=
  fnOk (cx := cx_S_l1Cur_one) (pl := pl_S_l1Cur_one) (dp := 0) (ok0_of tabOk (by unfold ArrOk; kernel_rfl) mix ⟨ok_S_l1Cur_pick, trivial⟩ trivial) Try.func82 (by kernel_rfl) (by kernel_rfl) (by kernel_rfl)
    (by rw [show loopsOf (bodyOf Try.f82) = [] from by kernel_rfl]; exact trivial) (fun x => ef_S_l1Cur_one x.1 x.2.1)
noncomputable def o_S_l1Cur_text_8 : List Out := [⟨.normal, ⟨[], [3], []⟩, mkSh 27 [(0, .var Y_spec_l1Cur .b), (4, .val S_string (.row .b))]⟩]
noncomputable def pl_S_l1Cur_text_118 : Plan := ⟨[], [], 0, 27⟩
noncomputable def sh_S_l1Cur_text_3 : List Sh := mkSh 27 [(0, .var Y_spec_l1Cur .b), (1, .addr ⟨0, [], 0, 0⟩), (4, .val S_string (.row .b)), (5, .val (.int .i64) .b)]
noncomputable def o_S_l1Cur_text_3 : List Out := [⟨.exit 0, ⟨[], [0, 3], []⟩, mkSh 27 [(0, .var Y_spec_l1Cur .b), (1, .addr ⟨0, [], 0, 0⟩), (4, .val S_string (.row .b))]⟩]
noncomputable def b_S_l1Cur_text_3 (t0 : PV Y_spec_l1Cur) (t4 : PV S_string) (t5 : PV (.int .i64)) : Option ((PV Y_spec_l1Cur × PV S_string × PV (.int .i64) × Unit) ⊕ ((PV Y_spec_l1Cur × PV S_string × Unit))) :=
  bif (decide (t5 > 0)) then
    (f_S_l1Cur_line t0).bind fun r4 =>
      bif decide (r4.1.1.length + [10].length ≤ 1099511627776) then
        bif roomB (t4.length + [(r4.1.1 ++ [10])].length) then
          some (.inl (r4.2.1, (t4 ++ [(r4.1.1 ++ [10])]), (IntKind.wrap .i64 (t5 - 1)), ()))
        else
          none
      else
        none
  else
    some (.inr (t0, t4, ()))
noncomputable def w_S_l1Cur_text_3 : PV Y_spec_l1Cur × PV S_string × PV (.int .i64) × Unit → Option ((PV Y_spec_l1Cur × PV S_string × Unit)) := fix fun d => b_S_l1Cur_text_3 d.1 d.2.1 d.2.2.1
noncomputable def lp_S_l1Cur_text_3 : Lp := ⟨⟨[], [0, 3, 4], []⟩, sh_S_l1Cur_text_3, o_S_l1Cur_text_3, fun d => b_S_l1Cur_text_3 d.1 d.2.1 d.2.2.1⟩
noncomputable def pl_S_l1Cur_text : Plan := ⟨[(8, o_S_l1Cur_text_8)], [(3, lp_S_l1Cur_text_3)], 1, 1⟩
noncomputable def f_S_l1Cur_text (t0 : PV Y_spec_l1Cur) : Option (PVs [S_string] × PVs [Y_spec_l1Cur]) :=
  (f_S_l1Cur_pick t0 9).bind fun r7 =>
    (w_S_l1Cur_text_3 (r7.2.1, [], r7.1.1, ())).bind fun l8 =>
      ((
          (f_S_l1Cur_one l8.1 5).bind fun r13 =>
            bif r13.1.1 then
              (f_S_l1Cur_pick r13.2.1 ([[97], [101, 110, 100], [46]].length : Int)).bind fun r14 =>
                bif inB r14.1.1 [[97], [101, 110, 100], [46]].length then
                  bif roomB (l8.2.1.length + [([[97], [101, 110, 100], [46]].getD r14.1.1.toNat [])].length) then
                    some (r14.2.1, (l8.2.1 ++ [([[97], [101, 110, 100], [46]].getD r14.1.1.toNat [])]), ())
                  else
                    none
                else
                  none
            else
              some (r13.2.1, l8.2.1, ()) : Option ((PV Y_spec_l1Cur × PV S_string × Unit)))).bind fun j15 =>
        some ((j15.2.1, ()), (j15.1, ()))
noncomputable def ct_S_l1Cur_text : Ct := ⟨[(.ptr, Y_spec_l1Cur)], [(S_string, .b)], fun x => f_S_l1Cur_text x.1⟩
noncomputable def cx_S_l1Cur_text : Cx := ⟨tab, arrs, [(55, ct_S_l1Cur_pick), (82, ct_S_l1Cur_one), (117, ct_S_l1Cur_line)], [(118, Try.f118, pl_S_l1Cur_text_118)], gl, []⟩
theorem eb_S_l1Cur_text_3 (t0 : PV Y_spec_l1Cur) (t4 : PV S_string) (t5 : PV (.int .i64)) : denK cx_S_l1Cur_text (rcN cx_S_l1Cur_text 1) pl_S_l1Cur_text 1 ((loopsOf (bodyOf Try.f80)).getD 0 .skip) (fillS sh_S_l1Cur_text_3 (t0, t4, t5, ())) (roundK 1 lp_S_l1Cur_text_3) = b_S_l1Cur_text_3 t0 t4 t5 := by kernel_rfl
theorem ef_S_l1Cur_text (t0 : PV Y_spec_l1Cur) : denF cx_S_l1Cur_text 1 pl_S_l1Cur_text Try.f80.ntmps (bodyOf Try.f80) Try.f80.results.toList [(.ptr, Y_spec_l1Cur)] [(S_string, .b)] (t0, ()) = f_S_l1Cur_text t0 := by kernel_rfl
theorem ok_S_l1Cur_text : FnOk gl Try.prog 80 ct_S_l1Cur_text :=
  fnOk (cx := cx_S_l1Cur_text) (pl := pl_S_l1Cur_text) (dp := 1) (ok0_of tabOk (by unfold ArrOk; kernel_rfl) mix ⟨ok_S_l1Cur_pick, ok_S_l1Cur_one, ok_S_l1Cur_line, trivial⟩ ⟨⟨Try.func118, by kernel_rfl, (by rw [show loopsOf (bodyOf Try.f118) = [] from by kernel_rfl]; exact trivial)⟩, trivial⟩) Try.func80 (by kernel_rfl) (by kernel_rfl) (by kernel_rfl)
    (by rw [show loopsOf (bodyOf Try.f80) = [((loopsOf (bodyOf Try.f80)).getD 0 .skip)] from by kernel_rfl]; exact ⟨(by rw [show lookup pl_S_l1Cur_text.loops (firstId ((loopsOf (bodyOf Try.f80)).getD 0 .skip)) = some lp_S_l1Cur_text_3 from by kernel_rfl]; exact fun d z h => (eb_S_l1Cur_text_3 d.1 d.2.1 d.2.2.1).trans h), trivial⟩) (fun x => ef_S_l1Cur_text x.1)
noncomputable def pl_S_l1OwnT : Plan := ⟨[], [], 0, 0⟩
noncomputable def f_S_l1OwnT (t0 : PV S_string) : Option (PVs [S_string] × PVs []) :=
  bif roomB (([] : PV S_string).length + t0.length) then
    some (((([] : PV S_string) ++ t0), ()), ())
  else
    none
noncomputable def ct_S_l1OwnT : Ct := ⟨[(.bor, S_string)], [(S_string, (.row .b))], fun x => f_S_l1OwnT x.1⟩
noncomputable def cx_S_l1OwnT : Cx := ⟨tab, arrs, [], [], gl, []⟩
theorem ef_S_l1OwnT (t0 : PV S_string) : denF cx_S_l1OwnT 0 pl_S_l1OwnT Try.f104.ntmps (bodyOf Try.f104) Try.f104.results.toList [(.bor, S_string)] [(S_string, (.row .b))] (t0, ()) = f_S_l1OwnT t0 := by kernel_rfl
theorem ok_S_l1OwnT : FnOk gl Try.prog 104 ct_S_l1OwnT :=
  fnOk (cx := cx_S_l1OwnT) (pl := pl_S_l1OwnT) (dp := 0) (ok0_of tabOk (by unfold ArrOk; kernel_rfl) mix trivial trivial) Try.func104 (by kernel_rfl) (by kernel_rfl) (by kernel_rfl)
    (by rw [show loopsOf (bodyOf Try.f104) = [] from by kernel_rfl]; exact trivial) (fun x => ef_S_l1OwnT x.1)
noncomputable def pl_S_l1Ends : Plan := ⟨[], [], 0, 0⟩
noncomputable def f_S_l1Ends (t0 : PV .str) : Option (PVs [.bool] × PVs []) :=
  bif inB (IntKind.wrap .i64 ((t0.length : Int) - 1)) t0.length then
    some (((((t0.getD (IntKind.wrap .i64 ((t0.length : Int) - 1)).toNat 0).toNat : Int) == 10), ()), ())
  else
    none
noncomputable def ct_S_l1Ends : Ct := ⟨[(.bor, .str)], [(.bool, .b)], fun x => f_S_l1Ends x.1⟩
noncomputable def cx_S_l1Ends : Cx := ⟨tab, arrs, [], [], gl, []⟩
theorem ef_S_l1Ends (t0 : PV .str) : denF cx_S_l1Ends 0 pl_S_l1Ends Try.f121.ntmps (bodyOf Try.f121) Try.f121.results.toList [(.bor, .str)] [(.bool, .b)] (t0, ()) = f_S_l1Ends t0 := by kernel_rfl
theorem ok_S_l1Ends : FnOk gl Try.prog 121 ct_S_l1Ends :=
  fnOk (cx := cx_S_l1Ends) (pl := pl_S_l1Ends) (dp := 0) (ok0_of tabOk (by unfold ArrOk; kernel_rfl) mix trivial trivial) Try.func121 (by kernel_rfl) (by kernel_rfl) (by kernel_rfl)
    (by rw [show loopsOf (bodyOf Try.f121) = [] from by kernel_rfl]; exact trivial) (fun x => ef_S_l1Ends x.1)
noncomputable def pl_S_l1Whole : Plan := ⟨[], [], 0, 0⟩
noncomputable def f_S_l1Whole (t0 : PV S_string) : Option (PVs [.bool] × PVs []) :=
  bif ((t0.length : Int) == 0) then
    some ((true, ()), ())
  else
    bif inB (IntKind.wrap .i64 ((t0.length : Int) - 1)) t0.length then
      (f_S_l1Ends (t0.getD ((IntKind.wrap .i64 ((t0.length : Int) - 1)).toNat) [])).bind fun r1 =>
        some ((r1.1.1, ()), ())
    else
      none
noncomputable def ct_S_l1Whole : Ct := ⟨[(.bor, S_string)], [(.bool, .b)], fun x => f_S_l1Whole x.1⟩
noncomputable def cx_S_l1Whole : Cx := ⟨tab, arrs, [(121, ct_S_l1Ends)], [], gl, []⟩
theorem ef_S_l1Whole (t0 : PV S_string) : denF cx_S_l1Whole 0 pl_S_l1Whole Try.f119.ntmps (bodyOf Try.f119) Try.f119.results.toList [(.bor, S_string)] [(.bool, .b)] (t0, ()) = f_S_l1Whole t0 := by kernel_rfl
theorem ok_S_l1Whole : FnOk gl Try.prog 119 ct_S_l1Whole :=
  fnOk (cx := cx_S_l1Whole) (pl := pl_S_l1Whole) (dp := 0) (ok0_of tabOk (by unfold ArrOk; kernel_rfl) mix ⟨ok_S_l1Ends, trivial⟩ trivial) Try.func119 (by kernel_rfl) (by kernel_rfl) (by kernel_rfl)
    (by rw [show loopsOf (bodyOf Try.f119) = [] from by kernel_rfl]; exact trivial) (fun x => ef_S_l1Whole x.1)
noncomputable def pl_S_l1Plain : Plan := ⟨[], [], 0, 0⟩
noncomputable def f_S_l1Plain (t0 : PV .str) : Option (PVs [.str] × PVs []) :=
  (f_S_l1Ends t0).bind fun r4 =>
    bif r4.1.1 then
      bif cutB 0 (IntKind.wrap .i64 ((t0.length : Int) - 1)) t0.length then
        some (((cutL 0 (IntKind.wrap .i64 ((t0.length : Int) - 1)) t0), ()), ())
      else
        none
    else
      some ((t0, ()), ())
noncomputable def ct_S_l1Plain : Ct := ⟨[(.bor, .str)], [(.str, .b)], fun x => f_S_l1Plain x.1⟩
noncomputable def cx_S_l1Plain : Cx := ⟨tab, arrs, [(121, ct_S_l1Ends)], [], gl, []⟩
theorem ef_S_l1Plain (t0 : PV .str) : denF cx_S_l1Plain 0 pl_S_l1Plain Try.f128.ntmps (bodyOf Try.f128) Try.f128.results.toList [(.bor, .str)] [(.str, .b)] (t0, ()) = f_S_l1Plain t0 := by kernel_rfl
theorem ok_S_l1Plain : FnOk gl Try.prog 128 ct_S_l1Plain :=
  fnOk (cx := cx_S_l1Plain) (pl := pl_S_l1Plain) (dp := 0) (ok0_of tabOk (by unfold ArrOk; kernel_rfl) mix ⟨ok_S_l1Ends, trivial⟩ trivial) Try.func128 (by kernel_rfl) (by kernel_rfl) (by kernel_rfl)
    (by rw [show loopsOf (bodyOf Try.f128) = [] from by kernel_rfl]; exact trivial) (fun x => ef_S_l1Plain x.1)
noncomputable def o_S_l1Cur_other_14 : List Out := [⟨.normal, ⟨[], [0, 5, 6, 7, 29, 30, 72, 83, 84], []⟩, mkSh 120 [(0, .var Y_spec_l1Cur .b), (1, .addr ⟨0, [], 0, 0⟩), (6, .val S_string (.row .b)), (7, .val (.int .i64) .b), (8, .val (.int .i64) .b), (73, .val .bool .b)]⟩]
noncomputable def o_S_l1Cur_other_8 : List Out := [⟨.normal, ⟨[], [0, 5, 6, 7, 31, 67, 68, 69, 70, 71, 83, 84], []⟩, mkSh 120 [(0, .var Y_spec_l1Cur .b), (1, .addr ⟨0, [], 0, 0⟩), (6, .val S_string (.row .b)), (7, .val (.int .i64) .b), (8, .val (.int .i64) .b), (32, .val .bool .b)]⟩]
noncomputable def o_S_l1Cur_other_4 : List Out := [⟨.normal, ⟨[], [0, 5, 6, 29, 30, 67, 68, 69, 70, 71, 83, 84], []⟩, mkSh 120 [(0, .var Y_spec_l1Cur .b), (1, .addr ⟨0, [], 0, 0⟩), (6, .val S_string (.row .b)), (7, .val (.int .i64) .b)]⟩]
noncomputable def o_S_l1Cur_other_16 : List Out := [⟨.normal, ⟨[], [5, 85], []⟩, mkSh 120 [(0, .var Y_spec_l1Cur .b), (6, .val S_string (.row .b)), (86, .val .bool .b)]⟩]
noncomputable def o_S_l1Cur_other_21 : List Out := [⟨.normal, ⟨[], [5], []⟩, mkSh 120 [(0, .var Y_spec_l1Cur .b), (6, .val S_string (.row .b))]⟩]
noncomputable def sh_S_l1Cur_other_3 : List Sh := mkSh 120 [(0, .var Y_spec_l1Cur .b), (1, .addr ⟨0, [], 0, 0⟩), (6, .val S_string (.row .b)), (7, .val (.int .i64) .b)]
noncomputable def o_S_l1Cur_other_3 : List Out := [⟨.exit 0, ⟨[], [0, 5, 83, 84], []⟩, mkSh 120 [(0, .var Y_spec_l1Cur .b), (1, .addr ⟨0, [], 0, 0⟩), (6, .val S_string (.row .b))]⟩]
noncomputable def b_S_l1Cur_other_3 (t0 : PV Y_spec_l1Cur) (t6 : PV S_string) (t7 : PV (.int .i64)) : Option ((PV Y_spec_l1Cur × PV S_string × PV (.int .i64) × Unit) ⊕ ((PV Y_spec_l1Cur × PV S_string × Unit))) :=
  bif (decide (t7 > 0)) then
    ((
        (f_S_l1Cur_pick t0 (IntKind.wrap .i64 ((t6.length : Int) + 1))).bind fun r6 =>
          (f_S_l1Cur_pick r6.2.1 3).bind fun r8 =>
            bif (r8.1.1 == 0) then
              bif (decide (r6.1.1 < (t6.length : Int))) then
                bif cutB 0 r6.1.1 t6.length then
                  (f_S_l1OwnT (cutL 0 r6.1.1 t6)).bind fun r9 =>
                    bif cutB (IntKind.wrap .i64 (r6.1.1 + 1)) (t6.length : Int) t6.length then
                      bif roomB (r9.1.1.length + (cutL (IntKind.wrap .i64 (r6.1.1 + 1)) (t6.length : Int) t6).length) then
                        some (r8.2.1, (r9.1.1 ++ (cutL (IntKind.wrap .i64 (r6.1.1 + 1)) (t6.length : Int) t6)), t7, ())
                      else
                        none
                    else
                      none
                else
                  none
              else
                some (r8.2.1, t6, t7, ())
            else
              bif (r8.1.1 == 1) then
                ((
                    bif (decide (r6.1.1 < (t6.length : Int))) then
                      bif inB r6.1.1 t6.length then
                        (f_S_l1Ends (t6.getD r6.1.1.toNat [])).bind fun r10 =>
                          some (r8.2.1, t6, t7, r6.1.1, r10.1.1, ())
                      else
                        none
                    else
                      some (r8.2.1, t6, t7, r6.1.1, false, ()) : Option ((PV Y_spec_l1Cur × PV S_string × PV (.int .i64) × PV (.int .i64) × PV .bool × Unit)))).bind fun j11 =>
                  bif j11.2.2.2.2.1 then
                    (f_S_l1Cur_line j11.1).bind fun r12 =>
                      bif decide (r12.1.1.length + [10].length ≤ 1099511627776) then
                        bif inB j11.2.2.2.1 j11.2.1.length then
                          some (r12.2.1, (j11.2.1.set j11.2.2.2.1.toNat (r12.1.1 ++ [10])), j11.2.2.1, ())
                        else
                          none
                      else
                        none
                  else
                    some (j11.1, j11.2.1, j11.2.2.1, ())
              else
                ((
                    bif (decide (r6.1.1 < (t6.length : Int))) then
                      some (r8.2.1, t6, t7, r6.1.1, true, ())
                    else
                      (f_S_l1Whole t6).bind fun r13 =>
                        some (r8.2.1, t6, t7, r6.1.1, r13.1.1, ()) : Option ((PV Y_spec_l1Cur × PV S_string × PV (.int .i64) × PV (.int .i64) × PV .bool × Unit)))).bind fun j14 =>
                  bif j14.2.2.2.2.1 then
                    bif cutB 0 j14.2.2.2.1 j14.2.1.length then
                      (f_S_l1OwnT (cutL 0 j14.2.2.2.1 j14.2.1)).bind fun r15 =>
                        (f_S_l1Cur_line j14.1).bind fun r16 =>
                          bif decide (r16.1.1.length + [10].length ≤ 1099511627776) then
                            bif roomB (r15.1.1.length + [(r16.1.1 ++ [10])].length) then
                              bif cutB j14.2.2.2.1 (j14.2.1.length : Int) j14.2.1.length then
                                bif roomB ((r15.1.1 ++ [(r16.1.1 ++ [10])]).length + (cutL j14.2.2.2.1 (j14.2.1.length : Int) j14.2.1).length) then
                                  some (r16.2.1, ((r15.1.1 ++ [(r16.1.1 ++ [10])]) ++ (cutL j14.2.2.2.1 (j14.2.1.length : Int) j14.2.1)), j14.2.2.1, ())
                                else
                                  none
                              else
                                none
                            else
                              none
                          else
                            none
                    else
                      none
                  else
                    some (j14.1, j14.2.1, j14.2.2.1, ()) : Option ((PV Y_spec_l1Cur × PV S_string × PV (.int .i64) × Unit)))).bind fun j17 =>
      some (.inl (j17.1, j17.2.1, (IntKind.wrap .i64 (j17.2.2.1 - 1)), ()))
  else
    some (.inr (t0, t6, ()))
noncomputable def w_S_l1Cur_other_3 : PV Y_spec_l1Cur × PV S_string × PV (.int .i64) × Unit → Option ((PV Y_spec_l1Cur × PV S_string × Unit)) := fix fun d => b_S_l1Cur_other_3 d.1 d.2.1 d.2.2.1
noncomputable def lp_S_l1Cur_other_3 : Lp := ⟨⟨[], [0, 5, 6, 29, 30, 67, 68, 69, 70, 71, 83, 84], []⟩, sh_S_l1Cur_other_3, o_S_l1Cur_other_3, fun d => b_S_l1Cur_other_3 d.1 d.2.1 d.2.2.1⟩
noncomputable def pl_S_l1Cur_other : Plan := ⟨[(14, o_S_l1Cur_other_14), (8, o_S_l1Cur_other_8), (4, o_S_l1Cur_other_4), (16, o_S_l1Cur_other_16), (21, o_S_l1Cur_other_21)], [(3, lp_S_l1Cur_other_3)], 0, 1⟩
noncomputable def f_S_l1Cur_other (t0 : PV Y_spec_l1Cur) (t1 : PV S_string) : Option (PVs [S_string] × PVs [Y_spec_l1Cur]) :=
  (f_S_l1OwnT t1).bind fun r2 =>
    (f_S_l1Cur_pick t0 4).bind fun r20 =>
      (w_S_l1Cur_other_3 (r20.2.1, r2.1.1, r20.1.1, ())).bind fun l21 =>
        ((
            ((
                bif (decide ((l21.2.1.length : Int) > 0)) then
                  (f_S_l1Cur_one l21.1 6).bind fun r29 =>
                    some (r29.2.1, l21.2.1, r29.1.1, ())
                else
                  some (l21.1, l21.2.1, false, ()) : Option ((PV Y_spec_l1Cur × PV S_string × PV .bool × Unit)))).bind fun j30 =>
              bif j30.2.2.1 then
                bif inB (IntKind.wrap .i64 ((j30.2.1.length : Int) - 1)) j30.2.1.length then
                  (f_S_l1Plain (j30.2.1.getD ((IntKind.wrap .i64 ((j30.2.1.length : Int) - 1)).toNat) [])).bind fun r32 =>
                    bif inB (IntKind.wrap .i64 ((j30.2.1.length : Int) - 1)) j30.2.1.length then
                      (f_S_l1Ends (j30.2.1.getD ((IntKind.wrap .i64 ((j30.2.1.length : Int) - 1)).toNat) [])).bind fun r34 =>
                        bif (!r34.1.1) then
                          bif decide (r32.1.1.length + [10].length ≤ 1099511627776) then
                            bif inB (IntKind.wrap .i64 ((j30.2.1.length : Int) - 1)) j30.2.1.length then
                              some (j30.1, (j30.2.1.set ((IntKind.wrap .i64 ((j30.2.1.length : Int) - 1)).toNat) (r32.1.1 ++ [10])), ())
                            else
                              none
                          else
                            none
                        else
                          bif (!(r32.1.1 == [])) then
                            bif inB (IntKind.wrap .i64 ((j30.2.1.length : Int) - 1)) j30.2.1.length then
                              some (j30.1, (j30.2.1.set ((IntKind.wrap .i64 ((j30.2.1.length : Int) - 1)).toNat) r32.1.1), ())
                            else
                              none
                          else
                            some (j30.1, j30.2.1, ())
                    else
                      none
                else
                  none
              else
                some (j30.1, j30.2.1, ()) : Option ((PV Y_spec_l1Cur × PV S_string × Unit)))).bind fun j35 =>
          some ((j35.2.1, ()), (j35.1, ()))
noncomputable def ct_S_l1Cur_other : Ct := ⟨[(.ptr, Y_spec_l1Cur), (.bor, S_string)], [(S_string, .b)], fun x => f_S_l1Cur_other x.1 x.2.1⟩
noncomputable def cx_S_l1Cur_other : Cx := ⟨tab, arrs, [(55, ct_S_l1Cur_pick), (82, ct_S_l1Cur_one), (104, ct_S_l1OwnT), (117, ct_S_l1Cur_line), (119, ct_S_l1Whole), (121, ct_S_l1Ends), (128, ct_S_l1Plain)], [], gl, []⟩
theorem eb_S_l1Cur_other_3 (t0 : PV Y_spec_l1Cur) (t6 : PV S_string) (t7 : PV (.int .i64)) : denK cx_S_l1Cur_other (rcN cx_S_l1Cur_other 0) pl_S_l1Cur_other 1 ((loopsOf (bodyOf Try.f97)).getD 0 .skip) (fillS sh_S_l1Cur_other_3 (t0, t6, t7, ())) (roundK 1 lp_S_l1Cur_other_3) = b_S_l1Cur_other_3 t0 t6 t7 := by kernel_rfl
theorem ef_S_l1Cur_other (t0 : PV Y_spec_l1Cur) (t1 : PV S_string) : denF cx_S_l1Cur_other 0 pl_S_l1Cur_other Try.f97.ntmps (bodyOf Try.f97) Try.f97.results.toList [(.ptr, Y_spec_l1Cur), (.bor, S_string)] [(S_string, .b)] (t0, t1, ()) = f_S_l1Cur_other t0 t1 := by kernel_rfl
theorem ok_S_l1Cur_other : FnOk gl Try.prog 97 ct_S_l1Cur_other :=
  fnOk (cx := cx_S_l1Cur_other) (pl := pl_S_l1Cur_other) (dp := 0) (ok0_of tabOk (by unfold ArrOk; kernel_rfl) mix ⟨ok_S_l1Cur_pick, ok_S_l1Cur_one, ok_S_l1OwnT, ok_S_l1Cur_line, ok_S_l1Whole, ok_S_l1Ends, ok_S_l1Plain, trivial⟩ trivial) Try.func97 (by kernel_rfl) (by kernel_rfl) (by kernel_rfl)
    (by rw [show loopsOf (bodyOf Try.f97) = [((loopsOf (bodyOf Try.f97)).getD 0 .skip)] from by kernel_rfl]; exact ⟨(by rw [show lookup pl_S_l1Cur_other.loops (firstId ((loopsOf (bodyOf Try.f97)).getD 0 .skip)) = some lp_S_l1Cur_other_3 from by kernel_rfl]; exact fun d z h => (eb_S_l1Cur_other_3 d.1 d.2.1 d.2.2.1).trans h), trivial⟩) (fun x => ef_S_l1Cur_other x.1 x.2.1)
noncomputable def o_S_l1Cur_versions_14 : List Out := [⟨.normal, ⟨[(3, (.row .b))], [3], []⟩, mkSh 50 [(0, .var Y_spec_l1Cur .b), (4, .val S_S_string (.row .b))]⟩]
noncomputable def sh_S_l1Cur_versions_3 : List Sh := mkSh 50 [(0, .var Y_spec_l1Cur .b), (1, .addr ⟨0, [], 0, 0⟩), (4, .val S_S_string (.row .b)), (5, .val (.int .i64) .b)]
noncomputable def o_S_l1Cur_versions_3 : List Out := [⟨.exit 0, ⟨[], [0, 3], []⟩, mkSh 50 [(0, .var Y_spec_l1Cur .b), (1, .addr ⟨0, [], 0, 0⟩), (4, .val S_S_string (.row .b))]⟩]
noncomputable def b_S_l1Cur_versions_3 (t0 : PV Y_spec_l1Cur) (t4 : PV S_S_string) (t5 : PV (.int .i64)) : Option ((PV Y_spec_l1Cur × PV S_S_string × PV (.int .i64) × Unit) ⊕ ((PV Y_spec_l1Cur × PV S_S_string × Unit))) :=
  bif (decide (t5 > 0)) then
    bif inB (IntKind.wrap .i64 ((t4.length : Int) - 1)) t4.length then
      (f_S_l1Cur_other t0 (t4.getD ((IntKind.wrap .i64 ((t4.length : Int) - 1)).toNat) [])).bind fun r6 =>
        bif roomB (t4.length + [r6.1.1].length) then
          some (.inl (r6.2.1, (t4 ++ [r6.1.1]), (IntKind.wrap .i64 (t5 - 1)), ()))
        else
          none
    else
      none
  else
    some (.inr (t0, t4, ()))
noncomputable def w_S_l1Cur_versions_3 : PV Y_spec_l1Cur × PV S_S_string × PV (.int .i64) × Unit → Option ((PV Y_spec_l1Cur × PV S_S_string × Unit)) := fix fun d => b_S_l1Cur_versions_3 d.1 d.2.1 d.2.2.1
noncomputable def lp_S_l1Cur_versions_3 : Lp := ⟨⟨[], [0, 3, 4], []⟩, sh_S_l1Cur_versions_3, o_S_l1Cur_versions_3, fun d => b_S_l1Cur_versions_3 d.1 d.2.1 d.2.2.1⟩
noncomputable def sh_S_l1Cur_versions_12 : List Sh := mkSh 50 [(0, .var Y_spec_l1Cur .b), (1, .addr ⟨0, [], 0, 0⟩), (4, .val S_S_string (.row .b))]
noncomputable def o_S_l1Cur_versions_12 : List Out := [⟨.exit 3, ⟨[], [3], []⟩, mkSh 50 [(0, .var Y_spec_l1Cur .b), (4, .val S_S_string (.row .b))]⟩]
noncomputable def b_S_l1Cur_versions_12 (t0 : PV Y_spec_l1Cur) (t4 : PV S_S_string) : Option ((PV Y_spec_l1Cur × PV S_S_string × Unit) ⊕ ((PV Y_spec_l1Cur × PV S_S_string × Unit))) :=
  (f_S_l1Cur_pick t0 2).bind fun r14 =>
    bif (decide ((t4.length : Int) < (IntKind.wrap .i64 (8 + r14.1.1)))) then
      bif inB 0 t4.length then
        bif roomB (t4.length + [(t4.getD ((0 : Int).toNat) [])].length) then
          some (.inl (r14.2.1, (t4 ++ [(t4.getD ((0 : Int).toNat) [])]), ()))
        else
          none
      else
        none
    else
      some (.inr (r14.2.1, t4, ()))
noncomputable def w_S_l1Cur_versions_12 : PV Y_spec_l1Cur × PV S_S_string × Unit → Option ((PV Y_spec_l1Cur × PV S_S_string × Unit)) := fix fun d => b_S_l1Cur_versions_12 d.1 d.2.1
noncomputable def lp_S_l1Cur_versions_12 : Lp := ⟨⟨[], [0, 3], []⟩, sh_S_l1Cur_versions_12, o_S_l1Cur_versions_12, fun d => b_S_l1Cur_versions_12 d.1 d.2.1⟩
noncomputable def pl_S_l1Cur_versions : Plan := ⟨[(14, o_S_l1Cur_versions_14)], [(3, lp_S_l1Cur_versions_3), (12, lp_S_l1Cur_versions_12)], 0, 1⟩
noncomputable def f_S_l1Cur_versions (t0 : PV Y_spec_l1Cur) : Option (PVs [S_S_string] × PVs [Y_spec_l1Cur]) :=
  (f_S_l1Cur_text t0).bind fun r2 =>
    (f_S_l1Cur_pick r2.2.1 4).bind fun r9 =>
      (w_S_l1Cur_versions_3 (r9.2.1, [r2.1.1], r9.1.1, ())).bind fun l10 =>
        ((
            (f_S_l1Cur_pick l10.1 30).bind fun r17 =>
              bif (r17.1.1 == 0) then
                some (r17.2.1, [], ())
              else
                bif (r17.1.1 == 1) then
                  bif inB 0 l10.2.1.length then
                    some (r17.2.1, (l10.2.1.set ((0 : Int).toNat) [[97], [98]]), ())
                  else
                    none
                else
                  bif (r17.1.1 == 2) then
                    (w_S_l1Cur_versions_12 (r17.2.1, l10.2.1, ())).bind fun l18 =>
                      some (l18.1, l18.2.1, ())
                  else
                    some (r17.2.1, l10.2.1, ()) : Option ((PV Y_spec_l1Cur × PV S_S_string × Unit)))).bind fun j19 =>
          some ((j19.2.1, ()), (j19.1, ()))
noncomputable def ct_S_l1Cur_versions : Ct := ⟨[(.ptr, Y_spec_l1Cur)], [(S_S_string, .b)], fun x => f_S_l1Cur_versions x.1⟩
noncomputable def cx_S_l1Cur_versions : Cx := ⟨tab, arrs, [(55, ct_S_l1Cur_pick), (80, ct_S_l1Cur_text), (97, ct_S_l1Cur_other)], [], gl, []⟩
theorem eb_S_l1Cur_versions_3 (t0 : PV Y_spec_l1Cur) (t4 : PV S_S_string) (t5 : PV (.int .i64)) : denK cx_S_l1Cur_versions (rcN cx_S_l1Cur_versions 0) pl_S_l1Cur_versions 1 ((loopsOf (bodyOf Try.f54)).getD 0 .skip) (fillS sh_S_l1Cur_versions_3 (t0, t4, t5, ())) (roundK 1 lp_S_l1Cur_versions_3) = b_S_l1Cur_versions_3 t0 t4 t5 := by kernel_rfl
theorem eb_S_l1Cur_versions_12 (t0 : PV Y_spec_l1Cur) (t4 : PV S_S_string) : denK cx_S_l1Cur_versions (rcN cx_S_l1Cur_versions 0) pl_S_l1Cur_versions 1 ((loopsOf (bodyOf Try.f54)).getD 1 .skip) (fillS sh_S_l1Cur_versions_12 (t0, t4, ())) (roundK 1 lp_S_l1Cur_versions_12) = b_S_l1Cur_versions_12 t0 t4 := by kernel_rfl
theorem ef_S_l1Cur_versions (t0 : PV Y_spec_l1Cur) : denF cx_S_l1Cur_versions 0 pl_S_l1Cur_versions Try.f54.ntmps (bodyOf Try.f54) Try.f54.results.toList [(.ptr, Y_spec_l1Cur)] [(S_S_string, .b)] (t0, ()) = f_S_l1Cur_versions t0 := by kernel_rfl
theorem ok_S_l1Cur_versions : FnOk gl Try.prog 54 ct_S_l1Cur_versions :=
  fnOk (cx := cx_S_l1Cur_versions) (pl := pl_S_l1Cur_versions) (dp := 0) (ok0_of tabOk (by unfold ArrOk; kernel_rfl) mix ⟨ok_S_l1Cur_pick, ok_S_l1Cur_text, ok_S_l1Cur_other, trivial⟩ trivial) Try.func54 (by kernel_rfl) (by kernel_rfl) (by kernel_rfl)
    (by rw [show loopsOf (bodyOf Try.f54) = [((loopsOf (bodyOf Try.f54)).getD 0 .skip), ((loopsOf (bodyOf Try.f54)).getD 1 .skip)] from by kernel_rfl]; exact ⟨(by rw [show lookup pl_S_l1Cur_versions.loops (firstId ((loopsOf (bodyOf Try.f54)).getD 0 .skip)) = some lp_S_l1Cur_versions_3 from by kernel_rfl]; exact fun d z h => (eb_S_l1Cur_versions_3 d.1 d.2.1 d.2.2.1).trans h), (by rw [show lookup pl_S_l1Cur_versions.loops (firstId ((loopsOf (bodyOf Try.f54)).getD 1 .skip)) = some lp_S_l1Cur_versions_12 from by kernel_rfl]; exact fun d z h => (eb_S_l1Cur_versions_12 d.1 d.2.1).trans h), trivial⟩) (fun x => ef_S_l1Cur_versions x.1)
noncomputable def pl_S_DrawSinceOf : Plan := ⟨[], [], 0, 0⟩
noncomputable def f_S_DrawSinceOf (t0 : PV S_uint8) : Option (PVs [S_S_string] × PVs []) :=
  (f_S_l1Cur_versions (t0, (0, (0, ())))).bind fun r1 =>
    some ((r1.1.1, ()), ())
noncomputable def ct_S_DrawSinceOf : Ct := ⟨[(.bor, S_uint8)], [(S_S_string, .b)], fun x => f_S_DrawSinceOf x.1⟩
noncomputable def cx_S_DrawSinceOf : Cx := ⟨tab, arrs, [(54, ct_S_l1Cur_versions)], [], gl, []⟩
theorem ef_S_DrawSinceOf (t0 : PV S_uint8) : denF cx_S_DrawSinceOf 0 pl_S_DrawSinceOf Try.f48.ntmps (bodyOf Try.f48) Try.f48.results.toList [(.bor, S_uint8)] [(S_S_string, .b)] (t0, ()) = f_S_DrawSinceOf t0 := by kernel_rfl
theorem ok_S_DrawSinceOf : FnOk gl Try.prog 48 ct_S_DrawSinceOf :=
  fnOk (cx := cx_S_DrawSinceOf) (pl := pl_S_DrawSinceOf) (dp := 0) (ok0_of tabOk (by unfold ArrOk; kernel_rfl) mix ⟨ok_S_l1Cur_versions, trivial⟩ trivial) Try.func48 (by kernel_rfl) (by kernel_rfl) (by kernel_rfl)
    (by rw [show loopsOf (bodyOf Try.f48) = [] from by kernel_rfl]; exact trivial) (fun x => ef_S_DrawSinceOf x.1)
noncomputable def pl_S_DrawChurnOf : Plan := ⟨[], [], 0, 0⟩
noncomputable def f_S_DrawChurnOf (t0 : PV S_uint8) : Option (PVs [S_S_string] × PVs []) :=
  (f_S_DrawSinceOf t0).bind fun r1 =>
    some ((r1.1.1, ()), ())
noncomputable def ct_S_DrawChurnOf : Ct := ⟨[(.bor, S_uint8)], [(S_S_string, .b)], fun x => f_S_DrawChurnOf x.1⟩
noncomputable def cx_S_DrawChurnOf : Cx := ⟨tab, arrs, [(48, ct_S_DrawSinceOf)], [], gl, []⟩
theorem ef_S_DrawChurnOf (t0 : PV S_uint8) : denF cx_S_DrawChurnOf 0 pl_S_DrawChurnOf Try.f13.ntmps (bodyOf Try.f13) Try.f13.results.toList [(.bor, S_uint8)] [(S_S_string, .b)] (t0, ()) = f_S_DrawChurnOf t0 := by kernel_rfl
theorem ok_S_DrawChurnOf : FnOk gl Try.prog 13 ct_S_DrawChurnOf :=
  fnOk (cx := cx_S_DrawChurnOf) (pl := pl_S_DrawChurnOf) (dp := 0) (ok0_of tabOk (by unfold ArrOk; kernel_rfl) mix ⟨ok_S_DrawSinceOf, trivial⟩ trivial) Try.func13 (by kernel_rfl) (by kernel_rfl) (by kernel_rfl)
    (by rw [show loopsOf (bodyOf Try.f13) = [] from by kernel_rfl]; exact trivial) (fun x => ef_S_DrawChurnOf x.1)
noncomputable def pl_I_in : Plan := ⟨[], [], 0, 0⟩
noncomputable def f_I_in (t0 : PV (.int .i64)) (t1 : PV (.int .i64)) (t2 : PV (.int .i64)) : Option (PVs [.bool] × PVs []) :=
  bif (decide (t0 ≥ t1)) then
    some (((decide (t0 ≤ t2)), ()), ())
  else
    some ((false, ()), ())
noncomputable def ct_I_in : Ct := ⟨[(.bor, (.int .i64)), (.bor, (.int .i64)), (.bor, (.int .i64))], [(.bool, .b)], fun x => f_I_in x.1 x.2.1 x.2.2.1⟩
noncomputable def cx_I_in : Cx := ⟨tab, arrs, [], [], gl, []⟩
theorem ef_I_in (t0 : PV (.int .i64)) (t1 : PV (.int .i64)) (t2 : PV (.int .i64)) : denF cx_I_in 0 pl_I_in Try.f56.ntmps (bodyOf Try.f56) Try.f56.results.toList [(.bor, (.int .i64)), (.bor, (.int .i64)), (.bor, (.int .i64))] [(.bool, .b)] (t0, t1, t2, ()) = f_I_in t0 t1 t2 := by kernel_rfl
theorem ok_I_in : FnOk gl Try.prog 56 ct_I_in :=
  fnOk (cx := cx_I_in) (pl := pl_I_in) (dp := 0) (ok0_of tabOk (by unfold ArrOk; kernel_rfl) mix trivial trivial) Try.func56 (by kernel_rfl) (by kernel_rfl) (by kernel_rfl)
    (by rw [show loopsOf (bodyOf Try.f56) = [] from by kernel_rfl]; exact trivial) (fun x => ef_I_in x.1 x.2.1 x.2.2.1)
noncomputable def pl_I_isLine : Plan := ⟨[], [], 0, 0⟩
noncomputable def f_I_isLine (t0 : PV .str) : Option (PVs [.bool] × PVs []) :=
  (f_I_in (t0.length : Int) 1 30).bind fun r1 =>
    bif r1.1.1 then
      bif cutB 0 (IntKind.wrap .i64 ((t0.length : Int) - 1)) t0.length then
        (f_strings_Contains (cutL 0 (IntKind.wrap .i64 ((t0.length : Int) - 1)) t0) [10]).bind fun r2 =>
          some (((!r2.1.1), ()), ())
      else
        none
    else
      some ((false, ()), ())
noncomputable def ct_I_isLine : Ct := ⟨[(.bor, .str)], [(.bool, .b)], fun x => f_I_isLine x.1⟩
noncomputable def cx_I_isLine : Cx := ⟨tab, arrs, [(56, ct_I_in), (138, ct_strings_Contains)], [], gl, []⟩
theorem ef_I_isLine (t0 : PV .str) : denF cx_I_isLine 0 pl_I_isLine Try.f124.ntmps (bodyOf Try.f124) Try.f124.results.toList [(.bor, .str)] [(.bool, .b)] (t0, ()) = f_I_isLine t0 := by kernel_rfl
theorem ok_I_isLine : FnOk gl Try.prog 124 ct_I_isLine :=
  fnOk (cx := cx_I_isLine) (pl := pl_I_isLine) (dp := 0) (ok0_of tabOk (by unfold ArrOk; kernel_rfl) mix ⟨ok_I_in, ok_strings_Contains, trivial⟩ trivial) Try.func124 (by kernel_rfl) (by kernel_rfl) (by kernel_rfl)
    (by rw [show loopsOf (bodyOf Try.f124) = [] from by kernel_rfl]; exact trivial) (fun x => ef_I_isLine x.1)
noncomputable def pl_I_areLines_1 : Plan := ⟨[], [], 0, 0⟩
noncomputable def f_I_areLines_1 (t0 : PV .str) : Option (PVs [.bool] × PVs []) :=
  (f_I_isLine t0).bind fun r1 =>
    some (((!r1.1.1), ()), ())
noncomputable def ct_I_areLines_1 : Ct := ⟨[(.bor, .str)], [(.bool, .b)], fun x => f_I_areLines_1 x.1⟩
noncomputable def cx_I_areLines_1 : Cx := ⟨tab, arrs, [(124, ct_I_isLine)], [], gl, []⟩
theorem ef_I_areLines_1 (t0 : PV .str) : denF cx_I_areLines_1 0 pl_I_areLines_1 Try.f123.ntmps (bodyOf Try.f123) Try.f123.results.toList [(.bor, .str)] [(.bool, .b)] (t0, ()) = f_I_areLines_1 t0 := by kernel_rfl
theorem ok_I_areLines_1 : FnOk gl Try.prog 123 ct_I_areLines_1 :=
  fnOk (cx := cx_I_areLines_1) (pl := pl_I_areLines_1) (dp := 0) (ok0_of tabOk (by unfold ArrOk; kernel_rfl) mix ⟨ok_I_isLine, trivial⟩ trivial) Try.func123 (by kernel_rfl) (by kernel_rfl) (by kernel_rfl)
    (by rw [show loopsOf (bodyOf Try.f123) = [] from by kernel_rfl]; exact trivial) (fun x => ef_I_areLines_1 x.1)
noncomputable def pl_I_areLines_122 : Plan := ⟨[], [], 1, 11⟩
noncomputable def sh_I_areLines_137_2 : List Sh := mkSh 39 [(0, .val S_string .b), (2, .val .bool .b), (3, .val S_string .b), (4, .val (.int .i64) .b), (5, .val .bool .b), (6, .val .bool .b), (7, .val S_string .b), (11, .val S_string .b), (12, .fn 123 []), (15, .val .bool .b), (16, .val S_string .b), (17, .fn 123 []), (20, .val S_string .b), (21, .fn 123 []), (27, .val (.int .i64) .b), (28, .val (.int .i64) .b)]
noncomputable def o_I_areLines_137_2 : List Out := [⟨.exit 0, ⟨[], [], []⟩, mkSh 39 [(0, .val S_string .b), (2, .val .bool .b), (3, .val S_string .b), (4, .val (.int .i64) .b), (5, .val .bool .b), (6, .val .bool .b), (7, .val S_string .b), (11, .val S_string .b), (12, .fn 123 []), (15, .val .bool .b), (16, .val S_string .b), (17, .fn 123 [])]⟩, ⟨.ret, ⟨[], [4], []⟩, mkSh 39 [(0, .val S_string .b), (2, .val .bool .b), (3, .val S_string .b), (4, .val (.int .i64) .b), (5, .val .bool .b), (6, .val .bool .b), (7, .val S_string .b), (11, .val S_string .b), (12, .fn 123 []), (15, .val .bool .b), (16, .val S_string .b), (17, .fn 123 []), (24, .val (.int .i64) .b)]⟩]
noncomputable def b_I_areLines_137_2 (t0 : PV S_string) (t2 : PV .bool) (t3 : PV S_string) (t4 : PV (.int .i64)) (t5 : PV .bool) (t6 : PV .bool) (t7 : PV S_string) (t11 : PV S_string) (t15 : PV .bool) (t16 : PV S_string) (t20 : PV S_string) (t27 : PV (.int .i64)) (t28 : PV (.int .i64)) : Option ((PV S_string × PV .bool × PV S_string × PV (.int .i64) × PV .bool × PV .bool × PV S_string × PV S_string × PV .bool × PV S_string × PV S_string × PV (.int .i64) × PV (.int .i64) × Unit) ⊕ ((PV S_string × PV .bool × PV S_string × PV (.int .i64) × PV .bool × PV .bool × PV S_string × PV S_string × PV .bool × PV S_string × Unit) ⊕ (PV S_string × PV .bool × PV S_string × PV (.int .i64) × PV .bool × PV .bool × PV S_string × PV S_string × PV .bool × PV S_string × PV (.int .i64) × Unit))) :=
  bif (decide (t28 < t27)) then
    bif inB t28 t20.length then
      (f_I_areLines_1 (t20.getD t28.toNat [])).bind fun r4 =>
        bif r4.1.1 then
          some (.inr (.inr (t0, t2, t3, t4, t5, t6, t7, t11, t15, t16, t28, ())))
        else
          some (.inl (t0, t2, t3, t4, t5, t6, t7, t11, t15, t16, t20, t27, (IntKind.wrap .i64 (t28 + 1)), ()))
    else
      none
  else
    some (.inr (.inl (t0, t2, t3, t4, t5, t6, t7, t11, t15, t16, ())))
noncomputable def w_I_areLines_137_2 : PV S_string × PV .bool × PV S_string × PV (.int .i64) × PV .bool × PV .bool × PV S_string × PV S_string × PV .bool × PV S_string × PV S_string × PV (.int .i64) × PV (.int .i64) × Unit → Option ((PV S_string × PV .bool × PV S_string × PV (.int .i64) × PV .bool × PV .bool × PV S_string × PV S_string × PV .bool × PV S_string × Unit) ⊕ (PV S_string × PV .bool × PV S_string × PV (.int .i64) × PV .bool × PV .bool × PV S_string × PV S_string × PV .bool × PV S_string × PV (.int .i64) × Unit)) := fix fun d => b_I_areLines_137_2 d.1 d.2.1 d.2.2.1 d.2.2.2.1 d.2.2.2.2.1 d.2.2.2.2.2.1 d.2.2.2.2.2.2.1 d.2.2.2.2.2.2.2.1 d.2.2.2.2.2.2.2.2.1 d.2.2.2.2.2.2.2.2.2.1 d.2.2.2.2.2.2.2.2.2.2.1 d.2.2.2.2.2.2.2.2.2.2.2.1 d.2.2.2.2.2.2.2.2.2.2.2.2.1
noncomputable def lp_I_areLines_137_2 : Lp := ⟨⟨[], [0, 1, 7, 8], []⟩, sh_I_areLines_137_2, o_I_areLines_137_2, fun d => b_I_areLines_137_2 d.1 d.2.1 d.2.2.1 d.2.2.2.1 d.2.2.2.2.1 d.2.2.2.2.2.1 d.2.2.2.2.2.2.1 d.2.2.2.2.2.2.2.1 d.2.2.2.2.2.2.2.2.1 d.2.2.2.2.2.2.2.2.2.1 d.2.2.2.2.2.2.2.2.2.2.1 d.2.2.2.2.2.2.2.2.2.2.2.1 d.2.2.2.2.2.2.2.2.2.2.2.2.1⟩
noncomputable def pl_I_areLines_137 : Plan := ⟨[], [(2, lp_I_areLines_137_2)], 0, 20⟩
noncomputable def pl_I_areLines : Plan := ⟨[], [], 2, 0⟩
noncomputable def f_I_areLines (t0 : PV S_string) : Option (PVs [.bool] × PVs []) :=
  bif (decide ((t0.length : Int) ≤ 40)) then
    (w_I_areLines_137_2 (t0, false, t0, (t0.length : Int), (decide ((t0.length : Int) ≤ 40)), true, t0, t0, false, t0, t0, (t0.length : Int), 0, ())).bind fun x9 =>
      match x9 with
      | .inl l7 =>
        bif l7.2.2.2.2.2.1 then
          some (((!(decide ((-1) ≥ 0))), ()), ())
        else
          some ((false, ()), ())
      | .inr l8 =>
        bif l8.2.2.2.2.2.1 then
          some (((!(decide (l8.2.2.2.2.2.2.2.2.2.2.1 ≥ 0))), ()), ())
        else
          some ((false, ()), ())
  else
    some ((false, ()), ())
noncomputable def ct_I_areLines : Ct := ⟨[(.bor, S_string)], [(.bool, .b)], fun x => f_I_areLines x.1⟩
noncomputable def cx_I_areLines : Cx := ⟨tab, arrs, [(123, ct_I_areLines_1)], [(122, Try.f122, pl_I_areLines_122), (137, Try.f137, pl_I_areLines_137)], gl, []⟩
theorem eb_I_areLines_137_2 (t0 : PV S_string) (t2 : PV .bool) (t3 : PV S_string) (t4 : PV (.int .i64)) (t5 : PV .bool) (t6 : PV .bool) (t7 : PV S_string) (t11 : PV S_string) (t15 : PV .bool) (t16 : PV S_string) (t20 : PV S_string) (t27 : PV (.int .i64)) (t28 : PV (.int .i64)) : denK cx_I_areLines (rcN cx_I_areLines 0) pl_I_areLines_137 20 ((loopsOf (bodyOf Try.f137)).getD 0 .skip) (fillS sh_I_areLines_137_2 (t0, t2, t3, t4, t5, t6, t7, t11, t15, t16, t20, t27, t28, ())) (roundK 20 lp_I_areLines_137_2) = b_I_areLines_137_2 t0 t2 t3 t4 t5 t6 t7 t11 t15 t16 t20 t27 t28 := by kernel_rfl
theorem ef_I_areLines (t0 : PV S_string) : denF cx_I_areLines 2 pl_I_areLines Try.f89.ntmps (bodyOf Try.f89) Try.f89.results.toList [(.bor, S_string)] [(.bool, .b)] (t0, ()) = f_I_areLines t0 := by kernel_rfl
theorem ok_I_areLines : FnOk gl Try.prog 89 ct_I_areLines :=
  fnOk (cx := cx_I_areLines) (pl := pl_I_areLines) (dp := 2) (ok0_of tabOk (by unfold ArrOk; kernel_rfl) mix ⟨ok_I_areLines_1, trivial⟩ ⟨⟨Try.func122, by kernel_rfl, (by rw [show loopsOf (bodyOf Try.f122) = [] from by kernel_rfl]; exact trivial)⟩, ⟨Try.func137, by kernel_rfl, (by rw [show loopsOf (bodyOf Try.f137) = [((loopsOf (bodyOf Try.f137)).getD 0 .skip)] from by kernel_rfl]; exact ⟨(by rw [show lookup pl_I_areLines_137.loops (firstId ((loopsOf (bodyOf Try.f137)).getD 0 .skip)) = some lp_I_areLines_137_2 from by kernel_rfl]; exact fun d z h => (eb_I_areLines_137_2 d.1 d.2.1 d.2.2.1 d.2.2.2.1 d.2.2.2.2.1 d.2.2.2.2.2.1 d.2.2.2.2.2.2.1 d.2.2.2.2.2.2.2.1 d.2.2.2.2.2.2.2.2.1 d.2.2.2.2.2.2.2.2.2.1 d.2.2.2.2.2.2.2.2.2.2.1 d.2.2.2.2.2.2.2.2.2.2.2.1 d.2.2.2.2.2.2.2.2.2.2.2.2.1).trans h), trivial⟩)⟩, trivial⟩) Try.func89 (by kernel_rfl) (by kernel_rfl) (by kernel_rfl)
    (by rw [show loopsOf (bodyOf Try.f89) = [] from by kernel_rfl]; exact trivial) (fun x => ef_I_areLines x.1)
noncomputable def pl_internal_stringslite_HasSuffix : Plan := ⟨[], [], 0, 0⟩
noncomputable def f_internal_stringslite_HasSuffix (t0 : PV .str) (t1 : PV .str) : Option (PVs [.bool] × PVs []) :=
  bif (decide ((t0.length : Int) ≥ (t1.length : Int))) then
    bif cutB (IntKind.wrap .i64 ((t0.length : Int) - (t1.length : Int))) (t0.length : Int) t0.length then
      some ((((cutL (IntKind.wrap .i64 ((t0.length : Int) - (t1.length : Int))) (t0.length : Int) t0) == t1), ()), ())
    else
      none
  else
    some ((false, ()), ())
noncomputable def ct_internal_stringslite_HasSuffix : Ct := ⟨[(.bor, .str), (.bor, .str)], [(.bool, .b)], fun x => f_internal_stringslite_HasSuffix x.1 x.2.1⟩
noncomputable def cx_internal_stringslite_HasSuffix : Cx := ⟨tab, arrs, [], [], gl, []⟩
theorem ef_internal_stringslite_HasSuffix (t0 : PV .str) (t1 : PV .str) : denF cx_internal_stringslite_HasSuffix 0 pl_internal_stringslite_HasSuffix Try.f139.ntmps (bodyOf Try.f139) Try.f139.results.toList [(.bor, .str), (.bor, .str)] [(.bool, .b)] (t0, t1, ()) = f_internal_stringslite_HasSuffix t0 t1 := by kernel_rfl
theorem ok_internal_stringslite_HasSuffix : FnOk gl Try.prog 139 ct_internal_stringslite_HasSuffix :=
  fnOk (cx := cx_internal_stringslite_HasSuffix) (pl := pl_internal_stringslite_HasSuffix) (dp := 0) (ok0_of tabOk (by unfold ArrOk; kernel_rfl) mix trivial trivial) Try.func139 (by kernel_rfl) (by kernel_rfl) (by kernel_rfl)
    (by rw [show loopsOf (bodyOf Try.f139) = [] from by kernel_rfl]; exact trivial) (fun x => ef_internal_stringslite_HasSuffix x.1 x.2.1)
noncomputable def pl_strings_HasSuffix : Plan := ⟨[], [], 0, 0⟩
noncomputable def f_strings_HasSuffix (t0 : PV .str) (t1 : PV .str) : Option (PVs [.bool] × PVs []) :=
  (f_internal_stringslite_HasSuffix t0 t1).bind fun r1 =>
    some ((r1.1.1, ()), ())
noncomputable def ct_strings_HasSuffix : Ct := ⟨[(.bor, .str), (.bor, .str)], [(.bool, .b)], fun x => f_strings_HasSuffix x.1 x.2.1⟩
noncomputable def cx_strings_HasSuffix : Cx := ⟨tab, arrs, [(139, ct_internal_stringslite_HasSuffix)], [], gl, []⟩
theorem ef_strings_HasSuffix (t0 : PV .str) (t1 : PV .str) : denF cx_strings_HasSuffix 0 pl_strings_HasSuffix Try.f125.ntmps (bodyOf Try.f125) Try.f125.results.toList [(.bor, .str), (.bor, .str)] [(.bool, .b)] (t0, t1, ()) = f_strings_HasSuffix t0 t1 := by kernel_rfl
theorem ok_strings_HasSuffix : FnOk gl Try.prog 125 ct_strings_HasSuffix :=
  fnOk (cx := cx_strings_HasSuffix) (pl := pl_strings_HasSuffix) (dp := 0) (ok0_of tabOk (by unfold ArrOk; kernel_rfl) mix ⟨ok_internal_stringslite_HasSuffix, trivial⟩ trivial) Try.func125 (by kernel_rfl) (by kernel_rfl) (by kernel_rfl)
    (by rw [show loopsOf (bodyOf Try.f125) = [] from by kernel_rfl]; exact trivial) (fun x => ef_strings_HasSuffix x.1 x.2.1)
noncomputable def pl_I_isEnded : Plan := ⟨[], [], 0, 0⟩
noncomputable def f_I_isEnded (t0 : PV .str) : Option (PVs [.bool] × PVs []) :=
  (f_strings_HasSuffix t0 [10]).bind fun r1 =>
    some ((r1.1.1, ()), ())
noncomputable def ct_I_isEnded : Ct := ⟨[(.bor, .str)], [(.bool, .b)], fun x => f_I_isEnded x.1⟩
noncomputable def cx_I_isEnded : Cx := ⟨tab, arrs, [(125, ct_strings_HasSuffix)], [], gl, []⟩
theorem ef_I_isEnded (t0 : PV .str) : denF cx_I_isEnded 0 pl_I_isEnded Try.f90.ntmps (bodyOf Try.f90) Try.f90.results.toList [(.bor, .str)] [(.bool, .b)] (t0, ()) = f_I_isEnded t0 := by kernel_rfl
theorem ok_I_isEnded : FnOk gl Try.prog 90 ct_I_isEnded :=
  fnOk (cx := cx_I_isEnded) (pl := pl_I_isEnded) (dp := 0) (ok0_of tabOk (by unfold ArrOk; kernel_rfl) mix ⟨ok_strings_HasSuffix, trivial⟩ trivial) Try.func90 (by kernel_rfl) (by kernel_rfl) (by kernel_rfl)
    (by rw [show loopsOf (bodyOf Try.f90) = [] from by kernel_rfl]; exact trivial) (fun x => ef_I_isEnded x.1)
noncomputable def o_I_goodLines_7 : List Out := [⟨.normal, ⟨[], [0, 8, 9, 10, 24], []⟩, mkSh 26 [(0, .val S_string .b), (8, .val S_string .b), (9, .val (.int .i64) .b), (10, .val (.int .i64) .b), (24, .val .bool .b)]⟩]
noncomputable def sh_I_goodLines_4 : List Sh := mkSh 26 [(0, .val S_string .b), (8, .val S_string .b), (9, .val (.int .i64) .b), (10, .val (.int .i64) .b)]
noncomputable def o_I_goodLines_4 : List Out := [⟨.exit 0, ⟨[], [], []⟩, mkSh 26 []⟩, ⟨.ret, ⟨[], [2], []⟩, mkSh 26 [(2, .val .bool .b)]⟩]
noncomputable def b_I_goodLines_4 (t0 : PV S_string) (t8 : PV S_string) (t9 : PV (.int .i64)) (t10 : PV (.int .i64)) : Option ((PV S_string × PV S_string × PV (.int .i64) × PV (.int .i64) × Unit) ⊕ ((Unit) ⊕ (PV .bool × Unit))) :=
  bif (decide (t10 < t9)) then
    bif inB t10 t8.length then
      ((
          bif (decide (t10 < (IntKind.wrap .i64 ((t0.length : Int) - 1)))) then
            (f_I_isEnded (t8.getD t10.toNat [])).bind fun r7 =>
              some (t0, t8, t9, t10, (!r7.1.1), ())
          else
            some (t0, t8, t9, t10, false, ()) : Option ((PV S_string × PV S_string × PV (.int .i64) × PV (.int .i64) × PV .bool × Unit)))).bind fun j8 =>
        bif j8.2.2.2.2.1 then
          some (.inr (.inr (false, ())))
        else
          some (.inl (j8.1, j8.2.1, j8.2.2.1, (IntKind.wrap .i64 (j8.2.2.2.1 + 1)), ()))
    else
      none
  else
    some (.inr (.inl ()))
noncomputable def w_I_goodLines_4 : PV S_string × PV S_string × PV (.int .i64) × PV (.int .i64) × Unit → Option ((Unit) ⊕ (PV .bool × Unit)) := fix fun d => b_I_goodLines_4 d.1 d.2.1 d.2.2.1 d.2.2.2.1
noncomputable def lp_I_goodLines_4 : Lp := ⟨⟨[], [0, 8, 9, 10, 21, 22, 23], []⟩, sh_I_goodLines_4, o_I_goodLines_4, fun d => b_I_goodLines_4 d.1 d.2.1 d.2.2.1 d.2.2.2.1⟩
noncomputable def pl_I_goodLines : Plan := ⟨[(7, o_I_goodLines_7)], [(4, lp_I_goodLines_4)], 0, 0⟩
noncomputable def f_I_goodLines (t0 : PV S_string) : Option (PVs [.bool] × PVs []) :=
  (f_I_areLines t0).bind fun r4 =>
    bif (!r4.1.1) then
      some ((false, ()), ())
    else
      (w_I_goodLines_4 (t0, t0, (t0.length : Int), 0, ())).bind fun x13 =>
        match x13 with
        | .inl l11 =>
          some ((true, ()), ())
        | .inr l12 =>
          some ((l12.1, ()), ())
noncomputable def ct_I_goodLines : Ct := ⟨[(.bor, S_string)], [(.bool, .b)], fun x => f_I_goodLines x.1⟩
noncomputable def cx_I_goodLines : Cx := ⟨tab, arrs, [(89, ct_I_areLines), (90, ct_I_isEnded)], [], gl, []⟩
theorem eb_I_goodLines_4 (t0 : PV S_string) (t8 : PV S_string) (t9 : PV (.int .i64)) (t10 : PV (.int .i64)) : denK cx_I_goodLines (rcN cx_I_goodLines 0) pl_I_goodLines 0 ((loopsOf (bodyOf Try.f40)).getD 0 .skip) (fillS sh_I_goodLines_4 (t0, t8, t9, t10, ())) (roundK 0 lp_I_goodLines_4) = b_I_goodLines_4 t0 t8 t9 t10 := by kernel_rfl
theorem ef_I_goodLines (t0 : PV S_string) : denF cx_I_goodLines 0 pl_I_goodLines Try.f40.ntmps (bodyOf Try.f40) Try.f40.results.toList [(.bor, S_string)] [(.bool, .b)] (t0, ()) = f_I_goodLines t0 := by kernel_rfl
theorem ok_I_goodLines : FnOk gl Try.prog 40 ct_I_goodLines :=
  fnOk (cx := cx_I_goodLines) (pl := pl_I_goodLines) (dp := 0) (ok0_of tabOk (by unfold ArrOk; kernel_rfl) mix ⟨ok_I_areLines, ok_I_isEnded, trivial⟩ trivial) Try.func40 (by kernel_rfl) (by kernel_rfl) (by kernel_rfl)
    (by rw [show loopsOf (bodyOf Try.f40) = [((loopsOf (bodyOf Try.f40)).getD 0 .skip)] from by kernel_rfl]; exact ⟨(by rw [show lookup pl_I_goodLines.loops (firstId ((loopsOf (bodyOf Try.f40)).getD 0 .skip)) = some lp_I_goodLines_4 from by kernel_rfl]; exact fun d z h => (eb_I_goodLines_4 d.1 d.2.1 d.2.2.1 d.2.2.2.1).trans h), trivial⟩) (fun x => ef_I_goodLines x.1)
noncomputable def pl_I_areVersions_1 : Plan := ⟨[], [], 0, 0⟩
noncomputable def f_I_areVersions_1 (t0 : PV S_string) : Option (PVs [.bool] × PVs []) :=
  (f_I_goodLines t0).bind fun r1 =>
    some (((!r1.1.1), ()), ())
noncomputable def ct_I_areVersions_1 : Ct := ⟨[(.bor, S_string)], [(.bool, .b)], fun x => f_I_areVersions_1 x.1⟩
noncomputable def cx_I_areVersions_1 : Cx := ⟨tab, arrs, [(40, ct_I_goodLines)], [], gl, []⟩
theorem ef_I_areVersions_1 (t0 : PV S_string) : denF cx_I_areVersions_1 0 pl_I_areVersions_1 Try.f95.ntmps (bodyOf Try.f95) Try.f95.results.toList [(.bor, S_string)] [(.bool, .b)] (t0, ()) = f_I_areVersions_1 t0 := by kernel_rfl
theorem ok_I_areVersions_1 : FnOk gl Try.prog 95 ct_I_areVersions_1 :=
  fnOk (cx := cx_I_areVersions_1) (pl := pl_I_areVersions_1) (dp := 0) (ok0_of tabOk (by unfold ArrOk; kernel_rfl) mix ⟨ok_I_goodLines, trivial⟩ trivial) Try.func95 (by kernel_rfl) (by kernel_rfl) (by kernel_rfl)
    (by rw [show loopsOf (bodyOf Try.f95) = [] from by kernel_rfl]; exact trivial) (fun x => ef_I_areVersions_1 x.1)
noncomputable def pl_I_areVersions_94 : Plan := ⟨[], [], 1, 11⟩
noncomputable def sh_I_areVersions_126_2 : List Sh := mkSh 39 [(0, .val S_S_string .b), (2, .val .bool .b), (3, .val S_S_string .b), (4, .val (.int .i64) .b), (5, .val .bool .b), (6, .val .bool .b), (7, .val S_S_string .b), (11, .val S_S_string .b), (12, .fn 95 []), (15, .val .bool .b), (16, .val S_S_string .b), (17, .fn 95 []), (20, .val S_S_string .b), (21, .fn 95 []), (27, .val (.int .i64) .b), (28, .val (.int .i64) .b)]
noncomputable def o_I_areVersions_126_2 : List Out := [⟨.exit 0, ⟨[], [], []⟩, mkSh 39 [(0, .val S_S_string .b), (2, .val .bool .b), (3, .val S_S_string .b), (4, .val (.int .i64) .b), (5, .val .bool .b), (6, .val .bool .b), (7, .val S_S_string .b), (11, .val S_S_string .b), (12, .fn 95 []), (15, .val .bool .b), (16, .val S_S_string .b), (17, .fn 95 [])]⟩, ⟨.ret, ⟨[], [4], []⟩, mkSh 39 [(0, .val S_S_string .b), (2, .val .bool .b), (3, .val S_S_string .b), (4, .val (.int .i64) .b), (5, .val .bool .b), (6, .val .bool .b), (7, .val S_S_string .b), (11, .val S_S_string .b), (12, .fn 95 []), (15, .val .bool .b), (16, .val S_S_string .b), (17, .fn 95 []), (24, .val (.int .i64) .b)]⟩]
noncomputable def b_I_areVersions_126_2 (t0 : PV S_S_string) (t2 : PV .bool) (t3 : PV S_S_string) (t4 : PV (.int .i64)) (t5 : PV .bool) (t6 : PV .bool) (t7 : PV S_S_string) (t11 : PV S_S_string) (t15 : PV .bool) (t16 : PV S_S_string) (t20 : PV S_S_string) (t27 : PV (.int .i64)) (t28 : PV (.int .i64)) : Option ((PV S_S_string × PV .bool × PV S_S_string × PV (.int .i64) × PV .bool × PV .bool × PV S_S_string × PV S_S_string × PV .bool × PV S_S_string × PV S_S_string × PV (.int .i64) × PV (.int .i64) × Unit) ⊕ ((PV S_S_string × PV .bool × PV S_S_string × PV (.int .i64) × PV .bool × PV .bool × PV S_S_string × PV S_S_string × PV .bool × PV S_S_string × Unit) ⊕ (PV S_S_string × PV .bool × PV S_S_string × PV (.int .i64) × PV .bool × PV .bool × PV S_S_string × PV S_S_string × PV .bool × PV S_S_string × PV (.int .i64) × Unit))) :=
  bif (decide (t28 < t27)) then
    bif inB t28 t20.length then
      (f_I_areVersions_1 (t20.getD t28.toNat [])).bind fun r5 =>
        bif r5.1.1 then
          some (.inr (.inr (t0, t2, t3, t4, t5, t6, t7, t11, t15, t16, t28, ())))
        else
          some (.inl (t0, t2, t3, t4, t5, t6, t7, t11, t15, t16, t20, t27, (IntKind.wrap .i64 (t28 + 1)), ()))
    else
      none
  else
    some (.inr (.inl (t0, t2, t3, t4, t5, t6, t7, t11, t15, t16, ())))
noncomputable def w_I_areVersions_126_2 : PV S_S_string × PV .bool × PV S_S_string × PV (.int .i64) × PV .bool × PV .bool × PV S_S_string × PV S_S_string × PV .bool × PV S_S_string × PV S_S_string × PV (.int .i64) × PV (.int .i64) × Unit → Option ((PV S_S_string × PV .bool × PV S_S_string × PV (.int .i64) × PV .bool × PV .bool × PV S_S_string × PV S_S_string × PV .bool × PV S_S_string × Unit) ⊕ (PV S_S_string × PV .bool × PV S_S_string × PV (.int .i64) × PV .bool × PV .bool × PV S_S_string × PV S_S_string × PV .bool × PV S_S_string × PV (.int .i64) × Unit)) := fix fun d => b_I_areVersions_126_2 d.1 d.2.1 d.2.2.1 d.2.2.2.1 d.2.2.2.2.1 d.2.2.2.2.2.1 d.2.2.2.2.2.2.1 d.2.2.2.2.2.2.2.1 d.2.2.2.2.2.2.2.2.1 d.2.2.2.2.2.2.2.2.2.1 d.2.2.2.2.2.2.2.2.2.2.1 d.2.2.2.2.2.2.2.2.2.2.2.1 d.2.2.2.2.2.2.2.2.2.2.2.2.1
noncomputable def lp_I_areVersions_126_2 : Lp := ⟨⟨[], [0, 1, 7, 8], []⟩, sh_I_areVersions_126_2, o_I_areVersions_126_2, fun d => b_I_areVersions_126_2 d.1 d.2.1 d.2.2.1 d.2.2.2.1 d.2.2.2.2.1 d.2.2.2.2.2.1 d.2.2.2.2.2.2.1 d.2.2.2.2.2.2.2.1 d.2.2.2.2.2.2.2.2.1 d.2.2.2.2.2.2.2.2.2.1 d.2.2.2.2.2.2.2.2.2.2.1 d.2.2.2.2.2.2.2.2.2.2.2.1 d.2.2.2.2.2.2.2.2.2.2.2.2.1⟩
noncomputable def pl_I_areVersions_126 : Plan := ⟨[], [(2, lp_I_areVersions_126_2)], 0, 20⟩
noncomputable def pl_I_areVersions : Plan := ⟨[], [], 2, 0⟩
noncomputable def f_I_areVersions (t0 : PV S_S_string) : Option (PVs [.bool] × PVs []) :=
  (f_I_in (t0.length : Int) 1 8).bind fun r1 =>
    bif r1.1.1 then
      (w_I_areVersions_126_2 (t0, false, t0, (t0.length : Int), r1.1.1, true, t0, t0, false, t0, t0, (t0.length : Int), 0, ())).bind fun x10 =>
        match x10 with
        | .inl l8 =>
          bif l8.2.2.2.2.2.1 then
            some (((!(decide ((-1) ≥ 0))), ()), ())
          else
            some ((false, ()), ())
        | .inr l9 =>
          bif l9.2.2.2.2.2.1 then
            some (((!(decide (l9.2.2.2.2.2.2.2.2.2.2.1 ≥ 0))), ()), ())
          else
            some ((false, ()), ())
    else
      some ((false, ()), ())
noncomputable def ct_I_areVersions : Ct := ⟨[(.bor, S_S_string)], [(.bool, .b)], fun x => f_I_areVersions x.1⟩
noncomputable def cx_I_areVersions : Cx := ⟨tab, arrs, [(56, ct_I_in), (95, ct_I_areVersions_1)], [(94, Try.f94, pl_I_areVersions_94), (126, Try.f126, pl_I_areVersions_126)], gl, []⟩
theorem eb_I_areVersions_126_2 (t0 : PV S_S_string) (t2 : PV .bool) (t3 : PV S_S_string) (t4 : PV (.int .i64)) (t5 : PV .bool) (t6 : PV .bool) (t7 : PV S_S_string) (t11 : PV S_S_string) (t15 : PV .bool) (t16 : PV S_S_string) (t20 : PV S_S_string) (t27 : PV (.int .i64)) (t28 : PV (.int .i64)) : denK cx_I_areVersions (rcN cx_I_areVersions 0) pl_I_areVersions_126 20 ((loopsOf (bodyOf Try.f126)).getD 0 .skip) (fillS sh_I_areVersions_126_2 (t0, t2, t3, t4, t5, t6, t7, t11, t15, t16, t20, t27, t28, ())) (roundK 20 lp_I_areVersions_126_2) = b_I_areVersions_126_2 t0 t2 t3 t4 t5 t6 t7 t11 t15 t16 t20 t27 t28 := by kernel_rfl
theorem ef_I_areVersions (t0 : PV S_S_string) : denF cx_I_areVersions 2 pl_I_areVersions Try.f49.ntmps (bodyOf Try.f49) Try.f49.results.toList [(.bor, S_S_string)] [(.bool, .b)] (t0, ()) = f_I_areVersions t0 := by kernel_rfl
theorem ok_I_areVersions : FnOk gl Try.prog 49 ct_I_areVersions :=
  fnOk (cx := cx_I_areVersions) (pl := pl_I_areVersions) (dp := 2) (ok0_of tabOk (by unfold ArrOk; kernel_rfl) mix ⟨ok_I_in, ok_I_areVersions_1, trivial⟩ ⟨⟨Try.func94, by kernel_rfl, (by rw [show loopsOf (bodyOf Try.f94) = [] from by kernel_rfl]; exact trivial)⟩, ⟨Try.func126, by kernel_rfl, (by rw [show loopsOf (bodyOf Try.f126) = [((loopsOf (bodyOf Try.f126)).getD 0 .skip)] from by kernel_rfl]; exact ⟨(by rw [show lookup pl_I_areVersions_126.loops (firstId ((loopsOf (bodyOf Try.f126)).getD 0 .skip)) = some lp_I_areVersions_126_2 from by kernel_rfl]; exact fun d z h => (eb_I_areVersions_126_2 d.1 d.2.1 d.2.2.1 d.2.2.2.1 d.2.2.2.2.1 d.2.2.2.2.2.1 d.2.2.2.2.2.2.1 d.2.2.2.2.2.2.2.1 d.2.2.2.2.2.2.2.2.1 d.2.2.2.2.2.2.2.2.2.1 d.2.2.2.2.2.2.2.2.2.2.1 d.2.2.2.2.2.2.2.2.2.2.2.1 d.2.2.2.2.2.2.2.2.2.2.2.2.1).trans h), trivial⟩)⟩, trivial⟩) Try.func49 (by kernel_rfl) (by kernel_rfl) (by kernel_rfl)
    (by rw [show loopsOf (bodyOf Try.f49) = [] from by kernel_rfl]; exact trivial) (fun x => ef_I_areVersions x.1)
noncomputable def o_I_common_9 : List Out := [⟨.normal, ⟨[], [0, 1, 5, 6, 7], []⟩, mkSh 90 [(0, .val S_string .b), (1, .val S_string .b), (5, .val S_S_int (.row (.row .b))), (6, .val (.int .i64) .b), (7, .val (.int .i64) .b)]⟩]
noncomputable def sh_I_common_8 : List Sh := mkSh 90 [(0, .val S_string .b), (1, .val S_string .b), (5, .val S_S_int (.row (.row .b))), (6, .val (.int .i64) .b), (7, .val (.int .i64) .b)]
noncomputable def o_I_common_8 : List Out := [⟨.exit 2, ⟨[], [0, 1, 5, 6], []⟩, mkSh 90 [(0, .val S_string .b), (1, .val S_string .b), (5, .val S_S_int (.row (.row .b))), (6, .val (.int .i64) .b)]⟩]
noncomputable def b_I_common_8 (t0 : PV S_string) (t1 : PV S_string) (t5 : PV S_S_int) (t6 : PV (.int .i64)) (t7 : PV (.int .i64)) : Option ((PV S_string × PV S_string × PV S_S_int × PV (.int .i64) × PV (.int .i64) × Unit) ⊕ ((PV S_string × PV S_string × PV S_S_int × PV (.int .i64) × Unit))) :=
  bif (decide (t7 ≥ 0)) then
    ((
        bif inB t6 t0.length then
          bif inB t7 t1.length then
            bif ((t0.getD t6.toNat []) == (t1.getD t7.toNat [])) then
              bif inB t6 t5.length then
                bif inB (IntKind.wrap .i64 (t6 + 1)) t5.length then
                  bif inB (IntKind.wrap .i64 (t7 + 1)) (t5.getD ((IntKind.wrap .i64 (t6 + 1)).toNat) []).length then
                    bif inB t7 (t5.getD t6.toNat []).length then
                      some (t0, t1, (t5.set t6.toNat ((t5.getD t6.toNat []).set t7.toNat (IntKind.wrap .i64 (((t5.getD ((IntKind.wrap .i64 (t6 + 1)).toNat) []).getD ((IntKind.wrap .i64 (t7 + 1)).toNat) (0 : Int)) + 1)))), t6, t7, ())
                    else
                      none
                  else
                    none
                else
                  none
              else
                none
            else
              bif inB t6 t5.length then
                bif inB (IntKind.wrap .i64 (t6 + 1)) t5.length then
                  bif inB t7 (t5.getD ((IntKind.wrap .i64 (t6 + 1)).toNat) []).length then
                    bif inB t6 t5.length then
                      bif inB (IntKind.wrap .i64 (t7 + 1)) (t5.getD t6.toNat []).length then
                        bif inB t7 (t5.getD t6.toNat []).length then
                          some (t0, t1, (t5.set t6.toNat ((t5.getD t6.toNat []).set t7.toNat (bif decide (((t5.getD t6.toNat []).getD ((IntKind.wrap .i64 (t7 + 1)).toNat) (0 : Int)) > ((t5.getD ((IntKind.wrap .i64 (t6 + 1)).toNat) []).getD t7.toNat (0 : Int))) then ((t5.getD t6.toNat []).getD ((IntKind.wrap .i64 (t7 + 1)).toNat) (0 : Int)) else ((t5.getD ((IntKind.wrap .i64 (t6 + 1)).toNat) []).getD t7.toNat (0 : Int))))), t6, t7, ())
                        else
                          none
                      else
                        none
                    else
                      none
                  else
                    none
                else
                  none
              else
                none
          else
            none
        else
          none : Option ((PV S_string × PV S_string × PV S_S_int × PV (.int .i64) × PV (.int .i64) × Unit)))).bind fun j1 =>
      some (.inl (j1.1, j1.2.1, j1.2.2.1, j1.2.2.2.1, (IntKind.wrap .i64 (j1.2.2.2.2.1 - 1)), ()))
  else
    some (.inr (t0, t1, t5, t6, ()))
noncomputable def w_I_common_8 : PV S_string × PV S_string × PV S_S_int × PV (.int .i64) × PV (.int .i64) × Unit → Option ((PV S_string × PV S_string × PV S_S_int × PV (.int .i64) × Unit)) := fix fun d => b_I_common_8 d.1 d.2.1 d.2.2.1 d.2.2.2.1 d.2.2.2.2.1
noncomputable def lp_I_common_8 : Lp := ⟨⟨[], [0, 1, 5, 6, 7], []⟩, sh_I_common_8, o_I_common_8, fun d => b_I_common_8 d.1 d.2.1 d.2.2.1 d.2.2.2.1 d.2.2.2.2.1⟩
noncomputable def sh_I_common_4 : List Sh := mkSh 90 [(0, .val S_string .b), (1, .val S_string .b), (5, .val S_S_int (.row (.row .b))), (6, .val (.int .i64) .b)]
noncomputable def o_I_common_4 : List Out := [⟨.exit 0, ⟨[], [5], []⟩, mkSh 90 [(5, .val S_S_int (.row (.row .b)))]⟩]
noncomputable def b_I_common_4 (t0 : PV S_string) (t1 : PV S_string) (t5 : PV S_S_int) (t6 : PV (.int .i64)) : Option ((PV S_string × PV S_string × PV S_S_int × PV (.int .i64) × Unit) ⊕ ((PV S_S_int × Unit))) :=
  bif (decide (t6 ≥ 0)) then
    bif decide (0 ≤ (IntKind.wrap .i64 ((t1.length : Int) + 1))) && (decide ((IntKind.wrap .i64 ((t1.length : Int) + 1)) ≤ (IntKind.wrap .i64 ((t1.length : Int) + 1))) && roomB (IntKind.wrap .i64 ((t1.length : Int) + 1)).toNat) then
      bif inB t6 t5.length then
        (w_I_common_8 (t0, t1, (t5.set t6.toNat (List.replicate (IntKind.wrap .i64 ((t1.length : Int) + 1)).toNat (0 : Int))), t6, (IntKind.wrap .i64 ((t1.length : Int) - 1)), ())).bind fun l2 =>
          some (.inl (l2.1, l2.2.1, l2.2.2.1, (IntKind.wrap .i64 (l2.2.2.2.1 - 1)), ()))
      else
        none
    else
      none
  else
    some (.inr (t5, ()))
noncomputable def w_I_common_4 : PV S_string × PV S_string × PV S_S_int × PV (.int .i64) × Unit → Option ((PV S_S_int × Unit)) := fix fun d => b_I_common_4 d.1 d.2.1 d.2.2.1 d.2.2.2.1
noncomputable def lp_I_common_4 : Lp := ⟨⟨[], [0, 1, 5, 6], []⟩, sh_I_common_4, o_I_common_4, fun d => b_I_common_4 d.1 d.2.1 d.2.2.1 d.2.2.2.1⟩
noncomputable def pl_I_common : Plan := ⟨[(9, o_I_common_9)], [(8, lp_I_common_8), (4, lp_I_common_4)], 0, 0⟩
noncomputable def f_I_common (t0 : PV S_string) (t1 : PV S_string) : Option (PVs [S_S_int] × PVs []) :=
  bif decide (0 ≤ (IntKind.wrap .i64 ((t0.length : Int) + 1))) && (decide ((IntKind.wrap .i64 ((t0.length : Int) + 1)) ≤ (IntKind.wrap .i64 ((t0.length : Int) + 1))) && roomB (IntKind.wrap .i64 ((t0.length : Int) + 1)).toNat) then
    bif decide (0 ≤ (IntKind.wrap .i64 ((t1.length : Int) + 1))) && (decide ((IntKind.wrap .i64 ((t1.length : Int) + 1)) ≤ (IntKind.wrap .i64 ((t1.length : Int) + 1))) && roomB (IntKind.wrap .i64 ((t1.length : Int) + 1)).toNat) then
      bif inB (t0.length : Int) (List.replicate (IntKind.wrap .i64 ((t0.length : Int) + 1)).toNat ([] : PV S_int)).length then
        (w_I_common_4 (t0, t1, ((List.replicate (IntKind.wrap .i64 ((t0.length : Int) + 1)).toNat ([] : PV S_int)).set ((t0.length : Int).toNat) (List.replicate (IntKind.wrap .i64 ((t1.length : Int) + 1)).toNat (0 : Int))), (IntKind.wrap .i64 ((t0.length : Int) - 1)), ())).bind fun l4 =>
          some ((l4.1, ()), ())
      else
        none
    else
      none
  else
    none
noncomputable def ct_I_common : Ct := ⟨[(.bor, S_string), (.bor, S_string)], [(S_S_int, (.row (.row .b)))], fun x => f_I_common x.1 x.2.1⟩
noncomputable def cx_I_common : Cx := ⟨tab, arrs, [], [], gl, []⟩
theorem eb_I_common_4 (t0 : PV S_string) (t1 : PV S_string) (t5 : PV S_S_int) (t6 : PV (.int .i64)) : denK cx_I_common (rcN cx_I_common 0) pl_I_common 0 ((loopsOf (bodyOf Try.f50)).getD 0 .skip) (fillS sh_I_common_4 (t0, t1, t5, t6, ())) (roundK 0 lp_I_common_4) = b_I_common_4 t0 t1 t5 t6 := by kernel_rfl
theorem eb_I_common_8 (t0 : PV S_string) (t1 : PV S_string) (t5 : PV S_S_int) (t6 : PV (.int .i64)) (t7 : PV (.int .i64)) : denK cx_I_common (rcN cx_I_common 0) pl_I_common 0 ((loopsOf (bodyOf Try.f50)).getD 1 .skip) (fillS sh_I_common_8 (t0, t1, t5, t6, t7, ())) (roundK 0 lp_I_common_8) = b_I_common_8 t0 t1 t5 t6 t7 := by kernel_rfl
theorem ef_I_common (t0 : PV S_string) (t1 : PV S_string) : denF cx_I_common 0 pl_I_common Try.f50.ntmps (bodyOf Try.f50) Try.f50.results.toList [(.bor, S_string), (.bor, S_string)] [(S_S_int, (.row (.row .b)))] (t0, t1, ()) = f_I_common t0 t1 := by kernel_rfl
theorem ok_I_common : FnOk gl Try.prog 50 ct_I_common :=
  fnOk (cx := cx_I_common) (pl := pl_I_common) (dp := 0) (ok0_of tabOk (by unfold ArrOk; kernel_rfl) mix trivial trivial) Try.func50 (by kernel_rfl) (by kernel_rfl) (by kernel_rfl)
    (by rw [show loopsOf (bodyOf Try.f50) = [((loopsOf (bodyOf Try.f50)).getD 0 .skip), ((loopsOf (bodyOf Try.f50)).getD 1 .skip)] from by kernel_rfl]; exact ⟨(by rw [show lookup pl_I_common.loops (firstId ((loopsOf (bodyOf Try.f50)).getD 0 .skip)) = some lp_I_common_4 from by kernel_rfl]; exact fun d z h => (eb_I_common_4 d.1 d.2.1 d.2.2.1 d.2.2.2.1).trans h), (by rw [show lookup pl_I_common.loops (firstId ((loopsOf (bodyOf Try.f50)).getD 1 .skip)) = some lp_I_common_8 from by kernel_rfl]; exact fun d z h => (eb_I_common_8 d.1 d.2.1 d.2.2.1 d.2.2.2.1 d.2.2.2.2.1).trans h), trivial⟩) (fun x => ef_I_common x.1 x.2.1)
noncomputable def sh_I_ChurnOf_5 : List Sh := mkSh 51 [(0, .val S_S_string .b), (4, .val S_S_int (.row (.row .b))), (5, .val (.int .i64) .b)]
noncomputable def o_I_ChurnOf_5 : List Out := [⟨.exit 0, ⟨[], [4], []⟩, mkSh 51 [(4, .val S_S_int (.row (.row .b)))]⟩]
noncomputable def b_I_ChurnOf_5 (t0 : PV S_S_string) (t4 : PV S_S_int) (t5 : PV (.int .i64)) : Option ((PV S_S_string × PV S_S_int × PV (.int .i64) × Unit) ⊕ ((PV S_S_int × Unit))) :=
  bif (decide (t5 < (t0.length : Int))) then
    bif inB (IntKind.wrap .i64 (t5 - 1)) t0.length then
      bif inB t5 t0.length then
        (f_I_common (t0.getD ((IntKind.wrap .i64 (t5 - 1)).toNat) []) (t0.getD t5.toNat [])).bind fun r8 =>
          bif inB 0 r8.1.1.length then
            bif inB 0 (r8.1.1.getD ((0 : Int).toNat) []).length then
              bif inB (IntKind.wrap .i64 (t5 - 1)) t0.length then
                bif inB t5 t0.length then
                  bif roomB (t4.length + [[(IntKind.wrap .i64 (((t0.getD ((IntKind.wrap .i64 (t5 - 1)).toNat) []).length : Int) - ((r8.1.1.getD ((0 : Int).toNat) []).getD ((0 : Int).toNat) (0 : Int)))), (IntKind.wrap .i64 (((t0.getD t5.toNat []).length : Int) - ((r8.1.1.getD ((0 : Int).toNat) []).getD ((0 : Int).toNat) (0 : Int))))]].length) then
                    some (.inl (t0, (t4 ++ [[(IntKind.wrap .i64 (((t0.getD ((IntKind.wrap .i64 (t5 - 1)).toNat) []).length : Int) - ((r8.1.1.getD ((0 : Int).toNat) []).getD ((0 : Int).toNat) (0 : Int)))), (IntKind.wrap .i64 (((t0.getD t5.toNat []).length : Int) - ((r8.1.1.getD ((0 : Int).toNat) []).getD ((0 : Int).toNat) (0 : Int))))]]), (IntKind.wrap .i64 (t5 + 1)), ()))
                  else
                    none
                else
                  none
              else
                none
            else
              none
          else
            none
      else
        none
    else
      none
  else
    some (.inr (t4, ()))
noncomputable def w_I_ChurnOf_5 : PV S_S_string × PV S_S_int × PV (.int .i64) × Unit → Option ((PV S_S_int × Unit)) := fix fun d => b_I_ChurnOf_5 d.1 d.2.1 d.2.2.1
noncomputable def lp_I_ChurnOf_5 : Lp := ⟨⟨[], [0, 4, 5], []⟩, sh_I_ChurnOf_5, o_I_ChurnOf_5, fun d => b_I_ChurnOf_5 d.1 d.2.1 d.2.2.1⟩
noncomputable def pl_I_ChurnOf : Plan := ⟨[], [(5, lp_I_ChurnOf_5)], 0, 0⟩
noncomputable def f_I_ChurnOf (t0 : PV S_S_string) : Option (PVs [S_S_int, .bool] × PVs []) :=
  (f_I_areVersions t0).bind fun r4 =>
    bif (!r4.1.1) then
      some (([], false, ()), ())
    else
      (w_I_ChurnOf_5 (t0, ([] : PV S_S_int), 1, ())).bind fun l10 =>
        some ((l10.1, true, ()), ())
noncomputable def ct_I_ChurnOf : Ct := ⟨[(.bor, S_S_string)], [(S_S_int, .b), (.bool, .b)], fun x => f_I_ChurnOf x.1⟩
noncomputable def cx_I_ChurnOf : Cx := ⟨tab, arrs, [(49, ct_I_areVersions), (50, ct_I_common)], [], gl, []⟩
theorem eb_I_ChurnOf_5 (t0 : PV S_S_string) (t4 : PV S_S_int) (t5 : PV (.int .i64)) : denK cx_I_ChurnOf (rcN cx_I_ChurnOf 0) pl_I_ChurnOf 0 ((loopsOf (bodyOf Try.f14)).getD 0 .skip) (fillS sh_I_ChurnOf_5 (t0, t4, t5, ())) (roundK 0 lp_I_ChurnOf_5) = b_I_ChurnOf_5 t0 t4 t5 := by kernel_rfl
theorem ef_I_ChurnOf (t0 : PV S_S_string) : denF cx_I_ChurnOf 0 pl_I_ChurnOf Try.f14.ntmps (bodyOf Try.f14) Try.f14.results.toList [(.bor, S_S_string)] [(S_S_int, .b), (.bool, .b)] (t0, ()) = f_I_ChurnOf t0 := by kernel_rfl
theorem ok_I_ChurnOf : FnOk gl Try.prog 14 ct_I_ChurnOf :=
  fnOk (cx := cx_I_ChurnOf) (pl := pl_I_ChurnOf) (dp := 0) (ok0_of tabOk (by unfold ArrOk; kernel_rfl) mix ⟨ok_I_areVersions, ok_I_common, trivial⟩ trivial) Try.func14 (by kernel_rfl) (by kernel_rfl) (by kernel_rfl)
    (by rw [show loopsOf (bodyOf Try.f14) = [((loopsOf (bodyOf Try.f14)).getD 0 .skip)] from by kernel_rfl]; exact ⟨(by rw [show lookup pl_I_ChurnOf.loops (firstId ((loopsOf (bodyOf Try.f14)).getD 0 .skip)) = some lp_I_ChurnOf_5 from by kernel_rfl]; exact fun d z h => (eb_I_ChurnOf_5 d.1 d.2.1 d.2.2.1).trans h), trivial⟩) (fun x => ef_I_ChurnOf x.1)
noncomputable def pl_S_l1In : Plan := ⟨[], [], 0, 0⟩
noncomputable def f_S_l1In (t0 : PV (.int .i64)) (t1 : PV (.int .i64)) (t2 : PV (.int .i64)) : Option (PVs [.bool] × PVs []) :=
  bif (decide (t0 ≥ t1)) then
    some (((decide (t0 ≤ t2)), ()), ())
  else
    some ((false, ()), ())
noncomputable def ct_S_l1In : Ct := ⟨[(.bor, (.int .i64)), (.bor, (.int .i64)), (.bor, (.int .i64))], [(.bool, .b)], fun x => f_S_l1In x.1 x.2.1 x.2.2.1⟩
noncomputable def cx_S_l1In : Cx := ⟨tab, arrs, [], [], gl, []⟩
theorem ef_S_l1In (t0 : PV (.int .i64)) (t1 : PV (.int .i64)) (t2 : PV (.int .i64)) : denF cx_S_l1In 0 pl_S_l1In Try.f58.ntmps (bodyOf Try.f58) Try.f58.results.toList [(.bor, (.int .i64)), (.bor, (.int .i64)), (.bor, (.int .i64))] [(.bool, .b)] (t0, t1, t2, ()) = f_S_l1In t0 t1 t2 := by kernel_rfl
theorem ok_S_l1In : FnOk gl Try.prog 58 ct_S_l1In :=
  fnOk (cx := cx_S_l1In) (pl := pl_S_l1In) (dp := 0) (ok0_of tabOk (by unfold ArrOk; kernel_rfl) mix trivial trivial) Try.func58 (by kernel_rfl) (by kernel_rfl) (by kernel_rfl)
    (by rw [show loopsOf (bodyOf Try.f58) = [] from by kernel_rfl]; exact trivial) (fun x => ef_S_l1In x.1 x.2.1 x.2.2.1)
noncomputable def sh_S_l1Line_2 : List Sh := mkSh 18 [(0, .val .str .b), (3, .val (.int .i64) .b)]
noncomputable def o_S_l1Line_2 : List Out := [⟨.exit 0, ⟨[], [0], []⟩, mkSh 18 [(0, .val .str .b)]⟩, ⟨.ret, ⟨[], [2], []⟩, mkSh 18 [(2, .val .bool .b)]⟩]
noncomputable def b_S_l1Line_2 (t0 : PV .str) (t3 : PV (.int .i64)) : Option ((PV .str × PV (.int .i64) × Unit) ⊕ ((PV .str × Unit) ⊕ (PV .bool × Unit))) :=
  bif (decide (t3 < (IntKind.wrap .i64 ((t0.length : Int) - 1)))) then
    bif inB t3 t0.length then
      bif (((t0.getD t3.toNat 0).toNat : Int) == 10) then
        some (.inr (.inr (false, ())))
      else
        some (.inl (t0, (IntKind.wrap .i64 (t3 + 1)), ()))
    else
      none
  else
    some (.inr (.inl (t0, ())))
noncomputable def w_S_l1Line_2 : PV .str × PV (.int .i64) × Unit → Option ((PV .str × Unit) ⊕ (PV .bool × Unit)) := fix fun d => b_S_l1Line_2 d.1 d.2.1
noncomputable def lp_S_l1Line_2 : Lp := ⟨⟨[], [0, 3], []⟩, sh_S_l1Line_2, o_S_l1Line_2, fun d => b_S_l1Line_2 d.1 d.2.1⟩
noncomputable def pl_S_l1Line : Plan := ⟨[], [(2, lp_S_l1Line_2)], 0, 0⟩
noncomputable def f_S_l1Line (t0 : PV .str) : Option (PVs [.bool] × PVs []) :=
  (w_S_l1Line_2 (t0, 0, ())).bind fun x6 =>
    match x6 with
    | .inl l3 =>
      (f_S_l1In (l3.1.length : Int) 1 30).bind fun r4 =>
        some ((r4.1.1, ()), ())
    | .inr l5 =>
      some ((l5.1, ()), ())
noncomputable def ct_S_l1Line : Ct := ⟨[(.bor, .str)], [(.bool, .b)], fun x => f_S_l1Line x.1⟩
noncomputable def cx_S_l1Line : Cx := ⟨tab, arrs, [(58, ct_S_l1In)], [], gl, []⟩
theorem eb_S_l1Line_2 (t0 : PV .str) (t3 : PV (.int .i64)) : denK cx_S_l1Line (rcN cx_S_l1Line 0) pl_S_l1Line 0 ((loopsOf (bodyOf Try.f120)).getD 0 .skip) (fillS sh_S_l1Line_2 (t0, t3, ())) (roundK 0 lp_S_l1Line_2) = b_S_l1Line_2 t0 t3 := by kernel_rfl
theorem ef_S_l1Line (t0 : PV .str) : denF cx_S_l1Line 0 pl_S_l1Line Try.f120.ntmps (bodyOf Try.f120) Try.f120.results.toList [(.bor, .str)] [(.bool, .b)] (t0, ()) = f_S_l1Line t0 := by kernel_rfl
theorem ok_S_l1Line : FnOk gl Try.prog 120 ct_S_l1Line :=
  fnOk (cx := cx_S_l1Line) (pl := pl_S_l1Line) (dp := 0) (ok0_of tabOk (by unfold ArrOk; kernel_rfl) mix ⟨ok_S_l1In, trivial⟩ trivial) Try.func120 (by kernel_rfl) (by kernel_rfl) (by kernel_rfl)
    (by rw [show loopsOf (bodyOf Try.f120) = [((loopsOf (bodyOf Try.f120)).getD 0 .skip)] from by kernel_rfl]; exact ⟨(by rw [show lookup pl_S_l1Line.loops (firstId ((loopsOf (bodyOf Try.f120)).getD 0 .skip)) = some lp_S_l1Line_2 from by kernel_rfl]; exact fun d z h => (eb_S_l1Line_2 d.1 d.2.1).trans h), trivial⟩) (fun x => ef_S_l1Line x.1)
noncomputable def o_S_l1Good_5 : List Out := [⟨.normal, ⟨[], [0, 5, 6, 7, 26], []⟩, mkSh 31 [(0, .val S_string .b), (5, .val S_string .b), (6, .val (.int .i64) .b), (7, .val (.int .i64) .b), (26, .val .bool .b)]⟩]
noncomputable def sh_S_l1Good_2 : List Sh := mkSh 31 [(0, .val S_string .b), (5, .val S_string .b), (6, .val (.int .i64) .b), (7, .val (.int .i64) .b)]
noncomputable def o_S_l1Good_2 : List Out := [⟨.exit 0, ⟨[], [0], []⟩, mkSh 31 [(0, .val S_string .b)]⟩, ⟨.ret, ⟨[], [2], []⟩, mkSh 31 [(2, .val .bool .b)]⟩]
noncomputable def b_S_l1Good_2 (t0 : PV S_string) (t5 : PV S_string) (t6 : PV (.int .i64)) (t7 : PV (.int .i64)) : Option ((PV S_string × PV S_string × PV (.int .i64) × PV (.int .i64) × Unit) ⊕ ((PV S_string × Unit) ⊕ (PV .bool × Unit))) :=
  bif (decide (t7 < t6)) then
    bif inB t7 t5.length then
      ((
          (f_S_l1Line (t5.getD t7.toNat [])).bind fun r4 =>
            bif (!r4.1.1) then
              some (t0, t5, t6, t7, true, ())
            else
              bif (decide (t7 < (IntKind.wrap .i64 ((t0.length : Int) - 1)))) then
                (f_S_l1Ends (t5.getD t7.toNat [])).bind fun r5 =>
                  some (t0, t5, t6, t7, (!r5.1.1), ())
              else
                some (t0, t5, t6, t7, false, ()) : Option ((PV S_string × PV S_string × PV (.int .i64) × PV (.int .i64) × PV .bool × Unit)))).bind fun j6 =>
        bif j6.2.2.2.2.1 then
          some (.inr (.inr (false, ())))
        else
          some (.inl (j6.1, j6.2.1, j6.2.2.1, (IntKind.wrap .i64 (j6.2.2.2.1 + 1)), ()))
    else
      none
  else
    some (.inr (.inl (t0, ())))
noncomputable def w_S_l1Good_2 : PV S_string × PV S_string × PV (.int .i64) × PV (.int .i64) × Unit → Option ((PV S_string × Unit) ⊕ (PV .bool × Unit)) := fix fun d => b_S_l1Good_2 d.1 d.2.1 d.2.2.1 d.2.2.2.1
noncomputable def lp_S_l1Good_2 : Lp := ⟨⟨[], [0, 5, 6, 7, 16, 17, 18, 19, 20, 21, 22, 23, 24, 25], []⟩, sh_S_l1Good_2, o_S_l1Good_2, fun d => b_S_l1Good_2 d.1 d.2.1 d.2.2.1 d.2.2.2.1⟩
noncomputable def pl_S_l1Good : Plan := ⟨[(5, o_S_l1Good_5)], [(2, lp_S_l1Good_2)], 0, 0⟩
noncomputable def f_S_l1Good (t0 : PV S_string) : Option (PVs [.bool] × PVs []) :=
  (w_S_l1Good_2 (t0, t0, (t0.length : Int), 0, ())).bind fun x11 =>
    match x11 with
    | .inl l9 =>
      some (((decide ((l9.1.length : Int) ≤ 40)), ()), ())
    | .inr l10 =>
      some ((l10.1, ()), ())
noncomputable def ct_S_l1Good : Ct := ⟨[(.bor, S_string)], [(.bool, .b)], fun x => f_S_l1Good x.1⟩
noncomputable def cx_S_l1Good : Cx := ⟨tab, arrs, [(120, ct_S_l1Line), (121, ct_S_l1Ends)], [], gl, []⟩
theorem eb_S_l1Good_2 (t0 : PV S_string) (t5 : PV S_string) (t6 : PV (.int .i64)) (t7 : PV (.int .i64)) : denK cx_S_l1Good (rcN cx_S_l1Good 0) pl_S_l1Good 0 ((loopsOf (bodyOf Try.f88)).getD 0 .skip) (fillS sh_S_l1Good_2 (t0, t5, t6, t7, ())) (roundK 0 lp_S_l1Good_2) = b_S_l1Good_2 t0 t5 t6 t7 := by kernel_rfl
theorem ef_S_l1Good (t0 : PV S_string) : denF cx_S_l1Good 0 pl_S_l1Good Try.f88.ntmps (bodyOf Try.f88) Try.f88.results.toList [(.bor, S_string)] [(.bool, .b)] (t0, ()) = f_S_l1Good t0 := by kernel_rfl
theorem ok_S_l1Good : FnOk gl Try.prog 88 ct_S_l1Good :=
  fnOk (cx := cx_S_l1Good) (pl := pl_S_l1Good) (dp := 0) (ok0_of tabOk (by unfold ArrOk; kernel_rfl) mix ⟨ok_S_l1Line, ok_S_l1Ends, trivial⟩ trivial) Try.func88 (by kernel_rfl) (by kernel_rfl) (by kernel_rfl)
    (by rw [show loopsOf (bodyOf Try.f88) = [((loopsOf (bodyOf Try.f88)).getD 0 .skip)] from by kernel_rfl]; exact ⟨(by rw [show lookup pl_S_l1Good.loops (firstId ((loopsOf (bodyOf Try.f88)).getD 0 .skip)) = some lp_S_l1Good_2 from by kernel_rfl]; exact fun d z h => (eb_S_l1Good_2 d.1 d.2.1 d.2.2.1 d.2.2.2.1).trans h), trivial⟩) (fun x => ef_S_l1Good x.1)
noncomputable def sh_S_l12Good_2 : List Sh := mkSh 18 [(0, .val S_S_string .b), (5, .val S_S_string .b), (6, .val (.int .i64) .b), (7, .val (.int .i64) .b)]
noncomputable def o_S_l12Good_2 : List Out := [⟨.exit 0, ⟨[], [0], []⟩, mkSh 18 [(0, .val S_S_string .b)]⟩, ⟨.ret, ⟨[], [2], []⟩, mkSh 18 [(2, .val .bool .b)]⟩]
noncomputable def b_S_l12Good_2 (t0 : PV S_S_string) (t5 : PV S_S_string) (t6 : PV (.int .i64)) (t7 : PV (.int .i64)) : Option ((PV S_S_string × PV S_S_string × PV (.int .i64) × PV (.int .i64) × Unit) ⊕ ((PV S_S_string × Unit) ⊕ (PV .bool × Unit))) :=
  bif (decide (t7 < t6)) then
    bif inB t7 t5.length then
      (f_S_l1Good (t5.getD t7.toNat [])).bind fun r4 =>
        bif (!r4.1.1) then
          some (.inr (.inr (false, ())))
        else
          some (.inl (t0, t5, t6, (IntKind.wrap .i64 (t7 + 1)), ()))
    else
      none
  else
    some (.inr (.inl (t0, ())))
noncomputable def w_S_l12Good_2 : PV S_S_string × PV S_S_string × PV (.int .i64) × PV (.int .i64) × Unit → Option ((PV S_S_string × Unit) ⊕ (PV .bool × Unit)) := fix fun d => b_S_l12Good_2 d.1 d.2.1 d.2.2.1 d.2.2.2.1
noncomputable def lp_S_l12Good_2 : Lp := ⟨⟨[], [0, 5, 6, 7], []⟩, sh_S_l12Good_2, o_S_l12Good_2, fun d => b_S_l12Good_2 d.1 d.2.1 d.2.2.1 d.2.2.2.1⟩
noncomputable def pl_S_l12Good : Plan := ⟨[], [(2, lp_S_l12Good_2)], 0, 0⟩
noncomputable def f_S_l12Good (t0 : PV S_S_string) : Option (PVs [.bool] × PVs []) :=
  (w_S_l12Good_2 (t0, t0, (t0.length : Int), 0, ())).bind fun x10 =>
    match x10 with
    | .inl l7 =>
      (f_S_l1In (l7.1.length : Int) 1 8).bind fun r8 =>
        some ((r8.1.1, ()), ())
    | .inr l9 =>
      some ((l9.1, ()), ())
noncomputable def ct_S_l12Good : Ct := ⟨[(.bor, S_S_string)], [(.bool, .b)], fun x => f_S_l12Good x.1⟩
noncomputable def cx_S_l12Good : Cx := ⟨tab, arrs, [(58, ct_S_l1In), (88, ct_S_l1Good)], [], gl, []⟩
theorem eb_S_l12Good_2 (t0 : PV S_S_string) (t5 : PV S_S_string) (t6 : PV (.int .i64)) (t7 : PV (.int .i64)) : denK cx_S_l12Good (rcN cx_S_l12Good 0) pl_S_l12Good 0 ((loopsOf (bodyOf Try.f51)).getD 0 .skip) (fillS sh_S_l12Good_2 (t0, t5, t6, t7, ())) (roundK 0 lp_S_l12Good_2) = b_S_l12Good_2 t0 t5 t6 t7 := by kernel_rfl
theorem ef_S_l12Good (t0 : PV S_S_string) : denF cx_S_l12Good 0 pl_S_l12Good Try.f51.ntmps (bodyOf Try.f51) Try.f51.results.toList [(.bor, S_S_string)] [(.bool, .b)] (t0, ()) = f_S_l12Good t0 := by kernel_rfl
theorem ok_S_l12Good : FnOk gl Try.prog 51 ct_S_l12Good :=
  fnOk (cx := cx_S_l12Good) (pl := pl_S_l12Good) (dp := 0) (ok0_of tabOk (by unfold ArrOk; kernel_rfl) mix ⟨ok_S_l1In, ok_S_l1Good, trivial⟩ trivial) Try.func51 (by kernel_rfl) (by kernel_rfl) (by kernel_rfl)
    (by rw [show loopsOf (bodyOf Try.f51) = [((loopsOf (bodyOf Try.f51)).getD 0 .skip)] from by kernel_rfl]; exact ⟨(by rw [show lookup pl_S_l12Good.loops (firstId ((loopsOf (bodyOf Try.f51)).getD 0 .skip)) = some lp_S_l12Good_2 from by kernel_rfl]; exact fun d z h => (eb_S_l12Good_2 d.1 d.2.1 d.2.2.1 d.2.2.2.1).trans h), trivial⟩) (fun x => ef_S_l12Good x.1)
noncomputable def pl_S_l1Most : Plan := ⟨[], [], 0, 0⟩
noncomputable def f_S_l1Most (t0 : PV (.int .i64)) (t1 : PV (.int .i64)) : Option (PVs [(.int .i64)] × PVs []) :=
  bif (decide (t0 > t1)) then
    some ((t0, ()), ())
  else
    some ((t1, ()), ())
noncomputable def ct_S_l1Most : Ct := ⟨[(.bor, (.int .i64)), (.bor, (.int .i64))], [((.int .i64), .b)], fun x => f_S_l1Most x.1 x.2.1⟩
noncomputable def cx_S_l1Most : Cx := ⟨tab, arrs, [], [], gl, []⟩
theorem ef_S_l1Most (t0 : PV (.int .i64)) (t1 : PV (.int .i64)) : denF cx_S_l1Most 0 pl_S_l1Most Try.f127.ntmps (bodyOf Try.f127) Try.f127.results.toList [(.bor, (.int .i64)), (.bor, (.int .i64))] [((.int .i64), .b)] (t0, t1, ()) = f_S_l1Most t0 t1 := by kernel_rfl
theorem ok_S_l1Most : FnOk gl Try.prog 127 ct_S_l1Most :=
  fnOk (cx := cx_S_l1Most) (pl := pl_S_l1Most) (dp := 0) (ok0_of tabOk (by unfold ArrOk; kernel_rfl) mix trivial trivial) Try.func127 (by kernel_rfl) (by kernel_rfl) (by kernel_rfl)
    (by rw [show loopsOf (bodyOf Try.f127) = [] from by kernel_rfl]; exact trivial) (fun x => ef_S_l1Most x.1 x.2.1)
noncomputable def o_S_l3Table_12 : List Out := [⟨.normal, ⟨[], [0, 1, 5, 7, 8], []⟩, mkSh 97 [(0, .val S_string .b), (1, .val S_string .b), (5, .val S_S_int (.row (.row .b))), (7, .val (.int .i64) .b), (8, .val (.int .i64) .b)]⟩]
noncomputable def sh_S_l3Table_3 : List Sh := mkSh 97 [(0, .val S_string .b), (1, .val S_string .b), (5, .val S_S_int (.row (.row .b))), (14, .val (.int .i64) .b), (15, .val (.int .i64) .b)]
noncomputable def o_S_l3Table_3 : List Out := [⟨.exit 0, ⟨[], [0, 1, 5], []⟩, mkSh 97 [(0, .val S_string .b), (1, .val S_string .b), (5, .val S_S_int (.row (.row .b)))]⟩]
noncomputable def b_S_l3Table_3 (t0 : PV S_string) (t1 : PV S_string) (t5 : PV S_S_int) (t14 : PV (.int .i64)) (t15 : PV (.int .i64)) : Option ((PV S_string × PV S_string × PV S_S_int × PV (.int .i64) × PV (.int .i64) × Unit) ⊕ ((PV S_string × PV S_string × PV S_S_int × Unit))) :=
  bif (decide (t15 < t14)) then
    bif decide (0 ≤ (IntKind.wrap .i64 ((t1.length : Int) + 1))) && (decide ((IntKind.wrap .i64 ((t1.length : Int) + 1)) ≤ (IntKind.wrap .i64 ((t1.length : Int) + 1))) && roomB (IntKind.wrap .i64 ((t1.length : Int) + 1)).toNat) then
      bif inB t15 t5.length then
        some (.inl (t0, t1, (t5.set t15.toNat (List.replicate (IntKind.wrap .i64 ((t1.length : Int) + 1)).toNat (0 : Int))), t14, (IntKind.wrap .i64 (t15 + 1)), ()))
      else
        none
    else
      none
  else
    some (.inr (t0, t1, t5, ()))
noncomputable def w_S_l3Table_3 : PV S_string × PV S_string × PV S_S_int × PV (.int .i64) × PV (.int .i64) × Unit → Option ((PV S_string × PV S_string × PV S_S_int × Unit)) := fix fun d => b_S_l3Table_3 d.1 d.2.1 d.2.2.1 d.2.2.2.1 d.2.2.2.2.1
noncomputable def lp_S_l3Table_3 : Lp := ⟨⟨[], [0, 1, 5, 14, 15], []⟩, sh_S_l3Table_3, o_S_l3Table_3, fun d => b_S_l3Table_3 d.1 d.2.1 d.2.2.1 d.2.2.2.1 d.2.2.2.2.1⟩
noncomputable def sh_S_l3Table_11 : List Sh := mkSh 97 [(0, .val S_string .b), (1, .val S_string .b), (5, .val S_S_int (.row (.row .b))), (7, .val (.int .i64) .b), (8, .val (.int .i64) .b)]
noncomputable def o_S_l3Table_11 : List Out := [⟨.exit 4, ⟨[], [0, 1, 5, 7], []⟩, mkSh 97 [(0, .val S_string .b), (1, .val S_string .b), (5, .val S_S_int (.row (.row .b))), (7, .val (.int .i64) .b)]⟩]
noncomputable def b_S_l3Table_11 (t0 : PV S_string) (t1 : PV S_string) (t5 : PV S_S_int) (t7 : PV (.int .i64)) (t8 : PV (.int .i64)) : Option ((PV S_string × PV S_string × PV S_S_int × PV (.int .i64) × PV (.int .i64) × Unit) ⊕ ((PV S_string × PV S_string × PV S_S_int × PV (.int .i64) × Unit))) :=
  bif (decide (t8 ≥ 0)) then
    ((
        bif inB t7 t5.length then
          bif inB (IntKind.wrap .i64 (t7 + 1)) t5.length then
            bif inB t8 (t5.getD ((IntKind.wrap .i64 (t7 + 1)).toNat) []).length then
              bif inB t7 t5.length then
                bif inB (IntKind.wrap .i64 (t8 + 1)) (t5.getD t7.toNat []).length then
                  (f_S_l1Most ((t5.getD ((IntKind.wrap .i64 (t7 + 1)).toNat) []).getD t8.toNat (0 : Int)) ((t5.getD t7.toNat []).getD ((IntKind.wrap .i64 (t8 + 1)).toNat) (0 : Int))).bind fun r4 =>
                    bif inB t8 (t5.getD t7.toNat []).length then
                      bif inB t7 t0.length then
                        bif inB t8 t1.length then
                          bif ((t0.getD t7.toNat []) == (t1.getD t8.toNat [])) then
                            bif inB t7 (t5.set t7.toNat ((t5.getD t7.toNat []).set t8.toNat r4.1.1)).length then
                              bif inB t7 (t5.set t7.toNat ((t5.getD t7.toNat []).set t8.toNat r4.1.1)).length then
                                bif inB t8 ((t5.set t7.toNat ((t5.getD t7.toNat []).set t8.toNat r4.1.1)).getD t7.toNat []).length then
                                  bif inB (IntKind.wrap .i64 (t7 + 1)) (t5.set t7.toNat ((t5.getD t7.toNat []).set t8.toNat r4.1.1)).length then
                                    bif inB (IntKind.wrap .i64 (t8 + 1)) ((t5.set t7.toNat ((t5.getD t7.toNat []).set t8.toNat r4.1.1)).getD ((IntKind.wrap .i64 (t7 + 1)).toNat) []).length then
                                      (f_S_l1Most (((t5.set t7.toNat ((t5.getD t7.toNat []).set t8.toNat r4.1.1)).getD t7.toNat []).getD t8.toNat (0 : Int)) (IntKind.wrap .i64 ((((t5.set t7.toNat ((t5.getD t7.toNat []).set t8.toNat r4.1.1)).getD ((IntKind.wrap .i64 (t7 + 1)).toNat) []).getD ((IntKind.wrap .i64 (t8 + 1)).toNat) (0 : Int)) + 1))).bind fun r5 =>
                                        bif inB t8 ((t5.set t7.toNat ((t5.getD t7.toNat []).set t8.toNat r4.1.1)).getD t7.toNat []).length then
                                          some (t0, t1, ((t5.set t7.toNat ((t5.getD t7.toNat []).set t8.toNat r4.1.1)).set t7.toNat (((t5.set t7.toNat ((t5.getD t7.toNat []).set t8.toNat r4.1.1)).getD t7.toNat []).set t8.toNat r5.1.1)), t7, t8, ())
                                        else
                                          none
                                    else
                                      none
                                  else
                                    none
                                else
                                  none
                              else
                                none
                            else
                              none
                          else
                            some (t0, t1, (t5.set t7.toNat ((t5.getD t7.toNat []).set t8.toNat r4.1.1)), t7, t8, ())
                        else
                          none
                      else
                        none
                    else
                      none
                else
                  none
              else
                none
            else
              none
          else
            none
        else
          none : Option ((PV S_string × PV S_string × PV S_S_int × PV (.int .i64) × PV (.int .i64) × Unit)))).bind fun j6 =>
      some (.inl (j6.1, j6.2.1, j6.2.2.1, j6.2.2.2.1, (IntKind.wrap .i64 (j6.2.2.2.2.1 - 1)), ()))
  else
    some (.inr (t0, t1, t5, t7, ()))
noncomputable def w_S_l3Table_11 : PV S_string × PV S_string × PV S_S_int × PV (.int .i64) × PV (.int .i64) × Unit → Option ((PV S_string × PV S_string × PV S_S_int × PV (.int .i64) × Unit)) := fix fun d => b_S_l3Table_11 d.1 d.2.1 d.2.2.1 d.2.2.2.1 d.2.2.2.2.1
noncomputable def lp_S_l3Table_11 : Lp := ⟨⟨[], [0, 1, 5, 7, 8], []⟩, sh_S_l3Table_11, o_S_l3Table_11, fun d => b_S_l3Table_11 d.1 d.2.1 d.2.2.1 d.2.2.2.1 d.2.2.2.2.1⟩
noncomputable def sh_S_l3Table_8 : List Sh := mkSh 97 [(0, .val S_string .b), (1, .val S_string .b), (5, .val S_S_int (.row (.row .b))), (7, .val (.int .i64) .b)]
noncomputable def o_S_l3Table_8 : List Out := [⟨.exit 2, ⟨[], [5], []⟩, mkSh 97 [(5, .val S_S_int (.row (.row .b)))]⟩]
noncomputable def b_S_l3Table_8 (t0 : PV S_string) (t1 : PV S_string) (t5 : PV S_S_int) (t7 : PV (.int .i64)) : Option ((PV S_string × PV S_string × PV S_S_int × PV (.int .i64) × Unit) ⊕ ((PV S_S_int × Unit))) :=
  bif (decide (t7 ≥ 0)) then
    (w_S_l3Table_11 (t0, t1, t5, t7, (IntKind.wrap .i64 ((t1.length : Int) - 1)), ())).bind fun l4 =>
      some (.inl (l4.1, l4.2.1, l4.2.2.1, (IntKind.wrap .i64 (l4.2.2.2.1 - 1)), ()))
  else
    some (.inr (t5, ()))
noncomputable def w_S_l3Table_8 : PV S_string × PV S_string × PV S_S_int × PV (.int .i64) × Unit → Option ((PV S_S_int × Unit)) := fix fun d => b_S_l3Table_8 d.1 d.2.1 d.2.2.1 d.2.2.2.1
noncomputable def lp_S_l3Table_8 : Lp := ⟨⟨[], [0, 1, 5, 7], []⟩, sh_S_l3Table_8, o_S_l3Table_8, fun d => b_S_l3Table_8 d.1 d.2.1 d.2.2.1 d.2.2.2.1⟩
noncomputable def pl_S_l3Table : Plan := ⟨[(12, o_S_l3Table_12)], [(3, lp_S_l3Table_3), (11, lp_S_l3Table_11), (8, lp_S_l3Table_8)], 0, 0⟩
noncomputable def f_S_l3Table (t0 : PV S_string) (t1 : PV S_string) : Option (PVs [S_S_int] × PVs []) :=
  bif decide (0 ≤ (IntKind.wrap .i64 ((t0.length : Int) + 1))) && (decide ((IntKind.wrap .i64 ((t0.length : Int) + 1)) ≤ (IntKind.wrap .i64 ((t0.length : Int) + 1))) && roomB (IntKind.wrap .i64 ((t0.length : Int) + 1)).toNat) then
    (w_S_l3Table_3 (t0, t1, (List.replicate (IntKind.wrap .i64 ((t0.length : Int) + 1)).toNat ([] : PV S_int)), ((List.replicate (IntKind.wrap .i64 ((t0.length : Int) + 1)).toNat ([] : PV S_int)).length : Int), 0, ())).bind fun l2 =>
      (w_S_l3Table_8 (l2.1, l2.2.1, l2.2.2.1, (IntKind.wrap .i64 ((l2.1.length : Int) - 1)), ())).bind fun l6 =>
        some ((l6.1, ()), ())
  else
    none
noncomputable def ct_S_l3Table : Ct := ⟨[(.bor, S_string), (.bor, S_string)], [(S_S_int, (.row (.row .b)))], fun x => f_S_l3Table x.1 x.2.1⟩
noncomputable def cx_S_l3Table : Cx := ⟨tab, arrs, [(127, ct_S_l1Most)], [], gl, []⟩
theorem eb_S_l3Table_3 (t0 : PV S_string) (t1 : PV S_string) (t5 : PV S_S_int) (t14 : PV (.int .i64)) (t15 : PV (.int .i64)) : denK cx_S_l3Table (rcN cx_S_l3Table 0) pl_S_l3Table 0 ((loopsOf (bodyOf Try.f96)).getD 0 .skip) (fillS sh_S_l3Table_3 (t0, t1, t5, t14, t15, ())) (roundK 0 lp_S_l3Table_3) = b_S_l3Table_3 t0 t1 t5 t14 t15 := by kernel_rfl
theorem eb_S_l3Table_8 (t0 : PV S_string) (t1 : PV S_string) (t5 : PV S_S_int) (t7 : PV (.int .i64)) : denK cx_S_l3Table (rcN cx_S_l3Table 0) pl_S_l3Table 0 ((loopsOf (bodyOf Try.f96)).getD 1 .skip) (fillS sh_S_l3Table_8 (t0, t1, t5, t7, ())) (roundK 0 lp_S_l3Table_8) = b_S_l3Table_8 t0 t1 t5 t7 := by kernel_rfl
theorem eb_S_l3Table_11 (t0 : PV S_string) (t1 : PV S_string) (t5 : PV S_S_int) (t7 : PV (.int .i64)) (t8 : PV (.int .i64)) : denK cx_S_l3Table (rcN cx_S_l3Table 0) pl_S_l3Table 0 ((loopsOf (bodyOf Try.f96)).getD 2 .skip) (fillS sh_S_l3Table_11 (t0, t1, t5, t7, t8, ())) (roundK 0 lp_S_l3Table_11) = b_S_l3Table_11 t0 t1 t5 t7 t8 := by kernel_rfl
theorem ef_S_l3Table (t0 : PV S_string) (t1 : PV S_string) : denF cx_S_l3Table 0 pl_S_l3Table Try.f96.ntmps (bodyOf Try.f96) Try.f96.results.toList [(.bor, S_string), (.bor, S_string)] [(S_S_int, (.row (.row .b)))] (t0, t1, ()) = f_S_l3Table t0 t1 := by kernel_rfl
theorem ok_S_l3Table : FnOk gl Try.prog 96 ct_S_l3Table :=
  fnOk (cx := cx_S_l3Table) (pl := pl_S_l3Table) (dp := 0) (ok0_of tabOk (by unfold ArrOk; kernel_rfl) mix ⟨ok_S_l1Most, trivial⟩ trivial) Try.func96 (by kernel_rfl) (by kernel_rfl) (by kernel_rfl)
    (by rw [show loopsOf (bodyOf Try.f96) = [((loopsOf (bodyOf Try.f96)).getD 0 .skip), ((loopsOf (bodyOf Try.f96)).getD 1 .skip), ((loopsOf (bodyOf Try.f96)).getD 2 .skip)] from by kernel_rfl]; exact ⟨(by rw [show lookup pl_S_l3Table.loops (firstId ((loopsOf (bodyOf Try.f96)).getD 0 .skip)) = some lp_S_l3Table_3 from by kernel_rfl]; exact fun d z h => (eb_S_l3Table_3 d.1 d.2.1 d.2.2.1 d.2.2.2.1 d.2.2.2.2.1).trans h), (by rw [show lookup pl_S_l3Table.loops (firstId ((loopsOf (bodyOf Try.f96)).getD 1 .skip)) = some lp_S_l3Table_8 from by kernel_rfl]; exact fun d z h => (eb_S_l3Table_8 d.1 d.2.1 d.2.2.1 d.2.2.2.1).trans h), (by rw [show lookup pl_S_l3Table.loops (firstId ((loopsOf (bodyOf Try.f96)).getD 2 .skip)) = some lp_S_l3Table_11 from by kernel_rfl]; exact fun d z h => (eb_S_l3Table_11 d.1 d.2.1 d.2.2.1 d.2.2.2.1 d.2.2.2.2.1).trans h), trivial⟩) (fun x => ef_S_l3Table x.1 x.2.1)
noncomputable def o_S_l3Pairs_13 : List Out := [⟨.normal, ⟨[], [0, 1, 5, 6, 7, 8, 9, 10, 11, 12, 72], []⟩, mkSh 86 [(0, .val S_string .b), (1, .val S_string .b), (5, .val S_S_int (.row (.row .b))), (6, .val S__2_int (.row (.pr .b (.pr .b .b)))), (7, .val (.int .i64) .b), (8, .val (.int .i64) .b), (9, .val (.int .i64) .b), (10, .val (.int .i64) .b), (11, .val (.int .i64) .b), (12, .val (.int .i64) .b), (72, .val .bool .b)]⟩]
noncomputable def o_S_l3Pairs_11 : List Out := [⟨.normal, ⟨[], [0, 1, 5, 6, 7, 8, 9, 10, 11, 12, 54, 55, 56, 57, 58, 59, 60, 61, 62, 63, 64, 65, 66, 67, 68, 69, 70, 71], []⟩, mkSh 86 [(0, .val S_string .b), (1, .val S_string .b), (5, .val S_S_int (.row (.row .b))), (6, .val S__2_int (.row (.pr .b (.pr .b .b)))), (7, .val (.int .i64) .b), (8, .val (.int .i64) .b), (9, .val (.int .i64) .b), (10, .val (.int .i64) .b), (11, .val (.int .i64) .b), (12, .val (.int .i64) .b)]⟩]
noncomputable def sh_S_l3Pairs_10 : List Sh := mkSh 86 [(0, .val S_string .b), (1, .val S_string .b), (5, .val S_S_int (.row (.row .b))), (6, .val S__2_int (.row (.pr .b (.pr .b .b)))), (7, .val (.int .i64) .b), (8, .val (.int .i64) .b), (9, .val (.int .i64) .b), (10, .val (.int .i64) .b), (11, .val (.int .i64) .b), (12, .val (.int .i64) .b)]
noncomputable def o_S_l3Pairs_10 : List Out := [⟨.exit 4, ⟨[], [0, 1, 5, 6, 7, 8, 9, 10, 11, 54, 55, 56, 57, 58, 59, 60, 61, 62, 63, 64, 65, 66, 67, 68, 69, 70, 71], []⟩, mkSh 86 [(0, .val S_string .b), (1, .val S_string .b), (5, .val S_S_int (.row (.row .b))), (6, .val S__2_int (.row (.pr .b (.pr .b .b)))), (7, .val (.int .i64) .b), (8, .val (.int .i64) .b), (9, .val (.int .i64) .b), (10, .val (.int .i64) .b), (11, .val (.int .i64) .b)]⟩]
noncomputable def b_S_l3Pairs_10 (t0 : PV S_string) (t1 : PV S_string) (t5 : PV S_S_int) (t6 : PV S__2_int) (t7 : PV (.int .i64)) (t8 : PV (.int .i64)) (t9 : PV (.int .i64)) (t10 : PV (.int .i64)) (t11 : PV (.int .i64)) (t12 : PV (.int .i64)) : Option ((PV S_string × PV S_string × PV S_S_int × PV S__2_int × PV (.int .i64) × PV (.int .i64) × PV (.int .i64) × PV (.int .i64) × PV (.int .i64) × PV (.int .i64) × Unit) ⊕ ((PV S_string × PV S_string × PV S_S_int × PV S__2_int × PV (.int .i64) × PV (.int .i64) × PV (.int .i64) × PV (.int .i64) × PV (.int .i64) × Unit))) :=
  bif (decide (t12 ≥ t8)) then
    ((
        ((
            bif inB t11 t0.length then
              bif inB t12 t1.length then
                bif ((t0.getD t11.toNat []) == (t1.getD t12.toNat [])) then
                  bif inB (IntKind.wrap .i64 (t11 + 1)) t5.length then
                    bif inB (IntKind.wrap .i64 (t12 + 1)) (t5.getD ((IntKind.wrap .i64 (t11 + 1)).toNat) []).length then
                      bif inB t7 t5.length then
                        bif inB t8 (t5.getD t7.toNat []).length then
                          some (t0, t1, t5, t6, t7, t8, t9, t10, t11, t12, ((IntKind.wrap .i64 (((t5.getD ((IntKind.wrap .i64 (t11 + 1)).toNat) []).getD ((IntKind.wrap .i64 (t12 + 1)).toNat) (0 : Int)) + 1)) == ((t5.getD t7.toNat []).getD t8.toNat (0 : Int))), ())
                        else
                          none
                      else
                        none
                    else
                      none
                  else
                    none
                else
                  some (t0, t1, t5, t6, t7, t8, t9, t10, t11, t12, false, ())
              else
                none
            else
              none : Option ((PV S_string × PV S_string × PV S_S_int × PV S__2_int × PV (.int .i64) × PV (.int .i64) × PV (.int .i64) × PV (.int .i64) × PV (.int .i64) × PV (.int .i64) × PV .bool × Unit)))).bind fun j3 =>
          bif j3.2.2.2.2.2.2.2.2.2.2.1 then
            some (j3.1, j3.2.1, j3.2.2.1, j3.2.2.2.1, j3.2.2.2.2.1, j3.2.2.2.2.2.1, j3.2.2.2.2.2.2.2.2.1, j3.2.2.2.2.2.2.2.2.2.1, j3.2.2.2.2.2.2.2.2.1, j3.2.2.2.2.2.2.2.2.2.1, ())
          else
            some (j3.1, j3.2.1, j3.2.2.1, j3.2.2.2.1, j3.2.2.2.2.1, j3.2.2.2.2.2.1, j3.2.2.2.2.2.2.1, j3.2.2.2.2.2.2.2.1, j3.2.2.2.2.2.2.2.2.1, j3.2.2.2.2.2.2.2.2.2.1, ()) : Option ((PV S_string × PV S_string × PV S_S_int × PV S__2_int × PV (.int .i64) × PV (.int .i64) × PV (.int .i64) × PV (.int .i64) × PV (.int .i64) × PV (.int .i64) × Unit)))).bind fun j4 =>
      some (.inl (j4.1, j4.2.1, j4.2.2.1, j4.2.2.2.1, j4.2.2.2.2.1, j4.2.2.2.2.2.1, j4.2.2.2.2.2.2.1, j4.2.2.2.2.2.2.2.1, j4.2.2.2.2.2.2.2.2.1, (IntKind.wrap .i64 (j4.2.2.2.2.2.2.2.2.2.1 - 1)), ()))
  else
    some (.inr (t0, t1, t5, t6, t7, t8, t9, t10, t11, ()))
noncomputable def w_S_l3Pairs_10 : PV S_string × PV S_string × PV S_S_int × PV S__2_int × PV (.int .i64) × PV (.int .i64) × PV (.int .i64) × PV (.int .i64) × PV (.int .i64) × PV (.int .i64) × Unit → Option ((PV S_string × PV S_string × PV S_S_int × PV S__2_int × PV (.int .i64) × PV (.int .i64) × PV (.int .i64) × PV (.int .i64) × PV (.int .i64) × Unit)) := fix fun d => b_S_l3Pairs_10 d.1 d.2.1 d.2.2.1 d.2.2.2.1 d.2.2.2.2.1 d.2.2.2.2.2.1 d.2.2.2.2.2.2.1 d.2.2.2.2.2.2.2.1 d.2.2.2.2.2.2.2.2.1 d.2.2.2.2.2.2.2.2.2.1
noncomputable def lp_S_l3Pairs_10 : Lp := ⟨⟨[], [0, 1, 5, 6, 7, 8, 9, 10, 11, 12, 54, 55, 56, 57, 58, 59, 60, 61, 62, 63, 64, 65, 66, 67, 68, 69, 70, 71], []⟩, sh_S_l3Pairs_10, o_S_l3Pairs_10, fun d => b_S_l3Pairs_10 d.1 d.2.1 d.2.2.1 d.2.2.2.1 d.2.2.2.2.1 d.2.2.2.2.2.1 d.2.2.2.2.2.2.1 d.2.2.2.2.2.2.2.1 d.2.2.2.2.2.2.2.2.1 d.2.2.2.2.2.2.2.2.2.1⟩
noncomputable def sh_S_l3Pairs_7 : List Sh := mkSh 86 [(0, .val S_string .b), (1, .val S_string .b), (5, .val S_S_int (.row (.row .b))), (6, .val S__2_int (.row (.pr .b (.pr .b .b)))), (7, .val (.int .i64) .b), (8, .val (.int .i64) .b), (9, .val (.int .i64) .b), (10, .val (.int .i64) .b), (11, .val (.int .i64) .b)]
noncomputable def o_S_l3Pairs_7 : List Out := [⟨.exit 2, ⟨[], [0, 1, 5, 6, 9, 10, 54, 55, 56, 57, 58, 59, 60, 61, 62, 63, 64, 65, 66, 67, 68, 69, 70, 71], []⟩, mkSh 86 [(0, .val S_string .b), (1, .val S_string .b), (5, .val S_S_int (.row (.row .b))), (6, .val S__2_int (.row (.pr .b (.pr .b .b)))), (9, .val (.int .i64) .b), (10, .val (.int .i64) .b)]⟩]
noncomputable def b_S_l3Pairs_7 (t0 : PV S_string) (t1 : PV S_string) (t5 : PV S_S_int) (t6 : PV S__2_int) (t7 : PV (.int .i64)) (t8 : PV (.int .i64)) (t9 : PV (.int .i64)) (t10 : PV (.int .i64)) (t11 : PV (.int .i64)) : Option ((PV S_string × PV S_string × PV S_S_int × PV S__2_int × PV (.int .i64) × PV (.int .i64) × PV (.int .i64) × PV (.int .i64) × PV (.int .i64) × Unit) ⊕ ((PV S_string × PV S_string × PV S_S_int × PV S__2_int × PV (.int .i64) × PV (.int .i64) × Unit))) :=
  bif (decide (t11 ≥ t7)) then
    (w_S_l3Pairs_10 (t0, t1, t5, t6, t7, t8, t9, t10, t11, (IntKind.wrap .i64 ((t1.length : Int) - 1)), ())).bind fun l4 =>
      some (.inl (l4.1, l4.2.1, l4.2.2.1, l4.2.2.2.1, l4.2.2.2.2.1, l4.2.2.2.2.2.1, l4.2.2.2.2.2.2.1, l4.2.2.2.2.2.2.2.1, (IntKind.wrap .i64 (l4.2.2.2.2.2.2.2.2.1 - 1)), ()))
  else
    some (.inr (t0, t1, t5, t6, t9, t10, ()))
noncomputable def w_S_l3Pairs_7 : PV S_string × PV S_string × PV S_S_int × PV S__2_int × PV (.int .i64) × PV (.int .i64) × PV (.int .i64) × PV (.int .i64) × PV (.int .i64) × Unit → Option ((PV S_string × PV S_string × PV S_S_int × PV S__2_int × PV (.int .i64) × PV (.int .i64) × Unit)) := fix fun d => b_S_l3Pairs_7 d.1 d.2.1 d.2.2.1 d.2.2.2.1 d.2.2.2.2.1 d.2.2.2.2.2.1 d.2.2.2.2.2.2.1 d.2.2.2.2.2.2.2.1 d.2.2.2.2.2.2.2.2.1
noncomputable def lp_S_l3Pairs_7 : Lp := ⟨⟨[], [0, 1, 5, 6, 7, 8, 9, 10, 11, 54, 55, 56, 57, 58, 59, 60, 61, 62, 63, 64, 65, 66, 67, 68, 69, 70, 71], []⟩, sh_S_l3Pairs_7, o_S_l3Pairs_7, fun d => b_S_l3Pairs_7 d.1 d.2.1 d.2.2.1 d.2.2.2.1 d.2.2.2.2.1 d.2.2.2.2.2.1 d.2.2.2.2.2.2.1 d.2.2.2.2.2.2.2.1 d.2.2.2.2.2.2.2.2.1⟩
noncomputable def sh_S_l3Pairs_4 : List Sh := mkSh 86 [(0, .val S_string .b), (1, .val S_string .b), (5, .val S_S_int (.row (.row .b))), (6, .val S__2_int (.row (.pr .b (.pr .b .b)))), (7, .val (.int .i64) .b), (8, .val (.int .i64) .b)]
noncomputable def o_S_l3Pairs_4 : List Out := [⟨.exit 0, ⟨[], [6], []⟩, mkSh 86 [(6, .val S__2_int (.row (.pr .b (.pr .b .b))))]⟩]
noncomputable def b_S_l3Pairs_4 (t0 : PV S_string) (t1 : PV S_string) (t5 : PV S_S_int) (t6 : PV S__2_int) (t7 : PV (.int .i64)) (t8 : PV (.int .i64)) : Option ((PV S_string × PV S_string × PV S_S_int × PV S__2_int × PV (.int .i64) × PV (.int .i64) × Unit) ⊕ ((PV S__2_int × Unit))) :=
  bif inB t7 t5.length then
    bif inB t8 (t5.getD t7.toNat []).length then
      bif (decide (((t5.getD t7.toNat []).getD t8.toNat (0 : Int)) > 0)) then
        (w_S_l3Pairs_7 (t0, t1, t5, t6, t7, t8, (t0.length : Int), (t1.length : Int), (IntKind.wrap .i64 ((t0.length : Int) - 1)), ())).bind fun l4 =>
          bif roomB (l4.2.2.2.1.length + [(l4.2.2.2.2.1, (l4.2.2.2.2.2.1, ()))].length) then
            some (.inl (l4.1, l4.2.1, l4.2.2.1, (l4.2.2.2.1 ++ [(l4.2.2.2.2.1, (l4.2.2.2.2.2.1, ()))]), (IntKind.wrap .i64 (l4.2.2.2.2.1 + 1)), (IntKind.wrap .i64 (l4.2.2.2.2.2.1 + 1)), ()))
          else
            none
      else
        some (.inr (t6, ()))
    else
      none
  else
    none
noncomputable def w_S_l3Pairs_4 : PV S_string × PV S_string × PV S_S_int × PV S__2_int × PV (.int .i64) × PV (.int .i64) × Unit → Option ((PV S__2_int × Unit)) := fix fun d => b_S_l3Pairs_4 d.1 d.2.1 d.2.2.1 d.2.2.2.1 d.2.2.2.2.1 d.2.2.2.2.2.1
noncomputable def lp_S_l3Pairs_4 : Lp := ⟨⟨[], [0, 1, 5, 6, 7, 8, 54, 55, 56, 57, 58, 59, 60, 61, 62, 63, 64, 65, 66, 67, 68, 69, 70, 71], []⟩, sh_S_l3Pairs_4, o_S_l3Pairs_4, fun d => b_S_l3Pairs_4 d.1 d.2.1 d.2.2.1 d.2.2.2.1 d.2.2.2.2.1 d.2.2.2.2.2.1⟩
noncomputable def pl_S_l3Pairs : Plan := ⟨[(13, o_S_l3Pairs_13), (11, o_S_l3Pairs_11)], [(10, lp_S_l3Pairs_10), (7, lp_S_l3Pairs_7), (4, lp_S_l3Pairs_4)], 0, 0⟩
noncomputable def f_S_l3Pairs (t0 : PV S_string) (t1 : PV S_string) : Option (PVs [S__2_int] × PVs []) :=
  (f_S_l3Table t0 t1).bind fun r2 =>
    (w_S_l3Pairs_4 (t0, t1, r2.1.1, [], 0, 0, ())).bind fun l6 =>
      some ((l6.1, ()), ())
noncomputable def ct_S_l3Pairs : Ct := ⟨[(.bor, S_string), (.bor, S_string)], [(S__2_int, (.row (.pr .b (.pr .b .b))))], fun x => f_S_l3Pairs x.1 x.2.1⟩
noncomputable def cx_S_l3Pairs : Cx := ⟨tab, arrs, [(96, ct_S_l3Table)], [], gl, []⟩
theorem eb_S_l3Pairs_4 (t0 : PV S_string) (t1 : PV S_string) (t5 : PV S_S_int) (t6 : PV S__2_int) (t7 : PV (.int .i64)) (t8 : PV (.int .i64)) : denK cx_S_l3Pairs (rcN cx_S_l3Pairs 0) pl_S_l3Pairs 0 ((loopsOf (bodyOf Try.f52)).getD 0 .skip) (fillS sh_S_l3Pairs_4 (t0, t1, t5, t6, t7, t8, ())) (roundK 0 lp_S_l3Pairs_4) = b_S_l3Pairs_4 t0 t1 t5 t6 t7 t8 := by kernel_rfl
theorem eb_S_l3Pairs_7 (t0 : PV S_string) (t1 : PV S_string) (t5 : PV S_S_int) (t6 : PV S__2_int) (t7 : PV (.int .i64)) (t8 : PV (.int .i64)) (t9 : PV (.int .i64)) (t10 : PV (.int .i64)) (t11 : PV (.int .i64)) : denK cx_S_l3Pairs (rcN cx_S_l3Pairs 0) pl_S_l3Pairs 0 ((loopsOf (bodyOf Try.f52)).getD 1 .skip) (fillS sh_S_l3Pairs_7 (t0, t1, t5, t6, t7, t8, t9, t10, t11, ())) (roundK 0 lp_S_l3Pairs_7) = b_S_l3Pairs_7 t0 t1 t5 t6 t7 t8 t9 t10 t11 := by kernel_rfl
theorem eb_S_l3Pairs_10 (t0 : PV S_string) (t1 : PV S_string) (t5 : PV S_S_int) (t6 : PV S__2_int) (t7 : PV (.int .i64)) (t8 : PV (.int .i64)) (t9 : PV (.int .i64)) (t10 : PV (.int .i64)) (t11 : PV (.int .i64)) (t12 : PV (.int .i64)) : denK cx_S_l3Pairs (rcN cx_S_l3Pairs 0) pl_S_l3Pairs 0 ((loopsOf (bodyOf Try.f52)).getD 2 .skip) (fillS sh_S_l3Pairs_10 (t0, t1, t5, t6, t7, t8, t9, t10, t11, t12, ())) (roundK 0 lp_S_l3Pairs_10) = b_S_l3Pairs_10 t0 t1 t5 t6 t7 t8 t9 t10 t11 t12 := by kernel_rfl
theorem ef_S_l3Pairs (t0 : PV S_string) (t1 : PV S_string) : denF cx_S_l3Pairs 0 pl_S_l3Pairs Try.f52.ntmps (bodyOf Try.f52) Try.f52.results.toList [(.bor, S_string), (.bor, S_string)] [(S__2_int, (.row (.pr .b (.pr .b .b))))] (t0, t1, ()) = f_S_l3Pairs t0 t1 := by kernel_rfl
theorem ok_S_l3Pairs : FnOk gl Try.prog 52 ct_S_l3Pairs :=
  fnOk (cx := cx_S_l3Pairs) (pl := pl_S_l3Pairs) (dp := 0) (ok0_of tabOk (by unfold ArrOk; kernel_rfl) mix ⟨ok_S_l3Table, trivial⟩ trivial) Try.func52 (by kernel_rfl) (by kernel_rfl) (by kernel_rfl)
    (by rw [show loopsOf (bodyOf Try.f52) = [((loopsOf (bodyOf Try.f52)).getD 0 .skip), ((loopsOf (bodyOf Try.f52)).getD 1 .skip), ((loopsOf (bodyOf Try.f52)).getD 2 .skip)] from by kernel_rfl]; exact ⟨(by rw [show lookup pl_S_l3Pairs.loops (firstId ((loopsOf (bodyOf Try.f52)).getD 0 .skip)) = some lp_S_l3Pairs_4 from by kernel_rfl]; exact fun d z h => (eb_S_l3Pairs_4 d.1 d.2.1 d.2.2.1 d.2.2.2.1 d.2.2.2.2.1 d.2.2.2.2.2.1).trans h), (by rw [show lookup pl_S_l3Pairs.loops (firstId ((loopsOf (bodyOf Try.f52)).getD 1 .skip)) = some lp_S_l3Pairs_7 from by kernel_rfl]; exact fun d z h => (eb_S_l3Pairs_7 d.1 d.2.1 d.2.2.1 d.2.2.2.1 d.2.2.2.2.1 d.2.2.2.2.2.1 d.2.2.2.2.2.2.1 d.2.2.2.2.2.2.2.1 d.2.2.2.2.2.2.2.2.1).trans h), (by rw [show lookup pl_S_l3Pairs.loops (firstId ((loopsOf (bodyOf Try.f52)).getD 2 .skip)) = some lp_S_l3Pairs_10 from by kernel_rfl]; exact fun d z h => (eb_S_l3Pairs_10 d.1 d.2.1 d.2.2.1 d.2.2.2.1 d.2.2.2.2.1 d.2.2.2.2.2.1 d.2.2.2.2.2.2.1 d.2.2.2.2.2.2.2.1 d.2.2.2.2.2.2.2.2.1 d.2.2.2.2.2.2.2.2.2.1).trans h), trivial⟩) (fun x => ef_S_l3Pairs x.1 x.2.1)
noncomputable def sh_S_ChurnOf_5 : List Sh := mkSh 47 [(0, .val S_S_string .b), (4, .val S_S_int (.row (.row .b))), (5, .val (.int .i64) .b)]
noncomputable def o_S_ChurnOf_5 : List Out := [⟨.exit 0, ⟨[], [4], []⟩, mkSh 47 [(4, .val S_S_int (.row (.row .b)))]⟩]
noncomputable def b_S_ChurnOf_5 (t0 : PV S_S_string) (t4 : PV S_S_int) (t5 : PV (.int .i64)) : Option ((PV S_S_string × PV S_S_int × PV (.int .i64) × Unit) ⊕ ((PV S_S_int × Unit))) :=
  bif (decide (t5 < (t0.length : Int))) then
    bif inB (IntKind.wrap .i64 (t5 - 1)) t0.length then
      bif inB t5 t0.length then
        (f_S_l3Pairs (t0.getD ((IntKind.wrap .i64 (t5 - 1)).toNat) []) (t0.getD t5.toNat [])).bind fun r8 =>
          bif inB (IntKind.wrap .i64 (t5 - 1)) t0.length then
            bif inB t5 t0.length then
              bif roomB (t4.length + [[(IntKind.wrap .i64 (((t0.getD ((IntKind.wrap .i64 (t5 - 1)).toNat) []).length : Int) - (r8.1.1.length : Int))), (IntKind.wrap .i64 (((t0.getD t5.toNat []).length : Int) - (r8.1.1.length : Int)))]].length) then
                some (.inl (t0, (t4 ++ [[(IntKind.wrap .i64 (((t0.getD ((IntKind.wrap .i64 (t5 - 1)).toNat) []).length : Int) - (r8.1.1.length : Int))), (IntKind.wrap .i64 (((t0.getD t5.toNat []).length : Int) - (r8.1.1.length : Int)))]]), (IntKind.wrap .i64 (t5 + 1)), ()))
              else
                none
            else
              none
          else
            none
      else
        none
    else
      none
  else
    some (.inr (t4, ()))
noncomputable def w_S_ChurnOf_5 : PV S_S_string × PV S_S_int × PV (.int .i64) × Unit → Option ((PV S_S_int × Unit)) := fix fun d => b_S_ChurnOf_5 d.1 d.2.1 d.2.2.1
noncomputable def lp_S_ChurnOf_5 : Lp := ⟨⟨[], [0, 4, 5], []⟩, sh_S_ChurnOf_5, o_S_ChurnOf_5, fun d => b_S_ChurnOf_5 d.1 d.2.1 d.2.2.1⟩
noncomputable def pl_S_ChurnOf : Plan := ⟨[], [(5, lp_S_ChurnOf_5)], 0, 0⟩
noncomputable def f_S_ChurnOf (t0 : PV S_S_string) : Option (PVs [S_S_int, .bool] × PVs []) :=
  (f_S_l12Good t0).bind fun r4 =>
    bif (!r4.1.1) then
      some (([], false, ()), ())
    else
      (w_S_ChurnOf_5 (t0, [], 1, ())).bind fun l10 =>
        some ((l10.1, true, ()), ())
noncomputable def ct_S_ChurnOf : Ct := ⟨[(.bor, S_S_string)], [(S_S_int, .b), (.bool, .b)], fun x => f_S_ChurnOf x.1⟩
noncomputable def cx_S_ChurnOf : Cx := ⟨tab, arrs, [(51, ct_S_l12Good), (52, ct_S_l3Pairs)], [], gl, []⟩
theorem eb_S_ChurnOf_5 (t0 : PV S_S_string) (t4 : PV S_S_int) (t5 : PV (.int .i64)) : denK cx_S_ChurnOf (rcN cx_S_ChurnOf 0) pl_S_ChurnOf 0 ((loopsOf (bodyOf Try.f15)).getD 0 .skip) (fillS sh_S_ChurnOf_5 (t0, t4, t5, ())) (roundK 0 lp_S_ChurnOf_5) = b_S_ChurnOf_5 t0 t4 t5 := by kernel_rfl
theorem ef_S_ChurnOf (t0 : PV S_S_string) : denF cx_S_ChurnOf 0 pl_S_ChurnOf Try.f15.ntmps (bodyOf Try.f15) Try.f15.results.toList [(.bor, S_S_string)] [(S_S_int, .b), (.bool, .b)] (t0, ()) = f_S_ChurnOf t0 := by kernel_rfl
theorem ok_S_ChurnOf : FnOk gl Try.prog 15 ct_S_ChurnOf :=
  fnOk (cx := cx_S_ChurnOf) (pl := pl_S_ChurnOf) (dp := 0) (ok0_of tabOk (by unfold ArrOk; kernel_rfl) mix ⟨ok_S_l12Good, ok_S_l3Pairs, trivial⟩ trivial) Try.func15 (by kernel_rfl) (by kernel_rfl) (by kernel_rfl)
    (by rw [show loopsOf (bodyOf Try.f15) = [((loopsOf (bodyOf Try.f15)).getD 0 .skip)] from by kernel_rfl]; exact ⟨(by rw [show lookup pl_S_ChurnOf.loops (firstId ((loopsOf (bodyOf Try.f15)).getD 0 .skip)) = some lp_S_ChurnOf_5 from by kernel_rfl]; exact fun d z h => (eb_S_ChurnOf_5 d.1 d.2.1 d.2.2.1).trans h), trivial⟩) (fun x => ef_S_ChurnOf x.1)
noncomputable def sh_L_sameInts_4 : List Sh := mkSh 26 [(0, .val S_int .b), (1, .val S_int .b), (12, .val (.int .i64) .b), (13, .val (.int .i64) .b)]
noncomputable def o_L_sameInts_4 : List Out := [⟨.exit 0, ⟨[], [], []⟩, mkSh 26 []⟩, ⟨.ret, ⟨[], [4], []⟩, mkSh 26 [(4, .val .bool .b)]⟩]
noncomputable def b_L_sameInts_4 (t0 : PV S_int) (t1 : PV S_int) (t12 : PV (.int .i64)) (t13 : PV (.int .i64)) : Option ((PV S_int × PV S_int × PV (.int .i64) × PV (.int .i64) × Unit) ⊕ ((Unit) ⊕ (PV .bool × Unit))) :=
  bif (decide (t13 < t12)) then
    bif inB t13 t0.length then
      bif inB t13 t1.length then
        bif (!((t0.getD t13.toNat (0 : Int)) == (t1.getD t13.toNat (0 : Int)))) then
          some (.inr (.inr (false, ())))
        else
          some (.inl (t0, t1, t12, (IntKind.wrap .i64 (t13 + 1)), ()))
      else
        none
    else
      none
  else
    some (.inr (.inl ()))
noncomputable def w_L_sameInts_4 : PV S_int × PV S_int × PV (.int .i64) × PV (.int .i64) × Unit → Option ((Unit) ⊕ (PV .bool × Unit)) := fix fun d => b_L_sameInts_4 d.1 d.2.1 d.2.2.1 d.2.2.2.1
noncomputable def lp_L_sameInts_4 : Lp := ⟨⟨[], [0, 1, 12, 13], []⟩, sh_L_sameInts_4, o_L_sameInts_4, fun d => b_L_sameInts_4 d.1 d.2.1 d.2.2.1 d.2.2.2.1⟩
noncomputable def pl_L_sameInts : Plan := ⟨[], [(4, lp_L_sameInts_4)], 0, 0⟩
noncomputable def f_L_sameInts (t0 : PV S_int) (t1 : PV S_int) : Option (PVs [.bool] × PVs []) :=
  bif (!((t0.length : Int) == (t1.length : Int))) then
    some ((false, ()), ())
  else
    (w_L_sameInts_4 (t0, t1, (t0.length : Int), 0, ())).bind fun x5 =>
      match x5 with
      | .inl l3 =>
        some ((true, ()), ())
      | .inr l4 =>
        some ((l4.1, ()), ())
noncomputable def ct_L_sameInts : Ct := ⟨[(.bor, S_int), (.bor, S_int)], [(.bool, .b)], fun x => f_L_sameInts x.1 x.2.1⟩
noncomputable def cx_L_sameInts : Cx := ⟨tab, arrs, [], [], gl, []⟩
theorem eb_L_sameInts_4 (t0 : PV S_int) (t1 : PV S_int) (t12 : PV (.int .i64)) (t13 : PV (.int .i64)) : denK cx_L_sameInts (rcN cx_L_sameInts 0) pl_L_sameInts 0 ((loopsOf (bodyOf Try.f24)).getD 0 .skip) (fillS sh_L_sameInts_4 (t0, t1, t12, t13, ())) (roundK 0 lp_L_sameInts_4) = b_L_sameInts_4 t0 t1 t12 t13 := by kernel_rfl
theorem ef_L_sameInts (t0 : PV S_int) (t1 : PV S_int) : denF cx_L_sameInts 0 pl_L_sameInts Try.f24.ntmps (bodyOf Try.f24) Try.f24.results.toList [(.bor, S_int), (.bor, S_int)] [(.bool, .b)] (t0, t1, ()) = f_L_sameInts t0 t1 := by kernel_rfl
theorem ok_L_sameInts : FnOk gl Try.prog 24 ct_L_sameInts :=
  fnOk (cx := cx_L_sameInts) (pl := pl_L_sameInts) (dp := 0) (ok0_of tabOk (by unfold ArrOk; kernel_rfl) mix trivial trivial) Try.func24 (by kernel_rfl) (by kernel_rfl) (by kernel_rfl)
    (by rw [show loopsOf (bodyOf Try.f24) = [((loopsOf (bodyOf Try.f24)).getD 0 .skip)] from by kernel_rfl]; exact ⟨(by rw [show lookup pl_L_sameInts.loops (firstId ((loopsOf (bodyOf Try.f24)).getD 0 .skip)) = some lp_L_sameInts_4 from by kernel_rfl]; exact fun d z h => (eb_L_sameInts_4 d.1 d.2.1 d.2.2.1 d.2.2.2.1).trans h), trivial⟩) (fun x => ef_L_sameInts x.1 x.2.1)
noncomputable def sh_L_sameLists_4 : List Sh := mkSh 27 [(0, .val S_S_int .b), (1, .val S_S_int .b), (12, .val (.int .i64) .b), (13, .val (.int .i64) .b)]
noncomputable def o_L_sameLists_4 : List Out := [⟨.exit 0, ⟨[], [], []⟩, mkSh 27 []⟩, ⟨.ret, ⟨[], [4], []⟩, mkSh 27 [(4, .val .bool .b)]⟩]
noncomputable def b_L_sameLists_4 (t0 : PV S_S_int) (t1 : PV S_S_int) (t12 : PV (.int .i64)) (t13 : PV (.int .i64)) : Option ((PV S_S_int × PV S_S_int × PV (.int .i64) × PV (.int .i64) × Unit) ⊕ ((Unit) ⊕ (PV .bool × Unit))) :=
  bif (decide (t13 < t12)) then
    bif inB t13 t0.length then
      bif inB t13 t1.length then
        (f_L_sameInts (t0.getD t13.toNat []) (t1.getD t13.toNat [])).bind fun r4 =>
          bif (!r4.1.1) then
            some (.inr (.inr (false, ())))
          else
            some (.inl (t0, t1, t12, (IntKind.wrap .i64 (t13 + 1)), ()))
      else
        none
    else
      none
  else
    some (.inr (.inl ()))
noncomputable def w_L_sameLists_4 : PV S_S_int × PV S_S_int × PV (.int .i64) × PV (.int .i64) × Unit → Option ((Unit) ⊕ (PV .bool × Unit)) := fix fun d => b_L_sameLists_4 d.1 d.2.1 d.2.2.1 d.2.2.2.1
noncomputable def lp_L_sameLists_4 : Lp := ⟨⟨[], [0, 1, 12, 13], []⟩, sh_L_sameLists_4, o_L_sameLists_4, fun d => b_L_sameLists_4 d.1 d.2.1 d.2.2.1 d.2.2.2.1⟩
noncomputable def pl_L_sameLists : Plan := ⟨[], [(4, lp_L_sameLists_4)], 0, 0⟩
noncomputable def f_L_sameLists (t0 : PV S_S_int) (t1 : PV S_S_int) : Option (PVs [.bool] × PVs []) :=
  bif (!((t0.length : Int) == (t1.length : Int))) then
    some ((false, ()), ())
  else
    (w_L_sameLists_4 (t0, t1, (t0.length : Int), 0, ())).bind fun x9 =>
      match x9 with
      | .inl l7 =>
        some ((true, ()), ())
      | .inr l8 =>
        some ((l8.1, ()), ())
noncomputable def ct_L_sameLists : Ct := ⟨[(.bor, S_S_int), (.bor, S_S_int)], [(.bool, .b)], fun x => f_L_sameLists x.1 x.2.1⟩
noncomputable def cx_L_sameLists : Cx := ⟨tab, arrs, [(24, ct_L_sameInts)], [], gl, []⟩
theorem eb_L_sameLists_4 (t0 : PV S_S_int) (t1 : PV S_S_int) (t12 : PV (.int .i64)) (t13 : PV (.int .i64)) : denK cx_L_sameLists (rcN cx_L_sameLists 0) pl_L_sameLists 0 ((loopsOf (bodyOf Try.f16)).getD 0 .skip) (fillS sh_L_sameLists_4 (t0, t1, t12, t13, ())) (roundK 0 lp_L_sameLists_4) = b_L_sameLists_4 t0 t1 t12 t13 := by kernel_rfl
theorem ef_L_sameLists (t0 : PV S_S_int) (t1 : PV S_S_int) : denF cx_L_sameLists 0 pl_L_sameLists Try.f16.ntmps (bodyOf Try.f16) Try.f16.results.toList [(.bor, S_S_int), (.bor, S_S_int)] [(.bool, .b)] (t0, t1, ()) = f_L_sameLists t0 t1 := by kernel_rfl
theorem ok_L_sameLists : FnOk gl Try.prog 16 ct_L_sameLists :=
  fnOk (cx := cx_L_sameLists) (pl := pl_L_sameLists) (dp := 0) (ok0_of tabOk (by unfold ArrOk; kernel_rfl) mix ⟨ok_L_sameInts, trivial⟩ trivial) Try.func16 (by kernel_rfl) (by kernel_rfl) (by kernel_rfl)
    (by rw [show loopsOf (bodyOf Try.f16) = [((loopsOf (bodyOf Try.f16)).getD 0 .skip)] from by kernel_rfl]; exact ⟨(by rw [show lookup pl_L_sameLists.loops (firstId ((loopsOf (bodyOf Try.f16)).getD 0 .skip)) = some lp_L_sameLists_4 from by kernel_rfl]; exact fun d z h => (eb_L_sameLists_4 d.1 d.2.1 d.2.2.1 d.2.2.2.1).trans h), trivial⟩) (fun x => ef_L_sameLists x.1 x.2.1)
noncomputable def pl_I_farApart : Plan := ⟨[], [], 0, 0⟩
noncomputable def f_I_farApart (t0 : PV S_string) (t1 : PV S_string) : Option (PVs [(.int .i64)] × PVs []) :=
  (f_I_common t0 t1).bind fun r1 =>
    bif inB 0 r1.1.1.length then
      bif inB 0 (r1.1.1.getD ((0 : Int).toNat) []).length then
        some (((IntKind.wrap .i64 ((IntKind.wrap .i64 ((t0.length : Int) + (t1.length : Int))) - (IntKind.wrap .i64 (2 * ((r1.1.1.getD ((0 : Int).toNat) []).getD ((0 : Int).toNat) (0 : Int)))))), ()), ())
      else
        none
    else
      none
noncomputable def ct_I_farApart : Ct := ⟨[(.bor, S_string), (.bor, S_string)], [((.int .i64), .b)], fun x => f_I_farApart x.1 x.2.1⟩
noncomputable def cx_I_farApart : Cx := ⟨tab, arrs, [(50, ct_I_common)], [], gl, []⟩
theorem ef_I_farApart (t0 : PV S_string) (t1 : PV S_string) : denF cx_I_farApart 0 pl_I_farApart Try.f53.ntmps (bodyOf Try.f53) Try.f53.results.toList [(.bor, S_string), (.bor, S_string)] [((.int .i64), .b)] (t0, t1, ()) = f_I_farApart t0 t1 := by kernel_rfl
theorem ok_I_farApart : FnOk gl Try.prog 53 ct_I_farApart :=
  fnOk (cx := cx_I_farApart) (pl := pl_I_farApart) (dp := 0) (ok0_of tabOk (by unfold ArrOk; kernel_rfl) mix ⟨ok_I_common, trivial⟩ trivial) Try.func53 (by kernel_rfl) (by kernel_rfl) (by kernel_rfl)
    (by rw [show loopsOf (bodyOf Try.f53) = [] from by kernel_rfl]; exact trivial) (fun x => ef_I_farApart x.1 x.2.1)
noncomputable def o_I_FarApart_2 : List Out := [⟨.normal, ⟨[], [0, 1, 13], []⟩, mkSh 17 [(0, .val S_string .b), (1, .val S_string .b), (13, .val .bool .b)]⟩]
noncomputable def pl_I_FarApart : Plan := ⟨[(2, o_I_FarApart_2)], [], 0, 0⟩
noncomputable def f_I_FarApart (t0 : PV S_string) (t1 : PV S_string) : Option (PVs [(.int .i64), .bool] × PVs []) :=
  ((
      (f_I_goodLines t0).bind fun r6 =>
        bif (!r6.1.1) then
          some (t0, t1, true, ())
        else
          (f_I_goodLines t1).bind fun r7 =>
            some (t0, t1, (!r7.1.1), ()) : Option ((PV S_string × PV S_string × PV .bool × Unit)))).bind fun j8 =>
    bif j8.2.2.1 then
      some ((0, false, ()), ())
    else
      (f_I_farApart j8.1 j8.2.1).bind fun r9 =>
        some ((r9.1.1, true, ()), ())
noncomputable def ct_I_FarApart : Ct := ⟨[(.bor, S_string), (.bor, S_string)], [((.int .i64), .b), (.bool, .b)], fun x => f_I_FarApart x.1 x.2.1⟩
noncomputable def cx_I_FarApart : Cx := ⟨tab, arrs, [(40, ct_I_goodLines), (53, ct_I_farApart)], [], gl, []⟩
theorem ef_I_FarApart (t0 : PV S_string) (t1 : PV S_string) : denF cx_I_FarApart 0 pl_I_FarApart Try.f17.ntmps (bodyOf Try.f17) Try.f17.results.toList [(.bor, S_string), (.bor, S_string)] [((.int .i64), .b), (.bool, .b)] (t0, t1, ()) = f_I_FarApart t0 t1 := by kernel_rfl
theorem ok_I_FarApart : FnOk gl Try.prog 17 ct_I_FarApart :=
  fnOk (cx := cx_I_FarApart) (pl := pl_I_FarApart) (dp := 0) (ok0_of tabOk (by unfold ArrOk; kernel_rfl) mix ⟨ok_I_goodLines, ok_I_farApart, trivial⟩ trivial) Try.func17 (by kernel_rfl) (by kernel_rfl) (by kernel_rfl)
    (by rw [show loopsOf (bodyOf Try.f17) = [] from by kernel_rfl]; exact trivial) (fun x => ef_I_FarApart x.1 x.2.1)
noncomputable def pl_S_DrawTraceLine : Plan := ⟨[], [], 0, 0⟩
noncomputable def f_S_DrawTraceLine (t0 : PV S_uint8) : Option (PVs [S_S_string, (.int .i64), (.int .i64)] × PVs []) :=
  (f_S_l1Cur_versions (t0, (0, (0, ())))).bind fun r1 =>
    (f_S_l1Cur_pick r1.2.1 4).bind fun r2 =>
      (f_S_l1Cur_pick r2.2.1 8).bind fun r3 =>
        (f_S_l1Cur_pick r3.2.1 20).bind fun r4 =>
          bif 19 == 0 then
            none
          else
            some ((r1.1.1, r2.1.1, (IntKind.wrap .i64 (r3.1.1 - (IntKind.wrap .i64 (r4.1.1.tdiv 19)))), ()), ())
noncomputable def ct_S_DrawTraceLine : Ct := ⟨[(.bor, S_uint8)], [(S_S_string, .b), ((.int .i64), .b), ((.int .i64), .b)], fun x => f_S_DrawTraceLine x.1⟩
noncomputable def cx_S_DrawTraceLine : Cx := ⟨tab, arrs, [(54, ct_S_l1Cur_versions), (55, ct_S_l1Cur_pick)], [], gl, []⟩
theorem ef_S_DrawTraceLine (t0 : PV S_uint8) : denF cx_S_DrawTraceLine 0 pl_S_DrawTraceLine Try.f18.ntmps (bodyOf Try.f18) Try.f18.results.toList [(.bor, S_uint8)] [(S_S_string, .b), ((.int .i64), .b), ((.int .i64), .b)] (t0, ()) = f_S_DrawTraceLine t0 := by kernel_rfl
theorem ok_S_DrawTraceLine : FnOk gl Try.prog 18 ct_S_DrawTraceLine :=
  fnOk (cx := cx_S_DrawTraceLine) (pl := pl_S_DrawTraceLine) (dp := 0) (ok0_of tabOk (by unfold ArrOk; kernel_rfl) mix ⟨ok_S_l1Cur_versions, ok_S_l1Cur_pick, trivial⟩ trivial) Try.func18 (by kernel_rfl) (by kernel_rfl) (by kernel_rfl)
    (by rw [show loopsOf (bodyOf Try.f18) = [] from by kernel_rfl]; exact trivial) (fun x => ef_S_DrawTraceLine x.1)
noncomputable def o_I_commonLines_10 : List Out := [⟨.normal, ⟨[], [0, 1, 5, 6, 7, 8, 9, 10, 21, 22, 31, 32, 58], []⟩, mkSh 71 [(0, .val S_string .b), (1, .val S_string .b), (5, .val S_S_int (.row (.row .b))), (6, .val S_S_int (.row (.row .b))), (7, .val (.int .i64) .b), (8, .val (.int .i64) .b), (9, .val (.int .i64) .b), (10, .val (.int .i64) .b), (21, .val (.int .i64) .b), (22, .val (.int .i64) .b), (31, .val (.int .i64) .b), (32, .val .bool .b), (58, .val .bool .b)]⟩]
noncomputable def sh_I_commonLines_7 : List Sh := mkSh 71 [(0, .val S_string .b), (1, .val S_string .b), (5, .val S_S_int (.row (.row .b))), (6, .val S_S_int (.row (.row .b))), (7, .val (.int .i64) .b), (8, .val (.int .i64) .b), (9, .val (.int .i64) .b), (10, .val (.int .i64) .b), (21, .val (.int .i64) .b), (22, .val (.int .i64) .b)]
noncomputable def o_I_commonLines_7 : List Out := [⟨.exit 2, ⟨[], [0, 1, 5, 6, 7, 8, 21, 22, 46, 47, 48, 49, 50, 51, 52, 53, 54, 55, 56, 57], []⟩, mkSh 71 [(0, .val S_string .b), (1, .val S_string .b), (5, .val S_S_int (.row (.row .b))), (6, .val S_S_int (.row (.row .b))), (7, .val (.int .i64) .b), (8, .val (.int .i64) .b), (21, .val (.int .i64) .b), (22, .val (.int .i64) .b)]⟩]
noncomputable def b_I_commonLines_7 (t0 : PV S_string) (t1 : PV S_string) (t5 : PV S_S_int) (t6 : PV S_S_int) (t7 : PV (.int .i64)) (t8 : PV (.int .i64)) (t9 : PV (.int .i64)) (t10 : PV (.int .i64)) (t21 : PV (.int .i64)) (t22 : PV (.int .i64)) : Option ((PV S_string × PV S_string × PV S_S_int × PV S_S_int × PV (.int .i64) × PV (.int .i64) × PV (.int .i64) × PV (.int .i64) × PV (.int .i64) × PV (.int .i64) × Unit) ⊕ ((PV S_string × PV S_string × PV S_S_int × PV S_S_int × PV (.int .i64) × PV (.int .i64) × PV (.int .i64) × PV (.int .i64) × Unit))) :=
  bif (decide (t10 < (t1.length : Int))) then
    bif (decide (t8 > 0)) then
      ((
          bif inB t9 t0.length then
            bif inB t10 t1.length then
              bif ((t0.getD t9.toNat []) == (t1.getD t10.toNat [])) then
                bif inB (IntKind.wrap .i64 (t9 + 1)) t5.length then
                  bif inB (IntKind.wrap .i64 (t10 + 1)) (t5.getD ((IntKind.wrap .i64 (t9 + 1)).toNat) []).length then
                    some (t0, t1, t5, t6, t7, t8, t9, t10, t21, t22, t8, (decide (t8 > 0)), (((t5.getD ((IntKind.wrap .i64 (t9 + 1)).toNat) []).getD ((IntKind.wrap .i64 (t10 + 1)).toNat) (0 : Int)) == (IntKind.wrap .i64 (t8 - 1))), ())
                  else
                    none
                else
                  none
              else
                some (t0, t1, t5, t6, t7, t8, t9, t10, t21, t22, t8, (decide (t8 > 0)), false, ())
            else
              none
          else
            none : Option ((PV S_string × PV S_string × PV S_S_int × PV S_S_int × PV (.int .i64) × PV (.int .i64) × PV (.int .i64) × PV (.int .i64) × PV (.int .i64) × PV (.int .i64) × PV (.int .i64) × PV .bool × PV .bool × Unit)))).bind fun j6 =>
        bif j6.2.2.2.2.2.2.2.2.2.2.2.2.1 then
          bif roomB (j6.2.2.2.1.length + [[j6.2.2.2.2.2.2.1, j6.2.2.2.2.2.2.2.1]].length) then
            some (.inr (j6.1, j6.2.1, j6.2.2.1, (j6.2.2.2.1 ++ [[j6.2.2.2.2.2.2.1, j6.2.2.2.2.2.2.2.1]]), (IntKind.wrap .i64 (j6.2.2.2.2.2.2.2.1 + 1)), (IntKind.wrap .i64 (j6.2.2.2.2.2.1 - 1)), j6.2.2.2.2.2.2.2.2.1, j6.2.2.2.2.2.2.2.2.2.1, ()))
          else
            none
        else
          some (.inl (j6.1, j6.2.1, j6.2.2.1, j6.2.2.2.1, j6.2.2.2.2.1, j6.2.2.2.2.2.1, j6.2.2.2.2.2.2.1, (IntKind.wrap .i64 (j6.2.2.2.2.2.2.2.1 + 1)), j6.2.2.2.2.2.2.2.2.1, j6.2.2.2.2.2.2.2.2.2.1, ()))
    else
      some (.inr (t0, t1, t5, t6, t7, t8, t21, t22, ()))
  else
    some (.inr (t0, t1, t5, t6, t7, t8, t21, t22, ()))
noncomputable def w_I_commonLines_7 : PV S_string × PV S_string × PV S_S_int × PV S_S_int × PV (.int .i64) × PV (.int .i64) × PV (.int .i64) × PV (.int .i64) × PV (.int .i64) × PV (.int .i64) × Unit → Option ((PV S_string × PV S_string × PV S_S_int × PV S_S_int × PV (.int .i64) × PV (.int .i64) × PV (.int .i64) × PV (.int .i64) × Unit)) := fix fun d => b_I_commonLines_7 d.1 d.2.1 d.2.2.1 d.2.2.2.1 d.2.2.2.2.1 d.2.2.2.2.2.1 d.2.2.2.2.2.2.1 d.2.2.2.2.2.2.2.1 d.2.2.2.2.2.2.2.2.1 d.2.2.2.2.2.2.2.2.2.1
noncomputable def lp_I_commonLines_7 : Lp := ⟨⟨[], [0, 1, 5, 6, 7, 8, 9, 10, 21, 22, 46, 47, 48, 49, 50, 51, 52, 53, 54, 55, 56, 57], []⟩, sh_I_commonLines_7, o_I_commonLines_7, fun d => b_I_commonLines_7 d.1 d.2.1 d.2.2.1 d.2.2.2.1 d.2.2.2.2.1 d.2.2.2.2.2.1 d.2.2.2.2.2.2.1 d.2.2.2.2.2.2.2.1 d.2.2.2.2.2.2.2.2.1 d.2.2.2.2.2.2.2.2.2.1⟩
noncomputable def sh_I_commonLines_4 : List Sh := mkSh 71 [(0, .val S_string .b), (1, .val S_string .b), (5, .val S_S_int (.row (.row .b))), (6, .val S_S_int (.row (.row .b))), (7, .val (.int .i64) .b), (8, .val (.int .i64) .b), (21, .val (.int .i64) .b), (22, .val (.int .i64) .b)]
noncomputable def o_I_commonLines_4 : List Out := [⟨.exit 0, ⟨[], [6], []⟩, mkSh 71 [(6, .val S_S_int (.row (.row .b)))]⟩]
noncomputable def b_I_commonLines_4 (t0 : PV S_string) (t1 : PV S_string) (t5 : PV S_S_int) (t6 : PV S_S_int) (t7 : PV (.int .i64)) (t8 : PV (.int .i64)) (t21 : PV (.int .i64)) (t22 : PV (.int .i64)) : Option ((PV S_string × PV S_string × PV S_S_int × PV S_S_int × PV (.int .i64) × PV (.int .i64) × PV (.int .i64) × PV (.int .i64) × Unit) ⊕ ((PV S_S_int × Unit))) :=
  bif (decide (t22 < t21)) then
    (w_I_commonLines_7 (t0, t1, t5, t6, t7, t8, t22, t7, t21, t22, ())).bind fun l4 =>
      some (.inl (l4.1, l4.2.1, l4.2.2.1, l4.2.2.2.1, l4.2.2.2.2.1, l4.2.2.2.2.2.1, l4.2.2.2.2.2.2.1, (IntKind.wrap .i64 (l4.2.2.2.2.2.2.2.1 + 1)), ()))
  else
    some (.inr (t6, ()))
noncomputable def w_I_commonLines_4 : PV S_string × PV S_string × PV S_S_int × PV S_S_int × PV (.int .i64) × PV (.int .i64) × PV (.int .i64) × PV (.int .i64) × Unit → Option ((PV S_S_int × Unit)) := fix fun d => b_I_commonLines_4 d.1 d.2.1 d.2.2.1 d.2.2.2.1 d.2.2.2.2.1 d.2.2.2.2.2.1 d.2.2.2.2.2.2.1 d.2.2.2.2.2.2.2.1
noncomputable def lp_I_commonLines_4 : Lp := ⟨⟨[], [0, 1, 5, 6, 7, 8, 21, 22, 31, 32, 46, 47, 48, 49, 50, 51, 52, 53, 54, 55, 56, 57], []⟩, sh_I_commonLines_4, o_I_commonLines_4, fun d => b_I_commonLines_4 d.1 d.2.1 d.2.2.1 d.2.2.2.1 d.2.2.2.2.1 d.2.2.2.2.2.1 d.2.2.2.2.2.2.1 d.2.2.2.2.2.2.2.1⟩
noncomputable def pl_I_commonLines : Plan := ⟨[(10, o_I_commonLines_10)], [(7, lp_I_commonLines_7), (4, lp_I_commonLines_4)], 0, 0⟩
noncomputable def f_I_commonLines (t0 : PV S_string) (t1 : PV S_string) : Option (PVs [S_S_int] × PVs []) :=
  (f_I_common t0 t1).bind fun r2 =>
    bif inB 0 r2.1.1.length then
      bif inB 0 (r2.1.1.getD ((0 : Int).toNat) []).length then
        (w_I_commonLines_4 (t0, t1, r2.1.1, ([] : PV S_S_int), 0, ((r2.1.1.getD ((0 : Int).toNat) []).getD ((0 : Int).toNat) (0 : Int)), (t0.length : Int), 0, ())).bind fun l6 =>
          some ((l6.1, ()), ())
      else
        none
    else
      none
noncomputable def ct_I_commonLines : Ct := ⟨[(.bor, S_string), (.bor, S_string)], [(S_S_int, (.row (.row .b)))], fun x => f_I_commonLines x.1 x.2.1⟩
noncomputable def cx_I_commonLines : Cx := ⟨tab, arrs, [(50, ct_I_common)], [], gl, []⟩
theorem eb_I_commonLines_4 (t0 : PV S_string) (t1 : PV S_string) (t5 : PV S_S_int) (t6 : PV S_S_int) (t7 : PV (.int .i64)) (t8 : PV (.int .i64)) (t21 : PV (.int .i64)) (t22 : PV (.int .i64)) : denK cx_I_commonLines (rcN cx_I_commonLines 0) pl_I_commonLines 0 ((loopsOf (bodyOf Try.f130)).getD 0 .skip) (fillS sh_I_commonLines_4 (t0, t1, t5, t6, t7, t8, t21, t22, ())) (roundK 0 lp_I_commonLines_4) = b_I_commonLines_4 t0 t1 t5 t6 t7 t8 t21 t22 := by kernel_rfl
theorem eb_I_commonLines_7 (t0 : PV S_string) (t1 : PV S_string) (t5 : PV S_S_int) (t6 : PV S_S_int) (t7 : PV (.int .i64)) (t8 : PV (.int .i64)) (t9 : PV (.int .i64)) (t10 : PV (.int .i64)) (t21 : PV (.int .i64)) (t22 : PV (.int .i64)) : denK cx_I_commonLines (rcN cx_I_commonLines 0) pl_I_commonLines 0 ((loopsOf (bodyOf Try.f130)).getD 1 .skip) (fillS sh_I_commonLines_7 (t0, t1, t5, t6, t7, t8, t9, t10, t21, t22, ())) (roundK 0 lp_I_commonLines_7) = b_I_commonLines_7 t0 t1 t5 t6 t7 t8 t9 t10 t21 t22 := by kernel_rfl
theorem ef_I_commonLines (t0 : PV S_string) (t1 : PV S_string) : denF cx_I_commonLines 0 pl_I_commonLines Try.f130.ntmps (bodyOf Try.f130) Try.f130.results.toList [(.bor, S_string), (.bor, S_string)] [(S_S_int, (.row (.row .b)))] (t0, t1, ()) = f_I_commonLines t0 t1 := by kernel_rfl
theorem ok_I_commonLines : FnOk gl Try.prog 130 ct_I_commonLines :=
  fnOk (cx := cx_I_commonLines) (pl := pl_I_commonLines) (dp := 0) (ok0_of tabOk (by unfold ArrOk; kernel_rfl) mix ⟨ok_I_common, trivial⟩ trivial) Try.func130 (by kernel_rfl) (by kernel_rfl) (by kernel_rfl)
    (by rw [show loopsOf (bodyOf Try.f130) = [((loopsOf (bodyOf Try.f130)).getD 0 .skip), ((loopsOf (bodyOf Try.f130)).getD 1 .skip)] from by kernel_rfl]; exact ⟨(by rw [show lookup pl_I_commonLines.loops (firstId ((loopsOf (bodyOf Try.f130)).getD 0 .skip)) = some lp_I_commonLines_4 from by kernel_rfl]; exact fun d z h => (eb_I_commonLines_4 d.1 d.2.1 d.2.2.1 d.2.2.2.1 d.2.2.2.2.1 d.2.2.2.2.2.1 d.2.2.2.2.2.2.1 d.2.2.2.2.2.2.2.1).trans h), (by rw [show lookup pl_I_commonLines.loops (firstId ((loopsOf (bodyOf Try.f130)).getD 1 .skip)) = some lp_I_commonLines_7 from by kernel_rfl]; exact fun d z h => (eb_I_commonLines_7 d.1 d.2.1 d.2.2.1 d.2.2.2.1 d.2.2.2.2.1 d.2.2.2.2.2.1 d.2.2.2.2.2.2.1 d.2.2.2.2.2.2.2.1 d.2.2.2.2.2.2.2.2.1 d.2.2.2.2.2.2.2.2.2.1).trans h), trivial⟩) (fun x => ef_I_commonLines x.1 x.2.1)
noncomputable def sh_I_mates_3 : List Sh := mkSh 30 [(5, .val S_int (.row .b)), (14, .val S_S_int (.row (.row .b))), (15, .val (.int .i64) .b), (16, .val (.int .i64) .b)]
noncomputable def o_I_mates_3 : List Out := [⟨.exit 0, ⟨[], [5], []⟩, mkSh 30 [(5, .val S_int (.row .b))]⟩]
noncomputable def b_I_mates_3 (t5 : PV S_int) (t14 : PV S_S_int) (t15 : PV (.int .i64)) (t16 : PV (.int .i64)) : Option ((PV S_int × PV S_S_int × PV (.int .i64) × PV (.int .i64) × Unit) ⊕ ((PV S_int × Unit))) :=
  bif (decide (t16 < t15)) then
    bif inB t16 t14.length then
      bif inB 0 (t14.getD t16.toNat []).length then
        bif inB 1 (t14.getD t16.toNat []).length then
          bif inB ((t14.getD t16.toNat []).getD ((0 : Int).toNat) (0 : Int)) t5.length then
            some (.inl ((t5.set (((t14.getD t16.toNat []).getD ((0 : Int).toNat) (0 : Int)).toNat) ((t14.getD t16.toNat []).getD ((1 : Int).toNat) (0 : Int))), t14, t15, (IntKind.wrap .i64 (t16 + 1)), ()))
          else
            none
        else
          none
      else
        none
    else
      none
  else
    some (.inr (t5, ()))
noncomputable def w_I_mates_3 : PV S_int × PV S_S_int × PV (.int .i64) × PV (.int .i64) × Unit → Option ((PV S_int × Unit)) := fix fun d => b_I_mates_3 d.1 d.2.1 d.2.2.1 d.2.2.2.1
noncomputable def lp_I_mates_3 : Lp := ⟨⟨[], [5, 14, 15, 16], []⟩, sh_I_mates_3, o_I_mates_3, fun d => b_I_mates_3 d.1 d.2.1 d.2.2.1 d.2.2.2.1⟩
noncomputable def pl_I_mates : Plan := ⟨[], [(3, lp_I_mates_3)], 0, 0⟩
noncomputable def f_I_mates (t0 : PV S_string) (t1 : PV S_string) : Option (PVs [S_int] × PVs []) :=
  (f_slices_Repeat_int [(-1)] (t0.length : Int)).bind fun r2 =>
    (f_I_commonLines t0 t1).bind fun r7 =>
      (w_I_mates_3 (r2.1.1, r7.1.1, (r7.1.1.length : Int), 0, ())).bind fun l8 =>
        some ((l8.1, ()), ())
noncomputable def ct_I_mates : Ct := ⟨[(.bor, S_string), (.bor, S_string)], [(S_int, (.row .b))], fun x => f_I_mates x.1 x.2.1⟩
noncomputable def cx_I_mates : Cx := ⟨tab, arrs, [(129, ct_slices_Repeat_int), (130, ct_I_commonLines)], [], gl, []⟩
theorem eb_I_mates_3 (t5 : PV S_int) (t14 : PV S_S_int) (t15 : PV (.int .i64)) (t16 : PV (.int .i64)) : denK cx_I_mates (rcN cx_I_mates 0) pl_I_mates 0 ((loopsOf (bodyOf Try.f99)).getD 0 .skip) (fillS sh_I_mates_3 (t5, t14, t15, t16, ())) (roundK 0 lp_I_mates_3) = b_I_mates_3 t5 t14 t15 t16 := by kernel_rfl
theorem ef_I_mates (t0 : PV S_string) (t1 : PV S_string) : denF cx_I_mates 0 pl_I_mates Try.f99.ntmps (bodyOf Try.f99) Try.f99.results.toList [(.bor, S_string), (.bor, S_string)] [(S_int, (.row .b))] (t0, t1, ()) = f_I_mates t0 t1 := by kernel_rfl
theorem ok_I_mates : FnOk gl Try.prog 99 ct_I_mates :=
  fnOk (cx := cx_I_mates) (pl := pl_I_mates) (dp := 0) (ok0_of tabOk (by unfold ArrOk; kernel_rfl) mix ⟨ok_slices_Repeat_int, ok_I_commonLines, trivial⟩ trivial) Try.func99 (by kernel_rfl) (by kernel_rfl) (by kernel_rfl)
    (by rw [show loopsOf (bodyOf Try.f99) = [((loopsOf (bodyOf Try.f99)).getD 0 .skip)] from by kernel_rfl]; exact ⟨(by rw [show lookup pl_I_mates.loops (firstId ((loopsOf (bodyOf Try.f99)).getD 0 .skip)) = some lp_I_mates_3 from by kernel_rfl]; exact fun d z h => (eb_I_mates_3 d.1 d.2.1 d.2.2.1 d.2.2.2.1).trans h), trivial⟩) (fun x => ef_I_mates x.1 x.2.1)
noncomputable def sh_I_trace_2 : List Sh := mkSh 37 [(0, .val S_S_string .b), (1, .val (.int .i64) .b), (2, .val (.int .i64) .b), (7, .val S_int (.row .b))]
noncomputable def o_I_trace_2 : List Out := [⟨.exit 0, ⟨[], [7], []⟩, mkSh 37 [(7, .val S_int (.row .b))]⟩]
noncomputable def b_I_trace_2 (t0 : PV S_S_string) (t1 : PV (.int .i64)) (t2 : PV (.int .i64)) (t7 : PV S_int) : Option ((PV S_S_string × PV (.int .i64) × PV (.int .i64) × PV S_int × Unit) ⊕ ((PV S_int × Unit))) :=
  bif (decide ((IntKind.wrap .i64 (t1 + 1)) < (t0.length : Int))) then
    bif inB t1 t0.length then
      bif inB (IntKind.wrap .i64 (t1 + 1)) t0.length then
        (f_I_mates (t0.getD t1.toNat []) (t0.getD ((IntKind.wrap .i64 (t1 + 1)).toNat) [])).bind fun r2 =>
          bif inB t2 r2.1.1.length then
            bif (decide ((r2.1.1.getD t2.toNat (0 : Int)) < 0)) then
              some (.inr (t7, ()))
            else
              bif roomB (t7.length + [(r2.1.1.getD t2.toNat (0 : Int))].length) then
                some (.inl (t0, (IntKind.wrap .i64 (t1 + 1)), (r2.1.1.getD t2.toNat (0 : Int)), (t7 ++ [(r2.1.1.getD t2.toNat (0 : Int))]), ()))
              else
                none
          else
            none
      else
        none
    else
      none
  else
    some (.inr (t7, ()))
noncomputable def w_I_trace_2 : PV S_S_string × PV (.int .i64) × PV (.int .i64) × PV S_int × Unit → Option ((PV S_int × Unit)) := fix fun d => b_I_trace_2 d.1 d.2.1 d.2.2.1 d.2.2.2.1
noncomputable def lp_I_trace_2 : Lp := ⟨⟨[], [0, 1, 2, 7], []⟩, sh_I_trace_2, o_I_trace_2, fun d => b_I_trace_2 d.1 d.2.1 d.2.2.1 d.2.2.2.1⟩
noncomputable def pl_I_trace : Plan := ⟨[], [(2, lp_I_trace_2)], 0, 0⟩
noncomputable def f_I_trace (t0 : PV S_S_string) (t1 : PV (.int .i64)) (t2 : PV (.int .i64)) : Option (PVs [S_int] × PVs []) :=
  (w_I_trace_2 (t0, t1, t2, [t2], ())).bind fun l4 =>
    some ((l4.1, ()), ())
noncomputable def ct_I_trace : Ct := ⟨[(.bor, S_S_string), (.bor, (.int .i64)), (.bor, (.int .i64))], [(S_int, (.row .b))], fun x => f_I_trace x.1 x.2.1 x.2.2.1⟩
noncomputable def cx_I_trace : Cx := ⟨tab, arrs, [(99, ct_I_mates)], [], gl, []⟩
theorem eb_I_trace_2 (t0 : PV S_S_string) (t1 : PV (.int .i64)) (t2 : PV (.int .i64)) (t7 : PV S_int) : denK cx_I_trace (rcN cx_I_trace 0) pl_I_trace 0 ((loopsOf (bodyOf Try.f57)).getD 0 .skip) (fillS sh_I_trace_2 (t0, t1, t2, t7, ())) (roundK 0 lp_I_trace_2) = b_I_trace_2 t0 t1 t2 t7 := by kernel_rfl
theorem ef_I_trace (t0 : PV S_S_string) (t1 : PV (.int .i64)) (t2 : PV (.int .i64)) : denF cx_I_trace 0 pl_I_trace Try.f57.ntmps (bodyOf Try.f57) Try.f57.results.toList [(.bor, S_S_string), (.bor, (.int .i64)), (.bor, (.int .i64))] [(S_int, (.row .b))] (t0, t1, t2, ()) = f_I_trace t0 t1 t2 := by kernel_rfl
theorem ok_I_trace : FnOk gl Try.prog 57 ct_I_trace :=
  fnOk (cx := cx_I_trace) (pl := pl_I_trace) (dp := 0) (ok0_of tabOk (by unfold ArrOk; kernel_rfl) mix ⟨ok_I_mates, trivial⟩ trivial) Try.func57 (by kernel_rfl) (by kernel_rfl) (by kernel_rfl)
    (by rw [show loopsOf (bodyOf Try.f57) = [((loopsOf (bodyOf Try.f57)).getD 0 .skip)] from by kernel_rfl]; exact ⟨(by rw [show lookup pl_I_trace.loops (firstId ((loopsOf (bodyOf Try.f57)).getD 0 .skip)) = some lp_I_trace_2 from by kernel_rfl]; exact fun d z h => (eb_I_trace_2 d.1 d.2.1 d.2.2.1 d.2.2.2.1).trans h), trivial⟩) (fun x => ef_I_trace x.1 x.2.1 x.2.2.1)
noncomputable def o_I_TraceLine_2 : List Out := [⟨.normal, ⟨[], [0, 1, 2, 29], []⟩, mkSh 34 [(0, .val S_S_string .b), (1, .val (.int .i64) .b), (2, .val (.int .i64) .b), (29, .val .bool .b)]⟩]
noncomputable def pl_I_TraceLine : Plan := ⟨[(2, o_I_TraceLine_2)], [], 0, 0⟩
noncomputable def f_I_TraceLine (t0 : PV S_S_string) (t1 : PV (.int .i64)) (t2 : PV (.int .i64)) : Option (PVs [S_int, .bool] × PVs []) :=
  ((
      (f_I_areVersions t0).bind fun r8 =>
        bif (!r8.1.1) then
          some (t0, t1, t2, true, ())
        else
          (f_I_in t1 0 (IntKind.wrap .i64 ((t0.length : Int) - 1))).bind fun r9 =>
            bif (!r9.1.1) then
              some (t0, t1, t2, true, ())
            else
              bif inB t1 t0.length then
                (f_I_in t2 0 (IntKind.wrap .i64 (((t0.getD t1.toNat []).length : Int) - 1))).bind fun r10 =>
                  some (t0, t1, t2, (!r10.1.1), ())
              else
                none : Option ((PV S_S_string × PV (.int .i64) × PV (.int .i64) × PV .bool × Unit)))).bind fun j11 =>
    bif j11.2.2.2.1 then
      some (([], false, ()), ())
    else
      (f_I_trace j11.1 j11.2.1 j11.2.2.1).bind fun r12 =>
        some ((r12.1.1, true, ()), ())
noncomputable def ct_I_TraceLine : Ct := ⟨[(.bor, S_S_string), (.bor, (.int .i64)), (.bor, (.int .i64))], [(S_int, .b), (.bool, .b)], fun x => f_I_TraceLine x.1 x.2.1 x.2.2.1⟩
noncomputable def cx_I_TraceLine : Cx := ⟨tab, arrs, [(49, ct_I_areVersions), (56, ct_I_in), (57, ct_I_trace)], [], gl, []⟩
theorem ef_I_TraceLine (t0 : PV S_S_string) (t1 : PV (.int .i64)) (t2 : PV (.int .i64)) : denF cx_I_TraceLine 0 pl_I_TraceLine Try.f19.ntmps (bodyOf Try.f19) Try.f19.results.toList [(.bor, S_S_string), (.bor, (.int .i64)), (.bor, (.int .i64))] [(S_int, .b), (.bool, .b)] (t0, t1, t2, ()) = f_I_TraceLine t0 t1 t2 := by kernel_rfl
theorem ok_I_TraceLine : FnOk gl Try.prog 19 ct_I_TraceLine :=
  fnOk (cx := cx_I_TraceLine) (pl := pl_I_TraceLine) (dp := 0) (ok0_of tabOk (by unfold ArrOk; kernel_rfl) mix ⟨ok_I_areVersions, ok_I_in, ok_I_trace, trivial⟩ trivial) Try.func19 (by kernel_rfl) (by kernel_rfl) (by kernel_rfl)
    (by rw [show loopsOf (bodyOf Try.f19) = [] from by kernel_rfl]; exact trivial) (fun x => ef_I_TraceLine x.1 x.2.1 x.2.2.1)
noncomputable def sh_S_l12Next_3 : List Sh := mkSh 37 [(0, .val S_string .b), (1, .val S_string .b), (5, .val S_int (.row .b)), (13, .val (.int .i64) .b), (14, .val (.int .i64) .b)]
noncomputable def o_S_l12Next_3 : List Out := [⟨.exit 0, ⟨[], [0, 1, 5], []⟩, mkSh 37 [(0, .val S_string .b), (1, .val S_string .b), (5, .val S_int (.row .b))]⟩]
noncomputable def b_S_l12Next_3 (t0 : PV S_string) (t1 : PV S_string) (t5 : PV S_int) (t13 : PV (.int .i64)) (t14 : PV (.int .i64)) : Option ((PV S_string × PV S_string × PV S_int × PV (.int .i64) × PV (.int .i64) × Unit) ⊕ ((PV S_string × PV S_string × PV S_int × Unit))) :=
  bif (decide (t14 < t13)) then
    bif inB t14 t5.length then
      some (.inl (t0, t1, (t5.set t14.toNat (-1)), t13, (IntKind.wrap .i64 (t14 + 1)), ()))
    else
      none
  else
    some (.inr (t0, t1, t5, ()))
noncomputable def w_S_l12Next_3 : PV S_string × PV S_string × PV S_int × PV (.int .i64) × PV (.int .i64) × Unit → Option ((PV S_string × PV S_string × PV S_int × Unit)) := fix fun d => b_S_l12Next_3 d.1 d.2.1 d.2.2.1 d.2.2.2.1 d.2.2.2.2.1
noncomputable def lp_S_l12Next_3 : Lp := ⟨⟨[], [0, 1, 5, 13, 14], []⟩, sh_S_l12Next_3, o_S_l12Next_3, fun d => b_S_l12Next_3 d.1 d.2.1 d.2.2.1 d.2.2.2.1 d.2.2.2.2.1⟩
noncomputable def sh_S_l12Next_8 : List Sh := mkSh 37 [(5, .val S_int (.row .b)), (23, .val S__2_int (.row (.pr .b (.pr .b .b)))), (24, .val (.int .i64) .b), (25, .val (.int .i64) .b)]
noncomputable def o_S_l12Next_8 : List Out := [⟨.exit 2, ⟨[], [5], []⟩, mkSh 37 [(5, .val S_int (.row .b))]⟩]
noncomputable def b_S_l12Next_8 (t5 : PV S_int) (t23 : PV S__2_int) (t24 : PV (.int .i64)) (t25 : PV (.int .i64)) : Option ((PV S_int × PV S__2_int × PV (.int .i64) × PV (.int .i64) × Unit) ⊕ ((PV S_int × Unit))) :=
  bif (decide (t25 < t24)) then
    bif inB t25 t23.length then
      bif inB ((t23.getD t25.toNat (dflt Y__2_int)).1) t5.length then
        some (.inl ((t5.set (((t23.getD t25.toNat (dflt Y__2_int)).1).toNat) (((t23.getD t25.toNat (dflt Y__2_int)).2).1)), t23, t24, (IntKind.wrap .i64 (t25 + 1)), ()))
      else
        none
    else
      none
  else
    some (.inr (t5, ()))
noncomputable def w_S_l12Next_8 : PV S_int × PV S__2_int × PV (.int .i64) × PV (.int .i64) × Unit → Option ((PV S_int × Unit)) := fix fun d => b_S_l12Next_8 d.1 d.2.1 d.2.2.1 d.2.2.2.1
noncomputable def lp_S_l12Next_8 : Lp := ⟨⟨[], [5, 23, 24, 25], []⟩, sh_S_l12Next_8, o_S_l12Next_8, fun d => b_S_l12Next_8 d.1 d.2.1 d.2.2.1 d.2.2.2.1⟩
noncomputable def pl_S_l12Next : Plan := ⟨[], [(3, lp_S_l12Next_3), (8, lp_S_l12Next_8)], 0, 0⟩
noncomputable def f_S_l12Next (t0 : PV S_string) (t1 : PV S_string) : Option (PVs [S_int] × PVs []) :=
  bif decide (0 ≤ (t0.length : Int)) && (decide ((t0.length : Int) ≤ (t0.length : Int)) && roomB (t0.length : Int).toNat) then
    (w_S_l12Next_3 (t0, t1, (List.replicate (t0.length : Int).toNat (0 : Int)), ((List.replicate (t0.length : Int).toNat (0 : Int)).length : Int), 0, ())).bind fun l2 =>
      (f_S_l3Pairs l2.1 l2.2.1).bind fun r7 =>
        (w_S_l12Next_8 (l2.2.2.1, r7.1.1, (r7.1.1.length : Int), 0, ())).bind fun l8 =>
          some ((l8.1, ()), ())
  else
    none
noncomputable def ct_S_l12Next : Ct := ⟨[(.bor, S_string), (.bor, S_string)], [(S_int, (.row .b))], fun x => f_S_l12Next x.1 x.2.1⟩
noncomputable def cx_S_l12Next : Cx := ⟨tab, arrs, [(52, ct_S_l3Pairs)], [], gl, []⟩
theorem eb_S_l12Next_3 (t0 : PV S_string) (t1 : PV S_string) (t5 : PV S_int) (t13 : PV (.int .i64)) (t14 : PV (.int .i64)) : denK cx_S_l12Next (rcN cx_S_l12Next 0) pl_S_l12Next 0 ((loopsOf (bodyOf Try.f59)).getD 0 .skip) (fillS sh_S_l12Next_3 (t0, t1, t5, t13, t14, ())) (roundK 0 lp_S_l12Next_3) = b_S_l12Next_3 t0 t1 t5 t13 t14 := by kernel_rfl
theorem eb_S_l12Next_8 (t5 : PV S_int) (t23 : PV S__2_int) (t24 : PV (.int .i64)) (t25 : PV (.int .i64)) : denK cx_S_l12Next (rcN cx_S_l12Next 0) pl_S_l12Next 0 ((loopsOf (bodyOf Try.f59)).getD 1 .skip) (fillS sh_S_l12Next_8 (t5, t23, t24, t25, ())) (roundK 0 lp_S_l12Next_8) = b_S_l12Next_8 t5 t23 t24 t25 := by kernel_rfl
theorem ef_S_l12Next (t0 : PV S_string) (t1 : PV S_string) : denF cx_S_l12Next 0 pl_S_l12Next Try.f59.ntmps (bodyOf Try.f59) Try.f59.results.toList [(.bor, S_string), (.bor, S_string)] [(S_int, (.row .b))] (t0, t1, ()) = f_S_l12Next t0 t1 := by kernel_rfl
theorem ok_S_l12Next : FnOk gl Try.prog 59 ct_S_l12Next :=
  fnOk (cx := cx_S_l12Next) (pl := pl_S_l12Next) (dp := 0) (ok0_of tabOk (by unfold ArrOk; kernel_rfl) mix ⟨ok_S_l3Pairs, trivial⟩ trivial) Try.func59 (by kernel_rfl) (by kernel_rfl) (by kernel_rfl)
    (by rw [show loopsOf (bodyOf Try.f59) = [((loopsOf (bodyOf Try.f59)).getD 0 .skip), ((loopsOf (bodyOf Try.f59)).getD 1 .skip)] from by kernel_rfl]; exact ⟨(by rw [show lookup pl_S_l12Next.loops (firstId ((loopsOf (bodyOf Try.f59)).getD 0 .skip)) = some lp_S_l12Next_3 from by kernel_rfl]; exact fun d z h => (eb_S_l12Next_3 d.1 d.2.1 d.2.2.1 d.2.2.2.1 d.2.2.2.2.1).trans h), (by rw [show lookup pl_S_l12Next.loops (firstId ((loopsOf (bodyOf Try.f59)).getD 1 .skip)) = some lp_S_l12Next_8 from by kernel_rfl]; exact fun d z h => (eb_S_l12Next_8 d.1 d.2.1 d.2.2.1 d.2.2.2.1).trans h), trivial⟩) (fun x => ef_S_l12Next x.1 x.2.1)
noncomputable def o_S_TraceLine_2 : List Out := [⟨.normal, ⟨[], [0, 1, 2, 31], []⟩, mkSh 62 [(0, .val S_S_string .b), (1, .val (.int .i64) .b), (2, .val (.int .i64) .b), (31, .val .bool .b)]⟩]
noncomputable def sh_S_TraceLine_5 : List Sh := mkSh 62 [(0, .val S_S_string .b), (2, .val (.int .i64) .b), (8, .val S_int (.row .b)), (9, .val (.int .i64) .b)]
noncomputable def o_S_TraceLine_5 : List Out := [⟨.exit 0, ⟨[], [8], []⟩, mkSh 62 [(8, .val S_int (.row .b))]⟩]
noncomputable def b_S_TraceLine_5 (t0 : PV S_S_string) (t2 : PV (.int .i64)) (t8 : PV S_int) (t9 : PV (.int .i64)) : Option ((PV S_S_string × PV (.int .i64) × PV S_int × PV (.int .i64) × Unit) ⊕ ((PV S_int × Unit))) :=
  bif (decide (t9 < (IntKind.wrap .i64 ((t0.length : Int) - 1)))) then
    bif inB t9 t0.length then
      bif inB (IntKind.wrap .i64 (t9 + 1)) t0.length then
        (f_S_l12Next (t0.getD t9.toNat []) (t0.getD ((IntKind.wrap .i64 (t9 + 1)).toNat) [])).bind fun r15 =>
          bif inB t2 r15.1.1.length then
            bif (decide ((r15.1.1.getD t2.toNat (0 : Int)) < 0)) then
              some (.inr (t8, ()))
            else
              bif roomB (t8.length + [(r15.1.1.getD t2.toNat (0 : Int))].length) then
                some (.inl (t0, (r15.1.1.getD t2.toNat (0 : Int)), (t8 ++ [(r15.1.1.getD t2.toNat (0 : Int))]), (IntKind.wrap .i64 (t9 + 1)), ()))
              else
                none
          else
            none
      else
        none
    else
      none
  else
    some (.inr (t8, ()))
noncomputable def w_S_TraceLine_5 : PV S_S_string × PV (.int .i64) × PV S_int × PV (.int .i64) × Unit → Option ((PV S_int × Unit)) := fix fun d => b_S_TraceLine_5 d.1 d.2.1 d.2.2.1 d.2.2.2.1
noncomputable def lp_S_TraceLine_5 : Lp := ⟨⟨[], [0, 2, 8, 9], []⟩, sh_S_TraceLine_5, o_S_TraceLine_5, fun d => b_S_TraceLine_5 d.1 d.2.1 d.2.2.1 d.2.2.2.1⟩
noncomputable def pl_S_TraceLine : Plan := ⟨[(2, o_S_TraceLine_2)], [(5, lp_S_TraceLine_5)], 0, 0⟩
noncomputable def f_S_TraceLine (t0 : PV S_S_string) (t1 : PV (.int .i64)) (t2 : PV (.int .i64)) : Option (PVs [S_int, .bool] × PVs []) :=
  ((
      (f_S_l12Good t0).bind fun r8 =>
        bif (!r8.1.1) then
          some (t0, t1, t2, true, ())
        else
          (f_S_l1In t1 0 (IntKind.wrap .i64 ((t0.length : Int) - 1))).bind fun r9 =>
            bif (!r9.1.1) then
              some (t0, t1, t2, true, ())
            else
              bif inB t1 t0.length then
                (f_S_l1In t2 0 (IntKind.wrap .i64 (((t0.getD t1.toNat []).length : Int) - 1))).bind fun r10 =>
                  some (t0, t1, t2, (!r10.1.1), ())
              else
                none : Option ((PV S_S_string × PV (.int .i64) × PV (.int .i64) × PV .bool × Unit)))).bind fun j11 =>
    bif j11.2.2.2.1 then
      some (([], false, ()), ())
    else
      (w_S_TraceLine_5 (j11.1, j11.2.2.1, [j11.2.2.1], j11.2.1, ())).bind fun l17 =>
        some ((l17.1, true, ()), ())
noncomputable def ct_S_TraceLine : Ct := ⟨[(.bor, S_S_string), (.bor, (.int .i64)), (.bor, (.int .i64))], [(S_int, .b), (.bool, .b)], fun x => f_S_TraceLine x.1 x.2.1 x.2.2.1⟩
noncomputable def cx_S_TraceLine : Cx := ⟨tab, arrs, [(51, ct_S_l12Good), (58, ct_S_l1In), (59, ct_S_l12Next)], [], gl, []⟩
theorem eb_S_TraceLine_5 (t0 : PV S_S_string) (t2 : PV (.int .i64)) (t8 : PV S_int) (t9 : PV (.int .i64)) : denK cx_S_TraceLine (rcN cx_S_TraceLine 0) pl_S_TraceLine 0 ((loopsOf (bodyOf Try.f20)).getD 0 .skip) (fillS sh_S_TraceLine_5 (t0, t2, t8, t9, ())) (roundK 0 lp_S_TraceLine_5) = b_S_TraceLine_5 t0 t2 t8 t9 := by kernel_rfl
theorem ef_S_TraceLine (t0 : PV S_S_string) (t1 : PV (.int .i64)) (t2 : PV (.int .i64)) : denF cx_S_TraceLine 0 pl_S_TraceLine Try.f20.ntmps (bodyOf Try.f20) Try.f20.results.toList [(.bor, S_S_string), (.bor, (.int .i64)), (.bor, (.int .i64))] [(S_int, .b), (.bool, .b)] (t0, t1, t2, ()) = f_S_TraceLine t0 t1 t2 := by kernel_rfl
theorem ok_S_TraceLine : FnOk gl Try.prog 20 ct_S_TraceLine :=
  fnOk (cx := cx_S_TraceLine) (pl := pl_S_TraceLine) (dp := 0) (ok0_of tabOk (by unfold ArrOk; kernel_rfl) mix ⟨ok_S_l12Good, ok_S_l1In, ok_S_l12Next, trivial⟩ trivial) Try.func20 (by kernel_rfl) (by kernel_rfl) (by kernel_rfl)
    (by rw [show loopsOf (bodyOf Try.f20) = [((loopsOf (bodyOf Try.f20)).getD 0 .skip)] from by kernel_rfl]; exact ⟨(by rw [show lookup pl_S_TraceLine.loops (firstId ((loopsOf (bodyOf Try.f20)).getD 0 .skip)) = some lp_S_TraceLine_5 from by kernel_rfl]; exact fun d z h => (eb_S_TraceLine_5 d.1 d.2.1 d.2.2.1 d.2.2.2.1).trans h), trivial⟩) (fun x => ef_S_TraceLine x.1 x.2.1 x.2.2.1)
noncomputable def pl_S_DrawLinesSince : Plan := ⟨[], [], 0, 0⟩
noncomputable def f_S_DrawLinesSince (t0 : PV S_uint8) : Option (PVs [S_S_string, (.int .i64)] × PVs []) :=
  (f_S_l1Cur_versions (t0, (0, (0, ())))).bind fun r1 =>
    (f_S_l1Cur_pick r1.2.1 6).bind fun r2 =>
      (f_S_l1Cur_pick r2.2.1 20).bind fun r3 =>
        bif 19 == 0 then
          none
        else
          some ((r1.1.1, (IntKind.wrap .i64 (r2.1.1 - (IntKind.wrap .i64 (r3.1.1.tdiv 19)))), ()), ())
noncomputable def ct_S_DrawLinesSince : Ct := ⟨[(.bor, S_uint8)], [(S_S_string, .b), ((.int .i64), .b)], fun x => f_S_DrawLinesSince x.1⟩
noncomputable def cx_S_DrawLinesSince : Cx := ⟨tab, arrs, [(54, ct_S_l1Cur_versions), (55, ct_S_l1Cur_pick)], [], gl, []⟩
theorem ef_S_DrawLinesSince (t0 : PV S_uint8) : denF cx_S_DrawLinesSince 0 pl_S_DrawLinesSince Try.f21.ntmps (bodyOf Try.f21) Try.f21.results.toList [(.bor, S_uint8)] [(S_S_string, .b), ((.int .i64), .b)] (t0, ()) = f_S_DrawLinesSince t0 := by kernel_rfl
theorem ok_S_DrawLinesSince : FnOk gl Try.prog 21 ct_S_DrawLinesSince :=
  fnOk (cx := cx_S_DrawLinesSince) (pl := pl_S_DrawLinesSince) (dp := 0) (ok0_of tabOk (by unfold ArrOk; kernel_rfl) mix ⟨ok_S_l1Cur_versions, ok_S_l1Cur_pick, trivial⟩ trivial) Try.func21 (by kernel_rfl) (by kernel_rfl) (by kernel_rfl)
    (by rw [show loopsOf (bodyOf Try.f21) = [] from by kernel_rfl]; exact trivial) (fun x => ef_S_DrawLinesSince x.1)
end R
