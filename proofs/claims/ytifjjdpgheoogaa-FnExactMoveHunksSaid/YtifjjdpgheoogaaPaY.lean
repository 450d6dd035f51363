/- The functions that L_FnExactMoveHunks reach, as pure functions, and that the program computes them. -/
import Derived.Test.YtifjjdpgheoogaaL3
import Derived.Test.YtifjjdpgheoogaaChecked
import Derived.KernelRfl
open Go Go.Dn Go.Proofs
namespace R
set_option linter.unusedVariables false
@[reducible] def S_string : Ty := (.slice 9 .str)
@[reducible] def S_uint8 : Ty := (.slice 5 (.int .u8))
@[reducible] def S_int : Ty := (.slice 3 (.int .i64))
@[reducible] def S_S_int : Ty := (.slice 163 S_int)
@[reducible] def Y_impl_Hunk : Ty := (.pair (.int .i64) (.pair (.int .i64) (.pair S_string .unit)))
@[reducible] def S_laws_Hunk : Ty := (.slice 90 Y_impl_Hunk)
@[reducible] def S_impl_Hunk : Ty := (.slice 95 Y_impl_Hunk)
@[reducible] def Y_impl_Order : Ty := (.pair (.int .i64) Y_impl_Hunk)
@[reducible] def S_S_impl_Hunk : Ty := (.slice 26 S_impl_Hunk)
@[reducible] def S_impl_Order : Ty := (.slice 112 Y_impl_Order)
@[reducible] def Y_impl_Series : Ty := (.pair S_string (.pair S_S_impl_Hunk .unit))
noncomputable def tab : List (TypeId × Ty) := [(3, (.int .i64)), (4, .bool), (5, (.int .u8)), (9, .str), (22, S_string), (23, S_laws_Hunk), (26, S_impl_Hunk), (35, S_impl_Order), (47, S_uint8), (73, S_S_impl_Hunk), (75, Y_impl_Series), (90, Y_impl_Hunk), (95, Y_impl_Hunk), (112, Y_impl_Order), (163, S_int), (186, S_S_int)]
noncomputable def arrs : List TypeId := []
theorem tabOk : TabOk Try.prog tab := by unfold TabOk; kernel_rfl
theorem mix : Try.prog.follows .mixedOrders = true := by kernel_rfl
noncomputable def gl : Glob := noGlob
open Go.Shelf
set_option maxRecDepth 20000
def lays_strings_Contains_ren : Go.Shelf.Ren := ⟨fun | 0 => 0 | 1 => 1 | 2 => 2 | 99 => 159 | 100 => 191 | 102 => 199 | 143 => 226 | 144 => 215 | 156 => 115 | 165 => 172 | 166 => 173 | 169 => 174 | 193 => 203 | 206 => 198 | 207 => 216 | 209 => 218 | 212 => 219 | 217 => 231 | 219 => 230 | 224 => 233 | 225 => 232 | 240 => 207 | 241 => 208 | 263 => 228 | 264 => 229 | 266 => 235 | 267 => 234 | 276 => 222 | 277 => 223 | 314 => 236 | 347 => 237 | 348 => 238 | 349 => 239 | 350 => 240 | 351 => 241 | 352 => 242 | 353 => 243 | 354 => 244 | 355 => 245 | 356 => 246 | 357 => 247 | 358 => 248 | 359 => 249 | 360 => 250 | 361 => 251 | 362 => 253 | 366 => 254 | n => n, fun | 0 => 0 | 1 => 1 | 2 => 2 | 3 => 3 | 4 => 4 | 5 => 5 | 6 => 6 | 7 => 7 | 8 => 8 | 9 => 9 | 10 => 10 | 11 => 11 | 12 => 12 | 13 => 13 | 14 => 14 | 15 => 15 | 16 => 16 | 17 => 17 | 18 => 18 | 19 => 19 | 20 => 20 | 21 => 21 | 22 => 161 | 23 => 197 | 24 => 66 | 27 => 217 | 28 => 163 | 31 => 22 | 37 => 47 | 38 => 48 | 43 => 110 | 46 => 202 | 51 => 219 | 53 => 122 | 55 => 224 | 67 => 138 | 69 => 162 | 70 => 174 | 71 => 175 | 72 => 176 | 73 => 177 | 74 => 178 | 75 => 179 | 76 => 180 | 77 => 181 | 80 => 182 | 81 => 173 | 83 => 103 | 100 => 218 | 101 => 32 | 102 => 29 | 104 => 154 | 109 => 210 | 110 => 211 | 111 => 153 | 114 => 134 | 127 => 203 | 131 => 63 | 146 => 220 | 147 => 221 | 148 => 222 | 149 => 223 | 151 => 225 | 164 => 212 | 165 => 213 | 166 => 214 | 238 => 226 | 239 => 227 | 240 => 228 | 241 => 229 | 242 => 230 | 243 => 231 | 244 => 232 | 245 => 233 | 246 => 234 | 247 => 235 | 248 => 236 | 249 => 237 | n => n, fun | 1 => 0 | n => n⟩
theorem lays_strings_Contains : Go.Proofs.Lays.n144 Try.prog lays_strings_Contains_ren where
  mixed := by kernel_rfl
  f143 := Try.func226.trans (congrArg some (by kernel_rfl))
  f144 := Try.func215.trans (congrArg some (by kernel_rfl))
  f217 := Try.func231.trans (congrArg some (by kernel_rfl))
  f219 := Try.func230.trans (congrArg some (by kernel_rfl))
  f224 := Try.func233.trans (congrArg some (by kernel_rfl))
  f225 := Try.func232.trans (congrArg some (by kernel_rfl))
  f266 := Try.func235.trans (congrArg some (by kernel_rfl))
  f267 := Try.func234.trans (congrArg some (by kernel_rfl))
  f314 := Try.func236.trans (congrArg some (by kernel_rfl))
  t3 := Try.underlying3
  a3 := Try.isAgg3
  z3 := Try.sizeOf3
  v3 := Try.zeroValue3
  t4 := Try.underlying4
  a4 := Try.isAgg4
  z4 := Try.sizeOf4
  v4 := Try.zeroValue4
  t5 := Try.underlying5
  a5 := Try.isAgg5
  z5 := Try.sizeOf5
  v5 := Try.zeroValue5
  t9 := Try.underlying9
  a9 := Try.isAgg9
  z9 := Try.sizeOf9
  v9 := Try.zeroValue9
  t46 := Try.underlying202
  a46 := Try.isAgg202
  z46 := Try.sizeOf202
  v46 := Try.zeroValue202
  t51 := Try.underlying219
  a51 := Try.isAgg219
  z51 := Try.sizeOf219
  v51 := Try.zeroValue219
  t146 := Try.underlying220
  a146 := Try.isAgg220
  z146 := Try.sizeOf220
  v146 := Try.zeroValue220
  g1 := by kernel_rfl
noncomputable def f_strings_Contains (t0 : PV .str) (t1 : PV .str) : Option (PVs [.bool] × PVs []) := Go.Dn.containsF t0 t1
noncomputable def ct_strings_Contains : Ct := ⟨[(.bor, .str), (.bor, .str)], [(.bool, .b)], fun x => f_strings_Contains x.1 x.2.1⟩
theorem ok_strings_Contains : FnOk gl Try.prog 215 ct_strings_Contains := Go.Dn.contains_ok  lays_strings_Contains
section
open Go.RowKit
set_option maxHeartbeats 1000000 in
set_option maxRecDepth 100000 in
theorem cop_main (v : Value) (w : World) (n : Nat) (I : Option Addr → Nat → Nat → World → Prop) (hn : (n : Int) ≤ 1099511627776)
    (hC : Calls Try.prog 145 #[v] w fun e w' => ∃ A cap, e = .returned (.slice A n cap) ∧ I A cap 0 w')
    (hI : ∀ A cap i w, i < n → I A cap i w → ∃ (g : Nat) (a b : Int) (A2 : Option Addr) (l c : Nat), A = some ⟨g, 0, none⟩ ∧ w.cell? ⟨g, i * 3, none⟩ = some (.int .i64 a) ∧ w.cell? ⟨g, i * 3 + 1, none⟩ = some (.int .i64 b) ∧ w.cell? ⟨g, i * 3 + 2, none⟩ = some (.slice A2 l c) ∧
      Calls Try.prog 97 #[.slice A2 l c] (w.alloc (.cells #[.int .i64 a, .int .i64 b, .slice A2 l c] 95)) fun e w' => ∃ A3 c3 B2 l4 c4, e = .returned (.slice A3 l c3) ∧ w'.cell? ⟨g, i * 3 + 2, none⟩ = some (.slice B2 l4 c4) ∧
        w'.frozen? ⟨g, i * 3 + 2, none⟩ = false ∧ I A cap (i + 1) (w'.setCell ⟨g, i * 3 + 2, none⟩ (.slice A3 l c3))) :
    Calls Try.prog 75 #[v] w fun e w' => ∃ A cap, e = .returned (.slice A n cap) ∧ I A cap n w' := by
  go_enter Try.func75, Try.ntmps75
  go_wp2_with (go_at_fn 145; go_fit hC; rintro e w' ⟨A, cap, rfl, hw⟩)
  refine hC.mono ?_
  rintro e w1 ⟨A, cap, rfl, hw⟩
  go_wp2
  go_loopw [10] (fun s10 wr => ∃ i : Nat, i ≤ n ∧ s10 = .int .i64 i ∧ I A cap i wr) (fun s10 _ => n - (Go.RowKit.intOf s10).toNat)
  case atStart => exact ⟨0, Nat.zero_le _, rfl, hw⟩
  case round =>
    obtain ⟨i, hi, rfl, hr⟩ := hrel
    by_cases hlt : i < n
    · obtain ⟨g, a, b, A2, l, c, rfl, h1, h2, h3, hD⟩ := hI A cap i _ hlt hr
      have hz : (i : Int) < (n : Int) := by omega
      go_wp2_with (go_at_fn 97; go_fit hD; rintro e w' ⟨v', rfl, hw⟩)
      refine hD.mono ?_
      rintro e w2 ⟨A3, c3, B2, l4, c4, rfl, k1, k2, k3⟩
      go_wp2
      exact ⟨⟨i + 1, hlt, by simp, k3⟩, by simp [Go.RowKit.intOf]; omega⟩
    · have hz : ¬ (i : Int) < (n : Int) := by omega
      obtain rfl : i = n := by omega
      go_wp2
      go_ret
      exact ⟨A, cap, rfl, hr⟩
end

noncomputable def f_slices_Clone_Hunk (t0 : PV S_impl_Hunk) : Option (PVs [S_impl_Hunk] × PVs []) := bif roomB ((([] : PV S_impl_Hunk)).length + t0.length) then some ((([] : PV S_impl_Hunk) ++ t0, ()), ()) else none
noncomputable def ct_slices_Clone_Hunk : Ct := ⟨[(.bor, S_impl_Hunk)], [(S_impl_Hunk, (.row (.pr .b (.pr .b (.pr .b .b)))))], fun x => f_slices_Clone_Hunk x.1⟩
noncomputable def pl_slices_Clone_Hunk : Plan := ⟨[], [], 0, 0⟩
noncomputable def cx_slices_Clone_Hunk : Cx := ⟨tab, arrs, [], [], gl, []⟩
theorem ok_slices_Clone_Hunk : FnOk gl Try.prog 145 ct_slices_Clone_Hunk :=
  fnOk_nil' (cx := cx_slices_Clone_Hunk) (pl := pl_slices_Clone_Hunk) (dp := 0) (t3 := 3) (te := 95) (T := Y_impl_Hunk) (ok0_of tabOk (by unfold ArrOk; kernel_rfl) mix trivial trivial) Try.func145 (fn := Try.f145) (rvs := Try.f145.results.toList) rfl (by kernel_rfl) (by kernel_rfl) (by kernel_rfl) rfl rfl rfl rfl Try.underlying26 ⟨⟨⟨trivial, trivial⟩, trivial⟩, ⟨trivial, trivial⟩⟩ (fun x => by kernel_rfl) (fun x => by kernel_rfl) (fun x => by kernel_rfl) (fun x => by kernel_rfl) (by kernel_rfl)
noncomputable def f_slices_Clone_string (t0 : PV S_string) : Option (PVs [S_string] × PVs []) := bif roomB ((([] : PV S_string)).length + t0.length) then some ((([] : PV S_string) ++ t0, ()), ()) else none
noncomputable def ct_slices_Clone_string : Ct := ⟨[(.bor, S_string)], [(S_string, (.row .b))], fun x => f_slices_Clone_string x.1⟩
noncomputable def pl_slices_Clone_string : Plan := ⟨[], [], 0, 0⟩
noncomputable def cx_slices_Clone_string : Cx := ⟨tab, arrs, [], [], gl, []⟩
theorem ok_slices_Clone_string : FnOk gl Try.prog 97 ct_slices_Clone_string :=
  fnOk_nil' (cx := cx_slices_Clone_string) (pl := pl_slices_Clone_string) (dp := 0) (t3 := 3) (te := 9) (T := .str) (ok0_of tabOk (by unfold ArrOk; kernel_rfl) mix trivial trivial) Try.func97 (fn := Try.f97) (rvs := Try.f97.results.toList) rfl (by kernel_rfl) (by kernel_rfl) (by kernel_rfl) rfl rfl rfl rfl Try.underlying22 ⟨⟨⟨trivial, trivial⟩, trivial⟩, ⟨trivial, trivial⟩⟩ (fun x => by kernel_rfl) (fun x => by kernel_rfl) (fun x => by kernel_rfl) (fun x => by kernel_rfl) (by kernel_rfl)

noncomputable def f_I_copiedHunks (t0 : PV S_impl_Hunk) : Option (PVs [S_impl_Hunk] × PVs []) := Go.Dn.copF 95 9 t0
noncomputable def ct_I_copiedHunks : Ct := ⟨[(.bor, S_impl_Hunk)], [(S_impl_Hunk, (.row (.pr .b (.pr .b (.pr (.row .b) .b)))))], fun x => f_I_copiedHunks x.1⟩
theorem ok_I_copiedHunks : FnOk gl Try.prog 75 ct_I_copiedHunks := Go.Dn.cop_ok (kC := 145) (kD := 97) ⟨_, Try.func75, rfl, by kernel_rfl⟩ ok_slices_Clone_Hunk ok_slices_Clone_string cop_main
noncomputable def sh_L_szStringS_5 : List Sh := mkSh 28 [(0, .val S_string .b), (1, .val (.int .i64) .b), (5, .val (.int .i64) .b)]
noncomputable def o_L_szStringS_5 : List Out := [⟨.exit 0, ⟨[], [1], []⟩, mkSh 28 [(1, .val (.int .i64) .b)]⟩, ⟨.ret, ⟨[], [4], []⟩, mkSh 28 [(4, .val (.int .i64) .b)]⟩]
noncomputable def b_L_szStringS_5 (t0 : PV S_string) (t1 : PV (.int .i64)) (t5 : PV (.int .i64)) : Option ((PV S_string × PV (.int .i64) × PV (.int .i64) × Unit) ⊕ ((PV (.int .i64) × Unit) ⊕ (PV (.int .i64) × Unit))) :=
  bif (decide (t5 < (t0.length : Int))) then
    bif inB t5 t0.length then
      bif (decide ((IntKind.wrap .i64 (t1 - ((t0.getD t5.toNat []).length : Int))) < 0)) then
        some (.inr (.inr ((-1), ())))
      else
        some (.inl (t0, (IntKind.wrap .i64 (t1 - ((t0.getD t5.toNat []).length : Int))), (IntKind.wrap .i64 (t5 + 1)), ()))
    else
      none
  else
    some (.inr (.inl (t1, ())))
noncomputable def w_L_szStringS_5 : PV S_string × PV (.int .i64) × PV (.int .i64) × Unit → Option ((PV (.int .i64) × Unit) ⊕ (PV (.int .i64) × Unit)) := fix fun d => b_L_szStringS_5 d.1 d.2.1 d.2.2.1
noncomputable def lp_L_szStringS_5 : Lp := ⟨⟨[], [0, 1, 5], []⟩, sh_L_szStringS_5, o_L_szStringS_5, fun d => b_L_szStringS_5 d.1 d.2.1 d.2.2.1⟩
noncomputable def pl_L_szStringS : Plan := ⟨[], [(5, lp_L_szStringS_5)], 0, 0⟩
noncomputable def f_L_szStringS (t0 : PV S_string) (t1 : PV (.int .i64)) : Option (PVs [(.int .i64)] × PVs []) :=
  bif (decide ((IntKind.wrap .i64 (t1 - (t0.length : Int))) < 0)) then
    some (((-1), ()), ())
  else
    (w_L_szStringS_5 (t0, (IntKind.wrap .i64 (t1 - (t0.length : Int))), 0, ())).bind fun x5 =>
      match x5 with
      | .inl l3 =>
        some ((l3.1, ()), ())
      | .inr l4 =>
        some ((l4.1, ()), ())
noncomputable def ct_L_szStringS : Ct := ⟨[(.bor, S_string), (.bor, (.int .i64))], [((.int .i64), .b)], fun x => f_L_szStringS x.1 x.2.1⟩
noncomputable def cx_L_szStringS : Cx := ⟨tab, arrs, [], [], gl, []⟩
theorem eb_L_szStringS_5 (t0 : PV S_string) (t1 : PV (.int .i64)) (t5 : PV (.int .i64)) : denK cx_L_szStringS (rcN cx_L_szStringS 0) pl_L_szStringS 0 ((loopsOf (bodyOf Try.f10)).getD 0 .skip) (fillS sh_L_szStringS_5 (t0, t1, t5, ())) (roundK 0 lp_L_szStringS_5) = b_L_szStringS_5 t0 t1 t5 := by kernel_rfl
theorem ef_L_szStringS (t0 : PV S_string) (t1 : PV (.int .i64)) : denF cx_L_szStringS 0 pl_L_szStringS Try.f10.ntmps (bodyOf Try.f10) Try.f10.results.toList [(.bor, S_string), (.bor, (.int .i64))] [((.int .i64), .b)] (t0, t1, ()) = f_L_szStringS t0 t1 := by kernel_rfl
theorem ok_L_szStringS : FnOk gl Try.prog 10 ct_L_szStringS :=
  fnOk (cx := cx_L_szStringS) (pl := pl_L_szStringS) (dp := 0) (ok0_of tabOk (by unfold ArrOk; kernel_rfl) mix trivial trivial) Try.func10 (by kernel_rfl) (by kernel_rfl) (by kernel_rfl)
    (by rw [show loopsOf (bodyOf Try.f10) = [((loopsOf (bodyOf Try.f10)).getD 0 .skip)] from by kernel_rfl]; exact ⟨(by rw [show lookup pl_L_szStringS.loops (firstId ((loopsOf (bodyOf Try.f10)).getD 0 .skip)) = some lp_L_szStringS_5 from by kernel_rfl]; exact fun d z h => (eb_L_szStringS_5 d.1 d.2.1 d.2.2.1).trans h), trivial⟩) (fun x => ef_L_szStringS x.1 x.2.1)
noncomputable def pl_L_szHunk : Plan := ⟨[], [], 0, 0⟩
noncomputable def f_L_szHunk (t0 : PV Y_impl_Hunk) (t1 : PV (.int .i64)) : Option (PVs [(.int .i64)] × PVs []) :=
  (f_L_szStringS t0.2.2.1 t1).bind fun r2 =>
    bif (decide (r2.1.1 < 0)) then
      some (((-1), ()), ())
    else
      some ((r2.1.1, ()), ())
noncomputable def ct_L_szHunk : Ct := ⟨[(.bor, Y_impl_Hunk), (.bor, (.int .i64))], [((.int .i64), .b)], fun x => f_L_szHunk x.1 x.2.1⟩
noncomputable def cx_L_szHunk : Cx := ⟨tab, arrs, [(10, ct_L_szStringS)], [], gl, []⟩
theorem ef_L_szHunk (t0 : PV Y_impl_Hunk) (t1 : PV (.int .i64)) : denF cx_L_szHunk 0 pl_L_szHunk Try.f67.ntmps (bodyOf Try.f67) Try.f67.results.toList [(.bor, Y_impl_Hunk), (.bor, (.int .i64))] [((.int .i64), .b)] (t0, t1, ()) = f_L_szHunk t0 t1 := by kernel_rfl
theorem ok_L_szHunk : FnOk gl Try.prog 67 ct_L_szHunk :=
  fnOk (cx := cx_L_szHunk) (pl := pl_L_szHunk) (dp := 0) (ok0_of tabOk (by unfold ArrOk; kernel_rfl) mix ⟨ok_L_szStringS, trivial⟩ trivial) Try.func67 (by kernel_rfl) (by kernel_rfl) (by kernel_rfl)
    (by rw [show loopsOf (bodyOf Try.f67) = [] from by kernel_rfl]; exact trivial) (fun x => ef_L_szHunk x.1 x.2.1)
noncomputable def sh_L_szHunkS_5 : List Sh := mkSh 27 [(0, .val S_laws_Hunk .b), (1, .val (.int .i64) .b), (5, .val (.int .i64) .b)]
noncomputable def o_L_szHunkS_5 : List Out := [⟨.exit 0, ⟨[], [1], []⟩, mkSh 27 [(1, .val (.int .i64) .b)]⟩, ⟨.ret, ⟨[], [4], []⟩, mkSh 27 [(4, .val (.int .i64) .b)]⟩]
noncomputable def b_L_szHunkS_5 (t0 : PV S_laws_Hunk) (t1 : PV (.int .i64)) (t5 : PV (.int .i64)) : Option ((PV S_laws_Hunk × PV (.int .i64) × PV (.int .i64) × Unit) ⊕ ((PV (.int .i64) × Unit) ⊕ (PV (.int .i64) × Unit))) :=
  bif (decide (t5 < (t0.length : Int))) then
    bif inB t5 t0.length then
      (f_L_szHunk (t0.getD t5.toNat (dflt Y_impl_Hunk)) t1).bind fun r4 =>
        bif (decide (r4.1.1 < 0)) then
          some (.inr (.inr ((-1), ())))
        else
          some (.inl (t0, r4.1.1, (IntKind.wrap .i64 (t5 + 1)), ()))
    else
      none
  else
    some (.inr (.inl (t1, ())))
noncomputable def w_L_szHunkS_5 : PV S_laws_Hunk × PV (.int .i64) × PV (.int .i64) × Unit → Option ((PV (.int .i64) × Unit) ⊕ (PV (.int .i64) × Unit)) := fix fun d => b_L_szHunkS_5 d.1 d.2.1 d.2.2.1
noncomputable def lp_L_szHunkS_5 : Lp := ⟨⟨[], [0, 1, 5], []⟩, sh_L_szHunkS_5, o_L_szHunkS_5, fun d => b_L_szHunkS_5 d.1 d.2.1 d.2.2.1⟩
noncomputable def pl_L_szHunkS : Plan := ⟨[], [(5, lp_L_szHunkS_5)], 0, 0⟩
noncomputable def f_L_szHunkS (t0 : PV S_laws_Hunk) (t1 : PV (.int .i64)) : Option (PVs [(.int .i64)] × PVs []) :=
  bif (decide ((IntKind.wrap .i64 (t1 - (t0.length : Int))) < 0)) then
    some (((-1), ()), ())
  else
    (w_L_szHunkS_5 (t0, (IntKind.wrap .i64 (t1 - (t0.length : Int))), 0, ())).bind fun x9 =>
      match x9 with
      | .inl l7 =>
        some ((l7.1, ()), ())
      | .inr l8 =>
        some ((l8.1, ()), ())
noncomputable def ct_L_szHunkS : Ct := ⟨[(.bor, S_laws_Hunk), (.bor, (.int .i64))], [((.int .i64), .b)], fun x => f_L_szHunkS x.1 x.2.1⟩
noncomputable def cx_L_szHunkS : Cx := ⟨tab, arrs, [(67, ct_L_szHunk)], [], gl, []⟩
theorem eb_L_szHunkS_5 (t0 : PV S_laws_Hunk) (t1 : PV (.int .i64)) (t5 : PV (.int .i64)) : denK cx_L_szHunkS (rcN cx_L_szHunkS 0) pl_L_szHunkS 0 ((loopsOf (bodyOf Try.f11)).getD 0 .skip) (fillS sh_L_szHunkS_5 (t0, t1, t5, ())) (roundK 0 lp_L_szHunkS_5) = b_L_szHunkS_5 t0 t1 t5 := by kernel_rfl
theorem ef_L_szHunkS (t0 : PV S_laws_Hunk) (t1 : PV (.int .i64)) : denF cx_L_szHunkS 0 pl_L_szHunkS Try.f11.ntmps (bodyOf Try.f11) Try.f11.results.toList [(.bor, S_laws_Hunk), (.bor, (.int .i64))] [((.int .i64), .b)] (t0, t1, ()) = f_L_szHunkS t0 t1 := by kernel_rfl
theorem ok_L_szHunkS : FnOk gl Try.prog 11 ct_L_szHunkS :=
  fnOk (cx := cx_L_szHunkS) (pl := pl_L_szHunkS) (dp := 0) (ok0_of tabOk (by unfold ArrOk; kernel_rfl) mix ⟨ok_L_szHunk, trivial⟩ trivial) Try.func11 (by kernel_rfl) (by kernel_rfl) (by kernel_rfl)
    (by rw [show loopsOf (bodyOf Try.f11) = [((loopsOf (bodyOf Try.f11)).getD 0 .skip)] from by kernel_rfl]; exact ⟨(by rw [show lookup pl_L_szHunkS.loops (firstId ((loopsOf (bodyOf Try.f11)).getD 0 .skip)) = some lp_L_szHunkS_5 from by kernel_rfl]; exact fun d z h => (eb_L_szHunkS_5 d.1 d.2.1 d.2.2.1).trans h), trivial⟩) (fun x => ef_L_szHunkS x.1 x.2.1)
noncomputable def sh_L_toStringS_3 : List Sh := mkSh 22 [(0, .val S_string .b), (3, .val S_string (.row .b)), (4, .val (.int .i64) .b)]
noncomputable def o_L_toStringS_3 : List Out := [⟨.exit 0, ⟨[], [3], []⟩, mkSh 22 [(3, .val S_string (.row .b))]⟩]
noncomputable def b_L_toStringS_3 (t0 : PV S_string) (t3 : PV S_string) (t4 : PV (.int .i64)) : Option ((PV S_string × PV S_string × PV (.int .i64) × Unit) ⊕ ((PV S_string × Unit))) :=
  bif (decide (t4 < (t0.length : Int))) then
    bif inB t4 t0.length then
      bif inB t4 t3.length then
        some (.inl (t0, (t3.set t4.toNat (t0.getD t4.toNat [])), (IntKind.wrap .i64 (t4 + 1)), ()))
      else
        none
    else
      none
  else
    some (.inr (t3, ()))
noncomputable def w_L_toStringS_3 : PV S_string × PV S_string × PV (.int .i64) × Unit → Option ((PV S_string × Unit)) := fix fun d => b_L_toStringS_3 d.1 d.2.1 d.2.2.1
noncomputable def lp_L_toStringS_3 : Lp := ⟨⟨[], [0, 3, 4], []⟩, sh_L_toStringS_3, o_L_toStringS_3, fun d => b_L_toStringS_3 d.1 d.2.1 d.2.2.1⟩
noncomputable def pl_L_toStringS : Plan := ⟨[], [(3, lp_L_toStringS_3)], 0, 0⟩
noncomputable def f_L_toStringS (t0 : PV S_string) : Option (PVs [S_string] × PVs []) :=
  bif decide (0 ≤ (t0.length : Int)) && (decide ((t0.length : Int) ≤ (t0.length : Int)) && roomB (t0.length : Int).toNat) then
    (w_L_toStringS_3 (t0, (List.replicate (t0.length : Int).toNat ([] : PV .str)), 0, ())).bind fun l2 =>
      some ((l2.1, ()), ())
  else
    none
noncomputable def ct_L_toStringS : Ct := ⟨[(.bor, S_string)], [(S_string, (.row .b))], fun x => f_L_toStringS x.1⟩
noncomputable def cx_L_toStringS : Cx := ⟨tab, arrs, [], [], gl, []⟩
theorem eb_L_toStringS_3 (t0 : PV S_string) (t3 : PV S_string) (t4 : PV (.int .i64)) : denK cx_L_toStringS (rcN cx_L_toStringS 0) pl_L_toStringS 0 ((loopsOf (bodyOf Try.f13)).getD 0 .skip) (fillS sh_L_toStringS_3 (t0, t3, t4, ())) (roundK 0 lp_L_toStringS_3) = b_L_toStringS_3 t0 t3 t4 := by kernel_rfl
theorem ef_L_toStringS (t0 : PV S_string) : denF cx_L_toStringS 0 pl_L_toStringS Try.f13.ntmps (bodyOf Try.f13) Try.f13.results.toList [(.bor, S_string)] [(S_string, (.row .b))] (t0, ()) = f_L_toStringS t0 := by kernel_rfl
theorem ok_L_toStringS : FnOk gl Try.prog 13 ct_L_toStringS :=
  fnOk (cx := cx_L_toStringS) (pl := pl_L_toStringS) (dp := 0) (ok0_of tabOk (by unfold ArrOk; kernel_rfl) mix trivial trivial) Try.func13 (by kernel_rfl) (by kernel_rfl) (by kernel_rfl)
    (by rw [show loopsOf (bodyOf Try.f13) = [((loopsOf (bodyOf Try.f13)).getD 0 .skip)] from by kernel_rfl]; exact ⟨(by rw [show lookup pl_L_toStringS.loops (firstId ((loopsOf (bodyOf Try.f13)).getD 0 .skip)) = some lp_L_toStringS_3 from by kernel_rfl]; exact fun d z h => (eb_L_toStringS_3 d.1 d.2.1 d.2.2.1).trans h), trivial⟩) (fun x => ef_L_toStringS x.1)
noncomputable def pl_L_toHunk : Plan := ⟨[], [], 0, 0⟩
noncomputable def f_L_toHunk (t0 : PV Y_impl_Hunk) : Option (PVs [Y_impl_Hunk] × PVs []) :=
  (f_L_toStringS t0.2.2.1).bind fun r2 =>
    some (((t0.1, (t0.2.1, (r2.1.1, ()))), ()), ())
noncomputable def ct_L_toHunk : Ct := ⟨[(.bor, Y_impl_Hunk)], [(Y_impl_Hunk, (.pr .b (.pr .b (.pr (.row .b) .b))))], fun x => f_L_toHunk x.1⟩
noncomputable def cx_L_toHunk : Cx := ⟨tab, arrs, [(13, ct_L_toStringS)], [], gl, []⟩
theorem ef_L_toHunk (t0 : PV Y_impl_Hunk) : denF cx_L_toHunk 0 pl_L_toHunk Try.f73.ntmps (bodyOf Try.f73) Try.f73.results.toList [(.bor, Y_impl_Hunk)] [(Y_impl_Hunk, (.pr .b (.pr .b (.pr (.row .b) .b))))] (t0, ()) = f_L_toHunk t0 := by kernel_rfl
theorem ok_L_toHunk : FnOk gl Try.prog 73 ct_L_toHunk :=
  fnOk (cx := cx_L_toHunk) (pl := pl_L_toHunk) (dp := 0) (ok0_of tabOk (by unfold ArrOk; kernel_rfl) mix ⟨ok_L_toStringS, trivial⟩ trivial) Try.func73 (by kernel_rfl) (by kernel_rfl) (by kernel_rfl)
    (by rw [show loopsOf (bodyOf Try.f73) = [] from by kernel_rfl]; exact trivial) (fun x => ef_L_toHunk x.1)
noncomputable def sh_L_toHunkS_3 : List Sh := mkSh 23 [(0, .val S_laws_Hunk .b), (3, .val S_impl_Hunk (.row (.pr .b (.pr .b (.pr (.row .b) .b))))), (4, .val (.int .i64) .b)]
noncomputable def o_L_toHunkS_3 : List Out := [⟨.exit 0, ⟨[], [3], []⟩, mkSh 23 [(3, .val S_impl_Hunk (.row (.pr .b (.pr .b (.pr (.row .b) .b)))))]⟩]
noncomputable def b_L_toHunkS_3 (t0 : PV S_laws_Hunk) (t3 : PV S_impl_Hunk) (t4 : PV (.int .i64)) : Option ((PV S_laws_Hunk × PV S_impl_Hunk × PV (.int .i64) × Unit) ⊕ ((PV S_impl_Hunk × Unit))) :=
  bif (decide (t4 < (t0.length : Int))) then
    bif inB t4 t0.length then
      (f_L_toHunk (t0.getD t4.toNat (dflt Y_impl_Hunk))).bind fun r2 =>
        bif inB t4 t3.length then
          some (.inl (t0, (t3.set t4.toNat r2.1.1), (IntKind.wrap .i64 (t4 + 1)), ()))
        else
          none
    else
      none
  else
    some (.inr (t3, ()))
noncomputable def w_L_toHunkS_3 : PV S_laws_Hunk × PV S_impl_Hunk × PV (.int .i64) × Unit → Option ((PV S_impl_Hunk × Unit)) := fix fun d => b_L_toHunkS_3 d.1 d.2.1 d.2.2.1
noncomputable def lp_L_toHunkS_3 : Lp := ⟨⟨[], [0, 3, 4], []⟩, sh_L_toHunkS_3, o_L_toHunkS_3, fun d => b_L_toHunkS_3 d.1 d.2.1 d.2.2.1⟩
noncomputable def pl_L_toHunkS : Plan := ⟨[], [(3, lp_L_toHunkS_3)], 0, 0⟩
noncomputable def f_L_toHunkS (t0 : PV S_laws_Hunk) : Option (PVs [S_impl_Hunk] × PVs []) :=
  bif decide (0 ≤ (t0.length : Int)) && (decide ((t0.length : Int) ≤ (t0.length : Int)) && roomB (t0.length : Int).toNat) then
    (w_L_toHunkS_3 (t0, (List.replicate (t0.length : Int).toNat (dflt Y_impl_Hunk)), 0, ())).bind fun l4 =>
      some ((l4.1, ()), ())
  else
    none
noncomputable def ct_L_toHunkS : Ct := ⟨[(.bor, S_laws_Hunk)], [(S_impl_Hunk, (.row (.pr .b (.pr .b (.pr (.row .b) .b)))))], fun x => f_L_toHunkS x.1⟩
noncomputable def cx_L_toHunkS : Cx := ⟨tab, arrs, [(73, ct_L_toHunk)], [], gl, []⟩
theorem eb_L_toHunkS_3 (t0 : PV S_laws_Hunk) (t3 : PV S_impl_Hunk) (t4 : PV (.int .i64)) : denK cx_L_toHunkS (rcN cx_L_toHunkS 0) pl_L_toHunkS 0 ((loopsOf (bodyOf Try.f14)).getD 0 .skip) (fillS sh_L_toHunkS_3 (t0, t3, t4, ())) (roundK 0 lp_L_toHunkS_3) = b_L_toHunkS_3 t0 t3 t4 := by kernel_rfl
theorem ef_L_toHunkS (t0 : PV S_laws_Hunk) : denF cx_L_toHunkS 0 pl_L_toHunkS Try.f14.ntmps (bodyOf Try.f14) Try.f14.results.toList [(.bor, S_laws_Hunk)] [(S_impl_Hunk, (.row (.pr .b (.pr .b (.pr (.row .b) .b)))))] (t0, ()) = f_L_toHunkS t0 := by kernel_rfl
theorem ok_L_toHunkS : FnOk gl Try.prog 14 ct_L_toHunkS :=
  fnOk (cx := cx_L_toHunkS) (pl := pl_L_toHunkS) (dp := 0) (ok0_of tabOk (by unfold ArrOk; kernel_rfl) mix ⟨ok_L_toHunk, trivial⟩ trivial) Try.func14 (by kernel_rfl) (by kernel_rfl) (by kernel_rfl)
    (by rw [show loopsOf (bodyOf Try.f14) = [((loopsOf (bodyOf Try.f14)).getD 0 .skip)] from by kernel_rfl]; exact ⟨(by rw [show lookup pl_L_toHunkS.loops (firstId ((loopsOf (bodyOf Try.f14)).getD 0 .skip)) = some lp_L_toHunkS_3 from by kernel_rfl]; exact fun d z h => (eb_L_toHunkS_3 d.1 d.2.1 d.2.2.1).trans h), trivial⟩) (fun x => ef_L_toHunkS x.1)
noncomputable def pl_S_l1In : Plan := ⟨[], [], 0, 0⟩
noncomputable def f_S_l1In (t0 : PV (.int .i64)) (t1 : PV (.int .i64)) (t2 : PV (.int .i64)) : Option (PVs [.bool] × PVs []) :=
  bif (decide (t0 ≥ t1)) then
    some (((decide (t0 ≤ t2)), ()), ())
  else
    some ((false, ()), ())
noncomputable def ct_S_l1In : Ct := ⟨[(.bor, (.int .i64)), (.bor, (.int .i64)), (.bor, (.int .i64))], [(.bool, .b)], fun x => f_S_l1In x.1 x.2.1 x.2.2.1⟩
noncomputable def cx_S_l1In : Cx := ⟨tab, arrs, [], [], gl, []⟩
theorem ef_S_l1In (t0 : PV (.int .i64)) (t1 : PV (.int .i64)) (t2 : PV (.int .i64)) : denF cx_S_l1In 0 pl_S_l1In Try.f109.ntmps (bodyOf Try.f109) Try.f109.results.toList [(.bor, (.int .i64)), (.bor, (.int .i64)), (.bor, (.int .i64))] [(.bool, .b)] (t0, t1, t2, ()) = f_S_l1In t0 t1 t2 := by kernel_rfl
theorem ok_S_l1In : FnOk gl Try.prog 109 ct_S_l1In :=
  fnOk (cx := cx_S_l1In) (pl := pl_S_l1In) (dp := 0) (ok0_of tabOk (by unfold ArrOk; kernel_rfl) mix trivial trivial) Try.func109 (by kernel_rfl) (by kernel_rfl) (by kernel_rfl)
    (by rw [show loopsOf (bodyOf Try.f109) = [] from by kernel_rfl]; exact trivial) (fun x => ef_S_l1In x.1 x.2.1 x.2.2.1)
noncomputable def sh_S_l1Line_2 : List Sh := mkSh 18 [(0, .val .str .b), (3, .val (.int .i64) .b)]
noncomputable def o_S_l1Line_2 : List Out := [⟨.exit 0, ⟨[], [0], []⟩, mkSh 18 [(0, .val .str .b)]⟩, ⟨.ret, ⟨[], [2], []⟩, mkSh 18 [(2, .val .bool .b)]⟩]
noncomputable def b_S_l1Line_2 (t0 : PV .str) (t3 : PV (.int .i64)) : Option ((PV .str × PV (.int .i64) × Unit) ⊕ ((PV .str × Unit) ⊕ (PV .bool × Unit))) :=
  bif (decide (t3 < (IntKind.wrap .i64 ((t0.length : Int) - 1)))) then
    bif inB t3 t0.length then
      bif (((t0.getD t3.toNat 0).toNat : Int) == 10) then
        some (.inr (.inr (false, ())))
      else
        some (.inl (t0, (IntKind.wrap .i64 (t3 + 1)), ()))
    else
      none
  else
    some (.inr (.inl (t0, ())))
noncomputable def w_S_l1Line_2 : PV .str × PV (.int .i64) × Unit → Option ((PV .str × Unit) ⊕ (PV .bool × Unit)) := fix fun d => b_S_l1Line_2 d.1 d.2.1
noncomputable def lp_S_l1Line_2 : Lp := ⟨⟨[], [0, 3], []⟩, sh_S_l1Line_2, o_S_l1Line_2, fun d => b_S_l1Line_2 d.1 d.2.1⟩
noncomputable def pl_S_l1Line : Plan := ⟨[], [(2, lp_S_l1Line_2)], 0, 0⟩
noncomputable def f_S_l1Line (t0 : PV .str) : Option (PVs [.bool] × PVs []) :=
  (w_S_l1Line_2 (t0, 0, ())).bind fun x6 =>
    match x6 with
    | .inl l3 =>
      (f_S_l1In (l3.1.length : Int) 1 30).bind fun r4 =>
        some ((r4.1.1, ()), ())
    | .inr l5 =>
      some ((l5.1, ()), ())
noncomputable def ct_S_l1Line : Ct := ⟨[(.bor, .str)], [(.bool, .b)], fun x => f_S_l1Line x.1⟩
noncomputable def cx_S_l1Line : Cx := ⟨tab, arrs, [(109, ct_S_l1In)], [], gl, []⟩
theorem eb_S_l1Line_2 (t0 : PV .str) (t3 : PV (.int .i64)) : denK cx_S_l1Line (rcN cx_S_l1Line 0) pl_S_l1Line 0 ((loopsOf (bodyOf Try.f143)).getD 0 .skip) (fillS sh_S_l1Line_2 (t0, t3, ())) (roundK 0 lp_S_l1Line_2) = b_S_l1Line_2 t0 t3 := by kernel_rfl
theorem ef_S_l1Line (t0 : PV .str) : denF cx_S_l1Line 0 pl_S_l1Line Try.f143.ntmps (bodyOf Try.f143) Try.f143.results.toList [(.bor, .str)] [(.bool, .b)] (t0, ()) = f_S_l1Line t0 := by kernel_rfl
theorem ok_S_l1Line : FnOk gl Try.prog 143 ct_S_l1Line :=
  fnOk (cx := cx_S_l1Line) (pl := pl_S_l1Line) (dp := 0) (ok0_of tabOk (by unfold ArrOk; kernel_rfl) mix ⟨ok_S_l1In, trivial⟩ trivial) Try.func143 (by kernel_rfl) (by kernel_rfl) (by kernel_rfl)
    (by rw [show loopsOf (bodyOf Try.f143) = [((loopsOf (bodyOf Try.f143)).getD 0 .skip)] from by kernel_rfl]; exact ⟨(by rw [show lookup pl_S_l1Line.loops (firstId ((loopsOf (bodyOf Try.f143)).getD 0 .skip)) = some lp_S_l1Line_2 from by kernel_rfl]; exact fun d z h => (eb_S_l1Line_2 d.1 d.2.1).trans h), trivial⟩) (fun x => ef_S_l1Line x.1)
noncomputable def pl_S_l1Ends : Plan := ⟨[], [], 0, 0⟩
noncomputable def f_S_l1Ends (t0 : PV .str) : Option (PVs [.bool] × PVs []) :=
  bif inB (IntKind.wrap .i64 ((t0.length : Int) - 1)) t0.length then
    some (((((t0.getD (IntKind.wrap .i64 ((t0.length : Int) - 1)).toNat 0).toNat : Int) == 10), ()), ())
  else
    none
noncomputable def ct_S_l1Ends : Ct := ⟨[(.bor, .str)], [(.bool, .b)], fun x => f_S_l1Ends x.1⟩
noncomputable def cx_S_l1Ends : Cx := ⟨tab, arrs, [], [], gl, []⟩
theorem ef_S_l1Ends (t0 : PV .str) : denF cx_S_l1Ends 0 pl_S_l1Ends Try.f154.ntmps (bodyOf Try.f154) Try.f154.results.toList [(.bor, .str)] [(.bool, .b)] (t0, ()) = f_S_l1Ends t0 := by kernel_rfl
theorem ok_S_l1Ends : FnOk gl Try.prog 154 ct_S_l1Ends :=
  fnOk (cx := cx_S_l1Ends) (pl := pl_S_l1Ends) (dp := 0) (ok0_of tabOk (by unfold ArrOk; kernel_rfl) mix trivial trivial) Try.func154 (by kernel_rfl) (by kernel_rfl) (by kernel_rfl)
    (by rw [show loopsOf (bodyOf Try.f154) = [] from by kernel_rfl]; exact trivial) (fun x => ef_S_l1Ends x.1)
noncomputable def o_S_l1Good_5 : List Out := [⟨.normal, ⟨[], [0, 5, 6, 7, 26], []⟩, mkSh 31 [(0, .val S_string .b), (5, .val S_string .b), (6, .val (.int .i64) .b), (7, .val (.int .i64) .b), (26, .val .bool .b)]⟩]
noncomputable def sh_S_l1Good_2 : List Sh := mkSh 31 [(0, .val S_string .b), (5, .val S_string .b), (6, .val (.int .i64) .b), (7, .val (.int .i64) .b)]
noncomputable def o_S_l1Good_2 : List Out := [⟨.exit 0, ⟨[], [0], []⟩, mkSh 31 [(0, .val S_string .b)]⟩, ⟨.ret, ⟨[], [2], []⟩, mkSh 31 [(2, .val .bool .b)]⟩]
noncomputable def b_S_l1Good_2 (t0 : PV S_string) (t5 : PV S_string) (t6 : PV (.int .i64)) (t7 : PV (.int .i64)) : Option ((PV S_string × PV S_string × PV (.int .i64) × PV (.int .i64) × Unit) ⊕ ((PV S_string × Unit) ⊕ (PV .bool × Unit))) :=
  bif (decide (t7 < t6)) then
    bif inB t7 t5.length then
      ((
          (f_S_l1Line (t5.getD t7.toNat [])).bind fun r4 =>
            bif (!r4.1.1) then
              some (t0, t5, t6, t7, true, ())
            else
              bif (decide (t7 < (IntKind.wrap .i64 ((t0.length : Int) - 1)))) then
                (f_S_l1Ends (t5.getD t7.toNat [])).bind fun r5 =>
                  some (t0, t5, t6, t7, (!r5.1.1), ())
              else
                some (t0, t5, t6, t7, false, ()) : Option ((PV S_string × PV S_string × PV (.int .i64) × PV (.int .i64) × PV .bool × Unit)))).bind fun j6 =>
        bif j6.2.2.2.2.1 then
          some (.inr (.inr (false, ())))
        else
          some (.inl (j6.1, j6.2.1, j6.2.2.1, (IntKind.wrap .i64 (j6.2.2.2.1 + 1)), ()))
    else
      none
  else
    some (.inr (.inl (t0, ())))
noncomputable def w_S_l1Good_2 : PV S_string × PV S_string × PV (.int .i64) × PV (.int .i64) × Unit → Option ((PV S_string × Unit) ⊕ (PV .bool × Unit)) := fix fun d => b_S_l1Good_2 d.1 d.2.1 d.2.2.1 d.2.2.2.1
noncomputable def lp_S_l1Good_2 : Lp := ⟨⟨[], [0, 5, 6, 7, 16, 17, 18, 19, 20, 21, 22, 23, 24, 25], []⟩, sh_S_l1Good_2, o_S_l1Good_2, fun d => b_S_l1Good_2 d.1 d.2.1 d.2.2.1 d.2.2.2.1⟩
noncomputable def pl_S_l1Good : Plan := ⟨[(5, o_S_l1Good_5)], [(2, lp_S_l1Good_2)], 0, 0⟩
noncomputable def f_S_l1Good (t0 : PV S_string) : Option (PVs [.bool] × PVs []) :=
  (w_S_l1Good_2 (t0, t0, (t0.length : Int), 0, ())).bind fun x11 =>
    match x11 with
    | .inl l9 =>
      some (((decide ((l9.1.length : Int) ≤ 40)), ()), ())
    | .inr l10 =>
      some ((l10.1, ()), ())
noncomputable def ct_S_l1Good : Ct := ⟨[(.bor, S_string)], [(.bool, .b)], fun x => f_S_l1Good x.1⟩
noncomputable def cx_S_l1Good : Cx := ⟨tab, arrs, [(143, ct_S_l1Line), (154, ct_S_l1Ends)], [], gl, []⟩
theorem eb_S_l1Good_2 (t0 : PV S_string) (t5 : PV S_string) (t6 : PV (.int .i64)) (t7 : PV (.int .i64)) : denK cx_S_l1Good (rcN cx_S_l1Good 0) pl_S_l1Good 0 ((loopsOf (bodyOf Try.f92)).getD 0 .skip) (fillS sh_S_l1Good_2 (t0, t5, t6, t7, ())) (roundK 0 lp_S_l1Good_2) = b_S_l1Good_2 t0 t5 t6 t7 := by kernel_rfl
theorem ef_S_l1Good (t0 : PV S_string) : denF cx_S_l1Good 0 pl_S_l1Good Try.f92.ntmps (bodyOf Try.f92) Try.f92.results.toList [(.bor, S_string)] [(.bool, .b)] (t0, ()) = f_S_l1Good t0 := by kernel_rfl
theorem ok_S_l1Good : FnOk gl Try.prog 92 ct_S_l1Good :=
  fnOk (cx := cx_S_l1Good) (pl := pl_S_l1Good) (dp := 0) (ok0_of tabOk (by unfold ArrOk; kernel_rfl) mix ⟨ok_S_l1Line, ok_S_l1Ends, trivial⟩ trivial) Try.func92 (by kernel_rfl) (by kernel_rfl) (by kernel_rfl)
    (by rw [show loopsOf (bodyOf Try.f92) = [((loopsOf (bodyOf Try.f92)).getD 0 .skip)] from by kernel_rfl]; exact ⟨(by rw [show lookup pl_S_l1Good.loops (firstId ((loopsOf (bodyOf Try.f92)).getD 0 .skip)) = some lp_S_l1Good_2 from by kernel_rfl]; exact fun d z h => (eb_S_l1Good_2 d.1 d.2.1 d.2.2.1 d.2.2.2.1).trans h), trivial⟩) (fun x => ef_S_l1Good x.1)
noncomputable def o_S_l2Hunks_5 : List Out := [⟨.normal, ⟨[], [0, 1, 6, 9, 10, 11, 75, 92, 93], []⟩, mkSh 95 [(0, .val (.int .i64) .b), (1, .val S_impl_Hunk .b), (6, .var Y_impl_Hunk .b), (9, .val S_impl_Hunk .b), (10, .val (.int .i64) .b), (11, .val (.int .i64) .b), (75, .val .bool .b)]⟩]
noncomputable def sh_S_l2Hunks_7 : List Sh := mkSh 95 [(0, .val (.int .i64) .b), (1, .val S_impl_Hunk .b), (9, .val S_impl_Hunk .b), (10, .val (.int .i64) .b), (11, .val (.int .i64) .b), (77, .val S_string .b), (78, .val (.int .i64) .b), (79, .val (.int .i64) .b)]
noncomputable def o_S_l2Hunks_7 : List Out := [⟨.exit 2, ⟨[], [0, 1, 9, 10, 11, 20, 21, 22, 25, 26, 27, 28, 31, 32, 33, 34, 35, 36, 37, 40, 41, 42, 43, 44, 45, 46, 49, 50, 51, 52, 55, 56, 57, 58, 59, 60, 61, 62, 63, 64, 65, 66, 67, 68, 69, 70, 71, 72, 73, 74, 92, 93], []⟩, mkSh 95 [(0, .val (.int .i64) .b), (1, .val S_impl_Hunk .b), (9, .val S_impl_Hunk .b), (10, .val (.int .i64) .b), (11, .val (.int .i64) .b)]⟩, ⟨.ret, ⟨[], [4], []⟩, mkSh 95 [(4, .val .bool .b)]⟩]
noncomputable def b_S_l2Hunks_7 (t0 : PV (.int .i64)) (t1 : PV S_impl_Hunk) (t9 : PV S_impl_Hunk) (t10 : PV (.int .i64)) (t11 : PV (.int .i64)) (t77 : PV S_string) (t78 : PV (.int .i64)) (t79 : PV (.int .i64)) : Option ((PV (.int .i64) × PV S_impl_Hunk × PV S_impl_Hunk × PV (.int .i64) × PV (.int .i64) × PV S_string × PV (.int .i64) × PV (.int .i64) × Unit) ⊕ ((PV (.int .i64) × PV S_impl_Hunk × PV S_impl_Hunk × PV (.int .i64) × PV (.int .i64) × Unit) ⊕ (PV .bool × Unit))) :=
  bif (decide (t79 < t78)) then
    bif inB t79 t77.length then
      (f_S_l1Line (t77.getD t79.toNat [])).bind fun r6 =>
        bif (!r6.1.1) then
          some (.inr (.inr (false, ())))
        else
          some (.inl (t0, t1, t9, t10, t11, t77, t78, (IntKind.wrap .i64 (t79 + 1)), ()))
    else
      none
  else
    some (.inr (.inl (t0, t1, t9, t10, t11, ())))
noncomputable def w_S_l2Hunks_7 : PV (.int .i64) × PV S_impl_Hunk × PV S_impl_Hunk × PV (.int .i64) × PV (.int .i64) × PV S_string × PV (.int .i64) × PV (.int .i64) × Unit → Option ((PV (.int .i64) × PV S_impl_Hunk × PV S_impl_Hunk × PV (.int .i64) × PV (.int .i64) × Unit) ⊕ (PV .bool × Unit)) := fix fun d => b_S_l2Hunks_7 d.1 d.2.1 d.2.2.1 d.2.2.2.1 d.2.2.2.2.1 d.2.2.2.2.2.1 d.2.2.2.2.2.2.1 d.2.2.2.2.2.2.2.1
noncomputable def lp_S_l2Hunks_7 : Lp := ⟨⟨[], [0, 1, 9, 10, 11, 20, 21, 22, 25, 26, 27, 28, 31, 32, 33, 34, 35, 36, 37, 40, 41, 42, 43, 44, 45, 46, 49, 50, 51, 52, 55, 56, 57, 58, 59, 60, 61, 62, 63, 64, 65, 66, 67, 68, 69, 70, 71, 72, 73, 74, 77, 78, 79, 92, 93], []⟩, sh_S_l2Hunks_7, o_S_l2Hunks_7, fun d => b_S_l2Hunks_7 d.1 d.2.1 d.2.2.1 d.2.2.2.1 d.2.2.2.2.1 d.2.2.2.2.2.1 d.2.2.2.2.2.2.1 d.2.2.2.2.2.2.2.1⟩
noncomputable def sh_S_l2Hunks_2 : List Sh := mkSh 95 [(0, .val (.int .i64) .b), (1, .val S_impl_Hunk .b), (9, .val S_impl_Hunk .b), (10, .val (.int .i64) .b), (11, .val (.int .i64) .b)]
noncomputable def o_S_l2Hunks_2 : List Out := [⟨.exit 0, ⟨[], [0, 1, 92, 93], []⟩, mkSh 95 [(0, .val (.int .i64) .b), (1, .val S_impl_Hunk .b)]⟩, ⟨.ret, ⟨[], [4], []⟩, mkSh 95 [(4, .val .bool .b)]⟩]
noncomputable def b_S_l2Hunks_2 (t0 : PV (.int .i64)) (t1 : PV S_impl_Hunk) (t9 : PV S_impl_Hunk) (t10 : PV (.int .i64)) (t11 : PV (.int .i64)) : Option ((PV (.int .i64) × PV S_impl_Hunk × PV S_impl_Hunk × PV (.int .i64) × PV (.int .i64) × Unit) ⊕ ((PV (.int .i64) × PV S_impl_Hunk × Unit) ⊕ (PV .bool × Unit))) :=
  bif (decide (t11 < t10)) then
    bif inB t11 t9.length then
      ((
          bif (decide (((t9.getD t11.toNat (dflt Y_impl_Hunk)).1) < 0)) then
            some (t0, t1, (t9.getD t11.toNat (dflt Y_impl_Hunk)), t9, t10, t11, true, ())
          else
            bif (decide ((((t9.getD t11.toNat (dflt Y_impl_Hunk)).2).1) < 0)) then
              some (t0, t1, (t9.getD t11.toNat (dflt Y_impl_Hunk)), t9, t10, t11, true, ())
            else
              bif (decide ((((t9.getD t11.toNat (dflt Y_impl_Hunk)).2).1) > t0)) then
                some (t0, t1, (t9.getD t11.toNat (dflt Y_impl_Hunk)), t9, t10, t11, true, ())
              else
                bif (decide (((t9.getD t11.toNat (dflt Y_impl_Hunk)).1) > (IntKind.wrap .i64 (t0 - (((t9.getD t11.toNat (dflt Y_impl_Hunk)).2).1))))) then
                  some (t0, t1, (t9.getD t11.toNat (dflt Y_impl_Hunk)), t9, t10, t11, true, ())
                else
                  bif ((IntKind.wrap .i64 ((((t9.getD t11.toNat (dflt Y_impl_Hunk)).2).1) + (((((t9.getD t11.toNat (dflt Y_impl_Hunk)).2).2).1).length : Int))) == 0) then
                    some (t0, t1, (t9.getD t11.toNat (dflt Y_impl_Hunk)), t9, t10, t11, true, ())
                  else
                    bif (decide ((((((t9.getD t11.toNat (dflt Y_impl_Hunk)).2).2).1).length : Int) > 40)) then
                      some (t0, t1, (t9.getD t11.toNat (dflt Y_impl_Hunk)), t9, t10, t11, true, ())
                    else
                      bif (decide (t11 > 0)) then
                        bif inB (IntKind.wrap .i64 (t11 - 1)) t1.length then
                          bif inB (IntKind.wrap .i64 (t11 - 1)) t1.length then
                            some (t0, t1, (t9.getD t11.toNat (dflt Y_impl_Hunk)), t9, t10, t11, (decide (((t9.getD t11.toNat (dflt Y_impl_Hunk)).1) ≤ (IntKind.wrap .i64 (((t1.getD ((IntKind.wrap .i64 (t11 - 1)).toNat) (dflt Y_impl_Hunk)).1) + (((t1.getD ((IntKind.wrap .i64 (t11 - 1)).toNat) (dflt Y_impl_Hunk)).2).1))))), ())
                          else
                            none
                        else
                          none
                      else
                        some (t0, t1, (t9.getD t11.toNat (dflt Y_impl_Hunk)), t9, t10, t11, false, ()) : Option ((PV (.int .i64) × PV S_impl_Hunk × PV Y_impl_Hunk × PV S_impl_Hunk × PV (.int .i64) × PV (.int .i64) × PV .bool × Unit)))).bind fun j6 =>
        bif j6.2.2.2.2.2.2.1 then
          some (.inr (.inr (false, ())))
        else
          (w_S_l2Hunks_7 (j6.1, j6.2.1, j6.2.2.2.1, j6.2.2.2.2.1, j6.2.2.2.2.2.1, j6.2.2.1.2.2.1, (j6.2.2.1.2.2.1.length : Int), 0, ())).bind fun x14 =>
            match x14 with
            | .inl l7 =>
              some (.inl (l7.1, l7.2.1, l7.2.2.1, l7.2.2.2.1, (IntKind.wrap .i64 (l7.2.2.2.2.1 + 1)), ()))
            | .inr l8 =>
              some (.inr (.inr (l8.1, ())))
    else
      none
  else
    some (.inr (.inl (t0, t1, ())))
noncomputable def w_S_l2Hunks_2 : PV (.int .i64) × PV S_impl_Hunk × PV S_impl_Hunk × PV (.int .i64) × PV (.int .i64) × Unit → Option ((PV (.int .i64) × PV S_impl_Hunk × Unit) ⊕ (PV .bool × Unit)) := fix fun d => b_S_l2Hunks_2 d.1 d.2.1 d.2.2.1 d.2.2.2.1 d.2.2.2.2.1
noncomputable def lp_S_l2Hunks_2 : Lp := ⟨⟨[], [0, 1, 9, 10, 11, 20, 21, 22, 25, 26, 27, 28, 31, 32, 33, 34, 35, 36, 37, 40, 41, 42, 43, 44, 45, 46, 49, 50, 51, 52, 55, 56, 57, 58, 59, 60, 61, 62, 63, 64, 65, 66, 67, 68, 69, 70, 71, 72, 73, 74, 92, 93], []⟩, sh_S_l2Hunks_2, o_S_l2Hunks_2, fun d => b_S_l2Hunks_2 d.1 d.2.1 d.2.2.1 d.2.2.2.1 d.2.2.2.2.1⟩
noncomputable def pl_S_l2Hunks : Plan := ⟨[(5, o_S_l2Hunks_5)], [(7, lp_S_l2Hunks_7), (2, lp_S_l2Hunks_2)], 0, 0⟩
noncomputable def f_S_l2Hunks (t0 : PV (.int .i64)) (t1 : PV S_impl_Hunk) : Option (PVs [.bool] × PVs []) :=
  (w_S_l2Hunks_2 (t0, t1, t1, (t1.length : Int), 0, ())).bind fun x15 =>
    match x15 with
    | .inl l11 =>
      bif (decide ((l11.2.1.length : Int) ≤ 20)) then
        (f_S_l1In l11.1 0 40).bind fun r12 =>
          some ((r12.1.1, ()), ())
      else
        some ((false, ()), ())
    | .inr l13 =>
      some ((l13.1, ()), ())
noncomputable def ct_S_l2Hunks : Ct := ⟨[(.bor, (.int .i64)), (.bor, S_impl_Hunk)], [(.bool, .b)], fun x => f_S_l2Hunks x.1 x.2.1⟩
noncomputable def cx_S_l2Hunks : Cx := ⟨tab, arrs, [(109, ct_S_l1In), (143, ct_S_l1Line)], [], gl, []⟩
theorem eb_S_l2Hunks_2 (t0 : PV (.int .i64)) (t1 : PV S_impl_Hunk) (t9 : PV S_impl_Hunk) (t10 : PV (.int .i64)) (t11 : PV (.int .i64)) : denK cx_S_l2Hunks (rcN cx_S_l2Hunks 0) pl_S_l2Hunks 0 ((loopsOf (bodyOf Try.f71)).getD 0 .skip) (fillS sh_S_l2Hunks_2 (t0, t1, t9, t10, t11, ())) (roundK 0 lp_S_l2Hunks_2) = b_S_l2Hunks_2 t0 t1 t9 t10 t11 := by kernel_rfl
theorem eb_S_l2Hunks_7 (t0 : PV (.int .i64)) (t1 : PV S_impl_Hunk) (t9 : PV S_impl_Hunk) (t10 : PV (.int .i64)) (t11 : PV (.int .i64)) (t77 : PV S_string) (t78 : PV (.int .i64)) (t79 : PV (.int .i64)) : denK cx_S_l2Hunks (rcN cx_S_l2Hunks 0) pl_S_l2Hunks 0 ((loopsOf (bodyOf Try.f71)).getD 1 .skip) (fillS sh_S_l2Hunks_7 (t0, t1, t9, t10, t11, t77, t78, t79, ())) (roundK 0 lp_S_l2Hunks_7) = b_S_l2Hunks_7 t0 t1 t9 t10 t11 t77 t78 t79 := by kernel_rfl
theorem ef_S_l2Hunks (t0 : PV (.int .i64)) (t1 : PV S_impl_Hunk) : denF cx_S_l2Hunks 0 pl_S_l2Hunks Try.f71.ntmps (bodyOf Try.f71) Try.f71.results.toList [(.bor, (.int .i64)), (.bor, S_impl_Hunk)] [(.bool, .b)] (t0, t1, ()) = f_S_l2Hunks t0 t1 := by kernel_rfl
theorem ok_S_l2Hunks : FnOk gl Try.prog 71 ct_S_l2Hunks :=
  fnOk (cx := cx_S_l2Hunks) (pl := pl_S_l2Hunks) (dp := 0) (ok0_of tabOk (by unfold ArrOk; kernel_rfl) mix ⟨ok_S_l1In, ok_S_l1Line, trivial⟩ trivial) Try.func71 (by kernel_rfl) (by kernel_rfl) (by kernel_rfl)
    (by rw [show loopsOf (bodyOf Try.f71) = [((loopsOf (bodyOf Try.f71)).getD 0 .skip), ((loopsOf (bodyOf Try.f71)).getD 1 .skip)] from by kernel_rfl]; exact ⟨(by rw [show lookup pl_S_l2Hunks.loops (firstId ((loopsOf (bodyOf Try.f71)).getD 0 .skip)) = some lp_S_l2Hunks_2 from by kernel_rfl]; exact fun d z h => (eb_S_l2Hunks_2 d.1 d.2.1 d.2.2.1 d.2.2.2.1 d.2.2.2.2.1).trans h), (by rw [show lookup pl_S_l2Hunks.loops (firstId ((loopsOf (bodyOf Try.f71)).getD 1 .skip)) = some lp_S_l2Hunks_7 from by kernel_rfl]; exact fun d z h => (eb_S_l2Hunks_7 d.1 d.2.1 d.2.2.1 d.2.2.2.1 d.2.2.2.2.1 d.2.2.2.2.2.1 d.2.2.2.2.2.2.1 d.2.2.2.2.2.2.2.1).trans h), trivial⟩) (fun x => ef_S_l2Hunks x.1 x.2.1)
noncomputable def pl_S_l2Asked : Plan := ⟨[], [], 0, 0⟩
noncomputable def f_S_l2Asked (t0 : PV S_string) (t1 : PV S_impl_Hunk) : Option (PVs [.bool] × PVs []) :=
  (f_S_l1Good t0).bind fun r1 =>
    bif r1.1.1 then
      (f_S_l2Hunks (t0.length : Int) t1).bind fun r2 =>
        some ((r2.1.1, ()), ())
    else
      some ((false, ()), ())
noncomputable def ct_S_l2Asked : Ct := ⟨[(.bor, S_string), (.bor, S_impl_Hunk)], [(.bool, .b)], fun x => f_S_l2Asked x.1 x.2.1⟩
noncomputable def cx_S_l2Asked : Cx := ⟨tab, arrs, [(71, ct_S_l2Hunks), (92, ct_S_l1Good)], [], gl, []⟩
theorem ef_S_l2Asked (t0 : PV S_string) (t1 : PV S_impl_Hunk) : denF cx_S_l2Asked 0 pl_S_l2Asked Try.f187.ntmps (bodyOf Try.f187) Try.f187.results.toList [(.bor, S_string), (.bor, S_impl_Hunk)] [(.bool, .b)] (t0, t1, ()) = f_S_l2Asked t0 t1 := by kernel_rfl
theorem ok_S_l2Asked : FnOk gl Try.prog 187 ct_S_l2Asked :=
  fnOk (cx := cx_S_l2Asked) (pl := pl_S_l2Asked) (dp := 0) (ok0_of tabOk (by unfold ArrOk; kernel_rfl) mix ⟨ok_S_l2Hunks, ok_S_l1Good, trivial⟩ trivial) Try.func187 (by kernel_rfl) (by kernel_rfl) (by kernel_rfl)
    (by rw [show loopsOf (bodyOf Try.f187) = [] from by kernel_rfl]; exact trivial) (fun x => ef_S_l2Asked x.1 x.2.1)
noncomputable def sh_S_l2Patch_4 : List Sh := mkSh 37 [(0, .val S_string .b), (5, .val S_string (.row .b)), (6, .val (.int .i64) .b), (9, .val S_impl_Hunk .b), (10, .val (.int .i64) .b), (11, .val (.int .i64) .b)]
noncomputable def o_S_l2Patch_4 : List Out := [⟨.exit 0, ⟨[], [0, 5, 6], []⟩, mkSh 37 [(0, .val S_string .b), (5, .val S_string (.row .b)), (6, .val (.int .i64) .b)]⟩]
noncomputable def b_S_l2Patch_4 (t0 : PV S_string) (t5 : PV S_string) (t6 : PV (.int .i64)) (t9 : PV S_impl_Hunk) (t10 : PV (.int .i64)) (t11 : PV (.int .i64)) : Option ((PV S_string × PV S_string × PV (.int .i64) × PV S_impl_Hunk × PV (.int .i64) × PV (.int .i64) × Unit) ⊕ ((PV S_string × PV S_string × PV (.int .i64) × Unit))) :=
  bif (decide (t11 < t10)) then
    bif inB t11 t9.length then
      bif cutB t6 ((t9.getD t11.toNat (dflt Y_impl_Hunk)).1) t0.length then
        bif roomB (t5.length + (cutL t6 ((t9.getD t11.toNat (dflt Y_impl_Hunk)).1) t0).length) then
          bif roomB ((t5 ++ (cutL t6 ((t9.getD t11.toNat (dflt Y_impl_Hunk)).1) t0)).length + ((((t9.getD t11.toNat (dflt Y_impl_Hunk)).2).2).1).length) then
            some (.inl (t0, ((t5 ++ (cutL t6 ((t9.getD t11.toNat (dflt Y_impl_Hunk)).1) t0)) ++ ((((t9.getD t11.toNat (dflt Y_impl_Hunk)).2).2).1)), (IntKind.wrap .i64 (((t9.getD t11.toNat (dflt Y_impl_Hunk)).1) + (((t9.getD t11.toNat (dflt Y_impl_Hunk)).2).1))), t9, t10, (IntKind.wrap .i64 (t11 + 1)), ()))
          else
            none
        else
          none
      else
        none
    else
      none
  else
    some (.inr (t0, t5, t6, ()))
noncomputable def w_S_l2Patch_4 : PV S_string × PV S_string × PV (.int .i64) × PV S_impl_Hunk × PV (.int .i64) × PV (.int .i64) × Unit → Option ((PV S_string × PV S_string × PV (.int .i64) × Unit)) := fix fun d => b_S_l2Patch_4 d.1 d.2.1 d.2.2.1 d.2.2.2.1 d.2.2.2.2.1 d.2.2.2.2.2.1
noncomputable def lp_S_l2Patch_4 : Lp := ⟨⟨[], [0, 5, 6, 9, 10, 11], []⟩, sh_S_l2Patch_4, o_S_l2Patch_4, fun d => b_S_l2Patch_4 d.1 d.2.1 d.2.2.1 d.2.2.2.1 d.2.2.2.2.1 d.2.2.2.2.2.1⟩
noncomputable def pl_S_l2Patch : Plan := ⟨[], [(4, lp_S_l2Patch_4)], 0, 0⟩
noncomputable def f_S_l2Patch (t0 : PV S_string) (t1 : PV S_impl_Hunk) : Option (PVs [S_string] × PVs []) :=
  (w_S_l2Patch_4 (t0, [], 0, t1, (t1.length : Int), 0, ())).bind fun l2 =>
    bif cutB l2.2.2.1 (l2.1.length : Int) l2.1.length then
      bif roomB (l2.2.1.length + (cutL l2.2.2.1 (l2.1.length : Int) l2.1).length) then
        some (((l2.2.1 ++ (cutL l2.2.2.1 (l2.1.length : Int) l2.1)), ()), ())
      else
        none
    else
      none
noncomputable def ct_S_l2Patch : Ct := ⟨[(.bor, S_string), (.bor, S_impl_Hunk)], [(S_string, (.row .b))], fun x => f_S_l2Patch x.1 x.2.1⟩
noncomputable def cx_S_l2Patch : Cx := ⟨tab, arrs, [], [], gl, []⟩
theorem eb_S_l2Patch_4 (t0 : PV S_string) (t5 : PV S_string) (t6 : PV (.int .i64)) (t9 : PV S_impl_Hunk) (t10 : PV (.int .i64)) (t11 : PV (.int .i64)) : denK cx_S_l2Patch (rcN cx_S_l2Patch 0) pl_S_l2Patch 0 ((loopsOf (bodyOf Try.f72)).getD 0 .skip) (fillS sh_S_l2Patch_4 (t0, t5, t6, t9, t10, t11, ())) (roundK 0 lp_S_l2Patch_4) = b_S_l2Patch_4 t0 t5 t6 t9 t10 t11 := by kernel_rfl
theorem ef_S_l2Patch (t0 : PV S_string) (t1 : PV S_impl_Hunk) : denF cx_S_l2Patch 0 pl_S_l2Patch Try.f72.ntmps (bodyOf Try.f72) Try.f72.results.toList [(.bor, S_string), (.bor, S_impl_Hunk)] [(S_string, (.row .b))] (t0, t1, ()) = f_S_l2Patch t0 t1 := by kernel_rfl
theorem ok_S_l2Patch : FnOk gl Try.prog 72 ct_S_l2Patch :=
  fnOk (cx := cx_S_l2Patch) (pl := pl_S_l2Patch) (dp := 0) (ok0_of tabOk (by unfold ArrOk; kernel_rfl) mix trivial trivial) Try.func72 (by kernel_rfl) (by kernel_rfl) (by kernel_rfl)
    (by rw [show loopsOf (bodyOf Try.f72) = [((loopsOf (bodyOf Try.f72)).getD 0 .skip)] from by kernel_rfl]; exact ⟨(by rw [show lookup pl_S_l2Patch.loops (firstId ((loopsOf (bodyOf Try.f72)).getD 0 .skip)) = some lp_S_l2Patch_4 from by kernel_rfl]; exact fun d z h => (eb_S_l2Patch_4 d.1 d.2.1 d.2.2.1 d.2.2.2.1 d.2.2.2.2.1 d.2.2.2.2.2.1).trans h), trivial⟩) (fun x => ef_S_l2Patch x.1 x.2.1)
noncomputable def pl_S_Patch : Plan := ⟨[], [], 0, 0⟩
noncomputable def f_S_Patch (t0 : PV S_string) (t1 : PV S_impl_Hunk) : Option (PVs [S_string, .bool] × PVs []) :=
  (f_S_l2Asked t0 t1).bind fun r4 =>
    bif (!r4.1.1) then
      some (([], false, ()), ())
    else
      (f_S_l2Patch t0 t1).bind fun r6 =>
        (f_S_l1Good r6.1.1).bind fun r10 =>
          bif (!r10.1.1) then
            some (([], false, ()), ())
          else
            some ((r6.1.1, true, ()), ())
noncomputable def ct_S_Patch : Ct := ⟨[(.bor, S_string), (.bor, S_impl_Hunk)], [(S_string, (.row .b)), (.bool, .b)], fun x => f_S_Patch x.1 x.2.1⟩
noncomputable def cx_S_Patch : Cx := ⟨tab, arrs, [(72, ct_S_l2Patch), (92, ct_S_l1Good), (187, ct_S_l2Asked)], [], gl, []⟩
theorem ef_S_Patch (t0 : PV S_string) (t1 : PV S_impl_Hunk) : denF cx_S_Patch 0 pl_S_Patch Try.f140.ntmps (bodyOf Try.f140) Try.f140.results.toList [(.bor, S_string), (.bor, S_impl_Hunk)] [(S_string, (.row .b)), (.bool, .b)] (t0, t1, ()) = f_S_Patch t0 t1 := by kernel_rfl
theorem ok_S_Patch : FnOk gl Try.prog 140 ct_S_Patch :=
  fnOk (cx := cx_S_Patch) (pl := pl_S_Patch) (dp := 0) (ok0_of tabOk (by unfold ArrOk; kernel_rfl) mix ⟨ok_S_l2Patch, ok_S_l1Good, ok_S_l2Asked, trivial⟩ trivial) Try.func140 (by kernel_rfl) (by kernel_rfl) (by kernel_rfl)
    (by rw [show loopsOf (bodyOf Try.f140) = [] from by kernel_rfl]; exact trivial) (fun x => ef_S_Patch x.1 x.2.1)
noncomputable def pl_S_l13Both : Plan := ⟨[], [], 0, 0⟩
noncomputable def f_S_l13Both (t0 : PV S_string) (t1 : PV S_impl_Hunk) (t2 : PV S_impl_Hunk) : Option (PVs [.bool] × PVs []) :=
  (f_S_Patch t0 t1).bind fun r2 =>
    (f_S_Patch t0 t2).bind fun r4 =>
      bif r2.1.2.1 then
        some ((r4.1.2.1, ()), ())
      else
        some ((false, ()), ())
noncomputable def ct_S_l13Both : Ct := ⟨[(.bor, S_string), (.bor, S_impl_Hunk), (.bor, S_impl_Hunk)], [(.bool, .b)], fun x => f_S_l13Both x.1 x.2.1 x.2.2.1⟩
noncomputable def cx_S_l13Both : Cx := ⟨tab, arrs, [(140, ct_S_Patch)], [], gl, []⟩
theorem ef_S_l13Both (t0 : PV S_string) (t1 : PV S_impl_Hunk) (t2 : PV S_impl_Hunk) : denF cx_S_l13Both 0 pl_S_l13Both Try.f68.ntmps (bodyOf Try.f68) Try.f68.results.toList [(.bor, S_string), (.bor, S_impl_Hunk), (.bor, S_impl_Hunk)] [(.bool, .b)] (t0, t1, t2, ()) = f_S_l13Both t0 t1 t2 := by kernel_rfl
theorem ok_S_l13Both : FnOk gl Try.prog 68 ct_S_l13Both :=
  fnOk (cx := cx_S_l13Both) (pl := pl_S_l13Both) (dp := 0) (ok0_of tabOk (by unfold ArrOk; kernel_rfl) mix ⟨ok_S_Patch, trivial⟩ trivial) Try.func68 (by kernel_rfl) (by kernel_rfl) (by kernel_rfl)
    (by rw [show loopsOf (bodyOf Try.f68) = [] from by kernel_rfl]; exact trivial) (fun x => ef_S_l13Both x.1 x.2.1 x.2.2.1)
noncomputable def o_S_l13Touch_8 : List Out := [⟨.normal, ⟨[], [1, 6, 8, 9, 10, 11, 15, 16, 17, 38], []⟩, mkSh 41 [(1, .val S_impl_Hunk .b), (6, .var Y_impl_Hunk .b), (8, .var Y_impl_Hunk .b), (9, .val S_impl_Hunk .b), (10, .val (.int .i64) .b), (11, .val (.int .i64) .b), (15, .val S_impl_Hunk .b), (16, .val (.int .i64) .b), (17, .val (.int .i64) .b), (38, .val .bool .b)]⟩]
noncomputable def sh_S_l13Touch_5 : List Sh := mkSh 41 [(1, .val S_impl_Hunk .b), (6, .var Y_impl_Hunk .b), (9, .val S_impl_Hunk .b), (10, .val (.int .i64) .b), (11, .val (.int .i64) .b), (15, .val S_impl_Hunk .b), (16, .val (.int .i64) .b), (17, .val (.int .i64) .b)]
noncomputable def o_S_l13Touch_5 : List Out := [⟨.exit 2, ⟨[], [1, 9, 10, 11, 30, 31, 32, 33, 34, 35, 36, 37], []⟩, mkSh 41 [(1, .val S_impl_Hunk .b), (9, .val S_impl_Hunk .b), (10, .val (.int .i64) .b), (11, .val (.int .i64) .b)]⟩, ⟨.ret, ⟨[], [4], []⟩, mkSh 41 [(4, .val .bool .b)]⟩]
noncomputable def b_S_l13Touch_5 (t1 : PV S_impl_Hunk) (t6 : PV Y_impl_Hunk) (t9 : PV S_impl_Hunk) (t10 : PV (.int .i64)) (t11 : PV (.int .i64)) (t15 : PV S_impl_Hunk) (t16 : PV (.int .i64)) (t17 : PV (.int .i64)) : Option ((PV S_impl_Hunk × PV Y_impl_Hunk × PV S_impl_Hunk × PV (.int .i64) × PV (.int .i64) × PV S_impl_Hunk × PV (.int .i64) × PV (.int .i64) × Unit) ⊕ ((PV S_impl_Hunk × PV S_impl_Hunk × PV (.int .i64) × PV (.int .i64) × Unit) ⊕ (PV .bool × Unit))) :=
  bif (decide (t17 < t16)) then
    bif inB t17 t15.length then
      ((
          bif (decide (t6.1 ≤ (IntKind.wrap .i64 (((t15.getD t17.toNat (dflt Y_impl_Hunk)).1) + (((t15.getD t17.toNat (dflt Y_impl_Hunk)).2).1))))) then
            some (t1, t6, (t15.getD t17.toNat (dflt Y_impl_Hunk)), t9, t10, t11, t15, t16, t17, (decide (((t15.getD t17.toNat (dflt Y_impl_Hunk)).1) ≤ (IntKind.wrap .i64 (t6.1 + t6.2.1)))), ())
          else
            some (t1, t6, (t15.getD t17.toNat (dflt Y_impl_Hunk)), t9, t10, t11, t15, t16, t17, false, ()) : Option ((PV S_impl_Hunk × PV Y_impl_Hunk × PV Y_impl_Hunk × PV S_impl_Hunk × PV (.int .i64) × PV (.int .i64) × PV S_impl_Hunk × PV (.int .i64) × PV (.int .i64) × PV .bool × Unit)))).bind fun j2 =>
        bif j2.2.2.2.2.2.2.2.2.2.1 then
          some (.inr (.inr (true, ())))
        else
          some (.inl (j2.1, j2.2.1, j2.2.2.2.1, j2.2.2.2.2.1, j2.2.2.2.2.2.1, j2.2.2.2.2.2.2.1, j2.2.2.2.2.2.2.2.1, (IntKind.wrap .i64 (j2.2.2.2.2.2.2.2.2.1 + 1)), ()))
    else
      none
  else
    some (.inr (.inl (t1, t9, t10, t11, ())))
noncomputable def w_S_l13Touch_5 : PV S_impl_Hunk × PV Y_impl_Hunk × PV S_impl_Hunk × PV (.int .i64) × PV (.int .i64) × PV S_impl_Hunk × PV (.int .i64) × PV (.int .i64) × Unit → Option ((PV S_impl_Hunk × PV S_impl_Hunk × PV (.int .i64) × PV (.int .i64) × Unit) ⊕ (PV .bool × Unit)) := fix fun d => b_S_l13Touch_5 d.1 d.2.1 d.2.2.1 d.2.2.2.1 d.2.2.2.2.1 d.2.2.2.2.2.1 d.2.2.2.2.2.2.1 d.2.2.2.2.2.2.2.1
noncomputable def lp_S_l13Touch_5 : Lp := ⟨⟨[], [1, 6, 9, 10, 11, 15, 16, 17, 30, 31, 32, 33, 34, 35, 36, 37], []⟩, sh_S_l13Touch_5, o_S_l13Touch_5, fun d => b_S_l13Touch_5 d.1 d.2.1 d.2.2.1 d.2.2.2.1 d.2.2.2.2.1 d.2.2.2.2.2.1 d.2.2.2.2.2.2.1 d.2.2.2.2.2.2.2.1⟩
noncomputable def sh_S_l13Touch_2 : List Sh := mkSh 41 [(1, .val S_impl_Hunk .b), (9, .val S_impl_Hunk .b), (10, .val (.int .i64) .b), (11, .val (.int .i64) .b)]
noncomputable def o_S_l13Touch_2 : List Out := [⟨.exit 0, ⟨[], [], []⟩, mkSh 41 []⟩, ⟨.ret, ⟨[], [4], []⟩, mkSh 41 [(4, .val .bool .b)]⟩]
noncomputable def b_S_l13Touch_2 (t1 : PV S_impl_Hunk) (t9 : PV S_impl_Hunk) (t10 : PV (.int .i64)) (t11 : PV (.int .i64)) : Option ((PV S_impl_Hunk × PV S_impl_Hunk × PV (.int .i64) × PV (.int .i64) × Unit) ⊕ ((Unit) ⊕ (PV .bool × Unit))) :=
  bif (decide (t11 < t10)) then
    bif inB t11 t9.length then
      (w_S_l13Touch_5 (t1, (t9.getD t11.toNat (dflt Y_impl_Hunk)), t9, t10, t11, t1, (t1.length : Int), 0, ())).bind fun x9 =>
        match x9 with
        | .inl l3 =>
          some (.inl (l3.1, l3.2.1, l3.2.2.1, (IntKind.wrap .i64 (l3.2.2.2.1 + 1)), ()))
        | .inr l4 =>
          some (.inr (.inr (l4.1, ())))
    else
      none
  else
    some (.inr (.inl ()))
noncomputable def w_S_l13Touch_2 : PV S_impl_Hunk × PV S_impl_Hunk × PV (.int .i64) × PV (.int .i64) × Unit → Option ((Unit) ⊕ (PV .bool × Unit)) := fix fun d => b_S_l13Touch_2 d.1 d.2.1 d.2.2.1 d.2.2.2.1
noncomputable def lp_S_l13Touch_2 : Lp := ⟨⟨[], [1, 9, 10, 11, 30, 31, 32, 33, 34, 35, 36, 37], []⟩, sh_S_l13Touch_2, o_S_l13Touch_2, fun d => b_S_l13Touch_2 d.1 d.2.1 d.2.2.1 d.2.2.2.1⟩
noncomputable def pl_S_l13Touch : Plan := ⟨[(8, o_S_l13Touch_8)], [(5, lp_S_l13Touch_5), (2, lp_S_l13Touch_2)], 0, 0⟩
noncomputable def f_S_l13Touch (t0 : PV S_impl_Hunk) (t1 : PV S_impl_Hunk) : Option (PVs [.bool] × PVs []) :=
  (w_S_l13Touch_2 (t1, t0, (t0.length : Int), 0, ())).bind fun x10 =>
    match x10 with
    | .inl l7 =>
      some ((false, ()), ())
    | .inr l8 =>
      some ((l8.1, ()), ())
noncomputable def ct_S_l13Touch : Ct := ⟨[(.bor, S_impl_Hunk), (.bor, S_impl_Hunk)], [(.bool, .b)], fun x => f_S_l13Touch x.1 x.2.1⟩
noncomputable def cx_S_l13Touch : Cx := ⟨tab, arrs, [], [], gl, []⟩
theorem eb_S_l13Touch_2 (t1 : PV S_impl_Hunk) (t9 : PV S_impl_Hunk) (t10 : PV (.int .i64)) (t11 : PV (.int .i64)) : denK cx_S_l13Touch (rcN cx_S_l13Touch 0) pl_S_l13Touch 0 ((loopsOf (bodyOf Try.f69)).getD 0 .skip) (fillS sh_S_l13Touch_2 (t1, t9, t10, t11, ())) (roundK 0 lp_S_l13Touch_2) = b_S_l13Touch_2 t1 t9 t10 t11 := by kernel_rfl
theorem eb_S_l13Touch_5 (t1 : PV S_impl_Hunk) (t6 : PV Y_impl_Hunk) (t9 : PV S_impl_Hunk) (t10 : PV (.int .i64)) (t11 : PV (.int .i64)) (t15 : PV S_impl_Hunk) (t16 : PV (.int .i64)) (t17 : PV (.int .i64)) : denK cx_S_l13Touch (rcN cx_S_l13Touch 0) pl_S_l13Touch 0 ((loopsOf (bodyOf Try.f69)).getD 1 .skip) (fillS sh_S_l13Touch_5 (t1, t6, t9, t10, t11, t15, t16, t17, ())) (roundK 0 lp_S_l13Touch_5) = b_S_l13Touch_5 t1 t6 t9 t10 t11 t15 t16 t17 := by kernel_rfl
theorem ef_S_l13Touch (t0 : PV S_impl_Hunk) (t1 : PV S_impl_Hunk) : denF cx_S_l13Touch 0 pl_S_l13Touch Try.f69.ntmps (bodyOf Try.f69) Try.f69.results.toList [(.bor, S_impl_Hunk), (.bor, S_impl_Hunk)] [(.bool, .b)] (t0, t1, ()) = f_S_l13Touch t0 t1 := by kernel_rfl
theorem ok_S_l13Touch : FnOk gl Try.prog 69 ct_S_l13Touch :=
  fnOk (cx := cx_S_l13Touch) (pl := pl_S_l13Touch) (dp := 0) (ok0_of tabOk (by unfold ArrOk; kernel_rfl) mix trivial trivial) Try.func69 (by kernel_rfl) (by kernel_rfl) (by kernel_rfl)
    (by rw [show loopsOf (bodyOf Try.f69) = [((loopsOf (bodyOf Try.f69)).getD 0 .skip), ((loopsOf (bodyOf Try.f69)).getD 1 .skip)] from by kernel_rfl]; exact ⟨(by rw [show lookup pl_S_l13Touch.loops (firstId ((loopsOf (bodyOf Try.f69)).getD 0 .skip)) = some lp_S_l13Touch_2 from by kernel_rfl]; exact fun d z h => (eb_S_l13Touch_2 d.1 d.2.1 d.2.2.1 d.2.2.2.1).trans h), (by rw [show lookup pl_S_l13Touch.loops (firstId ((loopsOf (bodyOf Try.f69)).getD 1 .skip)) = some lp_S_l13Touch_5 from by kernel_rfl]; exact fun d z h => (eb_S_l13Touch_5 d.1 d.2.1 d.2.2.1 d.2.2.2.1 d.2.2.2.2.1 d.2.2.2.2.2.1 d.2.2.2.2.2.2.1 d.2.2.2.2.2.2.2.1).trans h), trivial⟩) (fun x => ef_S_l13Touch x.1 x.2.1)
noncomputable def pl_S_l1OwnT : Plan := ⟨[], [], 0, 0⟩
noncomputable def f_S_l1OwnT (t0 : PV S_string) : Option (PVs [S_string] × PVs []) :=
  bif roomB (([] : PV S_string).length + t0.length) then
    some (((([] : PV S_string) ++ t0), ()), ())
  else
    none
noncomputable def ct_S_l1OwnT : Ct := ⟨[(.bor, S_string)], [(S_string, (.row .b))], fun x => f_S_l1OwnT x.1⟩
noncomputable def cx_S_l1OwnT : Cx := ⟨tab, arrs, [], [], gl, []⟩
theorem ef_S_l1OwnT (t0 : PV S_string) : denF cx_S_l1OwnT 0 pl_S_l1OwnT Try.f111.ntmps (bodyOf Try.f111) Try.f111.results.toList [(.bor, S_string)] [(S_string, (.row .b))] (t0, ()) = f_S_l1OwnT t0 := by kernel_rfl
theorem ok_S_l1OwnT : FnOk gl Try.prog 111 ct_S_l1OwnT :=
  fnOk (cx := cx_S_l1OwnT) (pl := pl_S_l1OwnT) (dp := 0) (ok0_of tabOk (by unfold ArrOk; kernel_rfl) mix trivial trivial) Try.func111 (by kernel_rfl) (by kernel_rfl) (by kernel_rfl)
    (by rw [show loopsOf (bodyOf Try.f111) = [] from by kernel_rfl]; exact trivial) (fun x => ef_S_l1OwnT x.1)
noncomputable def sh_S_l13OwnH_3 : List Sh := mkSh 25 [(3, .val S_impl_Hunk (.row (.pr .b (.pr .b (.pr (.row .b) .b))))), (6, .val S_impl_Hunk .b), (7, .val (.int .i64) .b), (8, .val (.int .i64) .b)]
noncomputable def o_S_l13OwnH_3 : List Out := [⟨.exit 0, ⟨[], [3], []⟩, mkSh 25 [(3, .val S_impl_Hunk (.row (.pr .b (.pr .b (.pr (.row .b) .b)))))]⟩]
noncomputable def b_S_l13OwnH_3 (t3 : PV S_impl_Hunk) (t6 : PV S_impl_Hunk) (t7 : PV (.int .i64)) (t8 : PV (.int .i64)) : Option ((PV S_impl_Hunk × PV S_impl_Hunk × PV (.int .i64) × PV (.int .i64) × Unit) ⊕ ((PV S_impl_Hunk × Unit))) :=
  bif (decide (t8 < t7)) then
    bif inB t8 t6.length then
      (f_S_l1OwnT ((((t6.getD t8.toNat (dflt Y_impl_Hunk)).2).2).1)).bind fun r2 =>
        bif roomB (t3.length + [((t6.getD t8.toNat (dflt Y_impl_Hunk)).1, (((t6.getD t8.toNat (dflt Y_impl_Hunk)).2).1, (r2.1.1, ())))].length) then
          some (.inl ((t3 ++ [((t6.getD t8.toNat (dflt Y_impl_Hunk)).1, (((t6.getD t8.toNat (dflt Y_impl_Hunk)).2).1, (r2.1.1, ())))]), t6, t7, (IntKind.wrap .i64 (t8 + 1)), ()))
        else
          none
    else
      none
  else
    some (.inr (t3, ()))
noncomputable def w_S_l13OwnH_3 : PV S_impl_Hunk × PV S_impl_Hunk × PV (.int .i64) × PV (.int .i64) × Unit → Option ((PV S_impl_Hunk × Unit)) := fix fun d => b_S_l13OwnH_3 d.1 d.2.1 d.2.2.1 d.2.2.2.1
noncomputable def lp_S_l13OwnH_3 : Lp := ⟨⟨[], [3, 6, 7, 8], []⟩, sh_S_l13OwnH_3, o_S_l13OwnH_3, fun d => b_S_l13OwnH_3 d.1 d.2.1 d.2.2.1 d.2.2.2.1⟩
noncomputable def pl_S_l13OwnH : Plan := ⟨[], [(3, lp_S_l13OwnH_3)], 0, 0⟩
noncomputable def f_S_l13OwnH (t0 : PV S_impl_Hunk) : Option (PVs [S_impl_Hunk] × PVs []) :=
  (w_S_l13OwnH_3 ([], t0, (t0.length : Int), 0, ())).bind fun l4 =>
    some ((l4.1, ()), ())
noncomputable def ct_S_l13OwnH : Ct := ⟨[(.bor, S_impl_Hunk)], [(S_impl_Hunk, (.row (.pr .b (.pr .b (.pr .b .b)))))], fun x => f_S_l13OwnH x.1⟩
noncomputable def cx_S_l13OwnH : Cx := ⟨tab, arrs, [(111, ct_S_l1OwnT)], [], gl, []⟩
theorem eb_S_l13OwnH_3 (t3 : PV S_impl_Hunk) (t6 : PV S_impl_Hunk) (t7 : PV (.int .i64)) (t8 : PV (.int .i64)) : denK cx_S_l13OwnH (rcN cx_S_l13OwnH 0) pl_S_l13OwnH 0 ((loopsOf (bodyOf Try.f141)).getD 0 .skip) (fillS sh_S_l13OwnH_3 (t3, t6, t7, t8, ())) (roundK 0 lp_S_l13OwnH_3) = b_S_l13OwnH_3 t3 t6 t7 t8 := by kernel_rfl
theorem ef_S_l13OwnH (t0 : PV S_impl_Hunk) : denF cx_S_l13OwnH 0 pl_S_l13OwnH Try.f141.ntmps (bodyOf Try.f141) Try.f141.results.toList [(.bor, S_impl_Hunk)] [(S_impl_Hunk, (.row (.pr .b (.pr .b (.pr .b .b)))))] (t0, ()) = f_S_l13OwnH t0 := by kernel_rfl
theorem ok_S_l13OwnH : FnOk gl Try.prog 141 ct_S_l13OwnH :=
  fnOk (cx := cx_S_l13OwnH) (pl := pl_S_l13OwnH) (dp := 0) (ok0_of tabOk (by unfold ArrOk; kernel_rfl) mix ⟨ok_S_l1OwnT, trivial⟩ trivial) Try.func141 (by kernel_rfl) (by kernel_rfl) (by kernel_rfl)
    (by rw [show loopsOf (bodyOf Try.f141) = [((loopsOf (bodyOf Try.f141)).getD 0 .skip)] from by kernel_rfl]; exact ⟨(by rw [show lookup pl_S_l13OwnH.loops (firstId ((loopsOf (bodyOf Try.f141)).getD 0 .skip)) = some lp_S_l13OwnH_3 from by kernel_rfl]; exact fun d z h => (eb_S_l13OwnH_3 d.1 d.2.1 d.2.2.1 d.2.2.2.1).trans h), trivial⟩) (fun x => ef_S_l13OwnH x.1)
noncomputable def o_S_l2Place_9 : List Out := [⟨.normal, ⟨[], [1, 5, 8, 9, 10], []⟩, mkSh 39 [(1, .val (.int .i64) .b), (5, .val (.int .i64) .b), (8, .val S_impl_Hunk .b), (9, .val (.int .i64) .b), (10, .val (.int .i64) .b)]⟩, ⟨.ret, ⟨[], [4], []⟩, mkSh 39 [(4, .val (.int .i64) .b)]⟩]
noncomputable def sh_S_l2Place_3 : List Sh := mkSh 39 [(1, .val (.int .i64) .b), (5, .val (.int .i64) .b), (8, .val S_impl_Hunk .b), (9, .val (.int .i64) .b), (10, .val (.int .i64) .b)]
noncomputable def o_S_l2Place_3 : List Out := [⟨.exit 0, ⟨[], [1, 5], []⟩, mkSh 39 [(1, .val (.int .i64) .b), (5, .val (.int .i64) .b)]⟩, ⟨.ret, ⟨[], [4], []⟩, mkSh 39 [(4, .val (.int .i64) .b)]⟩]
noncomputable def b_S_l2Place_3 (t1 : PV (.int .i64)) (t5 : PV (.int .i64)) (t8 : PV S_impl_Hunk) (t9 : PV (.int .i64)) (t10 : PV (.int .i64)) : Option ((PV (.int .i64) × PV (.int .i64) × PV S_impl_Hunk × PV (.int .i64) × PV (.int .i64) × Unit) ⊕ ((PV (.int .i64) × PV (.int .i64) × Unit) ⊕ (PV (.int .i64) × Unit))) :=
  bif (decide (t10 < t9)) then
    ((
        bif inB t10 t8.length then
          bif (decide ((IntKind.wrap .i64 (((t8.getD t10.toNat (dflt Y_impl_Hunk)).1) + (((t8.getD t10.toNat (dflt Y_impl_Hunk)).2).1))) ≤ t1)) then
            some (.inl (t1, (IntKind.wrap .i64 (t5 + (IntKind.wrap .i64 ((((((t8.getD t10.toNat (dflt Y_impl_Hunk)).2).2).1).length : Int) - (((t8.getD t10.toNat (dflt Y_impl_Hunk)).2).1))))), t8, t9, t10, ()))
          else
            bif (decide (((t8.getD t10.toNat (dflt Y_impl_Hunk)).1) ≤ t1)) then
              some (.inr ((-1), ()))
            else
              some (.inl (t1, t5, t8, t9, t10, ()))
        else
          none : Option ((PV (.int .i64) × PV (.int .i64) × PV S_impl_Hunk × PV (.int .i64) × PV (.int .i64) × Unit) ⊕ (PV (.int .i64) × Unit)))).bind fun x7 =>
      match x7 with
      | .inl j1 =>
        some (.inl (j1.1, j1.2.1, j1.2.2.1, j1.2.2.2.1, (IntKind.wrap .i64 (j1.2.2.2.2.1 + 1)), ()))
      | .inr j2 =>
        some (.inr (.inr (j2.1, ())))
  else
    some (.inr (.inl (t1, t5, ())))
noncomputable def w_S_l2Place_3 : PV (.int .i64) × PV (.int .i64) × PV S_impl_Hunk × PV (.int .i64) × PV (.int .i64) × Unit → Option ((PV (.int .i64) × PV (.int .i64) × Unit) ⊕ (PV (.int .i64) × Unit)) := fix fun d => b_S_l2Place_3 d.1 d.2.1 d.2.2.1 d.2.2.2.1 d.2.2.2.2.1
noncomputable def lp_S_l2Place_3 : Lp := ⟨⟨[], [1, 5, 8, 9, 10], []⟩, sh_S_l2Place_3, o_S_l2Place_3, fun d => b_S_l2Place_3 d.1 d.2.1 d.2.2.1 d.2.2.2.1 d.2.2.2.2.1⟩
noncomputable def pl_S_l2Place : Plan := ⟨[(9, o_S_l2Place_9)], [(3, lp_S_l2Place_3)], 0, 0⟩
noncomputable def f_S_l2Place (t0 : PV S_impl_Hunk) (t1 : PV (.int .i64)) : Option (PVs [(.int .i64)] × PVs []) :=
  (w_S_l2Place_3 (t1, 0, t0, (t0.length : Int), 0, ())).bind fun x8 =>
    match x8 with
    | .inl l5 =>
      some (((IntKind.wrap .i64 (l5.1 + l5.2.1)), ()), ())
    | .inr l6 =>
      some ((l6.1, ()), ())
noncomputable def ct_S_l2Place : Ct := ⟨[(.bor, S_impl_Hunk), (.bor, (.int .i64))], [((.int .i64), .b)], fun x => f_S_l2Place x.1 x.2.1⟩
noncomputable def cx_S_l2Place : Cx := ⟨tab, arrs, [], [], gl, []⟩
theorem eb_S_l2Place_3 (t1 : PV (.int .i64)) (t5 : PV (.int .i64)) (t8 : PV S_impl_Hunk) (t9 : PV (.int .i64)) (t10 : PV (.int .i64)) : denK cx_S_l2Place (rcN cx_S_l2Place 0) pl_S_l2Place 0 ((loopsOf (bodyOf Try.f142)).getD 0 .skip) (fillS sh_S_l2Place_3 (t1, t5, t8, t9, t10, ())) (roundK 0 lp_S_l2Place_3) = b_S_l2Place_3 t1 t5 t8 t9 t10 := by kernel_rfl
theorem ef_S_l2Place (t0 : PV S_impl_Hunk) (t1 : PV (.int .i64)) : denF cx_S_l2Place 0 pl_S_l2Place Try.f142.ntmps (bodyOf Try.f142) Try.f142.results.toList [(.bor, S_impl_Hunk), (.bor, (.int .i64))] [((.int .i64), .b)] (t0, t1, ()) = f_S_l2Place t0 t1 := by kernel_rfl
theorem ok_S_l2Place : FnOk gl Try.prog 142 ct_S_l2Place :=
  fnOk (cx := cx_S_l2Place) (pl := pl_S_l2Place) (dp := 0) (ok0_of tabOk (by unfold ArrOk; kernel_rfl) mix trivial trivial) Try.func142 (by kernel_rfl) (by kernel_rfl) (by kernel_rfl)
    (by rw [show loopsOf (bodyOf Try.f142) = [((loopsOf (bodyOf Try.f142)).getD 0 .skip)] from by kernel_rfl]; exact ⟨(by rw [show lookup pl_S_l2Place.loops (firstId ((loopsOf (bodyOf Try.f142)).getD 0 .skip)) = some lp_S_l2Place_3 from by kernel_rfl]; exact fun d z h => (eb_S_l2Place_3 d.1 d.2.1 d.2.2.1 d.2.2.2.1 d.2.2.2.2.1).trans h), trivial⟩) (fun x => ef_S_l2Place x.1 x.2.1)
noncomputable def sh_S_l13Move_3 : List Sh := mkSh 27 [(0, .val S_impl_Hunk .b), (5, .val S_impl_Hunk (.row (.pr .b (.pr .b (.pr .b .b))))), (10, .sub ⟨5, [], 0, 0⟩), (11, .val (.int .i64) .b), (12, .val (.int .i64) .b)]
noncomputable def o_S_l13Move_3 : List Out := [⟨.exit 0, ⟨[], [5], []⟩, mkSh 27 [(5, .val S_impl_Hunk (.row (.pr .b (.pr .b (.pr .b .b)))))]⟩]
noncomputable def b_S_l13Move_3 (t0 : PV S_impl_Hunk) (t5 : PV S_impl_Hunk) (t11 : PV (.int .i64)) (t12 : PV (.int .i64)) : Option ((PV S_impl_Hunk × PV S_impl_Hunk × PV (.int .i64) × PV (.int .i64) × Unit) ⊕ ((PV S_impl_Hunk × Unit))) :=
  bif (decide (t12 < t11)) then
    bif inB t12 t5.length then
      (f_S_l2Place t0 ((t5.getD t12.toNat (dflt Y_impl_Hunk)).1)).bind fun r4 =>
        bif inB t12 t5.length then
          some (.inl (t0, (t5.set t12.toNat (r4.1.1, (t5.getD t12.toNat (dflt Y_impl_Hunk)).2)), t11, (IntKind.wrap .i64 (t12 + 1)), ()))
        else
          none
    else
      none
  else
    some (.inr (t5, ()))
noncomputable def w_S_l13Move_3 : PV S_impl_Hunk × PV S_impl_Hunk × PV (.int .i64) × PV (.int .i64) × Unit → Option ((PV S_impl_Hunk × Unit)) := fix fun d => b_S_l13Move_3 d.1 d.2.1 d.2.2.1 d.2.2.2.1
noncomputable def lp_S_l13Move_3 : Lp := ⟨⟨[], [0, 5, 10, 11, 12], []⟩, sh_S_l13Move_3, o_S_l13Move_3, fun d => b_S_l13Move_3 d.1 d.2.1 d.2.2.1 d.2.2.2.1⟩
noncomputable def pl_S_l13Move : Plan := ⟨[], [(3, lp_S_l13Move_3)], 0, 0⟩
noncomputable def f_S_l13Move (t0 : PV S_impl_Hunk) (t1 : PV S_impl_Hunk) : Option (PVs [S_impl_Hunk] × PVs []) :=
  (f_S_l13OwnH t1).bind fun r2 =>
    (w_S_l13Move_3 (t0, r2.1.1, (r2.1.1.length : Int), 0, ())).bind fun l6 =>
      some ((l6.1, ()), ())
noncomputable def ct_S_l13Move : Ct := ⟨[(.bor, S_impl_Hunk), (.bor, S_impl_Hunk)], [(S_impl_Hunk, (.row (.pr .b (.pr .b (.pr .b .b)))))], fun x => f_S_l13Move x.1 x.2.1⟩
noncomputable def cx_S_l13Move : Cx := ⟨tab, arrs, [(141, ct_S_l13OwnH), (142, ct_S_l2Place)], [], gl, []⟩
theorem eb_S_l13Move_3 (t0 : PV S_impl_Hunk) (t5 : PV S_impl_Hunk) (t11 : PV (.int .i64)) (t12 : PV (.int .i64)) : denK cx_S_l13Move (rcN cx_S_l13Move 0) pl_S_l13Move 0 ((loopsOf (bodyOf Try.f70)).getD 0 .skip) (fillS sh_S_l13Move_3 (t0, t5, t11, t12, ())) (roundK 0 lp_S_l13Move_3) = b_S_l13Move_3 t0 t5 t11 t12 := by kernel_rfl
theorem ef_S_l13Move (t0 : PV S_impl_Hunk) (t1 : PV S_impl_Hunk) : denF cx_S_l13Move 0 pl_S_l13Move Try.f70.ntmps (bodyOf Try.f70) Try.f70.results.toList [(.bor, S_impl_Hunk), (.bor, S_impl_Hunk)] [(S_impl_Hunk, (.row (.pr .b (.pr .b (.pr .b .b)))))] (t0, t1, ()) = f_S_l13Move t0 t1 := by kernel_rfl
theorem ok_S_l13Move : FnOk gl Try.prog 70 ct_S_l13Move :=
  fnOk (cx := cx_S_l13Move) (pl := pl_S_l13Move) (dp := 0) (ok0_of tabOk (by unfold ArrOk; kernel_rfl) mix ⟨ok_S_l13OwnH, ok_S_l2Place, trivial⟩ trivial) Try.func70 (by kernel_rfl) (by kernel_rfl) (by kernel_rfl)
    (by rw [show loopsOf (bodyOf Try.f70) = [((loopsOf (bodyOf Try.f70)).getD 0 .skip)] from by kernel_rfl]; exact ⟨(by rw [show lookup pl_S_l13Move.loops (firstId ((loopsOf (bodyOf Try.f70)).getD 0 .skip)) = some lp_S_l13Move_3 from by kernel_rfl]; exact fun d z h => (eb_S_l13Move_3 d.1 d.2.1 d.2.2.1 d.2.2.2.1).trans h), trivial⟩) (fun x => ef_S_l13Move x.1 x.2.1)
noncomputable def o_S_MoveHunks_2 : List Out := [⟨.normal, ⟨[], [0, 1, 2, 18], []⟩, mkSh 30 [(0, .val S_string .b), (1, .val S_impl_Hunk .b), (2, .val S_impl_Hunk .b), (18, .val .bool .b)]⟩]
noncomputable def pl_S_MoveHunks : Plan := ⟨[(2, o_S_MoveHunks_2)], [], 0, 0⟩
noncomputable def f_S_MoveHunks (t0 : PV S_string) (t1 : PV S_impl_Hunk) (t2 : PV S_impl_Hunk) : Option (PVs [S_impl_Hunk, .bool] × PVs []) :=
  ((
      (f_S_l13Both t0 t1 t2).bind fun r6 =>
        bif (!r6.1.1) then
          some (t0, t1, t2, true, ())
        else
          (f_S_l13Touch t1 t2).bind fun r7 =>
            some (t0, t1, t2, r7.1.1, ()) : Option ((PV S_string × PV S_impl_Hunk × PV S_impl_Hunk × PV .bool × Unit)))).bind fun j8 =>
    bif j8.2.2.2.1 then
      some (([], false, ()), ())
    else
      (f_S_l13Move j8.2.1 j8.2.2.1).bind fun r10 =>
        (f_S_l2Patch j8.1 j8.2.1).bind fun r17 =>
          (f_S_l2Hunks (r17.1.1.length : Int) r10.1.1).bind fun r18 =>
            bif (!r18.1.1) then
              some (([], false, ()), ())
            else
              some ((r10.1.1, true, ()), ())
noncomputable def ct_S_MoveHunks : Ct := ⟨[(.bor, S_string), (.bor, S_impl_Hunk), (.bor, S_impl_Hunk)], [(S_impl_Hunk, (.row (.pr .b (.pr .b (.pr .b .b))))), (.bool, .b)], fun x => f_S_MoveHunks x.1 x.2.1 x.2.2.1⟩
noncomputable def cx_S_MoveHunks : Cx := ⟨tab, arrs, [(68, ct_S_l13Both), (69, ct_S_l13Touch), (70, ct_S_l13Move), (71, ct_S_l2Hunks), (72, ct_S_l2Patch)], [], gl, []⟩
theorem ef_S_MoveHunks (t0 : PV S_string) (t1 : PV S_impl_Hunk) (t2 : PV S_impl_Hunk) : denF cx_S_MoveHunks 0 pl_S_MoveHunks Try.f12.ntmps (bodyOf Try.f12) Try.f12.results.toList [(.bor, S_string), (.bor, S_impl_Hunk), (.bor, S_impl_Hunk)] [(S_impl_Hunk, (.row (.pr .b (.pr .b (.pr .b .b))))), (.bool, .b)] (t0, t1, t2, ()) = f_S_MoveHunks t0 t1 t2 := by kernel_rfl
theorem ok_S_MoveHunks : FnOk gl Try.prog 12 ct_S_MoveHunks :=
  fnOk (cx := cx_S_MoveHunks) (pl := pl_S_MoveHunks) (dp := 0) (ok0_of tabOk (by unfold ArrOk; kernel_rfl) mix ⟨ok_S_l13Both, ok_S_l13Touch, ok_S_l13Move, ok_S_l2Hunks, ok_S_l2Patch, trivial⟩ trivial) Try.func12 (by kernel_rfl) (by kernel_rfl) (by kernel_rfl)
    (by rw [show loopsOf (bodyOf Try.f12) = [] from by kernel_rfl]; exact trivial) (fun x => ef_S_MoveHunks x.1 x.2.1 x.2.2.1)
noncomputable def pl_I_in : Plan := ⟨[], [], 0, 0⟩
noncomputable def f_I_in (t0 : PV (.int .i64)) (t1 : PV (.int .i64)) (t2 : PV (.int .i64)) : Option (PVs [.bool] × PVs []) :=
  bif (decide (t0 ≥ t1)) then
    some (((decide (t0 ≤ t2)), ()), ())
  else
    some ((false, ()), ())
noncomputable def ct_I_in : Ct := ⟨[(.bor, (.int .i64)), (.bor, (.int .i64)), (.bor, (.int .i64))], [(.bool, .b)], fun x => f_I_in x.1 x.2.1 x.2.2.1⟩
noncomputable def cx_I_in : Cx := ⟨tab, arrs, [], [], gl, []⟩
theorem ef_I_in (t0 : PV (.int .i64)) (t1 : PV (.int .i64)) (t2 : PV (.int .i64)) : denF cx_I_in 0 pl_I_in Try.f104.ntmps (bodyOf Try.f104) Try.f104.results.toList [(.bor, (.int .i64)), (.bor, (.int .i64)), (.bor, (.int .i64))] [(.bool, .b)] (t0, t1, t2, ()) = f_I_in t0 t1 t2 := by kernel_rfl
theorem ok_I_in : FnOk gl Try.prog 104 ct_I_in :=
  fnOk (cx := cx_I_in) (pl := pl_I_in) (dp := 0) (ok0_of tabOk (by unfold ArrOk; kernel_rfl) mix trivial trivial) Try.func104 (by kernel_rfl) (by kernel_rfl) (by kernel_rfl)
    (by rw [show loopsOf (bodyOf Try.f104) = [] from by kernel_rfl]; exact trivial) (fun x => ef_I_in x.1 x.2.1 x.2.2.1)
noncomputable def pl_I_isLine : Plan := ⟨[], [], 0, 0⟩
noncomputable def f_I_isLine (t0 : PV .str) : Option (PVs [.bool] × PVs []) :=
  (f_I_in (t0.length : Int) 1 30).bind fun r1 =>
    bif r1.1.1 then
      bif cutB 0 (IntKind.wrap .i64 ((t0.length : Int) - 1)) t0.length then
        (f_strings_Contains (cutL 0 (IntKind.wrap .i64 ((t0.length : Int) - 1)) t0) [10]).bind fun r2 =>
          some (((!r2.1.1), ()), ())
      else
        none
    else
      some ((false, ()), ())
noncomputable def ct_I_isLine : Ct := ⟨[(.bor, .str)], [(.bool, .b)], fun x => f_I_isLine x.1⟩
noncomputable def cx_I_isLine : Cx := ⟨tab, arrs, [(104, ct_I_in), (215, ct_strings_Contains)], [], gl, []⟩
theorem ef_I_isLine (t0 : PV .str) : denF cx_I_isLine 0 pl_I_isLine Try.f190.ntmps (bodyOf Try.f190) Try.f190.results.toList [(.bor, .str)] [(.bool, .b)] (t0, ()) = f_I_isLine t0 := by kernel_rfl
theorem ok_I_isLine : FnOk gl Try.prog 190 ct_I_isLine :=
  fnOk (cx := cx_I_isLine) (pl := pl_I_isLine) (dp := 0) (ok0_of tabOk (by unfold ArrOk; kernel_rfl) mix ⟨ok_I_in, ok_strings_Contains, trivial⟩ trivial) Try.func190 (by kernel_rfl) (by kernel_rfl) (by kernel_rfl)
    (by rw [show loopsOf (bodyOf Try.f190) = [] from by kernel_rfl]; exact trivial) (fun x => ef_I_isLine x.1)
noncomputable def pl_I_areLines_1 : Plan := ⟨[], [], 0, 0⟩
noncomputable def f_I_areLines_1 (t0 : PV .str) : Option (PVs [.bool] × PVs []) :=
  (f_I_isLine t0).bind fun r1 =>
    some (((!r1.1.1), ()), ())
noncomputable def ct_I_areLines_1 : Ct := ⟨[(.bor, .str)], [(.bool, .b)], fun x => f_I_areLines_1 x.1⟩
noncomputable def cx_I_areLines_1 : Cx := ⟨tab, arrs, [(190, ct_I_isLine)], [], gl, []⟩
theorem ef_I_areLines_1 (t0 : PV .str) : denF cx_I_areLines_1 0 pl_I_areLines_1 Try.f189.ntmps (bodyOf Try.f189) Try.f189.results.toList [(.bor, .str)] [(.bool, .b)] (t0, ()) = f_I_areLines_1 t0 := by kernel_rfl
theorem ok_I_areLines_1 : FnOk gl Try.prog 189 ct_I_areLines_1 :=
  fnOk (cx := cx_I_areLines_1) (pl := pl_I_areLines_1) (dp := 0) (ok0_of tabOk (by unfold ArrOk; kernel_rfl) mix ⟨ok_I_isLine, trivial⟩ trivial) Try.func189 (by kernel_rfl) (by kernel_rfl) (by kernel_rfl)
    (by rw [show loopsOf (bodyOf Try.f189) = [] from by kernel_rfl]; exact trivial) (fun x => ef_I_areLines_1 x.1)
noncomputable def pl_I_areLines_188 : Plan := ⟨[], [], 1, 11⟩
noncomputable def sh_I_areLines_214_2 : List Sh := mkSh 39 [(0, .val S_string .b), (2, .val .bool .b), (3, .val S_string .b), (4, .val (.int .i64) .b), (5, .val .bool .b), (6, .val .bool .b), (7, .val S_string .b), (11, .val S_string .b), (12, .fn 189 []), (15, .val .bool .b), (16, .val S_string .b), (17, .fn 189 []), (20, .val S_string .b), (21, .fn 189 []), (27, .val (.int .i64) .b), (28, .val (.int .i64) .b)]
noncomputable def o_I_areLines_214_2 : List Out := [⟨.exit 0, ⟨[], [], []⟩, mkSh 39 [(0, .val S_string .b), (2, .val .bool .b), (3, .val S_string .b), (4, .val (.int .i64) .b), (5, .val .bool .b), (6, .val .bool .b), (7, .val S_string .b), (11, .val S_string .b), (12, .fn 189 []), (15, .val .bool .b), (16, .val S_string .b), (17, .fn 189 [])]⟩, ⟨.ret, ⟨[], [4], []⟩, mkSh 39 [(0, .val S_string .b), (2, .val .bool .b), (3, .val S_string .b), (4, .val (.int .i64) .b), (5, .val .bool .b), (6, .val .bool .b), (7, .val S_string .b), (11, .val S_string .b), (12, .fn 189 []), (15, .val .bool .b), (16, .val S_string .b), (17, .fn 189 []), (24, .val (.int .i64) .b)]⟩]
noncomputable def b_I_areLines_214_2 (t0 : PV S_string) (t2 : PV .bool) (t3 : PV S_string) (t4 : PV (.int .i64)) (t5 : PV .bool) (t6 : PV .bool) (t7 : PV S_string) (t11 : PV S_string) (t15 : PV .bool) (t16 : PV S_string) (t20 : PV S_string) (t27 : PV (.int .i64)) (t28 : PV (.int .i64)) : Option ((PV S_string × PV .bool × PV S_string × PV (.int .i64) × PV .bool × PV .bool × PV S_string × PV S_string × PV .bool × PV S_string × PV S_string × PV (.int .i64) × PV (.int .i64) × Unit) ⊕ ((PV S_string × PV .bool × PV S_string × PV (.int .i64) × PV .bool × PV .bool × PV S_string × PV S_string × PV .bool × PV S_string × Unit) ⊕ (PV S_string × PV .bool × PV S_string × PV (.int .i64) × PV .bool × PV .bool × PV S_string × PV S_string × PV .bool × PV S_string × PV (.int .i64) × Unit))) :=
  bif (decide (t28 < t27)) then
    bif inB t28 t20.length then
      (f_I_areLines_1 (t20.getD t28.toNat [])).bind fun r4 =>
        bif r4.1.1 then
          some (.inr (.inr (t0, t2, t3, t4, t5, t6, t7, t11, t15, t16, t28, ())))
        else
          some (.inl (t0, t2, t3, t4, t5, t6, t7, t11, t15, t16, t20, t27, (IntKind.wrap .i64 (t28 + 1)), ()))
    else
      none
  else
    some (.inr (.inl (t0, t2, t3, t4, t5, t6, t7, t11, t15, t16, ())))
noncomputable def w_I_areLines_214_2 : PV S_string × PV .bool × PV S_string × PV (.int .i64) × PV .bool × PV .bool × PV S_string × PV S_string × PV .bool × PV S_string × PV S_string × PV (.int .i64) × PV (.int .i64) × Unit → Option ((PV S_string × PV .bool × PV S_string × PV (.int .i64) × PV .bool × PV .bool × PV S_string × PV S_string × PV .bool × PV S_string × Unit) ⊕ (PV S_string × PV .bool × PV S_string × PV (.int .i64) × PV .bool × PV .bool × PV S_string × PV S_string × PV .bool × PV S_string × PV (.int .i64) × Unit)) := fix fun d => b_I_areLines_214_2 d.1 d.2.1 d.2.2.1 d.2.2.2.1 d.2.2.2.2.1 d.2.2.2.2.2.1 d.2.2.2.2.2.2.1 d.2.2.2.2.2.2.2.1 d.2.2.2.2.2.2.2.2.1 d.2.2.2.2.2.2.2.2.2.1 d.2.2.2.2.2.2.2.2.2.2.1 d.2.2.2.2.2.2.2.2.2.2.2.1 d.2.2.2.2.2.2.2.2.2.2.2.2.1
noncomputable def lp_I_areLines_214_2 : Lp := ⟨⟨[], [0, 1, 7, 8], []⟩, sh_I_areLines_214_2, o_I_areLines_214_2, fun d => b_I_areLines_214_2 d.1 d.2.1 d.2.2.1 d.2.2.2.1 d.2.2.2.2.1 d.2.2.2.2.2.1 d.2.2.2.2.2.2.1 d.2.2.2.2.2.2.2.1 d.2.2.2.2.2.2.2.2.1 d.2.2.2.2.2.2.2.2.2.1 d.2.2.2.2.2.2.2.2.2.2.1 d.2.2.2.2.2.2.2.2.2.2.2.1 d.2.2.2.2.2.2.2.2.2.2.2.2.1⟩
noncomputable def pl_I_areLines_214 : Plan := ⟨[], [(2, lp_I_areLines_214_2)], 0, 20⟩
noncomputable def pl_I_areLines : Plan := ⟨[], [], 2, 0⟩
noncomputable def f_I_areLines (t0 : PV S_string) : Option (PVs [.bool] × PVs []) :=
  bif (decide ((t0.length : Int) ≤ 40)) then
    (w_I_areLines_214_2 (t0, false, t0, (t0.length : Int), (decide ((t0.length : Int) ≤ 40)), true, t0, t0, false, t0, t0, (t0.length : Int), 0, ())).bind fun x9 =>
      match x9 with
      | .inl l7 =>
        bif l7.2.2.2.2.2.1 then
          some (((!(decide ((-1) ≥ 0))), ()), ())
        else
          some ((false, ()), ())
      | .inr l8 =>
        bif l8.2.2.2.2.2.1 then
          some (((!(decide (l8.2.2.2.2.2.2.2.2.2.2.1 ≥ 0))), ()), ())
        else
          some ((false, ()), ())
  else
    some ((false, ()), ())
noncomputable def ct_I_areLines : Ct := ⟨[(.bor, S_string)], [(.bool, .b)], fun x => f_I_areLines x.1⟩
noncomputable def cx_I_areLines : Cx := ⟨tab, arrs, [(189, ct_I_areLines_1)], [(188, Try.f188, pl_I_areLines_188), (214, Try.f214, pl_I_areLines_214)], gl, []⟩
theorem eb_I_areLines_214_2 (t0 : PV S_string) (t2 : PV .bool) (t3 : PV S_string) (t4 : PV (.int .i64)) (t5 : PV .bool) (t6 : PV .bool) (t7 : PV S_string) (t11 : PV S_string) (t15 : PV .bool) (t16 : PV S_string) (t20 : PV S_string) (t27 : PV (.int .i64)) (t28 : PV (.int .i64)) : denK cx_I_areLines (rcN cx_I_areLines 0) pl_I_areLines_214 20 ((loopsOf (bodyOf Try.f214)).getD 0 .skip) (fillS sh_I_areLines_214_2 (t0, t2, t3, t4, t5, t6, t7, t11, t15, t16, t20, t27, t28, ())) (roundK 20 lp_I_areLines_214_2) = b_I_areLines_214_2 t0 t2 t3 t4 t5 t6 t7 t11 t15 t16 t20 t27 t28 := by kernel_rfl
theorem ef_I_areLines (t0 : PV S_string) : denF cx_I_areLines 2 pl_I_areLines Try.f147.ntmps (bodyOf Try.f147) Try.f147.results.toList [(.bor, S_string)] [(.bool, .b)] (t0, ()) = f_I_areLines t0 := by kernel_rfl
theorem ok_I_areLines : FnOk gl Try.prog 147 ct_I_areLines :=
  fnOk (cx := cx_I_areLines) (pl := pl_I_areLines) (dp := 2) (ok0_of tabOk (by unfold ArrOk; kernel_rfl) mix ⟨ok_I_areLines_1, trivial⟩ ⟨⟨Try.func188, by kernel_rfl, (by rw [show loopsOf (bodyOf Try.f188) = [] from by kernel_rfl]; exact trivial)⟩, ⟨Try.func214, by kernel_rfl, (by rw [show loopsOf (bodyOf Try.f214) = [((loopsOf (bodyOf Try.f214)).getD 0 .skip)] from by kernel_rfl]; exact ⟨(by rw [show lookup pl_I_areLines_214.loops (firstId ((loopsOf (bodyOf Try.f214)).getD 0 .skip)) = some lp_I_areLines_214_2 from by kernel_rfl]; exact fun d z h => (eb_I_areLines_214_2 d.1 d.2.1 d.2.2.1 d.2.2.2.1 d.2.2.2.2.1 d.2.2.2.2.2.1 d.2.2.2.2.2.2.1 d.2.2.2.2.2.2.2.1 d.2.2.2.2.2.2.2.2.1 d.2.2.2.2.2.2.2.2.2.1 d.2.2.2.2.2.2.2.2.2.2.1 d.2.2.2.2.2.2.2.2.2.2.2.1 d.2.2.2.2.2.2.2.2.2.2.2.2.1).trans h), trivial⟩)⟩, trivial⟩) Try.func147 (by kernel_rfl) (by kernel_rfl) (by kernel_rfl)
    (by rw [show loopsOf (bodyOf Try.f147) = [] from by kernel_rfl]; exact trivial) (fun x => ef_I_areLines x.1)
noncomputable def pl_internal_stringslite_HasSuffix : Plan := ⟨[], [], 0, 0⟩
noncomputable def f_internal_stringslite_HasSuffix (t0 : PV .str) (t1 : PV .str) : Option (PVs [.bool] × PVs []) :=
  bif (decide ((t0.length : Int) ≥ (t1.length : Int))) then
    bif cutB (IntKind.wrap .i64 ((t0.length : Int) - (t1.length : Int))) (t0.length : Int) t0.length then
      some ((((cutL (IntKind.wrap .i64 ((t0.length : Int) - (t1.length : Int))) (t0.length : Int) t0) == t1), ()), ())
    else
      none
  else
    some ((false, ()), ())
noncomputable def ct_internal_stringslite_HasSuffix : Ct := ⟨[(.bor, .str), (.bor, .str)], [(.bool, .b)], fun x => f_internal_stringslite_HasSuffix x.1 x.2.1⟩
noncomputable def cx_internal_stringslite_HasSuffix : Cx := ⟨tab, arrs, [], [], gl, []⟩
theorem ef_internal_stringslite_HasSuffix (t0 : PV .str) (t1 : PV .str) : denF cx_internal_stringslite_HasSuffix 0 pl_internal_stringslite_HasSuffix Try.f216.ntmps (bodyOf Try.f216) Try.f216.results.toList [(.bor, .str), (.bor, .str)] [(.bool, .b)] (t0, t1, ()) = f_internal_stringslite_HasSuffix t0 t1 := by kernel_rfl
theorem ok_internal_stringslite_HasSuffix : FnOk gl Try.prog 216 ct_internal_stringslite_HasSuffix :=
  fnOk (cx := cx_internal_stringslite_HasSuffix) (pl := pl_internal_stringslite_HasSuffix) (dp := 0) (ok0_of tabOk (by unfold ArrOk; kernel_rfl) mix trivial trivial) Try.func216 (by kernel_rfl) (by kernel_rfl) (by kernel_rfl)
    (by rw [show loopsOf (bodyOf Try.f216) = [] from by kernel_rfl]; exact trivial) (fun x => ef_internal_stringslite_HasSuffix x.1 x.2.1)
noncomputable def pl_strings_HasSuffix : Plan := ⟨[], [], 0, 0⟩
noncomputable def f_strings_HasSuffix (t0 : PV .str) (t1 : PV .str) : Option (PVs [.bool] × PVs []) :=
  (f_internal_stringslite_HasSuffix t0 t1).bind fun r1 =>
    some ((r1.1.1, ()), ())
noncomputable def ct_strings_HasSuffix : Ct := ⟨[(.bor, .str), (.bor, .str)], [(.bool, .b)], fun x => f_strings_HasSuffix x.1 x.2.1⟩
noncomputable def cx_strings_HasSuffix : Cx := ⟨tab, arrs, [(216, ct_internal_stringslite_HasSuffix)], [], gl, []⟩
theorem ef_strings_HasSuffix (t0 : PV .str) (t1 : PV .str) : denF cx_strings_HasSuffix 0 pl_strings_HasSuffix Try.f191.ntmps (bodyOf Try.f191) Try.f191.results.toList [(.bor, .str), (.bor, .str)] [(.bool, .b)] (t0, t1, ()) = f_strings_HasSuffix t0 t1 := by kernel_rfl
theorem ok_strings_HasSuffix : FnOk gl Try.prog 191 ct_strings_HasSuffix :=
  fnOk (cx := cx_strings_HasSuffix) (pl := pl_strings_HasSuffix) (dp := 0) (ok0_of tabOk (by unfold ArrOk; kernel_rfl) mix ⟨ok_internal_stringslite_HasSuffix, trivial⟩ trivial) Try.func191 (by kernel_rfl) (by kernel_rfl) (by kernel_rfl)
    (by rw [show loopsOf (bodyOf Try.f191) = [] from by kernel_rfl]; exact trivial) (fun x => ef_strings_HasSuffix x.1 x.2.1)
noncomputable def pl_I_isEnded : Plan := ⟨[], [], 0, 0⟩
noncomputable def f_I_isEnded (t0 : PV .str) : Option (PVs [.bool] × PVs []) :=
  (f_strings_HasSuffix t0 [10]).bind fun r1 =>
    some ((r1.1.1, ()), ())
noncomputable def ct_I_isEnded : Ct := ⟨[(.bor, .str)], [(.bool, .b)], fun x => f_I_isEnded x.1⟩
noncomputable def cx_I_isEnded : Cx := ⟨tab, arrs, [(191, ct_strings_HasSuffix)], [], gl, []⟩
theorem ef_I_isEnded (t0 : PV .str) : denF cx_I_isEnded 0 pl_I_isEnded Try.f149.ntmps (bodyOf Try.f149) Try.f149.results.toList [(.bor, .str)] [(.bool, .b)] (t0, ()) = f_I_isEnded t0 := by kernel_rfl
theorem ok_I_isEnded : FnOk gl Try.prog 149 ct_I_isEnded :=
  fnOk (cx := cx_I_isEnded) (pl := pl_I_isEnded) (dp := 0) (ok0_of tabOk (by unfold ArrOk; kernel_rfl) mix ⟨ok_strings_HasSuffix, trivial⟩ trivial) Try.func149 (by kernel_rfl) (by kernel_rfl) (by kernel_rfl)
    (by rw [show loopsOf (bodyOf Try.f149) = [] from by kernel_rfl]; exact trivial) (fun x => ef_I_isEnded x.1)
noncomputable def o_I_goodLines_7 : List Out := [⟨.normal, ⟨[], [0, 8, 9, 10, 24], []⟩, mkSh 26 [(0, .val S_string .b), (8, .val S_string .b), (9, .val (.int .i64) .b), (10, .val (.int .i64) .b), (24, .val .bool .b)]⟩]
noncomputable def sh_I_goodLines_4 : List Sh := mkSh 26 [(0, .val S_string .b), (8, .val S_string .b), (9, .val (.int .i64) .b), (10, .val (.int .i64) .b)]
noncomputable def o_I_goodLines_4 : List Out := [⟨.exit 0, ⟨[], [], []⟩, mkSh 26 []⟩, ⟨.ret, ⟨[], [2], []⟩, mkSh 26 [(2, .val .bool .b)]⟩]
noncomputable def b_I_goodLines_4 (t0 : PV S_string) (t8 : PV S_string) (t9 : PV (.int .i64)) (t10 : PV (.int .i64)) : Option ((PV S_string × PV S_string × PV (.int .i64) × PV (.int .i64) × Unit) ⊕ ((Unit) ⊕ (PV .bool × Unit))) :=
  bif (decide (t10 < t9)) then
    bif inB t10 t8.length then
      ((
          bif (decide (t10 < (IntKind.wrap .i64 ((t0.length : Int) - 1)))) then
            (f_I_isEnded (t8.getD t10.toNat [])).bind fun r7 =>
              some (t0, t8, t9, t10, (!r7.1.1), ())
          else
            some (t0, t8, t9, t10, false, ()) : Option ((PV S_string × PV S_string × PV (.int .i64) × PV (.int .i64) × PV .bool × Unit)))).bind fun j8 =>
        bif j8.2.2.2.2.1 then
          some (.inr (.inr (false, ())))
        else
          some (.inl (j8.1, j8.2.1, j8.2.2.1, (IntKind.wrap .i64 (j8.2.2.2.1 + 1)), ()))
    else
      none
  else
    some (.inr (.inl ()))
noncomputable def w_I_goodLines_4 : PV S_string × PV S_string × PV (.int .i64) × PV (.int .i64) × Unit → Option ((Unit) ⊕ (PV .bool × Unit)) := fix fun d => b_I_goodLines_4 d.1 d.2.1 d.2.2.1 d.2.2.2.1
noncomputable def lp_I_goodLines_4 : Lp := ⟨⟨[], [0, 8, 9, 10, 21, 22, 23], []⟩, sh_I_goodLines_4, o_I_goodLines_4, fun d => b_I_goodLines_4 d.1 d.2.1 d.2.2.1 d.2.2.2.1⟩
noncomputable def pl_I_goodLines : Plan := ⟨[(7, o_I_goodLines_7)], [(4, lp_I_goodLines_4)], 0, 0⟩
noncomputable def f_I_goodLines (t0 : PV S_string) : Option (PVs [.bool] × PVs []) :=
  (f_I_areLines t0).bind fun r4 =>
    bif (!r4.1.1) then
      some ((false, ()), ())
    else
      (w_I_goodLines_4 (t0, t0, (t0.length : Int), 0, ())).bind fun x13 =>
        match x13 with
        | .inl l11 =>
          some ((true, ()), ())
        | .inr l12 =>
          some ((l12.1, ()), ())
noncomputable def ct_I_goodLines : Ct := ⟨[(.bor, S_string)], [(.bool, .b)], fun x => f_I_goodLines x.1⟩
noncomputable def cx_I_goodLines : Cx := ⟨tab, arrs, [(147, ct_I_areLines), (149, ct_I_isEnded)], [], gl, []⟩
theorem eb_I_goodLines_4 (t0 : PV S_string) (t8 : PV S_string) (t9 : PV (.int .i64)) (t10 : PV (.int .i64)) : denK cx_I_goodLines (rcN cx_I_goodLines 0) pl_I_goodLines 0 ((loopsOf (bodyOf Try.f96)).getD 0 .skip) (fillS sh_I_goodLines_4 (t0, t8, t9, t10, ())) (roundK 0 lp_I_goodLines_4) = b_I_goodLines_4 t0 t8 t9 t10 := by kernel_rfl
theorem ef_I_goodLines (t0 : PV S_string) : denF cx_I_goodLines 0 pl_I_goodLines Try.f96.ntmps (bodyOf Try.f96) Try.f96.results.toList [(.bor, S_string)] [(.bool, .b)] (t0, ()) = f_I_goodLines t0 := by kernel_rfl
theorem ok_I_goodLines : FnOk gl Try.prog 96 ct_I_goodLines :=
  fnOk (cx := cx_I_goodLines) (pl := pl_I_goodLines) (dp := 0) (ok0_of tabOk (by unfold ArrOk; kernel_rfl) mix ⟨ok_I_areLines, ok_I_isEnded, trivial⟩ trivial) Try.func96 (by kernel_rfl) (by kernel_rfl) (by kernel_rfl)
    (by rw [show loopsOf (bodyOf Try.f96) = [((loopsOf (bodyOf Try.f96)).getD 0 .skip)] from by kernel_rfl]; exact ⟨(by rw [show lookup pl_I_goodLines.loops (firstId ((loopsOf (bodyOf Try.f96)).getD 0 .skip)) = some lp_I_goodLines_4 from by kernel_rfl]; exact fun d z h => (eb_I_goodLines_4 d.1 d.2.1 d.2.2.1 d.2.2.2.1).trans h), trivial⟩) (fun x => ef_I_goodLines x.1)
noncomputable def o_I_goodHunks_2 : List Out := [⟨.normal, ⟨[], [0, 1, 14, 28, 29, 30, 31, 32, 33, 34, 35, 38, 39, 40, 41, 44, 45, 46, 47, 48, 49, 50, 51, 52, 57, 58, 59, 60, 61, 62, 63, 64, 65, 66, 67, 68, 69, 70, 71, 72], []⟩, mkSh 75 [(0, .val (.int .i64) .b), (1, .val S_impl_Hunk .b), (14, .val .bool .b)]⟩]
noncomputable def o_I_goodHunks_7 : List Out := [⟨.normal, ⟨[], [0, 1, 5, 6, 15, 16, 17, 53, 57, 58, 59, 60, 61, 62, 63, 64, 65, 66, 67, 68, 69, 70, 71, 72], []⟩, mkSh 75 [(0, .val (.int .i64) .b), (1, .val S_impl_Hunk .b), (5, .val (.int .i64) .b), (6, .var Y_impl_Hunk .b), (15, .val S_impl_Hunk .b), (16, .val (.int .i64) .b), (17, .val (.int .i64) .b), (53, .val .bool .b)]⟩]
noncomputable def o_I_goodHunks_9 : List Out := [⟨.normal, ⟨[], [0, 1, 6, 15, 16, 17, 28, 29, 30, 31, 32, 33, 34, 35, 38, 39, 40, 41, 44, 45, 46, 47, 48, 49, 50, 51, 52, 73], []⟩, mkSh 75 [(0, .val (.int .i64) .b), (1, .val S_impl_Hunk .b), (6, .var Y_impl_Hunk .b), (15, .val S_impl_Hunk .b), (16, .val (.int .i64) .b), (17, .val (.int .i64) .b), (73, .val .bool .b)]⟩]
noncomputable def sh_I_goodHunks_4 : List Sh := mkSh 75 [(0, .val (.int .i64) .b), (1, .val S_impl_Hunk .b), (15, .val S_impl_Hunk .b), (16, .val (.int .i64) .b), (17, .val (.int .i64) .b)]
noncomputable def o_I_goodHunks_4 : List Out := [⟨.exit 0, ⟨[], [], []⟩, mkSh 75 []⟩, ⟨.ret, ⟨[], [4], []⟩, mkSh 75 [(4, .val .bool .b)]⟩]
noncomputable def b_I_goodHunks_4 (t0 : PV (.int .i64)) (t1 : PV S_impl_Hunk) (t15 : PV S_impl_Hunk) (t16 : PV (.int .i64)) (t17 : PV (.int .i64)) : Option ((PV (.int .i64) × PV S_impl_Hunk × PV S_impl_Hunk × PV (.int .i64) × PV (.int .i64) × Unit) ⊕ ((Unit) ⊕ (PV .bool × Unit))) :=
  bif (decide (t17 < t16)) then
    bif inB t17 t15.length then
      ((
          (f_I_in ((t15.getD t17.toNat (dflt Y_impl_Hunk)).1) 0 t0).bind fun r19 =>
            bif (!r19.1.1) then
              some (t0, t1, t17, (t15.getD t17.toNat (dflt Y_impl_Hunk)), t15, t16, t17, true, ())
            else
              (f_I_in (((t15.getD t17.toNat (dflt Y_impl_Hunk)).2).1) 0 (IntKind.wrap .i64 (t0 - ((t15.getD t17.toNat (dflt Y_impl_Hunk)).1)))).bind fun r20 =>
                bif (!r20.1.1) then
                  some (t0, t1, t17, (t15.getD t17.toNat (dflt Y_impl_Hunk)), t15, t16, t17, true, ())
                else
                  (f_I_areLines ((((t15.getD t17.toNat (dflt Y_impl_Hunk)).2).2).1)).bind fun r21 =>
                    bif (!r21.1.1) then
                      some (t0, t1, t17, (t15.getD t17.toNat (dflt Y_impl_Hunk)), t15, t16, t17, true, ())
                    else
                      bif ((((t15.getD t17.toNat (dflt Y_impl_Hunk)).2).1) == 0) then
                        some (t0, t1, t17, (t15.getD t17.toNat (dflt Y_impl_Hunk)), t15, t16, t17, ((((((t15.getD t17.toNat (dflt Y_impl_Hunk)).2).2).1).length : Int) == 0), ())
                      else
                        some (t0, t1, t17, (t15.getD t17.toNat (dflt Y_impl_Hunk)), t15, t16, t17, false, ()) : Option ((PV (.int .i64) × PV S_impl_Hunk × PV (.int .i64) × PV Y_impl_Hunk × PV S_impl_Hunk × PV (.int .i64) × PV (.int .i64) × PV .bool × Unit)))).bind fun j22 =>
        bif j22.2.2.2.2.2.2.2.1 then
          some (.inr (.inr (false, ())))
        else
          ((
              bif (decide (j22.2.2.1 > 0)) then
                bif inB (IntKind.wrap .i64 (j22.2.2.1 - 1)) j22.2.1.length then
                  bif inB (IntKind.wrap .i64 (j22.2.2.1 - 1)) j22.2.1.length then
                    some (j22.1, j22.2.1, j22.2.2.2.1, j22.2.2.2.2.1, j22.2.2.2.2.2.1, j22.2.2.2.2.2.2.1, (decide (j22.2.2.2.1.1 ≤ (IntKind.wrap .i64 (((j22.2.1.getD ((IntKind.wrap .i64 (j22.2.2.1 - 1)).toNat) (dflt Y_impl_Hunk)).1) + (((j22.2.1.getD ((IntKind.wrap .i64 (j22.2.2.1 - 1)).toNat) (dflt Y_impl_Hunk)).2).1))))), ())
                  else
                    none
                else
                  none
              else
                some (j22.1, j22.2.1, j22.2.2.2.1, j22.2.2.2.2.1, j22.2.2.2.2.2.1, j22.2.2.2.2.2.2.1, false, ()) : Option ((PV (.int .i64) × PV S_impl_Hunk × PV Y_impl_Hunk × PV S_impl_Hunk × PV (.int .i64) × PV (.int .i64) × PV .bool × Unit)))).bind fun j23 =>
            bif j23.2.2.2.2.2.2.1 then
              some (.inr (.inr (false, ())))
            else
              some (.inl (j23.1, j23.2.1, j23.2.2.2.1, j23.2.2.2.2.1, (IntKind.wrap .i64 (j23.2.2.2.2.2.1 + 1)), ()))
    else
      none
  else
    some (.inr (.inl ()))
noncomputable def w_I_goodHunks_4 : PV (.int .i64) × PV S_impl_Hunk × PV S_impl_Hunk × PV (.int .i64) × PV (.int .i64) × Unit → Option ((Unit) ⊕ (PV .bool × Unit)) := fix fun d => b_I_goodHunks_4 d.1 d.2.1 d.2.2.1 d.2.2.2.1 d.2.2.2.2.1
noncomputable def lp_I_goodHunks_4 : Lp := ⟨⟨[], [0, 1, 15, 16, 17, 28, 29, 30, 31, 32, 33, 34, 35, 38, 39, 40, 41, 44, 45, 46, 47, 48, 49, 50, 51, 52, 57, 58, 59, 60, 61, 62, 63, 64, 65, 66, 67, 68, 69, 70, 71, 72], []⟩, sh_I_goodHunks_4, o_I_goodHunks_4, fun d => b_I_goodHunks_4 d.1 d.2.1 d.2.2.1 d.2.2.2.1 d.2.2.2.2.1⟩
noncomputable def pl_I_goodHunks : Plan := ⟨[(2, o_I_goodHunks_2), (7, o_I_goodHunks_7), (9, o_I_goodHunks_9)], [(4, lp_I_goodHunks_4)], 0, 0⟩
noncomputable def f_I_goodHunks (t0 : PV (.int .i64)) (t1 : PV S_impl_Hunk) : Option (PVs [.bool] × PVs []) :=
  ((
      (f_I_in t0 0 40).bind fun r4 =>
        bif (!r4.1.1) then
          some (t0, t1, true, ())
        else
          some (t0, t1, (decide ((t1.length : Int) > 20)), ()) : Option ((PV (.int .i64) × PV S_impl_Hunk × PV .bool × Unit)))).bind fun j5 =>
    bif j5.2.2.1 then
      some ((false, ()), ())
    else
      (w_I_goodHunks_4 (j5.1, j5.2.1, j5.2.1, (j5.2.1.length : Int), 0, ())).bind fun x28 =>
        match x28 with
        | .inl l26 =>
          some ((true, ()), ())
        | .inr l27 =>
          some ((l27.1, ()), ())
noncomputable def ct_I_goodHunks : Ct := ⟨[(.bor, (.int .i64)), (.bor, S_impl_Hunk)], [(.bool, .b)], fun x => f_I_goodHunks x.1 x.2.1⟩
noncomputable def cx_I_goodHunks : Cx := ⟨tab, arrs, [(104, ct_I_in), (147, ct_I_areLines)], [], gl, []⟩
theorem eb_I_goodHunks_4 (t0 : PV (.int .i64)) (t1 : PV S_impl_Hunk) (t15 : PV S_impl_Hunk) (t16 : PV (.int .i64)) (t17 : PV (.int .i64)) : denK cx_I_goodHunks (rcN cx_I_goodHunks 0) pl_I_goodHunks 0 ((loopsOf (bodyOf Try.f80)).getD 0 .skip) (fillS sh_I_goodHunks_4 (t0, t1, t15, t16, t17, ())) (roundK 0 lp_I_goodHunks_4) = b_I_goodHunks_4 t0 t1 t15 t16 t17 := by kernel_rfl
theorem ef_I_goodHunks (t0 : PV (.int .i64)) (t1 : PV S_impl_Hunk) : denF cx_I_goodHunks 0 pl_I_goodHunks Try.f80.ntmps (bodyOf Try.f80) Try.f80.results.toList [(.bor, (.int .i64)), (.bor, S_impl_Hunk)] [(.bool, .b)] (t0, t1, ()) = f_I_goodHunks t0 t1 := by kernel_rfl
theorem ok_I_goodHunks : FnOk gl Try.prog 80 ct_I_goodHunks :=
  fnOk (cx := cx_I_goodHunks) (pl := pl_I_goodHunks) (dp := 0) (ok0_of tabOk (by unfold ArrOk; kernel_rfl) mix ⟨ok_I_in, ok_I_areLines, trivial⟩ trivial) Try.func80 (by kernel_rfl) (by kernel_rfl) (by kernel_rfl)
    (by rw [show loopsOf (bodyOf Try.f80) = [((loopsOf (bodyOf Try.f80)).getD 0 .skip)] from by kernel_rfl]; exact ⟨(by rw [show lookup pl_I_goodHunks.loops (firstId ((loopsOf (bodyOf Try.f80)).getD 0 .skip)) = some lp_I_goodHunks_4 from by kernel_rfl]; exact fun d z h => (eb_I_goodHunks_4 d.1 d.2.1 d.2.2.1 d.2.2.2.1 d.2.2.2.2.1).trans h), trivial⟩) (fun x => ef_I_goodHunks x.1 x.2.1)
noncomputable def sh_I_patched_3 : List Sh := mkSh 37 [(0, .val S_string .b), (5, .val S_string (.row .b)), (6, .val (.int .i64) .b), (10, .val S_impl_Hunk .b), (11, .val (.int .i64) .b), (12, .val (.int .i64) .b)]
noncomputable def o_I_patched_3 : List Out := [⟨.exit 0, ⟨[], [0, 5, 6], []⟩, mkSh 37 [(0, .val S_string .b), (5, .val S_string (.row .b)), (6, .val (.int .i64) .b)]⟩]
noncomputable def b_I_patched_3 (t0 : PV S_string) (t5 : PV S_string) (t6 : PV (.int .i64)) (t10 : PV S_impl_Hunk) (t11 : PV (.int .i64)) (t12 : PV (.int .i64)) : Option ((PV S_string × PV S_string × PV (.int .i64) × PV S_impl_Hunk × PV (.int .i64) × PV (.int .i64) × Unit) ⊕ ((PV S_string × PV S_string × PV (.int .i64) × Unit))) :=
  bif (decide (t12 < t11)) then
    bif inB t12 t10.length then
      bif cutB t6 ((t10.getD t12.toNat (dflt Y_impl_Hunk)).1) t0.length then
        bif roomB (t5.length + (cutL t6 ((t10.getD t12.toNat (dflt Y_impl_Hunk)).1) t0).length) then
          bif roomB ((t5 ++ (cutL t6 ((t10.getD t12.toNat (dflt Y_impl_Hunk)).1) t0)).length + ((((t10.getD t12.toNat (dflt Y_impl_Hunk)).2).2).1).length) then
            some (.inl (t0, ((t5 ++ (cutL t6 ((t10.getD t12.toNat (dflt Y_impl_Hunk)).1) t0)) ++ ((((t10.getD t12.toNat (dflt Y_impl_Hunk)).2).2).1)), (IntKind.wrap .i64 (((t10.getD t12.toNat (dflt Y_impl_Hunk)).1) + (((t10.getD t12.toNat (dflt Y_impl_Hunk)).2).1))), t10, t11, (IntKind.wrap .i64 (t12 + 1)), ()))
          else
            none
        else
          none
      else
        none
    else
      none
  else
    some (.inr (t0, t5, t6, ()))
noncomputable def w_I_patched_3 : PV S_string × PV S_string × PV (.int .i64) × PV S_impl_Hunk × PV (.int .i64) × PV (.int .i64) × Unit → Option ((PV S_string × PV S_string × PV (.int .i64) × Unit)) := fix fun d => b_I_patched_3 d.1 d.2.1 d.2.2.1 d.2.2.2.1 d.2.2.2.2.1 d.2.2.2.2.2.1
noncomputable def lp_I_patched_3 : Lp := ⟨⟨[], [0, 5, 6, 10, 11, 12], []⟩, sh_I_patched_3, o_I_patched_3, fun d => b_I_patched_3 d.1 d.2.1 d.2.2.1 d.2.2.2.1 d.2.2.2.2.1 d.2.2.2.2.2.1⟩
noncomputable def pl_I_patched : Plan := ⟨[], [(3, lp_I_patched_3)], 0, 0⟩
noncomputable def f_I_patched (t0 : PV S_string) (t1 : PV S_impl_Hunk) : Option (PVs [S_string] × PVs []) :=
  (w_I_patched_3 (t0, ([] : PV S_string), 0, t1, (t1.length : Int), 0, ())).bind fun l2 =>
    bif cutB l2.2.2.1 (l2.1.length : Int) l2.1.length then
      bif roomB (l2.2.1.length + (cutL l2.2.2.1 (l2.1.length : Int) l2.1).length) then
        some (((l2.2.1 ++ (cutL l2.2.2.1 (l2.1.length : Int) l2.1)), ()), ())
      else
        none
    else
      none
noncomputable def ct_I_patched : Ct := ⟨[(.bor, S_string), (.bor, S_impl_Hunk)], [(S_string, (.row .b))], fun x => f_I_patched x.1 x.2.1⟩
noncomputable def cx_I_patched : Cx := ⟨tab, arrs, [], [], gl, []⟩
theorem eb_I_patched_3 (t0 : PV S_string) (t5 : PV S_string) (t6 : PV (.int .i64)) (t10 : PV S_impl_Hunk) (t11 : PV (.int .i64)) (t12 : PV (.int .i64)) : denK cx_I_patched (rcN cx_I_patched 0) pl_I_patched 0 ((loopsOf (bodyOf Try.f144)).getD 0 .skip) (fillS sh_I_patched_3 (t0, t5, t6, t10, t11, t12, ())) (roundK 0 lp_I_patched_3) = b_I_patched_3 t0 t5 t6 t10 t11 t12 := by kernel_rfl
theorem ef_I_patched (t0 : PV S_string) (t1 : PV S_impl_Hunk) : denF cx_I_patched 0 pl_I_patched Try.f144.ntmps (bodyOf Try.f144) Try.f144.results.toList [(.bor, S_string), (.bor, S_impl_Hunk)] [(S_string, (.row .b))] (t0, t1, ()) = f_I_patched t0 t1 := by kernel_rfl
theorem ok_I_patched : FnOk gl Try.prog 144 ct_I_patched :=
  fnOk (cx := cx_I_patched) (pl := pl_I_patched) (dp := 0) (ok0_of tabOk (by unfold ArrOk; kernel_rfl) mix trivial trivial) Try.func144 (by kernel_rfl) (by kernel_rfl) (by kernel_rfl)
    (by rw [show loopsOf (bodyOf Try.f144) = [((loopsOf (bodyOf Try.f144)).getD 0 .skip)] from by kernel_rfl]; exact ⟨(by rw [show lookup pl_I_patched.loops (firstId ((loopsOf (bodyOf Try.f144)).getD 0 .skip)) = some lp_I_patched_3 from by kernel_rfl]; exact fun d z h => (eb_I_patched_3 d.1 d.2.1 d.2.2.1 d.2.2.2.1 d.2.2.2.2.1 d.2.2.2.2.2.1).trans h), trivial⟩) (fun x => ef_I_patched x.1 x.2.1)
noncomputable def o_I_Patch_2 : List Out := [⟨.normal, ⟨[], [0, 1, 16], []⟩, mkSh 24 [(0, .val S_string .b), (1, .val S_impl_Hunk .b), (16, .val .bool .b)]⟩]
noncomputable def pl_I_Patch : Plan := ⟨[(2, o_I_Patch_2)], [], 0, 0⟩
noncomputable def f_I_Patch (t0 : PV S_string) (t1 : PV S_impl_Hunk) : Option (PVs [S_string, .bool] × PVs []) :=
  ((
      (f_I_goodLines t0).bind fun r6 =>
        bif (!r6.1.1) then
          some (t0, t1, true, ())
        else
          (f_I_goodHunks (t0.length : Int) t1).bind fun r7 =>
            some (t0, t1, (!r7.1.1), ()) : Option ((PV S_string × PV S_impl_Hunk × PV .bool × Unit)))).bind fun j8 =>
    bif j8.2.2.1 then
      some (([], false, ()), ())
    else
      (f_I_patched j8.1 j8.2.1).bind fun r10 =>
        (f_I_goodLines r10.1.1).bind fun r14 =>
          bif (!r14.1.1) then
            some (([], false, ()), ())
          else
            some ((r10.1.1, true, ()), ())
noncomputable def ct_I_Patch : Ct := ⟨[(.bor, S_string), (.bor, S_impl_Hunk)], [(S_string, (.row .b)), (.bool, .b)], fun x => f_I_Patch x.1 x.2.1⟩
noncomputable def cx_I_Patch : Cx := ⟨tab, arrs, [(80, ct_I_goodHunks), (96, ct_I_goodLines), (144, ct_I_patched)], [], gl, []⟩
theorem ef_I_Patch (t0 : PV S_string) (t1 : PV S_impl_Hunk) : denF cx_I_Patch 0 pl_I_Patch Try.f74.ntmps (bodyOf Try.f74) Try.f74.results.toList [(.bor, S_string), (.bor, S_impl_Hunk)] [(S_string, (.row .b)), (.bool, .b)] (t0, t1, ()) = f_I_Patch t0 t1 := by kernel_rfl
theorem ok_I_Patch : FnOk gl Try.prog 74 ct_I_Patch :=
  fnOk (cx := cx_I_Patch) (pl := pl_I_Patch) (dp := 0) (ok0_of tabOk (by unfold ArrOk; kernel_rfl) mix ⟨ok_I_goodHunks, ok_I_goodLines, ok_I_patched, trivial⟩ trivial) Try.func74 (by kernel_rfl) (by kernel_rfl) (by kernel_rfl)
    (by rw [show loopsOf (bodyOf Try.f74) = [] from by kernel_rfl]; exact trivial) (fun x => ef_I_Patch x.1 x.2.1)
noncomputable def pl_I_touch : Plan := ⟨[], [], 0, 0⟩
noncomputable def f_I_touch (t0 : PV Y_impl_Hunk) (t1 : PV Y_impl_Hunk) : Option (PVs [.bool] × PVs []) :=
  bif (decide (t0.1 ≤ (IntKind.wrap .i64 (t1.1 + t1.2.1)))) then
    some (((decide (t1.1 ≤ (IntKind.wrap .i64 (t0.1 + t0.2.1)))), ()), ())
  else
    some ((false, ()), ())
noncomputable def ct_I_touch : Ct := ⟨[(.bor, Y_impl_Hunk), (.bor, Y_impl_Hunk)], [(.bool, .b)], fun x => f_I_touch x.1 x.2.1⟩
noncomputable def cx_I_touch : Cx := ⟨tab, arrs, [], [], gl, []⟩
theorem ef_I_touch (t0 : PV Y_impl_Hunk) (t1 : PV Y_impl_Hunk) : denF cx_I_touch 0 pl_I_touch Try.f78.ntmps (bodyOf Try.f78) Try.f78.results.toList [(.bor, Y_impl_Hunk), (.bor, Y_impl_Hunk)] [(.bool, .b)] (t0, t1, ()) = f_I_touch t0 t1 := by kernel_rfl
theorem ok_I_touch : FnOk gl Try.prog 78 ct_I_touch :=
  fnOk (cx := cx_I_touch) (pl := pl_I_touch) (dp := 0) (ok0_of tabOk (by unfold ArrOk; kernel_rfl) mix trivial trivial) Try.func78 (by kernel_rfl) (by kernel_rfl) (by kernel_rfl)
    (by rw [show loopsOf (bodyOf Try.f78) = [] from by kernel_rfl]; exact trivial) (fun x => ef_I_touch x.1 x.2.1)
noncomputable def o_I_PlaceOf_2 : List Out := [⟨.normal, ⟨[], [0, 2, 20], []⟩, mkSh 51 [(0, .val S_impl_Hunk .b), (2, .val (.int .i64) .b), (20, .val .bool .b)]⟩]
noncomputable def o_I_PlaceOf_11 : List Out := [⟨.normal, ⟨[], [2, 8, 22, 23, 24], []⟩, mkSh 51 [(2, .val (.int .i64) .b), (8, .val (.int .i64) .b), (22, .val S_impl_Hunk .b), (23, .val (.int .i64) .b), (24, .val (.int .i64) .b)]⟩, ⟨.ret, ⟨[], [6, 7], []⟩, mkSh 51 [(6, .val (.int .i64) .b), (7, .val .bool .b)]⟩]
noncomputable def sh_I_PlaceOf_5 : List Sh := mkSh 51 [(2, .val (.int .i64) .b), (8, .val (.int .i64) .b), (22, .val S_impl_Hunk .b), (23, .val (.int .i64) .b), (24, .val (.int .i64) .b)]
noncomputable def o_I_PlaceOf_5 : List Out := [⟨.exit 0, ⟨[], [8], []⟩, mkSh 51 [(8, .val (.int .i64) .b)]⟩, ⟨.ret, ⟨[], [6, 7], []⟩, mkSh 51 [(6, .val (.int .i64) .b), (7, .val .bool .b)]⟩]
noncomputable def b_I_PlaceOf_5 (t2 : PV (.int .i64)) (t8 : PV (.int .i64)) (t22 : PV S_impl_Hunk) (t23 : PV (.int .i64)) (t24 : PV (.int .i64)) : Option ((PV (.int .i64) × PV (.int .i64) × PV S_impl_Hunk × PV (.int .i64) × PV (.int .i64) × Unit) ⊕ ((PV (.int .i64) × Unit) ⊕ (PV (.int .i64) × PV .bool × Unit))) :=
  bif (decide (t24 < t23)) then
    ((
        bif inB t24 t22.length then
          bif (decide ((IntKind.wrap .i64 (((t22.getD t24.toNat (dflt Y_impl_Hunk)).1) + (((t22.getD t24.toNat (dflt Y_impl_Hunk)).2).1))) ≤ t2)) then
            some (.inl (t2, (IntKind.wrap .i64 (t8 + (IntKind.wrap .i64 ((((((t22.getD t24.toNat (dflt Y_impl_Hunk)).2).2).1).length : Int) - (((t22.getD t24.toNat (dflt Y_impl_Hunk)).2).1))))), t22, t23, t24, ()))
          else
            bif (decide (((t22.getD t24.toNat (dflt Y_impl_Hunk)).1) ≤ t2)) then
              some (.inr (0, false, ()))
            else
              some (.inl (t2, t8, t22, t23, t24, ()))
        else
          none : Option ((PV (.int .i64) × PV (.int .i64) × PV S_impl_Hunk × PV (.int .i64) × PV (.int .i64) × Unit) ⊕ (PV (.int .i64) × PV .bool × Unit)))).bind fun x15 =>
      match x15 with
      | .inl j9 =>
        some (.inl (j9.1, j9.2.1, j9.2.2.1, j9.2.2.2.1, (IntKind.wrap .i64 (j9.2.2.2.2.1 + 1)), ()))
      | .inr j10 =>
        some (.inr (.inr (j10.1, j10.2.1, ())))
  else
    some (.inr (.inl (t8, ())))
noncomputable def w_I_PlaceOf_5 : PV (.int .i64) × PV (.int .i64) × PV S_impl_Hunk × PV (.int .i64) × PV (.int .i64) × Unit → Option ((PV (.int .i64) × Unit) ⊕ (PV (.int .i64) × PV .bool × Unit)) := fix fun d => b_I_PlaceOf_5 d.1 d.2.1 d.2.2.1 d.2.2.2.1 d.2.2.2.2.1
noncomputable def lp_I_PlaceOf_5 : Lp := ⟨⟨[], [2, 8, 22, 23, 24], []⟩, sh_I_PlaceOf_5, o_I_PlaceOf_5, fun d => b_I_PlaceOf_5 d.1 d.2.1 d.2.2.1 d.2.2.2.1 d.2.2.2.2.1⟩
noncomputable def pl_I_PlaceOf : Plan := ⟨[(2, o_I_PlaceOf_2), (11, o_I_PlaceOf_11)], [(5, lp_I_PlaceOf_5)], 0, 0⟩
noncomputable def f_I_PlaceOf (t0 : PV S_impl_Hunk) (t1 : PV (.int .i64)) (t2 : PV (.int .i64)) : Option (PVs [(.int .i64), .bool] × PVs []) :=
  ((
      (f_I_goodHunks t1 t0).bind fun r6 =>
        bif (!r6.1.1) then
          some (t0, t2, true, ())
        else
          (f_I_in t2 0 t1).bind fun r7 =>
            some (t0, t2, (!r7.1.1), ()) : Option ((PV S_impl_Hunk × PV (.int .i64) × PV .bool × Unit)))).bind fun j8 =>
    bif j8.2.2.1 then
      some ((0, false, ()), ())
    else
      (w_I_PlaceOf_5 (j8.2.1, j8.2.1, j8.1, (j8.1.length : Int), 0, ())).bind fun x16 =>
        match x16 with
        | .inl l13 =>
          some ((l13.1, true, ()), ())
        | .inr l14 =>
          some ((l14.1, l14.2.1, ()), ())
noncomputable def ct_I_PlaceOf : Ct := ⟨[(.bor, S_impl_Hunk), (.bor, (.int .i64)), (.bor, (.int .i64))], [((.int .i64), .b), (.bool, .b)], fun x => f_I_PlaceOf x.1 x.2.1 x.2.2.1⟩
noncomputable def cx_I_PlaceOf : Cx := ⟨tab, arrs, [(80, ct_I_goodHunks), (104, ct_I_in)], [], gl, []⟩
theorem eb_I_PlaceOf_5 (t2 : PV (.int .i64)) (t8 : PV (.int .i64)) (t22 : PV S_impl_Hunk) (t23 : PV (.int .i64)) (t24 : PV (.int .i64)) : denK cx_I_PlaceOf (rcN cx_I_PlaceOf 0) pl_I_PlaceOf 0 ((loopsOf (bodyOf Try.f79)).getD 0 .skip) (fillS sh_I_PlaceOf_5 (t2, t8, t22, t23, t24, ())) (roundK 0 lp_I_PlaceOf_5) = b_I_PlaceOf_5 t2 t8 t22 t23 t24 := by kernel_rfl
theorem ef_I_PlaceOf (t0 : PV S_impl_Hunk) (t1 : PV (.int .i64)) (t2 : PV (.int .i64)) : denF cx_I_PlaceOf 0 pl_I_PlaceOf Try.f79.ntmps (bodyOf Try.f79) Try.f79.results.toList [(.bor, S_impl_Hunk), (.bor, (.int .i64)), (.bor, (.int .i64))] [((.int .i64), .b), (.bool, .b)] (t0, t1, t2, ()) = f_I_PlaceOf t0 t1 t2 := by kernel_rfl
theorem ok_I_PlaceOf : FnOk gl Try.prog 79 ct_I_PlaceOf :=
  fnOk (cx := cx_I_PlaceOf) (pl := pl_I_PlaceOf) (dp := 0) (ok0_of tabOk (by unfold ArrOk; kernel_rfl) mix ⟨ok_I_goodHunks, ok_I_in, trivial⟩ trivial) Try.func79 (by kernel_rfl) (by kernel_rfl) (by kernel_rfl)
    (by rw [show loopsOf (bodyOf Try.f79) = [((loopsOf (bodyOf Try.f79)).getD 0 .skip)] from by kernel_rfl]; exact ⟨(by rw [show lookup pl_I_PlaceOf.loops (firstId ((loopsOf (bodyOf Try.f79)).getD 0 .skip)) = some lp_I_PlaceOf_5 from by kernel_rfl]; exact fun d z h => (eb_I_PlaceOf_5 d.1 d.2.1 d.2.2.1 d.2.2.2.1 d.2.2.2.2.1).trans h), trivial⟩) (fun x => ef_I_PlaceOf x.1 x.2.1 x.2.2.1)
noncomputable def o_I_MoveHunks_4 : List Out := [⟨.normal, ⟨[], [0, 1, 2, 8, 34], []⟩, mkSh 70 [(0, .val S_string .b), (1, .val S_impl_Hunk .b), (2, .val S_impl_Hunk .b), (8, .val S_string (.row .b)), (34, .val .bool .b)]⟩]
noncomputable def o_I_MoveHunks_10 : List Out := [⟨.normal, ⟨[], [0, 1, 8, 12, 13, 14, 37, 38, 39, 46], []⟩, mkSh 70 [(0, .val S_string .b), (1, .val S_impl_Hunk .b), (8, .val S_string (.row .b)), (12, .val S_impl_Hunk (.row (.pr .b (.pr .b (.pr (.row .b) .b))))), (13, .val (.int .i64) .b), (14, .var Y_impl_Hunk .b), (37, .val S_impl_Hunk .b), (38, .val (.int .i64) .b), (39, .val (.int .i64) .b), (46, .val .bool .b)]⟩]
noncomputable def pl_I_MoveHunks_76 : Plan := ⟨[], [], 2, 70⟩
noncomputable def sh_I_MoveHunks_146_2 : List Sh := mkSh 98 [(0, .val S_string .b), (1, .val S_impl_Hunk .b), (8, .val S_string (.row .b)), (12, .val S_impl_Hunk (.row (.pr .b (.pr .b (.pr (.row .b) .b))))), (13, .val (.int .i64) .b), (14, .var Y_impl_Hunk .b), (37, .val S_impl_Hunk .b), (38, .val (.int .i64) .b), (39, .val (.int .i64) .b), (40, .val .bool .b), (41, .val (.int .i64) .b), (42, .bad Y_impl_Hunk), (43, .val Y_impl_Hunk .b), (44, .val S_impl_Hunk .b), (45, .fn 77 [⟨14, [], 0, 0⟩]), (70, .val S_impl_Hunk .b), (71, .fn 77 [⟨14, [], 0, 0⟩]), (74, .val .bool .b), (75, .val S_impl_Hunk .b), (76, .fn 77 [⟨14, [], 0, 0⟩]), (79, .val S_impl_Hunk .b), (80, .fn 77 [⟨14, [], 0, 0⟩]), (86, .val (.int .i64) .b), (87, .val (.int .i64) .b)]
noncomputable def o_I_MoveHunks_146_2 : List Out := [⟨.exit 0, ⟨[], [], []⟩, mkSh 98 [(0, .val S_string .b), (1, .val S_impl_Hunk .b), (8, .val S_string (.row .b)), (12, .val S_impl_Hunk (.row (.pr .b (.pr .b (.pr (.row .b) .b))))), (13, .val (.int .i64) .b), (14, .var Y_impl_Hunk .b), (37, .val S_impl_Hunk .b), (38, .val (.int .i64) .b), (39, .val (.int .i64) .b), (40, .val .bool .b), (41, .val (.int .i64) .b), (42, .bad Y_impl_Hunk), (43, .val Y_impl_Hunk .b), (44, .val S_impl_Hunk .b), (45, .fn 77 [⟨14, [], 0, 0⟩]), (70, .val S_impl_Hunk .b), (71, .fn 77 [⟨14, [], 0, 0⟩]), (74, .val .bool .b), (75, .val S_impl_Hunk .b), (76, .fn 77 [⟨14, [], 0, 0⟩])]⟩, ⟨.ret, ⟨[], [4], []⟩, mkSh 98 [(0, .val S_string .b), (1, .val S_impl_Hunk .b), (8, .val S_string (.row .b)), (12, .val S_impl_Hunk (.row (.pr .b (.pr .b (.pr (.row .b) .b))))), (13, .val (.int .i64) .b), (14, .var Y_impl_Hunk .b), (37, .val S_impl_Hunk .b), (38, .val (.int .i64) .b), (39, .val (.int .i64) .b), (40, .val .bool .b), (41, .val (.int .i64) .b), (42, .bad Y_impl_Hunk), (43, .val Y_impl_Hunk .b), (44, .val S_impl_Hunk .b), (45, .fn 77 [⟨14, [], 0, 0⟩]), (70, .val S_impl_Hunk .b), (71, .fn 77 [⟨14, [], 0, 0⟩]), (74, .val .bool .b), (75, .val S_impl_Hunk .b), (76, .fn 77 [⟨14, [], 0, 0⟩]), (83, .val (.int .i64) .b)]⟩]
noncomputable def b_I_MoveHunks_146_2 (t0 : PV S_string) (t1 : PV S_impl_Hunk) (t8 : PV S_string) (t12 : PV S_impl_Hunk) (t13 : PV (.int .i64)) (t14 : PV Y_impl_Hunk) (t37 : PV S_impl_Hunk) (t38 : PV (.int .i64)) (t39 : PV (.int .i64)) (t40 : PV .bool) (t41 : PV (.int .i64)) (t42 : PV Y_impl_Hunk) (t43 : PV Y_impl_Hunk) (t44 : PV S_impl_Hunk) (t70 : PV S_impl_Hunk) (t74 : PV .bool) (t75 : PV S_impl_Hunk) (t79 : PV S_impl_Hunk) (t86 : PV (.int .i64)) (t87 : PV (.int .i64)) : Option ((PV S_string × PV S_impl_Hunk × PV S_string × PV S_impl_Hunk × PV (.int .i64) × PV Y_impl_Hunk × PV S_impl_Hunk × PV (.int .i64) × PV (.int .i64) × PV .bool × PV (.int .i64) × PV Y_impl_Hunk × PV Y_impl_Hunk × PV S_impl_Hunk × PV S_impl_Hunk × PV .bool × PV S_impl_Hunk × PV S_impl_Hunk × PV (.int .i64) × PV (.int .i64) × Unit) ⊕ ((PV S_string × PV S_impl_Hunk × PV S_string × PV S_impl_Hunk × PV (.int .i64) × PV Y_impl_Hunk × PV S_impl_Hunk × PV (.int .i64) × PV (.int .i64) × PV .bool × PV (.int .i64) × PV Y_impl_Hunk × PV Y_impl_Hunk × PV S_impl_Hunk × PV S_impl_Hunk × PV .bool × PV S_impl_Hunk × Unit) ⊕ (PV S_string × PV S_impl_Hunk × PV S_string × PV S_impl_Hunk × PV (.int .i64) × PV Y_impl_Hunk × PV S_impl_Hunk × PV (.int .i64) × PV (.int .i64) × PV .bool × PV (.int .i64) × PV Y_impl_Hunk × PV Y_impl_Hunk × PV S_impl_Hunk × PV S_impl_Hunk × PV .bool × PV S_impl_Hunk × PV (.int .i64) × Unit))) :=
  bif (decide (t87 < t86)) then
    bif inB t87 t79.length then
      (f_I_touch (t79.getD t87.toNat (dflt Y_impl_Hunk)) t14).bind fun r12 =>
        bif r12.1.1 then
          some (.inr (.inr (t0, t1, t8, t12, t13, t14, t37, t38, t39, t40, t41, t42, t43, t44, t70, t74, t75, t87, ())))
        else
          some (.inl (t0, t1, t8, t12, t13, t14, t37, t38, t39, t40, t41, t42, t43, t44, t70, t74, t75, t79, t86, (IntKind.wrap .i64 (t87 + 1)), ()))
    else
      none
  else
    some (.inr (.inl (t0, t1, t8, t12, t13, t14, t37, t38, t39, t40, t41, t42, t43, t44, t70, t74, t75, ())))
noncomputable def w_I_MoveHunks_146_2 : PV S_string × PV S_impl_Hunk × PV S_string × PV S_impl_Hunk × PV (.int .i64) × PV Y_impl_Hunk × PV S_impl_Hunk × PV (.int .i64) × PV (.int .i64) × PV .bool × PV (.int .i64) × PV Y_impl_Hunk × PV Y_impl_Hunk × PV S_impl_Hunk × PV S_impl_Hunk × PV .bool × PV S_impl_Hunk × PV S_impl_Hunk × PV (.int .i64) × PV (.int .i64) × Unit → Option ((PV S_string × PV S_impl_Hunk × PV S_string × PV S_impl_Hunk × PV (.int .i64) × PV Y_impl_Hunk × PV S_impl_Hunk × PV (.int .i64) × PV (.int .i64) × PV .bool × PV (.int .i64) × PV Y_impl_Hunk × PV Y_impl_Hunk × PV S_impl_Hunk × PV S_impl_Hunk × PV .bool × PV S_impl_Hunk × Unit) ⊕ (PV S_string × PV S_impl_Hunk × PV S_string × PV S_impl_Hunk × PV (.int .i64) × PV Y_impl_Hunk × PV S_impl_Hunk × PV (.int .i64) × PV (.int .i64) × PV .bool × PV (.int .i64) × PV Y_impl_Hunk × PV Y_impl_Hunk × PV S_impl_Hunk × PV S_impl_Hunk × PV .bool × PV S_impl_Hunk × PV (.int .i64) × Unit)) := fix fun d => b_I_MoveHunks_146_2 d.1 d.2.1 d.2.2.1 d.2.2.2.1 d.2.2.2.2.1 d.2.2.2.2.2.1 d.2.2.2.2.2.2.1 d.2.2.2.2.2.2.2.1 d.2.2.2.2.2.2.2.2.1 d.2.2.2.2.2.2.2.2.2.1 d.2.2.2.2.2.2.2.2.2.2.1 d.2.2.2.2.2.2.2.2.2.2.2.1 d.2.2.2.2.2.2.2.2.2.2.2.2.1 d.2.2.2.2.2.2.2.2.2.2.2.2.2.1 d.2.2.2.2.2.2.2.2.2.2.2.2.2.2.1 d.2.2.2.2.2.2.2.2.2.2.2.2.2.2.2.1 d.2.2.2.2.2.2.2.2.2.2.2.2.2.2.2.2.1 d.2.2.2.2.2.2.2.2.2.2.2.2.2.2.2.2.2.1 d.2.2.2.2.2.2.2.2.2.2.2.2.2.2.2.2.2.2.1 d.2.2.2.2.2.2.2.2.2.2.2.2.2.2.2.2.2.2.2.1
noncomputable def lp_I_MoveHunks_146_2 : Lp := ⟨⟨[], [0, 1, 7, 8], []⟩, sh_I_MoveHunks_146_2, o_I_MoveHunks_146_2, fun d => b_I_MoveHunks_146_2 d.1 d.2.1 d.2.2.1 d.2.2.2.1 d.2.2.2.2.1 d.2.2.2.2.2.1 d.2.2.2.2.2.2.1 d.2.2.2.2.2.2.2.1 d.2.2.2.2.2.2.2.2.1 d.2.2.2.2.2.2.2.2.2.1 d.2.2.2.2.2.2.2.2.2.2.1 d.2.2.2.2.2.2.2.2.2.2.2.1 d.2.2.2.2.2.2.2.2.2.2.2.2.1 d.2.2.2.2.2.2.2.2.2.2.2.2.2.1 d.2.2.2.2.2.2.2.2.2.2.2.2.2.2.1 d.2.2.2.2.2.2.2.2.2.2.2.2.2.2.2.1 d.2.2.2.2.2.2.2.2.2.2.2.2.2.2.2.2.1 d.2.2.2.2.2.2.2.2.2.2.2.2.2.2.2.2.2.1 d.2.2.2.2.2.2.2.2.2.2.2.2.2.2.2.2.2.2.1 d.2.2.2.2.2.2.2.2.2.2.2.2.2.2.2.2.2.2.2.1⟩
noncomputable def pl_I_MoveHunks_146 : Plan := ⟨[], [(2, lp_I_MoveHunks_146_2)], 1, 79⟩
noncomputable def pl_I_MoveHunks_77 : Plan := ⟨[], [], 0, 98⟩
noncomputable def sh_I_MoveHunks_7 : List Sh := mkSh 70 [(0, .val S_string .b), (1, .val S_impl_Hunk .b), (8, .val S_string (.row .b)), (12, .val S_impl_Hunk (.row (.pr .b (.pr .b (.pr (.row .b) .b))))), (37, .val S_impl_Hunk .b), (38, .val (.int .i64) .b), (39, .val (.int .i64) .b)]
noncomputable def o_I_MoveHunks_7 : List Out := [⟨.exit 0, ⟨[], [8, 12], []⟩, mkSh 70 [(8, .val S_string (.row .b)), (12, .val S_impl_Hunk (.row (.pr .b (.pr .b (.pr (.row .b) .b)))))]⟩, ⟨.ret, ⟨[], [6, 7], []⟩, mkSh 70 [(6, .val S_impl_Hunk (.row (.pr .b (.pr .b (.pr (.row .b) .b))))), (7, .val .bool .b)]⟩]
noncomputable def b_I_MoveHunks_7 (t0 : PV S_string) (t1 : PV S_impl_Hunk) (t8 : PV S_string) (t12 : PV S_impl_Hunk) (t37 : PV S_impl_Hunk) (t38 : PV (.int .i64)) (t39 : PV (.int .i64)) : Option ((PV S_string × PV S_impl_Hunk × PV S_string × PV S_impl_Hunk × PV S_impl_Hunk × PV (.int .i64) × PV (.int .i64) × Unit) ⊕ ((PV S_string × PV S_impl_Hunk × Unit) ⊕ (PV S_impl_Hunk × PV .bool × Unit))) :=
  bif (decide (t39 < t38)) then
    bif inB t39 t37.length then
      ((
          (w_I_MoveHunks_146_2 (t0, t1, t8, t12, t39, (t37.getD t39.toNat (dflt Y_impl_Hunk)), t37, t38, t39, (decide (t39 < t38)), t39, (t37.getD t39.toNat (dflt Y_impl_Hunk)), (t37.getD t39.toNat (dflt Y_impl_Hunk)), t1, t1, false, t1, t1, (t1.length : Int), 0, ())).bind fun x41 =>
            match x41 with
            | .inl l28 =>
              some (l28.1, l28.2.1, l28.2.2.1, l28.2.2.2.1, l28.2.2.2.2.1, l28.2.2.2.2.2.1, l28.2.2.2.2.2.2.1, l28.2.2.2.2.2.2.2.1, l28.2.2.2.2.2.2.2.2.1, (decide ((-1) ≥ 0)), ())
            | .inr l29 =>
              some (l29.1, l29.2.1, l29.2.2.1, l29.2.2.2.1, l29.2.2.2.2.1, l29.2.2.2.2.2.1, l29.2.2.2.2.2.2.1, l29.2.2.2.2.2.2.2.1, l29.2.2.2.2.2.2.2.2.1, (decide (l29.2.2.2.2.2.2.2.2.2.2.2.2.2.2.2.2.2.1 ≥ 0)), ()) : Option ((PV S_string × PV S_impl_Hunk × PV S_string × PV S_impl_Hunk × PV (.int .i64) × PV Y_impl_Hunk × PV S_impl_Hunk × PV (.int .i64) × PV (.int .i64) × PV .bool × Unit)))).bind fun j30 =>
        bif j30.2.2.2.2.2.2.2.2.2.1 then
          some (.inr (.inr ([], false, ())))
        else
          (f_I_PlaceOf j30.2.1 (j30.1.length : Int) j30.2.2.2.2.2.1.1).bind fun r32 =>
            bif (!r32.1.2.1) then
              some (.inr (.inr ([], false, ())))
            else
              bif inB j30.2.2.2.2.1 j30.2.2.2.1.length then
                some (.inl (j30.1, j30.2.1, j30.2.2.1, (j30.2.2.2.1.set j30.2.2.2.2.1.toNat (r32.1.1, (j30.2.2.2.1.getD j30.2.2.2.2.1.toNat (dflt Y_impl_Hunk)).2)), j30.2.2.2.2.2.2.1, j30.2.2.2.2.2.2.2.1, (IntKind.wrap .i64 (j30.2.2.2.2.2.2.2.2.1 + 1)), ()))
              else
                none
    else
      none
  else
    some (.inr (.inl (t8, t12, ())))
noncomputable def w_I_MoveHunks_7 : PV S_string × PV S_impl_Hunk × PV S_string × PV S_impl_Hunk × PV S_impl_Hunk × PV (.int .i64) × PV (.int .i64) × Unit → Option ((PV S_string × PV S_impl_Hunk × Unit) ⊕ (PV S_impl_Hunk × PV .bool × Unit)) := fix fun d => b_I_MoveHunks_7 d.1 d.2.1 d.2.2.1 d.2.2.2.1 d.2.2.2.2.1 d.2.2.2.2.2.1 d.2.2.2.2.2.2.1
noncomputable def lp_I_MoveHunks_7 : Lp := ⟨⟨[], [0, 1, 8, 12, 37, 38, 39], []⟩, sh_I_MoveHunks_7, o_I_MoveHunks_7, fun d => b_I_MoveHunks_7 d.1 d.2.1 d.2.2.1 d.2.2.2.1 d.2.2.2.2.1 d.2.2.2.2.2.1 d.2.2.2.2.2.2.1⟩
noncomputable def pl_I_MoveHunks : Plan := ⟨[(4, o_I_MoveHunks_4), (10, o_I_MoveHunks_10)], [(7, lp_I_MoveHunks_7)], 3, 0⟩
noncomputable def f_I_MoveHunks (t0 : PV S_string) (t1 : PV S_impl_Hunk) (t2 : PV S_impl_Hunk) : Option (PVs [S_impl_Hunk, .bool] × PVs []) :=
  (f_I_Patch t0 t1).bind fun r2 =>
    (f_I_Patch t0 t2).bind fun r4 =>
      ((
          bif (!r2.1.2.1) then
            some (t0, t1, t2, r2.1.1, true, ())
          else
            some (t0, t1, t2, r2.1.1, (!r4.1.2.1), ()) : Option ((PV S_string × PV S_impl_Hunk × PV S_impl_Hunk × PV S_string × PV .bool × Unit)))).bind fun j6 =>
        bif j6.2.2.2.2.1 then
          some (([], false, ()), ())
        else
          (f_I_copiedHunks j6.2.2.1).bind fun r8 =>
            (w_I_MoveHunks_7 (j6.1, j6.2.1, j6.2.2.2.1, r8.1.1, j6.2.2.1, (j6.2.2.1.length : Int), 0, ())).bind fun x42 =>
              match x42 with
              | .inl l35 =>
                (f_I_goodHunks (l35.1.length : Int) l35.2.1).bind fun r39 =>
                  bif (!r39.1.1) then
                    some (([], false, ()), ())
                  else
                    some ((l35.2.1, true, ()), ())
              | .inr l40 =>
                some ((l40.1, l40.2.1, ()), ())
noncomputable def ct_I_MoveHunks : Ct := ⟨[(.bor, S_string), (.bor, S_impl_Hunk), (.bor, S_impl_Hunk)], [(S_impl_Hunk, (.row (.pr .b (.pr .b (.pr (.row .b) .b))))), (.bool, .b)], fun x => f_I_MoveHunks x.1 x.2.1 x.2.2.1⟩
noncomputable def cx_I_MoveHunks : Cx := ⟨tab, arrs, [(74, ct_I_Patch), (75, ct_I_copiedHunks), (78, ct_I_touch), (79, ct_I_PlaceOf), (80, ct_I_goodHunks)], [(76, Try.f76, pl_I_MoveHunks_76), (146, Try.f146, pl_I_MoveHunks_146), (77, Try.f77, pl_I_MoveHunks_77)], gl, []⟩
theorem eb_I_MoveHunks_146_2 (t0 : PV S_string) (t1 : PV S_impl_Hunk) (t8 : PV S_string) (t12 : PV S_impl_Hunk) (t13 : PV (.int .i64)) (t14 : PV Y_impl_Hunk) (t37 : PV S_impl_Hunk) (t38 : PV (.int .i64)) (t39 : PV (.int .i64)) (t40 : PV .bool) (t41 : PV (.int .i64)) (t42 : PV Y_impl_Hunk) (t43 : PV Y_impl_Hunk) (t44 : PV S_impl_Hunk) (t70 : PV S_impl_Hunk) (t74 : PV .bool) (t75 : PV S_impl_Hunk) (t79 : PV S_impl_Hunk) (t86 : PV (.int .i64)) (t87 : PV (.int .i64)) : denK cx_I_MoveHunks (rcN cx_I_MoveHunks 1) pl_I_MoveHunks_146 79 ((loopsOf (bodyOf Try.f146)).getD 0 .skip) (fillS sh_I_MoveHunks_146_2 (t0, t1, t8, t12, t13, t14, t37, t38, t39, t40, t41, t42, t43, t44, t70, t74, t75, t79, t86, t87, ())) (roundK 79 lp_I_MoveHunks_146_2) = b_I_MoveHunks_146_2 t0 t1 t8 t12 t13 t14 t37 t38 t39 t40 t41 t42 t43 t44 t70 t74 t75 t79 t86 t87 := by kernel_rfl
theorem eb_I_MoveHunks_7 (t0 : PV S_string) (t1 : PV S_impl_Hunk) (t8 : PV S_string) (t12 : PV S_impl_Hunk) (t37 : PV S_impl_Hunk) (t38 : PV (.int .i64)) (t39 : PV (.int .i64)) : denK cx_I_MoveHunks (rcN cx_I_MoveHunks 3) pl_I_MoveHunks 0 ((loopsOf (bodyOf Try.f15)).getD 0 .skip) (fillS sh_I_MoveHunks_7 (t0, t1, t8, t12, t37, t38, t39, ())) (roundK 0 lp_I_MoveHunks_7) = b_I_MoveHunks_7 t0 t1 t8 t12 t37 t38 t39 := by kernel_rfl
theorem ef_I_MoveHunks (t0 : PV S_string) (t1 : PV S_impl_Hunk) (t2 : PV S_impl_Hunk) : denF cx_I_MoveHunks 3 pl_I_MoveHunks Try.f15.ntmps (bodyOf Try.f15) Try.f15.results.toList [(.bor, S_string), (.bor, S_impl_Hunk), (.bor, S_impl_Hunk)] [(S_impl_Hunk, (.row (.pr .b (.pr .b (.pr (.row .b) .b))))), (.bool, .b)] (t0, t1, t2, ()) = f_I_MoveHunks t0 t1 t2 := by kernel_rfl
theorem ok_I_MoveHunks : FnOk gl Try.prog 15 ct_I_MoveHunks :=
  fnOk (cx := cx_I_MoveHunks) (pl := pl_I_MoveHunks) (dp := 3) (ok0_of tabOk (by unfold ArrOk; kernel_rfl) mix ⟨ok_I_Patch, ok_I_copiedHunks, ok_I_touch, ok_I_PlaceOf, ok_I_goodHunks, trivial⟩ ⟨⟨Try.func76, by kernel_rfl, (by rw [show loopsOf (bodyOf Try.f76) = [] from by kernel_rfl]; exact trivial)⟩, ⟨Try.func146, by kernel_rfl, (by rw [show loopsOf (bodyOf Try.f146) = [((loopsOf (bodyOf Try.f146)).getD 0 .skip)] from by kernel_rfl]; exact ⟨(by rw [show lookup pl_I_MoveHunks_146.loops (firstId ((loopsOf (bodyOf Try.f146)).getD 0 .skip)) = some lp_I_MoveHunks_146_2 from by kernel_rfl]; exact fun d z h => (eb_I_MoveHunks_146_2 d.1 d.2.1 d.2.2.1 d.2.2.2.1 d.2.2.2.2.1 d.2.2.2.2.2.1 d.2.2.2.2.2.2.1 d.2.2.2.2.2.2.2.1 d.2.2.2.2.2.2.2.2.1 d.2.2.2.2.2.2.2.2.2.1 d.2.2.2.2.2.2.2.2.2.2.1 d.2.2.2.2.2.2.2.2.2.2.2.1 d.2.2.2.2.2.2.2.2.2.2.2.2.1 d.2.2.2.2.2.2.2.2.2.2.2.2.2.1 d.2.2.2.2.2.2.2.2.2.2.2.2.2.2.1 d.2.2.2.2.2.2.2.2.2.2.2.2.2.2.2.1 d.2.2.2.2.2.2.2.2.2.2.2.2.2.2.2.2.1 d.2.2.2.2.2.2.2.2.2.2.2.2.2.2.2.2.2.1 d.2.2.2.2.2.2.2.2.2.2.2.2.2.2.2.2.2.2.1 d.2.2.2.2.2.2.2.2.2.2.2.2.2.2.2.2.2.2.2.1).trans h), trivial⟩)⟩, ⟨Try.func77, by kernel_rfl, (by rw [show loopsOf (bodyOf Try.f77) = [] from by kernel_rfl]; exact trivial)⟩, trivial⟩) Try.func15 (by kernel_rfl) (by kernel_rfl) (by kernel_rfl)
    (by rw [show loopsOf (bodyOf Try.f15) = [((loopsOf (bodyOf Try.f15)).getD 0 .skip)] from by kernel_rfl]; exact ⟨(by rw [show lookup pl_I_MoveHunks.loops (firstId ((loopsOf (bodyOf Try.f15)).getD 0 .skip)) = some lp_I_MoveHunks_7 from by kernel_rfl]; exact fun d z h => (eb_I_MoveHunks_7 d.1 d.2.1 d.2.2.1 d.2.2.2.1 d.2.2.2.2.1 d.2.2.2.2.2.1 d.2.2.2.2.2.2.1).trans h), trivial⟩) (fun x => ef_I_MoveHunks x.1 x.2.1 x.2.2.1)
noncomputable def sh_L_eqStringS_4 : List Sh := mkSh 26 [(0, .val S_string .b), (1, .val S_string .b), (5, .val (.int .i64) .b)]
noncomputable def o_L_eqStringS_4 : List Out := [⟨.exit 0, ⟨[], [], []⟩, mkSh 26 []⟩, ⟨.ret, ⟨[], [4], []⟩, mkSh 26 [(4, .val .bool .b)]⟩]
noncomputable def b_L_eqStringS_4 (t0 : PV S_string) (t1 : PV S_string) (t5 : PV (.int .i64)) : Option ((PV S_string × PV S_string × PV (.int .i64) × Unit) ⊕ ((Unit) ⊕ (PV .bool × Unit))) :=
  bif (decide (t5 < (t0.length : Int))) then
    bif inB t5 t0.length then
      bif inB t5 t1.length then
        bif (!((t0.getD t5.toNat []) == (t1.getD t5.toNat []))) then
          some (.inr (.inr (false, ())))
        else
          some (.inl (t0, t1, (IntKind.wrap .i64 (t5 + 1)), ()))
      else
        none
    else
      none
  else
    some (.inr (.inl ()))
noncomputable def w_L_eqStringS_4 : PV S_string × PV S_string × PV (.int .i64) × Unit → Option ((Unit) ⊕ (PV .bool × Unit)) := fix fun d => b_L_eqStringS_4 d.1 d.2.1 d.2.2.1
noncomputable def lp_L_eqStringS_4 : Lp := ⟨⟨[], [0, 1, 5], []⟩, sh_L_eqStringS_4, o_L_eqStringS_4, fun d => b_L_eqStringS_4 d.1 d.2.1 d.2.2.1⟩
noncomputable def pl_L_eqStringS : Plan := ⟨[], [(4, lp_L_eqStringS_4)], 0, 0⟩
noncomputable def f_L_eqStringS (t0 : PV S_string) (t1 : PV S_string) : Option (PVs [.bool] × PVs []) :=
  bif (!((t0.length : Int) == (t1.length : Int))) then
    some ((false, ()), ())
  else
    (w_L_eqStringS_4 (t0, t1, 0, ())).bind fun x5 =>
      match x5 with
      | .inl l3 =>
        some ((true, ()), ())
      | .inr l4 =>
        some ((l4.1, ()), ())
noncomputable def ct_L_eqStringS : Ct := ⟨[(.bor, S_string), (.bor, S_string)], [(.bool, .b)], fun x => f_L_eqStringS x.1 x.2.1⟩
noncomputable def cx_L_eqStringS : Cx := ⟨tab, arrs, [], [], gl, []⟩
theorem eb_L_eqStringS_4 (t0 : PV S_string) (t1 : PV S_string) (t5 : PV (.int .i64)) : denK cx_L_eqStringS (rcN cx_L_eqStringS 0) pl_L_eqStringS 0 ((loopsOf (bodyOf Try.f17)).getD 0 .skip) (fillS sh_L_eqStringS_4 (t0, t1, t5, ())) (roundK 0 lp_L_eqStringS_4) = b_L_eqStringS_4 t0 t1 t5 := by kernel_rfl
theorem ef_L_eqStringS (t0 : PV S_string) (t1 : PV S_string) : denF cx_L_eqStringS 0 pl_L_eqStringS Try.f17.ntmps (bodyOf Try.f17) Try.f17.results.toList [(.bor, S_string), (.bor, S_string)] [(.bool, .b)] (t0, t1, ()) = f_L_eqStringS t0 t1 := by kernel_rfl
theorem ok_L_eqStringS : FnOk gl Try.prog 17 ct_L_eqStringS :=
  fnOk (cx := cx_L_eqStringS) (pl := pl_L_eqStringS) (dp := 0) (ok0_of tabOk (by unfold ArrOk; kernel_rfl) mix trivial trivial) Try.func17 (by kernel_rfl) (by kernel_rfl) (by kernel_rfl)
    (by rw [show loopsOf (bodyOf Try.f17) = [((loopsOf (bodyOf Try.f17)).getD 0 .skip)] from by kernel_rfl]; exact ⟨(by rw [show lookup pl_L_eqStringS.loops (firstId ((loopsOf (bodyOf Try.f17)).getD 0 .skip)) = some lp_L_eqStringS_4 from by kernel_rfl]; exact fun d z h => (eb_L_eqStringS_4 d.1 d.2.1 d.2.2.1).trans h), trivial⟩) (fun x => ef_L_eqStringS x.1 x.2.1)
noncomputable def pl_L_eqHunk : Plan := ⟨[], [], 0, 0⟩
noncomputable def f_L_eqHunk (t0 : PV Y_impl_Hunk) (t1 : PV Y_impl_Hunk) : Option (PVs [.bool] × PVs []) :=
  bif (!(t0.1 == t1.1)) then
    some ((false, ()), ())
  else
    bif (!(t0.2.1 == t1.2.1)) then
      some ((false, ()), ())
    else
      (f_L_eqStringS t0.2.2.1 t1.2.2.1).bind fun r4 =>
        bif (!r4.1.1) then
          some ((false, ()), ())
        else
          some ((true, ()), ())
noncomputable def ct_L_eqHunk : Ct := ⟨[(.bor, Y_impl_Hunk), (.bor, Y_impl_Hunk)], [(.bool, .b)], fun x => f_L_eqHunk x.1 x.2.1⟩
noncomputable def cx_L_eqHunk : Cx := ⟨tab, arrs, [(17, ct_L_eqStringS)], [], gl, []⟩
theorem ef_L_eqHunk (t0 : PV Y_impl_Hunk) (t1 : PV Y_impl_Hunk) : denF cx_L_eqHunk 0 pl_L_eqHunk Try.f81.ntmps (bodyOf Try.f81) Try.f81.results.toList [(.bor, Y_impl_Hunk), (.bor, Y_impl_Hunk)] [(.bool, .b)] (t0, t1, ()) = f_L_eqHunk t0 t1 := by kernel_rfl
theorem ok_L_eqHunk : FnOk gl Try.prog 81 ct_L_eqHunk :=
  fnOk (cx := cx_L_eqHunk) (pl := pl_L_eqHunk) (dp := 0) (ok0_of tabOk (by unfold ArrOk; kernel_rfl) mix ⟨ok_L_eqStringS, trivial⟩ trivial) Try.func81 (by kernel_rfl) (by kernel_rfl) (by kernel_rfl)
    (by rw [show loopsOf (bodyOf Try.f81) = [] from by kernel_rfl]; exact trivial) (fun x => ef_L_eqHunk x.1 x.2.1)
noncomputable def sh_L_eqHunkS_4 : List Sh := mkSh 27 [(0, .val S_impl_Hunk .b), (1, .val S_impl_Hunk .b), (5, .val (.int .i64) .b)]
noncomputable def o_L_eqHunkS_4 : List Out := [⟨.exit 0, ⟨[], [], []⟩, mkSh 27 []⟩, ⟨.ret, ⟨[], [4], []⟩, mkSh 27 [(4, .val .bool .b)]⟩]
noncomputable def b_L_eqHunkS_4 (t0 : PV S_impl_Hunk) (t1 : PV S_impl_Hunk) (t5 : PV (.int .i64)) : Option ((PV S_impl_Hunk × PV S_impl_Hunk × PV (.int .i64) × Unit) ⊕ ((Unit) ⊕ (PV .bool × Unit))) :=
  bif (decide (t5 < (t0.length : Int))) then
    bif inB t5 t0.length then
      bif inB t5 t1.length then
        (f_L_eqHunk (t0.getD t5.toNat (dflt Y_impl_Hunk)) (t1.getD t5.toNat (dflt Y_impl_Hunk))).bind fun r4 =>
          bif (!r4.1.1) then
            some (.inr (.inr (false, ())))
          else
            some (.inl (t0, t1, (IntKind.wrap .i64 (t5 + 1)), ()))
      else
        none
    else
      none
  else
    some (.inr (.inl ()))
noncomputable def w_L_eqHunkS_4 : PV S_impl_Hunk × PV S_impl_Hunk × PV (.int .i64) × Unit → Option ((Unit) ⊕ (PV .bool × Unit)) := fix fun d => b_L_eqHunkS_4 d.1 d.2.1 d.2.2.1
noncomputable def lp_L_eqHunkS_4 : Lp := ⟨⟨[], [0, 1, 5], []⟩, sh_L_eqHunkS_4, o_L_eqHunkS_4, fun d => b_L_eqHunkS_4 d.1 d.2.1 d.2.2.1⟩
noncomputable def pl_L_eqHunkS : Plan := ⟨[], [(4, lp_L_eqHunkS_4)], 0, 0⟩
noncomputable def f_L_eqHunkS (t0 : PV S_impl_Hunk) (t1 : PV S_impl_Hunk) : Option (PVs [.bool] × PVs []) :=
  bif (!((t0.length : Int) == (t1.length : Int))) then
    some ((false, ()), ())
  else
    (w_L_eqHunkS_4 (t0, t1, 0, ())).bind fun x9 =>
      match x9 with
      | .inl l7 =>
        some ((true, ()), ())
      | .inr l8 =>
        some ((l8.1, ()), ())
noncomputable def ct_L_eqHunkS : Ct := ⟨[(.bor, S_impl_Hunk), (.bor, S_impl_Hunk)], [(.bool, .b)], fun x => f_L_eqHunkS x.1 x.2.1⟩
noncomputable def cx_L_eqHunkS : Cx := ⟨tab, arrs, [(81, ct_L_eqHunk)], [], gl, []⟩
theorem eb_L_eqHunkS_4 (t0 : PV S_impl_Hunk) (t1 : PV S_impl_Hunk) (t5 : PV (.int .i64)) : denK cx_L_eqHunkS (rcN cx_L_eqHunkS 0) pl_L_eqHunkS 0 ((loopsOf (bodyOf Try.f16)).getD 0 .skip) (fillS sh_L_eqHunkS_4 (t0, t1, t5, ())) (roundK 0 lp_L_eqHunkS_4) = b_L_eqHunkS_4 t0 t1 t5 := by kernel_rfl
theorem ef_L_eqHunkS (t0 : PV S_impl_Hunk) (t1 : PV S_impl_Hunk) : denF cx_L_eqHunkS 0 pl_L_eqHunkS Try.f16.ntmps (bodyOf Try.f16) Try.f16.results.toList [(.bor, S_impl_Hunk), (.bor, S_impl_Hunk)] [(.bool, .b)] (t0, t1, ()) = f_L_eqHunkS t0 t1 := by kernel_rfl
theorem ok_L_eqHunkS : FnOk gl Try.prog 16 ct_L_eqHunkS :=
  fnOk (cx := cx_L_eqHunkS) (pl := pl_L_eqHunkS) (dp := 0) (ok0_of tabOk (by unfold ArrOk; kernel_rfl) mix ⟨ok_L_eqHunk, trivial⟩ trivial) Try.func16 (by kernel_rfl) (by kernel_rfl) (by kernel_rfl)
    (by rw [show loopsOf (bodyOf Try.f16) = [((loopsOf (bodyOf Try.f16)).getD 0 .skip)] from by kernel_rfl]; exact ⟨(by rw [show lookup pl_L_eqHunkS.loops (firstId ((loopsOf (bodyOf Try.f16)).getD 0 .skip)) = some lp_L_eqHunkS_4 from by kernel_rfl]; exact fun d z h => (eb_L_eqHunkS_4 d.1 d.2.1 d.2.2.1).trans h), trivial⟩) (fun x => ef_L_eqHunkS x.1 x.2.1)
noncomputable def sh_L_markText_4 : List Sh := mkSh 20 [(0, .val (.int .i64) .b), (3, .val .str .b)]
noncomputable def o_L_markText_4 : List Out := [⟨.exit 0, ⟨[], [3], []⟩, mkSh 20 [(3, .val .str .b)]⟩]
noncomputable def b_L_markText_4 (t0 : PV (.int .i64)) (t3 : PV .str) : Option ((PV (.int .i64) × PV .str × Unit) ⊕ ((PV .str × Unit))) :=
  bif (decide (t0 > 0)) then
    bif 10 == 0 then
      none
    else
      bif decide ((bytesOfInts [(IntKind.wrap .u8 (IntKind.wrap .i64 (48 + (t0.tmod 10))))]).length + t3.length ≤ 1099511627776) then
        bif 10 == 0 then
          none
        else
          some (.inl ((IntKind.wrap .i64 (t0.tdiv 10)), ((bytesOfInts [(IntKind.wrap .u8 (IntKind.wrap .i64 (48 + (t0.tmod 10))))]) ++ t3), ()))
      else
        none
  else
    some (.inr (t3, ()))
noncomputable def w_L_markText_4 : PV (.int .i64) × PV .str × Unit → Option ((PV .str × Unit)) := fix fun d => b_L_markText_4 d.1 d.2.1
noncomputable def lp_L_markText_4 : Lp := ⟨⟨[], [0, 3], []⟩, sh_L_markText_4, o_L_markText_4, fun d => b_L_markText_4 d.1 d.2.1⟩
noncomputable def pl_L_markText : Plan := ⟨[], [(4, lp_L_markText_4)], 0, 0⟩
noncomputable def f_L_markText (t0 : PV (.int .i64)) : Option (PVs [.str] × PVs []) :=
  bif (decide (t0 ≤ 0)) then
    some (([109, 48], ()), ())
  else
    (w_L_markText_4 (t0, [], ())).bind fun l2 =>
      bif decide ([109].length + l2.1.length ≤ 1099511627776) then
        some ((([109] ++ l2.1), ()), ())
      else
        none
noncomputable def ct_L_markText : Ct := ⟨[(.bor, (.int .i64))], [(.str, .b)], fun x => f_L_markText x.1⟩
noncomputable def cx_L_markText : Cx := ⟨tab, arrs, [], [], gl, []⟩
theorem eb_L_markText_4 (t0 : PV (.int .i64)) (t3 : PV .str) : denK cx_L_markText (rcN cx_L_markText 0) pl_L_markText 0 ((loopsOf (bodyOf Try.f82)).getD 0 .skip) (fillS sh_L_markText_4 (t0, t3, ())) (roundK 0 lp_L_markText_4) = b_L_markText_4 t0 t3 := by kernel_rfl
theorem ef_L_markText (t0 : PV (.int .i64)) : denF cx_L_markText 0 pl_L_markText Try.f82.ntmps (bodyOf Try.f82) Try.f82.results.toList [(.bor, (.int .i64))] [(.str, .b)] (t0, ()) = f_L_markText t0 := by kernel_rfl
theorem ok_L_markText : FnOk gl Try.prog 82 ct_L_markText :=
  fnOk (cx := cx_L_markText) (pl := pl_L_markText) (dp := 0) (ok0_of tabOk (by unfold ArrOk; kernel_rfl) mix trivial trivial) Try.func82 (by kernel_rfl) (by kernel_rfl) (by kernel_rfl)
    (by rw [show loopsOf (bodyOf Try.f82) = [((loopsOf (bodyOf Try.f82)).getD 0 .skip)] from by kernel_rfl]; exact ⟨(by rw [show lookup pl_L_markText.loops (firstId ((loopsOf (bodyOf Try.f82)).getD 0 .skip)) = some lp_L_markText_4 from by kernel_rfl]; exact fun d z h => (eb_L_markText_4 d.1 d.2.1).trans h), trivial⟩) (fun x => ef_L_markText x.1)
noncomputable def sh_L_markStringS_2 : List Sh := mkSh 21 [(0, .val S_string (.row .b)), (1, .sub ⟨0, [], 0, 0⟩), (2, .val (.int .i64) .b), (6, .val (.int .i64) .b)]
noncomputable def o_L_markStringS_2 : List Out := [⟨.exit 0, ⟨[], [1], []⟩, mkSh 21 [(0, .val S_string (.row .b)), (2, .val (.int .i64) .b)]⟩]
noncomputable def b_L_markStringS_2 (t0 : PV S_string) (t2 : PV (.int .i64)) (t6 : PV (.int .i64)) : Option ((PV S_string × PV (.int .i64) × PV (.int .i64) × Unit) ⊕ ((PV S_string × PV (.int .i64) × Unit))) :=
  bif (decide (t6 < (t0.length : Int))) then
    (f_L_markText t2).bind fun r4 =>
      bif inB t6 t0.length then
        some (.inl ((t0.set t6.toNat r4.1.1), (IntKind.wrap .i64 (t2 + 1)), (IntKind.wrap .i64 (t6 + 1)), ()))
      else
        none
  else
    some (.inr (t0, t2, ()))
noncomputable def w_L_markStringS_2 : PV S_string × PV (.int .i64) × PV (.int .i64) × Unit → Option ((PV S_string × PV (.int .i64) × Unit)) := fix fun d => b_L_markStringS_2 d.1 d.2.1 d.2.2.1
noncomputable def lp_L_markStringS_2 : Lp := ⟨⟨[], [0, 1, 5], []⟩, sh_L_markStringS_2, o_L_markStringS_2, fun d => b_L_markStringS_2 d.1 d.2.1 d.2.2.1⟩
noncomputable def pl_L_markStringS : Plan := ⟨[], [(2, lp_L_markStringS_2)], 0, 1⟩
noncomputable def f_L_markStringS (t0 : PV S_string) (t1 : PV (.int .i64)) : Option (PVs [(.int .i64)] × PVs [S_string]) :=
  (w_L_markStringS_2 (t0, t1, 0, ())).bind fun l6 =>
    some ((l6.2.1, ()), (l6.1, ()))
noncomputable def ct_L_markStringS : Ct := ⟨[(.mut, S_string), (.bor, (.int .i64))], [((.int .i64), .b)], fun x => f_L_markStringS x.1 x.2.1⟩
noncomputable def cx_L_markStringS : Cx := ⟨tab, arrs, [(82, ct_L_markText)], [], gl, []⟩
theorem eb_L_markStringS_2 (t0 : PV S_string) (t2 : PV (.int .i64)) (t6 : PV (.int .i64)) : denK cx_L_markStringS (rcN cx_L_markStringS 0) pl_L_markStringS 1 ((loopsOf (bodyOf Try.f18)).getD 0 .skip) (fillS sh_L_markStringS_2 (t0, t2, t6, ())) (roundK 1 lp_L_markStringS_2) = b_L_markStringS_2 t0 t2 t6 := by kernel_rfl
theorem ef_L_markStringS (t0 : PV S_string) (t1 : PV (.int .i64)) : denF cx_L_markStringS 0 pl_L_markStringS Try.f18.ntmps (bodyOf Try.f18) Try.f18.results.toList [(.mut, S_string), (.bor, (.int .i64))] [((.int .i64), .b)] (t0, t1, ()) = f_L_markStringS t0 t1 := by kernel_rfl
theorem ok_L_markStringS : FnOk gl Try.prog 18 ct_L_markStringS :=
  fnOk (cx := cx_L_markStringS) (pl := pl_L_markStringS) (dp := 0) (ok0_of tabOk (by unfold ArrOk; kernel_rfl) mix ⟨ok_L_markText, trivial⟩ trivial) Try.func18 (by kernel_rfl) (by kernel_rfl) (by kernel_rfl)
    (by rw [show loopsOf (bodyOf Try.f18) = [((loopsOf (bodyOf Try.f18)).getD 0 .skip)] from by kernel_rfl]; exact ⟨(by rw [show lookup pl_L_markStringS.loops (firstId ((loopsOf (bodyOf Try.f18)).getD 0 .skip)) = some lp_L_markStringS_2 from by kernel_rfl]; exact fun d z h => (eb_L_markStringS_2 d.1 d.2.1 d.2.2.1).trans h), trivial⟩) (fun x => ef_L_markStringS x.1 x.2.1)
noncomputable def sh_L_markHunkS_2 : List Sh := mkSh 35 [(0, .val S_impl_Hunk (.row (.pr .b (.pr .b (.pr (.row .b) .b))))), (1, .sub ⟨0, [], 0, 0⟩), (2, .val (.int .i64) .b), (6, .val (.int .i64) .b)]
noncomputable def o_L_markHunkS_2 : List Out := [⟨.exit 0, ⟨[], [1], []⟩, mkSh 35 [(0, .val S_impl_Hunk (.row (.pr .b (.pr .b (.pr (.row .b) .b))))), (2, .val (.int .i64) .b)]⟩]
noncomputable def b_L_markHunkS_2 (t0 : PV S_impl_Hunk) (t2 : PV (.int .i64)) (t6 : PV (.int .i64)) : Option ((PV S_impl_Hunk × PV (.int .i64) × PV (.int .i64) × Unit) ⊕ ((PV S_impl_Hunk × PV (.int .i64) × Unit))) :=
  bif (decide (t6 < (t0.length : Int))) then
    bif inB t6 t0.length then
      bif inB t6 (t0.set t6.toNat (t2, (t0.getD t6.toNat (dflt Y_impl_Hunk)).2)).length then
        bif inB t6 ((t0.set t6.toNat (t2, (t0.getD t6.toNat (dflt Y_impl_Hunk)).2)).set t6.toNat (((t0.set t6.toNat (t2, (t0.getD t6.toNat (dflt Y_impl_Hunk)).2)).getD t6.toNat (dflt Y_impl_Hunk)).1, ((IntKind.wrap .i64 (t2 + 1)), (((t0.set t6.toNat (t2, (t0.getD t6.toNat (dflt Y_impl_Hunk)).2)).getD t6.toNat (dflt Y_impl_Hunk)).2).2))).length then
          (f_L_markStringS ((((((t0.set t6.toNat (t2, (t0.getD t6.toNat (dflt Y_impl_Hunk)).2)).set t6.toNat (((t0.set t6.toNat (t2, (t0.getD t6.toNat (dflt Y_impl_Hunk)).2)).getD t6.toNat (dflt Y_impl_Hunk)).1, ((IntKind.wrap .i64 (t2 + 1)), (((t0.set t6.toNat (t2, (t0.getD t6.toNat (dflt Y_impl_Hunk)).2)).getD t6.toNat (dflt Y_impl_Hunk)).2).2))).getD t6.toNat (dflt Y_impl_Hunk)).2).2).1) (IntKind.wrap .i64 ((IntKind.wrap .i64 (t2 + 1)) + 1))).bind fun r2 =>
            some (.inl ((((t0.set t6.toNat (t2, (t0.getD t6.toNat (dflt Y_impl_Hunk)).2)).set t6.toNat (((t0.set t6.toNat (t2, (t0.getD t6.toNat (dflt Y_impl_Hunk)).2)).getD t6.toNat (dflt Y_impl_Hunk)).1, ((IntKind.wrap .i64 (t2 + 1)), (((t0.set t6.toNat (t2, (t0.getD t6.toNat (dflt Y_impl_Hunk)).2)).getD t6.toNat (dflt Y_impl_Hunk)).2).2))).set t6.toNat ((((t0.set t6.toNat (t2, (t0.getD t6.toNat (dflt Y_impl_Hunk)).2)).set t6.toNat (((t0.set t6.toNat (t2, (t0.getD t6.toNat (dflt Y_impl_Hunk)).2)).getD t6.toNat (dflt Y_impl_Hunk)).1, ((IntKind.wrap .i64 (t2 + 1)), (((t0.set t6.toNat (t2, (t0.getD t6.toNat (dflt Y_impl_Hunk)).2)).getD t6.toNat (dflt Y_impl_Hunk)).2).2))).getD t6.toNat (dflt Y_impl_Hunk)).1, (((((t0.set t6.toNat (t2, (t0.getD t6.toNat (dflt Y_impl_Hunk)).2)).set t6.toNat (((t0.set t6.toNat (t2, (t0.getD t6.toNat (dflt Y_impl_Hunk)).2)).getD t6.toNat (dflt Y_impl_Hunk)).1, ((IntKind.wrap .i64 (t2 + 1)), (((t0.set t6.toNat (t2, (t0.getD t6.toNat (dflt Y_impl_Hunk)).2)).getD t6.toNat (dflt Y_impl_Hunk)).2).2))).getD t6.toNat (dflt Y_impl_Hunk)).2).1, (r2.2.1, (((((t0.set t6.toNat (t2, (t0.getD t6.toNat (dflt Y_impl_Hunk)).2)).set t6.toNat (((t0.set t6.toNat (t2, (t0.getD t6.toNat (dflt Y_impl_Hunk)).2)).getD t6.toNat (dflt Y_impl_Hunk)).1, ((IntKind.wrap .i64 (t2 + 1)), (((t0.set t6.toNat (t2, (t0.getD t6.toNat (dflt Y_impl_Hunk)).2)).getD t6.toNat (dflt Y_impl_Hunk)).2).2))).getD t6.toNat (dflt Y_impl_Hunk)).2).2).2)))), r2.1.1, (IntKind.wrap .i64 (t6 + 1)), ()))
        else
          none
      else
        none
    else
      none
  else
    some (.inr (t0, t2, ()))
noncomputable def w_L_markHunkS_2 : PV S_impl_Hunk × PV (.int .i64) × PV (.int .i64) × Unit → Option ((PV S_impl_Hunk × PV (.int .i64) × Unit)) := fix fun d => b_L_markHunkS_2 d.1 d.2.1 d.2.2.1
noncomputable def lp_L_markHunkS_2 : Lp := ⟨⟨[], [0, 1, 5], []⟩, sh_L_markHunkS_2, o_L_markHunkS_2, fun d => b_L_markHunkS_2 d.1 d.2.1 d.2.2.1⟩
noncomputable def pl_L_markHunkS : Plan := ⟨[], [(2, lp_L_markHunkS_2)], 0, 1⟩
noncomputable def f_L_markHunkS (t0 : PV S_impl_Hunk) (t1 : PV (.int .i64)) : Option (PVs [(.int .i64)] × PVs [S_impl_Hunk]) :=
  (w_L_markHunkS_2 (t0, t1, 0, ())).bind fun l4 =>
    some ((l4.2.1, ()), (l4.1, ()))
noncomputable def ct_L_markHunkS : Ct := ⟨[(.mut, S_impl_Hunk), (.bor, (.int .i64))], [((.int .i64), .b)], fun x => f_L_markHunkS x.1 x.2.1⟩
noncomputable def cx_L_markHunkS : Cx := ⟨tab, arrs, [(18, ct_L_markStringS)], [], gl, []⟩
theorem eb_L_markHunkS_2 (t0 : PV S_impl_Hunk) (t2 : PV (.int .i64)) (t6 : PV (.int .i64)) : denK cx_L_markHunkS (rcN cx_L_markHunkS 0) pl_L_markHunkS 1 ((loopsOf (bodyOf Try.f19)).getD 0 .skip) (fillS sh_L_markHunkS_2 (t0, t2, t6, ())) (roundK 1 lp_L_markHunkS_2) = b_L_markHunkS_2 t0 t2 t6 := by kernel_rfl
theorem ef_L_markHunkS (t0 : PV S_impl_Hunk) (t1 : PV (.int .i64)) : denF cx_L_markHunkS 0 pl_L_markHunkS Try.f19.ntmps (bodyOf Try.f19) Try.f19.results.toList [(.mut, S_impl_Hunk), (.bor, (.int .i64))] [((.int .i64), .b)] (t0, t1, ()) = f_L_markHunkS t0 t1 := by kernel_rfl
theorem ok_L_markHunkS : FnOk gl Try.prog 19 ct_L_markHunkS :=
  fnOk (cx := cx_L_markHunkS) (pl := pl_L_markHunkS) (dp := 0) (ok0_of tabOk (by unfold ArrOk; kernel_rfl) mix ⟨ok_L_markStringS, trivial⟩ trivial) Try.func19 (by kernel_rfl) (by kernel_rfl) (by kernel_rfl)
    (by rw [show loopsOf (bodyOf Try.f19) = [((loopsOf (bodyOf Try.f19)).getD 0 .skip)] from by kernel_rfl]; exact ⟨(by rw [show lookup pl_L_markHunkS.loops (firstId ((loopsOf (bodyOf Try.f19)).getD 0 .skip)) = some lp_L_markHunkS_2 from by kernel_rfl]; exact fun d z h => (eb_L_markHunkS_2 d.1 d.2.1 d.2.2.1).trans h), trivial⟩) (fun x => ef_L_markHunkS x.1 x.2.1)
noncomputable def sh_L_heldStringS_2 : List Sh := mkSh 22 [(0, .val S_string .b), (1, .val (.int .i64) .b), (5, .val (.int .i64) .b)]
noncomputable def o_L_heldStringS_2 : List Out := [⟨.exit 0, ⟨[], [1], []⟩, mkSh 22 [(1, .val (.int .i64) .b)]⟩, ⟨.ret, ⟨[], [4], []⟩, mkSh 22 [(4, .val (.int .i64) .b)]⟩]
noncomputable def b_L_heldStringS_2 (t0 : PV S_string) (t1 : PV (.int .i64)) (t5 : PV (.int .i64)) : Option ((PV S_string × PV (.int .i64) × PV (.int .i64) × Unit) ⊕ ((PV (.int .i64) × Unit) ⊕ (PV (.int .i64) × Unit))) :=
  bif (decide (t5 < (t0.length : Int))) then
    bif inB t5 t0.length then
      (f_L_markText t1).bind fun r8 =>
        bif (!((t0.getD t5.toNat []) == r8.1.1)) then
          some (.inr (.inr ((-1), ())))
        else
          some (.inl (t0, (IntKind.wrap .i64 (t1 + 1)), (IntKind.wrap .i64 (t5 + 1)), ()))
    else
      none
  else
    some (.inr (.inl (t1, ())))
noncomputable def w_L_heldStringS_2 : PV S_string × PV (.int .i64) × PV (.int .i64) × Unit → Option ((PV (.int .i64) × Unit) ⊕ (PV (.int .i64) × Unit)) := fix fun d => b_L_heldStringS_2 d.1 d.2.1 d.2.2.1
noncomputable def lp_L_heldStringS_2 : Lp := ⟨⟨[], [0, 1, 5], []⟩, sh_L_heldStringS_2, o_L_heldStringS_2, fun d => b_L_heldStringS_2 d.1 d.2.1 d.2.2.1⟩
noncomputable def pl_L_heldStringS : Plan := ⟨[], [(2, lp_L_heldStringS_2)], 0, 0⟩
noncomputable def f_L_heldStringS (t0 : PV S_string) (t1 : PV (.int .i64)) : Option (PVs [(.int .i64)] × PVs []) :=
  (w_L_heldStringS_2 (t0, t1, 0, ())).bind fun x13 =>
    match x13 with
    | .inl l11 =>
      some ((l11.1, ()), ())
    | .inr l12 =>
      some ((l12.1, ()), ())
noncomputable def ct_L_heldStringS : Ct := ⟨[(.bor, S_string), (.bor, (.int .i64))], [((.int .i64), .b)], fun x => f_L_heldStringS x.1 x.2.1⟩
noncomputable def cx_L_heldStringS : Cx := ⟨tab, arrs, [(82, ct_L_markText)], [], gl, []⟩
theorem eb_L_heldStringS_2 (t0 : PV S_string) (t1 : PV (.int .i64)) (t5 : PV (.int .i64)) : denK cx_L_heldStringS (rcN cx_L_heldStringS 0) pl_L_heldStringS 0 ((loopsOf (bodyOf Try.f30)).getD 0 .skip) (fillS sh_L_heldStringS_2 (t0, t1, t5, ())) (roundK 0 lp_L_heldStringS_2) = b_L_heldStringS_2 t0 t1 t5 := by kernel_rfl
theorem ef_L_heldStringS (t0 : PV S_string) (t1 : PV (.int .i64)) : denF cx_L_heldStringS 0 pl_L_heldStringS Try.f30.ntmps (bodyOf Try.f30) Try.f30.results.toList [(.bor, S_string), (.bor, (.int .i64))] [((.int .i64), .b)] (t0, t1, ()) = f_L_heldStringS t0 t1 := by kernel_rfl
theorem ok_L_heldStringS : FnOk gl Try.prog 30 ct_L_heldStringS :=
  fnOk (cx := cx_L_heldStringS) (pl := pl_L_heldStringS) (dp := 0) (ok0_of tabOk (by unfold ArrOk; kernel_rfl) mix ⟨ok_L_markText, trivial⟩ trivial) Try.func30 (by kernel_rfl) (by kernel_rfl) (by kernel_rfl)
    (by rw [show loopsOf (bodyOf Try.f30) = [((loopsOf (bodyOf Try.f30)).getD 0 .skip)] from by kernel_rfl]; exact ⟨(by rw [show lookup pl_L_heldStringS.loops (firstId ((loopsOf (bodyOf Try.f30)).getD 0 .skip)) = some lp_L_heldStringS_2 from by kernel_rfl]; exact fun d z h => (eb_L_heldStringS_2 d.1 d.2.1 d.2.2.1).trans h), trivial⟩) (fun x => ef_L_heldStringS x.1 x.2.1)
noncomputable def sh_L_heldHunkS_2 : List Sh := mkSh 40 [(0, .val S_impl_Hunk .b), (1, .val (.int .i64) .b), (5, .val (.int .i64) .b)]
noncomputable def o_L_heldHunkS_2 : List Out := [⟨.exit 0, ⟨[], [1], []⟩, mkSh 40 [(1, .val (.int .i64) .b)]⟩, ⟨.ret, ⟨[], [4], []⟩, mkSh 40 [(4, .val (.int .i64) .b)]⟩]
noncomputable def b_L_heldHunkS_2 (t0 : PV S_impl_Hunk) (t1 : PV (.int .i64)) (t5 : PV (.int .i64)) : Option ((PV S_impl_Hunk × PV (.int .i64) × PV (.int .i64) × Unit) ⊕ ((PV (.int .i64) × Unit) ⊕ (PV (.int .i64) × Unit))) :=
  bif (decide (t5 < (t0.length : Int))) then
    bif inB t5 t0.length then
      bif (!(((t0.getD t5.toNat (dflt Y_impl_Hunk)).1) == t1)) then
        some (.inr (.inr ((-1), ())))
      else
        bif inB t5 t0.length then
          bif (!((((t0.getD t5.toNat (dflt Y_impl_Hunk)).2).1) == (IntKind.wrap .i64 (t1 + 1)))) then
            some (.inr (.inr ((-1), ())))
          else
            bif inB t5 t0.length then
              (f_L_heldStringS ((((t0.getD t5.toNat (dflt Y_impl_Hunk)).2).2).1) (IntKind.wrap .i64 ((IntKind.wrap .i64 (t1 + 1)) + 1))).bind fun r4 =>
                bif (decide (r4.1.1 < 0)) then
                  some (.inr (.inr ((-1), ())))
                else
                  some (.inl (t0, r4.1.1, (IntKind.wrap .i64 (t5 + 1)), ()))
            else
              none
        else
          none
    else
      none
  else
    some (.inr (.inl (t1, ())))
noncomputable def w_L_heldHunkS_2 : PV S_impl_Hunk × PV (.int .i64) × PV (.int .i64) × Unit → Option ((PV (.int .i64) × Unit) ⊕ (PV (.int .i64) × Unit)) := fix fun d => b_L_heldHunkS_2 d.1 d.2.1 d.2.2.1
noncomputable def lp_L_heldHunkS_2 : Lp := ⟨⟨[], [0, 1, 5], []⟩, sh_L_heldHunkS_2, o_L_heldHunkS_2, fun d => b_L_heldHunkS_2 d.1 d.2.1 d.2.2.1⟩
noncomputable def pl_L_heldHunkS : Plan := ⟨[], [(2, lp_L_heldHunkS_2)], 0, 0⟩
noncomputable def f_L_heldHunkS (t0 : PV S_impl_Hunk) (t1 : PV (.int .i64)) : Option (PVs [(.int .i64)] × PVs []) :=
  (w_L_heldHunkS_2 (t0, t1, 0, ())).bind fun x9 =>
    match x9 with
    | .inl l7 =>
      some ((l7.1, ()), ())
    | .inr l8 =>
      some ((l8.1, ()), ())
noncomputable def ct_L_heldHunkS : Ct := ⟨[(.bor, S_impl_Hunk), (.bor, (.int .i64))], [((.int .i64), .b)], fun x => f_L_heldHunkS x.1 x.2.1⟩
noncomputable def cx_L_heldHunkS : Cx := ⟨tab, arrs, [(30, ct_L_heldStringS)], [], gl, []⟩
theorem eb_L_heldHunkS_2 (t0 : PV S_impl_Hunk) (t1 : PV (.int .i64)) (t5 : PV (.int .i64)) : denK cx_L_heldHunkS (rcN cx_L_heldHunkS 0) pl_L_heldHunkS 0 ((loopsOf (bodyOf Try.f20)).getD 0 .skip) (fillS sh_L_heldHunkS_2 (t0, t1, t5, ())) (roundK 0 lp_L_heldHunkS_2) = b_L_heldHunkS_2 t0 t1 t5 := by kernel_rfl
theorem ef_L_heldHunkS (t0 : PV S_impl_Hunk) (t1 : PV (.int .i64)) : denF cx_L_heldHunkS 0 pl_L_heldHunkS Try.f20.ntmps (bodyOf Try.f20) Try.f20.results.toList [(.bor, S_impl_Hunk), (.bor, (.int .i64))] [((.int .i64), .b)] (t0, t1, ()) = f_L_heldHunkS t0 t1 := by kernel_rfl
theorem ok_L_heldHunkS : FnOk gl Try.prog 20 ct_L_heldHunkS :=
  fnOk (cx := cx_L_heldHunkS) (pl := pl_L_heldHunkS) (dp := 0) (ok0_of tabOk (by unfold ArrOk; kernel_rfl) mix ⟨ok_L_heldStringS, trivial⟩ trivial) Try.func20 (by kernel_rfl) (by kernel_rfl) (by kernel_rfl)
    (by rw [show loopsOf (bodyOf Try.f20) = [((loopsOf (bodyOf Try.f20)).getD 0 .skip)] from by kernel_rfl]; exact ⟨(by rw [show lookup pl_L_heldHunkS.loops (firstId ((loopsOf (bodyOf Try.f20)).getD 0 .skip)) = some lp_L_heldHunkS_2 from by kernel_rfl]; exact fun d z h => (eb_L_heldHunkS_2 d.1 d.2.1 d.2.2.1).trans h), trivial⟩) (fun x => ef_L_heldHunkS x.1 x.2.1)
noncomputable def o_L_FnExactMoveHunks_17 : List Out := [⟨.normal, ⟨[], [0, 1, 2, 8, 9, 10, 11, 12, 13, 14, 66, 94, 95, 96, 97, 100, 101, 102, 130, 131, 132], []⟩, mkSh 142 [(0, .val S_string .b), (1, .val S_laws_Hunk .b), (2, .val S_laws_Hunk .b), (8, .val S_impl_Hunk (.row (.pr .b (.pr .b (.pr .b .b))))), (9, .val .bool .b), (10, .val S_string (.row .b)), (11, .val S_impl_Hunk (.row (.pr .b (.pr .b (.pr (.row .b) .b))))), (12, .val S_impl_Hunk (.row (.pr .b (.pr .b (.pr (.row .b) .b))))), (13, .val S_impl_Hunk (.row (.pr .b (.pr .b (.pr (.row .b) .b))))), (14, .val .bool .b), (66, .val .bool .b)]⟩]
noncomputable def o_L_FnExactMoveHunks_29 : List Out := [⟨.normal, ⟨[], [0, 1, 2, 8, 9, 13, 103, 130, 131, 132], []⟩, mkSh 142 [(0, .val S_string .b), (1, .val S_laws_Hunk .b), (2, .val S_laws_Hunk .b), (8, .val S_impl_Hunk (.row (.pr .b (.pr .b (.pr .b .b))))), (9, .val .bool .b), (13, .val S_impl_Hunk (.row (.pr .b (.pr .b (.pr (.row .b) .b))))), (103, .val .bool .b)]⟩]
noncomputable def o_L_FnExactMoveHunks_40 : List Out := [⟨.normal, ⟨[], [13, 16, 133], []⟩, mkSh 142 [(13, .val S_impl_Hunk (.row (.pr .b (.pr .b (.pr (.row .b) .b))))), (16, .val (.int .i64) .b), (133, .val .bool .b)]⟩]
noncomputable def pl_L_FnExactMoveHunks : Plan := ⟨[(17, o_L_FnExactMoveHunks_17), (29, o_L_FnExactMoveHunks_29), (40, o_L_FnExactMoveHunks_40)], [], 0, 0⟩
noncomputable def f_L_FnExactMoveHunks (t0 : PV S_string) (t1 : PV S_laws_Hunk) (t2 : PV S_laws_Hunk) : Option (PVs [.bool] × PVs []) :=
  (f_L_szStringS t0 1048576).bind fun r2 =>
    bif (decide (r2.1.1 < 0)) then
      some ((true, ()), ())
    else
      (f_L_szHunkS t1 r2.1.1).bind fun r4 =>
        bif (decide (r4.1.1 < 0)) then
          some ((true, ()), ())
        else
          (f_L_szHunkS t2 r4.1.1).bind fun r6 =>
            bif (decide (r6.1.1 < 0)) then
              some ((true, ()), ())
            else
              (f_L_toStringS t0).bind fun r11 =>
                (f_L_toHunkS t1).bind fun r12 =>
                  (f_L_toHunkS t2).bind fun r13 =>
                    (f_S_MoveHunks r11.1.1 r12.1.1 r13.1.1).bind fun r14 =>
                      (f_L_toStringS t0).bind fun r16 =>
                        (f_L_toHunkS t1).bind fun r18 =>
                          (f_L_toHunkS t2).bind fun r20 =>
                            (f_I_MoveHunks r16.1.1 r18.1.1 r20.1.1).bind fun r22 =>
                              ((
                                  (f_L_eqHunkS r22.1.1 r14.1.1).bind fun r26 =>
                                    bif (!r26.1.1) then
                                      some (t0, t1, t2, r14.1.1, r14.1.2.1, r16.1.1, r18.1.1, r20.1.1, r22.1.1, r22.1.2.1, true, ())
                                    else
                                      some (t0, t1, t2, r14.1.1, r14.1.2.1, r16.1.1, r18.1.1, r20.1.1, r22.1.1, r22.1.2.1, (!(r22.1.2.1 == r14.1.2.1)), ()) : Option ((PV S_string × PV S_laws_Hunk × PV S_laws_Hunk × PV S_impl_Hunk × PV .bool × PV S_string × PV S_impl_Hunk × PV S_impl_Hunk × PV S_impl_Hunk × PV .bool × PV .bool × Unit)))).bind fun j27 =>
                                bif j27.2.2.2.2.2.2.2.2.2.2.1 then
                                  some ((false, ()), ())
                                else
                                  (f_L_toStringS j27.1).bind fun r34 =>
                                    (f_L_eqStringS j27.2.2.2.2.2.1 r34.1.1).bind fun r35 =>
                                      bif (!r35.1.1) then
                                        some ((false, ()), ())
                                      else
                                        (f_L_toHunkS j27.2.1).bind fun r42 =>
                                          (f_L_eqHunkS j27.2.2.2.2.2.2.1 r42.1.1).bind fun r43 =>
                                            bif (!r43.1.1) then
                                              some ((false, ()), ())
                                            else
                                              (f_L_toHunkS j27.2.2.1).bind fun r50 =>
                                                (f_L_eqHunkS j27.2.2.2.2.2.2.2.1 r50.1.1).bind fun r51 =>
                                                  bif (!r51.1.1) then
                                                    some ((false, ()), ())
                                                  else
                                                    (f_L_markStringS j27.2.2.2.2.2.1 1).bind fun r53 =>
                                                      (f_L_markHunkS j27.2.2.2.2.2.2.1 r53.1.1).bind fun r55 =>
                                                        (f_L_markHunkS j27.2.2.2.2.2.2.2.1 r55.1.1).bind fun r57 =>
                                                          ((
                                                              bif (decide (r57.1.1 < 0)) then
                                                                some (j27.1, j27.2.1, j27.2.2.1, j27.2.2.2.1, j27.2.2.2.2.1, j27.2.2.2.2.2.2.2.2.1, true, ())
                                                              else
                                                                (f_L_eqHunkS j27.2.2.2.2.2.2.2.2.1 j27.2.2.2.1).bind fun r61 =>
                                                                  bif (!r61.1.1) then
                                                                    some (j27.1, j27.2.1, j27.2.2.1, j27.2.2.2.1, j27.2.2.2.2.1, j27.2.2.2.2.2.2.2.2.1, true, ())
                                                                  else
                                                                    some (j27.1, j27.2.1, j27.2.2.1, j27.2.2.2.1, j27.2.2.2.2.1, j27.2.2.2.2.2.2.2.2.1, (!(j27.2.2.2.2.2.2.2.2.2.1 == j27.2.2.2.2.1)), ()) : Option ((PV S_string × PV S_laws_Hunk × PV S_laws_Hunk × PV S_impl_Hunk × PV .bool × PV S_impl_Hunk × PV .bool × Unit)))).bind fun j62 =>
                                                            bif j62.2.2.2.2.2.2.1 then
                                                              some ((false, ()), ())
                                                            else
                                                              (f_L_markHunkS j62.2.2.2.2.2.1 1).bind fun r64 =>
                                                                (f_L_heldHunkS r64.2.1 1).bind fun r66 =>
                                                                  bif (decide (r66.1.1 < 0)) then
                                                                    some ((false, ()), ())
                                                                  else
                                                                    bif (!(r66.1.1 == r64.1.1)) then
                                                                      some ((false, ()), ())
                                                                    else
                                                                      (f_L_toStringS j62.1).bind fun r71 =>
                                                                        (f_L_toHunkS j62.2.1).bind fun r72 =>
                                                                          (f_L_toHunkS j62.2.2.1).bind fun r73 =>
                                                                            (f_I_MoveHunks r71.1.1 r72.1.1 r73.1.1).bind fun r74 =>
                                                                              ((
                                                                                  (f_L_eqHunkS r74.1.1 j62.2.2.2.1).bind fun r78 =>
                                                                                    bif (!r78.1.1) then
                                                                                      some (r64.2.1, r64.1.1, true, ())
                                                                                    else
                                                                                      some (r64.2.1, r64.1.1, (!(r74.1.2.1 == j62.2.2.2.2.1)), ()) : Option ((PV S_impl_Hunk × PV (.int .i64) × PV .bool × Unit)))).bind fun j79 =>
                                                                                bif j79.2.2.1 then
                                                                                  some ((false, ()), ())
                                                                                else
                                                                                  (f_L_heldHunkS j79.1 1).bind fun r81 =>
                                                                                    bif (decide (r81.1.1 < 0)) then
                                                                                      some ((false, ()), ())
                                                                                    else
                                                                                      bif (!(r81.1.1 == j79.2.1)) then
                                                                                        some ((false, ()), ())
                                                                                      else
                                                                                        some ((true, ()), ())
noncomputable def ct_L_FnExactMoveHunks : Ct := ⟨[(.bor, S_string), (.bor, S_laws_Hunk), (.bor, S_laws_Hunk)], [(.bool, .b)], fun x => f_L_FnExactMoveHunks x.1 x.2.1 x.2.2.1⟩
noncomputable def cx_L_FnExactMoveHunks : Cx := ⟨tab, arrs, [(10, ct_L_szStringS), (11, ct_L_szHunkS), (12, ct_S_MoveHunks), (13, ct_L_toStringS), (14, ct_L_toHunkS), (15, ct_I_MoveHunks), (16, ct_L_eqHunkS), (17, ct_L_eqStringS), (18, ct_L_markStringS), (19, ct_L_markHunkS), (20, ct_L_heldHunkS)], [], gl, []⟩
theorem ef_L_FnExactMoveHunks (t0 : PV S_string) (t1 : PV S_laws_Hunk) (t2 : PV S_laws_Hunk) : denF cx_L_FnExactMoveHunks 0 pl_L_FnExactMoveHunks Try.f3.ntmps (bodyOf Try.f3) Try.f3.results.toList [(.bor, S_string), (.bor, S_laws_Hunk), (.bor, S_laws_Hunk)] [(.bool, .b)] (t0, t1, t2, ()) = f_L_FnExactMoveHunks t0 t1 t2 := by kernel_rfl
theorem ok_L_FnExactMoveHunks : FnOk gl Try.prog 3 ct_L_FnExactMoveHunks :=
  fnOk (cx := cx_L_FnExactMoveHunks) (pl := pl_L_FnExactMoveHunks) (dp := 0) (ok0_of tabOk (by unfold ArrOk; kernel_rfl) mix ⟨ok_L_szStringS, ok_L_szHunkS, ok_S_MoveHunks, ok_L_toStringS, ok_L_toHunkS, ok_I_MoveHunks, ok_L_eqHunkS, ok_L_eqStringS, ok_L_markStringS, ok_L_markHunkS, ok_L_heldHunkS, trivial⟩ trivial) Try.func3 (by kernel_rfl) (by kernel_rfl) (by kernel_rfl)
    (by rw [show loopsOf (bodyOf Try.f3) = [] from by kernel_rfl]; exact trivial) (fun x => ef_L_FnExactMoveHunks x.1 x.2.1 x.2.2.1)
end R
