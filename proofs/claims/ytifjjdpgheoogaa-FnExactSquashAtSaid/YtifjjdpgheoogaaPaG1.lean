/- The functions that L_FnExactSquashAt reach, as pure functions, and that the program computes them. -/
import Derived.Test.YtifjjdpgheoogaaL3
import Derived.Test.YtifjjdpgheoogaaChecked
import Derived.KernelRfl
open Go Go.Dn Go.Proofs
namespace R
set_option linter.unusedVariables false
@[reducible] def S_string : Ty := (.slice 9 .str)
@[reducible] def S_uint8 : Ty := (.slice 5 (.int .u8))
@[reducible] def S_int : Ty := (.slice 3 (.int .i64))
@[reducible] def S_S_string : Ty := (.slice 22 S_string)
@[reducible] def S_S_int : Ty := (.slice 163 S_int)
@[reducible] def Y__2_int : Ty := (.pair (.int .i64) (.pair (.int .i64) .unit))
@[reducible] def S__2_int : Ty := (.slice 169 Y__2_int)
@[reducible] def Y_impl_Hunk : Ty := (.pair (.int .i64) (.pair (.int .i64) (.pair S_string .unit)))
@[reducible] def S_laws_Hunk : Ty := (.slice 90 Y_impl_Hunk)
@[reducible] def S_impl_Hunk : Ty := (.slice 95 Y_impl_Hunk)
@[reducible] def Y_impl_Order : Ty := (.pair (.int .i64) Y_impl_Hunk)
@[reducible] def S_S_laws_Hunk : Ty := (.slice 23 S_laws_Hunk)
@[reducible] def S_S_impl_Hunk : Ty := (.slice 26 S_impl_Hunk)
@[reducible] def S_impl_Order : Ty := (.slice 112 Y_impl_Order)
@[reducible] def Y_laws_Series : Ty := (.pair S_string (.pair S_S_laws_Hunk .unit))
@[reducible] def Y_impl_Series : Ty := (.pair S_string (.pair S_S_impl_Hunk .unit))
noncomputable def tab : List (TypeId × Ty) := [(3, (.int .i64)), (4, .bool), (5, (.int .u8)), (9, .str), (22, S_string), (23, S_laws_Hunk), (26, S_impl_Hunk), (35, S_impl_Order), (47, S_uint8), (69, S_S_laws_Hunk), (71, Y_laws_Series), (73, S_S_impl_Hunk), (75, Y_impl_Series), (90, Y_impl_Hunk), (95, Y_impl_Hunk), (112, Y_impl_Order), (131, S_S_string), (163, S_int), (167, S__2_int), (169, Y__2_int), (186, S_S_int)]
noncomputable def arrs : List TypeId := [169]
theorem tabOk : TabOk Try.prog tab := by unfold TabOk; kernel_rfl
theorem mix : Try.prog.follows .mixedOrders = true := by kernel_rfl
noncomputable def gl : Glob := noGlob
open Go.Shelf
set_option maxRecDepth 20000
noncomputable def f_slices_Clone_string (t0 : PV S_string) : Option (PVs [S_string] × PVs []) := bif roomB ((([] : PV S_string)).length + t0.length) then some ((([] : PV S_string) ++ t0, ()), ()) else none
noncomputable def ct_slices_Clone_string : Ct := ⟨[(.bor, S_string)], [(S_string, (.row .b))], fun x => f_slices_Clone_string x.1⟩
noncomputable def pl_slices_Clone_string : Plan := ⟨[], [], 0, 0⟩
noncomputable def cx_slices_Clone_string : Cx := ⟨tab, arrs, [], [], gl, []⟩
theorem ok_slices_Clone_string : FnOk gl Try.prog 97 ct_slices_Clone_string :=
  fnOk_nil' (cx := cx_slices_Clone_string) (pl := pl_slices_Clone_string) (dp := 0) (t3 := 3) (te := 9) (T := .str) (ok0_of tabOk (by unfold ArrOk; kernel_rfl) mix trivial trivial) Try.func97 (fn := Try.f97) (rvs := Try.f97.results.toList) rfl (by kernel_rfl) (by kernel_rfl) (by kernel_rfl) rfl rfl rfl rfl Try.underlying22 ⟨⟨⟨trivial, trivial⟩, trivial⟩, ⟨trivial, trivial⟩⟩ (fun x => by kernel_rfl) (fun x => by kernel_rfl) (fun x => by kernel_rfl) (fun x => by kernel_rfl) (by kernel_rfl)
section
open Go.RowKit Go.Lib
set_option maxHeartbeats 4000000 in
set_option maxRecDepth 100000 in
theorem repl_end (b n c i vb vc : Nat) (x : Value) (w : World) (hi : i + 2 = n) (hn1 : n ≤ 1099511627776) (hnc : n ≤ c) (hc : c ≤ 9223372036854775807)
    (hsp : ∀ j, j < c → (w.cell? ⟨b, j, none⟩).isSome = true) (hfz : ∀ j, j < c → w.frozen? ⟨b, j, none⟩ = false) (hx : w.cell? ⟨vb, 0, none⟩ = some x) (h1 : x.oneCell' = true) :
    Calls Try.prog 130 #[.slice (some ⟨b, 0, none⟩) n c, .int .i64 i, .int .i64 n, .slice (some ⟨vb, 0, none⟩) 1 vc] w fun e w' =>
      e = .returned (.slice (some ⟨b, 0, none⟩) (n - 1) c) ∧ w' = (w.setCells b i [x]).setCells b (i + 1) [.slice none 0 0] := by
  have hinf : (Try.prog.info? 26).map (fun i => (i.zero, i.size, i.bytes)) = some (some (.slice none 0 0), 1, 24) := by kernel_rfl
  have hsrc : Src Try.prog 1 73 (.slice (some ⟨vb, 0, none⟩) 1 vc) 1 [x] w := Src.ofSlice w (e' := 26) Try.underlying73 ⟨vb, 0, none⟩ 1 vc [x] rfl (fun j u hj => by
    have hj0 : j = 0 := by have := (List.getElem?_eq_some_iff.1 hj).1; simp at this; omega
    subst hj0
    obtain rfl : x = u := Option.some.inj hj
    exact hx) (by simpa using h1)
  have hz1 : ¬ ((i : Int) = (n : Int)) := by omega
  have hz3 : (i : Int) ≤ (n : Int) := by omega
  have hz4 : i ≤ n := by omega
  have hz5 : i ≤ c := by omega
  have hcl : ∀ ty, (Builtin.clear_ #[73] ty #[.slice (some ⟨b, i + 1, none⟩) (n - (i + 1)) (c - (i + 1))]).run Try.prog (w.setCells b i [x]) = .ok (.tuple #[]) ((w.setCells b i [x]).setCells b (i + 1) (List.replicate (n - (i + 1)) (.slice none 0 0))) :=
    fun ty => Lib.run_clear_slice _ 73 26 ty (.slice none 0 0) Try.underlying73 (fun w => by kernel_rfl) rfl rfl b (i + 1) (n - (i + 1)) _ (by omega)
      (fun j hj => isSome_setCells b _ _ _ (fun k hk => hsp _ (by simp at hk; omega)) _ (hsp _ (by omega))) (fun j hj => by rw [World.frozen?_setCells]; exact hfz _ (by omega))
  go_enter Try.func130, Try.ntmps130
  go_wp2_with (at_builtin; refine wpList_append_room1 _ rfl _ _ 73 73 rfl 26 _ _ Try.underlying73 hinf b 0 i c rfl _ rfl 1 [x] hsrc (by omega) (by intro j hj; exact hsp _ (by simp at hj; omega)) (by intro j hj; exact hfz _ (by simp at hj; omega)) ?_)
  go_ret
  refine ⟨by rw [show n - 1 = i + 1 by omega]; rfl, ?_⟩
  rw [show n - (i + 1) = 1 by omega]; rfl

set_option maxHeartbeats 4000000 in
set_option maxRecDepth 100000 in
theorem repl_mid (b n c i j vb vc : Nat) (x : Value) (tl : List Value) (w : World) (hj : i + 2 = j) (hjn : j < n) (hn1 : n ≤ 1099511627776) (hnc : n ≤ c) (hc : c ≤ 9223372036854775807) (htl : tl.length = n - j)
    (hsp : ∀ j, j < c → (w.cell? ⟨b, j, none⟩).isSome = true) (hfz : ∀ j, j < c → w.frozen? ⟨b, j, none⟩ = false) (hx : w.cell? ⟨vb, 0, none⟩ = some x) (h1 : x.oneCell' = true)
    (hcs : ∀ k v, tl[k]? = some v → w.cell? ⟨b, j + k, none⟩ = some v) (h1t : ∀ v ∈ tl, v.oneCell' = true) :
    Calls Try.prog 130 #[.slice (some ⟨b, 0, none⟩) n c, .int .i64 i, .int .i64 j, .slice (some ⟨vb, 0, none⟩) 1 vc] w fun e w' =>
      e = .returned (.slice (some ⟨b, 0, none⟩) (n - 1) c) ∧ ∃ q, w' = (((w.drewN q).setCells b i [x]).drew.setCells b (i + 1) tl).setCells b (n - 1) [.slice none 0 0] := by
  have hinf : (Try.prog.info? 26).map (fun i => (i.zero, i.size, i.bytes)) = some (some (.slice none 0 0), 1, 24) := by kernel_rfl
  have hz1 : ¬ ((i : Int) = (j : Int)) := by omega
  have hz2 : ¬ ((j : Int) = (n : Int)) := by omega
  have hz3 : (i : Int) ≤ (n : Int) := by omega
  have hz4 : i ≤ n := by omega
  have hz5 : i ≤ c := by omega
  have hz6 : j ≤ n := by omega
  have hz7 : (i : Int) ≤ (j : Int) := by omega
  have hz8 : (j : Int) ≤ (n : Int) := by omega
  have hz9 : i ≤ j := by omega
  have hw1 : IntKind.i64.wrap ((i : Int) + 1) = (i : Int) + 1 := by rw [IntKind.wrap_i64]; omega
  have hw2 : IntKind.i64.wrap ((i : Int) + 1 + ((n - j : Nat) : Int)) = ((n - 1 : Nat) : Int) := by rw [IntKind.wrap_i64]; omega
  have hz10 : ¬ ((n - 1 : Nat) : Int) > (c : Int) := by omega
  have hz11 : ((n - 1 : Nat) : Int) ≤ (c : Int) := by omega
  have hz12 : n - 1 ≤ c := by omega
  have hz13 : (i : Int) + 1 ≤ (j : Int) := by omega
  have hz14 : (i : Int) ≤ ((n - 1 : Nat) : Int) := by omega
  have hz15 : i ≤ n - 1 := by omega
  have hz16 : ((n - 1 : Nat) : Int) ≤ (n : Int) := by omega
  have hcp1 : ∀ q ty, (Builtin.copy_ #[73, 73] ty #[.slice (some ⟨b, i, none⟩) (n - 1 - i) (c - i), .slice (some ⟨vb, 0, none⟩) 1 vc]).run Try.prog (w.drewN q) = .ok (goInt [x].length) ((w.drewN q).setCells b i [x]) :=
    fun q ty => run_copy_cells (w.drewN q) 73 73 ty 26 b i (n - 1 - i) (c - i) ⟨vb, 0, none⟩ 1 vc [x] Try.underlying73 (by obtain ⟨i0, hi0, hz0, hzs, hzb⟩ := info_parts hinf; rw [hi0]; simp [hzs]) (by simp only [Nat.min_def]; split <;> simp <;> omega)
      (fun k v hk => by
        have hk0 : k = 0 := by have := (List.getElem?_eq_some_iff.1 hk).1; simp at this; omega
        subst hk0
        obtain rfl : x = v := Option.some.inj hk
        exact hx) (fun k hk => hsp _ (by simp at hk; omega)) (fun k hk => hfz _ (by simp at hk; omega)) (by simpa using h1)
  have hcp2 : ∀ (q : Nat) (W : World), (∀ a, W.cell? a = ((w.drewN q).setCells b i [x]).cell? a) → (∀ a, W.frozen? a = ((w.drewN q).setCells b i [x]).frozen? a) → ∀ ty, (Builtin.copy_ #[73, 73] ty #[.slice (some ⟨b, i + 1, none⟩) (n - 1 - (i + 1)) (c - (i + 1)), .slice (some ⟨b, j, none⟩) (n - j) (c - j)]).run Try.prog W = .ok (goInt tl.length) (W.setCells b (i + 1) tl) :=
    fun q W hWc hWf ty => run_copy_cells W 73 73 ty 26 b (i + 1) (n - 1 - (i + 1)) (c - (i + 1)) ⟨b, j, none⟩ (n - j) (c - j) tl Try.underlying73 (by obtain ⟨i0, hi0, hz0, hzs, hzb⟩ := info_parts hinf; rw [hi0]; simp [hzs]) (by rw [htl]; simp only [Nat.min_def]; split <;> omega)
      (fun k v hk => by
        rw [Addr.add_lit, hWc, World.cell?_setCells_out b _ _ _ _ (fun _ _ => .inr (by show i + 1 ≤ j + k; omega))]
        exact hcs k v hk) (fun k hk => by rw [hWc]; exact isSome_setCells b [x] i (w.drewN q) (fun t ht => hsp (i + t) (by simp only [List.length_cons, List.length_nil] at ht; omega)) _ (hsp (i + 1 + k) (by omega))) (fun k hk => by rw [hWf, World.frozen?_setCells]; exact hfz _ (by omega)) h1t
  have hb1 : (0 : Int) ≤ (i : Int) + 1 := by omega
  have hb2 : (i : Int) + 1 ≤ ((n - 1 : Nat) : Int) := by omega
  have hb3 : ¬ (c = i + 1) := by omega
  have hb4 : ((i : Int) + 1).toNat = i + 1 := by omega
  have hb5 : ¬ (c = j) := by omega
  have hb6 : ¬ (c = n - 1) := by omega
  have hcp3 : ∀ q ty, (Builtin.copy_ #[73, 73] ty #[.slice (some ⟨b, i + 1, none⟩) (n - 1 - (i + 1)) (c - (i + 1)), .slice (some ⟨b, j, none⟩) (n - j) (c - j)]).run Try.prog ((w.drewN q).setCells b i [x]).drew = .ok (goInt tl.length) (((w.drewN q).setCells b i [x]).drew.setCells b (i + 1) tl) := fun q ty => hcp2 q ((w.drewN q).setCells b i [x]).drew (fun _ => rfl) (fun _ => rfl) ty
  have hcl : ∀ q ty, (Builtin.clear_ #[73] ty #[.slice (some ⟨b, n - 1, none⟩) (n - (n - 1)) (c - (n - 1))]).run Try.prog (((w.drewN q).setCells b i [x]).drew.setCells b (i + 1) tl) = .ok (.tuple #[]) ((((w.drewN q).setCells b i [x]).drew.setCells b (i + 1) tl).setCells b (n - 1) (List.replicate (n - (n - 1)) (.slice none 0 0))) :=
    fun q ty => Lib.run_clear_slice _ 73 26 ty (.slice none 0 0) Try.underlying73 (fun w => by kernel_rfl) rfl rfl b (n - 1) (n - (n - 1)) _ (by omega)
      (fun k hk => isSome_setCells b tl (i + 1) ((w.drewN q).setCells b i [x]).drew (fun t ht => isSome_setCells b [x] i (w.drewN q) (fun t ht => hsp (i + t) (by simp only [List.length_cons, List.length_nil] at ht; omega)) (i + 1 + t) (hsp (i + 1 + t) (by omega))) (n - 1 + k)
        (isSome_setCells b [x] i (w.drewN q) (fun t ht => hsp (i + t) (by simp only [List.length_cons, List.length_nil] at ht; omega)) (n - 1 + k) (hsp (n - 1 + k) (by omega))))
      (fun k hk => by rw [World.frozen?_setCells]; show ((w.drewN q).setCells b i [x]).frozen? _ = false; rw [World.frozen?_setCells]; exact hfz _ (by omega))
  go_enter Try.func130, Try.ntmps130
  go_wp2
  go_quiet (fail)
  go_wp2
  go_region
  go_wp2
  go_ret
  refine ⟨rfl, nq, ?_⟩
  rw [show n - (n - 1) = 1 by omega]; rfl

theorem repl_main (b n c i j vb vc : Nat) (x : Value) (tl : List Value) (w : World) (hj : i + 2 = j) (hjn : j ≤ n) (hn1 : n ≤ 1099511627776) (hnc : n ≤ c) (hc : c ≤ 9223372036854775807) (htl : tl.length = n - j)
    (hsp : ∀ j, j < c → (w.cell? ⟨b, j, none⟩).isSome = true) (hfz : ∀ j, j < c → w.frozen? ⟨b, j, none⟩ = false) (hx : w.cell? ⟨vb, 0, none⟩ = some x) (h1 : x.oneCell' = true)
    (hcs : ∀ k v, tl[k]? = some v → w.cell? ⟨b, j + k, none⟩ = some v) (h1t : ∀ v ∈ tl, v.oneCell' = true) :
    Calls Try.prog 130 #[.slice (some ⟨b, 0, none⟩) n c, .int .i64 i, .int .i64 j, .slice (some ⟨vb, 0, none⟩) 1 vc] w fun e w' => e = .returned (.slice (some ⟨b, 0, none⟩) (n - 1) c) ∧
      ∃ W1 W3, Go.Dn.LikeW W1 w ∧ Go.Dn.LikeW W3 (W1.setCells b i [x]) ∧ w' = (W3.setCells b (i + 1) tl).setCells b (n - 1) [.slice none 0 0] := by
  by_cases hlt : j < n
  · exact (repl_mid b n c i j vb vc x tl w hj hlt hn1 hnc hc htl hsp hfz hx h1 hcs h1t).mono fun e w' ⟨h2, q, h3⟩ => ⟨h2, w.drewN q, ((w.drewN q).setCells b i [x]).drew, ⟨rfl, rfl, rfl, rfl⟩, ⟨rfl, rfl, rfl, rfl⟩, h3⟩
  · obtain rfl : j = n := by omega
    obtain rfl : tl = [] := List.eq_nil_of_length_eq_zero (by omega)
    refine (repl_end b j c i vb vc x w hj hn1 hnc hc hsp hfz hx h1).mono fun e w' ⟨h2, h3⟩ => ⟨h2, w, w.setCells b i [x], ⟨rfl, rfl, rfl, rfl⟩, ⟨rfl, rfl, rfl, rfl⟩, ?_⟩
    rw [h3, show j - 1 = i + 1 by omega]; rfl
end

noncomputable def f_slices_Replace_Hunk (t0 : PV S_S_impl_Hunk) (t1 : PV (.int .i64)) (t2 : PV (.int .i64)) (t3 : PV S_S_impl_Hunk) : Option (PVs [S_S_impl_Hunk] × PVs []) := Go.Dn.replF (α := PV S_impl_Hunk) t0 t1 t2 t3
noncomputable def ct_slices_Replace_Hunk : Ct := ⟨[(.own, S_S_impl_Hunk), (.bor, .int .i64), (.bor, .int .i64), (.own, S_S_impl_Hunk)], [(S_S_impl_Hunk, (.row (.row (.pr .b (.pr .b (.pr (.row .b) .b))))))], fun x => f_slices_Replace_Hunk x.1 x.2.1 x.2.2.1 x.2.2.2.1⟩
theorem ok_slices_Replace_Hunk : FnOk gl Try.prog 130 ct_slices_Replace_Hunk := Go.Dn.repl_ok rfl ⟨_, Try.func130, rfl, by kernel_rfl⟩ (.slice none 0 0) repl_main
noncomputable def f_slices_Clone_sint (t0 : PV S_S_int) : Option (PVs [S_S_int] × PVs []) := bif roomB ((([] : PV S_S_int)).length + t0.length) then some ((([] : PV S_S_int) ++ t0, ()), ()) else none
noncomputable def ct_slices_Clone_sint : Ct := ⟨[(.bor, S_S_int)], [(S_S_int, (.row .b))], fun x => f_slices_Clone_sint x.1⟩
noncomputable def pl_slices_Clone_sint : Plan := ⟨[], [], 0, 0⟩
noncomputable def cx_slices_Clone_sint : Cx := ⟨tab, arrs, [], [], gl, []⟩
theorem ok_slices_Clone_sint : FnOk gl Try.prog 210 ct_slices_Clone_sint :=
  fnOk_nil' (cx := cx_slices_Clone_sint) (pl := pl_slices_Clone_sint) (dp := 0) (t3 := 3) (te := 163) (T := S_int) (ok0_of tabOk (by unfold ArrOk; kernel_rfl) mix trivial trivial) Try.func210 (fn := Try.f210) (rvs := Try.f210.results.toList) rfl (by kernel_rfl) (by kernel_rfl) (by kernel_rfl) rfl rfl rfl rfl Try.underlying186 ⟨⟨⟨trivial, trivial⟩, trivial⟩, ⟨trivial, trivial⟩⟩ (fun x => by kernel_rfl) (fun x => by kernel_rfl) (fun x => by kernel_rfl) (fun x => by kernel_rfl) (by kernel_rfl)
def lays_strings_Contains_ren : Go.Shelf.Ren := ⟨fun | 0 => 0 | 1 => 1 | 2 => 2 | 99 => 159 | 100 => 191 | 102 => 199 | 143 => 226 | 144 => 215 | 156 => 115 | 165 => 172 | 166 => 173 | 169 => 174 | 193 => 203 | 206 => 198 | 207 => 216 | 209 => 218 | 212 => 219 | 217 => 231 | 219 => 230 | 224 => 233 | 225 => 232 | 240 => 207 | 241 => 208 | 263 => 228 | 264 => 229 | 266 => 235 | 267 => 234 | 276 => 222 | 277 => 223 | 314 => 236 | 347 => 237 | 348 => 238 | 349 => 239 | 350 => 240 | 351 => 241 | 352 => 242 | 353 => 243 | 354 => 244 | 355 => 245 | 356 => 246 | 357 => 247 | 358 => 248 | 359 => 249 | 360 => 250 | 361 => 251 | 362 => 253 | 366 => 254 | n => n, fun | 0 => 0 | 1 => 1 | 2 => 2 | 3 => 3 | 4 => 4 | 5 => 5 | 6 => 6 | 7 => 7 | 8 => 8 | 9 => 9 | 10 => 10 | 11 => 11 | 12 => 12 | 13 => 13 | 14 => 14 | 15 => 15 | 16 => 16 | 17 => 17 | 18 => 18 | 19 => 19 | 20 => 20 | 21 => 21 | 22 => 161 | 23 => 197 | 24 => 66 | 27 => 217 | 28 => 163 | 31 => 22 | 37 => 47 | 38 => 48 | 43 => 110 | 46 => 202 | 51 => 219 | 53 => 122 | 55 => 224 | 67 => 138 | 69 => 162 | 70 => 174 | 71 => 175 | 72 => 176 | 73 => 177 | 74 => 178 | 75 => 179 | 76 => 180 | 77 => 181 | 80 => 182 | 81 => 173 | 83 => 103 | 100 => 218 | 101 => 32 | 102 => 29 | 104 => 154 | 109 => 210 | 110 => 211 | 111 => 153 | 114 => 134 | 127 => 203 | 131 => 63 | 146 => 220 | 147 => 221 | 148 => 222 | 149 => 223 | 151 => 225 | 164 => 212 | 165 => 213 | 166 => 214 | 238 => 226 | 239 => 227 | 240 => 228 | 241 => 229 | 242 => 230 | 243 => 231 | 244 => 232 | 245 => 233 | 246 => 234 | 247 => 235 | 248 => 236 | 249 => 237 | n => n, fun | 1 => 0 | n => n⟩
theorem lays_strings_Contains : Go.Proofs.Lays.n144 Try.prog lays_strings_Contains_ren where
  mixed := by kernel_rfl
  f143 := Try.func226.trans (congrArg some (by kernel_rfl))
  f144 := Try.func215.trans (congrArg some (by kernel_rfl))
  f217 := Try.func231.trans (congrArg some (by kernel_rfl))
  f219 := Try.func230.trans (congrArg some (by kernel_rfl))
  f224 := Try.func233.trans (congrArg some (by kernel_rfl))
  f225 := Try.func232.trans (congrArg some (by kernel_rfl))
  f266 := Try.func235.trans (congrArg some (by kernel_rfl))
  f267 := Try.func234.trans (congrArg some (by kernel_rfl))
  f314 := Try.func236.trans (congrArg some (by kernel_rfl))
  t3 := Try.underlying3
  a3 := Try.isAgg3
  z3 := Try.sizeOf3
  v3 := Try.zeroValue3
  t4 := Try.underlying4
  a4 := Try.isAgg4
  z4 := Try.sizeOf4
  v4 := Try.zeroValue4
  t5 := Try.underlying5
  a5 := Try.isAgg5
  z5 := Try.sizeOf5
  v5 := Try.zeroValue5
  t9 := Try.underlying9
  a9 := Try.isAgg9
  z9 := Try.sizeOf9
  v9 := Try.zeroValue9
  t46 := Try.underlying202
  a46 := Try.isAgg202
  z46 := Try.sizeOf202
  v46 := Try.zeroValue202
  t51 := Try.underlying219
  a51 := Try.isAgg219
  z51 := Try.sizeOf219
  v51 := Try.zeroValue219
  t146 := Try.underlying220
  a146 := Try.isAgg220
  z146 := Try.sizeOf220
  v146 := Try.zeroValue220
  g1 := by kernel_rfl
noncomputable def f_strings_Contains (t0 : PV .str) (t1 : PV .str) : Option (PVs [.bool] × PVs []) := Go.Dn.containsF t0 t1
noncomputable def ct_strings_Contains : Ct := ⟨[(.bor, .str), (.bor, .str)], [(.bool, .b)], fun x => f_strings_Contains x.1 x.2.1⟩
theorem ok_strings_Contains : FnOk gl Try.prog 215 ct_strings_Contains := Go.Dn.contains_ok  lays_strings_Contains
section
open Go.RowKit
set_option maxHeartbeats 1000000 in
set_option maxRecDepth 100000 in
theorem cop_main (v : Value) (w : World) (n : Nat) (I : Option Addr → Nat → Nat → World → Prop) (hn : (n : Int) ≤ 1099511627776)
    (hC : Calls Try.prog 145 #[v] w fun e w' => ∃ A cap, e = .returned (.slice A n cap) ∧ I A cap 0 w')
    (hI : ∀ A cap i w, i < n → I A cap i w → ∃ (g : Nat) (a b : Int) (A2 : Option Addr) (l c : Nat), A = some ⟨g, 0, none⟩ ∧ w.cell? ⟨g, i * 3, none⟩ = some (.int .i64 a) ∧ w.cell? ⟨g, i * 3 + 1, none⟩ = some (.int .i64 b) ∧ w.cell? ⟨g, i * 3 + 2, none⟩ = some (.slice A2 l c) ∧
      Calls Try.prog 97 #[.slice A2 l c] (w.alloc (.cells #[.int .i64 a, .int .i64 b, .slice A2 l c] 95)) fun e w' => ∃ A3 c3 B2 l4 c4, e = .returned (.slice A3 l c3) ∧ w'.cell? ⟨g, i * 3 + 2, none⟩ = some (.slice B2 l4 c4) ∧
        w'.frozen? ⟨g, i * 3 + 2, none⟩ = false ∧ I A cap (i + 1) (w'.setCell ⟨g, i * 3 + 2, none⟩ (.slice A3 l c3))) :
    Calls Try.prog 75 #[v] w fun e w' => ∃ A cap, e = .returned (.slice A n cap) ∧ I A cap n w' := by
  go_enter Try.func75, Try.ntmps75
  go_wp2_with (go_at_fn 145; go_fit hC; rintro e w' ⟨A, cap, rfl, hw⟩)
  refine hC.mono ?_
  rintro e w1 ⟨A, cap, rfl, hw⟩
  go_wp2
  go_loopw [10] (fun s10 wr => ∃ i : Nat, i ≤ n ∧ s10 = .int .i64 i ∧ I A cap i wr) (fun s10 _ => n - (Go.RowKit.intOf s10).toNat)
  case atStart => exact ⟨0, Nat.zero_le _, rfl, hw⟩
  case round =>
    obtain ⟨i, hi, rfl, hr⟩ := hrel
    by_cases hlt : i < n
    · obtain ⟨g, a, b, A2, l, c, rfl, h1, h2, h3, hD⟩ := hI A cap i _ hlt hr
      have hz : (i : Int) < (n : Int) := by omega
      go_wp2_with (go_at_fn 97; go_fit hD; rintro e w' ⟨v', rfl, hw⟩)
      refine hD.mono ?_
      rintro e w2 ⟨A3, c3, B2, l4, c4, rfl, k1, k2, k3⟩
      go_wp2
      exact ⟨⟨i + 1, hlt, by simp, k3⟩, by simp [Go.RowKit.intOf]; omega⟩
    · have hz : ¬ (i : Int) < (n : Int) := by omega
      obtain rfl : i = n := by omega
      go_wp2
      go_ret
      exact ⟨A, cap, rfl, hr⟩
end

noncomputable def f_slices_Clone_Hunk (t0 : PV S_impl_Hunk) : Option (PVs [S_impl_Hunk] × PVs []) := bif roomB ((([] : PV S_impl_Hunk)).length + t0.length) then some ((([] : PV S_impl_Hunk) ++ t0, ()), ()) else none
noncomputable def ct_slices_Clone_Hunk : Ct := ⟨[(.bor, S_impl_Hunk)], [(S_impl_Hunk, (.row (.pr .b (.pr .b (.pr .b .b)))))], fun x => f_slices_Clone_Hunk x.1⟩
noncomputable def pl_slices_Clone_Hunk : Plan := ⟨[], [], 0, 0⟩
noncomputable def cx_slices_Clone_Hunk : Cx := ⟨tab, arrs, [], [], gl, []⟩
theorem ok_slices_Clone_Hunk : FnOk gl Try.prog 145 ct_slices_Clone_Hunk :=
  fnOk_nil' (cx := cx_slices_Clone_Hunk) (pl := pl_slices_Clone_Hunk) (dp := 0) (t3 := 3) (te := 95) (T := Y_impl_Hunk) (ok0_of tabOk (by unfold ArrOk; kernel_rfl) mix trivial trivial) Try.func145 (fn := Try.f145) (rvs := Try.f145.results.toList) rfl (by kernel_rfl) (by kernel_rfl) (by kernel_rfl) rfl rfl rfl rfl Try.underlying26 ⟨⟨⟨trivial, trivial⟩, trivial⟩, ⟨trivial, trivial⟩⟩ (fun x => by kernel_rfl) (fun x => by kernel_rfl) (fun x => by kernel_rfl) (fun x => by kernel_rfl) (by kernel_rfl)

noncomputable def f_I_copiedHunks (t0 : PV S_impl_Hunk) : Option (PVs [S_impl_Hunk] × PVs []) := Go.Dn.copF 95 9 t0
noncomputable def ct_I_copiedHunks : Ct := ⟨[(.bor, S_impl_Hunk)], [(S_impl_Hunk, (.row (.pr .b (.pr .b (.pr (.row .b) .b)))))], fun x => f_I_copiedHunks x.1⟩
theorem ok_I_copiedHunks : FnOk gl Try.prog 75 ct_I_copiedHunks := Go.Dn.cop_ok (kC := 145) (kD := 97) ⟨_, Try.func75, rfl, by kernel_rfl⟩ ok_slices_Clone_Hunk ok_slices_Clone_string cop_main
noncomputable def sh_L_markText_4 : List Sh := mkSh 20 [(0, .val (.int .i64) .b), (3, .val .str .b)]
noncomputable def o_L_markText_4 : List Out := [⟨.exit 0, ⟨[], [3], []⟩, mkSh 20 [(3, .val .str .b)]⟩]
noncomputable def b_L_markText_4 (t0 : PV (.int .i64)) (t3 : PV .str) : Option ((PV (.int .i64) × PV .str × Unit) ⊕ ((PV .str × Unit))) :=
  bif (decide (t0 > 0)) then
    bif 10 == 0 then
      none
    else
      bif decide ((bytesOfInts [(IntKind.wrap .u8 (IntKind.wrap .i64 (48 + (t0.tmod 10))))]).length + t3.length ≤ 1099511627776) then
        bif 10 == 0 then
          none
        else
          some (.inl ((IntKind.wrap .i64 (t0.tdiv 10)), ((bytesOfInts [(IntKind.wrap .u8 (IntKind.wrap .i64 (48 + (t0.tmod 10))))]) ++ t3), ()))
      else
        none
  else
    some (.inr (t3, ()))
noncomputable def w_L_markText_4 : PV (.int .i64) × PV .str × Unit → Option ((PV .str × Unit)) := fix fun d => b_L_markText_4 d.1 d.2.1
noncomputable def lp_L_markText_4 : Lp := ⟨⟨[], [0, 3], []⟩, sh_L_markText_4, o_L_markText_4, fun d => b_L_markText_4 d.1 d.2.1⟩
noncomputable def pl_L_markText : Plan := ⟨[], [(4, lp_L_markText_4)], 0, 0⟩
noncomputable def f_L_markText (t0 : PV (.int .i64)) : Option (PVs [.str] × PVs []) :=
  bif (decide (t0 ≤ 0)) then
    some (([109, 48], ()), ())
  else
    (w_L_markText_4 (t0, [], ())).bind fun l2 =>
      bif decide ([109].length + l2.1.length ≤ 1099511627776) then
        some ((([109] ++ l2.1), ()), ())
      else
        none
noncomputable def ct_L_markText : Ct := ⟨[(.bor, (.int .i64))], [(.str, .b)], fun x => f_L_markText x.1⟩
noncomputable def cx_L_markText : Cx := ⟨tab, arrs, [], [], gl, []⟩
theorem eb_L_markText_4 (t0 : PV (.int .i64)) (t3 : PV .str) : denK cx_L_markText (rcN cx_L_markText 0) pl_L_markText 0 ((loopsOf (bodyOf Try.f82)).getD 0 .skip) (fillS sh_L_markText_4 (t0, t3, ())) (roundK 0 lp_L_markText_4) = b_L_markText_4 t0 t3 := by kernel_rfl
theorem ef_L_markText (t0 : PV (.int .i64)) : denF cx_L_markText 0 pl_L_markText Try.f82.ntmps (bodyOf Try.f82) Try.f82.results.toList [(.bor, (.int .i64))] [(.str, .b)] (t0, ()) = f_L_markText t0 := by kernel_rfl
theorem ok_L_markText : FnOk gl Try.prog 82 ct_L_markText :=
  fnOk (cx := cx_L_markText) (pl := pl_L_markText) (dp := 0) (ok0_of tabOk (by unfold ArrOk; kernel_rfl) mix trivial trivial) Try.func82 (by kernel_rfl) (by kernel_rfl) (by kernel_rfl)
    (by rw [show loopsOf (bodyOf Try.f82) = [((loopsOf (bodyOf Try.f82)).getD 0 .skip)] from by kernel_rfl]; exact ⟨(by rw [show lookup pl_L_markText.loops (firstId ((loopsOf (bodyOf Try.f82)).getD 0 .skip)) = some lp_L_markText_4 from by kernel_rfl]; exact fun d z h => (eb_L_markText_4 d.1 d.2.1).trans h), trivial⟩) (fun x => ef_L_markText x.1)
noncomputable def sh_L_markStringS_2 : List Sh := mkSh 21 [(0, .val S_string (.row .b)), (1, .sub ⟨0, [], 0, 0⟩), (2, .val (.int .i64) .b), (6, .val (.int .i64) .b)]
noncomputable def o_L_markStringS_2 : List Out := [⟨.exit 0, ⟨[], [1], []⟩, mkSh 21 [(0, .val S_string (.row .b)), (2, .val (.int .i64) .b)]⟩]
noncomputable def b_L_markStringS_2 (t0 : PV S_string) (t2 : PV (.int .i64)) (t6 : PV (.int .i64)) : Option ((PV S_string × PV (.int .i64) × PV (.int .i64) × Unit) ⊕ ((PV S_string × PV (.int .i64) × Unit))) :=
  bif (decide (t6 < (t0.length : Int))) then
    (f_L_markText t2).bind fun r4 =>
      bif inB t6 t0.length then
        some (.inl ((t0.set t6.toNat r4.1.1), (IntKind.wrap .i64 (t2 + 1)), (IntKind.wrap .i64 (t6 + 1)), ()))
      else
        none
  else
    some (.inr (t0, t2, ()))
noncomputable def w_L_markStringS_2 : PV S_string × PV (.int .i64) × PV (.int .i64) × Unit → Option ((PV S_string × PV (.int .i64) × Unit)) := fix fun d => b_L_markStringS_2 d.1 d.2.1 d.2.2.1
noncomputable def lp_L_markStringS_2 : Lp := ⟨⟨[], [0, 1, 5], []⟩, sh_L_markStringS_2, o_L_markStringS_2, fun d => b_L_markStringS_2 d.1 d.2.1 d.2.2.1⟩
noncomputable def pl_L_markStringS : Plan := ⟨[], [(2, lp_L_markStringS_2)], 0, 1⟩
noncomputable def f_L_markStringS (t0 : PV S_string) (t1 : PV (.int .i64)) : Option (PVs [(.int .i64)] × PVs [S_string]) :=
  (w_L_markStringS_2 (t0, t1, 0, ())).bind fun l6 =>
    some ((l6.2.1, ()), (l6.1, ()))
noncomputable def ct_L_markStringS : Ct := ⟨[(.mut, S_string), (.bor, (.int .i64))], [((.int .i64), .b)], fun x => f_L_markStringS x.1 x.2.1⟩
noncomputable def cx_L_markStringS : Cx := ⟨tab, arrs, [(82, ct_L_markText)], [], gl, []⟩
theorem eb_L_markStringS_2 (t0 : PV S_string) (t2 : PV (.int .i64)) (t6 : PV (.int .i64)) : denK cx_L_markStringS (rcN cx_L_markStringS 0) pl_L_markStringS 1 ((loopsOf (bodyOf Try.f18)).getD 0 .skip) (fillS sh_L_markStringS_2 (t0, t2, t6, ())) (roundK 1 lp_L_markStringS_2) = b_L_markStringS_2 t0 t2 t6 := by kernel_rfl
theorem ef_L_markStringS (t0 : PV S_string) (t1 : PV (.int .i64)) : denF cx_L_markStringS 0 pl_L_markStringS Try.f18.ntmps (bodyOf Try.f18) Try.f18.results.toList [(.mut, S_string), (.bor, (.int .i64))] [((.int .i64), .b)] (t0, t1, ()) = f_L_markStringS t0 t1 := by kernel_rfl
theorem ok_L_markStringS : FnOk gl Try.prog 18 ct_L_markStringS :=
  fnOk (cx := cx_L_markStringS) (pl := pl_L_markStringS) (dp := 0) (ok0_of tabOk (by unfold ArrOk; kernel_rfl) mix ⟨ok_L_markText, trivial⟩ trivial) Try.func18 (by kernel_rfl) (by kernel_rfl) (by kernel_rfl)
    (by rw [show loopsOf (bodyOf Try.f18) = [((loopsOf (bodyOf Try.f18)).getD 0 .skip)] from by kernel_rfl]; exact ⟨(by rw [show lookup pl_L_markStringS.loops (firstId ((loopsOf (bodyOf Try.f18)).getD 0 .skip)) = some lp_L_markStringS_2 from by kernel_rfl]; exact fun d z h => (eb_L_markStringS_2 d.1 d.2.1 d.2.2.1).trans h), trivial⟩) (fun x => ef_L_markStringS x.1 x.2.1)
noncomputable def sh_L_markHunkS_2 : List Sh := mkSh 35 [(0, .val S_impl_Hunk (.row (.pr .b (.pr .b (.pr (.row .b) .b))))), (1, .sub ⟨0, [], 0, 0⟩), (2, .val (.int .i64) .b), (6, .val (.int .i64) .b)]
noncomputable def o_L_markHunkS_2 : List Out := [⟨.exit 0, ⟨[], [1], []⟩, mkSh 35 [(0, .val S_impl_Hunk (.row (.pr .b (.pr .b (.pr (.row .b) .b))))), (2, .val (.int .i64) .b)]⟩]
noncomputable def b_L_markHunkS_2 (t0 : PV S_impl_Hunk) (t2 : PV (.int .i64)) (t6 : PV (.int .i64)) : Option ((PV S_impl_Hunk × PV (.int .i64) × PV (.int .i64) × Unit) ⊕ ((PV S_impl_Hunk × PV (.int .i64) × Unit))) :=
  bif (decide (t6 < (t0.length : Int))) then
    bif inB t6 t0.length then
      bif inB t6 (t0.set t6.toNat (t2, (t0.getD t6.toNat (dflt Y_impl_Hunk)).2)).length then
        bif inB t6 ((t0.set t6.toNat (t2, (t0.getD t6.toNat (dflt Y_impl_Hunk)).2)).set t6.toNat (((t0.set t6.toNat (t2, (t0.getD t6.toNat (dflt Y_impl_Hunk)).2)).getD t6.toNat (dflt Y_impl_Hunk)).1, ((IntKind.wrap .i64 (t2 + 1)), (((t0.set t6.toNat (t2, (t0.getD t6.toNat (dflt Y_impl_Hunk)).2)).getD t6.toNat (dflt Y_impl_Hunk)).2).2))).length then
          (f_L_markStringS ((((((t0.set t6.toNat (t2, (t0.getD t6.toNat (dflt Y_impl_Hunk)).2)).set t6.toNat (((t0.set t6.toNat (t2, (t0.getD t6.toNat (dflt Y_impl_Hunk)).2)).getD t6.toNat (dflt Y_impl_Hunk)).1, ((IntKind.wrap .i64 (t2 + 1)), (((t0.set t6.toNat (t2, (t0.getD t6.toNat (dflt Y_impl_Hunk)).2)).getD t6.toNat (dflt Y_impl_Hunk)).2).2))).getD t6.toNat (dflt Y_impl_Hunk)).2).2).1) (IntKind.wrap .i64 ((IntKind.wrap .i64 (t2 + 1)) + 1))).bind fun r2 =>
            some (.inl ((((t0.set t6.toNat (t2, (t0.getD t6.toNat (dflt Y_impl_Hunk)).2)).set t6.toNat (((t0.set t6.toNat (t2, (t0.getD t6.toNat (dflt Y_impl_Hunk)).2)).getD t6.toNat (dflt Y_impl_Hunk)).1, ((IntKind.wrap .i64 (t2 + 1)), (((t0.set t6.toNat (t2, (t0.getD t6.toNat (dflt Y_impl_Hunk)).2)).getD t6.toNat (dflt Y_impl_Hunk)).2).2))).set t6.toNat ((((t0.set t6.toNat (t2, (t0.getD t6.toNat (dflt Y_impl_Hunk)).2)).set t6.toNat (((t0.set t6.toNat (t2, (t0.getD t6.toNat (dflt Y_impl_Hunk)).2)).getD t6.toNat (dflt Y_impl_Hunk)).1, ((IntKind.wrap .i64 (t2 + 1)), (((t0.set t6.toNat (t2, (t0.getD t6.toNat (dflt Y_impl_Hunk)).2)).getD t6.toNat (dflt Y_impl_Hunk)).2).2))).getD t6.toNat (dflt Y_impl_Hunk)).1, (((((t0.set t6.toNat (t2, (t0.getD t6.toNat (dflt Y_impl_Hunk)).2)).set t6.toNat (((t0.set t6.toNat (t2, (t0.getD t6.toNat (dflt Y_impl_Hunk)).2)).getD t6.toNat (dflt Y_impl_Hunk)).1, ((IntKind.wrap .i64 (t2 + 1)), (((t0.set t6.toNat (t2, (t0.getD t6.toNat (dflt Y_impl_Hunk)).2)).getD t6.toNat (dflt Y_impl_Hunk)).2).2))).getD t6.toNat (dflt Y_impl_Hunk)).2).1, (r2.2.1, (((((t0.set t6.toNat (t2, (t0.getD t6.toNat (dflt Y_impl_Hunk)).2)).set t6.toNat (((t0.set t6.toNat (t2, (t0.getD t6.toNat (dflt Y_impl_Hunk)).2)).getD t6.toNat (dflt Y_impl_Hunk)).1, ((IntKind.wrap .i64 (t2 + 1)), (((t0.set t6.toNat (t2, (t0.getD t6.toNat (dflt Y_impl_Hunk)).2)).getD t6.toNat (dflt Y_impl_Hunk)).2).2))).getD t6.toNat (dflt Y_impl_Hunk)).2).2).2)))), r2.1.1, (IntKind.wrap .i64 (t6 + 1)), ()))
        else
          none
      else
        none
    else
      none
  else
    some (.inr (t0, t2, ()))
noncomputable def w_L_markHunkS_2 : PV S_impl_Hunk × PV (.int .i64) × PV (.int .i64) × Unit → Option ((PV S_impl_Hunk × PV (.int .i64) × Unit)) := fix fun d => b_L_markHunkS_2 d.1 d.2.1 d.2.2.1
noncomputable def lp_L_markHunkS_2 : Lp := ⟨⟨[], [0, 1, 5], []⟩, sh_L_markHunkS_2, o_L_markHunkS_2, fun d => b_L_markHunkS_2 d.1 d.2.1 d.2.2.1⟩
noncomputable def pl_L_markHunkS : Plan := ⟨[], [(2, lp_L_markHunkS_2)], 0, 1⟩
noncomputable def f_L_markHunkS (t0 : PV S_impl_Hunk) (t1 : PV (.int .i64)) : Option (PVs [(.int .i64)] × PVs [S_impl_Hunk]) :=
  (w_L_markHunkS_2 (t0, t1, 0, ())).bind fun l4 =>
    some ((l4.2.1, ()), (l4.1, ()))
noncomputable def ct_L_markHunkS : Ct := ⟨[(.mut, S_impl_Hunk), (.bor, (.int .i64))], [((.int .i64), .b)], fun x => f_L_markHunkS x.1 x.2.1⟩
noncomputable def cx_L_markHunkS : Cx := ⟨tab, arrs, [(18, ct_L_markStringS)], [], gl, []⟩
theorem eb_L_markHunkS_2 (t0 : PV S_impl_Hunk) (t2 : PV (.int .i64)) (t6 : PV (.int .i64)) : denK cx_L_markHunkS (rcN cx_L_markHunkS 0) pl_L_markHunkS 1 ((loopsOf (bodyOf Try.f19)).getD 0 .skip) (fillS sh_L_markHunkS_2 (t0, t2, t6, ())) (roundK 1 lp_L_markHunkS_2) = b_L_markHunkS_2 t0 t2 t6 := by kernel_rfl
theorem ef_L_markHunkS (t0 : PV S_impl_Hunk) (t1 : PV (.int .i64)) : denF cx_L_markHunkS 0 pl_L_markHunkS Try.f19.ntmps (bodyOf Try.f19) Try.f19.results.toList [(.mut, S_impl_Hunk), (.bor, (.int .i64))] [((.int .i64), .b)] (t0, t1, ()) = f_L_markHunkS t0 t1 := by kernel_rfl
theorem ok_L_markHunkS : FnOk gl Try.prog 19 ct_L_markHunkS :=
  fnOk (cx := cx_L_markHunkS) (pl := pl_L_markHunkS) (dp := 0) (ok0_of tabOk (by unfold ArrOk; kernel_rfl) mix ⟨ok_L_markStringS, trivial⟩ trivial) Try.func19 (by kernel_rfl) (by kernel_rfl) (by kernel_rfl)
    (by rw [show loopsOf (bodyOf Try.f19) = [((loopsOf (bodyOf Try.f19)).getD 0 .skip)] from by kernel_rfl]; exact ⟨(by rw [show lookup pl_L_markHunkS.loops (firstId ((loopsOf (bodyOf Try.f19)).getD 0 .skip)) = some lp_L_markHunkS_2 from by kernel_rfl]; exact fun d z h => (eb_L_markHunkS_2 d.1 d.2.1 d.2.2.1).trans h), trivial⟩) (fun x => ef_L_markHunkS x.1 x.2.1)
noncomputable def sh_L_markHunkSS_2 : List Sh := mkSh 20 [(0, .val S_S_impl_Hunk (.row (.row (.pr .b (.pr .b (.pr (.row .b) .b)))))), (1, .sub ⟨0, [], 0, 0⟩), (2, .val (.int .i64) .b), (6, .val (.int .i64) .b)]
noncomputable def o_L_markHunkSS_2 : List Out := [⟨.exit 0, ⟨[], [1], []⟩, mkSh 20 [(0, .val S_S_impl_Hunk (.row (.row (.pr .b (.pr .b (.pr (.row .b) .b)))))), (2, .val (.int .i64) .b)]⟩]
noncomputable def b_L_markHunkSS_2 (t0 : PV S_S_impl_Hunk) (t2 : PV (.int .i64)) (t6 : PV (.int .i64)) : Option ((PV S_S_impl_Hunk × PV (.int .i64) × PV (.int .i64) × Unit) ⊕ ((PV S_S_impl_Hunk × PV (.int .i64) × Unit))) :=
  bif (decide (t6 < (t0.length : Int))) then
    bif inB t6 t0.length then
      (f_L_markHunkS (t0.getD t6.toNat []) t2).bind fun r2 =>
        some (.inl ((t0.set t6.toNat r2.2.1), r2.1.1, (IntKind.wrap .i64 (t6 + 1)), ()))
    else
      none
  else
    some (.inr (t0, t2, ()))
noncomputable def w_L_markHunkSS_2 : PV S_S_impl_Hunk × PV (.int .i64) × PV (.int .i64) × Unit → Option ((PV S_S_impl_Hunk × PV (.int .i64) × Unit)) := fix fun d => b_L_markHunkSS_2 d.1 d.2.1 d.2.2.1
noncomputable def lp_L_markHunkSS_2 : Lp := ⟨⟨[], [0, 1, 5], []⟩, sh_L_markHunkSS_2, o_L_markHunkSS_2, fun d => b_L_markHunkSS_2 d.1 d.2.1 d.2.2.1⟩
noncomputable def pl_L_markHunkSS : Plan := ⟨[], [(2, lp_L_markHunkSS_2)], 0, 1⟩
noncomputable def f_L_markHunkSS (t0 : PV S_S_impl_Hunk) (t1 : PV (.int .i64)) : Option (PVs [(.int .i64)] × PVs [S_S_impl_Hunk]) :=
  (w_L_markHunkSS_2 (t0, t1, 0, ())).bind fun l4 =>
    some ((l4.2.1, ()), (l4.1, ()))
noncomputable def ct_L_markHunkSS : Ct := ⟨[(.mut, S_S_impl_Hunk), (.bor, (.int .i64))], [((.int .i64), .b)], fun x => f_L_markHunkSS x.1 x.2.1⟩
noncomputable def cx_L_markHunkSS : Cx := ⟨tab, arrs, [(19, ct_L_markHunkS)], [], gl, []⟩
theorem eb_L_markHunkSS_2 (t0 : PV S_S_impl_Hunk) (t2 : PV (.int .i64)) (t6 : PV (.int .i64)) : denK cx_L_markHunkSS (rcN cx_L_markHunkSS 0) pl_L_markHunkSS 1 ((loopsOf (bodyOf Try.f132)).getD 0 .skip) (fillS sh_L_markHunkSS_2 (t0, t2, t6, ())) (roundK 1 lp_L_markHunkSS_2) = b_L_markHunkSS_2 t0 t2 t6 := by kernel_rfl
theorem ef_L_markHunkSS (t0 : PV S_S_impl_Hunk) (t1 : PV (.int .i64)) : denF cx_L_markHunkSS 0 pl_L_markHunkSS Try.f132.ntmps (bodyOf Try.f132) Try.f132.results.toList [(.mut, S_S_impl_Hunk), (.bor, (.int .i64))] [((.int .i64), .b)] (t0, t1, ()) = f_L_markHunkSS t0 t1 := by kernel_rfl
theorem ok_L_markHunkSS : FnOk gl Try.prog 132 ct_L_markHunkSS :=
  fnOk (cx := cx_L_markHunkSS) (pl := pl_L_markHunkSS) (dp := 0) (ok0_of tabOk (by unfold ArrOk; kernel_rfl) mix ⟨ok_L_markHunkS, trivial⟩ trivial) Try.func132 (by kernel_rfl) (by kernel_rfl) (by kernel_rfl)
    (by rw [show loopsOf (bodyOf Try.f132) = [((loopsOf (bodyOf Try.f132)).getD 0 .skip)] from by kernel_rfl]; exact ⟨(by rw [show lookup pl_L_markHunkSS.loops (firstId ((loopsOf (bodyOf Try.f132)).getD 0 .skip)) = some lp_L_markHunkSS_2 from by kernel_rfl]; exact fun d z h => (eb_L_markHunkSS_2 d.1 d.2.1 d.2.2.1).trans h), trivial⟩) (fun x => ef_L_markHunkSS x.1 x.2.1)
section
open Go.RowKit Go.Lib
set_option maxHeartbeats 4000000 in
set_option maxRecDepth 100000 in
theorem mser_main (A1 A2 : Option Addr) (l1 c1 l2 c2 : Nat) (k0 : Int) (w : World) (Q1 Q2 : Int → World → Prop)
    (hA : Calls Try.prog 18 #[.slice A1 l1 c1, .int .i64 k0] (w.alloc (.cells #[.slice A1 l1 c1, .slice A2 l2 c2] 75)) fun e w' => ∃ k1 : Int, e = .returned (.int .i64 k1) ∧ w'.cell? ⟨w.heap.size, 1, none⟩ = some (.slice A2 l2 c2) ∧ Q1 k1 w')
    (hB : ∀ k1 w', Q1 k1 w' → Calls Try.prog 132 #[.slice A2 l2 c2, .int .i64 k1] w' fun e w' => ∃ k2 : Int, e = .returned (.int .i64 k2) ∧ Q2 k2 w') :
    Calls Try.prog 59 #[.agg #[.slice A1 l1 c1, .slice A2 l2 c2], .int .i64 k0] w fun e w' => ∃ k2 : Int, e = .returned (.int .i64 k2) ∧ Q2 k2 w' := by
  go_enter Try.func59, Try.ntmps59
  go_wp2_with (go_at_fn 18; go_fit hA; rintro e w' ⟨k1, rfl, hw⟩)
  refine hA.mono ?_
  rintro e w1 ⟨k1, rfl, h1, hq⟩
  have hB' := hB k1 w1 hq
  go_wp2_with (go_at_fn 132; go_fit hB'; rintro e w' ⟨k2, rfl, hw⟩)
  refine hB'.mono ?_
  rintro e w2 ⟨k2, rfl, hq2⟩
  go_wp2
  go_ret
  exact ⟨k2, rfl, hq2⟩
end

noncomputable def f_L_markSeries (t0 : PV Y_impl_Series) (t1 : PV (.int .i64)) : Option (PVs [.int .i64] × PVs [Y_impl_Series]) := Go.Dn.mserF (eA := 9) (tA := .str) (eB := 26) (tB := S_impl_Hunk) f_L_markStringS f_L_markHunkSS t0 t1
noncomputable def ct_L_markSeries : Ct := ⟨[(.mut, Y_impl_Series), (.bor, .int .i64)], [(.int .i64, .b)], fun x => f_L_markSeries x.1 x.2.1⟩
theorem ok_L_markSeries : FnOk gl Try.prog 59 ct_L_markSeries := Go.Dn.mser_ok (fA := f_L_markStringS) (fB := f_L_markHunkSS) ⟨_, Try.func59, rfl, by kernel_rfl⟩ ok_L_markStringS ok_L_markHunkSS mser_main
noncomputable def sh_L_szStringS_5 : List Sh := mkSh 28 [(0, .val S_string .b), (1, .val (.int .i64) .b), (5, .val (.int .i64) .b)]
noncomputable def o_L_szStringS_5 : List Out := [⟨.exit 0, ⟨[], [1], []⟩, mkSh 28 [(1, .val (.int .i64) .b)]⟩, ⟨.ret, ⟨[], [4], []⟩, mkSh 28 [(4, .val (.int .i64) .b)]⟩]
noncomputable def b_L_szStringS_5 (t0 : PV S_string) (t1 : PV (.int .i64)) (t5 : PV (.int .i64)) : Option ((PV S_string × PV (.int .i64) × PV (.int .i64) × Unit) ⊕ ((PV (.int .i64) × Unit) ⊕ (PV (.int .i64) × Unit))) :=
  bif (decide (t5 < (t0.length : Int))) then
    bif inB t5 t0.length then
      bif (decide ((IntKind.wrap .i64 (t1 - ((t0.getD t5.toNat []).length : Int))) < 0)) then
        some (.inr (.inr ((-1), ())))
      else
        some (.inl (t0, (IntKind.wrap .i64 (t1 - ((t0.getD t5.toNat []).length : Int))), (IntKind.wrap .i64 (t5 + 1)), ()))
    else
      none
  else
    some (.inr (.inl (t1, ())))
noncomputable def w_L_szStringS_5 : PV S_string × PV (.int .i64) × PV (.int .i64) × Unit → Option ((PV (.int .i64) × Unit) ⊕ (PV (.int .i64) × Unit)) := fix fun d => b_L_szStringS_5 d.1 d.2.1 d.2.2.1
noncomputable def lp_L_szStringS_5 : Lp := ⟨⟨[], [0, 1, 5], []⟩, sh_L_szStringS_5, o_L_szStringS_5, fun d => b_L_szStringS_5 d.1 d.2.1 d.2.2.1⟩
noncomputable def pl_L_szStringS : Plan := ⟨[], [(5, lp_L_szStringS_5)], 0, 0⟩
noncomputable def f_L_szStringS (t0 : PV S_string) (t1 : PV (.int .i64)) : Option (PVs [(.int .i64)] × PVs []) :=
  bif (decide ((IntKind.wrap .i64 (t1 - (t0.length : Int))) < 0)) then
    some (((-1), ()), ())
  else
    (w_L_szStringS_5 (t0, (IntKind.wrap .i64 (t1 - (t0.length : Int))), 0, ())).bind fun x5 =>
      match x5 with
      | .inl l3 =>
        some ((l3.1, ()), ())
      | .inr l4 =>
        some ((l4.1, ()), ())
noncomputable def ct_L_szStringS : Ct := ⟨[(.bor, S_string), (.bor, (.int .i64))], [((.int .i64), .b)], fun x => f_L_szStringS x.1 x.2.1⟩
noncomputable def cx_L_szStringS : Cx := ⟨tab, arrs, [], [], gl, []⟩
theorem eb_L_szStringS_5 (t0 : PV S_string) (t1 : PV (.int .i64)) (t5 : PV (.int .i64)) : denK cx_L_szStringS (rcN cx_L_szStringS 0) pl_L_szStringS 0 ((loopsOf (bodyOf Try.f10)).getD 0 .skip) (fillS sh_L_szStringS_5 (t0, t1, t5, ())) (roundK 0 lp_L_szStringS_5) = b_L_szStringS_5 t0 t1 t5 := by kernel_rfl
theorem ef_L_szStringS (t0 : PV S_string) (t1 : PV (.int .i64)) : denF cx_L_szStringS 0 pl_L_szStringS Try.f10.ntmps (bodyOf Try.f10) Try.f10.results.toList [(.bor, S_string), (.bor, (.int .i64))] [((.int .i64), .b)] (t0, t1, ()) = f_L_szStringS t0 t1 := by kernel_rfl
theorem ok_L_szStringS : FnOk gl Try.prog 10 ct_L_szStringS :=
  fnOk (cx := cx_L_szStringS) (pl := pl_L_szStringS) (dp := 0) (ok0_of tabOk (by unfold ArrOk; kernel_rfl) mix trivial trivial) Try.func10 (by kernel_rfl) (by kernel_rfl) (by kernel_rfl)
    (by rw [show loopsOf (bodyOf Try.f10) = [((loopsOf (bodyOf Try.f10)).getD 0 .skip)] from by kernel_rfl]; exact ⟨(by rw [show lookup pl_L_szStringS.loops (firstId ((loopsOf (bodyOf Try.f10)).getD 0 .skip)) = some lp_L_szStringS_5 from by kernel_rfl]; exact fun d z h => (eb_L_szStringS_5 d.1 d.2.1 d.2.2.1).trans h), trivial⟩) (fun x => ef_L_szStringS x.1 x.2.1)
noncomputable def pl_L_szHunk : Plan := ⟨[], [], 0, 0⟩
noncomputable def f_L_szHunk (t0 : PV Y_impl_Hunk) (t1 : PV (.int .i64)) : Option (PVs [(.int .i64)] × PVs []) :=
  (f_L_szStringS t0.2.2.1 t1).bind fun r2 =>
    bif (decide (r2.1.1 < 0)) then
      some (((-1), ()), ())
    else
      some ((r2.1.1, ()), ())
noncomputable def ct_L_szHunk : Ct := ⟨[(.bor, Y_impl_Hunk), (.bor, (.int .i64))], [((.int .i64), .b)], fun x => f_L_szHunk x.1 x.2.1⟩
noncomputable def cx_L_szHunk : Cx := ⟨tab, arrs, [(10, ct_L_szStringS)], [], gl, []⟩
theorem ef_L_szHunk (t0 : PV Y_impl_Hunk) (t1 : PV (.int .i64)) : denF cx_L_szHunk 0 pl_L_szHunk Try.f67.ntmps (bodyOf Try.f67) Try.f67.results.toList [(.bor, Y_impl_Hunk), (.bor, (.int .i64))] [((.int .i64), .b)] (t0, t1, ()) = f_L_szHunk t0 t1 := by kernel_rfl
theorem ok_L_szHunk : FnOk gl Try.prog 67 ct_L_szHunk :=
  fnOk (cx := cx_L_szHunk) (pl := pl_L_szHunk) (dp := 0) (ok0_of tabOk (by unfold ArrOk; kernel_rfl) mix ⟨ok_L_szStringS, trivial⟩ trivial) Try.func67 (by kernel_rfl) (by kernel_rfl) (by kernel_rfl)
    (by rw [show loopsOf (bodyOf Try.f67) = [] from by kernel_rfl]; exact trivial) (fun x => ef_L_szHunk x.1 x.2.1)
noncomputable def sh_L_szHunkS_5 : List Sh := mkSh 27 [(0, .val S_laws_Hunk .b), (1, .val (.int .i64) .b), (5, .val (.int .i64) .b)]
noncomputable def o_L_szHunkS_5 : List Out := [⟨.exit 0, ⟨[], [1], []⟩, mkSh 27 [(1, .val (.int .i64) .b)]⟩, ⟨.ret, ⟨[], [4], []⟩, mkSh 27 [(4, .val (.int .i64) .b)]⟩]
noncomputable def b_L_szHunkS_5 (t0 : PV S_laws_Hunk) (t1 : PV (.int .i64)) (t5 : PV (.int .i64)) : Option ((PV S_laws_Hunk × PV (.int .i64) × PV (.int .i64) × Unit) ⊕ ((PV (.int .i64) × Unit) ⊕ (PV (.int .i64) × Unit))) :=
  bif (decide (t5 < (t0.length : Int))) then
    bif inB t5 t0.length then
      (f_L_szHunk (t0.getD t5.toNat (dflt Y_impl_Hunk)) t1).bind fun r4 =>
        bif (decide (r4.1.1 < 0)) then
          some (.inr (.inr ((-1), ())))
        else
          some (.inl (t0, r4.1.1, (IntKind.wrap .i64 (t5 + 1)), ()))
    else
      none
  else
    some (.inr (.inl (t1, ())))
noncomputable def w_L_szHunkS_5 : PV S_laws_Hunk × PV (.int .i64) × PV (.int .i64) × Unit → Option ((PV (.int .i64) × Unit) ⊕ (PV (.int .i64) × Unit)) := fix fun d => b_L_szHunkS_5 d.1 d.2.1 d.2.2.1
noncomputable def lp_L_szHunkS_5 : Lp := ⟨⟨[], [0, 1, 5], []⟩, sh_L_szHunkS_5, o_L_szHunkS_5, fun d => b_L_szHunkS_5 d.1 d.2.1 d.2.2.1⟩
noncomputable def pl_L_szHunkS : Plan := ⟨[], [(5, lp_L_szHunkS_5)], 0, 0⟩
noncomputable def f_L_szHunkS (t0 : PV S_laws_Hunk) (t1 : PV (.int .i64)) : Option (PVs [(.int .i64)] × PVs []) :=
  bif (decide ((IntKind.wrap .i64 (t1 - (t0.length : Int))) < 0)) then
    some (((-1), ()), ())
  else
    (w_L_szHunkS_5 (t0, (IntKind.wrap .i64 (t1 - (t0.length : Int))), 0, ())).bind fun x9 =>
      match x9 with
      | .inl l7 =>
        some ((l7.1, ()), ())
      | .inr l8 =>
        some ((l8.1, ()), ())
noncomputable def ct_L_szHunkS : Ct := ⟨[(.bor, S_laws_Hunk), (.bor, (.int .i64))], [((.int .i64), .b)], fun x => f_L_szHunkS x.1 x.2.1⟩
noncomputable def cx_L_szHunkS : Cx := ⟨tab, arrs, [(67, ct_L_szHunk)], [], gl, []⟩
theorem eb_L_szHunkS_5 (t0 : PV S_laws_Hunk) (t1 : PV (.int .i64)) (t5 : PV (.int .i64)) : denK cx_L_szHunkS (rcN cx_L_szHunkS 0) pl_L_szHunkS 0 ((loopsOf (bodyOf Try.f11)).getD 0 .skip) (fillS sh_L_szHunkS_5 (t0, t1, t5, ())) (roundK 0 lp_L_szHunkS_5) = b_L_szHunkS_5 t0 t1 t5 := by kernel_rfl
theorem ef_L_szHunkS (t0 : PV S_laws_Hunk) (t1 : PV (.int .i64)) : denF cx_L_szHunkS 0 pl_L_szHunkS Try.f11.ntmps (bodyOf Try.f11) Try.f11.results.toList [(.bor, S_laws_Hunk), (.bor, (.int .i64))] [((.int .i64), .b)] (t0, t1, ()) = f_L_szHunkS t0 t1 := by kernel_rfl
theorem ok_L_szHunkS : FnOk gl Try.prog 11 ct_L_szHunkS :=
  fnOk (cx := cx_L_szHunkS) (pl := pl_L_szHunkS) (dp := 0) (ok0_of tabOk (by unfold ArrOk; kernel_rfl) mix ⟨ok_L_szHunk, trivial⟩ trivial) Try.func11 (by kernel_rfl) (by kernel_rfl) (by kernel_rfl)
    (by rw [show loopsOf (bodyOf Try.f11) = [((loopsOf (bodyOf Try.f11)).getD 0 .skip)] from by kernel_rfl]; exact ⟨(by rw [show lookup pl_L_szHunkS.loops (firstId ((loopsOf (bodyOf Try.f11)).getD 0 .skip)) = some lp_L_szHunkS_5 from by kernel_rfl]; exact fun d z h => (eb_L_szHunkS_5 d.1 d.2.1 d.2.2.1).trans h), trivial⟩) (fun x => ef_L_szHunkS x.1 x.2.1)
noncomputable def sh_L_szHunkSS_5 : List Sh := mkSh 27 [(0, .val S_S_laws_Hunk .b), (1, .val (.int .i64) .b), (5, .val (.int .i64) .b)]
noncomputable def o_L_szHunkSS_5 : List Out := [⟨.exit 0, ⟨[], [1], []⟩, mkSh 27 [(1, .val (.int .i64) .b)]⟩, ⟨.ret, ⟨[], [4], []⟩, mkSh 27 [(4, .val (.int .i64) .b)]⟩]
noncomputable def b_L_szHunkSS_5 (t0 : PV S_S_laws_Hunk) (t1 : PV (.int .i64)) (t5 : PV (.int .i64)) : Option ((PV S_S_laws_Hunk × PV (.int .i64) × PV (.int .i64) × Unit) ⊕ ((PV (.int .i64) × Unit) ⊕ (PV (.int .i64) × Unit))) :=
  bif (decide (t5 < (t0.length : Int))) then
    bif inB t5 t0.length then
      (f_L_szHunkS (t0.getD t5.toNat []) t1).bind fun r4 =>
        bif (decide (r4.1.1 < 0)) then
          some (.inr (.inr ((-1), ())))
        else
          some (.inl (t0, r4.1.1, (IntKind.wrap .i64 (t5 + 1)), ()))
    else
      none
  else
    some (.inr (.inl (t1, ())))
noncomputable def w_L_szHunkSS_5 : PV S_S_laws_Hunk × PV (.int .i64) × PV (.int .i64) × Unit → Option ((PV (.int .i64) × Unit) ⊕ (PV (.int .i64) × Unit)) := fix fun d => b_L_szHunkSS_5 d.1 d.2.1 d.2.2.1
noncomputable def lp_L_szHunkSS_5 : Lp := ⟨⟨[], [0, 1, 5], []⟩, sh_L_szHunkSS_5, o_L_szHunkSS_5, fun d => b_L_szHunkSS_5 d.1 d.2.1 d.2.2.1⟩
noncomputable def pl_L_szHunkSS : Plan := ⟨[], [(5, lp_L_szHunkSS_5)], 0, 0⟩
noncomputable def f_L_szHunkSS (t0 : PV S_S_laws_Hunk) (t1 : PV (.int .i64)) : Option (PVs [(.int .i64)] × PVs []) :=
  bif (decide ((IntKind.wrap .i64 (t1 - (t0.length : Int))) < 0)) then
    some (((-1), ()), ())
  else
    (w_L_szHunkSS_5 (t0, (IntKind.wrap .i64 (t1 - (t0.length : Int))), 0, ())).bind fun x9 =>
      match x9 with
      | .inl l7 =>
        some ((l7.1, ()), ())
      | .inr l8 =>
        some ((l8.1, ()), ())
noncomputable def ct_L_szHunkSS : Ct := ⟨[(.bor, S_S_laws_Hunk), (.bor, (.int .i64))], [((.int .i64), .b)], fun x => f_L_szHunkSS x.1 x.2.1⟩
noncomputable def cx_L_szHunkSS : Cx := ⟨tab, arrs, [(11, ct_L_szHunkS)], [], gl, []⟩
theorem eb_L_szHunkSS_5 (t0 : PV S_S_laws_Hunk) (t1 : PV (.int .i64)) (t5 : PV (.int .i64)) : denK cx_L_szHunkSS (rcN cx_L_szHunkSS 0) pl_L_szHunkSS 0 ((loopsOf (bodyOf Try.f121)).getD 0 .skip) (fillS sh_L_szHunkSS_5 (t0, t1, t5, ())) (roundK 0 lp_L_szHunkSS_5) = b_L_szHunkSS_5 t0 t1 t5 := by kernel_rfl
theorem ef_L_szHunkSS (t0 : PV S_S_laws_Hunk) (t1 : PV (.int .i64)) : denF cx_L_szHunkSS 0 pl_L_szHunkSS Try.f121.ntmps (bodyOf Try.f121) Try.f121.results.toList [(.bor, S_S_laws_Hunk), (.bor, (.int .i64))] [((.int .i64), .b)] (t0, t1, ()) = f_L_szHunkSS t0 t1 := by kernel_rfl
theorem ok_L_szHunkSS : FnOk gl Try.prog 121 ct_L_szHunkSS :=
  fnOk (cx := cx_L_szHunkSS) (pl := pl_L_szHunkSS) (dp := 0) (ok0_of tabOk (by unfold ArrOk; kernel_rfl) mix ⟨ok_L_szHunkS, trivial⟩ trivial) Try.func121 (by kernel_rfl) (by kernel_rfl) (by kernel_rfl)
    (by rw [show loopsOf (bodyOf Try.f121) = [((loopsOf (bodyOf Try.f121)).getD 0 .skip)] from by kernel_rfl]; exact ⟨(by rw [show lookup pl_L_szHunkSS.loops (firstId ((loopsOf (bodyOf Try.f121)).getD 0 .skip)) = some lp_L_szHunkSS_5 from by kernel_rfl]; exact fun d z h => (eb_L_szHunkSS_5 d.1 d.2.1 d.2.2.1).trans h), trivial⟩) (fun x => ef_L_szHunkSS x.1 x.2.1)
noncomputable def pl_L_szSeries : Plan := ⟨[], [], 0, 0⟩
noncomputable def f_L_szSeries (t0 : PV Y_laws_Series) (t1 : PV (.int .i64)) : Option (PVs [(.int .i64)] × PVs []) :=
  (f_L_szStringS t0.1 t1).bind fun r2 =>
    bif (decide (r2.1.1 < 0)) then
      some (((-1), ()), ())
    else
      (f_L_szHunkSS t0.2.1 r2.1.1).bind fun r4 =>
        bif (decide (r4.1.1 < 0)) then
          some (((-1), ()), ())
        else
          some ((r4.1.1, ()), ())
noncomputable def ct_L_szSeries : Ct := ⟨[(.bor, Y_laws_Series), (.bor, (.int .i64))], [((.int .i64), .b)], fun x => f_L_szSeries x.1 x.2.1⟩
noncomputable def cx_L_szSeries : Cx := ⟨tab, arrs, [(10, ct_L_szStringS), (121, ct_L_szHunkSS)], [], gl, []⟩
theorem ef_L_szSeries (t0 : PV Y_laws_Series) (t1 : PV (.int .i64)) : denF cx_L_szSeries 0 pl_L_szSeries Try.f54.ntmps (bodyOf Try.f54) Try.f54.results.toList [(.bor, Y_laws_Series), (.bor, (.int .i64))] [((.int .i64), .b)] (t0, t1, ()) = f_L_szSeries t0 t1 := by kernel_rfl
theorem ok_L_szSeries : FnOk gl Try.prog 54 ct_L_szSeries :=
  fnOk (cx := cx_L_szSeries) (pl := pl_L_szSeries) (dp := 0) (ok0_of tabOk (by unfold ArrOk; kernel_rfl) mix ⟨ok_L_szStringS, ok_L_szHunkSS, trivial⟩ trivial) Try.func54 (by kernel_rfl) (by kernel_rfl) (by kernel_rfl)
    (by rw [show loopsOf (bodyOf Try.f54) = [] from by kernel_rfl]; exact trivial) (fun x => ef_L_szSeries x.1 x.2.1)
noncomputable def sh_L_toStringS_3 : List Sh := mkSh 22 [(0, .val S_string .b), (3, .val S_string (.row .b)), (4, .val (.int .i64) .b)]
noncomputable def o_L_toStringS_3 : List Out := [⟨.exit 0, ⟨[], [3], []⟩, mkSh 22 [(3, .val S_string (.row .b))]⟩]
noncomputable def b_L_toStringS_3 (t0 : PV S_string) (t3 : PV S_string) (t4 : PV (.int .i64)) : Option ((PV S_string × PV S_string × PV (.int .i64) × Unit) ⊕ ((PV S_string × Unit))) :=
  bif (decide (t4 < (t0.length : Int))) then
    bif inB t4 t0.length then
      bif inB t4 t3.length then
        some (.inl (t0, (t3.set t4.toNat (t0.getD t4.toNat [])), (IntKind.wrap .i64 (t4 + 1)), ()))
      else
        none
    else
      none
  else
    some (.inr (t3, ()))
noncomputable def w_L_toStringS_3 : PV S_string × PV S_string × PV (.int .i64) × Unit → Option ((PV S_string × Unit)) := fix fun d => b_L_toStringS_3 d.1 d.2.1 d.2.2.1
noncomputable def lp_L_toStringS_3 : Lp := ⟨⟨[], [0, 3, 4], []⟩, sh_L_toStringS_3, o_L_toStringS_3, fun d => b_L_toStringS_3 d.1 d.2.1 d.2.2.1⟩
noncomputable def pl_L_toStringS : Plan := ⟨[], [(3, lp_L_toStringS_3)], 0, 0⟩
noncomputable def f_L_toStringS (t0 : PV S_string) : Option (PVs [S_string] × PVs []) :=
  bif decide (0 ≤ (t0.length : Int)) && (decide ((t0.length : Int) ≤ (t0.length : Int)) && roomB (t0.length : Int).toNat) then
    (w_L_toStringS_3 (t0, (List.replicate (t0.length : Int).toNat ([] : PV .str)), 0, ())).bind fun l2 =>
      some ((l2.1, ()), ())
  else
    none
noncomputable def ct_L_toStringS : Ct := ⟨[(.bor, S_string)], [(S_string, (.row .b))], fun x => f_L_toStringS x.1⟩
noncomputable def cx_L_toStringS : Cx := ⟨tab, arrs, [], [], gl, []⟩
theorem eb_L_toStringS_3 (t0 : PV S_string) (t3 : PV S_string) (t4 : PV (.int .i64)) : denK cx_L_toStringS (rcN cx_L_toStringS 0) pl_L_toStringS 0 ((loopsOf (bodyOf Try.f13)).getD 0 .skip) (fillS sh_L_toStringS_3 (t0, t3, t4, ())) (roundK 0 lp_L_toStringS_3) = b_L_toStringS_3 t0 t3 t4 := by kernel_rfl
theorem ef_L_toStringS (t0 : PV S_string) : denF cx_L_toStringS 0 pl_L_toStringS Try.f13.ntmps (bodyOf Try.f13) Try.f13.results.toList [(.bor, S_string)] [(S_string, (.row .b))] (t0, ()) = f_L_toStringS t0 := by kernel_rfl
theorem ok_L_toStringS : FnOk gl Try.prog 13 ct_L_toStringS :=
  fnOk (cx := cx_L_toStringS) (pl := pl_L_toStringS) (dp := 0) (ok0_of tabOk (by unfold ArrOk; kernel_rfl) mix trivial trivial) Try.func13 (by kernel_rfl) (by kernel_rfl) (by kernel_rfl)
    (by rw [show loopsOf (bodyOf Try.f13) = [((loopsOf (bodyOf Try.f13)).getD 0 .skip)] from by kernel_rfl]; exact ⟨(by rw [show lookup pl_L_toStringS.loops (firstId ((loopsOf (bodyOf Try.f13)).getD 0 .skip)) = some lp_L_toStringS_3 from by kernel_rfl]; exact fun d z h => (eb_L_toStringS_3 d.1 d.2.1 d.2.2.1).trans h), trivial⟩) (fun x => ef_L_toStringS x.1)
noncomputable def pl_L_toHunk : Plan := ⟨[], [], 0, 0⟩
noncomputable def f_L_toHunk (t0 : PV Y_impl_Hunk) : Option (PVs [Y_impl_Hunk] × PVs []) :=
  (f_L_toStringS t0.2.2.1).bind fun r2 =>
    some (((t0.1, (t0.2.1, (r2.1.1, ()))), ()), ())
noncomputable def ct_L_toHunk : Ct := ⟨[(.bor, Y_impl_Hunk)], [(Y_impl_Hunk, (.pr .b (.pr .b (.pr (.row .b) .b))))], fun x => f_L_toHunk x.1⟩
noncomputable def cx_L_toHunk : Cx := ⟨tab, arrs, [(13, ct_L_toStringS)], [], gl, []⟩
theorem ef_L_toHunk (t0 : PV Y_impl_Hunk) : denF cx_L_toHunk 0 pl_L_toHunk Try.f73.ntmps (bodyOf Try.f73) Try.f73.results.toList [(.bor, Y_impl_Hunk)] [(Y_impl_Hunk, (.pr .b (.pr .b (.pr (.row .b) .b))))] (t0, ()) = f_L_toHunk t0 := by kernel_rfl
theorem ok_L_toHunk : FnOk gl Try.prog 73 ct_L_toHunk :=
  fnOk (cx := cx_L_toHunk) (pl := pl_L_toHunk) (dp := 0) (ok0_of tabOk (by unfold ArrOk; kernel_rfl) mix ⟨ok_L_toStringS, trivial⟩ trivial) Try.func73 (by kernel_rfl) (by kernel_rfl) (by kernel_rfl)
    (by rw [show loopsOf (bodyOf Try.f73) = [] from by kernel_rfl]; exact trivial) (fun x => ef_L_toHunk x.1)
noncomputable def sh_L_toHunkS_3 : List Sh := mkSh 23 [(0, .val S_laws_Hunk .b), (3, .val S_impl_Hunk (.row (.pr .b (.pr .b (.pr (.row .b) .b))))), (4, .val (.int .i64) .b)]
noncomputable def o_L_toHunkS_3 : List Out := [⟨.exit 0, ⟨[], [3], []⟩, mkSh 23 [(3, .val S_impl_Hunk (.row (.pr .b (.pr .b (.pr (.row .b) .b)))))]⟩]
noncomputable def b_L_toHunkS_3 (t0 : PV S_laws_Hunk) (t3 : PV S_impl_Hunk) (t4 : PV (.int .i64)) : Option ((PV S_laws_Hunk × PV S_impl_Hunk × PV (.int .i64) × Unit) ⊕ ((PV S_impl_Hunk × Unit))) :=
  bif (decide (t4 < (t0.length : Int))) then
    bif inB t4 t0.length then
      (f_L_toHunk (t0.getD t4.toNat (dflt Y_impl_Hunk))).bind fun r2 =>
        bif inB t4 t3.length then
          some (.inl (t0, (t3.set t4.toNat r2.1.1), (IntKind.wrap .i64 (t4 + 1)), ()))
        else
          none
    else
      none
  else
    some (.inr (t3, ()))
noncomputable def w_L_toHunkS_3 : PV S_laws_Hunk × PV S_impl_Hunk × PV (.int .i64) × Unit → Option ((PV S_impl_Hunk × Unit)) := fix fun d => b_L_toHunkS_3 d.1 d.2.1 d.2.2.1
noncomputable def lp_L_toHunkS_3 : Lp := ⟨⟨[], [0, 3, 4], []⟩, sh_L_toHunkS_3, o_L_toHunkS_3, fun d => b_L_toHunkS_3 d.1 d.2.1 d.2.2.1⟩
noncomputable def pl_L_toHunkS : Plan := ⟨[], [(3, lp_L_toHunkS_3)], 0, 0⟩
noncomputable def f_L_toHunkS (t0 : PV S_laws_Hunk) : Option (PVs [S_impl_Hunk] × PVs []) :=
  bif decide (0 ≤ (t0.length : Int)) && (decide ((t0.length : Int) ≤ (t0.length : Int)) && roomB (t0.length : Int).toNat) then
    (w_L_toHunkS_3 (t0, (List.replicate (t0.length : Int).toNat (dflt Y_impl_Hunk)), 0, ())).bind fun l4 =>
      some ((l4.1, ()), ())
  else
    none
noncomputable def ct_L_toHunkS : Ct := ⟨[(.bor, S_laws_Hunk)], [(S_impl_Hunk, (.row (.pr .b (.pr .b (.pr (.row .b) .b)))))], fun x => f_L_toHunkS x.1⟩
noncomputable def cx_L_toHunkS : Cx := ⟨tab, arrs, [(73, ct_L_toHunk)], [], gl, []⟩
theorem eb_L_toHunkS_3 (t0 : PV S_laws_Hunk) (t3 : PV S_impl_Hunk) (t4 : PV (.int .i64)) : denK cx_L_toHunkS (rcN cx_L_toHunkS 0) pl_L_toHunkS 0 ((loopsOf (bodyOf Try.f14)).getD 0 .skip) (fillS sh_L_toHunkS_3 (t0, t3, t4, ())) (roundK 0 lp_L_toHunkS_3) = b_L_toHunkS_3 t0 t3 t4 := by kernel_rfl
theorem ef_L_toHunkS (t0 : PV S_laws_Hunk) : denF cx_L_toHunkS 0 pl_L_toHunkS Try.f14.ntmps (bodyOf Try.f14) Try.f14.results.toList [(.bor, S_laws_Hunk)] [(S_impl_Hunk, (.row (.pr .b (.pr .b (.pr (.row .b) .b)))))] (t0, ()) = f_L_toHunkS t0 := by kernel_rfl
theorem ok_L_toHunkS : FnOk gl Try.prog 14 ct_L_toHunkS :=
  fnOk (cx := cx_L_toHunkS) (pl := pl_L_toHunkS) (dp := 0) (ok0_of tabOk (by unfold ArrOk; kernel_rfl) mix ⟨ok_L_toHunk, trivial⟩ trivial) Try.func14 (by kernel_rfl) (by kernel_rfl) (by kernel_rfl)
    (by rw [show loopsOf (bodyOf Try.f14) = [((loopsOf (bodyOf Try.f14)).getD 0 .skip)] from by kernel_rfl]; exact ⟨(by rw [show lookup pl_L_toHunkS.loops (firstId ((loopsOf (bodyOf Try.f14)).getD 0 .skip)) = some lp_L_toHunkS_3 from by kernel_rfl]; exact fun d z h => (eb_L_toHunkS_3 d.1 d.2.1 d.2.2.1).trans h), trivial⟩) (fun x => ef_L_toHunkS x.1)
noncomputable def sh_L_toHunkSS_3 : List Sh := mkSh 23 [(0, .val S_S_laws_Hunk .b), (3, .val S_S_impl_Hunk (.row (.row (.pr .b (.pr .b (.pr (.row .b) .b)))))), (4, .val (.int .i64) .b)]
noncomputable def o_L_toHunkSS_3 : List Out := [⟨.exit 0, ⟨[], [3], []⟩, mkSh 23 [(3, .val S_S_impl_Hunk (.row (.row (.pr .b (.pr .b (.pr (.row .b) .b))))))]⟩]
noncomputable def b_L_toHunkSS_3 (t0 : PV S_S_laws_Hunk) (t3 : PV S_S_impl_Hunk) (t4 : PV (.int .i64)) : Option ((PV S_S_laws_Hunk × PV S_S_impl_Hunk × PV (.int .i64) × Unit) ⊕ ((PV S_S_impl_Hunk × Unit))) :=
  bif (decide (t4 < (t0.length : Int))) then
    bif inB t4 t0.length then
      (f_L_toHunkS (t0.getD t4.toNat [])).bind fun r2 =>
        bif inB t4 t3.length then
          some (.inl (t0, (t3.set t4.toNat r2.1.1), (IntKind.wrap .i64 (t4 + 1)), ()))
        else
          none
    else
      none
  else
    some (.inr (t3, ()))
noncomputable def w_L_toHunkSS_3 : PV S_S_laws_Hunk × PV S_S_impl_Hunk × PV (.int .i64) × Unit → Option ((PV S_S_impl_Hunk × Unit)) := fix fun d => b_L_toHunkSS_3 d.1 d.2.1 d.2.2.1
noncomputable def lp_L_toHunkSS_3 : Lp := ⟨⟨[], [0, 3, 4], []⟩, sh_L_toHunkSS_3, o_L_toHunkSS_3, fun d => b_L_toHunkSS_3 d.1 d.2.1 d.2.2.1⟩
noncomputable def pl_L_toHunkSS : Plan := ⟨[], [(3, lp_L_toHunkSS_3)], 0, 0⟩
noncomputable def f_L_toHunkSS (t0 : PV S_S_laws_Hunk) : Option (PVs [S_S_impl_Hunk] × PVs []) :=
  bif decide (0 ≤ (t0.length : Int)) && (decide ((t0.length : Int) ≤ (t0.length : Int)) && roomB (t0.length : Int).toNat) then
    (w_L_toHunkSS_3 (t0, (List.replicate (t0.length : Int).toNat ([] : PV S_impl_Hunk)), 0, ())).bind fun l4 =>
      some ((l4.1, ()), ())
  else
    none
noncomputable def ct_L_toHunkSS : Ct := ⟨[(.bor, S_S_laws_Hunk)], [(S_S_impl_Hunk, (.row (.row (.pr .b (.pr .b (.pr (.row .b) .b))))))], fun x => f_L_toHunkSS x.1⟩
noncomputable def cx_L_toHunkSS : Cx := ⟨tab, arrs, [(14, ct_L_toHunkS)], [], gl, []⟩
theorem eb_L_toHunkSS_3 (t0 : PV S_S_laws_Hunk) (t3 : PV S_S_impl_Hunk) (t4 : PV (.int .i64)) : denK cx_L_toHunkSS (rcN cx_L_toHunkSS 0) pl_L_toHunkSS 0 ((loopsOf (bodyOf Try.f126)).getD 0 .skip) (fillS sh_L_toHunkSS_3 (t0, t3, t4, ())) (roundK 0 lp_L_toHunkSS_3) = b_L_toHunkSS_3 t0 t3 t4 := by kernel_rfl
theorem ef_L_toHunkSS (t0 : PV S_S_laws_Hunk) : denF cx_L_toHunkSS 0 pl_L_toHunkSS Try.f126.ntmps (bodyOf Try.f126) Try.f126.results.toList [(.bor, S_S_laws_Hunk)] [(S_S_impl_Hunk, (.row (.row (.pr .b (.pr .b (.pr (.row .b) .b))))))] (t0, ()) = f_L_toHunkSS t0 := by kernel_rfl
theorem ok_L_toHunkSS : FnOk gl Try.prog 126 ct_L_toHunkSS :=
  fnOk (cx := cx_L_toHunkSS) (pl := pl_L_toHunkSS) (dp := 0) (ok0_of tabOk (by unfold ArrOk; kernel_rfl) mix ⟨ok_L_toHunkS, trivial⟩ trivial) Try.func126 (by kernel_rfl) (by kernel_rfl) (by kernel_rfl)
    (by rw [show loopsOf (bodyOf Try.f126) = [((loopsOf (bodyOf Try.f126)).getD 0 .skip)] from by kernel_rfl]; exact ⟨(by rw [show lookup pl_L_toHunkSS.loops (firstId ((loopsOf (bodyOf Try.f126)).getD 0 .skip)) = some lp_L_toHunkSS_3 from by kernel_rfl]; exact fun d z h => (eb_L_toHunkSS_3 d.1 d.2.1 d.2.2.1).trans h), trivial⟩) (fun x => ef_L_toHunkSS x.1)
noncomputable def pl_L_toSeries : Plan := ⟨[], [], 0, 0⟩
noncomputable def f_L_toSeries (t0 : PV Y_laws_Series) : Option (PVs [Y_impl_Series] × PVs []) :=
  (f_L_toStringS t0.1).bind fun r2 =>
    (f_L_toHunkSS t0.2.1).bind fun r4 =>
      some (((r2.1.1, (r4.1.1, ())), ()), ())
noncomputable def ct_L_toSeries : Ct := ⟨[(.bor, Y_laws_Series)], [(Y_impl_Series, (.pr (.row .b) (.pr (.row (.row (.pr .b (.pr .b (.pr (.row .b) .b))))) .b)))], fun x => f_L_toSeries x.1⟩
noncomputable def cx_L_toSeries : Cx := ⟨tab, arrs, [(13, ct_L_toStringS), (126, ct_L_toHunkSS)], [], gl, []⟩
theorem ef_L_toSeries (t0 : PV Y_laws_Series) : denF cx_L_toSeries 0 pl_L_toSeries Try.f56.ntmps (bodyOf Try.f56) Try.f56.results.toList [(.bor, Y_laws_Series)] [(Y_impl_Series, (.pr (.row .b) (.pr (.row (.row (.pr .b (.pr .b (.pr (.row .b) .b))))) .b)))] (t0, ()) = f_L_toSeries t0 := by kernel_rfl
theorem ok_L_toSeries : FnOk gl Try.prog 56 ct_L_toSeries :=
  fnOk (cx := cx_L_toSeries) (pl := pl_L_toSeries) (dp := 0) (ok0_of tabOk (by unfold ArrOk; kernel_rfl) mix ⟨ok_L_toStringS, ok_L_toHunkSS, trivial⟩ trivial) Try.func56 (by kernel_rfl) (by kernel_rfl) (by kernel_rfl)
    (by rw [show loopsOf (bodyOf Try.f56) = [] from by kernel_rfl]; exact trivial) (fun x => ef_L_toSeries x.1)
noncomputable def pl_S_l1In : Plan := ⟨[], [], 0, 0⟩
noncomputable def f_S_l1In (t0 : PV (.int .i64)) (t1 : PV (.int .i64)) (t2 : PV (.int .i64)) : Option (PVs [.bool] × PVs []) :=
  bif (decide (t0 ≥ t1)) then
    some (((decide (t0 ≤ t2)), ()), ())
  else
    some ((false, ()), ())
noncomputable def ct_S_l1In : Ct := ⟨[(.bor, (.int .i64)), (.bor, (.int .i64)), (.bor, (.int .i64))], [(.bool, .b)], fun x => f_S_l1In x.1 x.2.1 x.2.2.1⟩
noncomputable def cx_S_l1In : Cx := ⟨tab, arrs, [], [], gl, []⟩
theorem ef_S_l1In (t0 : PV (.int .i64)) (t1 : PV (.int .i64)) (t2 : PV (.int .i64)) : denF cx_S_l1In 0 pl_S_l1In Try.f109.ntmps (bodyOf Try.f109) Try.f109.results.toList [(.bor, (.int .i64)), (.bor, (.int .i64)), (.bor, (.int .i64))] [(.bool, .b)] (t0, t1, t2, ()) = f_S_l1In t0 t1 t2 := by kernel_rfl
theorem ok_S_l1In : FnOk gl Try.prog 109 ct_S_l1In :=
  fnOk (cx := cx_S_l1In) (pl := pl_S_l1In) (dp := 0) (ok0_of tabOk (by unfold ArrOk; kernel_rfl) mix trivial trivial) Try.func109 (by kernel_rfl) (by kernel_rfl) (by kernel_rfl)
    (by rw [show loopsOf (bodyOf Try.f109) = [] from by kernel_rfl]; exact trivial) (fun x => ef_S_l1In x.1 x.2.1 x.2.2.1)
noncomputable def sh_S_l1Line_2 : List Sh := mkSh 18 [(0, .val .str .b), (3, .val (.int .i64) .b)]
noncomputable def o_S_l1Line_2 : List Out := [⟨.exit 0, ⟨[], [0], []⟩, mkSh 18 [(0, .val .str .b)]⟩, ⟨.ret, ⟨[], [2], []⟩, mkSh 18 [(2, .val .bool .b)]⟩]
noncomputable def b_S_l1Line_2 (t0 : PV .str) (t3 : PV (.int .i64)) : Option ((PV .str × PV (.int .i64) × Unit) ⊕ ((PV .str × Unit) ⊕ (PV .bool × Unit))) :=
  bif (decide (t3 < (IntKind.wrap .i64 ((t0.length : Int) - 1)))) then
    bif inB t3 t0.length then
      bif (((t0.getD t3.toNat 0).toNat : Int) == 10) then
        some (.inr (.inr (false, ())))
      else
        some (.inl (t0, (IntKind.wrap .i64 (t3 + 1)), ()))
    else
      none
  else
    some (.inr (.inl (t0, ())))
noncomputable def w_S_l1Line_2 : PV .str × PV (.int .i64) × Unit → Option ((PV .str × Unit) ⊕ (PV .bool × Unit)) := fix fun d => b_S_l1Line_2 d.1 d.2.1
noncomputable def lp_S_l1Line_2 : Lp := ⟨⟨[], [0, 3], []⟩, sh_S_l1Line_2, o_S_l1Line_2, fun d => b_S_l1Line_2 d.1 d.2.1⟩
noncomputable def pl_S_l1Line : Plan := ⟨[], [(2, lp_S_l1Line_2)], 0, 0⟩
noncomputable def f_S_l1Line (t0 : PV .str) : Option (PVs [.bool] × PVs []) :=
  (w_S_l1Line_2 (t0, 0, ())).bind fun x6 =>
    match x6 with
    | .inl l3 =>
      (f_S_l1In (l3.1.length : Int) 1 30).bind fun r4 =>
        some ((r4.1.1, ()), ())
    | .inr l5 =>
      some ((l5.1, ()), ())
noncomputable def ct_S_l1Line : Ct := ⟨[(.bor, .str)], [(.bool, .b)], fun x => f_S_l1Line x.1⟩
noncomputable def cx_S_l1Line : Cx := ⟨tab, arrs, [(109, ct_S_l1In)], [], gl, []⟩
theorem eb_S_l1Line_2 (t0 : PV .str) (t3 : PV (.int .i64)) : denK cx_S_l1Line (rcN cx_S_l1Line 0) pl_S_l1Line 0 ((loopsOf (bodyOf Try.f143)).getD 0 .skip) (fillS sh_S_l1Line_2 (t0, t3, ())) (roundK 0 lp_S_l1Line_2) = b_S_l1Line_2 t0 t3 := by kernel_rfl
theorem ef_S_l1Line (t0 : PV .str) : denF cx_S_l1Line 0 pl_S_l1Line Try.f143.ntmps (bodyOf Try.f143) Try.f143.results.toList [(.bor, .str)] [(.bool, .b)] (t0, ()) = f_S_l1Line t0 := by kernel_rfl
theorem ok_S_l1Line : FnOk gl Try.prog 143 ct_S_l1Line :=
  fnOk (cx := cx_S_l1Line) (pl := pl_S_l1Line) (dp := 0) (ok0_of tabOk (by unfold ArrOk; kernel_rfl) mix ⟨ok_S_l1In, trivial⟩ trivial) Try.func143 (by kernel_rfl) (by kernel_rfl) (by kernel_rfl)
    (by rw [show loopsOf (bodyOf Try.f143) = [((loopsOf (bodyOf Try.f143)).getD 0 .skip)] from by kernel_rfl]; exact ⟨(by rw [show lookup pl_S_l1Line.loops (firstId ((loopsOf (bodyOf Try.f143)).getD 0 .skip)) = some lp_S_l1Line_2 from by kernel_rfl]; exact fun d z h => (eb_S_l1Line_2 d.1 d.2.1).trans h), trivial⟩) (fun x => ef_S_l1Line x.1)
noncomputable def pl_S_l1Ends : Plan := ⟨[], [], 0, 0⟩
noncomputable def f_S_l1Ends (t0 : PV .str) : Option (PVs [.bool] × PVs []) :=
  bif inB (IntKind.wrap .i64 ((t0.length : Int) - 1)) t0.length then
    some (((((t0.getD (IntKind.wrap .i64 ((t0.length : Int) - 1)).toNat 0).toNat : Int) == 10), ()), ())
  else
    none
noncomputable def ct_S_l1Ends : Ct := ⟨[(.bor, .str)], [(.bool, .b)], fun x => f_S_l1Ends x.1⟩
noncomputable def cx_S_l1Ends : Cx := ⟨tab, arrs, [], [], gl, []⟩
theorem ef_S_l1Ends (t0 : PV .str) : denF cx_S_l1Ends 0 pl_S_l1Ends Try.f154.ntmps (bodyOf Try.f154) Try.f154.results.toList [(.bor, .str)] [(.bool, .b)] (t0, ()) = f_S_l1Ends t0 := by kernel_rfl
theorem ok_S_l1Ends : FnOk gl Try.prog 154 ct_S_l1Ends :=
  fnOk (cx := cx_S_l1Ends) (pl := pl_S_l1Ends) (dp := 0) (ok0_of tabOk (by unfold ArrOk; kernel_rfl) mix trivial trivial) Try.func154 (by kernel_rfl) (by kernel_rfl) (by kernel_rfl)
    (by rw [show loopsOf (bodyOf Try.f154) = [] from by kernel_rfl]; exact trivial) (fun x => ef_S_l1Ends x.1)
noncomputable def o_S_l1Good_5 : List Out := [⟨.normal, ⟨[], [0, 5, 6, 7, 26], []⟩, mkSh 31 [(0, .val S_string .b), (5, .val S_string .b), (6, .val (.int .i64) .b), (7, .val (.int .i64) .b), (26, .val .bool .b)]⟩]
noncomputable def sh_S_l1Good_2 : List Sh := mkSh 31 [(0, .val S_string .b), (5, .val S_string .b), (6, .val (.int .i64) .b), (7, .val (.int .i64) .b)]
noncomputable def o_S_l1Good_2 : List Out := [⟨.exit 0, ⟨[], [0], []⟩, mkSh 31 [(0, .val S_string .b)]⟩, ⟨.ret, ⟨[], [2], []⟩, mkSh 31 [(2, .val .bool .b)]⟩]
noncomputable def b_S_l1Good_2 (t0 : PV S_string) (t5 : PV S_string) (t6 : PV (.int .i64)) (t7 : PV (.int .i64)) : Option ((PV S_string × PV S_string × PV (.int .i64) × PV (.int .i64) × Unit) ⊕ ((PV S_string × Unit) ⊕ (PV .bool × Unit))) :=
  bif (decide (t7 < t6)) then
    bif inB t7 t5.length then
      ((
          (f_S_l1Line (t5.getD t7.toNat [])).bind fun r4 =>
            bif (!r4.1.1) then
              some (t0, t5, t6, t7, true, ())
            else
              bif (decide (t7 < (IntKind.wrap .i64 ((t0.length : Int) - 1)))) then
                (f_S_l1Ends (t5.getD t7.toNat [])).bind fun r5 =>
                  some (t0, t5, t6, t7, (!r5.1.1), ())
              else
                some (t0, t5, t6, t7, false, ()) : Option ((PV S_string × PV S_string × PV (.int .i64) × PV (.int .i64) × PV .bool × Unit)))).bind fun j6 =>
        bif j6.2.2.2.2.1 then
          some (.inr (.inr (false, ())))
        else
          some (.inl (j6.1, j6.2.1, j6.2.2.1, (IntKind.wrap .i64 (j6.2.2.2.1 + 1)), ()))
    else
      none
  else
    some (.inr (.inl (t0, ())))
noncomputable def w_S_l1Good_2 : PV S_string × PV S_string × PV (.int .i64) × PV (.int .i64) × Unit → Option ((PV S_string × Unit) ⊕ (PV .bool × Unit)) := fix fun d => b_S_l1Good_2 d.1 d.2.1 d.2.2.1 d.2.2.2.1
noncomputable def lp_S_l1Good_2 : Lp := ⟨⟨[], [0, 5, 6, 7, 16, 17, 18, 19, 20, 21, 22, 23, 24, 25], []⟩, sh_S_l1Good_2, o_S_l1Good_2, fun d => b_S_l1Good_2 d.1 d.2.1 d.2.2.1 d.2.2.2.1⟩
noncomputable def pl_S_l1Good : Plan := ⟨[(5, o_S_l1Good_5)], [(2, lp_S_l1Good_2)], 0, 0⟩
noncomputable def f_S_l1Good (t0 : PV S_string) : Option (PVs [.bool] × PVs []) :=
  (w_S_l1Good_2 (t0, t0, (t0.length : Int), 0, ())).bind fun x11 =>
    match x11 with
    | .inl l9 =>
      some (((decide ((l9.1.length : Int) ≤ 40)), ()), ())
    | .inr l10 =>
      some ((l10.1, ()), ())
noncomputable def ct_S_l1Good : Ct := ⟨[(.bor, S_string)], [(.bool, .b)], fun x => f_S_l1Good x.1⟩
noncomputable def cx_S_l1Good : Cx := ⟨tab, arrs, [(143, ct_S_l1Line), (154, ct_S_l1Ends)], [], gl, []⟩
theorem eb_S_l1Good_2 (t0 : PV S_string) (t5 : PV S_string) (t6 : PV (.int .i64)) (t7 : PV (.int .i64)) : denK cx_S_l1Good (rcN cx_S_l1Good 0) pl_S_l1Good 0 ((loopsOf (bodyOf Try.f92)).getD 0 .skip) (fillS sh_S_l1Good_2 (t0, t5, t6, t7, ())) (roundK 0 lp_S_l1Good_2) = b_S_l1Good_2 t0 t5 t6 t7 := by kernel_rfl
theorem ef_S_l1Good (t0 : PV S_string) : denF cx_S_l1Good 0 pl_S_l1Good Try.f92.ntmps (bodyOf Try.f92) Try.f92.results.toList [(.bor, S_string)] [(.bool, .b)] (t0, ()) = f_S_l1Good t0 := by kernel_rfl
theorem ok_S_l1Good : FnOk gl Try.prog 92 ct_S_l1Good :=
  fnOk (cx := cx_S_l1Good) (pl := pl_S_l1Good) (dp := 0) (ok0_of tabOk (by unfold ArrOk; kernel_rfl) mix ⟨ok_S_l1Line, ok_S_l1Ends, trivial⟩ trivial) Try.func92 (by kernel_rfl) (by kernel_rfl) (by kernel_rfl)
    (by rw [show loopsOf (bodyOf Try.f92) = [((loopsOf (bodyOf Try.f92)).getD 0 .skip)] from by kernel_rfl]; exact ⟨(by rw [show lookup pl_S_l1Good.loops (firstId ((loopsOf (bodyOf Try.f92)).getD 0 .skip)) = some lp_S_l1Good_2 from by kernel_rfl]; exact fun d z h => (eb_S_l1Good_2 d.1 d.2.1 d.2.2.1 d.2.2.2.1).trans h), trivial⟩) (fun x => ef_S_l1Good x.1)
noncomputable def o_S_l2Hunks_5 : List Out := [⟨.normal, ⟨[], [0, 1, 6, 9, 10, 11, 75, 92, 93], []⟩, mkSh 95 [(0, .val (.int .i64) .b), (1, .val S_impl_Hunk .b), (6, .var Y_impl_Hunk .b), (9, .val S_impl_Hunk .b), (10, .val (.int .i64) .b), (11, .val (.int .i64) .b), (75, .val .bool .b)]⟩]
noncomputable def sh_S_l2Hunks_7 : List Sh := mkSh 95 [(0, .val (.int .i64) .b), (1, .val S_impl_Hunk .b), (9, .val S_impl_Hunk .b), (10, .val (.int .i64) .b), (11, .val (.int .i64) .b), (77, .val S_string .b), (78, .val (.int .i64) .b), (79, .val (.int .i64) .b)]
noncomputable def o_S_l2Hunks_7 : List Out := [⟨.exit 2, ⟨[], [0, 1, 9, 10, 11, 20, 21, 22, 25, 26, 27, 28, 31, 32, 33, 34, 35, 36, 37, 40, 41, 42, 43, 44, 45, 46, 49, 50, 51, 52, 55, 56, 57, 58, 59, 60, 61, 62, 63, 64, 65, 66, 67, 68, 69, 70, 71, 72, 73, 74, 92, 93], []⟩, mkSh 95 [(0, .val (.int .i64) .b), (1, .val S_impl_Hunk .b), (9, .val S_impl_Hunk .b), (10, .val (.int .i64) .b), (11, .val (.int .i64) .b)]⟩, ⟨.ret, ⟨[], [4], []⟩, mkSh 95 [(4, .val .bool .b)]⟩]
noncomputable def b_S_l2Hunks_7 (t0 : PV (.int .i64)) (t1 : PV S_impl_Hunk) (t9 : PV S_impl_Hunk) (t10 : PV (.int .i64)) (t11 : PV (.int .i64)) (t77 : PV S_string) (t78 : PV (.int .i64)) (t79 : PV (.int .i64)) : Option ((PV (.int .i64) × PV S_impl_Hunk × PV S_impl_Hunk × PV (.int .i64) × PV (.int .i64) × PV S_string × PV (.int .i64) × PV (.int .i64) × Unit) ⊕ ((PV (.int .i64) × PV S_impl_Hunk × PV S_impl_Hunk × PV (.int .i64) × PV (.int .i64) × Unit) ⊕ (PV .bool × Unit))) :=
  bif (decide (t79 < t78)) then
    bif inB t79 t77.length then
      (f_S_l1Line (t77.getD t79.toNat [])).bind fun r6 =>
        bif (!r6.1.1) then
          some (.inr (.inr (false, ())))
        else
          some (.inl (t0, t1, t9, t10, t11, t77, t78, (IntKind.wrap .i64 (t79 + 1)), ()))
    else
      none
  else
    some (.inr (.inl (t0, t1, t9, t10, t11, ())))
noncomputable def w_S_l2Hunks_7 : PV (.int .i64) × PV S_impl_Hunk × PV S_impl_Hunk × PV (.int .i64) × PV (.int .i64) × PV S_string × PV (.int .i64) × PV (.int .i64) × Unit → Option ((PV (.int .i64) × PV S_impl_Hunk × PV S_impl_Hunk × PV (.int .i64) × PV (.int .i64) × Unit) ⊕ (PV .bool × Unit)) := fix fun d => b_S_l2Hunks_7 d.1 d.2.1 d.2.2.1 d.2.2.2.1 d.2.2.2.2.1 d.2.2.2.2.2.1 d.2.2.2.2.2.2.1 d.2.2.2.2.2.2.2.1
noncomputable def lp_S_l2Hunks_7 : Lp := ⟨⟨[], [0, 1, 9, 10, 11, 20, 21, 22, 25, 26, 27, 28, 31, 32, 33, 34, 35, 36, 37, 40, 41, 42, 43, 44, 45, 46, 49, 50, 51, 52, 55, 56, 57, 58, 59, 60, 61, 62, 63, 64, 65, 66, 67, 68, 69, 70, 71, 72, 73, 74, 77, 78, 79, 92, 93], []⟩, sh_S_l2Hunks_7, o_S_l2Hunks_7, fun d => b_S_l2Hunks_7 d.1 d.2.1 d.2.2.1 d.2.2.2.1 d.2.2.2.2.1 d.2.2.2.2.2.1 d.2.2.2.2.2.2.1 d.2.2.2.2.2.2.2.1⟩
noncomputable def sh_S_l2Hunks_2 : List Sh := mkSh 95 [(0, .val (.int .i64) .b), (1, .val S_impl_Hunk .b), (9, .val S_impl_Hunk .b), (10, .val (.int .i64) .b), (11, .val (.int .i64) .b)]
noncomputable def o_S_l2Hunks_2 : List Out := [⟨.exit 0, ⟨[], [0, 1, 92, 93], []⟩, mkSh 95 [(0, .val (.int .i64) .b), (1, .val S_impl_Hunk .b)]⟩, ⟨.ret, ⟨[], [4], []⟩, mkSh 95 [(4, .val .bool .b)]⟩]
noncomputable def b_S_l2Hunks_2 (t0 : PV (.int .i64)) (t1 : PV S_impl_Hunk) (t9 : PV S_impl_Hunk) (t10 : PV (.int .i64)) (t11 : PV (.int .i64)) : Option ((PV (.int .i64) × PV S_impl_Hunk × PV S_impl_Hunk × PV (.int .i64) × PV (.int .i64) × Unit) ⊕ ((PV (.int .i64) × PV S_impl_Hunk × Unit) ⊕ (PV .bool × Unit))) :=
  bif (decide (t11 < t10)) then
    bif inB t11 t9.length then
      ((
          bif (decide (((t9.getD t11.toNat (dflt Y_impl_Hunk)).1) < 0)) then
            some (t0, t1, (t9.getD t11.toNat (dflt Y_impl_Hunk)), t9, t10, t11, true, ())
          else
            bif (decide ((((t9.getD t11.toNat (dflt Y_impl_Hunk)).2).1) < 0)) then
              some (t0, t1, (t9.getD t11.toNat (dflt Y_impl_Hunk)), t9, t10, t11, true, ())
            else
              bif (decide ((((t9.getD t11.toNat (dflt Y_impl_Hunk)).2).1) > t0)) then
                some (t0, t1, (t9.getD t11.toNat (dflt Y_impl_Hunk)), t9, t10, t11, true, ())
              else
                bif (decide (((t9.getD t11.toNat (dflt Y_impl_Hunk)).1) > (IntKind.wrap .i64 (t0 - (((t9.getD t11.toNat (dflt Y_impl_Hunk)).2).1))))) then
                  some (t0, t1, (t9.getD t11.toNat (dflt Y_impl_Hunk)), t9, t10, t11, true, ())
                else
                  bif ((IntKind.wrap .i64 ((((t9.getD t11.toNat (dflt Y_impl_Hunk)).2).1) + (((((t9.getD t11.toNat (dflt Y_impl_Hunk)).2).2).1).length : Int))) == 0) then
                    some (t0, t1, (t9.getD t11.toNat (dflt Y_impl_Hunk)), t9, t10, t11, true, ())
                  else
                    bif (decide ((((((t9.getD t11.toNat (dflt Y_impl_Hunk)).2).2).1).length : Int) > 40)) then
                      some (t0, t1, (t9.getD t11.toNat (dflt Y_impl_Hunk)), t9, t10, t11, true, ())
                    else
                      bif (decide (t11 > 0)) then
                        bif inB (IntKind.wrap .i64 (t11 - 1)) t1.length then
                          bif inB (IntKind.wrap .i64 (t11 - 1)) t1.length then
                            some (t0, t1, (t9.getD t11.toNat (dflt Y_impl_Hunk)), t9, t10, t11, (decide (((t9.getD t11.toNat (dflt Y_impl_Hunk)).1) ≤ (IntKind.wrap .i64 (((t1.getD ((IntKind.wrap .i64 (t11 - 1)).toNat) (dflt Y_impl_Hunk)).1) + (((t1.getD ((IntKind.wrap .i64 (t11 - 1)).toNat) (dflt Y_impl_Hunk)).2).1))))), ())
                          else
                            none
                        else
                          none
                      else
                        some (t0, t1, (t9.getD t11.toNat (dflt Y_impl_Hunk)), t9, t10, t11, false, ()) : Option ((PV (.int .i64) × PV S_impl_Hunk × PV Y_impl_Hunk × PV S_impl_Hunk × PV (.int .i64) × PV (.int .i64) × PV .bool × Unit)))).bind fun j6 =>
        bif j6.2.2.2.2.2.2.1 then
          some (.inr (.inr (false, ())))
        else
          (w_S_l2Hunks_7 (j6.1, j6.2.1, j6.2.2.2.1, j6.2.2.2.2.1, j6.2.2.2.2.2.1, j6.2.2.1.2.2.1, (j6.2.2.1.2.2.1.length : Int), 0, ())).bind fun x14 =>
            match x14 with
            | .inl l7 =>
              some (.inl (l7.1, l7.2.1, l7.2.2.1, l7.2.2.2.1, (IntKind.wrap .i64 (l7.2.2.2.2.1 + 1)), ()))
            | .inr l8 =>
              some (.inr (.inr (l8.1, ())))
    else
      none
  else
    some (.inr (.inl (t0, t1, ())))
noncomputable def w_S_l2Hunks_2 : PV (.int .i64) × PV S_impl_Hunk × PV S_impl_Hunk × PV (.int .i64) × PV (.int .i64) × Unit → Option ((PV (.int .i64) × PV S_impl_Hunk × Unit) ⊕ (PV .bool × Unit)) := fix fun d => b_S_l2Hunks_2 d.1 d.2.1 d.2.2.1 d.2.2.2.1 d.2.2.2.2.1
noncomputable def lp_S_l2Hunks_2 : Lp := ⟨⟨[], [0, 1, 9, 10, 11, 20, 21, 22, 25, 26, 27, 28, 31, 32, 33, 34, 35, 36, 37, 40, 41, 42, 43, 44, 45, 46, 49, 50, 51, 52, 55, 56, 57, 58, 59, 60, 61, 62, 63, 64, 65, 66, 67, 68, 69, 70, 71, 72, 73, 74, 92, 93], []⟩, sh_S_l2Hunks_2, o_S_l2Hunks_2, fun d => b_S_l2Hunks_2 d.1 d.2.1 d.2.2.1 d.2.2.2.1 d.2.2.2.2.1⟩
noncomputable def pl_S_l2Hunks : Plan := ⟨[(5, o_S_l2Hunks_5)], [(7, lp_S_l2Hunks_7), (2, lp_S_l2Hunks_2)], 0, 0⟩
noncomputable def f_S_l2Hunks (t0 : PV (.int .i64)) (t1 : PV S_impl_Hunk) : Option (PVs [.bool] × PVs []) :=
  (w_S_l2Hunks_2 (t0, t1, t1, (t1.length : Int), 0, ())).bind fun x15 =>
    match x15 with
    | .inl l11 =>
      bif (decide ((l11.2.1.length : Int) ≤ 20)) then
        (f_S_l1In l11.1 0 40).bind fun r12 =>
          some ((r12.1.1, ()), ())
      else
        some ((false, ()), ())
    | .inr l13 =>
      some ((l13.1, ()), ())
noncomputable def ct_S_l2Hunks : Ct := ⟨[(.bor, (.int .i64)), (.bor, S_impl_Hunk)], [(.bool, .b)], fun x => f_S_l2Hunks x.1 x.2.1⟩
noncomputable def cx_S_l2Hunks : Cx := ⟨tab, arrs, [(109, ct_S_l1In), (143, ct_S_l1Line)], [], gl, []⟩
theorem eb_S_l2Hunks_2 (t0 : PV (.int .i64)) (t1 : PV S_impl_Hunk) (t9 : PV S_impl_Hunk) (t10 : PV (.int .i64)) (t11 : PV (.int .i64)) : denK cx_S_l2Hunks (rcN cx_S_l2Hunks 0) pl_S_l2Hunks 0 ((loopsOf (bodyOf Try.f71)).getD 0 .skip) (fillS sh_S_l2Hunks_2 (t0, t1, t9, t10, t11, ())) (roundK 0 lp_S_l2Hunks_2) = b_S_l2Hunks_2 t0 t1 t9 t10 t11 := by kernel_rfl
theorem eb_S_l2Hunks_7 (t0 : PV (.int .i64)) (t1 : PV S_impl_Hunk) (t9 : PV S_impl_Hunk) (t10 : PV (.int .i64)) (t11 : PV (.int .i64)) (t77 : PV S_string) (t78 : PV (.int .i64)) (t79 : PV (.int .i64)) : denK cx_S_l2Hunks (rcN cx_S_l2Hunks 0) pl_S_l2Hunks 0 ((loopsOf (bodyOf Try.f71)).getD 1 .skip) (fillS sh_S_l2Hunks_7 (t0, t1, t9, t10, t11, t77, t78, t79, ())) (roundK 0 lp_S_l2Hunks_7) = b_S_l2Hunks_7 t0 t1 t9 t10 t11 t77 t78 t79 := by kernel_rfl
theorem ef_S_l2Hunks (t0 : PV (.int .i64)) (t1 : PV S_impl_Hunk) : denF cx_S_l2Hunks 0 pl_S_l2Hunks Try.f71.ntmps (bodyOf Try.f71) Try.f71.results.toList [(.bor, (.int .i64)), (.bor, S_impl_Hunk)] [(.bool, .b)] (t0, t1, ()) = f_S_l2Hunks t0 t1 := by kernel_rfl
theorem ok_S_l2Hunks : FnOk gl Try.prog 71 ct_S_l2Hunks :=
  fnOk (cx := cx_S_l2Hunks) (pl := pl_S_l2Hunks) (dp := 0) (ok0_of tabOk (by unfold ArrOk; kernel_rfl) mix ⟨ok_S_l1In, ok_S_l1Line, trivial⟩ trivial) Try.func71 (by kernel_rfl) (by kernel_rfl) (by kernel_rfl)
    (by rw [show loopsOf (bodyOf Try.f71) = [((loopsOf (bodyOf Try.f71)).getD 0 .skip), ((loopsOf (bodyOf Try.f71)).getD 1 .skip)] from by kernel_rfl]; exact ⟨(by rw [show lookup pl_S_l2Hunks.loops (firstId ((loopsOf (bodyOf Try.f71)).getD 0 .skip)) = some lp_S_l2Hunks_2 from by kernel_rfl]; exact fun d z h => (eb_S_l2Hunks_2 d.1 d.2.1 d.2.2.1 d.2.2.2.1 d.2.2.2.2.1).trans h), (by rw [show lookup pl_S_l2Hunks.loops (firstId ((loopsOf (bodyOf Try.f71)).getD 1 .skip)) = some lp_S_l2Hunks_7 from by kernel_rfl]; exact fun d z h => (eb_S_l2Hunks_7 d.1 d.2.1 d.2.2.1 d.2.2.2.1 d.2.2.2.2.1 d.2.2.2.2.2.1 d.2.2.2.2.2.2.1 d.2.2.2.2.2.2.2.1).trans h), trivial⟩) (fun x => ef_S_l2Hunks x.1 x.2.1)
noncomputable def pl_S_l2Asked : Plan := ⟨[], [], 0, 0⟩
noncomputable def f_S_l2Asked (t0 : PV S_string) (t1 : PV S_impl_Hunk) : Option (PVs [.bool] × PVs []) :=
  (f_S_l1Good t0).bind fun r1 =>
    bif r1.1.1 then
      (f_S_l2Hunks (t0.length : Int) t1).bind fun r2 =>
        some ((r2.1.1, ()), ())
    else
      some ((false, ()), ())
noncomputable def ct_S_l2Asked : Ct := ⟨[(.bor, S_string), (.bor, S_impl_Hunk)], [(.bool, .b)], fun x => f_S_l2Asked x.1 x.2.1⟩
noncomputable def cx_S_l2Asked : Cx := ⟨tab, arrs, [(71, ct_S_l2Hunks), (92, ct_S_l1Good)], [], gl, []⟩
theorem ef_S_l2Asked (t0 : PV S_string) (t1 : PV S_impl_Hunk) : denF cx_S_l2Asked 0 pl_S_l2Asked Try.f187.ntmps (bodyOf Try.f187) Try.f187.results.toList [(.bor, S_string), (.bor, S_impl_Hunk)] [(.bool, .b)] (t0, t1, ()) = f_S_l2Asked t0 t1 := by kernel_rfl
theorem ok_S_l2Asked : FnOk gl Try.prog 187 ct_S_l2Asked :=
  fnOk (cx := cx_S_l2Asked) (pl := pl_S_l2Asked) (dp := 0) (ok0_of tabOk (by unfold ArrOk; kernel_rfl) mix ⟨ok_S_l2Hunks, ok_S_l1Good, trivial⟩ trivial) Try.func187 (by kernel_rfl) (by kernel_rfl) (by kernel_rfl)
    (by rw [show loopsOf (bodyOf Try.f187) = [] from by kernel_rfl]; exact trivial) (fun x => ef_S_l2Asked x.1 x.2.1)
noncomputable def sh_S_l2Patch_4 : List Sh := mkSh 37 [(0, .val S_string .b), (5, .val S_string (.row .b)), (6, .val (.int .i64) .b), (9, .val S_impl_Hunk .b), (10, .val (.int .i64) .b), (11, .val (.int .i64) .b)]
noncomputable def o_S_l2Patch_4 : List Out := [⟨.exit 0, ⟨[], [0, 5, 6], []⟩, mkSh 37 [(0, .val S_string .b), (5, .val S_string (.row .b)), (6, .val (.int .i64) .b)]⟩]
noncomputable def b_S_l2Patch_4 (t0 : PV S_string) (t5 : PV S_string) (t6 : PV (.int .i64)) (t9 : PV S_impl_Hunk) (t10 : PV (.int .i64)) (t11 : PV (.int .i64)) : Option ((PV S_string × PV S_string × PV (.int .i64) × PV S_impl_Hunk × PV (.int .i64) × PV (.int .i64) × Unit) ⊕ ((PV S_string × PV S_string × PV (.int .i64) × Unit))) :=
  bif (decide (t11 < t10)) then
    bif inB t11 t9.length then
      bif cutB t6 ((t9.getD t11.toNat (dflt Y_impl_Hunk)).1) t0.length then
        bif roomB (t5.length + (cutL t6 ((t9.getD t11.toNat (dflt Y_impl_Hunk)).1) t0).length) then
          bif roomB ((t5 ++ (cutL t6 ((t9.getD t11.toNat (dflt Y_impl_Hunk)).1) t0)).length + ((((t9.getD t11.toNat (dflt Y_impl_Hunk)).2).2).1).length) then
            some (.inl (t0, ((t5 ++ (cutL t6 ((t9.getD t11.toNat (dflt Y_impl_Hunk)).1) t0)) ++ ((((t9.getD t11.toNat (dflt Y_impl_Hunk)).2).2).1)), (IntKind.wrap .i64 (((t9.getD t11.toNat (dflt Y_impl_Hunk)).1) + (((t9.getD t11.toNat (dflt Y_impl_Hunk)).2).1))), t9, t10, (IntKind.wrap .i64 (t11 + 1)), ()))
          else
            none
        else
          none
      else
        none
    else
      none
  else
    some (.inr (t0, t5, t6, ()))
noncomputable def w_S_l2Patch_4 : PV S_string × PV S_string × PV (.int .i64) × PV S_impl_Hunk × PV (.int .i64) × PV (.int .i64) × Unit → Option ((PV S_string × PV S_string × PV (.int .i64) × Unit)) := fix fun d => b_S_l2Patch_4 d.1 d.2.1 d.2.2.1 d.2.2.2.1 d.2.2.2.2.1 d.2.2.2.2.2.1
noncomputable def lp_S_l2Patch_4 : Lp := ⟨⟨[], [0, 5, 6, 9, 10, 11], []⟩, sh_S_l2Patch_4, o_S_l2Patch_4, fun d => b_S_l2Patch_4 d.1 d.2.1 d.2.2.1 d.2.2.2.1 d.2.2.2.2.1 d.2.2.2.2.2.1⟩
noncomputable def pl_S_l2Patch : Plan := ⟨[], [(4, lp_S_l2Patch_4)], 0, 0⟩
noncomputable def f_S_l2Patch (t0 : PV S_string) (t1 : PV S_impl_Hunk) : Option (PVs [S_string] × PVs []) :=
  (w_S_l2Patch_4 (t0, [], 0, t1, (t1.length : Int), 0, ())).bind fun l2 =>
    bif cutB l2.2.2.1 (l2.1.length : Int) l2.1.length then
      bif roomB (l2.2.1.length + (cutL l2.2.2.1 (l2.1.length : Int) l2.1).length) then
        some (((l2.2.1 ++ (cutL l2.2.2.1 (l2.1.length : Int) l2.1)), ()), ())
      else
        none
    else
      none
noncomputable def ct_S_l2Patch : Ct := ⟨[(.bor, S_string), (.bor, S_impl_Hunk)], [(S_string, (.row .b))], fun x => f_S_l2Patch x.1 x.2.1⟩
noncomputable def cx_S_l2Patch : Cx := ⟨tab, arrs, [], [], gl, []⟩
theorem eb_S_l2Patch_4 (t0 : PV S_string) (t5 : PV S_string) (t6 : PV (.int .i64)) (t9 : PV S_impl_Hunk) (t10 : PV (.int .i64)) (t11 : PV (.int .i64)) : denK cx_S_l2Patch (rcN cx_S_l2Patch 0) pl_S_l2Patch 0 ((loopsOf (bodyOf Try.f72)).getD 0 .skip) (fillS sh_S_l2Patch_4 (t0, t5, t6, t9, t10, t11, ())) (roundK 0 lp_S_l2Patch_4) = b_S_l2Patch_4 t0 t5 t6 t9 t10 t11 := by kernel_rfl
theorem ef_S_l2Patch (t0 : PV S_string) (t1 : PV S_impl_Hunk) : denF cx_S_l2Patch 0 pl_S_l2Patch Try.f72.ntmps (bodyOf Try.f72) Try.f72.results.toList [(.bor, S_string), (.bor, S_impl_Hunk)] [(S_string, (.row .b))] (t0, t1, ()) = f_S_l2Patch t0 t1 := by kernel_rfl
theorem ok_S_l2Patch : FnOk gl Try.prog 72 ct_S_l2Patch :=
  fnOk (cx := cx_S_l2Patch) (pl := pl_S_l2Patch) (dp := 0) (ok0_of tabOk (by unfold ArrOk; kernel_rfl) mix trivial trivial) Try.func72 (by kernel_rfl) (by kernel_rfl) (by kernel_rfl)
    (by rw [show loopsOf (bodyOf Try.f72) = [((loopsOf (bodyOf Try.f72)).getD 0 .skip)] from by kernel_rfl]; exact ⟨(by rw [show lookup pl_S_l2Patch.loops (firstId ((loopsOf (bodyOf Try.f72)).getD 0 .skip)) = some lp_S_l2Patch_4 from by kernel_rfl]; exact fun d z h => (eb_S_l2Patch_4 d.1 d.2.1 d.2.2.1 d.2.2.2.1 d.2.2.2.2.1 d.2.2.2.2.2.1).trans h), trivial⟩) (fun x => ef_S_l2Patch x.1 x.2.1)
noncomputable def pl_S_Patch : Plan := ⟨[], [], 0, 0⟩
noncomputable def f_S_Patch (t0 : PV S_string) (t1 : PV S_impl_Hunk) : Option (PVs [S_string, .bool] × PVs []) :=
  (f_S_l2Asked t0 t1).bind fun r4 =>
    bif (!r4.1.1) then
      some (([], false, ()), ())
    else
      (f_S_l2Patch t0 t1).bind fun r6 =>
        (f_S_l1Good r6.1.1).bind fun r10 =>
          bif (!r10.1.1) then
            some (([], false, ()), ())
          else
            some ((r6.1.1, true, ()), ())
noncomputable def ct_S_Patch : Ct := ⟨[(.bor, S_string), (.bor, S_impl_Hunk)], [(S_string, (.row .b)), (.bool, .b)], fun x => f_S_Patch x.1 x.2.1⟩
noncomputable def cx_S_Patch : Cx := ⟨tab, arrs, [(72, ct_S_l2Patch), (92, ct_S_l1Good), (187, ct_S_l2Asked)], [], gl, []⟩
theorem ef_S_Patch (t0 : PV S_string) (t1 : PV S_impl_Hunk) : denF cx_S_Patch 0 pl_S_Patch Try.f140.ntmps (bodyOf Try.f140) Try.f140.results.toList [(.bor, S_string), (.bor, S_impl_Hunk)] [(S_string, (.row .b)), (.bool, .b)] (t0, t1, ()) = f_S_Patch t0 t1 := by kernel_rfl
theorem ok_S_Patch : FnOk gl Try.prog 140 ct_S_Patch :=
  fnOk (cx := cx_S_Patch) (pl := pl_S_Patch) (dp := 0) (ok0_of tabOk (by unfold ArrOk; kernel_rfl) mix ⟨ok_S_l2Patch, ok_S_l1Good, ok_S_l2Asked, trivial⟩ trivial) Try.func140 (by kernel_rfl) (by kernel_rfl) (by kernel_rfl)
    (by rw [show loopsOf (bodyOf Try.f140) = [] from by kernel_rfl]; exact trivial) (fun x => ef_S_Patch x.1 x.2.1)
noncomputable def sh_S_l13Good_3 : List Sh := mkSh 36 [(1, .var Y_impl_Series .b), (3, .val S_string .b), (11, .val S_S_impl_Hunk .b), (12, .val (.int .i64) .b), (13, .val (.int .i64) .b)]
noncomputable def o_S_l13Good_3 : List Out := [⟨.exit 0, ⟨[], [1, 31, 32, 33, 34], []⟩, mkSh 36 [(1, .var Y_impl_Series .b)]⟩, ⟨.ret, ⟨[], [2], []⟩, mkSh 36 [(2, .val .bool .b)]⟩]
noncomputable def b_S_l13Good_3 (t1 : PV Y_impl_Series) (t3 : PV S_string) (t11 : PV S_S_impl_Hunk) (t12 : PV (.int .i64)) (t13 : PV (.int .i64)) : Option ((PV Y_impl_Series × PV S_string × PV S_S_impl_Hunk × PV (.int .i64) × PV (.int .i64) × Unit) ⊕ ((PV Y_impl_Series × Unit) ⊕ (PV .bool × Unit))) :=
  bif (decide (t13 < t12)) then
    bif inB t13 t11.length then
      (f_S_Patch t3 (t11.getD t13.toNat [])).bind fun r8 =>
        bif (!r8.1.2.1) then
          some (.inr (.inr (false, ())))
        else
          some (.inl (t1, r8.1.1, t11, t12, (IntKind.wrap .i64 (t13 + 1)), ()))
    else
      none
  else
    some (.inr (.inl (t1, ())))
noncomputable def w_S_l13Good_3 : PV Y_impl_Series × PV S_string × PV S_S_impl_Hunk × PV (.int .i64) × PV (.int .i64) × Unit → Option ((PV Y_impl_Series × Unit) ⊕ (PV .bool × Unit)) := fix fun d => b_S_l13Good_3 d.1 d.2.1 d.2.2.1 d.2.2.2.1 d.2.2.2.2.1
noncomputable def lp_S_l13Good_3 : Lp := ⟨⟨[(3, .b)], [1, 3, 11, 12, 13, 31, 32, 33, 34], []⟩, sh_S_l13Good_3, o_S_l13Good_3, fun d => b_S_l13Good_3 d.1 d.2.1 d.2.2.1 d.2.2.2.1 d.2.2.2.2.1⟩
noncomputable def pl_S_l13Good : Plan := ⟨[], [(3, lp_S_l13Good_3)], 0, 0⟩
noncomputable def f_S_l13Good (t0 : PV Y_impl_Series) : Option (PVs [.bool] × PVs []) :=
  (w_S_l13Good_3 (t0, t0.1, t0.2.1, (t0.2.1.length : Int), 0, ())).bind fun x14 =>
    match x14 with
    | .inl l11 =>
      (f_S_l1Good l11.1.1).bind fun r12 =>
        bif r12.1.1 then
          some (((decide ((l11.1.2.1.length : Int) < 8)), ()), ())
        else
          some ((false, ()), ())
    | .inr l13 =>
      some ((l13.1, ()), ())
noncomputable def ct_S_l13Good : Ct := ⟨[(.bor, Y_impl_Series)], [(.bool, .b)], fun x => f_S_l13Good x.1⟩
noncomputable def cx_S_l13Good : Cx := ⟨tab, arrs, [(92, ct_S_l1Good), (140, ct_S_Patch)], [], gl, []⟩
theorem eb_S_l13Good_3 (t1 : PV Y_impl_Series) (t3 : PV S_string) (t11 : PV S_S_impl_Hunk) (t12 : PV (.int .i64)) (t13 : PV (.int .i64)) : denK cx_S_l13Good (rcN cx_S_l13Good 0) pl_S_l13Good 0 ((loopsOf (bodyOf Try.f122)).getD 0 .skip) (fillS sh_S_l13Good_3 (t1, t3, t11, t12, t13, ())) (roundK 0 lp_S_l13Good_3) = b_S_l13Good_3 t1 t3 t11 t12 t13 := by kernel_rfl
theorem ef_S_l13Good (t0 : PV Y_impl_Series) : denF cx_S_l13Good 0 pl_S_l13Good Try.f122.ntmps (bodyOf Try.f122) Try.f122.results.toList [(.bor, Y_impl_Series)] [(.bool, .b)] (t0, ()) = f_S_l13Good t0 := by kernel_rfl
theorem ok_S_l13Good : FnOk gl Try.prog 122 ct_S_l13Good :=
  fnOk (cx := cx_S_l13Good) (pl := pl_S_l13Good) (dp := 0) (ok0_of tabOk (by unfold ArrOk; kernel_rfl) mix ⟨ok_S_l1Good, ok_S_Patch, trivial⟩ trivial) Try.func122 (by kernel_rfl) (by kernel_rfl) (by kernel_rfl)
    (by rw [show loopsOf (bodyOf Try.f122) = [((loopsOf (bodyOf Try.f122)).getD 0 .skip)] from by kernel_rfl]; exact ⟨(by rw [show lookup pl_S_l13Good.loops (firstId ((loopsOf (bodyOf Try.f122)).getD 0 .skip)) = some lp_S_l13Good_3 from by kernel_rfl]; exact fun d z h => (eb_S_l13Good_3 d.1 d.2.1 d.2.2.1 d.2.2.2.1 d.2.2.2.2.1).trans h), trivial⟩) (fun x => ef_S_l13Good x.1)
noncomputable def pl_S_l1OwnT : Plan := ⟨[], [], 0, 0⟩
noncomputable def f_S_l1OwnT (t0 : PV S_string) : Option (PVs [S_string] × PVs []) :=
  bif roomB (([] : PV S_string).length + t0.length) then
    some (((([] : PV S_string) ++ t0), ()), ())
  else
    none
noncomputable def ct_S_l1OwnT : Ct := ⟨[(.bor, S_string)], [(S_string, (.row .b))], fun x => f_S_l1OwnT x.1⟩
noncomputable def cx_S_l1OwnT : Cx := ⟨tab, arrs, [], [], gl, []⟩
theorem ef_S_l1OwnT (t0 : PV S_string) : denF cx_S_l1OwnT 0 pl_S_l1OwnT Try.f111.ntmps (bodyOf Try.f111) Try.f111.results.toList [(.bor, S_string)] [(S_string, (.row .b))] (t0, ()) = f_S_l1OwnT t0 := by kernel_rfl
theorem ok_S_l1OwnT : FnOk gl Try.prog 111 ct_S_l1OwnT :=
  fnOk (cx := cx_S_l1OwnT) (pl := pl_S_l1OwnT) (dp := 0) (ok0_of tabOk (by unfold ArrOk; kernel_rfl) mix trivial trivial) Try.func111 (by kernel_rfl) (by kernel_rfl) (by kernel_rfl)
    (by rw [show loopsOf (bodyOf Try.f111) = [] from by kernel_rfl]; exact trivial) (fun x => ef_S_l1OwnT x.1)
noncomputable def sh_S_l13At_3 : List Sh := mkSh 25 [(5, .val S_string (.row .b)), (14, .val S_S_impl_Hunk .b), (15, .val (.int .i64) .b), (16, .val (.int .i64) .b)]
noncomputable def o_S_l13At_3 : List Out := [⟨.exit 0, ⟨[], [5], []⟩, mkSh 25 [(5, .val S_string (.row .b))]⟩]
noncomputable def b_S_l13At_3 (t5 : PV S_string) (t14 : PV S_S_impl_Hunk) (t15 : PV (.int .i64)) (t16 : PV (.int .i64)) : Option ((PV S_string × PV S_S_impl_Hunk × PV (.int .i64) × PV (.int .i64) × Unit) ⊕ ((PV S_string × Unit))) :=
  bif (decide (t16 < t15)) then
    bif inB t16 t14.length then
      (f_S_l2Patch t5 (t14.getD t16.toNat [])).bind fun r4 =>
        some (.inl (r4.1.1, t14, t15, (IntKind.wrap .i64 (t16 + 1)), ()))
    else
      none
  else
    some (.inr (t5, ()))
noncomputable def w_S_l13At_3 : PV S_string × PV S_S_impl_Hunk × PV (.int .i64) × PV (.int .i64) × Unit → Option ((PV S_string × Unit)) := fix fun d => b_S_l13At_3 d.1 d.2.1 d.2.2.1 d.2.2.2.1
noncomputable def lp_S_l13At_3 : Lp := ⟨⟨[], [5, 14, 15, 16], []⟩, sh_S_l13At_3, o_S_l13At_3, fun d => b_S_l13At_3 d.1 d.2.1 d.2.2.1 d.2.2.2.1⟩
noncomputable def pl_S_l13At : Plan := ⟨[], [(3, lp_S_l13At_3)], 0, 0⟩
noncomputable def f_S_l13At (t0 : PV Y_impl_Series) (t1 : PV (.int .i64)) : Option (PVs [S_string] × PVs []) :=
  (f_S_l1OwnT t0.1).bind fun r2 =>
    bif cutB 0 t1 t0.2.1.length then
      (w_S_l13At_3 (r2.1.1, (cutL 0 t1 t0.2.1), ((cutL 0 t1 t0.2.1).length : Int), 0, ())).bind fun l6 =>
        some ((l6.1, ()), ())
    else
      none
noncomputable def ct_S_l13At : Ct := ⟨[(.bor, Y_impl_Series), (.bor, (.int .i64))], [(S_string, (.row .b))], fun x => f_S_l13At x.1 x.2.1⟩
noncomputable def cx_S_l13At : Cx := ⟨tab, arrs, [(72, ct_S_l2Patch), (111, ct_S_l1OwnT)], [], gl, []⟩
theorem eb_S_l13At_3 (t5 : PV S_string) (t14 : PV S_S_impl_Hunk) (t15 : PV (.int .i64)) (t16 : PV (.int .i64)) : denK cx_S_l13At (rcN cx_S_l13At 0) pl_S_l13At 0 ((loopsOf (bodyOf Try.f124)).getD 0 .skip) (fillS sh_S_l13At_3 (t5, t14, t15, t16, ())) (roundK 0 lp_S_l13At_3) = b_S_l13At_3 t5 t14 t15 t16 := by kernel_rfl
theorem ef_S_l13At (t0 : PV Y_impl_Series) (t1 : PV (.int .i64)) : denF cx_S_l13At 0 pl_S_l13At Try.f124.ntmps (bodyOf Try.f124) Try.f124.results.toList [(.bor, Y_impl_Series), (.bor, (.int .i64))] [(S_string, (.row .b))] (t0, t1, ()) = f_S_l13At t0 t1 := by kernel_rfl
theorem ok_S_l13At : FnOk gl Try.prog 124 ct_S_l13At :=
  fnOk (cx := cx_S_l13At) (pl := pl_S_l13At) (dp := 0) (ok0_of tabOk (by unfold ArrOk; kernel_rfl) mix ⟨ok_S_l2Patch, ok_S_l1OwnT, trivial⟩ trivial) Try.func124 (by kernel_rfl) (by kernel_rfl) (by kernel_rfl)
    (by rw [show loopsOf (bodyOf Try.f124) = [((loopsOf (bodyOf Try.f124)).getD 0 .skip)] from by kernel_rfl]; exact ⟨(by rw [show lookup pl_S_l13At.loops (firstId ((loopsOf (bodyOf Try.f124)).getD 0 .skip)) = some lp_S_l13At_3 from by kernel_rfl]; exact fun d z h => (eb_S_l13At_3 d.1 d.2.1 d.2.2.1 d.2.2.2.1).trans h), trivial⟩) (fun x => ef_S_l13At x.1 x.2.1)
noncomputable def o_S_l2Place_9 : List Out := [⟨.normal, ⟨[], [1, 5, 8, 9, 10], []⟩, mkSh 39 [(1, .val (.int .i64) .b), (5, .val (.int .i64) .b), (8, .val S_impl_Hunk .b), (9, .val (.int .i64) .b), (10, .val (.int .i64) .b)]⟩, ⟨.ret, ⟨[], [4], []⟩, mkSh 39 [(4, .val (.int .i64) .b)]⟩]
noncomputable def sh_S_l2Place_3 : List Sh := mkSh 39 [(1, .val (.int .i64) .b), (5, .val (.int .i64) .b), (8, .val S_impl_Hunk .b), (9, .val (.int .i64) .b), (10, .val (.int .i64) .b)]
noncomputable def o_S_l2Place_3 : List Out := [⟨.exit 0, ⟨[], [1, 5], []⟩, mkSh 39 [(1, .val (.int .i64) .b), (5, .val (.int .i64) .b)]⟩, ⟨.ret, ⟨[], [4], []⟩, mkSh 39 [(4, .val (.int .i64) .b)]⟩]
noncomputable def b_S_l2Place_3 (t1 : PV (.int .i64)) (t5 : PV (.int .i64)) (t8 : PV S_impl_Hunk) (t9 : PV (.int .i64)) (t10 : PV (.int .i64)) : Option ((PV (.int .i64) × PV (.int .i64) × PV S_impl_Hunk × PV (.int .i64) × PV (.int .i64) × Unit) ⊕ ((PV (.int .i64) × PV (.int .i64) × Unit) ⊕ (PV (.int .i64) × Unit))) :=
  bif (decide (t10 < t9)) then
    ((
        bif inB t10 t8.length then
          bif (decide ((IntKind.wrap .i64 (((t8.getD t10.toNat (dflt Y_impl_Hunk)).1) + (((t8.getD t10.toNat (dflt Y_impl_Hunk)).2).1))) ≤ t1)) then
            some (.inl (t1, (IntKind.wrap .i64 (t5 + (IntKind.wrap .i64 ((((((t8.getD t10.toNat (dflt Y_impl_Hunk)).2).2).1).length : Int) - (((t8.getD t10.toNat (dflt Y_impl_Hunk)).2).1))))), t8, t9, t10, ()))
          else
            bif (decide (((t8.getD t10.toNat (dflt Y_impl_Hunk)).1) ≤ t1)) then
              some (.inr ((-1), ()))
            else
              some (.inl (t1, t5, t8, t9, t10, ()))
        else
          none : Option ((PV (.int .i64) × PV (.int .i64) × PV S_impl_Hunk × PV (.int .i64) × PV (.int .i64) × Unit) ⊕ (PV (.int .i64) × Unit)))).bind fun x7 =>
      match x7 with
      | .inl j1 =>
        some (.inl (j1.1, j1.2.1, j1.2.2.1, j1.2.2.2.1, (IntKind.wrap .i64 (j1.2.2.2.2.1 + 1)), ()))
      | .inr j2 =>
        some (.inr (.inr (j2.1, ())))
  else
    some (.inr (.inl (t1, t5, ())))
noncomputable def w_S_l2Place_3 : PV (.int .i64) × PV (.int .i64) × PV S_impl_Hunk × PV (.int .i64) × PV (.int .i64) × Unit → Option ((PV (.int .i64) × PV (.int .i64) × Unit) ⊕ (PV (.int .i64) × Unit)) := fix fun d => b_S_l2Place_3 d.1 d.2.1 d.2.2.1 d.2.2.2.1 d.2.2.2.2.1
noncomputable def lp_S_l2Place_3 : Lp := ⟨⟨[], [1, 5, 8, 9, 10], []⟩, sh_S_l2Place_3, o_S_l2Place_3, fun d => b_S_l2Place_3 d.1 d.2.1 d.2.2.1 d.2.2.2.1 d.2.2.2.2.1⟩
noncomputable def pl_S_l2Place : Plan := ⟨[(9, o_S_l2Place_9)], [(3, lp_S_l2Place_3)], 0, 0⟩
noncomputable def f_S_l2Place (t0 : PV S_impl_Hunk) (t1 : PV (.int .i64)) : Option (PVs [(.int .i64)] × PVs []) :=
  (w_S_l2Place_3 (t1, 0, t0, (t0.length : Int), 0, ())).bind fun x8 =>
    match x8 with
    | .inl l5 =>
      some (((IntKind.wrap .i64 (l5.1 + l5.2.1)), ()), ())
    | .inr l6 =>
      some ((l6.1, ()), ())
noncomputable def ct_S_l2Place : Ct := ⟨[(.bor, S_impl_Hunk), (.bor, (.int .i64))], [((.int .i64), .b)], fun x => f_S_l2Place x.1 x.2.1⟩
noncomputable def cx_S_l2Place : Cx := ⟨tab, arrs, [], [], gl, []⟩
theorem eb_S_l2Place_3 (t1 : PV (.int .i64)) (t5 : PV (.int .i64)) (t8 : PV S_impl_Hunk) (t9 : PV (.int .i64)) (t10 : PV (.int .i64)) : denK cx_S_l2Place (rcN cx_S_l2Place 0) pl_S_l2Place 0 ((loopsOf (bodyOf Try.f142)).getD 0 .skip) (fillS sh_S_l2Place_3 (t1, t5, t8, t9, t10, ())) (roundK 0 lp_S_l2Place_3) = b_S_l2Place_3 t1 t5 t8 t9 t10 := by kernel_rfl
theorem ef_S_l2Place (t0 : PV S_impl_Hunk) (t1 : PV (.int .i64)) : denF cx_S_l2Place 0 pl_S_l2Place Try.f142.ntmps (bodyOf Try.f142) Try.f142.results.toList [(.bor, S_impl_Hunk), (.bor, (.int .i64))] [((.int .i64), .b)] (t0, t1, ()) = f_S_l2Place t0 t1 := by kernel_rfl
theorem ok_S_l2Place : FnOk gl Try.prog 142 ct_S_l2Place :=
  fnOk (cx := cx_S_l2Place) (pl := pl_S_l2Place) (dp := 0) (ok0_of tabOk (by unfold ArrOk; kernel_rfl) mix trivial trivial) Try.func142 (by kernel_rfl) (by kernel_rfl) (by kernel_rfl)
    (by rw [show loopsOf (bodyOf Try.f142) = [((loopsOf (bodyOf Try.f142)).getD 0 .skip)] from by kernel_rfl]; exact ⟨(by rw [show lookup pl_S_l2Place.loops (firstId ((loopsOf (bodyOf Try.f142)).getD 0 .skip)) = some lp_S_l2Place_3 from by kernel_rfl]; exact fun d z h => (eb_S_l2Place_3 d.1 d.2.1 d.2.2.1 d.2.2.2.1 d.2.2.2.2.1).trans h), trivial⟩) (fun x => ef_S_l2Place x.1 x.2.1)
noncomputable def o_S_l2Join_7 : List Out := [⟨.normal, ⟨[], [1, 7, 8, 9, 11, 19, 20, 21, 34], []⟩, mkSh 58 [(1, .val S_string .b), (7, .val S_impl_Hunk (.row (.pr .b (.pr .b (.pr (.row .b) .b))))), (8, .val (.int .i64) .b), (9, .val (.int .i64) .b), (11, .var Y__2_int .b), (19, .val S__2_int (.row (.pr .b (.pr .b .b)))), (20, .val (.int .i64) .b), (21, .val (.int .i64) .b), (34, .val .bool .b)]⟩]
noncomputable def o_S_l2Join_8 : List Out := [⟨.normal, ⟨[], [1, 7, 11, 19, 20, 21, 30, 31, 32, 33], []⟩, mkSh 58 [(1, .val S_string .b), (7, .val S_impl_Hunk (.row (.pr .b (.pr .b (.pr (.row .b) .b))))), (11, .var Y__2_int .b), (19, .val S__2_int (.row (.pr .b (.pr .b .b)))), (20, .val (.int .i64) .b), (21, .val (.int .i64) .b)]⟩]
noncomputable def sh_S_l2Join_4 : List Sh := mkSh 58 [(1, .val S_string .b), (7, .val S_impl_Hunk (.row (.pr .b (.pr .b (.pr (.row .b) .b))))), (8, .val (.int .i64) .b), (9, .val (.int .i64) .b), (19, .val S__2_int (.row (.pr .b (.pr .b .b)))), (20, .val (.int .i64) .b), (21, .val (.int .i64) .b)]
noncomputable def o_S_l2Join_4 : List Out := [⟨.exit 0, ⟨[], [7], []⟩, mkSh 58 [(7, .val S_impl_Hunk (.row (.pr .b (.pr .b (.pr (.row .b) .b)))))]⟩]
noncomputable def b_S_l2Join_4 (t1 : PV S_string) (t7 : PV S_impl_Hunk) (t8 : PV (.int .i64)) (t9 : PV (.int .i64)) (t19 : PV S__2_int) (t20 : PV (.int .i64)) (t21 : PV (.int .i64)) : Option ((PV S_string × PV S_impl_Hunk × PV (.int .i64) × PV (.int .i64) × PV S__2_int × PV (.int .i64) × PV (.int .i64) × Unit) ⊕ ((PV S_impl_Hunk × Unit))) :=
  bif (decide (t21 < t20)) then
    bif inB t21 t19.length then
      ((
          ((
              bif (decide (((t19.getD t21.toNat (dflt Y__2_int)).1) > t8)) then
                some (t1, t7, t8, t9, (t19.getD t21.toNat (dflt Y__2_int)), t19, t20, t21, true, ())
              else
                some (t1, t7, t8, t9, (t19.getD t21.toNat (dflt Y__2_int)), t19, t20, t21, (decide ((((t19.getD t21.toNat (dflt Y__2_int)).2).1) > t9)), ()) : Option ((PV S_string × PV S_impl_Hunk × PV (.int .i64) × PV (.int .i64) × PV Y__2_int × PV S__2_int × PV (.int .i64) × PV (.int .i64) × PV .bool × Unit)))).bind fun j4 =>
            bif j4.2.2.2.2.2.2.2.2.1 then
              bif cutB j4.2.2.2.1 j4.2.2.2.2.1.2.1 j4.1.length then
                (f_S_l1OwnT (cutL j4.2.2.2.1 j4.2.2.2.2.1.2.1 j4.1)).bind fun r5 =>
                  bif roomB (j4.2.1.length + [(j4.2.2.1, ((IntKind.wrap .i64 (j4.2.2.2.2.1.1 - j4.2.2.1)), (r5.1.1, ())))].length) then
                    some (j4.1, (j4.2.1 ++ [(j4.2.2.1, ((IntKind.wrap .i64 (j4.2.2.2.2.1.1 - j4.2.2.1)), (r5.1.1, ())))]), j4.2.2.2.2.1, j4.2.2.2.2.2.1, j4.2.2.2.2.2.2.1, j4.2.2.2.2.2.2.2.1, ())
                  else
                    none
              else
                none
            else
              some (j4.1, j4.2.1, j4.2.2.2.2.1, j4.2.2.2.2.2.1, j4.2.2.2.2.2.2.1, j4.2.2.2.2.2.2.2.1, ()) : Option ((PV S_string × PV S_impl_Hunk × PV Y__2_int × PV S__2_int × PV (.int .i64) × PV (.int .i64) × Unit)))).bind fun j6 =>
        some (.inl (j6.1, j6.2.1, (IntKind.wrap .i64 (j6.2.2.1.1 + 1)), (IntKind.wrap .i64 (j6.2.2.1.2.1 + 1)), j6.2.2.2.1, j6.2.2.2.2.1, (IntKind.wrap .i64 (j6.2.2.2.2.2.1 + 1)), ()))
    else
      none
  else
    some (.inr (t7, ()))
noncomputable def w_S_l2Join_4 : PV S_string × PV S_impl_Hunk × PV (.int .i64) × PV (.int .i64) × PV S__2_int × PV (.int .i64) × PV (.int .i64) × Unit → Option ((PV S_impl_Hunk × Unit)) := fix fun d => b_S_l2Join_4 d.1 d.2.1 d.2.2.1 d.2.2.2.1 d.2.2.2.2.1 d.2.2.2.2.2.1 d.2.2.2.2.2.2.1
noncomputable def lp_S_l2Join_4 : Lp := ⟨⟨[], [1, 7, 8, 9, 19, 20, 21, 30, 31, 32, 33], []⟩, sh_S_l2Join_4, o_S_l2Join_4, fun d => b_S_l2Join_4 d.1 d.2.1 d.2.2.1 d.2.2.2.1 d.2.2.2.2.1 d.2.2.2.2.2.1 d.2.2.2.2.2.2.1⟩
noncomputable def pl_S_l2Join : Plan := ⟨[(7, o_S_l2Join_7), (8, o_S_l2Join_8)], [(4, lp_S_l2Join_4)], 0, 0⟩
noncomputable def f_S_l2Join (t0 : PV S_string) (t1 : PV S_string) (t2 : PV S__2_int) : Option (PVs [S_impl_Hunk] × PVs []) :=
  bif roomB (t2.length + [((t0.length : Int), ((t1.length : Int), ()))].length) then
    (w_S_l2Join_4 (t1, [], 0, 0, (t2 ++ [((t0.length : Int), ((t1.length : Int), ()))]), ((t2 ++ [((t0.length : Int), ((t1.length : Int), ()))]).length : Int), 0, ())).bind fun l8 =>
      some ((l8.1, ()), ())
  else
    none
noncomputable def ct_S_l2Join : Ct := ⟨[(.bor, S_string), (.bor, S_string), (.own, S__2_int)], [(S_impl_Hunk, (.row (.pr .b (.pr .b (.pr (.row .b) .b)))))], fun x => f_S_l2Join x.1 x.2.1 x.2.2.1⟩
noncomputable def cx_S_l2Join : Cx := ⟨tab, arrs, [(111, ct_S_l1OwnT)], [], gl, []⟩
theorem eb_S_l2Join_4 (t1 : PV S_string) (t7 : PV S_impl_Hunk) (t8 : PV (.int .i64)) (t9 : PV (.int .i64)) (t19 : PV S__2_int) (t20 : PV (.int .i64)) (t21 : PV (.int .i64)) : denK cx_S_l2Join (rcN cx_S_l2Join 0) pl_S_l2Join 0 ((loopsOf (bodyOf Try.f176)).getD 0 .skip) (fillS sh_S_l2Join_4 (t1, t7, t8, t9, t19, t20, t21, ())) (roundK 0 lp_S_l2Join_4) = b_S_l2Join_4 t1 t7 t8 t9 t19 t20 t21 := by kernel_rfl
theorem ef_S_l2Join (t0 : PV S_string) (t1 : PV S_string) (t2 : PV S__2_int) : denF cx_S_l2Join 0 pl_S_l2Join Try.f176.ntmps (bodyOf Try.f176) Try.f176.results.toList [(.bor, S_string), (.bor, S_string), (.own, S__2_int)] [(S_impl_Hunk, (.row (.pr .b (.pr .b (.pr (.row .b) .b)))))] (t0, t1, t2, ()) = f_S_l2Join t0 t1 t2 := by kernel_rfl
theorem ok_S_l2Join : FnOk gl Try.prog 176 ct_S_l2Join :=
  fnOk (cx := cx_S_l2Join) (pl := pl_S_l2Join) (dp := 0) (ok0_of tabOk (by unfold ArrOk; kernel_rfl) mix ⟨ok_S_l1OwnT, trivial⟩ trivial) Try.func176 (by kernel_rfl) (by kernel_rfl) (by kernel_rfl)
    (by rw [show loopsOf (bodyOf Try.f176) = [((loopsOf (bodyOf Try.f176)).getD 0 .skip)] from by kernel_rfl]; exact ⟨(by rw [show lookup pl_S_l2Join.loops (firstId ((loopsOf (bodyOf Try.f176)).getD 0 .skip)) = some lp_S_l2Join_4 from by kernel_rfl]; exact fun d z h => (eb_S_l2Join_4 d.1 d.2.1 d.2.2.1 d.2.2.2.1 d.2.2.2.2.1 d.2.2.2.2.2.1 d.2.2.2.2.2.2.1).trans h), trivial⟩) (fun x => ef_S_l2Join x.1 x.2.1 x.2.2.1)
noncomputable def o_S_JoinHunks_4 : List Out := [⟨.normal, ⟨[], [0, 1, 2, 10, 34], []⟩, mkSh 67 [(0, .val S_string .b), (1, .val S_impl_Hunk .b), (2, .val S_impl_Hunk .b), (10, .val S_string (.row .b)), (34, .val .bool .b)]⟩]
noncomputable def o_S_JoinHunks_14 : List Out := [⟨.normal, ⟨[], [0, 1, 2, 10, 12, 36, 37], []⟩, mkSh 67 [(0, .val S_string .b), (1, .val S_impl_Hunk .b), (2, .val S_impl_Hunk .b), (10, .val S_string (.row .b)), (12, .val S__2_int (.row (.pr .b (.pr .b .b)))), (36, .val (.int .i64) .b), (37, .val (.int .i64) .b)]⟩]
noncomputable def sh_S_JoinHunks_7 : List Sh := mkSh 67 [(0, .val S_string .b), (1, .val S_impl_Hunk .b), (2, .val S_impl_Hunk .b), (10, .val S_string (.row .b)), (12, .val S__2_int (.row (.pr .b (.pr .b .b)))), (36, .val (.int .i64) .b), (37, .val (.int .i64) .b)]
noncomputable def o_S_JoinHunks_7 : List Out := [⟨.exit 0, ⟨[], [0, 10, 12], []⟩, mkSh 67 [(0, .val S_string .b), (10, .val S_string (.row .b)), (12, .val S__2_int (.row (.pr .b (.pr .b .b))))]⟩]
noncomputable def b_S_JoinHunks_7 (t0 : PV S_string) (t1 : PV S_impl_Hunk) (t2 : PV S_impl_Hunk) (t10 : PV S_string) (t12 : PV S__2_int) (t36 : PV (.int .i64)) (t37 : PV (.int .i64)) : Option ((PV S_string × PV S_impl_Hunk × PV S_impl_Hunk × PV S_string × PV S__2_int × PV (.int .i64) × PV (.int .i64) × Unit) ⊕ ((PV S_string × PV S_string × PV S__2_int × Unit))) :=
  bif (decide (t37 < t36)) then
    ((
        (f_S_l2Place t1 t37).bind fun r8 =>
          bif (decide (r8.1.1 ≥ 0)) then
            (f_S_l2Place t2 r8.1.1).bind fun r10 =>
              bif (decide (r10.1.1 ≥ 0)) then
                bif roomB (t12.length + [(t37, (r10.1.1, ()))].length) then
                  some (t0, t1, t2, t10, (t12 ++ [(t37, (r10.1.1, ()))]), t36, t37, ())
                else
                  none
              else
                some (t0, t1, t2, t10, t12, t36, t37, ())
          else
            some (t0, t1, t2, t10, t12, t36, t37, ()) : Option ((PV S_string × PV S_impl_Hunk × PV S_impl_Hunk × PV S_string × PV S__2_int × PV (.int .i64) × PV (.int .i64) × Unit)))).bind fun j11 =>
      some (.inl (j11.1, j11.2.1, j11.2.2.1, j11.2.2.2.1, j11.2.2.2.2.1, j11.2.2.2.2.2.1, (IntKind.wrap .i64 (j11.2.2.2.2.2.2.1 + 1)), ()))
  else
    some (.inr (t0, t10, t12, ()))
noncomputable def w_S_JoinHunks_7 : PV S_string × PV S_impl_Hunk × PV S_impl_Hunk × PV S_string × PV S__2_int × PV (.int .i64) × PV (.int .i64) × Unit → Option ((PV S_string × PV S_string × PV S__2_int × Unit)) := fix fun d => b_S_JoinHunks_7 d.1 d.2.1 d.2.2.1 d.2.2.2.1 d.2.2.2.2.1 d.2.2.2.2.2.1 d.2.2.2.2.2.2.1
noncomputable def lp_S_JoinHunks_7 : Lp := ⟨⟨[], [0, 1, 2, 10, 12, 36, 37], []⟩, sh_S_JoinHunks_7, o_S_JoinHunks_7, fun d => b_S_JoinHunks_7 d.1 d.2.1 d.2.2.1 d.2.2.2.1 d.2.2.2.2.1 d.2.2.2.2.2.1 d.2.2.2.2.2.2.1⟩
noncomputable def pl_S_JoinHunks : Plan := ⟨[(4, o_S_JoinHunks_4), (14, o_S_JoinHunks_14)], [(7, lp_S_JoinHunks_7)], 0, 0⟩
noncomputable def f_S_JoinHunks (t0 : PV S_string) (t1 : PV S_impl_Hunk) (t2 : PV S_impl_Hunk) : Option (PVs [S_impl_Hunk, .bool] × PVs []) :=
  (f_S_Patch t0 t1).bind fun r2 =>
    (f_S_Patch r2.1.1 t2).bind fun r4 =>
      ((
          bif (!r2.1.2.1) then
            some (t0, t1, t2, r4.1.1, true, ())
          else
            some (t0, t1, t2, r4.1.1, (!r4.1.2.1), ()) : Option ((PV S_string × PV S_impl_Hunk × PV S_impl_Hunk × PV S_string × PV .bool × Unit)))).bind fun j6 =>
        bif j6.2.2.2.2.1 then
          some (([], false, ()), ())
        else
          (w_S_JoinHunks_7 (j6.1, j6.2.1, j6.2.2.1, j6.2.2.2.1, [], (j6.1.length : Int), 0, ())).bind fun l13 =>
            (f_S_l2Join l13.1 l13.2.1 l13.2.2.1).bind fun r15 =>
              (f_S_l2Hunks (l13.1.length : Int) r15.1.1).bind fun r19 =>
                bif (!r19.1.1) then
                  some (([], false, ()), ())
                else
                  some ((r15.1.1, true, ()), ())
noncomputable def ct_S_JoinHunks : Ct := ⟨[(.bor, S_string), (.bor, S_impl_Hunk), (.bor, S_impl_Hunk)], [(S_impl_Hunk, .b), (.bool, .b)], fun x => f_S_JoinHunks x.1 x.2.1 x.2.2.1⟩
noncomputable def cx_S_JoinHunks : Cx := ⟨tab, arrs, [(71, ct_S_l2Hunks), (140, ct_S_Patch), (142, ct_S_l2Place), (176, ct_S_l2Join)], [], gl, []⟩
theorem eb_S_JoinHunks_7 (t0 : PV S_string) (t1 : PV S_impl_Hunk) (t2 : PV S_impl_Hunk) (t10 : PV S_string) (t12 : PV S__2_int) (t36 : PV (.int .i64)) (t37 : PV (.int .i64)) : denK cx_S_JoinHunks (rcN cx_S_JoinHunks 0) pl_S_JoinHunks 0 ((loopsOf (bodyOf Try.f123)).getD 0 .skip) (fillS sh_S_JoinHunks_7 (t0, t1, t2, t10, t12, t36, t37, ())) (roundK 0 lp_S_JoinHunks_7) = b_S_JoinHunks_7 t0 t1 t2 t10 t12 t36 t37 := by kernel_rfl
theorem ef_S_JoinHunks (t0 : PV S_string) (t1 : PV S_impl_Hunk) (t2 : PV S_impl_Hunk) : denF cx_S_JoinHunks 0 pl_S_JoinHunks Try.f123.ntmps (bodyOf Try.f123) Try.f123.results.toList [(.bor, S_string), (.bor, S_impl_Hunk), (.bor, S_impl_Hunk)] [(S_impl_Hunk, .b), (.bool, .b)] (t0, t1, t2, ()) = f_S_JoinHunks t0 t1 t2 := by kernel_rfl
theorem ok_S_JoinHunks : FnOk gl Try.prog 123 ct_S_JoinHunks :=
  fnOk (cx := cx_S_JoinHunks) (pl := pl_S_JoinHunks) (dp := 0) (ok0_of tabOk (by unfold ArrOk; kernel_rfl) mix ⟨ok_S_l2Hunks, ok_S_Patch, ok_S_l2Place, ok_S_l2Join, trivial⟩ trivial) Try.func123 (by kernel_rfl) (by kernel_rfl) (by kernel_rfl)
    (by rw [show loopsOf (bodyOf Try.f123) = [((loopsOf (bodyOf Try.f123)).getD 0 .skip)] from by kernel_rfl]; exact ⟨(by rw [show lookup pl_S_JoinHunks.loops (firstId ((loopsOf (bodyOf Try.f123)).getD 0 .skip)) = some lp_S_JoinHunks_7 from by kernel_rfl]; exact fun d z h => (eb_S_JoinHunks_7 d.1 d.2.1 d.2.2.1 d.2.2.2.1 d.2.2.2.2.1 d.2.2.2.2.2.1 d.2.2.2.2.2.2.1).trans h), trivial⟩) (fun x => ef_S_JoinHunks x.1 x.2.1 x.2.2.1)
noncomputable def sh_S_l13OwnH_3 : List Sh := mkSh 25 [(3, .val S_impl_Hunk (.row (.pr .b (.pr .b (.pr (.row .b) .b))))), (6, .val S_impl_Hunk .b), (7, .val (.int .i64) .b), (8, .val (.int .i64) .b)]
noncomputable def o_S_l13OwnH_3 : List Out := [⟨.exit 0, ⟨[], [3], []⟩, mkSh 25 [(3, .val S_impl_Hunk (.row (.pr .b (.pr .b (.pr (.row .b) .b)))))]⟩]
noncomputable def b_S_l13OwnH_3 (t3 : PV S_impl_Hunk) (t6 : PV S_impl_Hunk) (t7 : PV (.int .i64)) (t8 : PV (.int .i64)) : Option ((PV S_impl_Hunk × PV S_impl_Hunk × PV (.int .i64) × PV (.int .i64) × Unit) ⊕ ((PV S_impl_Hunk × Unit))) :=
  bif (decide (t8 < t7)) then
    bif inB t8 t6.length then
      (f_S_l1OwnT ((((t6.getD t8.toNat (dflt Y_impl_Hunk)).2).2).1)).bind fun r2 =>
        bif roomB (t3.length + [((t6.getD t8.toNat (dflt Y_impl_Hunk)).1, (((t6.getD t8.toNat (dflt Y_impl_Hunk)).2).1, (r2.1.1, ())))].length) then
          some (.inl ((t3 ++ [((t6.getD t8.toNat (dflt Y_impl_Hunk)).1, (((t6.getD t8.toNat (dflt Y_impl_Hunk)).2).1, (r2.1.1, ())))]), t6, t7, (IntKind.wrap .i64 (t8 + 1)), ()))
        else
          none
    else
      none
  else
    some (.inr (t3, ()))
noncomputable def w_S_l13OwnH_3 : PV S_impl_Hunk × PV S_impl_Hunk × PV (.int .i64) × PV (.int .i64) × Unit → Option ((PV S_impl_Hunk × Unit)) := fix fun d => b_S_l13OwnH_3 d.1 d.2.1 d.2.2.1 d.2.2.2.1
noncomputable def lp_S_l13OwnH_3 : Lp := ⟨⟨[], [3, 6, 7, 8], []⟩, sh_S_l13OwnH_3, o_S_l13OwnH_3, fun d => b_S_l13OwnH_3 d.1 d.2.1 d.2.2.1 d.2.2.2.1⟩
noncomputable def pl_S_l13OwnH : Plan := ⟨[], [(3, lp_S_l13OwnH_3)], 0, 0⟩
noncomputable def f_S_l13OwnH (t0 : PV S_impl_Hunk) : Option (PVs [S_impl_Hunk] × PVs []) :=
  (w_S_l13OwnH_3 ([], t0, (t0.length : Int), 0, ())).bind fun l4 =>
    some ((l4.1, ()), ())
noncomputable def ct_S_l13OwnH : Ct := ⟨[(.bor, S_impl_Hunk)], [(S_impl_Hunk, (.row (.pr .b (.pr .b (.pr .b .b)))))], fun x => f_S_l13OwnH x.1⟩
noncomputable def cx_S_l13OwnH : Cx := ⟨tab, arrs, [(111, ct_S_l1OwnT)], [], gl, []⟩
theorem eb_S_l13OwnH_3 (t3 : PV S_impl_Hunk) (t6 : PV S_impl_Hunk) (t7 : PV (.int .i64)) (t8 : PV (.int .i64)) : denK cx_S_l13OwnH (rcN cx_S_l13OwnH 0) pl_S_l13OwnH 0 ((loopsOf (bodyOf Try.f141)).getD 0 .skip) (fillS sh_S_l13OwnH_3 (t3, t6, t7, t8, ())) (roundK 0 lp_S_l13OwnH_3) = b_S_l13OwnH_3 t3 t6 t7 t8 := by kernel_rfl
theorem ef_S_l13OwnH (t0 : PV S_impl_Hunk) : denF cx_S_l13OwnH 0 pl_S_l13OwnH Try.f141.ntmps (bodyOf Try.f141) Try.f141.results.toList [(.bor, S_impl_Hunk)] [(S_impl_Hunk, (.row (.pr .b (.pr .b (.pr .b .b)))))] (t0, ()) = f_S_l13OwnH t0 := by kernel_rfl
theorem ok_S_l13OwnH : FnOk gl Try.prog 141 ct_S_l13OwnH :=
  fnOk (cx := cx_S_l13OwnH) (pl := pl_S_l13OwnH) (dp := 0) (ok0_of tabOk (by unfold ArrOk; kernel_rfl) mix ⟨ok_S_l1OwnT, trivial⟩ trivial) Try.func141 (by kernel_rfl) (by kernel_rfl) (by kernel_rfl)
    (by rw [show loopsOf (bodyOf Try.f141) = [((loopsOf (bodyOf Try.f141)).getD 0 .skip)] from by kernel_rfl]; exact ⟨(by rw [show lookup pl_S_l13OwnH.loops (firstId ((loopsOf (bodyOf Try.f141)).getD 0 .skip)) = some lp_S_l13OwnH_3 from by kernel_rfl]; exact fun d z h => (eb_S_l13OwnH_3 d.1 d.2.1 d.2.2.1 d.2.2.2.1).trans h), trivial⟩) (fun x => ef_S_l13OwnH x.1)
noncomputable def sh_S_l13Own_3 : List Sh := mkSh 26 [(2, .var Y_impl_Series (.pr (.row .b) (.pr (.row (.row (.pr .b (.pr .b (.pr (.row .b) .b))))) .b))), (3, .var Y_impl_Series (.pr (.row .b) (.pr (.row (.row (.pr .b (.pr .b (.pr .b .b))))) .b))), (11, .val S_S_impl_Hunk .b), (12, .val (.int .i64) .b), (13, .val (.int .i64) .b)]
noncomputable def o_S_l13Own_3 : List Out := [⟨.exit 0, ⟨[], [2, 3], []⟩, mkSh 26 [(2, .var Y_impl_Series (.pr (.row .b) (.pr (.row (.row (.pr .b (.pr .b (.pr (.row .b) .b))))) .b))), (3, .var Y_impl_Series (.pr (.row .b) (.pr (.row (.row (.pr .b (.pr .b (.pr .b .b))))) .b)))]⟩]
noncomputable def b_S_l13Own_3 (t2 : PV Y_impl_Series) (t3 : PV Y_impl_Series) (t11 : PV S_S_impl_Hunk) (t12 : PV (.int .i64)) (t13 : PV (.int .i64)) : Option ((PV Y_impl_Series × PV Y_impl_Series × PV S_S_impl_Hunk × PV (.int .i64) × PV (.int .i64) × Unit) ⊕ ((PV Y_impl_Series × PV Y_impl_Series × Unit))) :=
  bif (decide (t13 < t12)) then
    bif inB t13 t11.length then
      (f_S_l13OwnH (t11.getD t13.toNat [])).bind fun r6 =>
        bif roomB (t3.2.1.length + [r6.1.1].length) then
          some (.inl (t2, (t3.1, ((t3.2.1 ++ [r6.1.1]), t3.2.2)), t11, t12, (IntKind.wrap .i64 (t13 + 1)), ()))
        else
          none
    else
      none
  else
    some (.inr (t2, t3, ()))
noncomputable def w_S_l13Own_3 : PV Y_impl_Series × PV Y_impl_Series × PV S_S_impl_Hunk × PV (.int .i64) × PV (.int .i64) × Unit → Option ((PV Y_impl_Series × PV Y_impl_Series × Unit)) := fix fun d => b_S_l13Own_3 d.1 d.2.1 d.2.2.1 d.2.2.2.1 d.2.2.2.2.1
noncomputable def lp_S_l13Own_3 : Lp := ⟨⟨[(3, (.pr (.row .b) (.pr (.row (.row (.pr .b (.pr .b (.pr .b .b))))) .b)))], [2, 3, 11, 12, 13], []⟩, sh_S_l13Own_3, o_S_l13Own_3, fun d => b_S_l13Own_3 d.1 d.2.1 d.2.2.1 d.2.2.2.1 d.2.2.2.2.1⟩
noncomputable def pl_S_l13Own : Plan := ⟨[], [(3, lp_S_l13Own_3)], 0, 0⟩
noncomputable def f_S_l13Own (t0 : PV Y_impl_Series) : Option (PVs [Y_impl_Series] × PVs []) :=
  (f_S_l1OwnT t0.1).bind fun r2 =>
    (w_S_l13Own_3 ((([] : PV S_string), (([] : PV S_S_impl_Hunk), ())), (r2.1.1, (([] : PV S_S_impl_Hunk), ())), t0.2.1, (t0.2.1.length : Int), 0, ())).bind fun l8 =>
      some ((l8.2.1, ()), ())
noncomputable def ct_S_l13Own : Ct := ⟨[(.bor, Y_impl_Series)], [(Y_impl_Series, .b)], fun x => f_S_l13Own x.1⟩
noncomputable def cx_S_l13Own : Cx := ⟨tab, arrs, [(111, ct_S_l1OwnT), (141, ct_S_l13OwnH)], [], gl, []⟩
theorem eb_S_l13Own_3 (t2 : PV Y_impl_Series) (t3 : PV Y_impl_Series) (t11 : PV S_S_impl_Hunk) (t12 : PV (.int .i64)) (t13 : PV (.int .i64)) : denK cx_S_l13Own (rcN cx_S_l13Own 0) pl_S_l13Own 0 ((loopsOf (bodyOf Try.f125)).getD 0 .skip) (fillS sh_S_l13Own_3 (t2, t3, t11, t12, t13, ())) (roundK 0 lp_S_l13Own_3) = b_S_l13Own_3 t2 t3 t11 t12 t13 := by kernel_rfl
theorem ef_S_l13Own (t0 : PV Y_impl_Series) : denF cx_S_l13Own 0 pl_S_l13Own Try.f125.ntmps (bodyOf Try.f125) Try.f125.results.toList [(.bor, Y_impl_Series)] [(Y_impl_Series, .b)] (t0, ()) = f_S_l13Own t0 := by kernel_rfl
theorem ok_S_l13Own : FnOk gl Try.prog 125 ct_S_l13Own :=
  fnOk (cx := cx_S_l13Own) (pl := pl_S_l13Own) (dp := 0) (ok0_of tabOk (by unfold ArrOk; kernel_rfl) mix ⟨ok_S_l1OwnT, ok_S_l13OwnH, trivial⟩ trivial) Try.func125 (by kernel_rfl) (by kernel_rfl) (by kernel_rfl)
    (by rw [show loopsOf (bodyOf Try.f125) = [((loopsOf (bodyOf Try.f125)).getD 0 .skip)] from by kernel_rfl]; exact ⟨(by rw [show lookup pl_S_l13Own.loops (firstId ((loopsOf (bodyOf Try.f125)).getD 0 .skip)) = some lp_S_l13Own_3 from by kernel_rfl]; exact fun d z h => (eb_S_l13Own_3 d.1 d.2.1 d.2.2.1 d.2.2.2.1 d.2.2.2.2.1).trans h), trivial⟩) (fun x => ef_S_l13Own x.1)
noncomputable def o_S_SquashAt_2 : List Out := [⟨.normal, ⟨[], [1, 2, 4, 21], []⟩, mkSh 66 [(1, .val (.int .i64) .b), (2, .var Y_impl_Series .b), (4, .var Y_impl_Series (.pr (.row .b) (.pr (.row (.row (.pr .b (.pr .b (.pr (.row .b) .b))))) .b))), (21, .val .bool .b)]⟩]
noncomputable def pl_S_SquashAt : Plan := ⟨[(2, o_S_SquashAt_2)], [], 0, 0⟩
noncomputable def f_S_SquashAt (t0 : PV Y_impl_Series) (t1 : PV (.int .i64)) : Option (PVs [Y_impl_Series, .bool] × PVs []) :=
  ((
      (f_S_l13Good t0).bind fun r6 =>
        bif (!r6.1.1) then
          some (t1, t0, (([] : PV S_string), (([] : PV S_S_impl_Hunk), ())), true, ())
        else
          (f_S_l1In t1 0 (IntKind.wrap .i64 ((t0.2.1.length : Int) - 2))).bind fun r7 =>
            some (t1, t0, (([] : PV S_string), (([] : PV S_S_impl_Hunk), ())), (!r7.1.1), ()) : Option ((PV (.int .i64) × PV Y_impl_Series × PV Y_impl_Series × PV .bool × Unit)))).bind fun j8 =>
    bif j8.2.2.2.1 then
      some (((([] : PV S_string), (([] : PV S_S_impl_Hunk), ())), false, ()), ())
    else
      (f_S_l13At j8.2.1 j8.1).bind fun r11 =>
        bif inB j8.1 j8.2.1.2.1.length then
          bif inB (IntKind.wrap .i64 (j8.1 + 1)) j8.2.1.2.1.length then
            (f_S_JoinHunks r11.1.1 (j8.2.1.2.1.getD j8.1.toNat []) (j8.2.1.2.1.getD ((IntKind.wrap .i64 (j8.1 + 1)).toNat) [])).bind fun r12 =>
              bif (!r12.1.2.1) then
                some (((([] : PV S_string), (([] : PV S_S_impl_Hunk), ())), false, ()), ())
              else
                (f_S_l13Own j8.2.1).bind fun r14 =>
                  bif cutB 0 j8.1 r14.1.1.2.1.length then
                    bif roomB (([] : PV S_S_impl_Hunk).length + (cutL 0 j8.1 r14.1.1.2.1).length) then
                      bif roomB ((([] : PV S_S_impl_Hunk) ++ (cutL 0 j8.1 r14.1.1.2.1)).length + [r12.1.1].length) then
                        bif cutB (IntKind.wrap .i64 (j8.1 + 2)) (r14.1.1.2.1.length : Int) r14.1.1.2.1.length then
                          bif roomB (((([] : PV S_S_impl_Hunk) ++ (cutL 0 j8.1 r14.1.1.2.1)) ++ [r12.1.1]).length + (cutL (IntKind.wrap .i64 (j8.1 + 2)) (r14.1.1.2.1.length : Int) r14.1.1.2.1).length) then
                            some (((r14.1.1.1, ((((([] : PV S_S_impl_Hunk) ++ (cutL 0 j8.1 r14.1.1.2.1)) ++ [r12.1.1]) ++ (cutL (IntKind.wrap .i64 (j8.1 + 2)) (r14.1.1.2.1.length : Int) r14.1.1.2.1)), ())), true, ()), ())
                          else
                            none
                        else
                          none
                      else
                        none
                    else
                      none
                  else
                    none
          else
            none
        else
          none
noncomputable def ct_S_SquashAt : Ct := ⟨[(.bor, Y_impl_Series), (.bor, (.int .i64))], [(Y_impl_Series, .b), (.bool, .b)], fun x => f_S_SquashAt x.1 x.2.1⟩
noncomputable def cx_S_SquashAt : Cx := ⟨tab, arrs, [(109, ct_S_l1In), (122, ct_S_l13Good), (123, ct_S_JoinHunks), (124, ct_S_l13At), (125, ct_S_l13Own)], [], gl, []⟩
theorem ef_S_SquashAt (t0 : PV Y_impl_Series) (t1 : PV (.int .i64)) : denF cx_S_SquashAt 0 pl_S_SquashAt Try.f55.ntmps (bodyOf Try.f55) Try.f55.results.toList [(.bor, Y_impl_Series), (.bor, (.int .i64))] [(Y_impl_Series, .b), (.bool, .b)] (t0, t1, ()) = f_S_SquashAt t0 t1 := by kernel_rfl
theorem ok_S_SquashAt : FnOk gl Try.prog 55 ct_S_SquashAt :=
  fnOk (cx := cx_S_SquashAt) (pl := pl_S_SquashAt) (dp := 0) (ok0_of tabOk (by unfold ArrOk; kernel_rfl) mix ⟨ok_S_l1In, ok_S_l13Good, ok_S_JoinHunks, ok_S_l13At, ok_S_l13Own, trivial⟩ trivial) Try.func55 (by kernel_rfl) (by kernel_rfl) (by kernel_rfl)
    (by rw [show loopsOf (bodyOf Try.f55) = [] from by kernel_rfl]; exact trivial) (fun x => ef_S_SquashAt x.1 x.2.1)
noncomputable def pl_I_in : Plan := ⟨[], [], 0, 0⟩
noncomputable def f_I_in (t0 : PV (.int .i64)) (t1 : PV (.int .i64)) (t2 : PV (.int .i64)) : Option (PVs [.bool] × PVs []) :=
  bif (decide (t0 ≥ t1)) then
    some (((decide (t0 ≤ t2)), ()), ())
  else
    some ((false, ()), ())
noncomputable def ct_I_in : Ct := ⟨[(.bor, (.int .i64)), (.bor, (.int .i64)), (.bor, (.int .i64))], [(.bool, .b)], fun x => f_I_in x.1 x.2.1 x.2.2.1⟩
noncomputable def cx_I_in : Cx := ⟨tab, arrs, [], [], gl, []⟩
theorem ef_I_in (t0 : PV (.int .i64)) (t1 : PV (.int .i64)) (t2 : PV (.int .i64)) : denF cx_I_in 0 pl_I_in Try.f104.ntmps (bodyOf Try.f104) Try.f104.results.toList [(.bor, (.int .i64)), (.bor, (.int .i64)), (.bor, (.int .i64))] [(.bool, .b)] (t0, t1, t2, ()) = f_I_in t0 t1 t2 := by kernel_rfl
theorem ok_I_in : FnOk gl Try.prog 104 ct_I_in :=
  fnOk (cx := cx_I_in) (pl := pl_I_in) (dp := 0) (ok0_of tabOk (by unfold ArrOk; kernel_rfl) mix trivial trivial) Try.func104 (by kernel_rfl) (by kernel_rfl) (by kernel_rfl)
    (by rw [show loopsOf (bodyOf Try.f104) = [] from by kernel_rfl]; exact trivial) (fun x => ef_I_in x.1 x.2.1 x.2.2.1)
noncomputable def pl_I_isLine : Plan := ⟨[], [], 0, 0⟩
noncomputable def f_I_isLine (t0 : PV .str) : Option (PVs [.bool] × PVs []) :=
  (f_I_in (t0.length : Int) 1 30).bind fun r1 =>
    bif r1.1.1 then
      bif cutB 0 (IntKind.wrap .i64 ((t0.length : Int) - 1)) t0.length then
        (f_strings_Contains (cutL 0 (IntKind.wrap .i64 ((t0.length : Int) - 1)) t0) [10]).bind fun r2 =>
          some (((!r2.1.1), ()), ())
      else
        none
    else
      some ((false, ()), ())
noncomputable def ct_I_isLine : Ct := ⟨[(.bor, .str)], [(.bool, .b)], fun x => f_I_isLine x.1⟩
noncomputable def cx_I_isLine : Cx := ⟨tab, arrs, [(104, ct_I_in), (215, ct_strings_Contains)], [], gl, []⟩
theorem ef_I_isLine (t0 : PV .str) : denF cx_I_isLine 0 pl_I_isLine Try.f190.ntmps (bodyOf Try.f190) Try.f190.results.toList [(.bor, .str)] [(.bool, .b)] (t0, ()) = f_I_isLine t0 := by kernel_rfl
theorem ok_I_isLine : FnOk gl Try.prog 190 ct_I_isLine :=
  fnOk (cx := cx_I_isLine) (pl := pl_I_isLine) (dp := 0) (ok0_of tabOk (by unfold ArrOk; kernel_rfl) mix ⟨ok_I_in, ok_strings_Contains, trivial⟩ trivial) Try.func190 (by kernel_rfl) (by kernel_rfl) (by kernel_rfl)
    (by rw [show loopsOf (bodyOf Try.f190) = [] from by kernel_rfl]; exact trivial) (fun x => ef_I_isLine x.1)
noncomputable def pl_I_areLines_1 : Plan := ⟨[], [], 0, 0⟩
noncomputable def f_I_areLines_1 (t0 : PV .str) : Option (PVs [.bool] × PVs []) :=
  (f_I_isLine t0).bind fun r1 =>
    some (((!r1.1.1), ()), ())
noncomputable def ct_I_areLines_1 : Ct := ⟨[(.bor, .str)], [(.bool, .b)], fun x => f_I_areLines_1 x.1⟩
noncomputable def cx_I_areLines_1 : Cx := ⟨tab, arrs, [(190, ct_I_isLine)], [], gl, []⟩
theorem ef_I_areLines_1 (t0 : PV .str) : denF cx_I_areLines_1 0 pl_I_areLines_1 Try.f189.ntmps (bodyOf Try.f189) Try.f189.results.toList [(.bor, .str)] [(.bool, .b)] (t0, ()) = f_I_areLines_1 t0 := by kernel_rfl
theorem ok_I_areLines_1 : FnOk gl Try.prog 189 ct_I_areLines_1 :=
  fnOk (cx := cx_I_areLines_1) (pl := pl_I_areLines_1) (dp := 0) (ok0_of tabOk (by unfold ArrOk; kernel_rfl) mix ⟨ok_I_isLine, trivial⟩ trivial) Try.func189 (by kernel_rfl) (by kernel_rfl) (by kernel_rfl)
    (by rw [show loopsOf (bodyOf Try.f189) = [] from by kernel_rfl]; exact trivial) (fun x => ef_I_areLines_1 x.1)
noncomputable def pl_I_areLines_188 : Plan := ⟨[], [], 1, 11⟩
noncomputable def sh_I_areLines_214_2 : List Sh := mkSh 39 [(0, .val S_string .b), (2, .val .bool .b), (3, .val S_string .b), (4, .val (.int .i64) .b), (5, .val .bool .b), (6, .val .bool .b), (7, .val S_string .b), (11, .val S_string .b), (12, .fn 189 []), (15, .val .bool .b), (16, .val S_string .b), (17, .fn 189 []), (20, .val S_string .b), (21, .fn 189 []), (27, .val (.int .i64) .b), (28, .val (.int .i64) .b)]
noncomputable def o_I_areLines_214_2 : List Out := [⟨.exit 0, ⟨[], [], []⟩, mkSh 39 [(0, .val S_string .b), (2, .val .bool .b), (3, .val S_string .b), (4, .val (.int .i64) .b), (5, .val .bool .b), (6, .val .bool .b), (7, .val S_string .b), (11, .val S_string .b), (12, .fn 189 []), (15, .val .bool .b), (16, .val S_string .b), (17, .fn 189 [])]⟩, ⟨.ret, ⟨[], [4], []⟩, mkSh 39 [(0, .val S_string .b), (2, .val .bool .b), (3, .val S_string .b), (4, .val (.int .i64) .b), (5, .val .bool .b), (6, .val .bool .b), (7, .val S_string .b), (11, .val S_string .b), (12, .fn 189 []), (15, .val .bool .b), (16, .val S_string .b), (17, .fn 189 []), (24, .val (.int .i64) .b)]⟩]
noncomputable def b_I_areLines_214_2 (t0 : PV S_string) (t2 : PV .bool) (t3 : PV S_string) (t4 : PV (.int .i64)) (t5 : PV .bool) (t6 : PV .bool) (t7 : PV S_string) (t11 : PV S_string) (t15 : PV .bool) (t16 : PV S_string) (t20 : PV S_string) (t27 : PV (.int .i64)) (t28 : PV (.int .i64)) : Option ((PV S_string × PV .bool × PV S_string × PV (.int .i64) × PV .bool × PV .bool × PV S_string × PV S_string × PV .bool × PV S_string × PV S_string × PV (.int .i64) × PV (.int .i64) × Unit) ⊕ ((PV S_string × PV .bool × PV S_string × PV (.int .i64) × PV .bool × PV .bool × PV S_string × PV S_string × PV .bool × PV S_string × Unit) ⊕ (PV S_string × PV .bool × PV S_string × PV (.int .i64) × PV .bool × PV .bool × PV S_string × PV S_string × PV .bool × PV S_string × PV (.int .i64) × Unit))) :=
  bif (decide (t28 < t27)) then
    bif inB t28 t20.length then
      (f_I_areLines_1 (t20.getD t28.toNat [])).bind fun r4 =>
        bif r4.1.1 then
          some (.inr (.inr (t0, t2, t3, t4, t5, t6, t7, t11, t15, t16, t28, ())))
        else
          some (.inl (t0, t2, t3, t4, t5, t6, t7, t11, t15, t16, t20, t27, (IntKind.wrap .i64 (t28 + 1)), ()))
    else
      none
  else
    some (.inr (.inl (t0, t2, t3, t4, t5, t6, t7, t11, t15, t16, ())))
noncomputable def w_I_areLines_214_2 : PV S_string × PV .bool × PV S_string × PV (.int .i64) × PV .bool × PV .bool × PV S_string × PV S_string × PV .bool × PV S_string × PV S_string × PV (.int .i64) × PV (.int .i64) × Unit → Option ((PV S_string × PV .bool × PV S_string × PV (.int .i64) × PV .bool × PV .bool × PV S_string × PV S_string × PV .bool × PV S_string × Unit) ⊕ (PV S_string × PV .bool × PV S_string × PV (.int .i64) × PV .bool × PV .bool × PV S_string × PV S_string × PV .bool × PV S_string × PV (.int .i64) × Unit)) := fix fun d => b_I_areLines_214_2 d.1 d.2.1 d.2.2.1 d.2.2.2.1 d.2.2.2.2.1 d.2.2.2.2.2.1 d.2.2.2.2.2.2.1 d.2.2.2.2.2.2.2.1 d.2.2.2.2.2.2.2.2.1 d.2.2.2.2.2.2.2.2.2.1 d.2.2.2.2.2.2.2.2.2.2.1 d.2.2.2.2.2.2.2.2.2.2.2.1 d.2.2.2.2.2.2.2.2.2.2.2.2.1
noncomputable def lp_I_areLines_214_2 : Lp := ⟨⟨[], [0, 1, 7, 8], []⟩, sh_I_areLines_214_2, o_I_areLines_214_2, fun d => b_I_areLines_214_2 d.1 d.2.1 d.2.2.1 d.2.2.2.1 d.2.2.2.2.1 d.2.2.2.2.2.1 d.2.2.2.2.2.2.1 d.2.2.2.2.2.2.2.1 d.2.2.2.2.2.2.2.2.1 d.2.2.2.2.2.2.2.2.2.1 d.2.2.2.2.2.2.2.2.2.2.1 d.2.2.2.2.2.2.2.2.2.2.2.1 d.2.2.2.2.2.2.2.2.2.2.2.2.1⟩
noncomputable def pl_I_areLines_214 : Plan := ⟨[], [(2, lp_I_areLines_214_2)], 0, 20⟩
noncomputable def pl_I_areLines : Plan := ⟨[], [], 2, 0⟩
noncomputable def f_I_areLines (t0 : PV S_string) : Option (PVs [.bool] × PVs []) :=
  bif (decide ((t0.length : Int) ≤ 40)) then
    (w_I_areLines_214_2 (t0, false, t0, (t0.length : Int), (decide ((t0.length : Int) ≤ 40)), true, t0, t0, false, t0, t0, (t0.length : Int), 0, ())).bind fun x9 =>
      match x9 with
      | .inl l7 =>
        bif l7.2.2.2.2.2.1 then
          some (((!(decide ((-1) ≥ 0))), ()), ())
        else
          some ((false, ()), ())
      | .inr l8 =>
        bif l8.2.2.2.2.2.1 then
          some (((!(decide (l8.2.2.2.2.2.2.2.2.2.2.1 ≥ 0))), ()), ())
        else
          some ((false, ()), ())
  else
    some ((false, ()), ())
noncomputable def ct_I_areLines : Ct := ⟨[(.bor, S_string)], [(.bool, .b)], fun x => f_I_areLines x.1⟩
noncomputable def cx_I_areLines : Cx := ⟨tab, arrs, [(189, ct_I_areLines_1)], [(188, Try.f188, pl_I_areLines_188), (214, Try.f214, pl_I_areLines_214)], gl, []⟩
theorem eb_I_areLines_214_2 (t0 : PV S_string) (t2 : PV .bool) (t3 : PV S_string) (t4 : PV (.int .i64)) (t5 : PV .bool) (t6 : PV .bool) (t7 : PV S_string) (t11 : PV S_string) (t15 : PV .bool) (t16 : PV S_string) (t20 : PV S_string) (t27 : PV (.int .i64)) (t28 : PV (.int .i64)) : denK cx_I_areLines (rcN cx_I_areLines 0) pl_I_areLines_214 20 ((loopsOf (bodyOf Try.f214)).getD 0 .skip) (fillS sh_I_areLines_214_2 (t0, t2, t3, t4, t5, t6, t7, t11, t15, t16, t20, t27, t28, ())) (roundK 20 lp_I_areLines_214_2) = b_I_areLines_214_2 t0 t2 t3 t4 t5 t6 t7 t11 t15 t16 t20 t27 t28 := by kernel_rfl
theorem ef_I_areLines (t0 : PV S_string) : denF cx_I_areLines 2 pl_I_areLines Try.f147.ntmps (bodyOf Try.f147) Try.f147.results.toList [(.bor, S_string)] [(.bool, .b)] (t0, ()) = f_I_areLines t0 := by kernel_rfl
theorem ok_I_areLines : FnOk gl Try.prog 147 ct_I_areLines :=
  fnOk (cx := cx_I_areLines) (pl := pl_I_areLines) (dp := 2) (ok0_of tabOk (by unfold ArrOk; kernel_rfl) mix ⟨ok_I_areLines_1, trivial⟩ ⟨⟨Try.func188, by kernel_rfl, (by rw [show loopsOf (bodyOf Try.f188) = [] from by kernel_rfl]; exact trivial)⟩, ⟨Try.func214, by kernel_rfl, (by rw [show loopsOf (bodyOf Try.f214) = [((loopsOf (bodyOf Try.f214)).getD 0 .skip)] from by kernel_rfl]; exact ⟨(by rw [show lookup pl_I_areLines_214.loops (firstId ((loopsOf (bodyOf Try.f214)).getD 0 .skip)) = some lp_I_areLines_214_2 from by kernel_rfl]; exact fun d z h => (eb_I_areLines_214_2 d.1 d.2.1 d.2.2.1 d.2.2.2.1 d.2.2.2.2.1 d.2.2.2.2.2.1 d.2.2.2.2.2.2.1 d.2.2.2.2.2.2.2.1 d.2.2.2.2.2.2.2.2.1 d.2.2.2.2.2.2.2.2.2.1 d.2.2.2.2.2.2.2.2.2.2.1 d.2.2.2.2.2.2.2.2.2.2.2.1 d.2.2.2.2.2.2.2.2.2.2.2.2.1).trans h), trivial⟩)⟩, trivial⟩) Try.func147 (by kernel_rfl) (by kernel_rfl) (by kernel_rfl)
    (by rw [show loopsOf (bodyOf Try.f147) = [] from by kernel_rfl]; exact trivial) (fun x => ef_I_areLines x.1)
noncomputable def pl_internal_stringslite_HasSuffix : Plan := ⟨[], [], 0, 0⟩
noncomputable def f_internal_stringslite_HasSuffix (t0 : PV .str) (t1 : PV .str) : Option (PVs [.bool] × PVs []) :=
  bif (decide ((t0.length : Int) ≥ (t1.length : Int))) then
    bif cutB (IntKind.wrap .i64 ((t0.length : Int) - (t1.length : Int))) (t0.length : Int) t0.length then
      some ((((cutL (IntKind.wrap .i64 ((t0.length : Int) - (t1.length : Int))) (t0.length : Int) t0) == t1), ()), ())
    else
      none
  else
    some ((false, ()), ())
noncomputable def ct_internal_stringslite_HasSuffix : Ct := ⟨[(.bor, .str), (.bor, .str)], [(.bool, .b)], fun x => f_internal_stringslite_HasSuffix x.1 x.2.1⟩
noncomputable def cx_internal_stringslite_HasSuffix : Cx := ⟨tab, arrs, [], [], gl, []⟩
theorem ef_internal_stringslite_HasSuffix (t0 : PV .str) (t1 : PV .str) : denF cx_internal_stringslite_HasSuffix 0 pl_internal_stringslite_HasSuffix Try.f216.ntmps (bodyOf Try.f216) Try.f216.results.toList [(.bor, .str), (.bor, .str)] [(.bool, .b)] (t0, t1, ()) = f_internal_stringslite_HasSuffix t0 t1 := by kernel_rfl
theorem ok_internal_stringslite_HasSuffix : FnOk gl Try.prog 216 ct_internal_stringslite_HasSuffix :=
  fnOk (cx := cx_internal_stringslite_HasSuffix) (pl := pl_internal_stringslite_HasSuffix) (dp := 0) (ok0_of tabOk (by unfold ArrOk; kernel_rfl) mix trivial trivial) Try.func216 (by kernel_rfl) (by kernel_rfl) (by kernel_rfl)
    (by rw [show loopsOf (bodyOf Try.f216) = [] from by kernel_rfl]; exact trivial) (fun x => ef_internal_stringslite_HasSuffix x.1 x.2.1)
noncomputable def pl_strings_HasSuffix : Plan := ⟨[], [], 0, 0⟩
noncomputable def f_strings_HasSuffix (t0 : PV .str) (t1 : PV .str) : Option (PVs [.bool] × PVs []) :=
  (f_internal_stringslite_HasSuffix t0 t1).bind fun r1 =>
    some ((r1.1.1, ()), ())
noncomputable def ct_strings_HasSuffix : Ct := ⟨[(.bor, .str), (.bor, .str)], [(.bool, .b)], fun x => f_strings_HasSuffix x.1 x.2.1⟩
noncomputable def cx_strings_HasSuffix : Cx := ⟨tab, arrs, [(216, ct_internal_stringslite_HasSuffix)], [], gl, []⟩
theorem ef_strings_HasSuffix (t0 : PV .str) (t1 : PV .str) : denF cx_strings_HasSuffix 0 pl_strings_HasSuffix Try.f191.ntmps (bodyOf Try.f191) Try.f191.results.toList [(.bor, .str), (.bor, .str)] [(.bool, .b)] (t0, t1, ()) = f_strings_HasSuffix t0 t1 := by kernel_rfl
theorem ok_strings_HasSuffix : FnOk gl Try.prog 191 ct_strings_HasSuffix :=
  fnOk (cx := cx_strings_HasSuffix) (pl := pl_strings_HasSuffix) (dp := 0) (ok0_of tabOk (by unfold ArrOk; kernel_rfl) mix ⟨ok_internal_stringslite_HasSuffix, trivial⟩ trivial) Try.func191 (by kernel_rfl) (by kernel_rfl) (by kernel_rfl)
    (by rw [show loopsOf (bodyOf Try.f191) = [] from by kernel_rfl]; exact trivial) (fun x => ef_strings_HasSuffix x.1 x.2.1)
noncomputable def pl_I_isEnded : Plan := ⟨[], [], 0, 0⟩
noncomputable def f_I_isEnded (t0 : PV .str) : Option (PVs [.bool] × PVs []) :=
  (f_strings_HasSuffix t0 [10]).bind fun r1 =>
    some ((r1.1.1, ()), ())
noncomputable def ct_I_isEnded : Ct := ⟨[(.bor, .str)], [(.bool, .b)], fun x => f_I_isEnded x.1⟩
noncomputable def cx_I_isEnded : Cx := ⟨tab, arrs, [(191, ct_strings_HasSuffix)], [], gl, []⟩
theorem ef_I_isEnded (t0 : PV .str) : denF cx_I_isEnded 0 pl_I_isEnded Try.f149.ntmps (bodyOf Try.f149) Try.f149.results.toList [(.bor, .str)] [(.bool, .b)] (t0, ()) = f_I_isEnded t0 := by kernel_rfl
theorem ok_I_isEnded : FnOk gl Try.prog 149 ct_I_isEnded :=
  fnOk (cx := cx_I_isEnded) (pl := pl_I_isEnded) (dp := 0) (ok0_of tabOk (by unfold ArrOk; kernel_rfl) mix ⟨ok_strings_HasSuffix, trivial⟩ trivial) Try.func149 (by kernel_rfl) (by kernel_rfl) (by kernel_rfl)
    (by rw [show loopsOf (bodyOf Try.f149) = [] from by kernel_rfl]; exact trivial) (fun x => ef_I_isEnded x.1)
noncomputable def o_I_goodLines_7 : List Out := [⟨.normal, ⟨[], [0, 8, 9, 10, 24], []⟩, mkSh 26 [(0, .val S_string .b), (8, .val S_string .b), (9, .val (.int .i64) .b), (10, .val (.int .i64) .b), (24, .val .bool .b)]⟩]
noncomputable def sh_I_goodLines_4 : List Sh := mkSh 26 [(0, .val S_string .b), (8, .val S_string .b), (9, .val (.int .i64) .b), (10, .val (.int .i64) .b)]
noncomputable def o_I_goodLines_4 : List Out := [⟨.exit 0, ⟨[], [], []⟩, mkSh 26 []⟩, ⟨.ret, ⟨[], [2], []⟩, mkSh 26 [(2, .val .bool .b)]⟩]
noncomputable def b_I_goodLines_4 (t0 : PV S_string) (t8 : PV S_string) (t9 : PV (.int .i64)) (t10 : PV (.int .i64)) : Option ((PV S_string × PV S_string × PV (.int .i64) × PV (.int .i64) × Unit) ⊕ ((Unit) ⊕ (PV .bool × Unit))) :=
  bif (decide (t10 < t9)) then
    bif inB t10 t8.length then
      ((
          bif (decide (t10 < (IntKind.wrap .i64 ((t0.length : Int) - 1)))) then
            (f_I_isEnded (t8.getD t10.toNat [])).bind fun r7 =>
              some (t0, t8, t9, t10, (!r7.1.1), ())
          else
            some (t0, t8, t9, t10, false, ()) : Option ((PV S_string × PV S_string × PV (.int .i64) × PV (.int .i64) × PV .bool × Unit)))).bind fun j8 =>
        bif j8.2.2.2.2.1 then
          some (.inr (.inr (false, ())))
        else
          some (.inl (j8.1, j8.2.1, j8.2.2.1, (IntKind.wrap .i64 (j8.2.2.2.1 + 1)), ()))
    else
      none
  else
    some (.inr (.inl ()))
noncomputable def w_I_goodLines_4 : PV S_string × PV S_string × PV (.int .i64) × PV (.int .i64) × Unit → Option ((Unit) ⊕ (PV .bool × Unit)) := fix fun d => b_I_goodLines_4 d.1 d.2.1 d.2.2.1 d.2.2.2.1
noncomputable def lp_I_goodLines_4 : Lp := ⟨⟨[], [0, 8, 9, 10, 21, 22, 23], []⟩, sh_I_goodLines_4, o_I_goodLines_4, fun d => b_I_goodLines_4 d.1 d.2.1 d.2.2.1 d.2.2.2.1⟩
noncomputable def pl_I_goodLines : Plan := ⟨[(7, o_I_goodLines_7)], [(4, lp_I_goodLines_4)], 0, 0⟩
noncomputable def f_I_goodLines (t0 : PV S_string) : Option (PVs [.bool] × PVs []) :=
  (f_I_areLines t0).bind fun r4 =>
    bif (!r4.1.1) then
      some ((false, ()), ())
    else
      (w_I_goodLines_4 (t0, t0, (t0.length : Int), 0, ())).bind fun x13 =>
        match x13 with
        | .inl l11 =>
          some ((true, ()), ())
        | .inr l12 =>
          some ((l12.1, ()), ())
noncomputable def ct_I_goodLines : Ct := ⟨[(.bor, S_string)], [(.bool, .b)], fun x => f_I_goodLines x.1⟩
noncomputable def cx_I_goodLines : Cx := ⟨tab, arrs, [(147, ct_I_areLines), (149, ct_I_isEnded)], [], gl, []⟩
theorem eb_I_goodLines_4 (t0 : PV S_string) (t8 : PV S_string) (t9 : PV (.int .i64)) (t10 : PV (.int .i64)) : denK cx_I_goodLines (rcN cx_I_goodLines 0) pl_I_goodLines 0 ((loopsOf (bodyOf Try.f96)).getD 0 .skip) (fillS sh_I_goodLines_4 (t0, t8, t9, t10, ())) (roundK 0 lp_I_goodLines_4) = b_I_goodLines_4 t0 t8 t9 t10 := by kernel_rfl
theorem ef_I_goodLines (t0 : PV S_string) : denF cx_I_goodLines 0 pl_I_goodLines Try.f96.ntmps (bodyOf Try.f96) Try.f96.results.toList [(.bor, S_string)] [(.bool, .b)] (t0, ()) = f_I_goodLines t0 := by kernel_rfl
theorem ok_I_goodLines : FnOk gl Try.prog 96 ct_I_goodLines :=
  fnOk (cx := cx_I_goodLines) (pl := pl_I_goodLines) (dp := 0) (ok0_of tabOk (by unfold ArrOk; kernel_rfl) mix ⟨ok_I_areLines, ok_I_isEnded, trivial⟩ trivial) Try.func96 (by kernel_rfl) (by kernel_rfl) (by kernel_rfl)
    (by rw [show loopsOf (bodyOf Try.f96) = [((loopsOf (bodyOf Try.f96)).getD 0 .skip)] from by kernel_rfl]; exact ⟨(by rw [show lookup pl_I_goodLines.loops (firstId ((loopsOf (bodyOf Try.f96)).getD 0 .skip)) = some lp_I_goodLines_4 from by kernel_rfl]; exact fun d z h => (eb_I_goodLines_4 d.1 d.2.1 d.2.2.1 d.2.2.2.1).trans h), trivial⟩) (fun x => ef_I_goodLines x.1)
noncomputable def o_I_goodHunks_2 : List Out := [⟨.normal, ⟨[], [0, 1, 14, 28, 29, 30, 31, 32, 33, 34, 35, 38, 39, 40, 41, 44, 45, 46, 47, 48, 49, 50, 51, 52, 57, 58, 59, 60, 61, 62, 63, 64, 65, 66, 67, 68, 69, 70, 71, 72], []⟩, mkSh 75 [(0, .val (.int .i64) .b), (1, .val S_impl_Hunk .b), (14, .val .bool .b)]⟩]
noncomputable def o_I_goodHunks_7 : List Out := [⟨.normal, ⟨[], [0, 1, 5, 6, 15, 16, 17, 53, 57, 58, 59, 60, 61, 62, 63, 64, 65, 66, 67, 68, 69, 70, 71, 72], []⟩, mkSh 75 [(0, .val (.int .i64) .b), (1, .val S_impl_Hunk .b), (5, .val (.int .i64) .b), (6, .var Y_impl_Hunk .b), (15, .val S_impl_Hunk .b), (16, .val (.int .i64) .b), (17, .val (.int .i64) .b), (53, .val .bool .b)]⟩]
noncomputable def o_I_goodHunks_9 : List Out := [⟨.normal, ⟨[], [0, 1, 6, 15, 16, 17, 28, 29, 30, 31, 32, 33, 34, 35, 38, 39, 40, 41, 44, 45, 46, 47, 48, 49, 50, 51, 52, 73], []⟩, mkSh 75 [(0, .val (.int .i64) .b), (1, .val S_impl_Hunk .b), (6, .var Y_impl_Hunk .b), (15, .val S_impl_Hunk .b), (16, .val (.int .i64) .b), (17, .val (.int .i64) .b), (73, .val .bool .b)]⟩]
noncomputable def sh_I_goodHunks_4 : List Sh := mkSh 75 [(0, .val (.int .i64) .b), (1, .val S_impl_Hunk .b), (15, .val S_impl_Hunk .b), (16, .val (.int .i64) .b), (17, .val (.int .i64) .b)]
noncomputable def o_I_goodHunks_4 : List Out := [⟨.exit 0, ⟨[], [], []⟩, mkSh 75 []⟩, ⟨.ret, ⟨[], [4], []⟩, mkSh 75 [(4, .val .bool .b)]⟩]
noncomputable def b_I_goodHunks_4 (t0 : PV (.int .i64)) (t1 : PV S_impl_Hunk) (t15 : PV S_impl_Hunk) (t16 : PV (.int .i64)) (t17 : PV (.int .i64)) : Option ((PV (.int .i64) × PV S_impl_Hunk × PV S_impl_Hunk × PV (.int .i64) × PV (.int .i64) × Unit) ⊕ ((Unit) ⊕ (PV .bool × Unit))) :=
  bif (decide (t17 < t16)) then
    bif inB t17 t15.length then
      ((
          (f_I_in ((t15.getD t17.toNat (dflt Y_impl_Hunk)).1) 0 t0).bind fun r19 =>
            bif (!r19.1.1) then
              some (t0, t1, t17, (t15.getD t17.toNat (dflt Y_impl_Hunk)), t15, t16, t17, true, ())
            else
              (f_I_in (((t15.getD t17.toNat (dflt Y_impl_Hunk)).2).1) 0 (IntKind.wrap .i64 (t0 - ((t15.getD t17.toNat (dflt Y_impl_Hunk)).1)))).bind fun r20 =>
                bif (!r20.1.1) then
                  some (t0, t1, t17, (t15.getD t17.toNat (dflt Y_impl_Hunk)), t15, t16, t17, true, ())
                else
                  (f_I_areLines ((((t15.getD t17.toNat (dflt Y_impl_Hunk)).2).2).1)).bind fun r21 =>
                    bif (!r21.1.1) then
                      some (t0, t1, t17, (t15.getD t17.toNat (dflt Y_impl_Hunk)), t15, t16, t17, true, ())
                    else
                      bif ((((t15.getD t17.toNat (dflt Y_impl_Hunk)).2).1) == 0) then
                        some (t0, t1, t17, (t15.getD t17.toNat (dflt Y_impl_Hunk)), t15, t16, t17, ((((((t15.getD t17.toNat (dflt Y_impl_Hunk)).2).2).1).length : Int) == 0), ())
                      else
                        some (t0, t1, t17, (t15.getD t17.toNat (dflt Y_impl_Hunk)), t15, t16, t17, false, ()) : Option ((PV (.int .i64) × PV S_impl_Hunk × PV (.int .i64) × PV Y_impl_Hunk × PV S_impl_Hunk × PV (.int .i64) × PV (.int .i64) × PV .bool × Unit)))).bind fun j22 =>
        bif j22.2.2.2.2.2.2.2.1 then
          some (.inr (.inr (false, ())))
        else
          ((
              bif (decide (j22.2.2.1 > 0)) then
                bif inB (IntKind.wrap .i64 (j22.2.2.1 - 1)) j22.2.1.length then
                  bif inB (IntKind.wrap .i64 (j22.2.2.1 - 1)) j22.2.1.length then
                    some (j22.1, j22.2.1, j22.2.2.2.1, j22.2.2.2.2.1, j22.2.2.2.2.2.1, j22.2.2.2.2.2.2.1, (decide (j22.2.2.2.1.1 ≤ (IntKind.wrap .i64 (((j22.2.1.getD ((IntKind.wrap .i64 (j22.2.2.1 - 1)).toNat) (dflt Y_impl_Hunk)).1) + (((j22.2.1.getD ((IntKind.wrap .i64 (j22.2.2.1 - 1)).toNat) (dflt Y_impl_Hunk)).2).1))))), ())
                  else
                    none
                else
                  none
              else
                some (j22.1, j22.2.1, j22.2.2.2.1, j22.2.2.2.2.1, j22.2.2.2.2.2.1, j22.2.2.2.2.2.2.1, false, ()) : Option ((PV (.int .i64) × PV S_impl_Hunk × PV Y_impl_Hunk × PV S_impl_Hunk × PV (.int .i64) × PV (.int .i64) × PV .bool × Unit)))).bind fun j23 =>
            bif j23.2.2.2.2.2.2.1 then
              some (.inr (.inr (false, ())))
            else
              some (.inl (j23.1, j23.2.1, j23.2.2.2.1, j23.2.2.2.2.1, (IntKind.wrap .i64 (j23.2.2.2.2.2.1 + 1)), ()))
    else
      none
  else
    some (.inr (.inl ()))
noncomputable def w_I_goodHunks_4 : PV (.int .i64) × PV S_impl_Hunk × PV S_impl_Hunk × PV (.int .i64) × PV (.int .i64) × Unit → Option ((Unit) ⊕ (PV .bool × Unit)) := fix fun d => b_I_goodHunks_4 d.1 d.2.1 d.2.2.1 d.2.2.2.1 d.2.2.2.2.1
noncomputable def lp_I_goodHunks_4 : Lp := ⟨⟨[], [0, 1, 15, 16, 17, 28, 29, 30, 31, 32, 33, 34, 35, 38, 39, 40, 41, 44, 45, 46, 47, 48, 49, 50, 51, 52, 57, 58, 59, 60, 61, 62, 63, 64, 65, 66, 67, 68, 69, 70, 71, 72], []⟩, sh_I_goodHunks_4, o_I_goodHunks_4, fun d => b_I_goodHunks_4 d.1 d.2.1 d.2.2.1 d.2.2.2.1 d.2.2.2.2.1⟩
noncomputable def pl_I_goodHunks : Plan := ⟨[(2, o_I_goodHunks_2), (7, o_I_goodHunks_7), (9, o_I_goodHunks_9)], [(4, lp_I_goodHunks_4)], 0, 0⟩
noncomputable def f_I_goodHunks (t0 : PV (.int .i64)) (t1 : PV S_impl_Hunk) : Option (PVs [.bool] × PVs []) :=
  ((
      (f_I_in t0 0 40).bind fun r4 =>
        bif (!r4.1.1) then
          some (t0, t1, true, ())
        else
          some (t0, t1, (decide ((t1.length : Int) > 20)), ()) : Option ((PV (.int .i64) × PV S_impl_Hunk × PV .bool × Unit)))).bind fun j5 =>
    bif j5.2.2.1 then
      some ((false, ()), ())
    else
      (w_I_goodHunks_4 (j5.1, j5.2.1, j5.2.1, (j5.2.1.length : Int), 0, ())).bind fun x28 =>
        match x28 with
        | .inl l26 =>
          some ((true, ()), ())
        | .inr l27 =>
          some ((l27.1, ()), ())
noncomputable def ct_I_goodHunks : Ct := ⟨[(.bor, (.int .i64)), (.bor, S_impl_Hunk)], [(.bool, .b)], fun x => f_I_goodHunks x.1 x.2.1⟩
noncomputable def cx_I_goodHunks : Cx := ⟨tab, arrs, [(104, ct_I_in), (147, ct_I_areLines)], [], gl, []⟩
theorem eb_I_goodHunks_4 (t0 : PV (.int .i64)) (t1 : PV S_impl_Hunk) (t15 : PV S_impl_Hunk) (t16 : PV (.int .i64)) (t17 : PV (.int .i64)) : denK cx_I_goodHunks (rcN cx_I_goodHunks 0) pl_I_goodHunks 0 ((loopsOf (bodyOf Try.f80)).getD 0 .skip) (fillS sh_I_goodHunks_4 (t0, t1, t15, t16, t17, ())) (roundK 0 lp_I_goodHunks_4) = b_I_goodHunks_4 t0 t1 t15 t16 t17 := by kernel_rfl
theorem ef_I_goodHunks (t0 : PV (.int .i64)) (t1 : PV S_impl_Hunk) : denF cx_I_goodHunks 0 pl_I_goodHunks Try.f80.ntmps (bodyOf Try.f80) Try.f80.results.toList [(.bor, (.int .i64)), (.bor, S_impl_Hunk)] [(.bool, .b)] (t0, t1, ()) = f_I_goodHunks t0 t1 := by kernel_rfl
theorem ok_I_goodHunks : FnOk gl Try.prog 80 ct_I_goodHunks :=
  fnOk (cx := cx_I_goodHunks) (pl := pl_I_goodHunks) (dp := 0) (ok0_of tabOk (by unfold ArrOk; kernel_rfl) mix ⟨ok_I_in, ok_I_areLines, trivial⟩ trivial) Try.func80 (by kernel_rfl) (by kernel_rfl) (by kernel_rfl)
    (by rw [show loopsOf (bodyOf Try.f80) = [((loopsOf (bodyOf Try.f80)).getD 0 .skip)] from by kernel_rfl]; exact ⟨(by rw [show lookup pl_I_goodHunks.loops (firstId ((loopsOf (bodyOf Try.f80)).getD 0 .skip)) = some lp_I_goodHunks_4 from by kernel_rfl]; exact fun d z h => (eb_I_goodHunks_4 d.1 d.2.1 d.2.2.1 d.2.2.2.1 d.2.2.2.2.1).trans h), trivial⟩) (fun x => ef_I_goodHunks x.1 x.2.1)
noncomputable def sh_I_patched_3 : List Sh := mkSh 37 [(0, .val S_string .b), (5, .val S_string (.row .b)), (6, .val (.int .i64) .b), (10, .val S_impl_Hunk .b), (11, .val (.int .i64) .b), (12, .val (.int .i64) .b)]
noncomputable def o_I_patched_3 : List Out := [⟨.exit 0, ⟨[], [0, 5, 6], []⟩, mkSh 37 [(0, .val S_string .b), (5, .val S_string (.row .b)), (6, .val (.int .i64) .b)]⟩]
noncomputable def b_I_patched_3 (t0 : PV S_string) (t5 : PV S_string) (t6 : PV (.int .i64)) (t10 : PV S_impl_Hunk) (t11 : PV (.int .i64)) (t12 : PV (.int .i64)) : Option ((PV S_string × PV S_string × PV (.int .i64) × PV S_impl_Hunk × PV (.int .i64) × PV (.int .i64) × Unit) ⊕ ((PV S_string × PV S_string × PV (.int .i64) × Unit))) :=
  bif (decide (t12 < t11)) then
    bif inB t12 t10.length then
      bif cutB t6 ((t10.getD t12.toNat (dflt Y_impl_Hunk)).1) t0.length then
        bif roomB (t5.length + (cutL t6 ((t10.getD t12.toNat (dflt Y_impl_Hunk)).1) t0).length) then
          bif roomB ((t5 ++ (cutL t6 ((t10.getD t12.toNat (dflt Y_impl_Hunk)).1) t0)).length + ((((t10.getD t12.toNat (dflt Y_impl_Hunk)).2).2).1).length) then
            some (.inl (t0, ((t5 ++ (cutL t6 ((t10.getD t12.toNat (dflt Y_impl_Hunk)).1) t0)) ++ ((((t10.getD t12.toNat (dflt Y_impl_Hunk)).2).2).1)), (IntKind.wrap .i64 (((t10.getD t12.toNat (dflt Y_impl_Hunk)).1) + (((t10.getD t12.toNat (dflt Y_impl_Hunk)).2).1))), t10, t11, (IntKind.wrap .i64 (t12 + 1)), ()))
          else
            none
        else
          none
      else
        none
    else
      none
  else
    some (.inr (t0, t5, t6, ()))
noncomputable def w_I_patched_3 : PV S_string × PV S_string × PV (.int .i64) × PV S_impl_Hunk × PV (.int .i64) × PV (.int .i64) × Unit → Option ((PV S_string × PV S_string × PV (.int .i64) × Unit)) := fix fun d => b_I_patched_3 d.1 d.2.1 d.2.2.1 d.2.2.2.1 d.2.2.2.2.1 d.2.2.2.2.2.1
noncomputable def lp_I_patched_3 : Lp := ⟨⟨[], [0, 5, 6, 10, 11, 12], []⟩, sh_I_patched_3, o_I_patched_3, fun d => b_I_patched_3 d.1 d.2.1 d.2.2.1 d.2.2.2.1 d.2.2.2.2.1 d.2.2.2.2.2.1⟩
noncomputable def pl_I_patched : Plan := ⟨[], [(3, lp_I_patched_3)], 0, 0⟩
noncomputable def f_I_patched (t0 : PV S_string) (t1 : PV S_impl_Hunk) : Option (PVs [S_string] × PVs []) :=
  (w_I_patched_3 (t0, ([] : PV S_string), 0, t1, (t1.length : Int), 0, ())).bind fun l2 =>
    bif cutB l2.2.2.1 (l2.1.length : Int) l2.1.length then
      bif roomB (l2.2.1.length + (cutL l2.2.2.1 (l2.1.length : Int) l2.1).length) then
        some (((l2.2.1 ++ (cutL l2.2.2.1 (l2.1.length : Int) l2.1)), ()), ())
      else
        none
    else
      none
noncomputable def ct_I_patched : Ct := ⟨[(.bor, S_string), (.bor, S_impl_Hunk)], [(S_string, (.row .b))], fun x => f_I_patched x.1 x.2.1⟩
noncomputable def cx_I_patched : Cx := ⟨tab, arrs, [], [], gl, []⟩
theorem eb_I_patched_3 (t0 : PV S_string) (t5 : PV S_string) (t6 : PV (.int .i64)) (t10 : PV S_impl_Hunk) (t11 : PV (.int .i64)) (t12 : PV (.int .i64)) : denK cx_I_patched (rcN cx_I_patched 0) pl_I_patched 0 ((loopsOf (bodyOf Try.f144)).getD 0 .skip) (fillS sh_I_patched_3 (t0, t5, t6, t10, t11, t12, ())) (roundK 0 lp_I_patched_3) = b_I_patched_3 t0 t5 t6 t10 t11 t12 := by kernel_rfl
theorem ef_I_patched (t0 : PV S_string) (t1 : PV S_impl_Hunk) : denF cx_I_patched 0 pl_I_patched Try.f144.ntmps (bodyOf Try.f144) Try.f144.results.toList [(.bor, S_string), (.bor, S_impl_Hunk)] [(S_string, (.row .b))] (t0, t1, ()) = f_I_patched t0 t1 := by kernel_rfl
theorem ok_I_patched : FnOk gl Try.prog 144 ct_I_patched :=
  fnOk (cx := cx_I_patched) (pl := pl_I_patched) (dp := 0) (ok0_of tabOk (by unfold ArrOk; kernel_rfl) mix trivial trivial) Try.func144 (by kernel_rfl) (by kernel_rfl) (by kernel_rfl)
    (by rw [show loopsOf (bodyOf Try.f144) = [((loopsOf (bodyOf Try.f144)).getD 0 .skip)] from by kernel_rfl]; exact ⟨(by rw [show lookup pl_I_patched.loops (firstId ((loopsOf (bodyOf Try.f144)).getD 0 .skip)) = some lp_I_patched_3 from by kernel_rfl]; exact fun d z h => (eb_I_patched_3 d.1 d.2.1 d.2.2.1 d.2.2.2.1 d.2.2.2.2.1 d.2.2.2.2.2.1).trans h), trivial⟩) (fun x => ef_I_patched x.1 x.2.1)
noncomputable def o_I_Patch_2 : List Out := [⟨.normal, ⟨[], [0, 1, 16], []⟩, mkSh 24 [(0, .val S_string .b), (1, .val S_impl_Hunk .b), (16, .val .bool .b)]⟩]
noncomputable def pl_I_Patch : Plan := ⟨[(2, o_I_Patch_2)], [], 0, 0⟩
noncomputable def f_I_Patch (t0 : PV S_string) (t1 : PV S_impl_Hunk) : Option (PVs [S_string, .bool] × PVs []) :=
  ((
      (f_I_goodLines t0).bind fun r6 =>
        bif (!r6.1.1) then
          some (t0, t1, true, ())
        else
          (f_I_goodHunks (t0.length : Int) t1).bind fun r7 =>
            some (t0, t1, (!r7.1.1), ()) : Option ((PV S_string × PV S_impl_Hunk × PV .bool × Unit)))).bind fun j8 =>
    bif j8.2.2.1 then
      some (([], false, ()), ())
    else
      (f_I_patched j8.1 j8.2.1).bind fun r10 =>
        (f_I_goodLines r10.1.1).bind fun r14 =>
          bif (!r14.1.1) then
            some (([], false, ()), ())
          else
            some ((r10.1.1, true, ()), ())
noncomputable def ct_I_Patch : Ct := ⟨[(.bor, S_string), (.bor, S_impl_Hunk)], [(S_string, (.row .b)), (.bool, .b)], fun x => f_I_Patch x.1 x.2.1⟩
noncomputable def cx_I_Patch : Cx := ⟨tab, arrs, [(80, ct_I_goodHunks), (96, ct_I_goodLines), (144, ct_I_patched)], [], gl, []⟩
theorem ef_I_Patch (t0 : PV S_string) (t1 : PV S_impl_Hunk) : denF cx_I_Patch 0 pl_I_Patch Try.f74.ntmps (bodyOf Try.f74) Try.f74.results.toList [(.bor, S_string), (.bor, S_impl_Hunk)] [(S_string, (.row .b)), (.bool, .b)] (t0, t1, ()) = f_I_Patch t0 t1 := by kernel_rfl
theorem ok_I_Patch : FnOk gl Try.prog 74 ct_I_Patch :=
  fnOk (cx := cx_I_Patch) (pl := pl_I_Patch) (dp := 0) (ok0_of tabOk (by unfold ArrOk; kernel_rfl) mix ⟨ok_I_goodHunks, ok_I_goodLines, ok_I_patched, trivial⟩ trivial) Try.func74 (by kernel_rfl) (by kernel_rfl) (by kernel_rfl)
    (by rw [show loopsOf (bodyOf Try.f74) = [] from by kernel_rfl]; exact trivial) (fun x => ef_I_Patch x.1 x.2.1)
noncomputable def o_I_Series_texts_2 : List Out := [⟨.normal, ⟨[], [1, 18], []⟩, mkSh 48 [(1, .var Y_impl_Series .b), (18, .val .bool .b)]⟩]
noncomputable def sh_I_Series_texts_5 : List Sh := mkSh 48 [(4, .val S_S_string (.row (.row .b))), (24, .val S_S_impl_Hunk .b), (25, .val (.int .i64) .b), (26, .val (.int .i64) .b)]
noncomputable def o_I_Series_texts_5 : List Out := [⟨.exit 0, ⟨[], [4], []⟩, mkSh 48 [(4, .val S_S_string (.row (.row .b)))]⟩, ⟨.ret, ⟨[], [2, 3], []⟩, mkSh 48 [(2, .val S_S_string (.row (.row .b))), (3, .val .bool .b)]⟩]
noncomputable def b_I_Series_texts_5 (t4 : PV S_S_string) (t24 : PV S_S_impl_Hunk) (t25 : PV (.int .i64)) (t26 : PV (.int .i64)) : Option ((PV S_S_string × PV S_S_impl_Hunk × PV (.int .i64) × PV (.int .i64) × Unit) ⊕ ((PV S_S_string × Unit) ⊕ (PV S_S_string × PV .bool × Unit))) :=
  bif (decide (t26 < t25)) then
    bif inB t26 t24.length then
      bif inB t26 t4.length then
        (f_I_Patch (t4.getD t26.toNat []) (t24.getD t26.toNat [])).bind fun r11 =>
          bif (!r11.1.2.1) then
            some (.inr (.inr ([], false, ())))
          else
            bif roomB (t4.length + [r11.1.1].length) then
              some (.inl ((t4 ++ [r11.1.1]), t24, t25, (IntKind.wrap .i64 (t26 + 1)), ()))
            else
              none
      else
        none
    else
      none
  else
    some (.inr (.inl (t4, ())))
noncomputable def w_I_Series_texts_5 : PV S_S_string × PV S_S_impl_Hunk × PV (.int .i64) × PV (.int .i64) × Unit → Option ((PV S_S_string × Unit) ⊕ (PV S_S_string × PV .bool × Unit)) := fix fun d => b_I_Series_texts_5 d.1 d.2.1 d.2.2.1 d.2.2.2.1
noncomputable def lp_I_Series_texts_5 : Lp := ⟨⟨[], [4, 24, 25, 26], []⟩, sh_I_Series_texts_5, o_I_Series_texts_5, fun d => b_I_Series_texts_5 d.1 d.2.1 d.2.2.1 d.2.2.2.1⟩
noncomputable def pl_I_Series_texts : Plan := ⟨[(2, o_I_Series_texts_2)], [(5, lp_I_Series_texts_5)], 0, 0⟩
noncomputable def f_I_Series_texts (t0 : PV Y_impl_Series) : Option (PVs [S_S_string, .bool] × PVs []) :=
  ((
      (f_I_goodLines t0.1).bind fun r4 =>
        bif (!r4.1.1) then
          some (t0, true, ())
        else
          some (t0, (decide ((t0.2.1.length : Int) ≥ 8)), ()) : Option ((PV Y_impl_Series × PV .bool × Unit)))).bind fun j5 =>
    bif j5.2.1 then
      some (([], false, ()), ())
    else
      (f_slices_Clone_string j5.1.1).bind fun r7 =>
        (w_I_Series_texts_5 ([r7.1.1], j5.1.2.1, (j5.1.2.1.length : Int), 0, ())).bind fun x16 =>
          match x16 with
          | .inl l14 =>
            some ((l14.1, true, ()), ())
          | .inr l15 =>
            some ((l15.1, l15.2.1, ()), ())
noncomputable def ct_I_Series_texts : Ct := ⟨[(.bor, Y_impl_Series)], [(S_S_string, (.row (.row .b))), (.bool, .b)], fun x => f_I_Series_texts x.1⟩
noncomputable def cx_I_Series_texts : Cx := ⟨tab, arrs, [(74, ct_I_Patch), (96, ct_I_goodLines), (97, ct_slices_Clone_string)], [], gl, []⟩
theorem eb_I_Series_texts_5 (t4 : PV S_S_string) (t24 : PV S_S_impl_Hunk) (t25 : PV (.int .i64)) (t26 : PV (.int .i64)) : denK cx_I_Series_texts (rcN cx_I_Series_texts 0) pl_I_Series_texts 0 ((loopsOf (bodyOf Try.f127)).getD 0 .skip) (fillS sh_I_Series_texts_5 (t4, t24, t25, t26, ())) (roundK 0 lp_I_Series_texts_5) = b_I_Series_texts_5 t4 t24 t25 t26 := by kernel_rfl
theorem ef_I_Series_texts (t0 : PV Y_impl_Series) : denF cx_I_Series_texts 0 pl_I_Series_texts Try.f127.ntmps (bodyOf Try.f127) Try.f127.results.toList [(.bor, Y_impl_Series)] [(S_S_string, (.row (.row .b))), (.bool, .b)] (t0, ()) = f_I_Series_texts t0 := by kernel_rfl
theorem ok_I_Series_texts : FnOk gl Try.prog 127 ct_I_Series_texts :=
  fnOk (cx := cx_I_Series_texts) (pl := pl_I_Series_texts) (dp := 0) (ok0_of tabOk (by unfold ArrOk; kernel_rfl) mix ⟨ok_I_Patch, ok_I_goodLines, ok_slices_Clone_string, trivial⟩ trivial) Try.func127 (by kernel_rfl) (by kernel_rfl) (by kernel_rfl)
    (by rw [show loopsOf (bodyOf Try.f127) = [((loopsOf (bodyOf Try.f127)).getD 0 .skip)] from by kernel_rfl]; exact ⟨(by rw [show lookup pl_I_Series_texts.loops (firstId ((loopsOf (bodyOf Try.f127)).getD 0 .skip)) = some lp_I_Series_texts_5 from by kernel_rfl]; exact fun d z h => (eb_I_Series_texts_5 d.1 d.2.1 d.2.2.1 d.2.2.2.1).trans h), trivial⟩) (fun x => ef_I_Series_texts x.1)
noncomputable def sh_I_kept_209_21_0 : List Sh := mkSh 53 [(0, .val (.int .i64) .b), (5, .var S_int (.row .b)), (6, .var (.int .i64) .b), (7, .fn 209 [⟨6, [], 0, 0⟩, ⟨5, [], 0, 0⟩]), (9, .var Y_impl_Hunk .b), (12, .val S_impl_Hunk .b), (13, .val (.int .i64) .b), (14, .val (.int .i64) .b), (15, .val .bool .b), (16, .bad Y_impl_Hunk), (17, .val Y_impl_Hunk .b), (18, .fn 209 [⟨6, [], 0, 0⟩, ⟨5, [], 0, 0⟩]), (19, .addr ⟨9, [.l], 0, 0⟩), (20, .val (.int .i64) .b), (40, .val (.int .i64) .b), (41, .addr ⟨6, [], 0, 0⟩), (42, .addr ⟨5, [], 0, 0⟩)]
noncomputable def o_I_kept_209_21_0 : List Out := [⟨.exit 0, ⟨[], [], []⟩, mkSh 53 [(0, .val (.int .i64) .b), (5, .var S_int (.row .b)), (6, .var (.int .i64) .b), (7, .fn 209 [⟨6, [], 0, 0⟩, ⟨5, [], 0, 0⟩]), (9, .var Y_impl_Hunk .b), (12, .val S_impl_Hunk .b), (13, .val (.int .i64) .b), (14, .val (.int .i64) .b), (15, .val .bool .b), (16, .bad Y_impl_Hunk), (17, .val Y_impl_Hunk .b), (18, .fn 209 [⟨6, [], 0, 0⟩, ⟨5, [], 0, 0⟩]), (19, .addr ⟨9, [.l], 0, 0⟩), (20, .val (.int .i64) .b)]⟩]
noncomputable def b_I_kept_209_21_0 (t0 : PV (.int .i64)) (t5 : PV S_int) (t6 : PV (.int .i64)) (t9 : PV Y_impl_Hunk) (t12 : PV S_impl_Hunk) (t13 : PV (.int .i64)) (t14 : PV (.int .i64)) (t15 : PV .bool) (t16 : PV Y_impl_Hunk) (t17 : PV Y_impl_Hunk) (t20 : PV (.int .i64)) (t40 : PV (.int .i64)) : Option ((PV (.int .i64) × PV S_int × PV (.int .i64) × PV Y_impl_Hunk × PV S_impl_Hunk × PV (.int .i64) × PV (.int .i64) × PV .bool × PV Y_impl_Hunk × PV Y_impl_Hunk × PV (.int .i64) × PV (.int .i64) × Unit) ⊕ ((PV (.int .i64) × PV S_int × PV (.int .i64) × PV Y_impl_Hunk × PV S_impl_Hunk × PV (.int .i64) × PV (.int .i64) × PV .bool × PV Y_impl_Hunk × PV Y_impl_Hunk × PV (.int .i64) × Unit))) :=
  bif (decide (t6 < t40)) then
    bif roomB (t5.length + [t6].length) then
      some (.inl (t0, (t5 ++ [t6]), (IntKind.wrap .i64 (t6 + 1)), t9, t12, t13, t14, t15, t16, t17, t20, t40, ()))
    else
      none
  else
    some (.inr (t0, t5, t6, t9, t12, t13, t14, t15, t16, t17, t20, ()))
noncomputable def w_I_kept_209_21_0 : PV (.int .i64) × PV S_int × PV (.int .i64) × PV Y_impl_Hunk × PV S_impl_Hunk × PV (.int .i64) × PV (.int .i64) × PV .bool × PV Y_impl_Hunk × PV Y_impl_Hunk × PV (.int .i64) × PV (.int .i64) × Unit → Option ((PV (.int .i64) × PV S_int × PV (.int .i64) × PV Y_impl_Hunk × PV S_impl_Hunk × PV (.int .i64) × PV (.int .i64) × PV .bool × PV Y_impl_Hunk × PV Y_impl_Hunk × PV (.int .i64) × Unit)) := fix fun d => b_I_kept_209_21_0 d.1 d.2.1 d.2.2.1 d.2.2.2.1 d.2.2.2.2.1 d.2.2.2.2.2.1 d.2.2.2.2.2.2.1 d.2.2.2.2.2.2.2.1 d.2.2.2.2.2.2.2.2.1 d.2.2.2.2.2.2.2.2.2.1 d.2.2.2.2.2.2.2.2.2.2.1 d.2.2.2.2.2.2.2.2.2.2.2.1
noncomputable def lp_I_kept_209_21_0 : Lp := ⟨⟨[], [0, 1, 2], []⟩, sh_I_kept_209_21_0, o_I_kept_209_21_0, fun d => b_I_kept_209_21_0 d.1 d.2.1 d.2.2.1 d.2.2.2.1 d.2.2.2.2.1 d.2.2.2.2.2.1 d.2.2.2.2.2.2.1 d.2.2.2.2.2.2.2.1 d.2.2.2.2.2.2.2.2.1 d.2.2.2.2.2.2.2.2.2.1 d.2.2.2.2.2.2.2.2.2.2.1 d.2.2.2.2.2.2.2.2.2.2.2.1⟩
noncomputable def pl_I_kept_209_21 : Plan := ⟨[], [(0, lp_I_kept_209_21_0)], 0, 40⟩
noncomputable def sh_I_kept_209_38_0 : List Sh := mkSh 53 [(0, .val (.int .i64) .b), (5, .var S_int (.row .b)), (6, .var (.int .i64) .b), (7, .fn 209 [⟨6, [], 0, 0⟩, ⟨5, [], 0, 0⟩]), (36, .fn 209 [⟨6, [], 0, 0⟩, ⟨5, [], 0, 0⟩]), (37, .val (.int .i64) .b), (40, .val (.int .i64) .b), (41, .addr ⟨6, [], 0, 0⟩), (42, .addr ⟨5, [], 0, 0⟩)]
noncomputable def o_I_kept_209_38_0 : List Out := [⟨.exit 0, ⟨[], [], []⟩, mkSh 53 [(0, .val (.int .i64) .b), (5, .var S_int (.row .b)), (6, .var (.int .i64) .b), (7, .fn 209 [⟨6, [], 0, 0⟩, ⟨5, [], 0, 0⟩]), (36, .fn 209 [⟨6, [], 0, 0⟩, ⟨5, [], 0, 0⟩]), (37, .val (.int .i64) .b)]⟩]
noncomputable def b_I_kept_209_38_0 (t0 : PV (.int .i64)) (t5 : PV S_int) (t6 : PV (.int .i64)) (t37 : PV (.int .i64)) (t40 : PV (.int .i64)) : Option ((PV (.int .i64) × PV S_int × PV (.int .i64) × PV (.int .i64) × PV (.int .i64) × Unit) ⊕ ((PV (.int .i64) × PV S_int × PV (.int .i64) × PV (.int .i64) × Unit))) :=
  bif (decide (t6 < t40)) then
    bif roomB (t5.length + [t6].length) then
      some (.inl (t0, (t5 ++ [t6]), (IntKind.wrap .i64 (t6 + 1)), t37, t40, ()))
    else
      none
  else
    some (.inr (t0, t5, t6, t37, ()))
noncomputable def w_I_kept_209_38_0 : PV (.int .i64) × PV S_int × PV (.int .i64) × PV (.int .i64) × PV (.int .i64) × Unit → Option ((PV (.int .i64) × PV S_int × PV (.int .i64) × PV (.int .i64) × Unit)) := fix fun d => b_I_kept_209_38_0 d.1 d.2.1 d.2.2.1 d.2.2.2.1 d.2.2.2.2.1
noncomputable def lp_I_kept_209_38_0 : Lp := ⟨⟨[], [0, 1, 2], []⟩, sh_I_kept_209_38_0, o_I_kept_209_38_0, fun d => b_I_kept_209_38_0 d.1 d.2.1 d.2.2.1 d.2.2.2.1 d.2.2.2.2.1⟩
noncomputable def pl_I_kept_209_38 : Plan := ⟨[], [(0, lp_I_kept_209_38_0)], 0, 40⟩
noncomputable def sh_I_kept_8 : List Sh := mkSh 40 [(0, .val (.int .i64) .b), (5, .var S_int (.row .b)), (6, .var (.int .i64) .b), (7, .fn 209 [⟨6, [], 0, 0⟩, ⟨5, [], 0, 0⟩]), (9, .var Y_impl_Hunk .b), (12, .val S_impl_Hunk .b), (13, .val (.int .i64) .b), (14, .val (.int .i64) .b), (24, .val (.int .i64) .b), (25, .val (.int .i64) .b)]
noncomputable def o_I_kept_8 : List Out := [⟨.exit 2, ⟨[], [0, 5, 6, 7, 9, 12, 13, 14], []⟩, mkSh 40 [(0, .val (.int .i64) .b), (5, .var S_int (.row .b)), (6, .var (.int .i64) .b), (7, .fn 209 [⟨6, [], 0, 0⟩, ⟨5, [], 0, 0⟩]), (9, .var Y_impl_Hunk .b), (12, .val S_impl_Hunk .b), (13, .val (.int .i64) .b), (14, .val (.int .i64) .b)]⟩]
noncomputable def b_I_kept_8 (t0 : PV (.int .i64)) (t5 : PV S_int) (t6 : PV (.int .i64)) (t9 : PV Y_impl_Hunk) (t12 : PV S_impl_Hunk) (t13 : PV (.int .i64)) (t14 : PV (.int .i64)) (t24 : PV (.int .i64)) (t25 : PV (.int .i64)) : Option ((PV (.int .i64) × PV S_int × PV (.int .i64) × PV Y_impl_Hunk × PV S_impl_Hunk × PV (.int .i64) × PV (.int .i64) × PV (.int .i64) × PV (.int .i64) × Unit) ⊕ ((PV (.int .i64) × PV S_int × PV (.int .i64) × PV Y_impl_Hunk × PV S_impl_Hunk × PV (.int .i64) × PV (.int .i64) × Unit))) :=
  bif (decide (t25 < t24)) then
    bif roomB (t5.length + [(-1)].length) then
      some (.inl (t0, (t5 ++ [(-1)]), t6, t9, t12, t13, t14, t24, (IntKind.wrap .i64 (t25 + 1)), ()))
    else
      none
  else
    some (.inr (t0, t5, t6, t9, t12, t13, t14, ()))
noncomputable def w_I_kept_8 : PV (.int .i64) × PV S_int × PV (.int .i64) × PV Y_impl_Hunk × PV S_impl_Hunk × PV (.int .i64) × PV (.int .i64) × PV (.int .i64) × PV (.int .i64) × Unit → Option ((PV (.int .i64) × PV S_int × PV (.int .i64) × PV Y_impl_Hunk × PV S_impl_Hunk × PV (.int .i64) × PV (.int .i64) × Unit)) := fix fun d => b_I_kept_8 d.1 d.2.1 d.2.2.1 d.2.2.2.1 d.2.2.2.2.1 d.2.2.2.2.2.1 d.2.2.2.2.2.2.1 d.2.2.2.2.2.2.2.1 d.2.2.2.2.2.2.2.2.1
noncomputable def lp_I_kept_8 : Lp := ⟨⟨[], [0, 5, 6, 7, 9, 12, 13, 14, 24, 25], []⟩, sh_I_kept_8, o_I_kept_8, fun d => b_I_kept_8 d.1 d.2.1 d.2.2.1 d.2.2.2.1 d.2.2.2.2.1 d.2.2.2.2.2.1 d.2.2.2.2.2.2.1 d.2.2.2.2.2.2.2.1 d.2.2.2.2.2.2.2.2.1⟩
noncomputable def sh_I_kept_4 : List Sh := mkSh 40 [(0, .val (.int .i64) .b), (5, .var S_int (.row .b)), (6, .var (.int .i64) .b), (7, .fn 209 [⟨6, [], 0, 0⟩, ⟨5, [], 0, 0⟩]), (12, .val S_impl_Hunk .b), (13, .val (.int .i64) .b), (14, .val (.int .i64) .b)]
noncomputable def o_I_kept_4 : List Out := [⟨.exit 0, ⟨[], [0, 5, 6, 7], []⟩, mkSh 40 [(0, .val (.int .i64) .b), (5, .var S_int (.row .b)), (6, .var (.int .i64) .b), (7, .fn 209 [⟨6, [], 0, 0⟩, ⟨5, [], 0, 0⟩])]⟩]
noncomputable def b_I_kept_4 (t0 : PV (.int .i64)) (t5 : PV S_int) (t6 : PV (.int .i64)) (t12 : PV S_impl_Hunk) (t13 : PV (.int .i64)) (t14 : PV (.int .i64)) : Option ((PV (.int .i64) × PV S_int × PV (.int .i64) × PV S_impl_Hunk × PV (.int .i64) × PV (.int .i64) × Unit) ⊕ ((PV (.int .i64) × PV S_int × PV (.int .i64) × Unit))) :=
  bif (decide (t14 < t13)) then
    bif inB t14 t12.length then
      (w_I_kept_209_21_0 (t0, t5, t6, (t12.getD t14.toNat (dflt Y_impl_Hunk)), t12, t13, t14, (decide (t14 < t13)), (t12.getD t14.toNat (dflt Y_impl_Hunk)), (t12.getD t14.toNat (dflt Y_impl_Hunk)), (t12.getD t14.toNat (dflt Y_impl_Hunk)).1, (t12.getD t14.toNat (dflt Y_impl_Hunk)).1, ())).bind fun l6 =>
        (w_I_kept_8 (l6.1, l6.2.1, l6.2.2.1, l6.2.2.2.1, l6.2.2.2.2.1, l6.2.2.2.2.2.1, l6.2.2.2.2.2.2.1, (l6.2.2.2.1.2.2.1.length : Int), 0, ())).bind fun l8 =>
          some (.inl (l8.1, l8.2.1, (IntKind.wrap .i64 (l8.2.2.1 + l8.2.2.2.1.2.1)), l8.2.2.2.2.1, l8.2.2.2.2.2.1, (IntKind.wrap .i64 (l8.2.2.2.2.2.2.1 + 1)), ()))
    else
      none
  else
    some (.inr (t0, t5, t6, ()))
noncomputable def w_I_kept_4 : PV (.int .i64) × PV S_int × PV (.int .i64) × PV S_impl_Hunk × PV (.int .i64) × PV (.int .i64) × Unit → Option ((PV (.int .i64) × PV S_int × PV (.int .i64) × Unit)) := fix fun d => b_I_kept_4 d.1 d.2.1 d.2.2.1 d.2.2.2.1 d.2.2.2.2.1 d.2.2.2.2.2.1
noncomputable def lp_I_kept_4 : Lp := ⟨⟨[], [0, 5, 6, 7, 12, 13, 14], []⟩, sh_I_kept_4, o_I_kept_4, fun d => b_I_kept_4 d.1 d.2.1 d.2.2.1 d.2.2.2.1 d.2.2.2.2.1 d.2.2.2.2.2.1⟩
noncomputable def pl_I_kept : Plan := ⟨[], [(8, lp_I_kept_8), (4, lp_I_kept_4)], 1, 0⟩
noncomputable def f_I_kept (t0 : PV (.int .i64)) (t1 : PV S_impl_Hunk) : Option (PVs [S_int] × PVs []) :=
  (w_I_kept_4 (t0, ([] : PV S_int), 0, t1, (t1.length : Int), 0, ())).bind fun l10 =>
    (w_I_kept_209_38_0 (l10.1, l10.2.1, l10.2.2.1, l10.1, l10.1, ())).bind fun l12 =>
      some ((l12.2.1, ()), ())
noncomputable def ct_I_kept : Ct := ⟨[(.bor, (.int .i64)), (.bor, S_impl_Hunk)], [(S_int, (.row .b))], fun x => f_I_kept x.1 x.2.1⟩
noncomputable def cx_I_kept : Cx := ⟨tab, arrs, [], [], gl, [(21, 209, Try.f209, pl_I_kept_209_21), (38, 209, Try.f209, pl_I_kept_209_38)]⟩
theorem eb_I_kept_209_21_0 (t0 : PV (.int .i64)) (t5 : PV S_int) (t6 : PV (.int .i64)) (t9 : PV Y_impl_Hunk) (t12 : PV S_impl_Hunk) (t13 : PV (.int .i64)) (t14 : PV (.int .i64)) (t15 : PV .bool) (t16 : PV Y_impl_Hunk) (t17 : PV Y_impl_Hunk) (t20 : PV (.int .i64)) (t40 : PV (.int .i64)) : denK cx_I_kept (rcN cx_I_kept 0) pl_I_kept_209_21 40 ((loopsOf (bodyOf Try.f209)).getD 0 .skip) (fillS sh_I_kept_209_21_0 (t0, t5, t6, t9, t12, t13, t14, t15, t16, t17, t20, t40, ())) (roundK 40 lp_I_kept_209_21_0) = b_I_kept_209_21_0 t0 t5 t6 t9 t12 t13 t14 t15 t16 t17 t20 t40 := by kernel_rfl
theorem eb_I_kept_209_38_0 (t0 : PV (.int .i64)) (t5 : PV S_int) (t6 : PV (.int .i64)) (t37 : PV (.int .i64)) (t40 : PV (.int .i64)) : denK cx_I_kept (rcN cx_I_kept 0) pl_I_kept_209_38 40 ((loopsOf (bodyOf Try.f209)).getD 0 .skip) (fillS sh_I_kept_209_38_0 (t0, t5, t6, t37, t40, ())) (roundK 40 lp_I_kept_209_38_0) = b_I_kept_209_38_0 t0 t5 t6 t37 t40 := by kernel_rfl
theorem eb_I_kept_4 (t0 : PV (.int .i64)) (t5 : PV S_int) (t6 : PV (.int .i64)) (t12 : PV S_impl_Hunk) (t13 : PV (.int .i64)) (t14 : PV (.int .i64)) : denK cx_I_kept (rcN cx_I_kept 1) pl_I_kept 0 ((loopsOf (bodyOf Try.f177)).getD 0 .skip) (fillS sh_I_kept_4 (t0, t5, t6, t12, t13, t14, ())) (roundK 0 lp_I_kept_4) = b_I_kept_4 t0 t5 t6 t12 t13 t14 := by kernel_rfl
theorem eb_I_kept_8 (t0 : PV (.int .i64)) (t5 : PV S_int) (t6 : PV (.int .i64)) (t9 : PV Y_impl_Hunk) (t12 : PV S_impl_Hunk) (t13 : PV (.int .i64)) (t14 : PV (.int .i64)) (t24 : PV (.int .i64)) (t25 : PV (.int .i64)) : denK cx_I_kept (rcN cx_I_kept 1) pl_I_kept 0 ((loopsOf (bodyOf Try.f177)).getD 1 .skip) (fillS sh_I_kept_8 (t0, t5, t6, t9, t12, t13, t14, t24, t25, ())) (roundK 0 lp_I_kept_8) = b_I_kept_8 t0 t5 t6 t9 t12 t13 t14 t24 t25 := by kernel_rfl
theorem ef_I_kept (t0 : PV (.int .i64)) (t1 : PV S_impl_Hunk) : denF cx_I_kept 1 pl_I_kept Try.f177.ntmps (bodyOf Try.f177) Try.f177.results.toList [(.bor, (.int .i64)), (.bor, S_impl_Hunk)] [(S_int, (.row .b))] (t0, t1, ()) = f_I_kept t0 t1 := by kernel_rfl
theorem ok_I_kept : FnOk gl Try.prog 177 ct_I_kept :=
  fnOk (cx := cx_I_kept) (pl := pl_I_kept) (dp := 1) (ok0_of tabOk (by unfold ArrOk; kernel_rfl) mix trivial trivial (hsi := ⟨⟨Try.func209, by kernel_rfl, (by rw [show loopsOf (bodyOf Try.f209) = [((loopsOf (bodyOf Try.f209)).getD 0 .skip)] from by kernel_rfl]; exact ⟨(by rw [show lookup pl_I_kept_209_21.loops (firstId ((loopsOf (bodyOf Try.f209)).getD 0 .skip)) = some lp_I_kept_209_21_0 from by kernel_rfl]; exact fun d z h => (eb_I_kept_209_21_0 d.1 d.2.1 d.2.2.1 d.2.2.2.1 d.2.2.2.2.1 d.2.2.2.2.2.1 d.2.2.2.2.2.2.1 d.2.2.2.2.2.2.2.1 d.2.2.2.2.2.2.2.2.1 d.2.2.2.2.2.2.2.2.2.1 d.2.2.2.2.2.2.2.2.2.2.1 d.2.2.2.2.2.2.2.2.2.2.2.1).trans h), trivial⟩)⟩, ⟨Try.func209, by kernel_rfl, (by rw [show loopsOf (bodyOf Try.f209) = [((loopsOf (bodyOf Try.f209)).getD 0 .skip)] from by kernel_rfl]; exact ⟨(by rw [show lookup pl_I_kept_209_38.loops (firstId ((loopsOf (bodyOf Try.f209)).getD 0 .skip)) = some lp_I_kept_209_38_0 from by kernel_rfl]; exact fun d z h => (eb_I_kept_209_38_0 d.1 d.2.1 d.2.2.1 d.2.2.2.1 d.2.2.2.2.1).trans h), trivial⟩)⟩, trivial⟩)) Try.func177 (by kernel_rfl) (by kernel_rfl) (by kernel_rfl)
    (by rw [show loopsOf (bodyOf Try.f177) = [((loopsOf (bodyOf Try.f177)).getD 0 .skip), ((loopsOf (bodyOf Try.f177)).getD 1 .skip)] from by kernel_rfl]; exact ⟨(by rw [show lookup pl_I_kept.loops (firstId ((loopsOf (bodyOf Try.f177)).getD 0 .skip)) = some lp_I_kept_4 from by kernel_rfl]; exact fun d z h => (eb_I_kept_4 d.1 d.2.1 d.2.2.1 d.2.2.2.1 d.2.2.2.2.1 d.2.2.2.2.2.1).trans h), (by rw [show lookup pl_I_kept.loops (firstId ((loopsOf (bodyOf Try.f177)).getD 1 .skip)) = some lp_I_kept_8 from by kernel_rfl]; exact fun d z h => (eb_I_kept_8 d.1 d.2.1 d.2.2.1 d.2.2.2.1 d.2.2.2.2.1 d.2.2.2.2.2.1 d.2.2.2.2.2.2.1 d.2.2.2.2.2.2.2.1 d.2.2.2.2.2.2.2.2.1).trans h), trivial⟩) (fun x => ef_I_kept x.1 x.2.1)
end R
