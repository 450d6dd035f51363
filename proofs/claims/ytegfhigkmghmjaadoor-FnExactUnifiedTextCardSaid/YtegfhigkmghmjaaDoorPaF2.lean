/- The functions, part 2. -/
import Derived.Test.YtegfhigkmghmjaaDoorPaF1
open Go Go.Dn Go.Proofs
namespace R
set_option linter.unusedVariables false
set_option maxRecDepth 20000
open Go.Shelf
noncomputable def sh_I_groupsOf_183_97_1 : List Sh := mkSh 159 [(0, .val S_string .b), (1, .val S_impl_Hunk .b), (2, .val (.int .i64) .b), (7, .val S_impl_Group (.row (.pr .b (.pr .b (.pr (.row (.pr .b (.pr .b .b))) .b))))), (8, .val (.int .i64) .b), (9, .val (.int .i64) .b), (10, .val (.int .i64) .b), (11, .val (.int .i64) .b), (12, .val (.int .i64) .b), (13, .var Y_impl_Group (.pr .b (.pr .b (.pr (.row (.pr .b (.pr .b .b))) .b)))), (14, .fn 183 [⟨13, [], 0, 0⟩]), (15, .var Y_impl_Hunk .b), (82, .val (.int .i64) .b), (83, .val (.int .i64) .b), (84, .val .bool .b), (87, .val S_impl_Hunk .b), (88, .val (.int .i64) .b), (89, .bad Y_impl_Hunk), (90, .val Y_impl_Hunk .b), (91, .fn 183 [⟨13, [], 0, 0⟩]), (92, .val S_string .b), (93, .val (.int .i64) .b), (94, .addr ⟨15, [.l], 0, 0⟩), (95, .val (.int .i64) .b), (96, .val S_string .b), (137, .val (.int .i64) .b), (139, .addr ⟨13, [], 0, 0⟩), (144, .val S_string .b), (145, .val (.int .i64) .b), (146, .val (.int .i64) .b)]
noncomputable def o_I_groupsOf_183_97_1 : List Out := [⟨.exit 0, ⟨[], [], []⟩, mkSh 159 [(0, .val S_string .b), (1, .val S_impl_Hunk .b), (2, .val (.int .i64) .b), (7, .val S_impl_Group (.row (.pr .b (.pr .b (.pr (.row (.pr .b (.pr .b .b))) .b))))), (8, .val (.int .i64) .b), (9, .val (.int .i64) .b), (10, .val (.int .i64) .b), (11, .val (.int .i64) .b), (12, .val (.int .i64) .b), (13, .var Y_impl_Group (.pr .b (.pr .b (.pr (.row (.pr .b (.pr .b .b))) .b)))), (14, .fn 183 [⟨13, [], 0, 0⟩]), (15, .var Y_impl_Hunk .b), (82, .val (.int .i64) .b), (83, .val (.int .i64) .b), (84, .val .bool .b), (87, .val S_impl_Hunk .b), (88, .val (.int .i64) .b), (89, .bad Y_impl_Hunk), (90, .val Y_impl_Hunk .b), (91, .fn 183 [⟨13, [], 0, 0⟩]), (92, .val S_string .b), (93, .val (.int .i64) .b), (94, .addr ⟨15, [.l], 0, 0⟩), (95, .val (.int .i64) .b), (96, .val S_string .b)]⟩]
noncomputable def b_I_groupsOf_183_97_1 (t0 : PV S_string) (t1 : PV S_impl_Hunk) (t2 : PV (.int .i64)) (t7 : PV S_impl_Group) (t8 : PV (.int .i64)) (t9 : PV (.int .i64)) (t10 : PV (.int .i64)) (t11 : PV (.int .i64)) (t12 : PV (.int .i64)) (t13 : PV Y_impl_Group) (t15 : PV Y_impl_Hunk) (t82 : PV (.int .i64)) (t83 : PV (.int .i64)) (t84 : PV .bool) (t87 : PV S_impl_Hunk) (t88 : PV (.int .i64)) (t89 : PV Y_impl_Hunk) (t90 : PV Y_impl_Hunk) (t92 : PV S_string) (t93 : PV (.int .i64)) (t95 : PV (.int .i64)) (t96 : PV S_string) (t137 : PV (.int .i64)) (t144 : PV S_string) (t145 : PV (.int .i64)) (t146 : PV (.int .i64)) : Option ((PV S_string × PV S_impl_Hunk × PV (.int .i64) × PV S_impl_Group × PV (.int .i64) × PV (.int .i64) × PV (.int .i64) × PV (.int .i64) × PV (.int .i64) × PV Y_impl_Group × PV Y_impl_Hunk × PV (.int .i64) × PV (.int .i64) × PV .bool × PV S_impl_Hunk × PV (.int .i64) × PV Y_impl_Hunk × PV Y_impl_Hunk × PV S_string × PV (.int .i64) × PV (.int .i64) × PV S_string × PV (.int .i64) × PV S_string × PV (.int .i64) × PV (.int .i64) × Unit) ⊕ ((PV S_string × PV S_impl_Hunk × PV (.int .i64) × PV S_impl_Group × PV (.int .i64) × PV (.int .i64) × PV (.int .i64) × PV (.int .i64) × PV (.int .i64) × PV Y_impl_Group × PV Y_impl_Hunk × PV (.int .i64) × PV (.int .i64) × PV .bool × PV S_impl_Hunk × PV (.int .i64) × PV Y_impl_Hunk × PV Y_impl_Hunk × PV S_string × PV (.int .i64) × PV (.int .i64) × PV S_string × Unit))) :=
  bif (decide (t146 < t145)) then
    bif inB t146 t144.length then
      bif roomB (t13.2.2.1.length + [(t137, ((t144.getD t146.toNat []), ()))].length) then
        some (.inl (t0, t1, t2, t7, t8, t9, t10, t11, t12, (t13.1, (t13.2.1, ((t13.2.2.1 ++ [(t137, ((t144.getD t146.toNat []), ()))]), t13.2.2.2))), t15, t82, t83, t84, t87, t88, t89, t90, t92, t93, t95, t96, t137, t144, t145, (IntKind.wrap .i64 (t146 + 1)), ()))
      else
        none
    else
      none
  else
    some (.inr (t0, t1, t2, t7, t8, t9, t10, t11, t12, t13, t15, t82, t83, t84, t87, t88, t89, t90, t92, t93, t95, t96, ()))
noncomputable def w_I_groupsOf_183_97_1 : PV S_string × PV S_impl_Hunk × PV (.int .i64) × PV S_impl_Group × PV (.int .i64) × PV (.int .i64) × PV (.int .i64) × PV (.int .i64) × PV (.int .i64) × PV Y_impl_Group × PV Y_impl_Hunk × PV (.int .i64) × PV (.int .i64) × PV .bool × PV S_impl_Hunk × PV (.int .i64) × PV Y_impl_Hunk × PV Y_impl_Hunk × PV S_string × PV (.int .i64) × PV (.int .i64) × PV S_string × PV (.int .i64) × PV S_string × PV (.int .i64) × PV (.int .i64) × Unit → Option ((PV S_string × PV S_impl_Hunk × PV (.int .i64) × PV S_impl_Group × PV (.int .i64) × PV (.int .i64) × PV (.int .i64) × PV (.int .i64) × PV (.int .i64) × PV Y_impl_Group × PV Y_impl_Hunk × PV (.int .i64) × PV (.int .i64) × PV .bool × PV S_impl_Hunk × PV (.int .i64) × PV Y_impl_Hunk × PV Y_impl_Hunk × PV S_string × PV (.int .i64) × PV (.int .i64) × PV S_string × Unit)) := fix fun d => b_I_groupsOf_183_97_1 d.1 d.2.1 d.2.2.1 d.2.2.2.1 d.2.2.2.2.1 d.2.2.2.2.2.1 d.2.2.2.2.2.2.1 d.2.2.2.2.2.2.2.1 d.2.2.2.2.2.2.2.2.1 d.2.2.2.2.2.2.2.2.2.1 d.2.2.2.2.2.2.2.2.2.2.1 d.2.2.2.2.2.2.2.2.2.2.2.1 d.2.2.2.2.2.2.2.2.2.2.2.2.1 d.2.2.2.2.2.2.2.2.2.2.2.2.2.1 d.2.2.2.2.2.2.2.2.2.2.2.2.2.2.1 d.2.2.2.2.2.2.2.2.2.2.2.2.2.2.2.1 d.2.2.2.2.2.2.2.2.2.2.2.2.2.2.2.2.1 d.2.2.2.2.2.2.2.2.2.2.2.2.2.2.2.2.2.1 d.2.2.2.2.2.2.2.2.2.2.2.2.2.2.2.2.2.2.1 d.2.2.2.2.2.2.2.2.2.2.2.2.2.2.2.2.2.2.2.1 d.2.2.2.2.2.2.2.2.2.2.2.2.2.2.2.2.2.2.2.2.1 d.2.2.2.2.2.2.2.2.2.2.2.2.2.2.2.2.2.2.2.2.2.1 d.2.2.2.2.2.2.2.2.2.2.2.2.2.2.2.2.2.2.2.2.2.2.1 d.2.2.2.2.2.2.2.2.2.2.2.2.2.2.2.2.2.2.2.2.2.2.2.1 d.2.2.2.2.2.2.2.2.2.2.2.2.2.2.2.2.2.2.2.2.2.2.2.2.1 d.2.2.2.2.2.2.2.2.2.2.2.2.2.2.2.2.2.2.2.2.2.2.2.2.2.1
noncomputable def lp_I_groupsOf_183_97_1 : Lp := ⟨⟨[], [0, 2, 7, 8, 9], []⟩, sh_I_groupsOf_183_97_1, o_I_groupsOf_183_97_1, fun d => b_I_groupsOf_183_97_1 d.1 d.2.1 d.2.2.1 d.2.2.2.1 d.2.2.2.2.1 d.2.2.2.2.2.1 d.2.2.2.2.2.2.1 d.2.2.2.2.2.2.2.1 d.2.2.2.2.2.2.2.2.1 d.2.2.2.2.2.2.2.2.2.1 d.2.2.2.2.2.2.2.2.2.2.1 d.2.2.2.2.2.2.2.2.2.2.2.1 d.2.2.2.2.2.2.2.2.2.2.2.2.1 d.2.2.2.2.2.2.2.2.2.2.2.2.2.1 d.2.2.2.2.2.2.2.2.2.2.2.2.2.2.1 d.2.2.2.2.2.2.2.2.2.2.2.2.2.2.2.1 d.2.2.2.2.2.2.2.2.2.2.2.2.2.2.2.2.1 d.2.2.2.2.2.2.2.2.2.2.2.2.2.2.2.2.2.1 d.2.2.2.2.2.2.2.2.2.2.2.2.2.2.2.2.2.2.1 d.2.2.2.2.2.2.2.2.2.2.2.2.2.2.2.2.2.2.2.1 d.2.2.2.2.2.2.2.2.2.2.2.2.2.2.2.2.2.2.2.2.1 d.2.2.2.2.2.2.2.2.2.2.2.2.2.2.2.2.2.2.2.2.2.1 d.2.2.2.2.2.2.2.2.2.2.2.2.2.2.2.2.2.2.2.2.2.2.1 d.2.2.2.2.2.2.2.2.2.2.2.2.2.2.2.2.2.2.2.2.2.2.2.1 d.2.2.2.2.2.2.2.2.2.2.2.2.2.2.2.2.2.2.2.2.2.2.2.2.1 d.2.2.2.2.2.2.2.2.2.2.2.2.2.2.2.2.2.2.2.2.2.2.2.2.2.1⟩
noncomputable def pl_I_groupsOf_183_97 : Plan := ⟨[], [(1, lp_I_groupsOf_183_97_1)], 0, 137⟩
noncomputable def sh_I_groupsOf_183_108_1 : List Sh := mkSh 159 [(0, .val S_string .b), (1, .val S_impl_Hunk .b), (2, .val (.int .i64) .b), (7, .val S_impl_Group (.row (.pr .b (.pr .b (.pr (.row (.pr .b (.pr .b .b))) .b))))), (8, .val (.int .i64) .b), (9, .val (.int .i64) .b), (10, .val (.int .i64) .b), (11, .val (.int .i64) .b), (12, .val (.int .i64) .b), (13, .var Y_impl_Group (.pr .b (.pr .b (.pr (.row (.pr .b (.pr .b .b))) .b)))), (14, .fn 183 [⟨13, [], 0, 0⟩]), (15, .var Y_impl_Hunk .b), (82, .val (.int .i64) .b), (83, .val (.int .i64) .b), (84, .val .bool .b), (87, .val S_impl_Hunk .b), (88, .val (.int .i64) .b), (89, .bad Y_impl_Hunk), (90, .val Y_impl_Hunk .b), (91, .fn 183 [⟨13, [], 0, 0⟩]), (92, .val S_string .b), (93, .val (.int .i64) .b), (94, .addr ⟨15, [.l], 0, 0⟩), (95, .val (.int .i64) .b), (96, .val S_string .b), (97, .undef), (98, .fn 183 [⟨13, [], 0, 0⟩]), (99, .val S_string .b), (100, .addr ⟨15, [.l], 0, 0⟩), (101, .val (.int .i64) .b), (102, .addr ⟨15, [.l], 0, 0⟩), (103, .val (.int .i64) .b), (104, .addr ⟨15, [.r, .l], 0, 0⟩), (105, .val (.int .i64) .b), (106, .val (.int .i64) .b), (107, .val S_string .b), (137, .val (.int .i64) .b), (139, .addr ⟨13, [], 0, 0⟩), (144, .val S_string .b), (145, .val (.int .i64) .b), (146, .val (.int .i64) .b)]
noncomputable def o_I_groupsOf_183_108_1 : List Out := [⟨.exit 0, ⟨[], [], []⟩, mkSh 159 [(0, .val S_string .b), (1, .val S_impl_Hunk .b), (2, .val (.int .i64) .b), (7, .val S_impl_Group (.row (.pr .b (.pr .b (.pr (.row (.pr .b (.pr .b .b))) .b))))), (8, .val (.int .i64) .b), (9, .val (.int .i64) .b), (10, .val (.int .i64) .b), (11, .val (.int .i64) .b), (12, .val (.int .i64) .b), (13, .var Y_impl_Group (.pr .b (.pr .b (.pr (.row (.pr .b (.pr .b .b))) .b)))), (14, .fn 183 [⟨13, [], 0, 0⟩]), (15, .var Y_impl_Hunk .b), (82, .val (.int .i64) .b), (83, .val (.int .i64) .b), (84, .val .bool .b), (87, .val S_impl_Hunk .b), (88, .val (.int .i64) .b), (89, .bad Y_impl_Hunk), (90, .val Y_impl_Hunk .b), (91, .fn 183 [⟨13, [], 0, 0⟩]), (92, .val S_string .b), (93, .val (.int .i64) .b), (94, .addr ⟨15, [.l], 0, 0⟩), (95, .val (.int .i64) .b), (96, .val S_string .b), (97, .undef), (98, .fn 183 [⟨13, [], 0, 0⟩]), (99, .val S_string .b), (100, .addr ⟨15, [.l], 0, 0⟩), (101, .val (.int .i64) .b), (102, .addr ⟨15, [.l], 0, 0⟩), (103, .val (.int .i64) .b), (104, .addr ⟨15, [.r, .l], 0, 0⟩), (105, .val (.int .i64) .b), (106, .val (.int .i64) .b), (107, .val S_string .b)]⟩]
noncomputable def b_I_groupsOf_183_108_1 (t0 : PV S_string) (t1 : PV S_impl_Hunk) (t2 : PV (.int .i64)) (t7 : PV S_impl_Group) (t8 : PV (.int .i64)) (t9 : PV (.int .i64)) (t10 : PV (.int .i64)) (t11 : PV (.int .i64)) (t12 : PV (.int .i64)) (t13 : PV Y_impl_Group) (t15 : PV Y_impl_Hunk) (t82 : PV (.int .i64)) (t83 : PV (.int .i64)) (t84 : PV .bool) (t87 : PV S_impl_Hunk) (t88 : PV (.int .i64)) (t89 : PV Y_impl_Hunk) (t90 : PV Y_impl_Hunk) (t92 : PV S_string) (t93 : PV (.int .i64)) (t95 : PV (.int .i64)) (t96 : PV S_string) (t99 : PV S_string) (t101 : PV (.int .i64)) (t103 : PV (.int .i64)) (t105 : PV (.int .i64)) (t106 : PV (.int .i64)) (t107 : PV S_string) (t137 : PV (.int .i64)) (t144 : PV S_string) (t145 : PV (.int .i64)) (t146 : PV (.int .i64)) : Option ((PV S_string × PV S_impl_Hunk × PV (.int .i64) × PV S_impl_Group × PV (.int .i64) × PV (.int .i64) × PV (.int .i64) × PV (.int .i64) × PV (.int .i64) × PV Y_impl_Group × PV Y_impl_Hunk × PV (.int .i64) × PV (.int .i64) × PV .bool × PV S_impl_Hunk × PV (.int .i64) × PV Y_impl_Hunk × PV Y_impl_Hunk × PV S_string × PV (.int .i64) × PV (.int .i64) × PV S_string × PV S_string × PV (.int .i64) × PV (.int .i64) × PV (.int .i64) × PV (.int .i64) × PV S_string × PV (.int .i64) × PV S_string × PV (.int .i64) × PV (.int .i64) × Unit) ⊕ ((PV S_string × PV S_impl_Hunk × PV (.int .i64) × PV S_impl_Group × PV (.int .i64) × PV (.int .i64) × PV (.int .i64) × PV (.int .i64) × PV (.int .i64) × PV Y_impl_Group × PV Y_impl_Hunk × PV (.int .i64) × PV (.int .i64) × PV .bool × PV S_impl_Hunk × PV (.int .i64) × PV Y_impl_Hunk × PV Y_impl_Hunk × PV S_string × PV (.int .i64) × PV (.int .i64) × PV S_string × PV S_string × PV (.int .i64) × PV (.int .i64) × PV (.int .i64) × PV (.int .i64) × PV S_string × Unit))) :=
  bif (decide (t146 < t145)) then
    bif inB t146 t144.length then
      bif roomB (t13.2.2.1.length + [(t137, ((t144.getD t146.toNat []), ()))].length) then
        some (.inl (t0, t1, t2, t7, t8, t9, t10, t11, t12, (t13.1, (t13.2.1, ((t13.2.2.1 ++ [(t137, ((t144.getD t146.toNat []), ()))]), t13.2.2.2))), t15, t82, t83, t84, t87, t88, t89, t90, t92, t93, t95, t96, t99, t101, t103, t105, t106, t107, t137, t144, t145, (IntKind.wrap .i64 (t146 + 1)), ()))
      else
        none
    else
      none
  else
    some (.inr (t0, t1, t2, t7, t8, t9, t10, t11, t12, t13, t15, t82, t83, t84, t87, t88, t89, t90, t92, t93, t95, t96, t99, t101, t103, t105, t106, t107, ()))
noncomputable def w_I_groupsOf_183_108_1 : PV S_string × PV S_impl_Hunk × PV (.int .i64) × PV S_impl_Group × PV (.int .i64) × PV (.int .i64) × PV (.int .i64) × PV (.int .i64) × PV (.int .i64) × PV Y_impl_Group × PV Y_impl_Hunk × PV (.int .i64) × PV (.int .i64) × PV .bool × PV S_impl_Hunk × PV (.int .i64) × PV Y_impl_Hunk × PV Y_impl_Hunk × PV S_string × PV (.int .i64) × PV (.int .i64) × PV S_string × PV S_string × PV (.int .i64) × PV (.int .i64) × PV (.int .i64) × PV (.int .i64) × PV S_string × PV (.int .i64) × PV S_string × PV (.int .i64) × PV (.int .i64) × Unit → Option ((PV S_string × PV S_impl_Hunk × PV (.int .i64) × PV S_impl_Group × PV (.int .i64) × PV (.int .i64) × PV (.int .i64) × PV (.int .i64) × PV (.int .i64) × PV Y_impl_Group × PV Y_impl_Hunk × PV (.int .i64) × PV (.int .i64) × PV .bool × PV S_impl_Hunk × PV (.int .i64) × PV Y_impl_Hunk × PV Y_impl_Hunk × PV S_string × PV (.int .i64) × PV (.int .i64) × PV S_string × PV S_string × PV (.int .i64) × PV (.int .i64) × PV (.int .i64) × PV (.int .i64) × PV S_string × Unit)) := fix fun d => b_I_groupsOf_183_108_1 d.1 d.2.1 d.2.2.1 d.2.2.2.1 d.2.2.2.2.1 d.2.2.2.2.2.1 d.2.2.2.2.2.2.1 d.2.2.2.2.2.2.2.1 d.2.2.2.2.2.2.2.2.1 d.2.2.2.2.2.2.2.2.2.1 d.2.2.2.2.2.2.2.2.2.2.1 d.2.2.2.2.2.2.2.2.2.2.2.1 d.2.2.2.2.2.2.2.2.2.2.2.2.1 d.2.2.2.2.2.2.2.2.2.2.2.2.2.1 d.2.2.2.2.2.2.2.2.2.2.2.2.2.2.1 d.2.2.2.2.2.2.2.2.2.2.2.2.2.2.2.1 d.2.2.2.2.2.2.2.2.2.2.2.2.2.2.2.2.1 d.2.2.2.2.2.2.2.2.2.2.2.2.2.2.2.2.2.1 d.2.2.2.2.2.2.2.2.2.2.2.2.2.2.2.2.2.2.1 d.2.2.2.2.2.2.2.2.2.2.2.2.2.2.2.2.2.2.2.1 d.2.2.2.2.2.2.2.2.2.2.2.2.2.2.2.2.2.2.2.2.1 d.2.2.2.2.2.2.2.2.2.2.2.2.2.2.2.2.2.2.2.2.2.1 d.2.2.2.2.2.2.2.2.2.2.2.2.2.2.2.2.2.2.2.2.2.2.1 d.2.2.2.2.2.2.2.2.2.2.2.2.2.2.2.2.2.2.2.2.2.2.2.1 d.2.2.2.2.2.2.2.2.2.2.2.2.2.2.2.2.2.2.2.2.2.2.2.2.1 d.2.2.2.2.2.2.2.2.2.2.2.2.2.2.2.2.2.2.2.2.2.2.2.2.2.1 d.2.2.2.2.2.2.2.2.2.2.2.2.2.2.2.2.2.2.2.2.2.2.2.2.2.2.1 d.2.2.2.2.2.2.2.2.2.2.2.2.2.2.2.2.2.2.2.2.2.2.2.2.2.2.2.1 d.2.2.2.2.2.2.2.2.2.2.2.2.2.2.2.2.2.2.2.2.2.2.2.2.2.2.2.2.1 d.2.2.2.2.2.2.2.2.2.2.2.2.2.2.2.2.2.2.2.2.2.2.2.2.2.2.2.2.2.1 d.2.2.2.2.2.2.2.2.2.2.2.2.2.2.2.2.2.2.2.2.2.2.2.2.2.2.2.2.2.2.1 d.2.2.2.2.2.2.2.2.2.2.2.2.2.2.2.2.2.2.2.2.2.2.2.2.2.2.2.2.2.2.2.1
noncomputable def lp_I_groupsOf_183_108_1 : Lp := ⟨⟨[], [0, 2, 7, 8, 9], []⟩, sh_I_groupsOf_183_108_1, o_I_groupsOf_183_108_1, fun d => b_I_groupsOf_183_108_1 d.1 d.2.1 d.2.2.1 d.2.2.2.1 d.2.2.2.2.1 d.2.2.2.2.2.1 d.2.2.2.2.2.2.1 d.2.2.2.2.2.2.2.1 d.2.2.2.2.2.2.2.2.1 d.2.2.2.2.2.2.2.2.2.1 d.2.2.2.2.2.2.2.2.2.2.1 d.2.2.2.2.2.2.2.2.2.2.2.1 d.2.2.2.2.2.2.2.2.2.2.2.2.1 d.2.2.2.2.2.2.2.2.2.2.2.2.2.1 d.2.2.2.2.2.2.2.2.2.2.2.2.2.2.1 d.2.2.2.2.2.2.2.2.2.2.2.2.2.2.2.1 d.2.2.2.2.2.2.2.2.2.2.2.2.2.2.2.2.1 d.2.2.2.2.2.2.2.2.2.2.2.2.2.2.2.2.2.1 d.2.2.2.2.2.2.2.2.2.2.2.2.2.2.2.2.2.2.1 d.2.2.2.2.2.2.2.2.2.2.2.2.2.2.2.2.2.2.2.1 d.2.2.2.2.2.2.2.2.2.2.2.2.2.2.2.2.2.2.2.2.1 d.2.2.2.2.2.2.2.2.2.2.2.2.2.2.2.2.2.2.2.2.2.1 d.2.2.2.2.2.2.2.2.2.2.2.2.2.2.2.2.2.2.2.2.2.2.1 d.2.2.2.2.2.2.2.2.2.2.2.2.2.2.2.2.2.2.2.2.2.2.2.1 d.2.2.2.2.2.2.2.2.2.2.2.2.2.2.2.2.2.2.2.2.2.2.2.2.1 d.2.2.2.2.2.2.2.2.2.2.2.2.2.2.2.2.2.2.2.2.2.2.2.2.2.1 d.2.2.2.2.2.2.2.2.2.2.2.2.2.2.2.2.2.2.2.2.2.2.2.2.2.2.1 d.2.2.2.2.2.2.2.2.2.2.2.2.2.2.2.2.2.2.2.2.2.2.2.2.2.2.2.1 d.2.2.2.2.2.2.2.2.2.2.2.2.2.2.2.2.2.2.2.2.2.2.2.2.2.2.2.2.1 d.2.2.2.2.2.2.2.2.2.2.2.2.2.2.2.2.2.2.2.2.2.2.2.2.2.2.2.2.2.1 d.2.2.2.2.2.2.2.2.2.2.2.2.2.2.2.2.2.2.2.2.2.2.2.2.2.2.2.2.2.2.1 d.2.2.2.2.2.2.2.2.2.2.2.2.2.2.2.2.2.2.2.2.2.2.2.2.2.2.2.2.2.2.2.1⟩
noncomputable def pl_I_groupsOf_183_108 : Plan := ⟨[], [(1, lp_I_groupsOf_183_108_1)], 0, 137⟩
noncomputable def sh_I_groupsOf_183_112_1 : List Sh := mkSh 159 [(0, .val S_string .b), (1, .val S_impl_Hunk .b), (2, .val (.int .i64) .b), (7, .val S_impl_Group (.row (.pr .b (.pr .b (.pr (.row (.pr .b (.pr .b .b))) .b))))), (8, .val (.int .i64) .b), (9, .val (.int .i64) .b), (10, .val (.int .i64) .b), (11, .val (.int .i64) .b), (12, .val (.int .i64) .b), (13, .var Y_impl_Group (.pr .b (.pr .b (.pr (.row (.pr .b (.pr .b .b))) .b)))), (14, .fn 183 [⟨13, [], 0, 0⟩]), (15, .var Y_impl_Hunk .b), (82, .val (.int .i64) .b), (83, .val (.int .i64) .b), (84, .val .bool .b), (87, .val S_impl_Hunk .b), (88, .val (.int .i64) .b), (89, .bad Y_impl_Hunk), (90, .val Y_impl_Hunk .b), (91, .fn 183 [⟨13, [], 0, 0⟩]), (92, .val S_string .b), (93, .val (.int .i64) .b), (94, .addr ⟨15, [.l], 0, 0⟩), (95, .val (.int .i64) .b), (96, .val S_string .b), (97, .undef), (98, .fn 183 [⟨13, [], 0, 0⟩]), (99, .val S_string .b), (100, .addr ⟨15, [.l], 0, 0⟩), (101, .val (.int .i64) .b), (102, .addr ⟨15, [.l], 0, 0⟩), (103, .val (.int .i64) .b), (104, .addr ⟨15, [.r, .l], 0, 0⟩), (105, .val (.int .i64) .b), (106, .val (.int .i64) .b), (107, .val S_string .b), (108, .undef), (109, .fn 183 [⟨13, [], 0, 0⟩]), (110, .addr ⟨15, [.r, .r, .l], 0, 0⟩), (111, .val S_string .b), (137, .val (.int .i64) .b), (139, .addr ⟨13, [], 0, 0⟩), (144, .val S_string .b), (145, .val (.int .i64) .b), (146, .val (.int .i64) .b)]
noncomputable def o_I_groupsOf_183_112_1 : List Out := [⟨.exit 0, ⟨[], [], []⟩, mkSh 159 [(0, .val S_string .b), (1, .val S_impl_Hunk .b), (2, .val (.int .i64) .b), (7, .val S_impl_Group (.row (.pr .b (.pr .b (.pr (.row (.pr .b (.pr .b .b))) .b))))), (8, .val (.int .i64) .b), (9, .val (.int .i64) .b), (10, .val (.int .i64) .b), (11, .val (.int .i64) .b), (12, .val (.int .i64) .b), (13, .var Y_impl_Group (.pr .b (.pr .b (.pr (.row (.pr .b (.pr .b .b))) .b)))), (14, .fn 183 [⟨13, [], 0, 0⟩]), (15, .var Y_impl_Hunk .b), (82, .val (.int .i64) .b), (83, .val (.int .i64) .b), (84, .val .bool .b), (87, .val S_impl_Hunk .b), (88, .val (.int .i64) .b), (89, .bad Y_impl_Hunk), (90, .val Y_impl_Hunk .b), (91, .fn 183 [⟨13, [], 0, 0⟩]), (92, .val S_string .b), (93, .val (.int .i64) .b), (94, .addr ⟨15, [.l], 0, 0⟩), (95, .val (.int .i64) .b), (96, .val S_string .b), (97, .undef), (98, .fn 183 [⟨13, [], 0, 0⟩]), (99, .val S_string .b), (100, .addr ⟨15, [.l], 0, 0⟩), (101, .val (.int .i64) .b), (102, .addr ⟨15, [.l], 0, 0⟩), (103, .val (.int .i64) .b), (104, .addr ⟨15, [.r, .l], 0, 0⟩), (105, .val (.int .i64) .b), (106, .val (.int .i64) .b), (107, .val S_string .b), (108, .undef), (109, .fn 183 [⟨13, [], 0, 0⟩]), (110, .addr ⟨15, [.r, .r, .l], 0, 0⟩), (111, .val S_string .b)]⟩]
noncomputable def b_I_groupsOf_183_112_1 (t0 : PV S_string) (t1 : PV S_impl_Hunk) (t2 : PV (.int .i64)) (t7 : PV S_impl_Group) (t8 : PV (.int .i64)) (t9 : PV (.int .i64)) (t10 : PV (.int .i64)) (t11 : PV (.int .i64)) (t12 : PV (.int .i64)) (t13 : PV Y_impl_Group) (t15 : PV Y_impl_Hunk) (t82 : PV (.int .i64)) (t83 : PV (.int .i64)) (t84 : PV .bool) (t87 : PV S_impl_Hunk) (t88 : PV (.int .i64)) (t89 : PV Y_impl_Hunk) (t90 : PV Y_impl_Hunk) (t92 : PV S_string) (t93 : PV (.int .i64)) (t95 : PV (.int .i64)) (t96 : PV S_string) (t99 : PV S_string) (t101 : PV (.int .i64)) (t103 : PV (.int .i64)) (t105 : PV (.int .i64)) (t106 : PV (.int .i64)) (t107 : PV S_string) (t111 : PV S_string) (t137 : PV (.int .i64)) (t144 : PV S_string) (t145 : PV (.int .i64)) (t146 : PV (.int .i64)) : Option ((PV S_string × PV S_impl_Hunk × PV (.int .i64) × PV S_impl_Group × PV (.int .i64) × PV (.int .i64) × PV (.int .i64) × PV (.int .i64) × PV (.int .i64) × PV Y_impl_Group × PV Y_impl_Hunk × PV (.int .i64) × PV (.int .i64) × PV .bool × PV S_impl_Hunk × PV (.int .i64) × PV Y_impl_Hunk × PV Y_impl_Hunk × PV S_string × PV (.int .i64) × PV (.int .i64) × PV S_string × PV S_string × PV (.int .i64) × PV (.int .i64) × PV (.int .i64) × PV (.int .i64) × PV S_string × PV S_string × PV (.int .i64) × PV S_string × PV (.int .i64) × PV (.int .i64) × Unit) ⊕ ((PV S_string × PV S_impl_Hunk × PV (.int .i64) × PV S_impl_Group × PV (.int .i64) × PV (.int .i64) × PV (.int .i64) × PV (.int .i64) × PV (.int .i64) × PV Y_impl_Group × PV Y_impl_Hunk × PV (.int .i64) × PV (.int .i64) × PV .bool × PV S_impl_Hunk × PV (.int .i64) × PV Y_impl_Hunk × PV Y_impl_Hunk × PV S_string × PV (.int .i64) × PV (.int .i64) × PV S_string × PV S_string × PV (.int .i64) × PV (.int .i64) × PV (.int .i64) × PV (.int .i64) × PV S_string × PV S_string × Unit))) :=
  bif (decide (t146 < t145)) then
    bif inB t146 t144.length then
      bif roomB (t13.2.2.1.length + [(t137, ((t144.getD t146.toNat []), ()))].length) then
        some (.inl (t0, t1, t2, t7, t8, t9, t10, t11, t12, (t13.1, (t13.2.1, ((t13.2.2.1 ++ [(t137, ((t144.getD t146.toNat []), ()))]), t13.2.2.2))), t15, t82, t83, t84, t87, t88, t89, t90, t92, t93, t95, t96, t99, t101, t103, t105, t106, t107, t111, t137, t144, t145, (IntKind.wrap .i64 (t146 + 1)), ()))
      else
        none
    else
      none
  else
    some (.inr (t0, t1, t2, t7, t8, t9, t10, t11, t12, t13, t15, t82, t83, t84, t87, t88, t89, t90, t92, t93, t95, t96, t99, t101, t103, t105, t106, t107, t111, ()))
noncomputable def w_I_groupsOf_183_112_1 : PV S_string × PV S_impl_Hunk × PV (.int .i64) × PV S_impl_Group × PV (.int .i64) × PV (.int .i64) × PV (.int .i64) × PV (.int .i64) × PV (.int .i64) × PV Y_impl_Group × PV Y_impl_Hunk × PV (.int .i64) × PV (.int .i64) × PV .bool × PV S_impl_Hunk × PV (.int .i64) × PV Y_impl_Hunk × PV Y_impl_Hunk × PV S_string × PV (.int .i64) × PV (.int .i64) × PV S_string × PV S_string × PV (.int .i64) × PV (.int .i64) × PV (.int .i64) × PV (.int .i64) × PV S_string × PV S_string × PV (.int .i64) × PV S_string × PV (.int .i64) × PV (.int .i64) × Unit → Option ((PV S_string × PV S_impl_Hunk × PV (.int .i64) × PV S_impl_Group × PV (.int .i64) × PV (.int .i64) × PV (.int .i64) × PV (.int .i64) × PV (.int .i64) × PV Y_impl_Group × PV Y_impl_Hunk × PV (.int .i64) × PV (.int .i64) × PV .bool × PV S_impl_Hunk × PV (.int .i64) × PV Y_impl_Hunk × PV Y_impl_Hunk × PV S_string × PV (.int .i64) × PV (.int .i64) × PV S_string × PV S_string × PV (.int .i64) × PV (.int .i64) × PV (.int .i64) × PV (.int .i64) × PV S_string × PV S_string × Unit)) := fix fun d => b_I_groupsOf_183_112_1 d.1 d.2.1 d.2.2.1 d.2.2.2.1 d.2.2.2.2.1 d.2.2.2.2.2.1 d.2.2.2.2.2.2.1 d.2.2.2.2.2.2.2.1 d.2.2.2.2.2.2.2.2.1 d.2.2.2.2.2.2.2.2.2.1 d.2.2.2.2.2.2.2.2.2.2.1 d.2.2.2.2.2.2.2.2.2.2.2.1 d.2.2.2.2.2.2.2.2.2.2.2.2.1 d.2.2.2.2.2.2.2.2.2.2.2.2.2.1 d.2.2.2.2.2.2.2.2.2.2.2.2.2.2.1 d.2.2.2.2.2.2.2.2.2.2.2.2.2.2.2.1 d.2.2.2.2.2.2.2.2.2.2.2.2.2.2.2.2.1 d.2.2.2.2.2.2.2.2.2.2.2.2.2.2.2.2.2.1 d.2.2.2.2.2.2.2.2.2.2.2.2.2.2.2.2.2.2.1 d.2.2.2.2.2.2.2.2.2.2.2.2.2.2.2.2.2.2.2.1 d.2.2.2.2.2.2.2.2.2.2.2.2.2.2.2.2.2.2.2.2.1 d.2.2.2.2.2.2.2.2.2.2.2.2.2.2.2.2.2.2.2.2.2.1 d.2.2.2.2.2.2.2.2.2.2.2.2.2.2.2.2.2.2.2.2.2.2.1 d.2.2.2.2.2.2.2.2.2.2.2.2.2.2.2.2.2.2.2.2.2.2.2.1 d.2.2.2.2.2.2.2.2.2.2.2.2.2.2.2.2.2.2.2.2.2.2.2.2.1 d.2.2.2.2.2.2.2.2.2.2.2.2.2.2.2.2.2.2.2.2.2.2.2.2.2.1 d.2.2.2.2.2.2.2.2.2.2.2.2.2.2.2.2.2.2.2.2.2.2.2.2.2.2.1 d.2.2.2.2.2.2.2.2.2.2.2.2.2.2.2.2.2.2.2.2.2.2.2.2.2.2.2.1 d.2.2.2.2.2.2.2.2.2.2.2.2.2.2.2.2.2.2.2.2.2.2.2.2.2.2.2.2.1 d.2.2.2.2.2.2.2.2.2.2.2.2.2.2.2.2.2.2.2.2.2.2.2.2.2.2.2.2.2.1 d.2.2.2.2.2.2.2.2.2.2.2.2.2.2.2.2.2.2.2.2.2.2.2.2.2.2.2.2.2.2.1 d.2.2.2.2.2.2.2.2.2.2.2.2.2.2.2.2.2.2.2.2.2.2.2.2.2.2.2.2.2.2.2.1 d.2.2.2.2.2.2.2.2.2.2.2.2.2.2.2.2.2.2.2.2.2.2.2.2.2.2.2.2.2.2.2.2.1
noncomputable def lp_I_groupsOf_183_112_1 : Lp := ⟨⟨[], [0, 2, 7, 8, 9], []⟩, sh_I_groupsOf_183_112_1, o_I_groupsOf_183_112_1, fun d => b_I_groupsOf_183_112_1 d.1 d.2.1 d.2.2.1 d.2.2.2.1 d.2.2.2.2.1 d.2.2.2.2.2.1 d.2.2.2.2.2.2.1 d.2.2.2.2.2.2.2.1 d.2.2.2.2.2.2.2.2.1 d.2.2.2.2.2.2.2.2.2.1 d.2.2.2.2.2.2.2.2.2.2.1 d.2.2.2.2.2.2.2.2.2.2.2.1 d.2.2.2.2.2.2.2.2.2.2.2.2.1 d.2.2.2.2.2.2.2.2.2.2.2.2.2.1 d.2.2.2.2.2.2.2.2.2.2.2.2.2.2.1 d.2.2.2.2.2.2.2.2.2.2.2.2.2.2.2.1 d.2.2.2.2.2.2.2.2.2.2.2.2.2.2.2.2.1 d.2.2.2.2.2.2.2.2.2.2.2.2.2.2.2.2.2.1 d.2.2.2.2.2.2.2.2.2.2.2.2.2.2.2.2.2.2.1 d.2.2.2.2.2.2.2.2.2.2.2.2.2.2.2.2.2.2.2.1 d.2.2.2.2.2.2.2.2.2.2.2.2.2.2.2.2.2.2.2.2.1 d.2.2.2.2.2.2.2.2.2.2.2.2.2.2.2.2.2.2.2.2.2.1 d.2.2.2.2.2.2.2.2.2.2.2.2.2.2.2.2.2.2.2.2.2.2.1 d.2.2.2.2.2.2.2.2.2.2.2.2.2.2.2.2.2.2.2.2.2.2.2.1 d.2.2.2.2.2.2.2.2.2.2.2.2.2.2.2.2.2.2.2.2.2.2.2.2.1 d.2.2.2.2.2.2.2.2.2.2.2.2.2.2.2.2.2.2.2.2.2.2.2.2.2.1 d.2.2.2.2.2.2.2.2.2.2.2.2.2.2.2.2.2.2.2.2.2.2.2.2.2.2.1 d.2.2.2.2.2.2.2.2.2.2.2.2.2.2.2.2.2.2.2.2.2.2.2.2.2.2.2.1 d.2.2.2.2.2.2.2.2.2.2.2.2.2.2.2.2.2.2.2.2.2.2.2.2.2.2.2.2.1 d.2.2.2.2.2.2.2.2.2.2.2.2.2.2.2.2.2.2.2.2.2.2.2.2.2.2.2.2.2.1 d.2.2.2.2.2.2.2.2.2.2.2.2.2.2.2.2.2.2.2.2.2.2.2.2.2.2.2.2.2.2.1 d.2.2.2.2.2.2.2.2.2.2.2.2.2.2.2.2.2.2.2.2.2.2.2.2.2.2.2.2.2.2.2.1 d.2.2.2.2.2.2.2.2.2.2.2.2.2.2.2.2.2.2.2.2.2.2.2.2.2.2.2.2.2.2.2.2.1⟩
noncomputable def pl_I_groupsOf_183_112 : Plan := ⟨[], [(1, lp_I_groupsOf_183_112_1)], 0, 137⟩
noncomputable def sh_I_groupsOf_183_131_1 : List Sh := mkSh 159 [(0, .val S_string .b), (1, .val S_impl_Hunk .b), (2, .val (.int .i64) .b), (7, .val S_impl_Group (.row (.pr .b (.pr .b (.pr (.row (.pr .b (.pr .b .b))) .b))))), (8, .val (.int .i64) .b), (9, .val (.int .i64) .b), (11, .val (.int .i64) .b), (12, .val (.int .i64) .b), (13, .var Y_impl_Group (.pr .b (.pr .b (.pr (.row (.pr .b (.pr .b .b))) .b)))), (14, .fn 183 [⟨13, [], 0, 0⟩]), (126, .fn 183 [⟨13, [], 0, 0⟩]), (127, .val S_string .b), (128, .val (.int .i64) .b), (129, .val (.int .i64) .b), (130, .val S_string .b), (137, .val (.int .i64) .b), (139, .addr ⟨13, [], 0, 0⟩), (144, .val S_string .b), (145, .val (.int .i64) .b), (146, .val (.int .i64) .b)]
noncomputable def o_I_groupsOf_183_131_1 : List Out := [⟨.exit 0, ⟨[], [], []⟩, mkSh 159 [(0, .val S_string .b), (1, .val S_impl_Hunk .b), (2, .val (.int .i64) .b), (7, .val S_impl_Group (.row (.pr .b (.pr .b (.pr (.row (.pr .b (.pr .b .b))) .b))))), (8, .val (.int .i64) .b), (9, .val (.int .i64) .b), (11, .val (.int .i64) .b), (12, .val (.int .i64) .b), (13, .var Y_impl_Group (.pr .b (.pr .b (.pr (.row (.pr .b (.pr .b .b))) .b)))), (14, .fn 183 [⟨13, [], 0, 0⟩]), (126, .fn 183 [⟨13, [], 0, 0⟩]), (127, .val S_string .b), (128, .val (.int .i64) .b), (129, .val (.int .i64) .b), (130, .val S_string .b)]⟩]
noncomputable def b_I_groupsOf_183_131_1 (t0 : PV S_string) (t1 : PV S_impl_Hunk) (t2 : PV (.int .i64)) (t7 : PV S_impl_Group) (t8 : PV (.int .i64)) (t9 : PV (.int .i64)) (t11 : PV (.int .i64)) (t12 : PV (.int .i64)) (t13 : PV Y_impl_Group) (t127 : PV S_string) (t128 : PV (.int .i64)) (t129 : PV (.int .i64)) (t130 : PV S_string) (t137 : PV (.int .i64)) (t144 : PV S_string) (t145 : PV (.int .i64)) (t146 : PV (.int .i64)) : Option ((PV S_string × PV S_impl_Hunk × PV (.int .i64) × PV S_impl_Group × PV (.int .i64) × PV (.int .i64) × PV (.int .i64) × PV (.int .i64) × PV Y_impl_Group × PV S_string × PV (.int .i64) × PV (.int .i64) × PV S_string × PV (.int .i64) × PV S_string × PV (.int .i64) × PV (.int .i64) × Unit) ⊕ ((PV S_string × PV S_impl_Hunk × PV (.int .i64) × PV S_impl_Group × PV (.int .i64) × PV (.int .i64) × PV (.int .i64) × PV (.int .i64) × PV Y_impl_Group × PV S_string × PV (.int .i64) × PV (.int .i64) × PV S_string × Unit))) :=
  bif (decide (t146 < t145)) then
    bif inB t146 t144.length then
      bif roomB (t13.2.2.1.length + [(t137, ((t144.getD t146.toNat []), ()))].length) then
        some (.inl (t0, t1, t2, t7, t8, t9, t11, t12, (t13.1, (t13.2.1, ((t13.2.2.1 ++ [(t137, ((t144.getD t146.toNat []), ()))]), t13.2.2.2))), t127, t128, t129, t130, t137, t144, t145, (IntKind.wrap .i64 (t146 + 1)), ()))
      else
        none
    else
      none
  else
    some (.inr (t0, t1, t2, t7, t8, t9, t11, t12, t13, t127, t128, t129, t130, ()))
noncomputable def w_I_groupsOf_183_131_1 : PV S_string × PV S_impl_Hunk × PV (.int .i64) × PV S_impl_Group × PV (.int .i64) × PV (.int .i64) × PV (.int .i64) × PV (.int .i64) × PV Y_impl_Group × PV S_string × PV (.int .i64) × PV (.int .i64) × PV S_string × PV (.int .i64) × PV S_string × PV (.int .i64) × PV (.int .i64) × Unit → Option ((PV S_string × PV S_impl_Hunk × PV (.int .i64) × PV S_impl_Group × PV (.int .i64) × PV (.int .i64) × PV (.int .i64) × PV (.int .i64) × PV Y_impl_Group × PV S_string × PV (.int .i64) × PV (.int .i64) × PV S_string × Unit)) := fix fun d => b_I_groupsOf_183_131_1 d.1 d.2.1 d.2.2.1 d.2.2.2.1 d.2.2.2.2.1 d.2.2.2.2.2.1 d.2.2.2.2.2.2.1 d.2.2.2.2.2.2.2.1 d.2.2.2.2.2.2.2.2.1 d.2.2.2.2.2.2.2.2.2.1 d.2.2.2.2.2.2.2.2.2.2.1 d.2.2.2.2.2.2.2.2.2.2.2.1 d.2.2.2.2.2.2.2.2.2.2.2.2.1 d.2.2.2.2.2.2.2.2.2.2.2.2.2.1 d.2.2.2.2.2.2.2.2.2.2.2.2.2.2.1 d.2.2.2.2.2.2.2.2.2.2.2.2.2.2.2.1 d.2.2.2.2.2.2.2.2.2.2.2.2.2.2.2.2.1
noncomputable def lp_I_groupsOf_183_131_1 : Lp := ⟨⟨[], [0, 2, 7, 8, 9], []⟩, sh_I_groupsOf_183_131_1, o_I_groupsOf_183_131_1, fun d => b_I_groupsOf_183_131_1 d.1 d.2.1 d.2.2.1 d.2.2.2.1 d.2.2.2.2.1 d.2.2.2.2.2.1 d.2.2.2.2.2.2.1 d.2.2.2.2.2.2.2.1 d.2.2.2.2.2.2.2.2.1 d.2.2.2.2.2.2.2.2.2.1 d.2.2.2.2.2.2.2.2.2.2.1 d.2.2.2.2.2.2.2.2.2.2.2.1 d.2.2.2.2.2.2.2.2.2.2.2.2.1 d.2.2.2.2.2.2.2.2.2.2.2.2.2.1 d.2.2.2.2.2.2.2.2.2.2.2.2.2.2.1 d.2.2.2.2.2.2.2.2.2.2.2.2.2.2.2.1 d.2.2.2.2.2.2.2.2.2.2.2.2.2.2.2.2.1⟩
noncomputable def pl_I_groupsOf_183_131 : Plan := ⟨[], [(1, lp_I_groupsOf_183_131_1)], 0, 137⟩
noncomputable def sh_I_groupsOf_5 : List Sh := mkSh 137 [(0, .val S_string .b), (1, .val S_impl_Hunk .b), (2, .val (.int .i64) .b), (7, .val S_impl_Group (.row (.pr .b (.pr .b (.pr (.row (.pr .b (.pr .b .b))) .b))))), (8, .val (.int .i64) .b), (9, .val (.int .i64) .b), (10, .val (.int .i64) .b)]
noncomputable def o_I_groupsOf_5 : List Out := [⟨.exit 2, ⟨[], [0, 1, 2, 7, 8, 9, 10], []⟩, mkSh 137 [(0, .val S_string .b), (1, .val S_impl_Hunk .b), (2, .val (.int .i64) .b), (7, .val S_impl_Group (.row (.pr .b (.pr .b (.pr (.row (.pr .b (.pr .b .b))) .b))))), (8, .val (.int .i64) .b), (9, .val (.int .i64) .b), (10, .val (.int .i64) .b)]⟩]
noncomputable def b_I_groupsOf_5 (t0 : PV S_string) (t1 : PV S_impl_Hunk) (t2 : PV (.int .i64)) (t7 : PV S_impl_Group) (t8 : PV (.int .i64)) (t9 : PV (.int .i64)) (t10 : PV (.int .i64)) : Option ((PV S_string × PV S_impl_Hunk × PV (.int .i64) × PV S_impl_Group × PV (.int .i64) × PV (.int .i64) × PV (.int .i64) × Unit) ⊕ ((PV S_string × PV S_impl_Hunk × PV (.int .i64) × PV S_impl_Group × PV (.int .i64) × PV (.int .i64) × PV (.int .i64) × Unit))) :=
  bif (decide ((IntKind.wrap .i64 (t10 + 1)) < (t1.length : Int))) then
    bif inB (IntKind.wrap .i64 (t10 + 1)) t1.length then
      bif inB t10 t1.length then
        bif inB t10 t1.length then
          bif (decide ((IntKind.wrap .i64 (((t1.getD ((IntKind.wrap .i64 (t10 + 1)).toNat) (dflt Y_impl_Hunk)).1) - (IntKind.wrap .i64 (((t1.getD t10.toNat (dflt Y_impl_Hunk)).1) + (((t1.getD t10.toNat (dflt Y_impl_Hunk)).2).1))))) ≤ (IntKind.wrap .i64 (2 * t2)))) then
            some (.inl (t0, t1, t2, t7, t8, t9, (IntKind.wrap .i64 (t10 + 1)), ()))
          else
            some (.inr (t0, t1, t2, t7, t8, t9, t10, ()))
        else
          none
      else
        none
    else
      none
  else
    some (.inr (t0, t1, t2, t7, t8, t9, t10, ()))
noncomputable def w_I_groupsOf_5 : PV S_string × PV S_impl_Hunk × PV (.int .i64) × PV S_impl_Group × PV (.int .i64) × PV (.int .i64) × PV (.int .i64) × Unit → Option ((PV S_string × PV S_impl_Hunk × PV (.int .i64) × PV S_impl_Group × PV (.int .i64) × PV (.int .i64) × PV (.int .i64) × Unit)) := fix fun d => b_I_groupsOf_5 d.1 d.2.1 d.2.2.1 d.2.2.2.1 d.2.2.2.2.1 d.2.2.2.2.2.1 d.2.2.2.2.2.2.1
noncomputable def lp_I_groupsOf_5 : Lp := ⟨⟨[], [0, 1, 2, 7, 8, 9, 10], []⟩, sh_I_groupsOf_5, o_I_groupsOf_5, fun d => b_I_groupsOf_5 d.1 d.2.1 d.2.2.1 d.2.2.2.1 d.2.2.2.2.1 d.2.2.2.2.2.1 d.2.2.2.2.2.2.1⟩
noncomputable def sh_I_groupsOf_11 : List Sh := mkSh 137 [(0, .val S_string .b), (1, .val S_impl_Hunk .b), (2, .val (.int .i64) .b), (7, .val S_impl_Group (.row (.pr .b (.pr .b (.pr (.row (.pr .b (.pr .b .b))) .b))))), (8, .val (.int .i64) .b), (9, .val (.int .i64) .b), (10, .val (.int .i64) .b), (11, .val (.int .i64) .b), (12, .val (.int .i64) .b), (13, .var Y_impl_Group (.pr .b (.pr .b (.pr (.row (.pr .b (.pr .b .b))) .b)))), (14, .fn 183 [⟨13, [], 0, 0⟩])]
noncomputable def o_I_groupsOf_11 : List Out := [⟨.exit 4, ⟨[], [0, 1, 2, 7, 8, 9, 11, 12, 13, 14, 28, 29, 30, 31, 32, 33, 34, 35, 36, 37, 38, 39, 40, 41, 42, 43, 44, 45, 46, 47, 48], []⟩, mkSh 137 [(0, .val S_string .b), (1, .val S_impl_Hunk .b), (2, .val (.int .i64) .b), (7, .val S_impl_Group (.row (.pr .b (.pr .b (.pr (.row (.pr .b (.pr .b .b))) .b))))), (8, .val (.int .i64) .b), (9, .val (.int .i64) .b), (11, .val (.int .i64) .b), (12, .val (.int .i64) .b), (13, .var Y_impl_Group (.pr .b (.pr .b (.pr (.row (.pr .b (.pr .b .b))) .b)))), (14, .fn 183 [⟨13, [], 0, 0⟩])]⟩]
noncomputable def b_I_groupsOf_11 (t0 : PV S_string) (t1 : PV S_impl_Hunk) (t2 : PV (.int .i64)) (t7 : PV S_impl_Group) (t8 : PV (.int .i64)) (t9 : PV (.int .i64)) (t10 : PV (.int .i64)) (t11 : PV (.int .i64)) (t12 : PV (.int .i64)) (t13 : PV Y_impl_Group) : Option ((PV S_string × PV S_impl_Hunk × PV (.int .i64) × PV S_impl_Group × PV (.int .i64) × PV (.int .i64) × PV (.int .i64) × PV (.int .i64) × PV (.int .i64) × PV Y_impl_Group × Unit) ⊕ ((PV S_string × PV S_impl_Hunk × PV (.int .i64) × PV S_impl_Group × PV (.int .i64) × PV (.int .i64) × PV (.int .i64) × PV (.int .i64) × PV Y_impl_Group × Unit))) :=
  bif (decide (t9 ≤ t10)) then
    bif inB t9 t1.length then
      bif cutB t11 ((t1.getD t9.toNat (dflt Y_impl_Hunk)).1) t0.length then
        (w_I_groupsOf_183_97_1 (t0, t1, t2, t7, t8, t9, t10, t11, t12, t13, (t1.getD t9.toNat (dflt Y_impl_Hunk)), t9, t10, (decide (t9 ≤ t10)), t1, t9, (t1.getD t9.toNat (dflt Y_impl_Hunk)), (t1.getD t9.toNat (dflt Y_impl_Hunk)), t0, t11, (t1.getD t9.toNat (dflt Y_impl_Hunk)).1, (cutL t11 ((t1.getD t9.toNat (dflt Y_impl_Hunk)).1) t0), 1, (cutL t11 ((t1.getD t9.toNat (dflt Y_impl_Hunk)).1) t0), ((cutL t11 ((t1.getD t9.toNat (dflt Y_impl_Hunk)).1) t0).length : Int), 0, ())).bind fun l10 =>
          bif cutB l10.2.2.2.2.2.2.2.2.2.2.1.1 (IntKind.wrap .i64 (l10.2.2.2.2.2.2.2.2.2.2.1.1 + l10.2.2.2.2.2.2.2.2.2.2.1.2.1)) l10.1.length then
            (w_I_groupsOf_183_108_1 (l10.1, l10.2.1, l10.2.2.1, l10.2.2.2.1, l10.2.2.2.2.1, l10.2.2.2.2.2.1, l10.2.2.2.2.2.2.1, l10.2.2.2.2.2.2.2.1, l10.2.2.2.2.2.2.2.2.1, l10.2.2.2.2.2.2.2.2.2.1, l10.2.2.2.2.2.2.2.2.2.2.1, l10.2.2.2.2.2.2.2.2.2.2.2.1, l10.2.2.2.2.2.2.2.2.2.2.2.2.1, l10.2.2.2.2.2.2.2.2.2.2.2.2.2.1, l10.2.2.2.2.2.2.2.2.2.2.2.2.2.2.1, l10.2.2.2.2.2.2.2.2.2.2.2.2.2.2.2.1, l10.2.2.2.2.2.2.2.2.2.2.2.2.2.2.2.2.1, l10.2.2.2.2.2.2.2.2.2.2.2.2.2.2.2.2.2.1, l10.2.2.2.2.2.2.2.2.2.2.2.2.2.2.2.2.2.2.1, l10.2.2.2.2.2.2.2.2.2.2.2.2.2.2.2.2.2.2.2.1, l10.2.2.2.2.2.2.2.2.2.2.2.2.2.2.2.2.2.2.2.2.1, l10.2.2.2.2.2.2.2.2.2.2.2.2.2.2.2.2.2.2.2.2.2.1, l10.1, l10.2.2.2.2.2.2.2.2.2.2.1.1, l10.2.2.2.2.2.2.2.2.2.2.1.1, l10.2.2.2.2.2.2.2.2.2.2.1.2.1, (IntKind.wrap .i64 (l10.2.2.2.2.2.2.2.2.2.2.1.1 + l10.2.2.2.2.2.2.2.2.2.2.1.2.1)), (cutL l10.2.2.2.2.2.2.2.2.2.2.1.1 (IntKind.wrap .i64 (l10.2.2.2.2.2.2.2.2.2.2.1.1 + l10.2.2.2.2.2.2.2.2.2.2.1.2.1)) l10.1), 2, (cutL l10.2.2.2.2.2.2.2.2.2.2.1.1 (IntKind.wrap .i64 (l10.2.2.2.2.2.2.2.2.2.2.1.1 + l10.2.2.2.2.2.2.2.2.2.2.1.2.1)) l10.1), ((cutL l10.2.2.2.2.2.2.2.2.2.2.1.1 (IntKind.wrap .i64 (l10.2.2.2.2.2.2.2.2.2.2.1.1 + l10.2.2.2.2.2.2.2.2.2.2.1.2.1)) l10.1).length : Int), 0, ())).bind fun l12 =>
              (w_I_groupsOf_183_112_1 (l12.1, l12.2.1, l12.2.2.1, l12.2.2.2.1, l12.2.2.2.2.1, l12.2.2.2.2.2.1, l12.2.2.2.2.2.2.1, l12.2.2.2.2.2.2.2.1, l12.2.2.2.2.2.2.2.2.1, l12.2.2.2.2.2.2.2.2.2.1, l12.2.2.2.2.2.2.2.2.2.2.1, l12.2.2.2.2.2.2.2.2.2.2.2.1, l12.2.2.2.2.2.2.2.2.2.2.2.2.1, l12.2.2.2.2.2.2.2.2.2.2.2.2.2.1, l12.2.2.2.2.2.2.2.2.2.2.2.2.2.2.1, l12.2.2.2.2.2.2.2.2.2.2.2.2.2.2.2.1, l12.2.2.2.2.2.2.2.2.2.2.2.2.2.2.2.2.1, l12.2.2.2.2.2.2.2.2.2.2.2.2.2.2.2.2.2.1, l12.2.2.2.2.2.2.2.2.2.2.2.2.2.2.2.2.2.2.1, l12.2.2.2.2.2.2.2.2.2.2.2.2.2.2.2.2.2.2.2.1, l12.2.2.2.2.2.2.2.2.2.2.2.2.2.2.2.2.2.2.2.2.1, l12.2.2.2.2.2.2.2.2.2.2.2.2.2.2.2.2.2.2.2.2.2.1, l12.2.2.2.2.2.2.2.2.2.2.2.2.2.2.2.2.2.2.2.2.2.2.1, l12.2.2.2.2.2.2.2.2.2.2.2.2.2.2.2.2.2.2.2.2.2.2.2.1, l12.2.2.2.2.2.2.2.2.2.2.2.2.2.2.2.2.2.2.2.2.2.2.2.2.1, l12.2.2.2.2.2.2.2.2.2.2.2.2.2.2.2.2.2.2.2.2.2.2.2.2.2.1, l12.2.2.2.2.2.2.2.2.2.2.2.2.2.2.2.2.2.2.2.2.2.2.2.2.2.2.1, l12.2.2.2.2.2.2.2.2.2.2.2.2.2.2.2.2.2.2.2.2.2.2.2.2.2.2.2.1, l12.2.2.2.2.2.2.2.2.2.2.1.2.2.1, 3, l12.2.2.2.2.2.2.2.2.2.2.1.2.2.1, (l12.2.2.2.2.2.2.2.2.2.2.1.2.2.1.length : Int), 0, ())).bind fun l14 =>
                some (.inl (l14.1, l14.2.1, l14.2.2.1, l14.2.2.2.1, (IntKind.wrap .i64 (l14.2.2.2.2.1 + (IntKind.wrap .i64 ((l14.2.2.2.2.2.2.2.2.2.2.1.2.2.1.length : Int) - l14.2.2.2.2.2.2.2.2.2.2.1.2.1)))), (IntKind.wrap .i64 (l14.2.2.2.2.2.1 + 1)), l14.2.2.2.2.2.2.1, (IntKind.wrap .i64 (l14.2.2.2.2.2.2.2.2.2.2.1.1 + l14.2.2.2.2.2.2.2.2.2.2.1.2.1)), l14.2.2.2.2.2.2.2.2.1, l14.2.2.2.2.2.2.2.2.2.1, ()))
          else
            none
      else
        none
    else
      none
  else
    some (.inr (t0, t1, t2, t7, t8, t9, t11, t12, t13, ()))
noncomputable def w_I_groupsOf_11 : PV S_string × PV S_impl_Hunk × PV (.int .i64) × PV S_impl_Group × PV (.int .i64) × PV (.int .i64) × PV (.int .i64) × PV (.int .i64) × PV (.int .i64) × PV Y_impl_Group × Unit → Option ((PV S_string × PV S_impl_Hunk × PV (.int .i64) × PV S_impl_Group × PV (.int .i64) × PV (.int .i64) × PV (.int .i64) × PV (.int .i64) × PV Y_impl_Group × Unit)) := fix fun d => b_I_groupsOf_11 d.1 d.2.1 d.2.2.1 d.2.2.2.1 d.2.2.2.2.1 d.2.2.2.2.2.1 d.2.2.2.2.2.2.1 d.2.2.2.2.2.2.2.1 d.2.2.2.2.2.2.2.2.1 d.2.2.2.2.2.2.2.2.2.1
noncomputable def lp_I_groupsOf_11 : Lp := ⟨⟨[], [0, 1, 2, 7, 8, 9, 10, 11, 12, 13, 14, 28, 29, 30, 31, 32, 33, 34, 35, 36, 37, 38, 39, 40, 41, 42, 43, 44, 45, 46, 47, 48], []⟩, sh_I_groupsOf_11, o_I_groupsOf_11, fun d => b_I_groupsOf_11 d.1 d.2.1 d.2.2.1 d.2.2.2.1 d.2.2.2.2.1 d.2.2.2.2.2.1 d.2.2.2.2.2.2.1 d.2.2.2.2.2.2.2.1 d.2.2.2.2.2.2.2.2.1 d.2.2.2.2.2.2.2.2.2.1⟩
noncomputable def sh_I_groupsOf_3 : List Sh := mkSh 137 [(0, .val S_string .b), (1, .val S_impl_Hunk .b), (2, .val (.int .i64) .b), (7, .val S_impl_Group (.row (.pr .b (.pr .b (.pr (.row (.pr .b (.pr .b .b))) .b))))), (8, .val (.int .i64) .b), (9, .val (.int .i64) .b)]
noncomputable def o_I_groupsOf_3 : List Out := [⟨.exit 0, ⟨[], [7], []⟩, mkSh 137 [(7, .val S_impl_Group (.row (.pr .b (.pr .b (.pr (.row (.pr .b (.pr .b .b))) .b)))))]⟩]
noncomputable def b_I_groupsOf_3 (t0 : PV S_string) (t1 : PV S_impl_Hunk) (t2 : PV (.int .i64)) (t7 : PV S_impl_Group) (t8 : PV (.int .i64)) (t9 : PV (.int .i64)) : Option ((PV S_string × PV S_impl_Hunk × PV (.int .i64) × PV S_impl_Group × PV (.int .i64) × PV (.int .i64) × Unit) ⊕ ((PV S_impl_Group × Unit))) :=
  bif (decide (t9 < (t1.length : Int))) then
    (w_I_groupsOf_5 (t0, t1, t2, t7, t8, t9, t9, ())).bind fun l2 =>
      bif inB l2.2.2.2.2.2.1 l2.2.1.length then
        bif inB l2.2.2.2.2.2.2.1 l2.2.1.length then
          bif inB l2.2.2.2.2.2.2.1 l2.2.1.length then
            (w_I_groupsOf_11 (l2.1, l2.2.1, l2.2.2.1, l2.2.2.2.1, l2.2.2.2.2.1, l2.2.2.2.2.2.1, l2.2.2.2.2.2.2.1, (bif decide (0 > (IntKind.wrap .i64 (((l2.2.1.getD l2.2.2.2.2.2.1.toNat (dflt Y_impl_Hunk)).1) - l2.2.2.1))) then 0 else (IntKind.wrap .i64 (((l2.2.1.getD l2.2.2.2.2.2.1.toNat (dflt Y_impl_Hunk)).1) - l2.2.2.1))), (bif decide ((l2.1.length : Int) < (IntKind.wrap .i64 ((IntKind.wrap .i64 (((l2.2.1.getD l2.2.2.2.2.2.2.1.toNat (dflt Y_impl_Hunk)).1) + (((l2.2.1.getD l2.2.2.2.2.2.2.1.toNat (dflt Y_impl_Hunk)).2).1))) + l2.2.2.1))) then (l2.1.length : Int) else (IntKind.wrap .i64 ((IntKind.wrap .i64 (((l2.2.1.getD l2.2.2.2.2.2.2.1.toNat (dflt Y_impl_Hunk)).1) + (((l2.2.1.getD l2.2.2.2.2.2.2.1.toNat (dflt Y_impl_Hunk)).2).1))) + l2.2.2.1))), ((bif decide (0 > (IntKind.wrap .i64 (((l2.2.1.getD l2.2.2.2.2.2.1.toNat (dflt Y_impl_Hunk)).1) - l2.2.2.1))) then 0 else (IntKind.wrap .i64 (((l2.2.1.getD l2.2.2.2.2.2.1.toNat (dflt Y_impl_Hunk)).1) - l2.2.2.1))), ((IntKind.wrap .i64 ((bif decide (0 > (IntKind.wrap .i64 (((l2.2.1.getD l2.2.2.2.2.2.1.toNat (dflt Y_impl_Hunk)).1) - l2.2.2.1))) then 0 else (IntKind.wrap .i64 (((l2.2.1.getD l2.2.2.2.2.2.1.toNat (dflt Y_impl_Hunk)).1) - l2.2.2.1))) + l2.2.2.2.2.1)), (([] : PV S_impl_Row), ()))), ())).bind fun l4 =>
              bif cutB l4.2.2.2.2.2.2.1 l4.2.2.2.2.2.2.2.1 l4.1.length then
                (w_I_groupsOf_183_131_1 (l4.1, l4.2.1, l4.2.2.1, l4.2.2.2.1, l4.2.2.2.2.1, l4.2.2.2.2.2.1, l4.2.2.2.2.2.2.1, l4.2.2.2.2.2.2.2.1, l4.2.2.2.2.2.2.2.2.1, l4.1, l4.2.2.2.2.2.2.1, l4.2.2.2.2.2.2.2.1, (cutL l4.2.2.2.2.2.2.1 l4.2.2.2.2.2.2.2.1 l4.1), 1, (cutL l4.2.2.2.2.2.2.1 l4.2.2.2.2.2.2.2.1 l4.1), ((cutL l4.2.2.2.2.2.2.1 l4.2.2.2.2.2.2.2.1 l4.1).length : Int), 0, ())).bind fun l6 =>
                  bif roomB (l6.2.2.2.1.length + [l6.2.2.2.2.2.2.2.2.1].length) then
                    some (.inl (l6.1, l6.2.1, l6.2.2.1, (l6.2.2.2.1 ++ [l6.2.2.2.2.2.2.2.2.1]), l6.2.2.2.2.1, l6.2.2.2.2.2.1, ()))
                  else
                    none
              else
                none
          else
            none
        else
          none
      else
        none
  else
    some (.inr (t7, ()))
noncomputable def w_I_groupsOf_3 : PV S_string × PV S_impl_Hunk × PV (.int .i64) × PV S_impl_Group × PV (.int .i64) × PV (.int .i64) × Unit → Option ((PV S_impl_Group × Unit)) := fix fun d => b_I_groupsOf_3 d.1 d.2.1 d.2.2.1 d.2.2.2.1 d.2.2.2.2.1 d.2.2.2.2.2.1
noncomputable def lp_I_groupsOf_3 : Lp := ⟨⟨[], [0, 1, 2, 7, 8, 9, 28, 29, 30, 31, 32, 33, 34, 35, 36, 37, 38, 39, 40, 41, 42, 43, 44, 45, 46, 47, 48], []⟩, sh_I_groupsOf_3, o_I_groupsOf_3, fun d => b_I_groupsOf_3 d.1 d.2.1 d.2.2.1 d.2.2.2.1 d.2.2.2.2.1 d.2.2.2.2.2.1⟩
noncomputable def pl_I_groupsOf : Plan := ⟨[], [(5, lp_I_groupsOf_5), (11, lp_I_groupsOf_11), (3, lp_I_groupsOf_3)], 1, 0⟩
noncomputable def f_I_groupsOf (t0 : PV S_string) (t1 : PV S_impl_Hunk) (t2 : PV (.int .i64)) : Option (PVs [S_impl_Group] × PVs []) :=
  (w_I_groupsOf_3 (t0, t1, t2, ([] : PV S_impl_Group), 0, 0, ())).bind fun l8 =>
    some ((l8.1, ()), ())
noncomputable def ct_I_groupsOf : Ct := ⟨[(.bor, S_string), (.bor, S_impl_Hunk), (.bor, (.int .i64))], [(S_impl_Group, true)], fun x => f_I_groupsOf x.1 x.2.1 x.2.2.1⟩
noncomputable def cx_I_groupsOf : Cx := ⟨tab, arrs, [], [], gl, [(97, 183, Tryd.f183, pl_I_groupsOf_183_97), (108, 183, Tryd.f183, pl_I_groupsOf_183_108), (112, 183, Tryd.f183, pl_I_groupsOf_183_112), (131, 183, Tryd.f183, pl_I_groupsOf_183_131)]⟩
theorem eb_I_groupsOf_183_97_1 (t0 : PV S_string) (t1 : PV S_impl_Hunk) (t2 : PV (.int .i64)) (t7 : PV S_impl_Group) (t8 : PV (.int .i64)) (t9 : PV (.int .i64)) (t10 : PV (.int .i64)) (t11 : PV (.int .i64)) (t12 : PV (.int .i64)) (t13 : PV Y_impl_Group) (t15 : PV Y_impl_Hunk) (t82 : PV (.int .i64)) (t83 : PV (.int .i64)) (t84 : PV .bool) (t87 : PV S_impl_Hunk) (t88 : PV (.int .i64)) (t89 : PV Y_impl_Hunk) (t90 : PV Y_impl_Hunk) (t92 : PV S_string) (t93 : PV (.int .i64)) (t95 : PV (.int .i64)) (t96 : PV S_string) (t137 : PV (.int .i64)) (t144 : PV S_string) (t145 : PV (.int .i64)) (t146 : PV (.int .i64)) : denK cx_I_groupsOf (rcN cx_I_groupsOf 0) pl_I_groupsOf_183_97 137 ((loopsOf (bodyOf Tryd.f183)).getD 0 .skip) (fillS sh_I_groupsOf_183_97_1 (t0, t1, t2, t7, t8, t9, t10, t11, t12, t13, t15, t82, t83, t84, t87, t88, t89, t90, t92, t93, t95, t96, t137, t144, t145, t146, ())) (roundK 137 lp_I_groupsOf_183_97_1) = b_I_groupsOf_183_97_1 t0 t1 t2 t7 t8 t9 t10 t11 t12 t13 t15 t82 t83 t84 t87 t88 t89 t90 t92 t93 t95 t96 t137 t144 t145 t146 := by kernel_rfl
theorem eb_I_groupsOf_183_108_1 (t0 : PV S_string) (t1 : PV S_impl_Hunk) (t2 : PV (.int .i64)) (t7 : PV S_impl_Group) (t8 : PV (.int .i64)) (t9 : PV (.int .i64)) (t10 : PV (.int .i64)) (t11 : PV (.int .i64)) (t12 : PV (.int .i64)) (t13 : PV Y_impl_Group) (t15 : PV Y_impl_Hunk) (t82 : PV (.int .i64)) (t83 : PV (.int .i64)) (t84 : PV .bool) (t87 : PV S_impl_Hunk) (t88 : PV (.int .i64)) (t89 : PV Y_impl_Hunk) (t90 : PV Y_impl_Hunk) (t92 : PV S_string) (t93 : PV (.int .i64)) (t95 : PV (.int .i64)) (t96 : PV S_string) (t99 : PV S_string) (t101 : PV (.int .i64)) (t103 : PV (.int .i64)) (t105 : PV (.int .i64)) (t106 : PV (.int .i64)) (t107 : PV S_string) (t137 : PV (.int .i64)) (t144 : PV S_string) (t145 : PV (.int .i64)) (t146 : PV (.int .i64)) : denK cx_I_groupsOf (rcN cx_I_groupsOf 0) pl_I_groupsOf_183_108 137 ((loopsOf (bodyOf Tryd.f183)).getD 0 .skip) (fillS sh_I_groupsOf_183_108_1 (t0, t1, t2, t7, t8, t9, t10, t11, t12, t13, t15, t82, t83, t84, t87, t88, t89, t90, t92, t93, t95, t96, t99, t101, t103, t105, t106, t107, t137, t144, t145, t146, ())) (roundK 137 lp_I_groupsOf_183_108_1) = b_I_groupsOf_183_108_1 t0 t1 t2 t7 t8 t9 t10 t11 t12 t13 t15 t82 t83 t84 t87 t88 t89 t90 t92 t93 t95 t96 t99 t101 t103 t105 t106 t107 t137 t144 t145 t146 := by kernel_rfl
theorem eb_I_groupsOf_183_112_1 (t0 : PV S_string) (t1 : PV S_impl_Hunk) (t2 : PV (.int .i64)) (t7 : PV S_impl_Group) (t8 : PV (.int .i64)) (t9 : PV (.int .i64)) (t10 : PV (.int .i64)) (t11 : PV (.int .i64)) (t12 : PV (.int .i64)) (t13 : PV Y_impl_Group) (t15 : PV Y_impl_Hunk) (t82 : PV (.int .i64)) (t83 : PV (.int .i64)) (t84 : PV .bool) (t87 : PV S_impl_Hunk) (t88 : PV (.int .i64)) (t89 : PV Y_impl_Hunk) (t90 : PV Y_impl_Hunk) (t92 : PV S_string) (t93 : PV (.int .i64)) (t95 : PV (.int .i64)) (t96 : PV S_string) (t99 : PV S_string) (t101 : PV (.int .i64)) (t103 : PV (.int .i64)) (t105 : PV (.int .i64)) (t106 : PV (.int .i64)) (t107 : PV S_string) (t111 : PV S_string) (t137 : PV (.int .i64)) (t144 : PV S_string) (t145 : PV (.int .i64)) (t146 : PV (.int .i64)) : denK cx_I_groupsOf (rcN cx_I_groupsOf 0) pl_I_groupsOf_183_112 137 ((loopsOf (bodyOf Tryd.f183)).getD 0 .skip) (fillS sh_I_groupsOf_183_112_1 (t0, t1, t2, t7, t8, t9, t10, t11, t12, t13, t15, t82, t83, t84, t87, t88, t89, t90, t92, t93, t95, t96, t99, t101, t103, t105, t106, t107, t111, t137, t144, t145, t146, ())) (roundK 137 lp_I_groupsOf_183_112_1) = b_I_groupsOf_183_112_1 t0 t1 t2 t7 t8 t9 t10 t11 t12 t13 t15 t82 t83 t84 t87 t88 t89 t90 t92 t93 t95 t96 t99 t101 t103 t105 t106 t107 t111 t137 t144 t145 t146 := by kernel_rfl
theorem eb_I_groupsOf_183_131_1 (t0 : PV S_string) (t1 : PV S_impl_Hunk) (t2 : PV (.int .i64)) (t7 : PV S_impl_Group) (t8 : PV (.int .i64)) (t9 : PV (.int .i64)) (t11 : PV (.int .i64)) (t12 : PV (.int .i64)) (t13 : PV Y_impl_Group) (t127 : PV S_string) (t128 : PV (.int .i64)) (t129 : PV (.int .i64)) (t130 : PV S_string) (t137 : PV (.int .i64)) (t144 : PV S_string) (t145 : PV (.int .i64)) (t146 : PV (.int .i64)) : denK cx_I_groupsOf (rcN cx_I_groupsOf 0) pl_I_groupsOf_183_131 137 ((loopsOf (bodyOf Tryd.f183)).getD 0 .skip) (fillS sh_I_groupsOf_183_131_1 (t0, t1, t2, t7, t8, t9, t11, t12, t13, t127, t128, t129, t130, t137, t144, t145, t146, ())) (roundK 137 lp_I_groupsOf_183_131_1) = b_I_groupsOf_183_131_1 t0 t1 t2 t7 t8 t9 t11 t12 t13 t127 t128 t129 t130 t137 t144 t145 t146 := by kernel_rfl
theorem eb_I_groupsOf_3 (t0 : PV S_string) (t1 : PV S_impl_Hunk) (t2 : PV (.int .i64)) (t7 : PV S_impl_Group) (t8 : PV (.int .i64)) (t9 : PV (.int .i64)) : denK cx_I_groupsOf (rcN cx_I_groupsOf 1) pl_I_groupsOf 0 ((loopsOf (bodyOf Tryd.f142)).getD 0 .skip) (fillS sh_I_groupsOf_3 (t0, t1, t2, t7, t8, t9, ())) (roundK 0 lp_I_groupsOf_3) = b_I_groupsOf_3 t0 t1 t2 t7 t8 t9 := by kernel_rfl
theorem eb_I_groupsOf_5 (t0 : PV S_string) (t1 : PV S_impl_Hunk) (t2 : PV (.int .i64)) (t7 : PV S_impl_Group) (t8 : PV (.int .i64)) (t9 : PV (.int .i64)) (t10 : PV (.int .i64)) : denK cx_I_groupsOf (rcN cx_I_groupsOf 1) pl_I_groupsOf 0 ((loopsOf (bodyOf Tryd.f142)).getD 1 .skip) (fillS sh_I_groupsOf_5 (t0, t1, t2, t7, t8, t9, t10, ())) (roundK 0 lp_I_groupsOf_5) = b_I_groupsOf_5 t0 t1 t2 t7 t8 t9 t10 := by kernel_rfl
theorem eb_I_groupsOf_11 (t0 : PV S_string) (t1 : PV S_impl_Hunk) (t2 : PV (.int .i64)) (t7 : PV S_impl_Group) (t8 : PV (.int .i64)) (t9 : PV (.int .i64)) (t10 : PV (.int .i64)) (t11 : PV (.int .i64)) (t12 : PV (.int .i64)) (t13 : PV Y_impl_Group) : denK cx_I_groupsOf (rcN cx_I_groupsOf 1) pl_I_groupsOf 0 ((loopsOf (bodyOf Tryd.f142)).getD 2 .skip) (fillS sh_I_groupsOf_11 (t0, t1, t2, t7, t8, t9, t10, t11, t12, t13, ())) (roundK 0 lp_I_groupsOf_11) = b_I_groupsOf_11 t0 t1 t2 t7 t8 t9 t10 t11 t12 t13 := by kernel_rfl
theorem ef_I_groupsOf (t0 : PV S_string) (t1 : PV S_impl_Hunk) (t2 : PV (.int .i64)) : denF cx_I_groupsOf 1 pl_I_groupsOf Tryd.f142.ntmps (bodyOf Tryd.f142) Tryd.f142.results.toList [(.bor, S_string), (.bor, S_impl_Hunk), (.bor, (.int .i64))] [(S_impl_Group, true)] (t0, t1, t2, ()) = f_I_groupsOf t0 t1 t2 := by kernel_rfl
theorem ok_I_groupsOf : FnOk gl Tryd.prog 142 ct_I_groupsOf :=
  fnOk (cx := cx_I_groupsOf) (pl := pl_I_groupsOf) (dp := 1) (ok0_of tabOk (by unfold ArrOk; kernel_rfl) mix trivial trivial (hsi := ⟨⟨Tryd.func183, by kernel_rfl, (by rw [show loopsOf (bodyOf Tryd.f183) = [((loopsOf (bodyOf Tryd.f183)).getD 0 .skip)] from by kernel_rfl]; exact ⟨(by rw [show lookup pl_I_groupsOf_183_97.loops (firstId ((loopsOf (bodyOf Tryd.f183)).getD 0 .skip)) = some lp_I_groupsOf_183_97_1 from by kernel_rfl]; exact fun d z h => (eb_I_groupsOf_183_97_1 d.1 d.2.1 d.2.2.1 d.2.2.2.1 d.2.2.2.2.1 d.2.2.2.2.2.1 d.2.2.2.2.2.2.1 d.2.2.2.2.2.2.2.1 d.2.2.2.2.2.2.2.2.1 d.2.2.2.2.2.2.2.2.2.1 d.2.2.2.2.2.2.2.2.2.2.1 d.2.2.2.2.2.2.2.2.2.2.2.1 d.2.2.2.2.2.2.2.2.2.2.2.2.1 d.2.2.2.2.2.2.2.2.2.2.2.2.2.1 d.2.2.2.2.2.2.2.2.2.2.2.2.2.2.1 d.2.2.2.2.2.2.2.2.2.2.2.2.2.2.2.1 d.2.2.2.2.2.2.2.2.2.2.2.2.2.2.2.2.1 d.2.2.2.2.2.2.2.2.2.2.2.2.2.2.2.2.2.1 d.2.2.2.2.2.2.2.2.2.2.2.2.2.2.2.2.2.2.1 d.2.2.2.2.2.2.2.2.2.2.2.2.2.2.2.2.2.2.2.1 d.2.2.2.2.2.2.2.2.2.2.2.2.2.2.2.2.2.2.2.2.1 d.2.2.2.2.2.2.2.2.2.2.2.2.2.2.2.2.2.2.2.2.2.1 d.2.2.2.2.2.2.2.2.2.2.2.2.2.2.2.2.2.2.2.2.2.2.1 d.2.2.2.2.2.2.2.2.2.2.2.2.2.2.2.2.2.2.2.2.2.2.2.1 d.2.2.2.2.2.2.2.2.2.2.2.2.2.2.2.2.2.2.2.2.2.2.2.2.1 d.2.2.2.2.2.2.2.2.2.2.2.2.2.2.2.2.2.2.2.2.2.2.2.2.2.1).trans h), trivial⟩)⟩, ⟨Tryd.func183, by kernel_rfl, (by rw [show loopsOf (bodyOf Tryd.f183) = [((loopsOf (bodyOf Tryd.f183)).getD 0 .skip)] from by kernel_rfl]; exact ⟨(by rw [show lookup pl_I_groupsOf_183_108.loops (firstId ((loopsOf (bodyOf Tryd.f183)).getD 0 .skip)) = some lp_I_groupsOf_183_108_1 from by kernel_rfl]; exact fun d z h => (eb_I_groupsOf_183_108_1 d.1 d.2.1 d.2.2.1 d.2.2.2.1 d.2.2.2.2.1 d.2.2.2.2.2.1 d.2.2.2.2.2.2.1 d.2.2.2.2.2.2.2.1 d.2.2.2.2.2.2.2.2.1 d.2.2.2.2.2.2.2.2.2.1 d.2.2.2.2.2.2.2.2.2.2.1 d.2.2.2.2.2.2.2.2.2.2.2.1 d.2.2.2.2.2.2.2.2.2.2.2.2.1 d.2.2.2.2.2.2.2.2.2.2.2.2.2.1 d.2.2.2.2.2.2.2.2.2.2.2.2.2.2.1 d.2.2.2.2.2.2.2.2.2.2.2.2.2.2.2.1 d.2.2.2.2.2.2.2.2.2.2.2.2.2.2.2.2.1 d.2.2.2.2.2.2.2.2.2.2.2.2.2.2.2.2.2.1 d.2.2.2.2.2.2.2.2.2.2.2.2.2.2.2.2.2.2.1 d.2.2.2.2.2.2.2.2.2.2.2.2.2.2.2.2.2.2.2.1 d.2.2.2.2.2.2.2.2.2.2.2.2.2.2.2.2.2.2.2.2.1 d.2.2.2.2.2.2.2.2.2.2.2.2.2.2.2.2.2.2.2.2.2.1 d.2.2.2.2.2.2.2.2.2.2.2.2.2.2.2.2.2.2.2.2.2.2.1 d.2.2.2.2.2.2.2.2.2.2.2.2.2.2.2.2.2.2.2.2.2.2.2.1 d.2.2.2.2.2.2.2.2.2.2.2.2.2.2.2.2.2.2.2.2.2.2.2.2.1 d.2.2.2.2.2.2.2.2.2.2.2.2.2.2.2.2.2.2.2.2.2.2.2.2.2.1 d.2.2.2.2.2.2.2.2.2.2.2.2.2.2.2.2.2.2.2.2.2.2.2.2.2.2.1 d.2.2.2.2.2.2.2.2.2.2.2.2.2.2.2.2.2.2.2.2.2.2.2.2.2.2.2.1 d.2.2.2.2.2.2.2.2.2.2.2.2.2.2.2.2.2.2.2.2.2.2.2.2.2.2.2.2.1 d.2.2.2.2.2.2.2.2.2.2.2.2.2.2.2.2.2.2.2.2.2.2.2.2.2.2.2.2.2.1 d.2.2.2.2.2.2.2.2.2.2.2.2.2.2.2.2.2.2.2.2.2.2.2.2.2.2.2.2.2.2.1 d.2.2.2.2.2.2.2.2.2.2.2.2.2.2.2.2.2.2.2.2.2.2.2.2.2.2.2.2.2.2.2.1).trans h), trivial⟩)⟩, ⟨Tryd.func183, by kernel_rfl, (by rw [show loopsOf (bodyOf Tryd.f183) = [((loopsOf (bodyOf Tryd.f183)).getD 0 .skip)] from by kernel_rfl]; exact ⟨(by rw [show lookup pl_I_groupsOf_183_112.loops (firstId ((loopsOf (bodyOf Tryd.f183)).getD 0 .skip)) = some lp_I_groupsOf_183_112_1 from by kernel_rfl]; exact fun d z h => (eb_I_groupsOf_183_112_1 d.1 d.2.1 d.2.2.1 d.2.2.2.1 d.2.2.2.2.1 d.2.2.2.2.2.1 d.2.2.2.2.2.2.1 d.2.2.2.2.2.2.2.1 d.2.2.2.2.2.2.2.2.1 d.2.2.2.2.2.2.2.2.2.1 d.2.2.2.2.2.2.2.2.2.2.1 d.2.2.2.2.2.2.2.2.2.2.2.1 d.2.2.2.2.2.2.2.2.2.2.2.2.1 d.2.2.2.2.2.2.2.2.2.2.2.2.2.1 d.2.2.2.2.2.2.2.2.2.2.2.2.2.2.1 d.2.2.2.2.2.2.2.2.2.2.2.2.2.2.2.1 d.2.2.2.2.2.2.2.2.2.2.2.2.2.2.2.2.1 d.2.2.2.2.2.2.2.2.2.2.2.2.2.2.2.2.2.1 d.2.2.2.2.2.2.2.2.2.2.2.2.2.2.2.2.2.2.1 d.2.2.2.2.2.2.2.2.2.2.2.2.2.2.2.2.2.2.2.1 d.2.2.2.2.2.2.2.2.2.2.2.2.2.2.2.2.2.2.2.2.1 d.2.2.2.2.2.2.2.2.2.2.2.2.2.2.2.2.2.2.2.2.2.1 d.2.2.2.2.2.2.2.2.2.2.2.2.2.2.2.2.2.2.2.2.2.2.1 d.2.2.2.2.2.2.2.2.2.2.2.2.2.2.2.2.2.2.2.2.2.2.2.1 d.2.2.2.2.2.2.2.2.2.2.2.2.2.2.2.2.2.2.2.2.2.2.2.2.1 d.2.2.2.2.2.2.2.2.2.2.2.2.2.2.2.2.2.2.2.2.2.2.2.2.2.1 d.2.2.2.2.2.2.2.2.2.2.2.2.2.2.2.2.2.2.2.2.2.2.2.2.2.2.1 d.2.2.2.2.2.2.2.2.2.2.2.2.2.2.2.2.2.2.2.2.2.2.2.2.2.2.2.1 d.2.2.2.2.2.2.2.2.2.2.2.2.2.2.2.2.2.2.2.2.2.2.2.2.2.2.2.2.1 d.2.2.2.2.2.2.2.2.2.2.2.2.2.2.2.2.2.2.2.2.2.2.2.2.2.2.2.2.2.1 d.2.2.2.2.2.2.2.2.2.2.2.2.2.2.2.2.2.2.2.2.2.2.2.2.2.2.2.2.2.2.1 d.2.2.2.2.2.2.2.2.2.2.2.2.2.2.2.2.2.2.2.2.2.2.2.2.2.2.2.2.2.2.2.1 d.2.2.2.2.2.2.2.2.2.2.2.2.2.2.2.2.2.2.2.2.2.2.2.2.2.2.2.2.2.2.2.2.1).trans h), trivial⟩)⟩, ⟨Tryd.func183, by kernel_rfl, (by rw [show loopsOf (bodyOf Tryd.f183) = [((loopsOf (bodyOf Tryd.f183)).getD 0 .skip)] from by kernel_rfl]; exact ⟨(by rw [show lookup pl_I_groupsOf_183_131.loops (firstId ((loopsOf (bodyOf Tryd.f183)).getD 0 .skip)) = some lp_I_groupsOf_183_131_1 from by kernel_rfl]; exact fun d z h => (eb_I_groupsOf_183_131_1 d.1 d.2.1 d.2.2.1 d.2.2.2.1 d.2.2.2.2.1 d.2.2.2.2.2.1 d.2.2.2.2.2.2.1 d.2.2.2.2.2.2.2.1 d.2.2.2.2.2.2.2.2.1 d.2.2.2.2.2.2.2.2.2.1 d.2.2.2.2.2.2.2.2.2.2.1 d.2.2.2.2.2.2.2.2.2.2.2.1 d.2.2.2.2.2.2.2.2.2.2.2.2.1 d.2.2.2.2.2.2.2.2.2.2.2.2.2.1 d.2.2.2.2.2.2.2.2.2.2.2.2.2.2.1 d.2.2.2.2.2.2.2.2.2.2.2.2.2.2.2.1 d.2.2.2.2.2.2.2.2.2.2.2.2.2.2.2.2.1).trans h), trivial⟩)⟩, trivial⟩)) Tryd.func142 (by kernel_rfl) (by kernel_rfl) (by kernel_rfl)
    (by rw [show loopsOf (bodyOf Tryd.f142) = [((loopsOf (bodyOf Tryd.f142)).getD 0 .skip), ((loopsOf (bodyOf Tryd.f142)).getD 1 .skip), ((loopsOf (bodyOf Tryd.f142)).getD 2 .skip)] from by kernel_rfl]; exact ⟨(by rw [show lookup pl_I_groupsOf.loops (firstId ((loopsOf (bodyOf Tryd.f142)).getD 0 .skip)) = some lp_I_groupsOf_3 from by kernel_rfl]; exact fun d z h => (eb_I_groupsOf_3 d.1 d.2.1 d.2.2.1 d.2.2.2.1 d.2.2.2.2.1 d.2.2.2.2.2.1).trans h), (by rw [show lookup pl_I_groupsOf.loops (firstId ((loopsOf (bodyOf Tryd.f142)).getD 1 .skip)) = some lp_I_groupsOf_5 from by kernel_rfl]; exact fun d z h => (eb_I_groupsOf_5 d.1 d.2.1 d.2.2.1 d.2.2.2.1 d.2.2.2.2.1 d.2.2.2.2.2.1 d.2.2.2.2.2.2.1).trans h), (by rw [show lookup pl_I_groupsOf.loops (firstId ((loopsOf (bodyOf Tryd.f142)).getD 2 .skip)) = some lp_I_groupsOf_11 from by kernel_rfl]; exact fun d z h => (eb_I_groupsOf_11 d.1 d.2.1 d.2.2.1 d.2.2.2.1 d.2.2.2.2.1 d.2.2.2.2.2.1 d.2.2.2.2.2.2.1 d.2.2.2.2.2.2.2.1 d.2.2.2.2.2.2.2.2.1 d.2.2.2.2.2.2.2.2.2.1).trans h), trivial⟩) (fun x => ef_I_groupsOf x.1 x.2.1 x.2.2.1)
noncomputable def o_I_GroupsOf_3 : List Out := [⟨.normal, ⟨[], [0, 1, 2, 22], []⟩, mkSh 27 [(0, .val S_string .b), (1, .val S_impl_Hunk .b), (2, .val (.int .i64) .b), (22, .val .bool .b)]⟩]
noncomputable def pl_I_GroupsOf : Plan := ⟨[(3, o_I_GroupsOf_3)], [], 0, 0⟩
noncomputable def f_I_GroupsOf (t0 : PV S_string) (t1 : PV S_impl_Hunk) (t2 : PV (.int .i64)) : Option (PVs [S_impl_Group, .bool] × PVs []) :=
  (f_I_Patch t0 t1).bind fun r7 =>
    ((
        bif (!r7.1.2.1) then
          some (t0, t1, t2, true, ())
        else
          (f_I_isWidth t2).bind fun r8 =>
            some (t0, t1, t2, (!r8.1.1), ()) : Option ((PV S_string × PV S_impl_Hunk × PV (.int .i64) × PV .bool × Unit)))).bind fun j9 =>
      bif j9.2.2.2.1 then
        some (([], false, ()), ())
      else
        (f_I_groupsOf j9.1 j9.2.1 j9.2.2.1).bind fun r10 =>
          some ((r10.1.1, true, ()), ())
noncomputable def ct_I_GroupsOf : Ct := ⟨[(.bor, S_string), (.bor, S_impl_Hunk), (.bor, (.int .i64))], [(S_impl_Group, true), (.bool, false)], fun x => f_I_GroupsOf x.1 x.2.1 x.2.2.1⟩
noncomputable def cx_I_GroupsOf : Cx := ⟨tab, arrs, [(136, ct_I_Patch), (141, ct_I_isWidth), (142, ct_I_groupsOf)], [], gl, []⟩
theorem ef_I_GroupsOf (t0 : PV S_string) (t1 : PV S_impl_Hunk) (t2 : PV (.int .i64)) : denF cx_I_GroupsOf 0 pl_I_GroupsOf Tryd.f87.ntmps (bodyOf Tryd.f87) Tryd.f87.results.toList [(.bor, S_string), (.bor, S_impl_Hunk), (.bor, (.int .i64))] [(S_impl_Group, true), (.bool, false)] (t0, t1, t2, ()) = f_I_GroupsOf t0 t1 t2 := by kernel_rfl
theorem ok_I_GroupsOf : FnOk gl Tryd.prog 87 ct_I_GroupsOf :=
  fnOk (cx := cx_I_GroupsOf) (pl := pl_I_GroupsOf) (dp := 0) (ok0_of tabOk (by unfold ArrOk; kernel_rfl) mix ⟨ok_I_Patch, ok_I_isWidth, ok_I_groupsOf, trivial⟩ trivial) Tryd.func87 (by kernel_rfl) (by kernel_rfl) (by kernel_rfl)
    (by rw [show loopsOf (bodyOf Tryd.f87) = [] from by kernel_rfl]; exact trivial) (fun x => ef_I_GroupsOf x.1 x.2.1 x.2.2.1)
noncomputable def o_I_sideOf_7 : List Out := [⟨.normal, ⟨[], [1, 5, 9, 10, 11], []⟩, mkSh 26 [(1, .val (.int .i64) .b), (5, .val S_string (.row .b)), (9, .val S_impl_Row .b), (10, .val (.int .i64) .b), (11, .val (.int .i64) .b)]⟩]
noncomputable def sh_I_sideOf_3 : List Sh := mkSh 26 [(1, .val (.int .i64) .b), (5, .val S_string (.row .b)), (9, .val S_impl_Row .b), (10, .val (.int .i64) .b), (11, .val (.int .i64) .b)]
noncomputable def o_I_sideOf_3 : List Out := [⟨.exit 0, ⟨[], [5], []⟩, mkSh 26 [(5, .val S_string (.row .b))]⟩]
noncomputable def b_I_sideOf_3 (t1 : PV (.int .i64)) (t5 : PV S_string) (t9 : PV S_impl_Row) (t10 : PV (.int .i64)) (t11 : PV (.int .i64)) : Option ((PV (.int .i64) × PV S_string × PV S_impl_Row × PV (.int .i64) × PV (.int .i64) × Unit) ⊕ ((PV S_string × Unit))) :=
  bif (decide (t11 < t10)) then
    ((
        bif inB t11 t9.length then
          bif (!(((t9.getD t11.toNat (dflt Y_impl_Row)).1) == t1)) then
            bif roomB (t5.length + [((t9.getD t11.toNat (dflt Y_impl_Row)).2).1].length) then
              some (t1, (t5 ++ [((t9.getD t11.toNat (dflt Y_impl_Row)).2).1]), t9, t10, t11, ())
            else
              none
          else
            some (t1, t5, t9, t10, t11, ())
        else
          none : Option ((PV (.int .i64) × PV S_string × PV S_impl_Row × PV (.int .i64) × PV (.int .i64) × Unit)))).bind fun j1 =>
      some (.inl (j1.1, j1.2.1, j1.2.2.1, j1.2.2.2.1, (IntKind.wrap .i64 (j1.2.2.2.2.1 + 1)), ()))
  else
    some (.inr (t5, ()))
noncomputable def w_I_sideOf_3 : PV (.int .i64) × PV S_string × PV S_impl_Row × PV (.int .i64) × PV (.int .i64) × Unit → Option ((PV S_string × Unit)) := fix fun d => b_I_sideOf_3 d.1 d.2.1 d.2.2.1 d.2.2.2.1 d.2.2.2.2.1
noncomputable def lp_I_sideOf_3 : Lp := ⟨⟨[], [1, 5, 9, 10, 11], []⟩, sh_I_sideOf_3, o_I_sideOf_3, fun d => b_I_sideOf_3 d.1 d.2.1 d.2.2.1 d.2.2.2.1 d.2.2.2.2.1⟩
noncomputable def pl_I_sideOf : Plan := ⟨[(7, o_I_sideOf_7)], [(3, lp_I_sideOf_3)], 0, 0⟩
noncomputable def f_I_sideOf (t0 : PV S_impl_Row) (t1 : PV (.int .i64)) : Option (PVs [S_string] × PVs []) :=
  (w_I_sideOf_3 (t1, ([] : PV S_string), t0, (t0.length : Int), 0, ())).bind fun l3 =>
    some ((l3.1, ()), ())
noncomputable def ct_I_sideOf : Ct := ⟨[(.bor, S_impl_Row), (.bor, (.int .i64))], [(S_string, true)], fun x => f_I_sideOf x.1 x.2.1⟩
noncomputable def cx_I_sideOf : Cx := ⟨tab, arrs, [], [], gl, []⟩
theorem eb_I_sideOf_3 (t1 : PV (.int .i64)) (t5 : PV S_string) (t9 : PV S_impl_Row) (t10 : PV (.int .i64)) (t11 : PV (.int .i64)) : denK cx_I_sideOf (rcN cx_I_sideOf 0) pl_I_sideOf 0 ((loopsOf (bodyOf Tryd.f156)).getD 0 .skip) (fillS sh_I_sideOf_3 (t1, t5, t9, t10, t11, ())) (roundK 0 lp_I_sideOf_3) = b_I_sideOf_3 t1 t5 t9 t10 t11 := by kernel_rfl
theorem ef_I_sideOf (t0 : PV S_impl_Row) (t1 : PV (.int .i64)) : denF cx_I_sideOf 0 pl_I_sideOf Tryd.f156.ntmps (bodyOf Tryd.f156) Tryd.f156.results.toList [(.bor, S_impl_Row), (.bor, (.int .i64))] [(S_string, true)] (t0, t1, ()) = f_I_sideOf t0 t1 := by kernel_rfl
theorem ok_I_sideOf : FnOk gl Tryd.prog 156 ct_I_sideOf :=
  fnOk (cx := cx_I_sideOf) (pl := pl_I_sideOf) (dp := 0) (ok0_of tabOk (by unfold ArrOk; kernel_rfl) mix trivial trivial) Tryd.func156 (by kernel_rfl) (by kernel_rfl) (by kernel_rfl)
    (by rw [show loopsOf (bodyOf Tryd.f156) = [((loopsOf (bodyOf Tryd.f156)).getD 0 .skip)] from by kernel_rfl]; exact ⟨(by rw [show lookup pl_I_sideOf.loops (firstId ((loopsOf (bodyOf Tryd.f156)).getD 0 .skip)) = some lp_I_sideOf_3 from by kernel_rfl]; exact fun d z h => (eb_I_sideOf_3 d.1 d.2.1 d.2.2.1 d.2.2.2.1 d.2.2.2.2.1).trans h), trivial⟩) (fun x => ef_I_sideOf x.1 x.2.1)
noncomputable def pl_I_Group_old : Plan := ⟨[], [], 0, 0⟩
noncomputable def f_I_Group_old (t0 : PV Y_impl_Group) : Option (PVs [S_string] × PVs []) :=
  (f_I_sideOf t0.2.2.1 3).bind fun r1 =>
    some ((r1.1.1, ()), ())
noncomputable def ct_I_Group_old : Ct := ⟨[(.bor, Y_impl_Group)], [(S_string, true)], fun x => f_I_Group_old x.1⟩
noncomputable def cx_I_Group_old : Cx := ⟨tab, arrs, [(156, ct_I_sideOf)], [], gl, []⟩
theorem ef_I_Group_old (t0 : PV Y_impl_Group) : denF cx_I_Group_old 0 pl_I_Group_old Tryd.f107.ntmps (bodyOf Tryd.f107) Tryd.f107.results.toList [(.bor, Y_impl_Group)] [(S_string, true)] (t0, ()) = f_I_Group_old t0 := by kernel_rfl
theorem ok_I_Group_old : FnOk gl Tryd.prog 107 ct_I_Group_old :=
  fnOk (cx := cx_I_Group_old) (pl := pl_I_Group_old) (dp := 0) (ok0_of tabOk (by unfold ArrOk; kernel_rfl) mix ⟨ok_I_sideOf, trivial⟩ trivial) Tryd.func107 (by kernel_rfl) (by kernel_rfl) (by kernel_rfl)
    (by rw [show loopsOf (bodyOf Tryd.f107) = [] from by kernel_rfl]; exact trivial) (fun x => ef_I_Group_old x.1)
noncomputable def pl_I_Group_fresh : Plan := ⟨[], [], 0, 0⟩
noncomputable def f_I_Group_fresh (t0 : PV Y_impl_Group) : Option (PVs [S_string] × PVs []) :=
  (f_I_sideOf t0.2.2.1 2).bind fun r1 =>
    some ((r1.1.1, ()), ())
noncomputable def ct_I_Group_fresh : Ct := ⟨[(.bor, Y_impl_Group)], [(S_string, true)], fun x => f_I_Group_fresh x.1⟩
noncomputable def cx_I_Group_fresh : Cx := ⟨tab, arrs, [(156, ct_I_sideOf)], [], gl, []⟩
theorem ef_I_Group_fresh (t0 : PV Y_impl_Group) : denF cx_I_Group_fresh 0 pl_I_Group_fresh Tryd.f108.ntmps (bodyOf Tryd.f108) Tryd.f108.results.toList [(.bor, Y_impl_Group)] [(S_string, true)] (t0, ()) = f_I_Group_fresh t0 := by kernel_rfl
theorem ok_I_Group_fresh : FnOk gl Tryd.prog 108 ct_I_Group_fresh :=
  fnOk (cx := cx_I_Group_fresh) (pl := pl_I_Group_fresh) (dp := 0) (ok0_of tabOk (by unfold ArrOk; kernel_rfl) mix ⟨ok_I_sideOf, trivial⟩ trivial) Tryd.func108 (by kernel_rfl) (by kernel_rfl) (by kernel_rfl)
    (by rw [show loopsOf (bodyOf Tryd.f108) = [] from by kernel_rfl]; exact trivial) (fun x => ef_I_Group_fresh x.1)
noncomputable def o_I_goodGroup_2 : List Out := [⟨.normal, ⟨[], [1, 24, 38, 39, 40, 41, 44, 45, 46, 47, 48, 49, 50, 51, 52, 53, 54, 55, 56, 57, 58, 59, 60, 64, 65, 66, 75, 76, 79, 80, 83, 84, 85, 86, 87, 88, 91, 92, 93, 94, 95, 96], []⟩, mkSh 98 [(1, .var Y_impl_Group .b), (24, .val .bool .b)]⟩]
noncomputable def o_I_goodGroup_8 : List Out := [⟨.normal, ⟨[], [1, 3, 5, 26, 27, 28, 61, 64, 65, 66, 75, 76, 79, 80, 83, 84, 85, 86, 87, 88, 91, 92, 93, 94, 95, 96], []⟩, mkSh 98 [(1, .var Y_impl_Group .b), (3, .val .bool .b), (5, .var Y_impl_Row .b), (26, .val S_impl_Row .b), (27, .val (.int .i64) .b), (28, .val (.int .i64) .b), (61, .val .bool .b)]⟩]
noncomputable def o_I_goodGroup_10 : List Out := [⟨.normal, ⟨[], [1, 3, 5, 26, 27, 28, 38, 39, 40, 41, 44, 45, 46, 47, 48, 49, 50, 51, 52, 53, 54, 55, 56, 57, 58, 59, 60, 75, 76, 79, 80, 83, 84, 85, 86, 87, 88, 91, 92, 93, 94, 95, 96], []⟩, mkSh 98 [(1, .var Y_impl_Group .b), (3, .val .bool .b), (5, .var Y_impl_Row .b), (26, .val S_impl_Row .b), (27, .val (.int .i64) .b), (28, .val (.int .i64) .b)]⟩, ⟨.ret, ⟨[], [2], []⟩, mkSh 98 [(2, .val .bool .b)]⟩]
noncomputable def sh_I_goodGroup_5 : List Sh := mkSh 98 [(1, .var Y_impl_Group .b), (3, .val .bool .b), (26, .val S_impl_Row .b), (27, .val (.int .i64) .b), (28, .val (.int .i64) .b)]
noncomputable def o_I_goodGroup_5 : List Out := [⟨.exit 0, ⟨[], [1, 3, 75, 76, 79, 80, 83, 84, 85, 86, 87, 88, 91, 92, 93, 94, 95, 96], []⟩, mkSh 98 [(1, .var Y_impl_Group .b), (3, .val .bool .b)]⟩, ⟨.ret, ⟨[], [2], []⟩, mkSh 98 [(2, .val .bool .b)]⟩]
noncomputable def b_I_goodGroup_5 (t1 : PV Y_impl_Group) (t3 : PV .bool) (t26 : PV S_impl_Row) (t27 : PV (.int .i64)) (t28 : PV (.int .i64)) : Option ((PV Y_impl_Group × PV .bool × PV S_impl_Row × PV (.int .i64) × PV (.int .i64) × Unit) ⊕ ((PV Y_impl_Group × PV .bool × Unit) ⊕ (PV .bool × Unit))) :=
  bif (decide (t28 < t27)) then
    ((
        bif inB t28 t26.length then
          ((
              (f_I_in ((t26.getD t28.toNat (dflt Y_impl_Row)).1) 1 3).bind fun r15 =>
                bif (!r15.1.1) then
                  some (t1, t3, (t26.getD t28.toNat (dflt Y_impl_Row)), t26, t27, t28, true, ())
                else
                  (f_I_isLine (((t26.getD t28.toNat (dflt Y_impl_Row)).2).1)).bind fun r16 =>
                    bif (!r16.1.1) then
                      some (t1, t3, (t26.getD t28.toNat (dflt Y_impl_Row)), t26, t27, t28, true, ())
                    else
                      bif (decide (t28 > 0)) then
                        bif (((t26.getD t28.toNat (dflt Y_impl_Row)).1) == 2) then
                          bif inB (IntKind.wrap .i64 (t28 - 1)) t1.2.2.1.length then
                            some (t1, t3, (t26.getD t28.toNat (dflt Y_impl_Row)), t26, t27, t28, (((t1.2.2.1.getD ((IntKind.wrap .i64 (t28 - 1)).toNat) (dflt Y_impl_Row)).1) == 3), ())
                          else
                            none
                        else
                          some (t1, t3, (t26.getD t28.toNat (dflt Y_impl_Row)), t26, t27, t28, false, ())
                      else
                        some (t1, t3, (t26.getD t28.toNat (dflt Y_impl_Row)), t26, t27, t28, false, ()) : Option ((PV Y_impl_Group × PV .bool × PV Y_impl_Row × PV S_impl_Row × PV (.int .i64) × PV (.int .i64) × PV .bool × Unit)))).bind fun j17 =>
            bif j17.2.2.2.2.2.2.1 then
              some (.inr (false, ()))
            else
              bif j17.2.1 then
                some (.inl (j17.1, true, j17.2.2.1, j17.2.2.2.1, j17.2.2.2.2.1, j17.2.2.2.2.2.1, ()))
              else
                some (.inl (j17.1, (!(j17.2.2.1.1 == 1)), j17.2.2.1, j17.2.2.2.1, j17.2.2.2.2.1, j17.2.2.2.2.2.1, ()))
        else
          none : Option ((PV Y_impl_Group × PV .bool × PV Y_impl_Row × PV S_impl_Row × PV (.int .i64) × PV (.int .i64) × Unit) ⊕ (PV .bool × Unit)))).bind fun x30 =>
      match x30 with
      | .inl j18 =>
        some (.inl (j18.1, j18.2.1, j18.2.2.2.1, j18.2.2.2.2.1, (IntKind.wrap .i64 (j18.2.2.2.2.2.1 + 1)), ()))
      | .inr j19 =>
        some (.inr (.inr (j19.1, ())))
  else
    some (.inr (.inl (t1, t3, ())))
noncomputable def w_I_goodGroup_5 : PV Y_impl_Group × PV .bool × PV S_impl_Row × PV (.int .i64) × PV (.int .i64) × Unit → Option ((PV Y_impl_Group × PV .bool × Unit) ⊕ (PV .bool × Unit)) := fix fun d => b_I_goodGroup_5 d.1 d.2.1 d.2.2.1 d.2.2.2.1 d.2.2.2.2.1
noncomputable def lp_I_goodGroup_5 : Lp := ⟨⟨[], [1, 3, 26, 27, 28, 38, 39, 40, 41, 44, 45, 46, 47, 48, 49, 50, 51, 52, 53, 54, 55, 56, 57, 58, 59, 60, 64, 65, 66, 75, 76, 79, 80, 83, 84, 85, 86, 87, 88, 91, 92, 93, 94, 95, 96], []⟩, sh_I_goodGroup_5, o_I_goodGroup_5, fun d => b_I_goodGroup_5 d.1 d.2.1 d.2.2.1 d.2.2.2.1 d.2.2.2.2.1⟩
noncomputable def pl_I_goodGroup : Plan := ⟨[(2, o_I_goodGroup_2), (8, o_I_goodGroup_8), (10, o_I_goodGroup_10)], [(5, lp_I_goodGroup_5)], 0, 0⟩
noncomputable def f_I_goodGroup (t0 : PV Y_impl_Group) : Option (PVs [.bool] × PVs []) :=
  ((
      (f_I_in t0.1 0 999).bind fun r8 =>
        bif (!r8.1.1) then
          some (t0, true, ())
        else
          (f_I_in t0.2.1 0 999).bind fun r9 =>
            bif (!r9.1.1) then
              some (t0, true, ())
            else
              (f_I_in (t0.2.2.1.length : Int) 1 80).bind fun r10 =>
                some (t0, (!r10.1.1), ()) : Option ((PV Y_impl_Group × PV .bool × Unit)))).bind fun j11 =>
    bif j11.2.1 then
      some ((false, ()), ())
    else
      (w_I_goodGroup_5 (j11.1, false, j11.1.2.2.1, (j11.1.2.2.1.length : Int), 0, ())).bind fun x31 =>
        match x31 with
        | .inl l22 =>
          (f_I_Group_old l22.1).bind fun r25 =>
            (f_I_Group_fresh l22.1).bind fun r26 =>
              bif l22.2.1 then
                (f_I_goodLines r25.1.1).bind fun r27 =>
                  bif r27.1.1 then
                    (f_I_goodLines r26.1.1).bind fun r28 =>
                      bif r28.1.1 then
                        bif (decide ((IntKind.wrap .i64 (l22.1.1 + (r25.1.1.length : Int))) ≤ 1000)) then
                          some (((decide ((IntKind.wrap .i64 (l22.1.2.1 + (r26.1.1.length : Int))) ≤ 1000)), ()), ())
                        else
                          some ((false, ()), ())
                      else
                        some ((false, ()), ())
                  else
                    some ((false, ()), ())
              else
                some ((false, ()), ())
        | .inr l29 =>
          some ((l29.1, ()), ())
noncomputable def ct_I_goodGroup : Ct := ⟨[(.bor, Y_impl_Group)], [(.bool, false)], fun x => f_I_goodGroup x.1⟩
noncomputable def cx_I_goodGroup : Cx := ⟨tab, arrs, [(80, ct_I_in), (107, ct_I_Group_old), (108, ct_I_Group_fresh), (130, ct_I_goodLines), (147, ct_I_isLine)], [], gl, []⟩
theorem eb_I_goodGroup_5 (t1 : PV Y_impl_Group) (t3 : PV .bool) (t26 : PV S_impl_Row) (t27 : PV (.int .i64)) (t28 : PV (.int .i64)) : denK cx_I_goodGroup (rcN cx_I_goodGroup 0) pl_I_goodGroup 0 ((loopsOf (bodyOf Tryd.f106)).getD 0 .skip) (fillS sh_I_goodGroup_5 (t1, t3, t26, t27, t28, ())) (roundK 0 lp_I_goodGroup_5) = b_I_goodGroup_5 t1 t3 t26 t27 t28 := by kernel_rfl
theorem ef_I_goodGroup (t0 : PV Y_impl_Group) : denF cx_I_goodGroup 0 pl_I_goodGroup Tryd.f106.ntmps (bodyOf Tryd.f106) Tryd.f106.results.toList [(.bor, Y_impl_Group)] [(.bool, false)] (t0, ()) = f_I_goodGroup t0 := by kernel_rfl
theorem ok_I_goodGroup : FnOk gl Tryd.prog 106 ct_I_goodGroup :=
  fnOk (cx := cx_I_goodGroup) (pl := pl_I_goodGroup) (dp := 0) (ok0_of tabOk (by unfold ArrOk; kernel_rfl) mix ⟨ok_I_in, ok_I_Group_old, ok_I_Group_fresh, ok_I_goodLines, ok_I_isLine, trivial⟩ trivial) Tryd.func106 (by kernel_rfl) (by kernel_rfl) (by kernel_rfl)
    (by rw [show loopsOf (bodyOf Tryd.f106) = [((loopsOf (bodyOf Tryd.f106)).getD 0 .skip)] from by kernel_rfl]; exact ⟨(by rw [show lookup pl_I_goodGroup.loops (firstId ((loopsOf (bodyOf Tryd.f106)).getD 0 .skip)) = some lp_I_goodGroup_5 from by kernel_rfl]; exact fun d z h => (eb_I_goodGroup_5 d.1 d.2.1 d.2.2.1 d.2.2.2.1 d.2.2.2.2.1).trans h), trivial⟩) (fun x => ef_I_goodGroup x.1)
noncomputable def o_I_goodGroups_9 : List Out := [⟨.normal, ⟨[], [0, 4, 8, 9, 10, 57], []⟩, mkSh 59 [(0, .val S_impl_Group .b), (4, .var Y_impl_Group .b), (8, .val S_impl_Group .b), (9, .val (.int .i64) .b), (10, .val (.int .i64) .b), (57, .val .bool .b)]⟩]
noncomputable def sh_I_goodGroups_4 : List Sh := mkSh 59 [(0, .val S_impl_Group .b), (8, .val S_impl_Group .b), (9, .val (.int .i64) .b), (10, .val (.int .i64) .b)]
noncomputable def o_I_goodGroups_4 : List Out := [⟨.exit 0, ⟨[], [], []⟩, mkSh 59 []⟩, ⟨.ret, ⟨[], [2], []⟩, mkSh 59 [(2, .val .bool .b)]⟩]
noncomputable def b_I_goodGroups_4 (t0 : PV S_impl_Group) (t8 : PV S_impl_Group) (t9 : PV (.int .i64)) (t10 : PV (.int .i64)) : Option ((PV S_impl_Group × PV S_impl_Group × PV (.int .i64) × PV (.int .i64) × Unit) ⊕ ((Unit) ⊕ (PV .bool × Unit))) :=
  bif (decide (t10 < t9)) then
    bif inB t10 t8.length then
      (f_I_goodGroup (t8.getD t10.toNat (dflt Y_impl_Group))).bind fun r11 =>
        bif (!r11.1.1) then
          some (.inr (.inr (false, ())))
        else
          ((
              bif (decide (t10 > 0)) then
                bif inB (IntKind.wrap .i64 (t10 - 1)) t0.length then
                  bif inB (IntKind.wrap .i64 (t10 - 1)) t0.length then
                    (f_I_Group_old (t0.getD ((IntKind.wrap .i64 (t10 - 1)).toNat) (dflt Y_impl_Group))).bind fun r12 =>
                      bif (decide (((t8.getD t10.toNat (dflt Y_impl_Group)).1) < (IntKind.wrap .i64 (((t0.getD ((IntKind.wrap .i64 (t10 - 1)).toNat) (dflt Y_impl_Group)).1) + (r12.1.1.length : Int))))) then
                        some (t0, (t8.getD t10.toNat (dflt Y_impl_Group)), t8, t9, t10, true, ())
                      else
                        bif inB (IntKind.wrap .i64 (t10 - 1)) t0.length then
                          bif inB (IntKind.wrap .i64 (t10 - 1)) t0.length then
                            (f_I_Group_fresh (t0.getD ((IntKind.wrap .i64 (t10 - 1)).toNat) (dflt Y_impl_Group))).bind fun r13 =>
                              some (t0, (t8.getD t10.toNat (dflt Y_impl_Group)), t8, t9, t10, (decide ((((t8.getD t10.toNat (dflt Y_impl_Group)).2).1) < (IntKind.wrap .i64 ((((t0.getD ((IntKind.wrap .i64 (t10 - 1)).toNat) (dflt Y_impl_Group)).2).1) + (r13.1.1.length : Int))))), ())
                          else
                            none
                        else
                          none
                  else
                    none
                else
                  none
              else
                some (t0, (t8.getD t10.toNat (dflt Y_impl_Group)), t8, t9, t10, false, ()) : Option ((PV S_impl_Group × PV Y_impl_Group × PV S_impl_Group × PV (.int .i64) × PV (.int .i64) × PV .bool × Unit)))).bind fun j14 =>
            bif j14.2.2.2.2.2.1 then
              some (.inr (.inr (false, ())))
            else
              some (.inl (j14.1, j14.2.2.1, j14.2.2.2.1, (IntKind.wrap .i64 (j14.2.2.2.2.1 + 1)), ()))
    else
      none
  else
    some (.inr (.inl ()))
noncomputable def w_I_goodGroups_4 : PV S_impl_Group × PV S_impl_Group × PV (.int .i64) × PV (.int .i64) × Unit → Option ((Unit) ⊕ (PV .bool × Unit)) := fix fun d => b_I_goodGroups_4 d.1 d.2.1 d.2.2.1 d.2.2.2.1
noncomputable def lp_I_goodGroups_4 : Lp := ⟨⟨[], [0, 8, 9, 10, 21, 22, 23, 24, 25, 26, 27, 28, 29, 30, 31, 32, 33, 34, 35, 36, 37, 38, 39, 40, 41, 42, 43, 44, 45, 46, 47, 48, 49, 50, 51, 52, 53, 54, 55, 56], []⟩, sh_I_goodGroups_4, o_I_goodGroups_4, fun d => b_I_goodGroups_4 d.1 d.2.1 d.2.2.1 d.2.2.2.1⟩
noncomputable def pl_I_goodGroups : Plan := ⟨[(9, o_I_goodGroups_9)], [(4, lp_I_goodGroups_4)], 0, 0⟩
noncomputable def f_I_goodGroups (t0 : PV S_impl_Group) : Option (PVs [.bool] × PVs []) :=
  bif (decide ((t0.length : Int) > 20)) then
    some ((false, ()), ())
  else
    (w_I_goodGroups_4 (t0, t0, (t0.length : Int), 0, ())).bind fun x19 =>
      match x19 with
      | .inl l17 =>
        some ((true, ()), ())
      | .inr l18 =>
        some ((l18.1, ()), ())
noncomputable def ct_I_goodGroups : Ct := ⟨[(.bor, S_impl_Group)], [(.bool, false)], fun x => f_I_goodGroups x.1⟩
noncomputable def cx_I_goodGroups : Cx := ⟨tab, arrs, [(106, ct_I_goodGroup), (107, ct_I_Group_old), (108, ct_I_Group_fresh)], [], gl, []⟩
theorem eb_I_goodGroups_4 (t0 : PV S_impl_Group) (t8 : PV S_impl_Group) (t9 : PV (.int .i64)) (t10 : PV (.int .i64)) : denK cx_I_goodGroups (rcN cx_I_goodGroups 0) pl_I_goodGroups 0 ((loopsOf (bodyOf Tryd.f64)).getD 0 .skip) (fillS sh_I_goodGroups_4 (t0, t8, t9, t10, ())) (roundK 0 lp_I_goodGroups_4) = b_I_goodGroups_4 t0 t8 t9 t10 := by kernel_rfl
theorem ef_I_goodGroups (t0 : PV S_impl_Group) : denF cx_I_goodGroups 0 pl_I_goodGroups Tryd.f64.ntmps (bodyOf Tryd.f64) Tryd.f64.results.toList [(.bor, S_impl_Group)] [(.bool, false)] (t0, ()) = f_I_goodGroups t0 := by kernel_rfl
theorem ok_I_goodGroups : FnOk gl Tryd.prog 64 ct_I_goodGroups :=
  fnOk (cx := cx_I_goodGroups) (pl := pl_I_goodGroups) (dp := 0) (ok0_of tabOk (by unfold ArrOk; kernel_rfl) mix ⟨ok_I_goodGroup, ok_I_Group_old, ok_I_Group_fresh, trivial⟩ trivial) Tryd.func64 (by kernel_rfl) (by kernel_rfl) (by kernel_rfl)
    (by rw [show loopsOf (bodyOf Tryd.f64) = [((loopsOf (bodyOf Tryd.f64)).getD 0 .skip)] from by kernel_rfl]; exact ⟨(by rw [show lookup pl_I_goodGroups.loops (firstId ((loopsOf (bodyOf Tryd.f64)).getD 0 .skip)) = some lp_I_goodGroups_4 from by kernel_rfl]; exact fun d z h => (eb_I_goodGroups_4 d.1 d.2.1 d.2.2.1 d.2.2.2.1).trans h), trivial⟩) (fun x => ef_I_goodGroups x.1)
noncomputable def pl_I_numberOf : Plan := ⟨[], [], 0, 0⟩
noncomputable def f_I_numberOf (t0 : PV (.int .i64)) (t1 : PV (.int .i64)) : Option (PVs [(.int .i64)] × PVs []) :=
  bif (decide (t1 > 0)) then
    some (((IntKind.wrap .i64 (t0 + 1)), ()), ())
  else
    some ((t0, ()), ())
noncomputable def ct_I_numberOf : Ct := ⟨[(.bor, (.int .i64)), (.bor, (.int .i64))], [((.int .i64), false)], fun x => f_I_numberOf x.1 x.2.1⟩
noncomputable def cx_I_numberOf : Cx := ⟨tab, arrs, [], [], gl, []⟩
theorem ef_I_numberOf (t0 : PV (.int .i64)) (t1 : PV (.int .i64)) : denF cx_I_numberOf 0 pl_I_numberOf Tryd.f121.ntmps (bodyOf Tryd.f121) Tryd.f121.results.toList [(.bor, (.int .i64)), (.bor, (.int .i64))] [((.int .i64), false)] (t0, t1, ()) = f_I_numberOf t0 t1 := by kernel_rfl
theorem ok_I_numberOf : FnOk gl Tryd.prog 121 ct_I_numberOf :=
  fnOk (cx := cx_I_numberOf) (pl := pl_I_numberOf) (dp := 0) (ok0_of tabOk (by unfold ArrOk; kernel_rfl) mix trivial trivial) Tryd.func121 (by kernel_rfl) (by kernel_rfl) (by kernel_rfl)
    (by rw [show loopsOf (bodyOf Tryd.f121) = [] from by kernel_rfl]; exact trivial) (fun x => ef_I_numberOf x.1 x.2.1)
noncomputable def o_I_countOf_4 : List Out := [⟨.normal, ⟨[], [5], []⟩, mkSh 18 [(5, .val .str .b)]⟩]
noncomputable def pl_I_countOf : Plan := ⟨[(4, o_I_countOf_4)], [], 0, 0⟩
noncomputable def f_I_countOf (t0 : PV (.int .i64)) (t1 : PV (.int .i64)) : Option (PVs [.str] × PVs []) :=
  (f_I_numberOf t0 t1).bind fun r3 =>
    (f_strconv_Itoa r3.1.1).bind fun r4 =>
      ((
          bif (!(t1 == 1)) then
            (f_strconv_Itoa t1).bind fun r6 =>
              bif decide ([44].length + r6.1.1.length ≤ 1099511627776) then
                bif decide (r4.1.1.length + ([44] ++ r6.1.1).length ≤ 1099511627776) then
                  some ((r4.1.1 ++ ([44] ++ r6.1.1)), ())
                else
                  none
              else
                none
          else
            some (r4.1.1, ()) : Option ((PV .str × Unit)))).bind fun j7 =>
        some ((j7.1, ()), ())
noncomputable def ct_I_countOf : Ct := ⟨[(.bor, (.int .i64)), (.bor, (.int .i64))], [(.str, false)], fun x => f_I_countOf x.1 x.2.1⟩
noncomputable def cx_I_countOf : Cx := ⟨tab, arrs, [(71, ct_strconv_Itoa), (121, ct_I_numberOf)], [], gl, []⟩
theorem ef_I_countOf (t0 : PV (.int .i64)) (t1 : PV (.int .i64)) : denF cx_I_countOf 0 pl_I_countOf Tryd.f110.ntmps (bodyOf Tryd.f110) Tryd.f110.results.toList [(.bor, (.int .i64)), (.bor, (.int .i64))] [(.str, false)] (t0, t1, ()) = f_I_countOf t0 t1 := by kernel_rfl
theorem ok_I_countOf : FnOk gl Tryd.prog 110 ct_I_countOf :=
  fnOk (cx := cx_I_countOf) (pl := pl_I_countOf) (dp := 0) (ok0_of tabOk (by unfold ArrOk; kernel_rfl) mix ⟨ok_strconv_Itoa, ok_I_numberOf, trivial⟩ trivial) Tryd.func110 (by kernel_rfl) (by kernel_rfl) (by kernel_rfl)
    (by rw [show loopsOf (bodyOf Tryd.f110) = [] from by kernel_rfl]; exact trivial) (fun x => ef_I_countOf x.1 x.2.1)
noncomputable def pl_I_headText : Plan := ⟨[], [], 0, 0⟩
noncomputable def f_I_headText (t0 : PV .str) (t1 : PV .str) : Option (PVs [.str] × PVs []) :=
  bif decide ([64, 64, 32, 45].length + t0.length ≤ 1099511627776) then
    bif decide (([64, 64, 32, 45] ++ t0).length + [32, 43].length ≤ 1099511627776) then
      bif decide ((([64, 64, 32, 45] ++ t0) ++ [32, 43]).length + t1.length ≤ 1099511627776) then
        bif decide (((([64, 64, 32, 45] ++ t0) ++ [32, 43]) ++ t1).length + [32, 64, 64, 10].length ≤ 1099511627776) then
          some (((((([64, 64, 32, 45] ++ t0) ++ [32, 43]) ++ t1) ++ [32, 64, 64, 10]), ()), ())
        else
          none
      else
        none
    else
      none
  else
    none
noncomputable def ct_I_headText : Ct := ⟨[(.bor, .str), (.bor, .str)], [(.str, false)], fun x => f_I_headText x.1 x.2.1⟩
noncomputable def cx_I_headText : Cx := ⟨tab, arrs, [], [], gl, []⟩
theorem ef_I_headText (t0 : PV .str) (t1 : PV .str) : denF cx_I_headText 0 pl_I_headText Tryd.f109.ntmps (bodyOf Tryd.f109) Tryd.f109.results.toList [(.bor, .str), (.bor, .str)] [(.str, false)] (t0, t1, ()) = f_I_headText t0 t1 := by kernel_rfl
theorem ok_I_headText : FnOk gl Tryd.prog 109 ct_I_headText :=
  fnOk (cx := cx_I_headText) (pl := pl_I_headText) (dp := 0) (ok0_of tabOk (by unfold ArrOk; kernel_rfl) mix trivial trivial) Tryd.func109 (by kernel_rfl) (by kernel_rfl) (by kernel_rfl)
    (by rw [show loopsOf (bodyOf Tryd.f109) = [] from by kernel_rfl]; exact trivial) (fun x => ef_I_headText x.1 x.2.1)
noncomputable def pl_I_Row_sign : Plan := ⟨[], [], 0, 0⟩
noncomputable def f_I_Row_sign (t0 : PV Y_impl_Row) : Option (PVs [.str] × PVs []) :=
  bif cutB t0.1 (IntKind.wrap .i64 (t0.1 + 1)) [63, 32, 45, 43].length then
    some (((cutL t0.1 (IntKind.wrap .i64 (t0.1 + 1)) [63, 32, 45, 43]), ()), ())
  else
    none
noncomputable def ct_I_Row_sign : Ct := ⟨[(.bor, Y_impl_Row)], [(.str, false)], fun x => f_I_Row_sign x.1⟩
noncomputable def cx_I_Row_sign : Cx := ⟨tab, arrs, [], [], gl, []⟩
theorem ef_I_Row_sign (t0 : PV Y_impl_Row) : denF cx_I_Row_sign 0 pl_I_Row_sign Tryd.f158.ntmps (bodyOf Tryd.f158) Tryd.f158.results.toList [(.bor, Y_impl_Row)] [(.str, false)] (t0, ()) = f_I_Row_sign t0 := by kernel_rfl
theorem ok_I_Row_sign : FnOk gl Tryd.prog 158 ct_I_Row_sign :=
  fnOk (cx := cx_I_Row_sign) (pl := pl_I_Row_sign) (dp := 0) (ok0_of tabOk (by unfold ArrOk; kernel_rfl) mix trivial trivial) Tryd.func158 (by kernel_rfl) (by kernel_rfl) (by kernel_rfl)
    (by rw [show loopsOf (bodyOf Tryd.f158) = [] from by kernel_rfl]; exact trivial) (fun x => ef_I_Row_sign x.1)
noncomputable def pl_I_shown : Plan := ⟨[], [], 0, 0⟩
noncomputable def f_I_shown (t0 : PV .str) (t1 : PV .str) : Option (PVs [.str] × PVs []) :=
  (f_I_isEnded t1).bind fun r4 =>
    bif r4.1.1 then
      bif decide (t0.length + t1.length ≤ 1099511627776) then
        some (((t0 ++ t1), ()), ())
      else
        none
    else
      bif decide (t0.length + t1.length ≤ 1099511627776) then
        bif decide ((t0 ++ t1).length + [10].length ≤ 1099511627776) then
          bif decide (((t0 ++ t1) ++ [10]).length + [92, 32, 110, 111, 110, 101, 10].length ≤ 1099511627776) then
            some (((((t0 ++ t1) ++ [10]) ++ [92, 32, 110, 111, 110, 101, 10]), ()), ())
          else
            none
        else
          none
      else
        none
noncomputable def ct_I_shown : Ct := ⟨[(.bor, .str), (.bor, .str)], [(.str, false)], fun x => f_I_shown x.1 x.2.1⟩
noncomputable def cx_I_shown : Cx := ⟨tab, arrs, [(148, ct_I_isEnded)], [], gl, []⟩
theorem ef_I_shown (t0 : PV .str) (t1 : PV .str) : denF cx_I_shown 0 pl_I_shown Tryd.f157.ntmps (bodyOf Tryd.f157) Tryd.f157.results.toList [(.bor, .str), (.bor, .str)] [(.str, false)] (t0, t1, ()) = f_I_shown t0 t1 := by kernel_rfl
theorem ok_I_shown : FnOk gl Tryd.prog 157 ct_I_shown :=
  fnOk (cx := cx_I_shown) (pl := pl_I_shown) (dp := 0) (ok0_of tabOk (by unfold ArrOk; kernel_rfl) mix ⟨ok_I_isEnded, trivial⟩ trivial) Tryd.func157 (by kernel_rfl) (by kernel_rfl) (by kernel_rfl)
    (by rw [show loopsOf (bodyOf Tryd.f157) = [] from by kernel_rfl]; exact trivial) (fun x => ef_I_shown x.1 x.2.1)
noncomputable def sh_I_rowsText_3 : List Sh := mkSh 21 [(3, .val .str .b), (6, .val S_impl_Row .b), (7, .val (.int .i64) .b), (8, .val (.int .i64) .b)]
noncomputable def o_I_rowsText_3 : List Out := [⟨.exit 0, ⟨[], [3], []⟩, mkSh 21 [(3, .val .str .b)]⟩]
noncomputable def b_I_rowsText_3 (t3 : PV .str) (t6 : PV S_impl_Row) (t7 : PV (.int .i64)) (t8 : PV (.int .i64)) : Option ((PV .str × PV S_impl_Row × PV (.int .i64) × PV (.int .i64) × Unit) ⊕ ((PV .str × Unit))) :=
  bif (decide (t8 < t7)) then
    bif inB t8 t6.length then
      (f_I_Row_sign (t6.getD t8.toNat (dflt Y_impl_Row))).bind fun r3 =>
        (f_I_shown r3.1.1 (((t6.getD t8.toNat (dflt Y_impl_Row)).2).1)).bind fun r4 =>
          bif decide (t3.length + r4.1.1.length ≤ 1099511627776) then
            some (.inl ((t3 ++ r4.1.1), t6, t7, (IntKind.wrap .i64 (t8 + 1)), ()))
          else
            none
    else
      none
  else
    some (.inr (t3, ()))
noncomputable def w_I_rowsText_3 : PV .str × PV S_impl_Row × PV (.int .i64) × PV (.int .i64) × Unit → Option ((PV .str × Unit)) := fix fun d => b_I_rowsText_3 d.1 d.2.1 d.2.2.1 d.2.2.2.1
noncomputable def lp_I_rowsText_3 : Lp := ⟨⟨[], [3, 6, 7, 8], []⟩, sh_I_rowsText_3, o_I_rowsText_3, fun d => b_I_rowsText_3 d.1 d.2.1 d.2.2.1 d.2.2.2.1⟩
noncomputable def pl_I_rowsText : Plan := ⟨[], [(3, lp_I_rowsText_3)], 0, 0⟩
noncomputable def f_I_rowsText (t0 : PV S_impl_Row) : Option (PVs [.str] × PVs []) :=
  (w_I_rowsText_3 ([], t0, (t0.length : Int), 0, ())).bind fun l6 =>
    some ((l6.1, ()), ())
noncomputable def ct_I_rowsText : Ct := ⟨[(.bor, S_impl_Row)], [(.str, false)], fun x => f_I_rowsText x.1⟩
noncomputable def cx_I_rowsText : Cx := ⟨tab, arrs, [(157, ct_I_shown), (158, ct_I_Row_sign)], [], gl, []⟩
theorem eb_I_rowsText_3 (t3 : PV .str) (t6 : PV S_impl_Row) (t7 : PV (.int .i64)) (t8 : PV (.int .i64)) : denK cx_I_rowsText (rcN cx_I_rowsText 0) pl_I_rowsText 0 ((loopsOf (bodyOf Tryd.f111)).getD 0 .skip) (fillS sh_I_rowsText_3 (t3, t6, t7, t8, ())) (roundK 0 lp_I_rowsText_3) = b_I_rowsText_3 t3 t6 t7 t8 := by kernel_rfl
theorem ef_I_rowsText (t0 : PV S_impl_Row) : denF cx_I_rowsText 0 pl_I_rowsText Tryd.f111.ntmps (bodyOf Tryd.f111) Tryd.f111.results.toList [(.bor, S_impl_Row)] [(.str, false)] (t0, ()) = f_I_rowsText t0 := by kernel_rfl
theorem ok_I_rowsText : FnOk gl Tryd.prog 111 ct_I_rowsText :=
  fnOk (cx := cx_I_rowsText) (pl := pl_I_rowsText) (dp := 0) (ok0_of tabOk (by unfold ArrOk; kernel_rfl) mix ⟨ok_I_shown, ok_I_Row_sign, trivial⟩ trivial) Tryd.func111 (by kernel_rfl) (by kernel_rfl) (by kernel_rfl)
    (by rw [show loopsOf (bodyOf Tryd.f111) = [((loopsOf (bodyOf Tryd.f111)).getD 0 .skip)] from by kernel_rfl]; exact ⟨(by rw [show lookup pl_I_rowsText.loops (firstId ((loopsOf (bodyOf Tryd.f111)).getD 0 .skip)) = some lp_I_rowsText_3 from by kernel_rfl]; exact fun d z h => (eb_I_rowsText_3 d.1 d.2.1 d.2.2.1 d.2.2.2.1).trans h), trivial⟩) (fun x => ef_I_rowsText x.1)
noncomputable def sh_I_groupsText_3 : List Sh := mkSh 33 [(3, .val .str .b), (6, .val S_impl_Group .b), (7, .val (.int .i64) .b), (8, .val (.int .i64) .b)]
noncomputable def o_I_groupsText_3 : List Out := [⟨.exit 0, ⟨[], [3], []⟩, mkSh 33 [(3, .val .str .b)]⟩]
noncomputable def b_I_groupsText_3 (t3 : PV .str) (t6 : PV S_impl_Group) (t7 : PV (.int .i64)) (t8 : PV (.int .i64)) : Option ((PV .str × PV S_impl_Group × PV (.int .i64) × PV (.int .i64) × Unit) ⊕ ((PV .str × Unit))) :=
  bif (decide (t8 < t7)) then
    bif inB t8 t6.length then
      (f_I_Group_old (t6.getD t8.toNat (dflt Y_impl_Group))).bind fun r7 =>
        (f_I_countOf ((t6.getD t8.toNat (dflt Y_impl_Group)).1) (r7.1.1.length : Int)).bind fun r8 =>
          (f_I_Group_fresh (t6.getD t8.toNat (dflt Y_impl_Group))).bind fun r9 =>
            (f_I_countOf (((t6.getD t8.toNat (dflt Y_impl_Group)).2).1) (r9.1.1.length : Int)).bind fun r10 =>
              (f_I_headText r8.1.1 r10.1.1).bind fun r11 =>
                (f_I_rowsText ((((t6.getD t8.toNat (dflt Y_impl_Group)).2).2).1)).bind fun r12 =>
                  bif decide (r11.1.1.length + r12.1.1.length ≤ 1099511627776) then
                    bif decide (t3.length + (r11.1.1 ++ r12.1.1).length ≤ 1099511627776) then
                      some (.inl ((t3 ++ (r11.1.1 ++ r12.1.1)), t6, t7, (IntKind.wrap .i64 (t8 + 1)), ()))
                    else
                      none
                  else
                    none
    else
      none
  else
    some (.inr (t3, ()))
noncomputable def w_I_groupsText_3 : PV .str × PV S_impl_Group × PV (.int .i64) × PV (.int .i64) × Unit → Option ((PV .str × Unit)) := fix fun d => b_I_groupsText_3 d.1 d.2.1 d.2.2.1 d.2.2.2.1
noncomputable def lp_I_groupsText_3 : Lp := ⟨⟨[], [3, 6, 7, 8], []⟩, sh_I_groupsText_3, o_I_groupsText_3, fun d => b_I_groupsText_3 d.1 d.2.1 d.2.2.1 d.2.2.2.1⟩
noncomputable def pl_I_groupsText : Plan := ⟨[], [(3, lp_I_groupsText_3)], 0, 0⟩
noncomputable def f_I_groupsText (t0 : PV S_impl_Group) : Option (PVs [.str] × PVs []) :=
  (w_I_groupsText_3 ([], t0, (t0.length : Int), 0, ())).bind fun l14 =>
    some ((l14.1, ()), ())
noncomputable def ct_I_groupsText : Ct := ⟨[(.bor, S_impl_Group)], [(.str, false)], fun x => f_I_groupsText x.1⟩
noncomputable def cx_I_groupsText : Cx := ⟨tab, arrs, [(107, ct_I_Group_old), (108, ct_I_Group_fresh), (109, ct_I_headText), (110, ct_I_countOf), (111, ct_I_rowsText)], [], gl, []⟩
theorem eb_I_groupsText_3 (t3 : PV .str) (t6 : PV S_impl_Group) (t7 : PV (.int .i64)) (t8 : PV (.int .i64)) : denK cx_I_groupsText (rcN cx_I_groupsText 0) pl_I_groupsText 0 ((loopsOf (bodyOf Tryd.f65)).getD 0 .skip) (fillS sh_I_groupsText_3 (t3, t6, t7, t8, ())) (roundK 0 lp_I_groupsText_3) = b_I_groupsText_3 t3 t6 t7 t8 := by kernel_rfl
theorem ef_I_groupsText (t0 : PV S_impl_Group) : denF cx_I_groupsText 0 pl_I_groupsText Tryd.f65.ntmps (bodyOf Tryd.f65) Tryd.f65.results.toList [(.bor, S_impl_Group)] [(.str, false)] (t0, ()) = f_I_groupsText t0 := by kernel_rfl
theorem ok_I_groupsText : FnOk gl Tryd.prog 65 ct_I_groupsText :=
  fnOk (cx := cx_I_groupsText) (pl := pl_I_groupsText) (dp := 0) (ok0_of tabOk (by unfold ArrOk; kernel_rfl) mix ⟨ok_I_Group_old, ok_I_Group_fresh, ok_I_headText, ok_I_countOf, ok_I_rowsText, trivial⟩ trivial) Tryd.func65 (by kernel_rfl) (by kernel_rfl) (by kernel_rfl)
    (by rw [show loopsOf (bodyOf Tryd.f65) = [((loopsOf (bodyOf Tryd.f65)).getD 0 .skip)] from by kernel_rfl]; exact ⟨(by rw [show lookup pl_I_groupsText.loops (firstId ((loopsOf (bodyOf Tryd.f65)).getD 0 .skip)) = some lp_I_groupsText_3 from by kernel_rfl]; exact fun d z h => (eb_I_groupsText_3 d.1 d.2.1 d.2.2.1 d.2.2.2.1).trans h), trivial⟩) (fun x => ef_I_groupsText x.1)
noncomputable def pl_I_short : Plan := ⟨[], [], 0, 0⟩
noncomputable def f_I_short (t0 : PV .str) : Option (PVs [.str, .bool] × PVs []) :=
  bif (decide ((t0.length : Int) > 3000)) then
    some (([], false, ()), ())
  else
    some ((t0, true, ()), ())
noncomputable def ct_I_short : Ct := ⟨[(.bor, .str)], [(.str, false), (.bool, false)], fun x => f_I_short x.1⟩
noncomputable def cx_I_short : Cx := ⟨tab, arrs, [], [], gl, []⟩
theorem ef_I_short (t0 : PV .str) : denF cx_I_short 0 pl_I_short Tryd.f58.ntmps (bodyOf Tryd.f58) Tryd.f58.results.toList [(.bor, .str)] [(.str, false), (.bool, false)] (t0, ()) = f_I_short t0 := by kernel_rfl
theorem ok_I_short : FnOk gl Tryd.prog 58 ct_I_short :=
  fnOk (cx := cx_I_short) (pl := pl_I_short) (dp := 0) (ok0_of tabOk (by unfold ArrOk; kernel_rfl) mix trivial trivial) Tryd.func58 (by kernel_rfl) (by kernel_rfl) (by kernel_rfl)
    (by rw [show loopsOf (bodyOf Tryd.f58) = [] from by kernel_rfl]; exact trivial) (fun x => ef_I_short x.1)
noncomputable def pl_I_GroupsText : Plan := ⟨[], [], 0, 0⟩
noncomputable def f_I_GroupsText (t0 : PV S_impl_Group) : Option (PVs [.str, .bool] × PVs []) :=
  (f_I_goodGroups t0).bind fun r4 =>
    bif (!r4.1.1) then
      some (([], false, ()), ())
    else
      (f_I_groupsText t0).bind fun r5 =>
        (f_I_short r5.1.1).bind fun r6 =>
          some ((r6.1.1, r6.1.2.1, ()), ())
noncomputable def ct_I_GroupsText : Ct := ⟨[(.bor, S_impl_Group)], [(.str, false), (.bool, false)], fun x => f_I_GroupsText x.1⟩
noncomputable def cx_I_GroupsText : Cx := ⟨tab, arrs, [(58, ct_I_short), (64, ct_I_goodGroups), (65, ct_I_groupsText)], [], gl, []⟩
theorem ef_I_GroupsText (t0 : PV S_impl_Group) : denF cx_I_GroupsText 0 pl_I_GroupsText Tryd.f19.ntmps (bodyOf Tryd.f19) Tryd.f19.results.toList [(.bor, S_impl_Group)] [(.str, false), (.bool, false)] (t0, ()) = f_I_GroupsText t0 := by kernel_rfl
theorem ok_I_GroupsText : FnOk gl Tryd.prog 19 ct_I_GroupsText :=
  fnOk (cx := cx_I_GroupsText) (pl := pl_I_GroupsText) (dp := 0) (ok0_of tabOk (by unfold ArrOk; kernel_rfl) mix ⟨ok_I_short, ok_I_goodGroups, ok_I_groupsText, trivial⟩ trivial) Tryd.func19 (by kernel_rfl) (by kernel_rfl) (by kernel_rfl)
    (by rw [show loopsOf (bodyOf Tryd.f19) = [] from by kernel_rfl]; exact trivial) (fun x => ef_I_GroupsText x.1)
noncomputable def pl_I_UnifiedText : Plan := ⟨[], [], 0, 0⟩
noncomputable def f_I_UnifiedText (t0 : PV S_string) (t1 : PV S_impl_Hunk) (t2 : PV (.int .i64)) : Option (PVs [.str, .bool] × PVs []) :=
  (f_I_GroupsOf t0 t1 t2).bind fun r2 =>
    bif (!r2.1.2.1) then
      some (([], false, ()), ())
    else
      (f_I_GroupsText r2.1.1).bind fun r3 =>
        some ((r3.1.1, r3.1.2.1, ()), ())
noncomputable def ct_I_UnifiedText : Ct := ⟨[(.bor, S_string), (.bor, S_impl_Hunk), (.bor, (.int .i64))], [(.str, false), (.bool, false)], fun x => f_I_UnifiedText x.1 x.2.1 x.2.2.1⟩
noncomputable def cx_I_UnifiedText : Cx := ⟨tab, arrs, [(19, ct_I_GroupsText), (87, ct_I_GroupsOf)], [], gl, []⟩
theorem ef_I_UnifiedText (t0 : PV S_string) (t1 : PV S_impl_Hunk) (t2 : PV (.int .i64)) : denF cx_I_UnifiedText 0 pl_I_UnifiedText Tryd.f48.ntmps (bodyOf Tryd.f48) Tryd.f48.results.toList [(.bor, S_string), (.bor, S_impl_Hunk), (.bor, (.int .i64))] [(.str, false), (.bool, false)] (t0, t1, t2, ()) = f_I_UnifiedText t0 t1 t2 := by kernel_rfl
theorem ok_I_UnifiedText : FnOk gl Tryd.prog 48 ct_I_UnifiedText :=
  fnOk (cx := cx_I_UnifiedText) (pl := pl_I_UnifiedText) (dp := 0) (ok0_of tabOk (by unfold ArrOk; kernel_rfl) mix ⟨ok_I_GroupsText, ok_I_GroupsOf, trivial⟩ trivial) Tryd.func48 (by kernel_rfl) (by kernel_rfl) (by kernel_rfl)
    (by rw [show loopsOf (bodyOf Tryd.f48) = [] from by kernel_rfl]; exact trivial) (fun x => ef_I_UnifiedText x.1 x.2.1 x.2.2.1)
noncomputable def sh_L_eqStringS_4 : List Sh := mkSh 26 [(0, .val S_string .b), (1, .val S_string .b), (5, .val (.int .i64) .b)]
noncomputable def o_L_eqStringS_4 : List Out := [⟨.exit 0, ⟨[], [], []⟩, mkSh 26 []⟩, ⟨.ret, ⟨[], [4], []⟩, mkSh 26 [(4, .val .bool .b)]⟩]
noncomputable def b_L_eqStringS_4 (t0 : PV S_string) (t1 : PV S_string) (t5 : PV (.int .i64)) : Option ((PV S_string × PV S_string × PV (.int .i64) × Unit) ⊕ ((Unit) ⊕ (PV .bool × Unit))) :=
  bif (decide (t5 < (t0.length : Int))) then
    bif inB t5 t0.length then
      bif inB t5 t1.length then
        bif (!((t0.getD t5.toNat []) == (t1.getD t5.toNat []))) then
          some (.inr (.inr (false, ())))
        else
          some (.inl (t0, t1, (IntKind.wrap .i64 (t5 + 1)), ()))
      else
        none
    else
      none
  else
    some (.inr (.inl ()))
noncomputable def w_L_eqStringS_4 : PV S_string × PV S_string × PV (.int .i64) × Unit → Option ((Unit) ⊕ (PV .bool × Unit)) := fix fun d => b_L_eqStringS_4 d.1 d.2.1 d.2.2.1
noncomputable def lp_L_eqStringS_4 : Lp := ⟨⟨[], [0, 1, 5], []⟩, sh_L_eqStringS_4, o_L_eqStringS_4, fun d => b_L_eqStringS_4 d.1 d.2.1 d.2.2.1⟩
noncomputable def pl_L_eqStringS : Plan := ⟨[], [(4, lp_L_eqStringS_4)], 0, 0⟩
noncomputable def f_L_eqStringS (t0 : PV S_string) (t1 : PV S_string) : Option (PVs [.bool] × PVs []) :=
  bif (!((t0.length : Int) == (t1.length : Int))) then
    some ((false, ()), ())
  else
    (w_L_eqStringS_4 (t0, t1, 0, ())).bind fun x5 =>
      match x5 with
      | .inl l3 =>
        some ((true, ()), ())
      | .inr l4 =>
        some ((l4.1, ()), ())
noncomputable def ct_L_eqStringS : Ct := ⟨[(.bor, S_string), (.bor, S_string)], [(.bool, false)], fun x => f_L_eqStringS x.1 x.2.1⟩
noncomputable def cx_L_eqStringS : Cx := ⟨tab, arrs, [], [], gl, []⟩
theorem eb_L_eqStringS_4 (t0 : PV S_string) (t1 : PV S_string) (t5 : PV (.int .i64)) : denK cx_L_eqStringS (rcN cx_L_eqStringS 0) pl_L_eqStringS 0 ((loopsOf (bodyOf Tryd.f45)).getD 0 .skip) (fillS sh_L_eqStringS_4 (t0, t1, t5, ())) (roundK 0 lp_L_eqStringS_4) = b_L_eqStringS_4 t0 t1 t5 := by kernel_rfl
theorem ef_L_eqStringS (t0 : PV S_string) (t1 : PV S_string) : denF cx_L_eqStringS 0 pl_L_eqStringS Tryd.f45.ntmps (bodyOf Tryd.f45) Tryd.f45.results.toList [(.bor, S_string), (.bor, S_string)] [(.bool, false)] (t0, t1, ()) = f_L_eqStringS t0 t1 := by kernel_rfl
theorem ok_L_eqStringS : FnOk gl Tryd.prog 45 ct_L_eqStringS :=
  fnOk (cx := cx_L_eqStringS) (pl := pl_L_eqStringS) (dp := 0) (ok0_of tabOk (by unfold ArrOk; kernel_rfl) mix trivial trivial) Tryd.func45 (by kernel_rfl) (by kernel_rfl) (by kernel_rfl)
    (by rw [show loopsOf (bodyOf Tryd.f45) = [((loopsOf (bodyOf Tryd.f45)).getD 0 .skip)] from by kernel_rfl]; exact ⟨(by rw [show lookup pl_L_eqStringS.loops (firstId ((loopsOf (bodyOf Tryd.f45)).getD 0 .skip)) = some lp_L_eqStringS_4 from by kernel_rfl]; exact fun d z h => (eb_L_eqStringS_4 d.1 d.2.1 d.2.2.1).trans h), trivial⟩) (fun x => ef_L_eqStringS x.1 x.2.1)
noncomputable def pl_L_eqHunk : Plan := ⟨[], [], 0, 0⟩
noncomputable def f_L_eqHunk (t0 : PV Y_impl_Hunk) (t1 : PV Y_impl_Hunk) : Option (PVs [.bool] × PVs []) :=
  bif (!(t0.1 == t1.1)) then
    some ((false, ()), ())
  else
    bif (!(t0.2.1 == t1.2.1)) then
      some ((false, ()), ())
    else
      (f_L_eqStringS t0.2.2.1 t1.2.2.1).bind fun r4 =>
        bif (!r4.1.1) then
          some ((false, ()), ())
        else
          some ((true, ()), ())
noncomputable def ct_L_eqHunk : Ct := ⟨[(.bor, Y_impl_Hunk), (.bor, Y_impl_Hunk)], [(.bool, false)], fun x => f_L_eqHunk x.1 x.2.1⟩
noncomputable def cx_L_eqHunk : Cx := ⟨tab, arrs, [(45, ct_L_eqStringS)], [], gl, []⟩
theorem ef_L_eqHunk (t0 : PV Y_impl_Hunk) (t1 : PV Y_impl_Hunk) : denF cx_L_eqHunk 0 pl_L_eqHunk Tryd.f85.ntmps (bodyOf Tryd.f85) Tryd.f85.results.toList [(.bor, Y_impl_Hunk), (.bor, Y_impl_Hunk)] [(.bool, false)] (t0, t1, ()) = f_L_eqHunk t0 t1 := by kernel_rfl
theorem ok_L_eqHunk : FnOk gl Tryd.prog 85 ct_L_eqHunk :=
  fnOk (cx := cx_L_eqHunk) (pl := pl_L_eqHunk) (dp := 0) (ok0_of tabOk (by unfold ArrOk; kernel_rfl) mix ⟨ok_L_eqStringS, trivial⟩ trivial) Tryd.func85 (by kernel_rfl) (by kernel_rfl) (by kernel_rfl)
    (by rw [show loopsOf (bodyOf Tryd.f85) = [] from by kernel_rfl]; exact trivial) (fun x => ef_L_eqHunk x.1 x.2.1)
noncomputable def sh_L_eqHunkS_4 : List Sh := mkSh 27 [(0, .val S_impl_Hunk .b), (1, .val S_impl_Hunk .b), (5, .val (.int .i64) .b)]
noncomputable def o_L_eqHunkS_4 : List Out := [⟨.exit 0, ⟨[], [], []⟩, mkSh 27 []⟩, ⟨.ret, ⟨[], [4], []⟩, mkSh 27 [(4, .val .bool .b)]⟩]
noncomputable def b_L_eqHunkS_4 (t0 : PV S_impl_Hunk) (t1 : PV S_impl_Hunk) (t5 : PV (.int .i64)) : Option ((PV S_impl_Hunk × PV S_impl_Hunk × PV (.int .i64) × Unit) ⊕ ((Unit) ⊕ (PV .bool × Unit))) :=
  bif (decide (t5 < (t0.length : Int))) then
    bif inB t5 t0.length then
      bif inB t5 t1.length then
        (f_L_eqHunk (t0.getD t5.toNat (dflt Y_impl_Hunk)) (t1.getD t5.toNat (dflt Y_impl_Hunk))).bind fun r4 =>
          bif (!r4.1.1) then
            some (.inr (.inr (false, ())))
          else
            some (.inl (t0, t1, (IntKind.wrap .i64 (t5 + 1)), ()))
      else
        none
    else
      none
  else
    some (.inr (.inl ()))
noncomputable def w_L_eqHunkS_4 : PV S_impl_Hunk × PV S_impl_Hunk × PV (.int .i64) × Unit → Option ((Unit) ⊕ (PV .bool × Unit)) := fix fun d => b_L_eqHunkS_4 d.1 d.2.1 d.2.2.1
noncomputable def lp_L_eqHunkS_4 : Lp := ⟨⟨[], [0, 1, 5], []⟩, sh_L_eqHunkS_4, o_L_eqHunkS_4, fun d => b_L_eqHunkS_4 d.1 d.2.1 d.2.2.1⟩
noncomputable def pl_L_eqHunkS : Plan := ⟨[], [(4, lp_L_eqHunkS_4)], 0, 0⟩
noncomputable def f_L_eqHunkS (t0 : PV S_impl_Hunk) (t1 : PV S_impl_Hunk) : Option (PVs [.bool] × PVs []) :=
  bif (!((t0.length : Int) == (t1.length : Int))) then
    some ((false, ()), ())
  else
    (w_L_eqHunkS_4 (t0, t1, 0, ())).bind fun x9 =>
      match x9 with
      | .inl l7 =>
        some ((true, ()), ())
      | .inr l8 =>
        some ((l8.1, ()), ())
noncomputable def ct_L_eqHunkS : Ct := ⟨[(.bor, S_impl_Hunk), (.bor, S_impl_Hunk)], [(.bool, false)], fun x => f_L_eqHunkS x.1 x.2.1⟩
noncomputable def cx_L_eqHunkS : Cx := ⟨tab, arrs, [(85, ct_L_eqHunk)], [], gl, []⟩
theorem eb_L_eqHunkS_4 (t0 : PV S_impl_Hunk) (t1 : PV S_impl_Hunk) (t5 : PV (.int .i64)) : denK cx_L_eqHunkS (rcN cx_L_eqHunkS 0) pl_L_eqHunkS 0 ((loopsOf (bodyOf Tryd.f46)).getD 0 .skip) (fillS sh_L_eqHunkS_4 (t0, t1, t5, ())) (roundK 0 lp_L_eqHunkS_4) = b_L_eqHunkS_4 t0 t1 t5 := by kernel_rfl
theorem ef_L_eqHunkS (t0 : PV S_impl_Hunk) (t1 : PV S_impl_Hunk) : denF cx_L_eqHunkS 0 pl_L_eqHunkS Tryd.f46.ntmps (bodyOf Tryd.f46) Tryd.f46.results.toList [(.bor, S_impl_Hunk), (.bor, S_impl_Hunk)] [(.bool, false)] (t0, t1, ()) = f_L_eqHunkS t0 t1 := by kernel_rfl
theorem ok_L_eqHunkS : FnOk gl Tryd.prog 46 ct_L_eqHunkS :=
  fnOk (cx := cx_L_eqHunkS) (pl := pl_L_eqHunkS) (dp := 0) (ok0_of tabOk (by unfold ArrOk; kernel_rfl) mix ⟨ok_L_eqHunk, trivial⟩ trivial) Tryd.func46 (by kernel_rfl) (by kernel_rfl) (by kernel_rfl)
    (by rw [show loopsOf (bodyOf Tryd.f46) = [((loopsOf (bodyOf Tryd.f46)).getD 0 .skip)] from by kernel_rfl]; exact ⟨(by rw [show lookup pl_L_eqHunkS.loops (firstId ((loopsOf (bodyOf Tryd.f46)).getD 0 .skip)) = some lp_L_eqHunkS_4 from by kernel_rfl]; exact fun d z h => (eb_L_eqHunkS_4 d.1 d.2.1 d.2.2.1).trans h), trivial⟩) (fun x => ef_L_eqHunkS x.1 x.2.1)
noncomputable def o_L_FnExactUnifiedText_13 : List Out := [⟨.normal, ⟨[], [0, 1, 10, 11, 51], []⟩, mkSh 62 [(0, .val S_string .b), (1, .val S_laws_Hunk .b), (10, .val S_string (.row .b)), (11, .val S_impl_Hunk (.row (.pr .b (.pr .b (.pr (.row .b) .b))))), (51, .val .bool .b)]⟩]
noncomputable def pl_L_FnExactUnifiedText : Plan := ⟨[(13, o_L_FnExactUnifiedText_13)], [], 0, 0⟩
noncomputable def f_L_FnExactUnifiedText (t0 : PV S_string) (t1 : PV S_laws_Hunk) (t2 : PV (.int .i64)) : Option (PVs [.bool] × PVs []) :=
  (f_L_szStringS t0 1048576).bind fun r2 =>
    bif (decide (r2.1.1 < 0)) then
      some ((true, ()), ())
    else
      (f_L_szHunkS t1 r2.1.1).bind fun r4 =>
        bif (decide (r4.1.1 < 0)) then
          some ((true, ()), ())
        else
          (f_L_toStringS t0).bind fun r8 =>
            (f_L_toHunkS t1).bind fun r9 =>
              (f_S_UnifiedText r8.1.1 r9.1.1 t2).bind fun r10 =>
                (f_L_toStringS t0).bind fun r12 =>
                  (f_L_toHunkS t1).bind fun r14 =>
                    (f_I_UnifiedText r12.1.1 r14.1.1 t2).bind fun r16 =>
                      ((
                          bif (!(r16.1.1 == r10.1.1)) then
                            some (t0, t1, r12.1.1, r14.1.1, true, ())
                          else
                            some (t0, t1, r12.1.1, r14.1.1, (!(r16.1.2.1 == r10.1.2.1)), ()) : Option ((PV S_string × PV S_laws_Hunk × PV S_string × PV S_impl_Hunk × PV .bool × Unit)))).bind fun j18 =>
                        bif j18.2.2.2.2.1 then
                          some ((false, ()), ())
                        else
                          (f_L_toStringS j18.1).bind fun r25 =>
                            (f_L_eqStringS j18.2.2.1 r25.1.1).bind fun r26 =>
                              bif (!r26.1.1) then
                                some ((false, ()), ())
                              else
                                (f_L_toHunkS j18.2.1).bind fun r33 =>
                                  (f_L_eqHunkS j18.2.2.2.1 r33.1.1).bind fun r34 =>
                                    bif (!r34.1.1) then
                                      some ((false, ()), ())
                                    else
                                      some ((true, ()), ())
noncomputable def ct_L_FnExactUnifiedText : Ct := ⟨[(.bor, S_string), (.bor, S_laws_Hunk), (.bor, (.int .i64))], [(.bool, false)], fun x => f_L_FnExactUnifiedText x.1 x.2.1 x.2.2.1⟩
noncomputable def cx_L_FnExactUnifiedText : Cx := ⟨tab, arrs, [(39, ct_L_szStringS), (40, ct_L_szHunkS), (42, ct_L_toStringS), (43, ct_L_toHunkS), (45, ct_L_eqStringS), (46, ct_L_eqHunkS), (47, ct_S_UnifiedText), (48, ct_I_UnifiedText)], [], gl, []⟩
theorem ef_L_FnExactUnifiedText (t0 : PV S_string) (t1 : PV S_laws_Hunk) (t2 : PV (.int .i64)) : denF cx_L_FnExactUnifiedText 0 pl_L_FnExactUnifiedText Tryd.f9.ntmps (bodyOf Tryd.f9) Tryd.f9.results.toList [(.bor, S_string), (.bor, S_laws_Hunk), (.bor, (.int .i64))] [(.bool, false)] (t0, t1, t2, ()) = f_L_FnExactUnifiedText t0 t1 t2 := by kernel_rfl
theorem ok_L_FnExactUnifiedText : FnOk gl Tryd.prog 9 ct_L_FnExactUnifiedText :=
  fnOk (cx := cx_L_FnExactUnifiedText) (pl := pl_L_FnExactUnifiedText) (dp := 0) (ok0_of tabOk (by unfold ArrOk; kernel_rfl) mix ⟨ok_L_szStringS, ok_L_szHunkS, ok_L_toStringS, ok_L_toHunkS, ok_L_eqStringS, ok_L_eqHunkS, ok_S_UnifiedText, ok_I_UnifiedText, trivial⟩ trivial) Tryd.func9 (by kernel_rfl) (by kernel_rfl) (by kernel_rfl)
    (by rw [show loopsOf (bodyOf Tryd.f9) = [] from by kernel_rfl]; exact trivial) (fun x => ef_L_FnExactUnifiedText x.1 x.2.1 x.2.2.1)
noncomputable def o_S_l4Pair_4 : List Out := [⟨.normal, ⟨[], [5], []⟩, mkSh 20 [(5, .val .str .b)]⟩]
noncomputable def pl_S_l4Pair : Plan := ⟨[(4, o_S_l4Pair_4)], [], 0, 0⟩
noncomputable def f_S_l4Pair (t0 : PV (.int .i64)) (t1 : PV (.int .i64)) : Option (PVs [.str] × PVs []) :=
  (f_S_l4Number t0 t1).bind fun r3 =>
    (f_S_l1Num r3.1.1).bind fun r4 =>
      ((
          bif (decide (t1 > 1)) then
            (f_S_l1Num (IntKind.wrap .i64 (t0 + t1))).bind fun r6 =>
              bif decide ([44].length + r6.1.1.length ≤ 1099511627776) then
                bif decide (r4.1.1.length + ([44] ++ r6.1.1).length ≤ 1099511627776) then
                  some ((r4.1.1 ++ ([44] ++ r6.1.1)), ())
                else
                  none
              else
                none
          else
            some (r4.1.1, ()) : Option ((PV .str × Unit)))).bind fun j7 =>
        some ((j7.1, ()), ())
noncomputable def ct_S_l4Pair : Ct := ⟨[(.bor, (.int .i64)), (.bor, (.int .i64))], [(.str, false)], fun x => f_S_l4Pair x.1 x.2.1⟩
noncomputable def cx_S_l4Pair : Cx := ⟨tab, arrs, [(69, ct_S_l1Num), (154, ct_S_l4Number)], [], gl, []⟩
theorem ef_S_l4Pair (t0 : PV (.int .i64)) (t1 : PV (.int .i64)) : denF cx_S_l4Pair 0 pl_S_l4Pair Tryd.f118.ntmps (bodyOf Tryd.f118) Tryd.f118.results.toList [(.bor, (.int .i64)), (.bor, (.int .i64))] [(.str, false)] (t0, t1, ()) = f_S_l4Pair t0 t1 := by kernel_rfl
theorem ok_S_l4Pair : FnOk gl Tryd.prog 118 ct_S_l4Pair :=
  fnOk (cx := cx_S_l4Pair) (pl := pl_S_l4Pair) (dp := 0) (ok0_of tabOk (by unfold ArrOk; kernel_rfl) mix ⟨ok_S_l1Num, ok_S_l4Number, trivial⟩ trivial) Tryd.func118 (by kernel_rfl) (by kernel_rfl) (by kernel_rfl)
    (by rw [show loopsOf (bodyOf Tryd.f118) = [] from by kernel_rfl]; exact trivial) (fun x => ef_S_l4Pair x.1 x.2.1)
noncomputable def sh_S_l8Some_2 : List Sh := mkSh 19 [(1, .val (.int .i64) .b), (8, .val S_impl_Row .b), (9, .val (.int .i64) .b), (10, .val (.int .i64) .b)]
noncomputable def o_S_l8Some_2 : List Out := [⟨.exit 0, ⟨[], [], []⟩, mkSh 19 []⟩, ⟨.ret, ⟨[], [4], []⟩, mkSh 19 [(4, .val .bool .b)]⟩]
noncomputable def b_S_l8Some_2 (t1 : PV (.int .i64)) (t8 : PV S_impl_Row) (t9 : PV (.int .i64)) (t10 : PV (.int .i64)) : Option ((PV (.int .i64) × PV S_impl_Row × PV (.int .i64) × PV (.int .i64) × Unit) ⊕ ((Unit) ⊕ (PV .bool × Unit))) :=
  bif (decide (t10 < t9)) then
    bif inB t10 t8.length then
      bif (((t8.getD t10.toNat (dflt Y_impl_Row)).1) == t1) then
        some (.inr (.inr (true, ())))
      else
        some (.inl (t1, t8, t9, (IntKind.wrap .i64 (t10 + 1)), ()))
    else
      none
  else
    some (.inr (.inl ()))
noncomputable def w_S_l8Some_2 : PV (.int .i64) × PV S_impl_Row × PV (.int .i64) × PV (.int .i64) × Unit → Option ((Unit) ⊕ (PV .bool × Unit)) := fix fun d => b_S_l8Some_2 d.1 d.2.1 d.2.2.1 d.2.2.2.1
noncomputable def lp_S_l8Some_2 : Lp := ⟨⟨[], [1, 8, 9, 10], []⟩, sh_S_l8Some_2, o_S_l8Some_2, fun d => b_S_l8Some_2 d.1 d.2.1 d.2.2.1 d.2.2.2.1⟩
noncomputable def pl_S_l8Some : Plan := ⟨[], [(2, lp_S_l8Some_2)], 0, 0⟩
noncomputable def f_S_l8Some (t0 : PV Y_impl_Group) (t1 : PV (.int .i64)) : Option (PVs [.bool] × PVs []) :=
  (w_S_l8Some_2 (t1, t0.2.2.1, (t0.2.2.1.length : Int), 0, ())).bind fun x5 =>
    match x5 with
    | .inl l3 =>
      some ((false, ()), ())
    | .inr l4 =>
      some ((l4.1, ()), ())
noncomputable def ct_S_l8Some : Ct := ⟨[(.bor, Y_impl_Group), (.bor, (.int .i64))], [(.bool, false)], fun x => f_S_l8Some x.1 x.2.1⟩
noncomputable def cx_S_l8Some : Cx := ⟨tab, arrs, [], [], gl, []⟩
theorem eb_S_l8Some_2 (t1 : PV (.int .i64)) (t8 : PV S_impl_Row) (t9 : PV (.int .i64)) (t10 : PV (.int .i64)) : denK cx_S_l8Some (rcN cx_S_l8Some 0) pl_S_l8Some 0 ((loopsOf (bodyOf Tryd.f119)).getD 0 .skip) (fillS sh_S_l8Some_2 (t1, t8, t9, t10, ())) (roundK 0 lp_S_l8Some_2) = b_S_l8Some_2 t1 t8 t9 t10 := by kernel_rfl
theorem ef_S_l8Some (t0 : PV Y_impl_Group) (t1 : PV (.int .i64)) : denF cx_S_l8Some 0 pl_S_l8Some Tryd.f119.ntmps (bodyOf Tryd.f119) Tryd.f119.results.toList [(.bor, Y_impl_Group), (.bor, (.int .i64))] [(.bool, false)] (t0, t1, ()) = f_S_l8Some t0 t1 := by kernel_rfl
theorem ok_S_l8Some : FnOk gl Tryd.prog 119 ct_S_l8Some :=
  fnOk (cx := cx_S_l8Some) (pl := pl_S_l8Some) (dp := 0) (ok0_of tabOk (by unfold ArrOk; kernel_rfl) mix trivial trivial) Tryd.func119 (by kernel_rfl) (by kernel_rfl) (by kernel_rfl)
    (by rw [show loopsOf (bodyOf Tryd.f119) = [((loopsOf (bodyOf Tryd.f119)).getD 0 .skip)] from by kernel_rfl]; exact ⟨(by rw [show lookup pl_S_l8Some.loops (firstId ((loopsOf (bodyOf Tryd.f119)).getD 0 .skip)) = some lp_S_l8Some_2 from by kernel_rfl]; exact fun d z h => (eb_S_l8Some_2 d.1 d.2.1 d.2.2.1 d.2.2.2.1).trans h), trivial⟩) (fun x => ef_S_l8Some x.1 x.2.1)
noncomputable def o_S_l8Runs_9 : List Out := [⟨.normal, ⟨[], [1, 4, 5, 6, 7, 8, 9, 10, 27, 28, 29, 30, 31, 32, 33, 47, 48, 49, 50, 51, 52, 53], []⟩, mkSh 77 [(1, .var Y_impl_Group .b), (4, .val (.int .i64) .b), (5, .val S_bool (.row .b)), (6, .val S_bool (.row .b)), (7, .val (.int .i64) .b), (8, .val (.int .i64) .b), (9, .val .bool .b), (10, .val .bool .b), (27, .addr ⟨1, [.r, .r, .l], 0, 0⟩), (28, .val S_impl_Row .b), (29, .val (.int .i64) .b), (30, .bad Y_impl_Row), (31, .bad (.int .i64)), (32, .val (.int .i64) .b), (33, .val .bool .b)]⟩]
noncomputable def o_S_l8Runs_10 : List Out := [⟨.normal, ⟨[], [1, 4, 5, 6, 7, 8, 9, 10, 27, 28, 29, 30, 31, 32, 33, 37, 38, 39, 40, 41, 42, 43], []⟩, mkSh 77 [(1, .var Y_impl_Group .b), (4, .val (.int .i64) .b), (5, .val S_bool (.row .b)), (6, .val S_bool (.row .b)), (7, .val (.int .i64) .b), (8, .val (.int .i64) .b), (9, .val .bool .b), (10, .val .bool .b), (27, .addr ⟨1, [.r, .r, .l], 0, 0⟩), (28, .val S_impl_Row .b), (29, .val (.int .i64) .b), (30, .bad Y_impl_Row), (31, .bad (.int .i64)), (32, .val (.int .i64) .b), (33, .val .bool .b)]⟩]
noncomputable def sh_S_l8Runs_7 : List Sh := mkSh 77 [(1, .var Y_impl_Group .b), (4, .val (.int .i64) .b), (5, .val S_bool (.row .b)), (6, .val S_bool (.row .b)), (7, .val (.int .i64) .b), (8, .val (.int .i64) .b), (9, .val .bool .b), (10, .val .bool .b)]
noncomputable def o_S_l8Runs_7 : List Out := [⟨.exit 2, ⟨[], [1, 4, 5, 6, 7, 8, 9, 10, 37, 38, 39, 40, 41, 42, 43, 47, 48, 49, 50, 51, 52, 53], []⟩, mkSh 77 [(1, .var Y_impl_Group .b), (4, .val (.int .i64) .b), (5, .val S_bool (.row .b)), (6, .val S_bool (.row .b)), (7, .val (.int .i64) .b), (8, .val (.int .i64) .b), (9, .val .bool .b), (10, .val .bool .b)]⟩]
noncomputable def b_S_l8Runs_7 (t1 : PV Y_impl_Group) (t4 : PV (.int .i64)) (t5 : PV S_bool) (t6 : PV S_bool) (t7 : PV (.int .i64)) (t8 : PV (.int .i64)) (t9 : PV .bool) (t10 : PV .bool) : Option ((PV Y_impl_Group × PV (.int .i64) × PV S_bool × PV S_bool × PV (.int .i64) × PV (.int .i64) × PV .bool × PV .bool × Unit) ⊕ ((PV Y_impl_Group × PV (.int .i64) × PV S_bool × PV S_bool × PV (.int .i64) × PV (.int .i64) × PV .bool × PV .bool × Unit))) :=
  bif (decide (t8 < t4)) then
    bif inB t8 t1.2.2.1.length then
      bif (!(((t1.2.2.1.getD t8.toNat (dflt Y_impl_Row)).1) == 1)) then
        ((
            bif t9 then
              some (t1, t4, t5, t6, t7, t8, true, t10, t1.2.2.1, t8, (t1.2.2.1.getD t8.toNat (dflt Y_impl_Row)), (t1.2.2.1.getD t8.toNat (dflt Y_impl_Row)).1, (t1.2.2.1.getD t8.toNat (dflt Y_impl_Row)).1, (!(((t1.2.2.1.getD t8.toNat (dflt Y_impl_Row)).1) == 1)), ())
            else
              bif inB t8 t1.2.2.1.length then
                some (t1, t4, t5, t6, t7, t8, (((t1.2.2.1.getD t8.toNat (dflt Y_impl_Row)).1) == 2), t10, t1.2.2.1, t8, (t1.2.2.1.getD t8.toNat (dflt Y_impl_Row)), (t1.2.2.1.getD t8.toNat (dflt Y_impl_Row)).1, (t1.2.2.1.getD t8.toNat (dflt Y_impl_Row)).1, (!(((t1.2.2.1.getD t8.toNat (dflt Y_impl_Row)).1) == 1)), ())
              else
                none : Option ((PV Y_impl_Group × PV (.int .i64) × PV S_bool × PV S_bool × PV (.int .i64) × PV (.int .i64) × PV .bool × PV .bool × PV S_impl_Row × PV (.int .i64) × PV Y_impl_Row × PV (.int .i64) × PV (.int .i64) × PV .bool × Unit)))).bind fun j3 =>
          ((
              bif j3.2.2.2.2.2.2.2.1 then
                some (j3.1, j3.2.1, j3.2.2.1, j3.2.2.2.1, j3.2.2.2.2.1, j3.2.2.2.2.2.1, j3.2.2.2.2.2.2.1, true, j3.2.2.2.2.2.2.2.2.1, j3.2.2.2.2.2.2.2.2.2.1, j3.2.2.2.2.2.2.2.2.2.2.1, j3.2.2.2.2.2.2.2.2.2.2.2.1, j3.2.2.2.2.2.2.2.2.2.2.2.2.1, j3.2.2.2.2.2.2.2.2.2.2.2.2.2.1, ())
              else
                bif inB j3.2.2.2.2.2.1 j3.1.2.2.1.length then
                  some (j3.1, j3.2.1, j3.2.2.1, j3.2.2.2.1, j3.2.2.2.2.1, j3.2.2.2.2.2.1, j3.2.2.2.2.2.2.1, (((j3.1.2.2.1.getD j3.2.2.2.2.2.1.toNat (dflt Y_impl_Row)).1) == 3), j3.2.2.2.2.2.2.2.2.1, j3.2.2.2.2.2.2.2.2.2.1, j3.2.2.2.2.2.2.2.2.2.2.1, j3.2.2.2.2.2.2.2.2.2.2.2.1, j3.2.2.2.2.2.2.2.2.2.2.2.2.1, j3.2.2.2.2.2.2.2.2.2.2.2.2.2.1, ())
                else
                  none : Option ((PV Y_impl_Group × PV (.int .i64) × PV S_bool × PV S_bool × PV (.int .i64) × PV (.int .i64) × PV .bool × PV .bool × PV S_impl_Row × PV (.int .i64) × PV Y_impl_Row × PV (.int .i64) × PV (.int .i64) × PV .bool × Unit)))).bind fun j4 =>
            some (.inl (j4.1, j4.2.1, j4.2.2.1, j4.2.2.2.1, j4.2.2.2.2.1, (IntKind.wrap .i64 (j4.2.2.2.2.2.1 + 1)), j4.2.2.2.2.2.2.1, j4.2.2.2.2.2.2.2.1, ()))
      else
        some (.inr (t1, t4, t5, t6, t7, t8, t9, t10, ()))
    else
      none
  else
    some (.inr (t1, t4, t5, t6, t7, t8, t9, t10, ()))
noncomputable def w_S_l8Runs_7 : PV Y_impl_Group × PV (.int .i64) × PV S_bool × PV S_bool × PV (.int .i64) × PV (.int .i64) × PV .bool × PV .bool × Unit → Option ((PV Y_impl_Group × PV (.int .i64) × PV S_bool × PV S_bool × PV (.int .i64) × PV (.int .i64) × PV .bool × PV .bool × Unit)) := fix fun d => b_S_l8Runs_7 d.1 d.2.1 d.2.2.1 d.2.2.2.1 d.2.2.2.2.1 d.2.2.2.2.2.1 d.2.2.2.2.2.2.1 d.2.2.2.2.2.2.2.1
noncomputable def lp_S_l8Runs_7 : Lp := ⟨⟨[], [1, 4, 5, 6, 7, 8, 9, 10, 37, 38, 39, 40, 41, 42, 43, 47, 48, 49, 50, 51, 52, 53], []⟩, sh_S_l8Runs_7, o_S_l8Runs_7, fun d => b_S_l8Runs_7 d.1 d.2.1 d.2.2.1 d.2.2.2.1 d.2.2.2.2.1 d.2.2.2.2.2.1 d.2.2.2.2.2.2.1 d.2.2.2.2.2.2.2.1⟩
noncomputable def sh_S_l8Runs_12 : List Sh := mkSh 77 [(1, .var Y_impl_Group .b), (4, .val (.int .i64) .b), (5, .val S_bool (.row .b)), (6, .val S_bool (.row .b)), (7, .val (.int .i64) .b), (8, .val (.int .i64) .b), (9, .val .bool .b), (10, .val .bool .b), (11, .val (.int .i64) .b)]
noncomputable def o_S_l8Runs_12 : List Out := [⟨.exit 4, ⟨[], [1, 4, 5, 6, 7, 8, 27, 28, 29, 30, 31, 32, 33, 37, 38, 39, 40, 41, 42, 43, 47, 48, 49, 50, 51, 52, 53], []⟩, mkSh 77 [(1, .var Y_impl_Group .b), (4, .val (.int .i64) .b), (5, .val S_bool (.row .b)), (6, .val S_bool (.row .b)), (7, .val (.int .i64) .b), (8, .val (.int .i64) .b)]⟩]
noncomputable def b_S_l8Runs_12 (t1 : PV Y_impl_Group) (t4 : PV (.int .i64)) (t5 : PV S_bool) (t6 : PV S_bool) (t7 : PV (.int .i64)) (t8 : PV (.int .i64)) (t9 : PV .bool) (t10 : PV .bool) (t11 : PV (.int .i64)) : Option ((PV Y_impl_Group × PV (.int .i64) × PV S_bool × PV S_bool × PV (.int .i64) × PV (.int .i64) × PV .bool × PV .bool × PV (.int .i64) × Unit) ⊕ ((PV Y_impl_Group × PV (.int .i64) × PV S_bool × PV S_bool × PV (.int .i64) × PV (.int .i64) × Unit))) :=
  bif (decide (t11 < t8)) then
    bif inB t11 t5.length then
      bif inB t11 t6.length then
        some (.inl (t1, t4, (t5.set t11.toNat t9), (t6.set t11.toNat t10), t7, t8, t9, t10, (IntKind.wrap .i64 (t11 + 1)), ()))
      else
        none
    else
      none
  else
    some (.inr (t1, t4, t5, t6, t7, t8, ()))
noncomputable def w_S_l8Runs_12 : PV Y_impl_Group × PV (.int .i64) × PV S_bool × PV S_bool × PV (.int .i64) × PV (.int .i64) × PV .bool × PV .bool × PV (.int .i64) × Unit → Option ((PV Y_impl_Group × PV (.int .i64) × PV S_bool × PV S_bool × PV (.int .i64) × PV (.int .i64) × Unit)) := fix fun d => b_S_l8Runs_12 d.1 d.2.1 d.2.2.1 d.2.2.2.1 d.2.2.2.2.1 d.2.2.2.2.2.1 d.2.2.2.2.2.2.1 d.2.2.2.2.2.2.2.1 d.2.2.2.2.2.2.2.2.1
noncomputable def lp_S_l8Runs_12 : Lp := ⟨⟨[], [1, 4, 5, 6, 7, 8, 9, 10, 11, 27, 28, 29, 30, 31, 32, 33, 37, 38, 39, 40, 41, 42, 43, 47, 48, 49, 50, 51, 52, 53], []⟩, sh_S_l8Runs_12, o_S_l8Runs_12, fun d => b_S_l8Runs_12 d.1 d.2.1 d.2.2.1 d.2.2.2.1 d.2.2.2.2.1 d.2.2.2.2.2.1 d.2.2.2.2.2.2.1 d.2.2.2.2.2.2.2.1 d.2.2.2.2.2.2.2.2.1⟩
noncomputable def sh_S_l8Runs_4 : List Sh := mkSh 77 [(1, .var Y_impl_Group .b), (4, .val (.int .i64) .b), (5, .val S_bool (.row .b)), (6, .val S_bool (.row .b)), (7, .val (.int .i64) .b)]
noncomputable def o_S_l8Runs_4 : List Out := [⟨.exit 0, ⟨[], [5, 6], []⟩, mkSh 77 [(5, .val S_bool (.row .b)), (6, .val S_bool (.row .b))]⟩]
noncomputable def b_S_l8Runs_4 (t1 : PV Y_impl_Group) (t4 : PV (.int .i64)) (t5 : PV S_bool) (t6 : PV S_bool) (t7 : PV (.int .i64)) : Option ((PV Y_impl_Group × PV (.int .i64) × PV S_bool × PV S_bool × PV (.int .i64) × Unit) ⊕ ((PV S_bool × PV S_bool × Unit))) :=
  bif (decide (t7 < t4)) then
    (w_S_l8Runs_7 (t1, t4, t5, t6, t7, t7, false, false, ())).bind fun l2 =>
      (w_S_l8Runs_12 (l2.1, l2.2.1, l2.2.2.1, l2.2.2.2.1, l2.2.2.2.2.1, l2.2.2.2.2.2.1, l2.2.2.2.2.2.2.1, l2.2.2.2.2.2.2.2.1, l2.2.2.2.2.1, ())).bind fun l4 =>
        (f_S_l1Most l4.2.2.2.2.2.1 (IntKind.wrap .i64 (l4.2.2.2.2.1 + 1))).bind fun r5 =>
          some (.inl (l4.1, l4.2.1, l4.2.2.1, l4.2.2.2.1, r5.1.1, ()))
  else
    some (.inr (t5, t6, ()))
noncomputable def w_S_l8Runs_4 : PV Y_impl_Group × PV (.int .i64) × PV S_bool × PV S_bool × PV (.int .i64) × Unit → Option ((PV S_bool × PV S_bool × Unit)) := fix fun d => b_S_l8Runs_4 d.1 d.2.1 d.2.2.1 d.2.2.2.1 d.2.2.2.2.1
noncomputable def lp_S_l8Runs_4 : Lp := ⟨⟨[], [1, 4, 5, 6, 7, 27, 28, 29, 30, 31, 32, 33, 37, 38, 39, 40, 41, 42, 43, 47, 48, 49, 50, 51, 52, 53], []⟩, sh_S_l8Runs_4, o_S_l8Runs_4, fun d => b_S_l8Runs_4 d.1 d.2.1 d.2.2.1 d.2.2.2.1 d.2.2.2.2.1⟩
noncomputable def pl_S_l8Runs : Plan := ⟨[(9, o_S_l8Runs_9), (10, o_S_l8Runs_10)], [(7, lp_S_l8Runs_7), (12, lp_S_l8Runs_12), (4, lp_S_l8Runs_4)], 0, 0⟩
noncomputable def f_S_l8Runs (t0 : PV Y_impl_Group) : Option (PVs [S_bool, S_bool] × PVs []) :=
  bif decide (0 ≤ (t0.2.2.1.length : Int)) && (decide ((t0.2.2.1.length : Int) ≤ (t0.2.2.1.length : Int)) && roomB (t0.2.2.1.length : Int).toNat) then
    bif decide (0 ≤ (t0.2.2.1.length : Int)) && (decide ((t0.2.2.1.length : Int) ≤ (t0.2.2.1.length : Int)) && roomB (t0.2.2.1.length : Int).toNat) then
      (w_S_l8Runs_4 (t0, (t0.2.2.1.length : Int), (List.replicate (t0.2.2.1.length : Int).toNat false), (List.replicate (t0.2.2.1.length : Int).toNat false), 0, ())).bind fun l7 =>
        some ((l7.1, l7.2.1, ()), ())
    else
      none
  else
    none
noncomputable def ct_S_l8Runs : Ct := ⟨[(.bor, Y_impl_Group)], [(S_bool, true), (S_bool, true)], fun x => f_S_l8Runs x.1⟩
noncomputable def cx_S_l8Runs : Cx := ⟨tab, arrs, [(194, ct_S_l1Most)], [], gl, []⟩
theorem eb_S_l8Runs_4 (t1 : PV Y_impl_Group) (t4 : PV (.int .i64)) (t5 : PV S_bool) (t6 : PV S_bool) (t7 : PV (.int .i64)) : denK cx_S_l8Runs (rcN cx_S_l8Runs 0) pl_S_l8Runs 0 ((loopsOf (bodyOf Tryd.f162)).getD 0 .skip) (fillS sh_S_l8Runs_4 (t1, t4, t5, t6, t7, ())) (roundK 0 lp_S_l8Runs_4) = b_S_l8Runs_4 t1 t4 t5 t6 t7 := by kernel_rfl
theorem eb_S_l8Runs_7 (t1 : PV Y_impl_Group) (t4 : PV (.int .i64)) (t5 : PV S_bool) (t6 : PV S_bool) (t7 : PV (.int .i64)) (t8 : PV (.int .i64)) (t9 : PV .bool) (t10 : PV .bool) : denK cx_S_l8Runs (rcN cx_S_l8Runs 0) pl_S_l8Runs 0 ((loopsOf (bodyOf Tryd.f162)).getD 1 .skip) (fillS sh_S_l8Runs_7 (t1, t4, t5, t6, t7, t8, t9, t10, ())) (roundK 0 lp_S_l8Runs_7) = b_S_l8Runs_7 t1 t4 t5 t6 t7 t8 t9 t10 := by kernel_rfl
theorem eb_S_l8Runs_12 (t1 : PV Y_impl_Group) (t4 : PV (.int .i64)) (t5 : PV S_bool) (t6 : PV S_bool) (t7 : PV (.int .i64)) (t8 : PV (.int .i64)) (t9 : PV .bool) (t10 : PV .bool) (t11 : PV (.int .i64)) : denK cx_S_l8Runs (rcN cx_S_l8Runs 0) pl_S_l8Runs 0 ((loopsOf (bodyOf Tryd.f162)).getD 2 .skip) (fillS sh_S_l8Runs_12 (t1, t4, t5, t6, t7, t8, t9, t10, t11, ())) (roundK 0 lp_S_l8Runs_12) = b_S_l8Runs_12 t1 t4 t5 t6 t7 t8 t9 t10 t11 := by kernel_rfl
theorem ef_S_l8Runs (t0 : PV Y_impl_Group) : denF cx_S_l8Runs 0 pl_S_l8Runs Tryd.f162.ntmps (bodyOf Tryd.f162) Tryd.f162.results.toList [(.bor, Y_impl_Group)] [(S_bool, true), (S_bool, true)] (t0, ()) = f_S_l8Runs t0 := by kernel_rfl
theorem ok_S_l8Runs : FnOk gl Tryd.prog 162 ct_S_l8Runs :=
  fnOk (cx := cx_S_l8Runs) (pl := pl_S_l8Runs) (dp := 0) (ok0_of tabOk (by unfold ArrOk; kernel_rfl) mix ⟨ok_S_l1Most, trivial⟩ trivial) Tryd.func162 (by kernel_rfl) (by kernel_rfl) (by kernel_rfl)
    (by rw [show loopsOf (bodyOf Tryd.f162) = [((loopsOf (bodyOf Tryd.f162)).getD 0 .skip), ((loopsOf (bodyOf Tryd.f162)).getD 1 .skip), ((loopsOf (bodyOf Tryd.f162)).getD 2 .skip)] from by kernel_rfl]; exact ⟨(by rw [show lookup pl_S_l8Runs.loops (firstId ((loopsOf (bodyOf Tryd.f162)).getD 0 .skip)) = some lp_S_l8Runs_4 from by kernel_rfl]; exact fun d z h => (eb_S_l8Runs_4 d.1 d.2.1 d.2.2.1 d.2.2.2.1 d.2.2.2.2.1).trans h), (by rw [show lookup pl_S_l8Runs.loops (firstId ((loopsOf (bodyOf Tryd.f162)).getD 1 .skip)) = some lp_S_l8Runs_7 from by kernel_rfl]; exact fun d z h => (eb_S_l8Runs_7 d.1 d.2.1 d.2.2.1 d.2.2.2.1 d.2.2.2.2.1 d.2.2.2.2.2.1 d.2.2.2.2.2.2.1 d.2.2.2.2.2.2.2.1).trans h), (by rw [show lookup pl_S_l8Runs.loops (firstId ((loopsOf (bodyOf Tryd.f162)).getD 2 .skip)) = some lp_S_l8Runs_12 from by kernel_rfl]; exact fun d z h => (eb_S_l8Runs_12 d.1 d.2.1 d.2.2.1 d.2.2.2.1 d.2.2.2.2.1 d.2.2.2.2.2.1 d.2.2.2.2.2.2.1 d.2.2.2.2.2.2.2.1 d.2.2.2.2.2.2.2.2.1).trans h), trivial⟩) (fun x => ef_S_l8Runs x.1)
noncomputable def o_S_l8Half_8 : List Out := [⟨.normal, ⟨[], [1, 5, 6, 7, 8, 9, 10, 17, 18, 19, 24, 45, 46, 47, 48, 51, 52, 53, 54], []⟩, mkSh 72 [(1, .val .bool .b), (5, .val S_bool (.row .b)), (6, .val S_bool (.row .b)), (7, .val .str .b), (8, .val (.int .i64) .b), (9, .var Y_impl_Row .b), (10, .val .str .b), (17, .val S_impl_Row .b), (18, .val (.int .i64) .b), (19, .val (.int .i64) .b), (24, .val .bool .b)]⟩]
noncomputable def o_S_l8Half_9 : List Out := [⟨.normal, ⟨[], [1, 5, 6, 7, 9, 10, 17, 18, 19, 29, 30, 33, 34, 35, 36, 37, 38, 40], []⟩, mkSh 72 [(1, .val .bool .b), (5, .val S_bool (.row .b)), (6, .val S_bool (.row .b)), (7, .val .str .b), (9, .var Y_impl_Row .b), (10, .val .str .b), (17, .val S_impl_Row .b), (18, .val (.int .i64) .b), (19, .val (.int .i64) .b), (40, .val .bool .b)]⟩]
noncomputable def o_S_l8Half_14 : List Out := [⟨.exit 1, ⟨[], [1, 5, 6, 7, 17, 18, 19, 29, 30, 33, 34, 35, 36, 37, 38, 45, 46, 47, 48, 51, 52, 53, 54], []⟩, mkSh 72 [(1, .val .bool .b), (5, .val S_bool (.row .b)), (6, .val S_bool (.row .b)), (7, .val .str .b), (17, .val S_impl_Row .b), (18, .val (.int .i64) .b), (19, .val (.int .i64) .b)]⟩, ⟨.normal, ⟨[], [1, 5, 6, 7, 9, 10, 17, 18, 19, 29, 30, 33, 34, 35, 36, 37, 38, 45, 46, 47, 48, 51, 52, 53, 54], []⟩, mkSh 72 [(1, .val .bool .b), (5, .val S_bool (.row .b)), (6, .val S_bool (.row .b)), (7, .val .str .b), (9, .var Y_impl_Row .b), (10, .val .str .b), (17, .val S_impl_Row .b), (18, .val (.int .i64) .b), (19, .val (.int .i64) .b)]⟩]
noncomputable def o_S_l8Half_15 : List Out := [⟨.normal, ⟨[], [1, 5, 6, 7, 17, 18, 19, 29, 30, 33, 34, 35, 36, 37, 38, 45, 46, 47, 48, 51, 52, 53, 54], []⟩, mkSh 72 [(1, .val .bool .b), (5, .val S_bool (.row .b)), (6, .val S_bool (.row .b)), (7, .val .str .b), (17, .val S_impl_Row .b), (18, .val (.int .i64) .b), (19, .val (.int .i64) .b)]⟩]
noncomputable def sh_S_l8Half_4 : List Sh := mkSh 72 [(1, .val .bool .b), (5, .val S_bool (.row .b)), (6, .val S_bool (.row .b)), (7, .val .str .b), (17, .val S_impl_Row .b), (18, .val (.int .i64) .b), (19, .val (.int .i64) .b)]
noncomputable def o_S_l8Half_4 : List Out := [⟨.exit 0, ⟨[], [7], []⟩, mkSh 72 [(7, .val .str .b)]⟩]
noncomputable def b_S_l8Half_4 (t1 : PV .bool) (t5 : PV S_bool) (t6 : PV S_bool) (t7 : PV .str) (t17 : PV S_impl_Row) (t18 : PV (.int .i64)) (t19 : PV (.int .i64)) : Option ((PV .bool × PV S_bool × PV S_bool × PV .str × PV S_impl_Row × PV (.int .i64) × PV (.int .i64) × Unit) ⊕ ((PV .str × Unit))) :=
  bif (decide (t19 < t18)) then
    ((
        bif inB t19 t17.length then
          ((
              ((
                  bif (((t17.getD t19.toNat (dflt Y_impl_Row)).1) == 2) then
                    bif (!t1) then
                      some (t1, t5, t6, t7, t19, (t17.getD t19.toNat (dflt Y_impl_Row)), [32, 32], t17, t18, t19, true, ())
                    else
                      bif (((t17.getD t19.toNat (dflt Y_impl_Row)).1) == 3) then
                        some (t1, t5, t6, t7, t19, (t17.getD t19.toNat (dflt Y_impl_Row)), [32, 32], t17, t18, t19, t1, ())
                      else
                        some (t1, t5, t6, t7, t19, (t17.getD t19.toNat (dflt Y_impl_Row)), [32, 32], t17, t18, t19, false, ())
                  else
                    bif (((t17.getD t19.toNat (dflt Y_impl_Row)).1) == 3) then
                      some (t1, t5, t6, t7, t19, (t17.getD t19.toNat (dflt Y_impl_Row)), [32, 32], t17, t18, t19, t1, ())
                    else
                      some (t1, t5, t6, t7, t19, (t17.getD t19.toNat (dflt Y_impl_Row)), [32, 32], t17, t18, t19, false, ()) : Option ((PV .bool × PV S_bool × PV S_bool × PV .str × PV (.int .i64) × PV Y_impl_Row × PV .str × PV S_impl_Row × PV (.int .i64) × PV (.int .i64) × PV .bool × Unit)))).bind fun j3 =>
                bif j3.2.2.2.2.2.2.2.2.2.2.1 then
                  some (.inl (j3.1, j3.2.1, j3.2.2.1, j3.2.2.2.1, j3.2.2.2.2.2.2.2.1, j3.2.2.2.2.2.2.2.2.1, j3.2.2.2.2.2.2.2.2.2.1, ()))
                else
                  ((
                      bif (!(j3.2.2.2.2.2.1.1 == 1)) then
                        bif inB j3.2.2.2.2.1 j3.2.1.length then
                          bif (j3.2.1.getD j3.2.2.2.2.1.toNat false) then
                            bif inB j3.2.2.2.2.1 j3.2.2.1.length then
                              some (j3.1, j3.2.1, j3.2.2.1, j3.2.2.2.1, j3.2.2.2.2.2.1, j3.2.2.2.2.2.2.1, j3.2.2.2.2.2.2.2.1, j3.2.2.2.2.2.2.2.2.1, j3.2.2.2.2.2.2.2.2.2.1, (j3.2.2.1.getD j3.2.2.2.2.1.toNat false), ())
                            else
                              none
                          else
                            some (j3.1, j3.2.1, j3.2.2.1, j3.2.2.2.1, j3.2.2.2.2.2.1, j3.2.2.2.2.2.2.1, j3.2.2.2.2.2.2.2.1, j3.2.2.2.2.2.2.2.2.1, j3.2.2.2.2.2.2.2.2.2.1, false, ())
                        else
                          none
                      else
                        some (j3.1, j3.2.1, j3.2.2.1, j3.2.2.2.1, j3.2.2.2.2.2.1, j3.2.2.2.2.2.2.1, j3.2.2.2.2.2.2.2.1, j3.2.2.2.2.2.2.2.2.1, j3.2.2.2.2.2.2.2.2.2.1, false, ()) : Option ((PV .bool × PV S_bool × PV S_bool × PV .str × PV Y_impl_Row × PV .str × PV S_impl_Row × PV (.int .i64) × PV (.int .i64) × PV .bool × Unit)))).bind fun j4 =>
                    bif j4.2.2.2.2.2.2.2.2.2.1 then
                      some (.inr (j4.1, j4.2.1, j4.2.2.1, j4.2.2.2.1, j4.2.2.2.2.1, [33, 32], j4.2.2.2.2.2.2.1, j4.2.2.2.2.2.2.2.1, j4.2.2.2.2.2.2.2.2.1, ()))
                    else
                      bif (j4.2.2.2.2.1.1 == 2) then
                        some (.inr (j4.1, j4.2.1, j4.2.2.1, j4.2.2.2.1, j4.2.2.2.2.1, [45, 32], j4.2.2.2.2.2.2.1, j4.2.2.2.2.2.2.2.1, j4.2.2.2.2.2.2.2.2.1, ()))
                      else
                        bif (j4.2.2.2.2.1.1 == 3) then
                          some (.inr (j4.1, j4.2.1, j4.2.2.1, j4.2.2.2.1, j4.2.2.2.2.1, [43, 32], j4.2.2.2.2.2.2.1, j4.2.2.2.2.2.2.2.1, j4.2.2.2.2.2.2.2.2.1, ()))
                        else
                          some (.inr (j4.1, j4.2.1, j4.2.2.1, j4.2.2.2.1, j4.2.2.2.2.1, j4.2.2.2.2.2.1, j4.2.2.2.2.2.2.1, j4.2.2.2.2.2.2.2.1, j4.2.2.2.2.2.2.2.2.1, ())) : Option ((PV .bool × PV S_bool × PV S_bool × PV .str × PV S_impl_Row × PV (.int .i64) × PV (.int .i64) × Unit) ⊕ (PV .bool × PV S_bool × PV S_bool × PV .str × PV Y_impl_Row × PV .str × PV S_impl_Row × PV (.int .i64) × PV (.int .i64) × Unit)))).bind fun x11 =>
            match x11 with
            | .inl j5 =>
              some (j5.1, j5.2.1, j5.2.2.1, j5.2.2.2.1, j5.2.2.2.2.1, j5.2.2.2.2.2.1, j5.2.2.2.2.2.2.1, ())
            | .inr j6 =>
              (f_S_l5Shown j6.2.2.2.2.2.1 j6.2.2.2.2.1.2.1).bind fun r7 =>
                bif decide (j6.2.2.2.1.length + r7.1.1.length ≤ 1099511627776) then
                  some (j6.1, j6.2.1, j6.2.2.1, (j6.2.2.2.1 ++ r7.1.1), j6.2.2.2.2.2.2.1, j6.2.2.2.2.2.2.2.1, j6.2.2.2.2.2.2.2.2.1, ())
                else
                  none
        else
          none : Option ((PV .bool × PV S_bool × PV S_bool × PV .str × PV S_impl_Row × PV (.int .i64) × PV (.int .i64) × Unit)))).bind fun j8 =>
      some (.inl (j8.1, j8.2.1, j8.2.2.1, j8.2.2.2.1, j8.2.2.2.2.1, j8.2.2.2.2.2.1, (IntKind.wrap .i64 (j8.2.2.2.2.2.2.1 + 1)), ()))
  else
    some (.inr (t7, ()))
noncomputable def w_S_l8Half_4 : PV .bool × PV S_bool × PV S_bool × PV .str × PV S_impl_Row × PV (.int .i64) × PV (.int .i64) × Unit → Option ((PV .str × Unit)) := fix fun d => b_S_l8Half_4 d.1 d.2.1 d.2.2.1 d.2.2.2.1 d.2.2.2.2.1 d.2.2.2.2.2.1 d.2.2.2.2.2.2.1
noncomputable def lp_S_l8Half_4 : Lp := ⟨⟨[], [1, 5, 6, 7, 17, 18, 19, 29, 30, 33, 34, 35, 36, 37, 38, 45, 46, 47, 48, 51, 52, 53, 54], []⟩, sh_S_l8Half_4, o_S_l8Half_4, fun d => b_S_l8Half_4 d.1 d.2.1 d.2.2.1 d.2.2.2.1 d.2.2.2.2.1 d.2.2.2.2.2.1 d.2.2.2.2.2.2.1⟩
noncomputable def pl_S_l8Half : Plan := ⟨[(8, o_S_l8Half_8), (9, o_S_l8Half_9), (14, o_S_l8Half_14), (15, o_S_l8Half_15)], [(4, lp_S_l8Half_4)], 0, 0⟩
noncomputable def f_S_l8Half (t0 : PV Y_impl_Group) (t1 : PV .bool) : Option (PVs [.str] × PVs []) :=
  (f_S_l8Runs t0).bind fun r2 =>
    (w_S_l8Half_4 (t1, r2.1.1, r2.1.2.1, [], t0.2.2.1, (t0.2.2.1.length : Int), 0, ())).bind fun l10 =>
      some ((l10.1, ()), ())
noncomputable def ct_S_l8Half : Ct := ⟨[(.bor, Y_impl_Group), (.bor, .bool)], [(.str, false)], fun x => f_S_l8Half x.1 x.2.1⟩
noncomputable def cx_S_l8Half : Cx := ⟨tab, arrs, [(103, ct_S_l5Shown), (162, ct_S_l8Runs)], [], gl, []⟩
theorem eb_S_l8Half_4 (t1 : PV .bool) (t5 : PV S_bool) (t6 : PV S_bool) (t7 : PV .str) (t17 : PV S_impl_Row) (t18 : PV (.int .i64)) (t19 : PV (.int .i64)) : denK cx_S_l8Half (rcN cx_S_l8Half 0) pl_S_l8Half 0 ((loopsOf (bodyOf Tryd.f120)).getD 0 .skip) (fillS sh_S_l8Half_4 (t1, t5, t6, t7, t17, t18, t19, ())) (roundK 0 lp_S_l8Half_4) = b_S_l8Half_4 t1 t5 t6 t7 t17 t18 t19 := by kernel_rfl
theorem ef_S_l8Half (t0 : PV Y_impl_Group) (t1 : PV .bool) : denF cx_S_l8Half 0 pl_S_l8Half Tryd.f120.ntmps (bodyOf Tryd.f120) Tryd.f120.results.toList [(.bor, Y_impl_Group), (.bor, .bool)] [(.str, false)] (t0, t1, ()) = f_S_l8Half t0 t1 := by kernel_rfl
theorem ok_S_l8Half : FnOk gl Tryd.prog 120 ct_S_l8Half :=
  fnOk (cx := cx_S_l8Half) (pl := pl_S_l8Half) (dp := 0) (ok0_of tabOk (by unfold ArrOk; kernel_rfl) mix ⟨ok_S_l5Shown, ok_S_l8Runs, trivial⟩ trivial) Tryd.func120 (by kernel_rfl) (by kernel_rfl) (by kernel_rfl)
    (by rw [show loopsOf (bodyOf Tryd.f120) = [((loopsOf (bodyOf Tryd.f120)).getD 0 .skip)] from by kernel_rfl]; exact ⟨(by rw [show lookup pl_S_l8Half.loops (firstId ((loopsOf (bodyOf Tryd.f120)).getD 0 .skip)) = some lp_S_l8Half_4 from by kernel_rfl]; exact fun d z h => (eb_S_l8Half_4 d.1 d.2.1 d.2.2.1 d.2.2.2.1 d.2.2.2.2.1 d.2.2.2.2.2.1 d.2.2.2.2.2.2.1).trans h), trivial⟩) (fun x => ef_S_l8Half x.1 x.2.1)
noncomputable def o_S_l8Text_8 : List Out := [⟨.normal, ⟨[], [3, 5, 6, 7, 8], []⟩, mkSh 46 [(3, .val .str .b), (5, .var Y_impl_Group .b), (6, .val S_impl_Group .b), (7, .val (.int .i64) .b), (8, .val (.int .i64) .b)]⟩]
noncomputable def o_S_l8Text_11 : List Out := [⟨.normal, ⟨[], [3, 6, 7, 8], []⟩, mkSh 46 [(3, .val .str .b), (6, .val S_impl_Group .b), (7, .val (.int .i64) .b), (8, .val (.int .i64) .b)]⟩]
noncomputable def sh_S_l8Text_3 : List Sh := mkSh 46 [(3, .val .str .b), (6, .val S_impl_Group .b), (7, .val (.int .i64) .b), (8, .val (.int .i64) .b)]
noncomputable def o_S_l8Text_3 : List Out := [⟨.exit 0, ⟨[], [3], []⟩, mkSh 46 [(3, .val .str .b)]⟩]
noncomputable def b_S_l8Text_3 (t3 : PV .str) (t6 : PV S_impl_Group) (t7 : PV (.int .i64)) (t8 : PV (.int .i64)) : Option ((PV .str × PV S_impl_Group × PV (.int .i64) × PV (.int .i64) × Unit) ⊕ ((PV .str × Unit))) :=
  bif (decide (t8 < t7)) then
    ((
        bif inB t8 t6.length then
          (f_S_l6Old (t6.getD t8.toNat (dflt Y_impl_Group))).bind fun r3 =>
            (f_S_l4Pair ((t6.getD t8.toNat (dflt Y_impl_Group)).1) (r3.1.1.length : Int)).bind fun r4 =>
              bif decide ([42, 42, 42, 42, 42, 42, 42, 42, 42, 42, 42, 42, 42, 42, 42, 10, 42, 42, 42, 32].length + r4.1.1.length ≤ 1099511627776) then
                bif decide (([42, 42, 42, 42, 42, 42, 42, 42, 42, 42, 42, 42, 42, 42, 42, 10, 42, 42, 42, 32] ++ r4.1.1).length + [32, 42, 42, 42, 42, 10].length ≤ 1099511627776) then
                  bif decide (t3.length + (([42, 42, 42, 42, 42, 42, 42, 42, 42, 42, 42, 42, 42, 42, 42, 10, 42, 42, 42, 32] ++ r4.1.1) ++ [32, 42, 42, 42, 42, 10]).length ≤ 1099511627776) then
                    ((
                        (f_S_l8Some (t6.getD t8.toNat (dflt Y_impl_Group)) 2).bind fun r6 =>
                          bif r6.1.1 then
                            (f_S_l8Half (t6.getD t8.toNat (dflt Y_impl_Group)) true).bind fun r7 =>
                              bif decide ((t3 ++ (([42, 42, 42, 42, 42, 42, 42, 42, 42, 42, 42, 42, 42, 42, 42, 10, 42, 42, 42, 32] ++ r4.1.1) ++ [32, 42, 42, 42, 42, 10])).length + r7.1.1.length ≤ 1099511627776) then
                                some (((t3 ++ (([42, 42, 42, 42, 42, 42, 42, 42, 42, 42, 42, 42, 42, 42, 42, 10, 42, 42, 42, 32] ++ r4.1.1) ++ [32, 42, 42, 42, 42, 10])) ++ r7.1.1), (t6.getD t8.toNat (dflt Y_impl_Group)), t6, t7, t8, ())
                              else
                                none
                          else
                            some ((t3 ++ (([42, 42, 42, 42, 42, 42, 42, 42, 42, 42, 42, 42, 42, 42, 42, 10, 42, 42, 42, 32] ++ r4.1.1) ++ [32, 42, 42, 42, 42, 10])), (t6.getD t8.toNat (dflt Y_impl_Group)), t6, t7, t8, ()) : Option ((PV .str × PV Y_impl_Group × PV S_impl_Group × PV (.int .i64) × PV (.int .i64) × Unit)))).bind fun j8 =>
                      (f_S_l6New j8.2.1).bind fun r11 =>
                        (f_S_l4Pair j8.2.1.2.1 (r11.1.1.length : Int)).bind fun r12 =>
                          bif decide ([45, 45, 45, 32].length + r12.1.1.length ≤ 1099511627776) then
                            bif decide (([45, 45, 45, 32] ++ r12.1.1).length + [32, 45, 45, 45, 45, 10].length ≤ 1099511627776) then
                              bif decide (j8.1.length + (([45, 45, 45, 32] ++ r12.1.1) ++ [32, 45, 45, 45, 45, 10]).length ≤ 1099511627776) then
                                (f_S_l8Some j8.2.1 3).bind fun r14 =>
                                  bif r14.1.1 then
                                    (f_S_l8Half j8.2.1 false).bind fun r15 =>
                                      bif decide ((j8.1 ++ (([45, 45, 45, 32] ++ r12.1.1) ++ [32, 45, 45, 45, 45, 10])).length + r15.1.1.length ≤ 1099511627776) then
                                        some (((j8.1 ++ (([45, 45, 45, 32] ++ r12.1.1) ++ [32, 45, 45, 45, 45, 10])) ++ r15.1.1), j8.2.2.1, j8.2.2.2.1, j8.2.2.2.2.1, ())
                                      else
                                        none
                                  else
                                    some ((j8.1 ++ (([45, 45, 45, 32] ++ r12.1.1) ++ [32, 45, 45, 45, 45, 10])), j8.2.2.1, j8.2.2.2.1, j8.2.2.2.2.1, ())
                              else
                                none
                            else
                              none
                          else
                            none
                  else
                    none
                else
                  none
              else
                none
        else
          none : Option ((PV .str × PV S_impl_Group × PV (.int .i64) × PV (.int .i64) × Unit)))).bind fun j16 =>
      some (.inl (j16.1, j16.2.1, j16.2.2.1, (IntKind.wrap .i64 (j16.2.2.2.1 + 1)), ()))
  else
    some (.inr (t3, ()))
noncomputable def w_S_l8Text_3 : PV .str × PV S_impl_Group × PV (.int .i64) × PV (.int .i64) × Unit → Option ((PV .str × Unit)) := fix fun d => b_S_l8Text_3 d.1 d.2.1 d.2.2.1 d.2.2.2.1
noncomputable def lp_S_l8Text_3 : Lp := ⟨⟨[], [3, 6, 7, 8], []⟩, sh_S_l8Text_3, o_S_l8Text_3, fun d => b_S_l8Text_3 d.1 d.2.1 d.2.2.1 d.2.2.2.1⟩
noncomputable def pl_S_l8Text : Plan := ⟨[(8, o_S_l8Text_8), (11, o_S_l8Text_11)], [(3, lp_S_l8Text_3)], 0, 0⟩
noncomputable def f_S_l8Text (t0 : PV S_impl_Group) : Option (PVs [.str] × PVs []) :=
  (w_S_l8Text_3 ([], t0, (t0.length : Int), 0, ())).bind fun l18 =>
    some ((l18.1, ()), ())
noncomputable def ct_S_l8Text : Ct := ⟨[(.bor, S_impl_Group)], [(.str, false)], fun x => f_S_l8Text x.1⟩
noncomputable def cx_S_l8Text : Cx := ⟨tab, arrs, [(100, ct_S_l6Old), (101, ct_S_l6New), (118, ct_S_l4Pair), (119, ct_S_l8Some), (120, ct_S_l8Half)], [], gl, []⟩
theorem eb_S_l8Text_3 (t3 : PV .str) (t6 : PV S_impl_Group) (t7 : PV (.int .i64)) (t8 : PV (.int .i64)) : denK cx_S_l8Text (rcN cx_S_l8Text 0) pl_S_l8Text 0 ((loopsOf (bodyOf Tryd.f73)).getD 0 .skip) (fillS sh_S_l8Text_3 (t3, t6, t7, t8, ())) (roundK 0 lp_S_l8Text_3) = b_S_l8Text_3 t3 t6 t7 t8 := by kernel_rfl
theorem ef_S_l8Text (t0 : PV S_impl_Group) : denF cx_S_l8Text 0 pl_S_l8Text Tryd.f73.ntmps (bodyOf Tryd.f73) Tryd.f73.results.toList [(.bor, S_impl_Group)] [(.str, false)] (t0, ()) = f_S_l8Text t0 := by kernel_rfl
theorem ok_S_l8Text : FnOk gl Tryd.prog 73 ct_S_l8Text :=
  fnOk (cx := cx_S_l8Text) (pl := pl_S_l8Text) (dp := 0) (ok0_of tabOk (by unfold ArrOk; kernel_rfl) mix ⟨ok_S_l6Old, ok_S_l6New, ok_S_l4Pair, ok_S_l8Some, ok_S_l8Half, trivial⟩ trivial) Tryd.func73 (by kernel_rfl) (by kernel_rfl) (by kernel_rfl)
    (by rw [show loopsOf (bodyOf Tryd.f73) = [((loopsOf (bodyOf Tryd.f73)).getD 0 .skip)] from by kernel_rfl]; exact ⟨(by rw [show lookup pl_S_l8Text.loops (firstId ((loopsOf (bodyOf Tryd.f73)).getD 0 .skip)) = some lp_S_l8Text_3 from by kernel_rfl]; exact fun d z h => (eb_S_l8Text_3 d.1 d.2.1 d.2.2.1 d.2.2.2.1).trans h), trivial⟩) (fun x => ef_S_l8Text x.1)
noncomputable def o_S_SidesText_2 : List Out := [⟨.normal, ⟨[], [0, 12], []⟩, mkSh 15 [(0, .val S_impl_Group .b), (12, .val .bool .b)]⟩]
noncomputable def pl_S_SidesText : Plan := ⟨[(2, o_S_SidesText_2)], [], 0, 0⟩
noncomputable def f_S_SidesText (t0 : PV S_impl_Group) : Option (PVs [.str, .bool] × PVs []) :=
  ((
      (f_S_l6Good t0).bind fun r6 =>
        bif (!r6.1.1) then
          some (t0, true, ())
        else
          (f_S_l8Text t0).bind fun r7 =>
            some (t0, (decide ((r7.1.1.length : Int) > 3000)), ()) : Option ((PV S_impl_Group × PV .bool × Unit)))).bind fun j8 =>
    bif j8.2.1 then
      some (([], false, ()), ())
    else
      (f_S_l8Text j8.1).bind fun r9 =>
        some ((r9.1.1, true, ()), ())
noncomputable def ct_S_SidesText : Ct := ⟨[(.bor, S_impl_Group)], [(.str, false), (.bool, false)], fun x => f_S_SidesText x.1⟩
noncomputable def cx_S_SidesText : Cx := ⟨tab, arrs, [(61, ct_S_l6Good), (73, ct_S_l8Text)], [], gl, []⟩
theorem ef_S_SidesText (t0 : PV S_impl_Group) : denF cx_S_SidesText 0 pl_S_SidesText Tryd.f26.ntmps (bodyOf Tryd.f26) Tryd.f26.results.toList [(.bor, S_impl_Group)] [(.str, false), (.bool, false)] (t0, ()) = f_S_SidesText t0 := by kernel_rfl
theorem ok_S_SidesText : FnOk gl Tryd.prog 26 ct_S_SidesText :=
  fnOk (cx := cx_S_SidesText) (pl := pl_S_SidesText) (dp := 0) (ok0_of tabOk (by unfold ArrOk; kernel_rfl) mix ⟨ok_S_l6Good, ok_S_l8Text, trivial⟩ trivial) Tryd.func26 (by kernel_rfl) (by kernel_rfl) (by kernel_rfl)
    (by rw [show loopsOf (bodyOf Tryd.f26) = [] from by kernel_rfl]; exact trivial) (fun x => ef_S_SidesText x.1)
noncomputable def pl_S_ContextText : Plan := ⟨[], [], 0, 0⟩
noncomputable def f_S_ContextText (t0 : PV S_string) (t1 : PV S_impl_Hunk) (t2 : PV (.int .i64)) : Option (PVs [.str, .bool] × PVs []) :=
  (f_S_GroupsOf t0 t1 t2).bind fun r2 =>
    bif (!r2.1.2.1) then
      some (([], false, ()), ())
    else
      (f_S_SidesText r2.1.1).bind fun r3 =>
        some ((r3.1.1, r3.1.2.1, ()), ())
noncomputable def ct_S_ContextText : Ct := ⟨[(.bor, S_string), (.bor, S_impl_Hunk), (.bor, (.int .i64))], [(.str, false), (.bool, false)], fun x => f_S_ContextText x.1 x.2.1 x.2.2.1⟩
noncomputable def cx_S_ContextText : Cx := ⟨tab, arrs, [(26, ct_S_SidesText), (86, ct_S_GroupsOf)], [], gl, []⟩
theorem ef_S_ContextText (t0 : PV S_string) (t1 : PV S_impl_Hunk) (t2 : PV (.int .i64)) : denF cx_S_ContextText 0 pl_S_ContextText Tryd.f49.ntmps (bodyOf Tryd.f49) Tryd.f49.results.toList [(.bor, S_string), (.bor, S_impl_Hunk), (.bor, (.int .i64))] [(.str, false), (.bool, false)] (t0, t1, t2, ()) = f_S_ContextText t0 t1 t2 := by kernel_rfl
theorem ok_S_ContextText : FnOk gl Tryd.prog 49 ct_S_ContextText :=
  fnOk (cx := cx_S_ContextText) (pl := pl_S_ContextText) (dp := 0) (ok0_of tabOk (by unfold ArrOk; kernel_rfl) mix ⟨ok_S_SidesText, ok_S_GroupsOf, trivial⟩ trivial) Tryd.func49 (by kernel_rfl) (by kernel_rfl) (by kernel_rfl)
    (by rw [show loopsOf (bodyOf Tryd.f49) = [] from by kernel_rfl]; exact trivial) (fun x => ef_S_ContextText x.1 x.2.1 x.2.2.1)
noncomputable def pl_I_endOf : Plan := ⟨[], [], 0, 0⟩
noncomputable def f_I_endOf (t0 : PV (.int .i64)) (t1 : PV (.int .i64)) : Option (PVs [(.int .i64)] × PVs []) :=
  some (((IntKind.wrap .i64 (t0 + t1)), ()), ())
noncomputable def ct_I_endOf : Ct := ⟨[(.bor, (.int .i64)), (.bor, (.int .i64))], [((.int .i64), false)], fun x => f_I_endOf x.1 x.2.1⟩
noncomputable def cx_I_endOf : Cx := ⟨tab, arrs, [], [], gl, []⟩
theorem ef_I_endOf (t0 : PV (.int .i64)) (t1 : PV (.int .i64)) : denF cx_I_endOf 0 pl_I_endOf Tryd.f122.ntmps (bodyOf Tryd.f122) Tryd.f122.results.toList [(.bor, (.int .i64)), (.bor, (.int .i64))] [((.int .i64), false)] (t0, t1, ()) = f_I_endOf t0 t1 := by kernel_rfl
theorem ok_I_endOf : FnOk gl Tryd.prog 122 ct_I_endOf :=
  fnOk (cx := cx_I_endOf) (pl := pl_I_endOf) (dp := 0) (ok0_of tabOk (by unfold ArrOk; kernel_rfl) mix trivial trivial) Tryd.func122 (by kernel_rfl) (by kernel_rfl) (by kernel_rfl)
    (by rw [show loopsOf (bodyOf Tryd.f122) = [] from by kernel_rfl]; exact trivial) (fun x => ef_I_endOf x.1 x.2.1)
noncomputable def pl_I_pairOf : Plan := ⟨[], [], 0, 0⟩
noncomputable def f_I_pairOf (t0 : PV (.int .i64)) (t1 : PV (.int .i64)) : Option (PVs [.str] × PVs []) :=
  bif (t0 == t1) then
    (f_strconv_Itoa t0).bind fun r2 =>
      some ((r2.1.1, ()), ())
  else
    (f_strconv_Itoa t0).bind fun r3 =>
      bif decide (r3.1.1.length + [44].length ≤ 1099511627776) then
        (f_strconv_Itoa t1).bind fun r4 =>
          bif decide ((r3.1.1 ++ [44]).length + r4.1.1.length ≤ 1099511627776) then
            some ((((r3.1.1 ++ [44]) ++ r4.1.1), ()), ())
          else
            none
      else
        none
noncomputable def ct_I_pairOf : Ct := ⟨[(.bor, (.int .i64)), (.bor, (.int .i64))], [(.str, false)], fun x => f_I_pairOf x.1 x.2.1⟩
noncomputable def cx_I_pairOf : Cx := ⟨tab, arrs, [(71, ct_strconv_Itoa)], [], gl, []⟩
theorem ef_I_pairOf (t0 : PV (.int .i64)) (t1 : PV (.int .i64)) : denF cx_I_pairOf 0 pl_I_pairOf Tryd.f56.ntmps (bodyOf Tryd.f56) Tryd.f56.results.toList [(.bor, (.int .i64)), (.bor, (.int .i64))] [(.str, false)] (t0, t1, ()) = f_I_pairOf t0 t1 := by kernel_rfl
theorem ok_I_pairOf : FnOk gl Tryd.prog 56 ct_I_pairOf :=
  fnOk (cx := cx_I_pairOf) (pl := pl_I_pairOf) (dp := 0) (ok0_of tabOk (by unfold ArrOk; kernel_rfl) mix ⟨ok_strconv_Itoa, trivial⟩ trivial) Tryd.func56 (by kernel_rfl) (by kernel_rfl) (by kernel_rfl)
    (by rw [show loopsOf (bodyOf Tryd.f56) = [] from by kernel_rfl]; exact trivial) (fun x => ef_I_pairOf x.1 x.2.1)
noncomputable def pl_I_Group_has_163 : Plan := ⟨[], [], 2, 9⟩
noncomputable def sh_I_Group_has_195_2 : List Sh := mkSh 37 [(0, .val Y_impl_Group .b), (1, .val (.int .i64) .b), (2, .var Y_impl_Group .b), (3, .var (.int .i64) .b), (4, .val .bool .b), (5, .addr ⟨2, [.r, .r, .l], 0, 0⟩), (6, .val S_impl_Row .b), (7, .fn 164 [⟨3, [], 0, 0⟩]), (9, .val S_impl_Row .b), (10, .fn 164 [⟨3, [], 0, 0⟩]), (13, .val .bool .b), (14, .val S_impl_Row .b), (15, .fn 164 [⟨3, [], 0, 0⟩]), (18, .val S_impl_Row .b), (19, .fn 164 [⟨3, [], 0, 0⟩]), (25, .val (.int .i64) .b), (26, .val (.int .i64) .b)]
noncomputable def o_I_Group_has_195_2 : List Out := [⟨.exit 0, ⟨[], [], []⟩, mkSh 37 [(0, .val Y_impl_Group .b), (1, .val (.int .i64) .b), (2, .var Y_impl_Group .b), (3, .var (.int .i64) .b), (4, .val .bool .b), (5, .addr ⟨2, [.r, .r, .l], 0, 0⟩), (6, .val S_impl_Row .b), (7, .fn 164 [⟨3, [], 0, 0⟩]), (9, .val S_impl_Row .b), (10, .fn 164 [⟨3, [], 0, 0⟩]), (13, .val .bool .b), (14, .val S_impl_Row .b), (15, .fn 164 [⟨3, [], 0, 0⟩])]⟩, ⟨.ret, ⟨[], [4], []⟩, mkSh 37 [(0, .val Y_impl_Group .b), (1, .val (.int .i64) .b), (2, .var Y_impl_Group .b), (3, .var (.int .i64) .b), (4, .val .bool .b), (5, .addr ⟨2, [.r, .r, .l], 0, 0⟩), (6, .val S_impl_Row .b), (7, .fn 164 [⟨3, [], 0, 0⟩]), (9, .val S_impl_Row .b), (10, .fn 164 [⟨3, [], 0, 0⟩]), (13, .val .bool .b), (14, .val S_impl_Row .b), (15, .fn 164 [⟨3, [], 0, 0⟩]), (22, .val (.int .i64) .b)]⟩]
noncomputable def b_I_Group_has_195_2 (t0 : PV Y_impl_Group) (t1 : PV (.int .i64)) (t2 : PV Y_impl_Group) (t3 : PV (.int .i64)) (t4 : PV .bool) (t6 : PV S_impl_Row) (t9 : PV S_impl_Row) (t13 : PV .bool) (t14 : PV S_impl_Row) (t18 : PV S_impl_Row) (t25 : PV (.int .i64)) (t26 : PV (.int .i64)) : Option ((PV Y_impl_Group × PV (.int .i64) × PV Y_impl_Group × PV (.int .i64) × PV .bool × PV S_impl_Row × PV S_impl_Row × PV .bool × PV S_impl_Row × PV S_impl_Row × PV (.int .i64) × PV (.int .i64) × Unit) ⊕ ((PV Y_impl_Group × PV (.int .i64) × PV Y_impl_Group × PV (.int .i64) × PV .bool × PV S_impl_Row × PV S_impl_Row × PV .bool × PV S_impl_Row × Unit) ⊕ (PV Y_impl_Group × PV (.int .i64) × PV Y_impl_Group × PV (.int .i64) × PV .bool × PV S_impl_Row × PV S_impl_Row × PV .bool × PV S_impl_Row × PV (.int .i64) × Unit))) :=
  bif (decide (t26 < t25)) then
    bif inB t26 t18.length then
      bif (((t18.getD t26.toNat (dflt Y_impl_Row)).1) == t3) then
        some (.inr (.inr (t0, t1, t2, t3, t4, t6, t9, t13, t14, t26, ())))
      else
        some (.inl (t0, t1, t2, t3, t4, t6, t9, t13, t14, t18, t25, (IntKind.wrap .i64 (t26 + 1)), ()))
    else
      none
  else
    some (.inr (.inl (t0, t1, t2, t3, t4, t6, t9, t13, t14, ())))
noncomputable def w_I_Group_has_195_2 : PV Y_impl_Group × PV (.int .i64) × PV Y_impl_Group × PV (.int .i64) × PV .bool × PV S_impl_Row × PV S_impl_Row × PV .bool × PV S_impl_Row × PV S_impl_Row × PV (.int .i64) × PV (.int .i64) × Unit → Option ((PV Y_impl_Group × PV (.int .i64) × PV Y_impl_Group × PV (.int .i64) × PV .bool × PV S_impl_Row × PV S_impl_Row × PV .bool × PV S_impl_Row × Unit) ⊕ (PV Y_impl_Group × PV (.int .i64) × PV Y_impl_Group × PV (.int .i64) × PV .bool × PV S_impl_Row × PV S_impl_Row × PV .bool × PV S_impl_Row × PV (.int .i64) × Unit)) := fix fun d => b_I_Group_has_195_2 d.1 d.2.1 d.2.2.1 d.2.2.2.1 d.2.2.2.2.1 d.2.2.2.2.2.1 d.2.2.2.2.2.2.1 d.2.2.2.2.2.2.2.1 d.2.2.2.2.2.2.2.2.1 d.2.2.2.2.2.2.2.2.2.1 d.2.2.2.2.2.2.2.2.2.2.1 d.2.2.2.2.2.2.2.2.2.2.2.1
noncomputable def lp_I_Group_has_195_2 : Lp := ⟨⟨[], [0, 1, 7, 8], []⟩, sh_I_Group_has_195_2, o_I_Group_has_195_2, fun d => b_I_Group_has_195_2 d.1 d.2.1 d.2.2.1 d.2.2.2.1 d.2.2.2.2.1 d.2.2.2.2.2.1 d.2.2.2.2.2.2.1 d.2.2.2.2.2.2.2.1 d.2.2.2.2.2.2.2.2.1 d.2.2.2.2.2.2.2.2.2.1 d.2.2.2.2.2.2.2.2.2.2.1 d.2.2.2.2.2.2.2.2.2.2.2.1⟩
noncomputable def pl_I_Group_has_195 : Plan := ⟨[], [(2, lp_I_Group_has_195_2)], 1, 18⟩
noncomputable def pl_I_Group_has_164 : Plan := ⟨[], [], 0, 37⟩
noncomputable def pl_I_Group_has : Plan := ⟨[], [], 3, 0⟩
noncomputable def f_I_Group_has (t0 : PV Y_impl_Group) (t1 : PV (.int .i64)) : Option (PVs [.bool] × PVs []) :=
  (w_I_Group_has_195_2 (t0, t1, t0, t1, false, t0.2.2.1, t0.2.2.1, false, t0.2.2.1, t0.2.2.1, (t0.2.2.1.length : Int), 0, ())).bind fun x5 =>
    match x5 with
    | .inl l3 =>
      some (((decide ((-1) ≥ 0)), ()), ())
    | .inr l4 =>
      some (((decide (l4.2.2.2.2.2.2.2.2.2.1 ≥ 0)), ()), ())
noncomputable def ct_I_Group_has : Ct := ⟨[(.bor, Y_impl_Group), (.bor, (.int .i64))], [(.bool, false)], fun x => f_I_Group_has x.1 x.2.1⟩
noncomputable def cx_I_Group_has : Cx := ⟨tab, arrs, [], [(163, Tryd.f163, pl_I_Group_has_163), (195, Tryd.f195, pl_I_Group_has_195), (164, Tryd.f164, pl_I_Group_has_164)], gl, []⟩
theorem eb_I_Group_has_195_2 (t0 : PV Y_impl_Group) (t1 : PV (.int .i64)) (t2 : PV Y_impl_Group) (t3 : PV (.int .i64)) (t4 : PV .bool) (t6 : PV S_impl_Row) (t9 : PV S_impl_Row) (t13 : PV .bool) (t14 : PV S_impl_Row) (t18 : PV S_impl_Row) (t25 : PV (.int .i64)) (t26 : PV (.int .i64)) : denK cx_I_Group_has (rcN cx_I_Group_has 1) pl_I_Group_has_195 18 ((loopsOf (bodyOf Tryd.f195)).getD 0 .skip) (fillS sh_I_Group_has_195_2 (t0, t1, t2, t3, t4, t6, t9, t13, t14, t18, t25, t26, ())) (roundK 18 lp_I_Group_has_195_2) = b_I_Group_has_195_2 t0 t1 t2 t3 t4 t6 t9 t13 t14 t18 t25 t26 := by kernel_rfl
theorem ef_I_Group_has (t0 : PV Y_impl_Group) (t1 : PV (.int .i64)) : denF cx_I_Group_has 3 pl_I_Group_has Tryd.f123.ntmps (bodyOf Tryd.f123) Tryd.f123.results.toList [(.bor, Y_impl_Group), (.bor, (.int .i64))] [(.bool, false)] (t0, t1, ()) = f_I_Group_has t0 t1 := by kernel_rfl
theorem ok_I_Group_has : FnOk gl Tryd.prog 123 ct_I_Group_has :=
  fnOk (cx := cx_I_Group_has) (pl := pl_I_Group_has) (dp := 3) (ok0_of tabOk (by unfold ArrOk; kernel_rfl) mix trivial ⟨⟨Tryd.func163, by kernel_rfl, (by rw [show loopsOf (bodyOf Tryd.f163) = [] from by kernel_rfl]; exact trivial)⟩, ⟨Tryd.func195, by kernel_rfl, (by rw [show loopsOf (bodyOf Tryd.f195) = [((loopsOf (bodyOf Tryd.f195)).getD 0 .skip)] from by kernel_rfl]; exact ⟨(by rw [show lookup pl_I_Group_has_195.loops (firstId ((loopsOf (bodyOf Tryd.f195)).getD 0 .skip)) = some lp_I_Group_has_195_2 from by kernel_rfl]; exact fun d z h => (eb_I_Group_has_195_2 d.1 d.2.1 d.2.2.1 d.2.2.2.1 d.2.2.2.2.1 d.2.2.2.2.2.1 d.2.2.2.2.2.2.1 d.2.2.2.2.2.2.2.1 d.2.2.2.2.2.2.2.2.1 d.2.2.2.2.2.2.2.2.2.1 d.2.2.2.2.2.2.2.2.2.2.1 d.2.2.2.2.2.2.2.2.2.2.2.1).trans h), trivial⟩)⟩, ⟨Tryd.func164, by kernel_rfl, (by rw [show loopsOf (bodyOf Tryd.f164) = [] from by kernel_rfl]; exact trivial)⟩, trivial⟩) Tryd.func123 (by kernel_rfl) (by kernel_rfl) (by kernel_rfl)
    (by rw [show loopsOf (bodyOf Tryd.f123) = [] from by kernel_rfl]; exact trivial) (fun x => ef_I_Group_has x.1 x.2.1)
noncomputable def pl_I_Group_runHas_163 : Plan := ⟨[], [], 2, 48⟩
noncomputable def sh_I_Group_runHas_195_2 : List Sh := mkSh 76 [(3, .var Y_impl_Group .b), (5, .var (.int .i64) .b), (7, .val (.int .i64) .b), (8, .val (.int .i64) .b), (41, .addr ⟨3, [.r, .r, .l], 0, 0⟩), (42, .val S_impl_Row .b), (43, .val (.int .i64) .b), (44, .val (.int .i64) .b), (45, .val S_impl_Row .b), (46, .fn 196 [⟨5, [], 0, 0⟩]), (48, .val S_impl_Row .b), (49, .fn 196 [⟨5, [], 0, 0⟩]), (52, .val .bool .b), (53, .val S_impl_Row .b), (54, .fn 196 [⟨5, [], 0, 0⟩]), (57, .val S_impl_Row .b), (58, .fn 196 [⟨5, [], 0, 0⟩]), (64, .val (.int .i64) .b), (65, .val (.int .i64) .b)]
noncomputable def o_I_Group_runHas_195_2 : List Out := [⟨.exit 0, ⟨[], [], []⟩, mkSh 76 [(3, .var Y_impl_Group .b), (5, .var (.int .i64) .b), (7, .val (.int .i64) .b), (8, .val (.int .i64) .b), (41, .addr ⟨3, [.r, .r, .l], 0, 0⟩), (42, .val S_impl_Row .b), (43, .val (.int .i64) .b), (44, .val (.int .i64) .b), (45, .val S_impl_Row .b), (46, .fn 196 [⟨5, [], 0, 0⟩]), (48, .val S_impl_Row .b), (49, .fn 196 [⟨5, [], 0, 0⟩]), (52, .val .bool .b), (53, .val S_impl_Row .b), (54, .fn 196 [⟨5, [], 0, 0⟩])]⟩, ⟨.ret, ⟨[], [4], []⟩, mkSh 76 [(3, .var Y_impl_Group .b), (5, .var (.int .i64) .b), (7, .val (.int .i64) .b), (8, .val (.int .i64) .b), (41, .addr ⟨3, [.r, .r, .l], 0, 0⟩), (42, .val S_impl_Row .b), (43, .val (.int .i64) .b), (44, .val (.int .i64) .b), (45, .val S_impl_Row .b), (46, .fn 196 [⟨5, [], 0, 0⟩]), (48, .val S_impl_Row .b), (49, .fn 196 [⟨5, [], 0, 0⟩]), (52, .val .bool .b), (53, .val S_impl_Row .b), (54, .fn 196 [⟨5, [], 0, 0⟩]), (61, .val (.int .i64) .b)]⟩]
noncomputable def b_I_Group_runHas_195_2 (t3 : PV Y_impl_Group) (t5 : PV (.int .i64)) (t7 : PV (.int .i64)) (t8 : PV (.int .i64)) (t42 : PV S_impl_Row) (t43 : PV (.int .i64)) (t44 : PV (.int .i64)) (t45 : PV S_impl_Row) (t48 : PV S_impl_Row) (t52 : PV .bool) (t53 : PV S_impl_Row) (t57 : PV S_impl_Row) (t64 : PV (.int .i64)) (t65 : PV (.int .i64)) : Option ((PV Y_impl_Group × PV (.int .i64) × PV (.int .i64) × PV (.int .i64) × PV S_impl_Row × PV (.int .i64) × PV (.int .i64) × PV S_impl_Row × PV S_impl_Row × PV .bool × PV S_impl_Row × PV S_impl_Row × PV (.int .i64) × PV (.int .i64) × Unit) ⊕ ((PV Y_impl_Group × PV (.int .i64) × PV (.int .i64) × PV (.int .i64) × PV S_impl_Row × PV (.int .i64) × PV (.int .i64) × PV S_impl_Row × PV S_impl_Row × PV .bool × PV S_impl_Row × Unit) ⊕ (PV Y_impl_Group × PV (.int .i64) × PV (.int .i64) × PV (.int .i64) × PV S_impl_Row × PV (.int .i64) × PV (.int .i64) × PV S_impl_Row × PV S_impl_Row × PV .bool × PV S_impl_Row × PV (.int .i64) × Unit))) :=
  bif (decide (t65 < t64)) then
    bif inB t65 t57.length then
      bif (((t57.getD t65.toNat (dflt Y_impl_Row)).1) == t5) then
        some (.inr (.inr (t3, t5, t7, t8, t42, t43, t44, t45, t48, t52, t53, t65, ())))
      else
        some (.inl (t3, t5, t7, t8, t42, t43, t44, t45, t48, t52, t53, t57, t64, (IntKind.wrap .i64 (t65 + 1)), ()))
    else
      none
  else
    some (.inr (.inl (t3, t5, t7, t8, t42, t43, t44, t45, t48, t52, t53, ())))
noncomputable def w_I_Group_runHas_195_2 : PV Y_impl_Group × PV (.int .i64) × PV (.int .i64) × PV (.int .i64) × PV S_impl_Row × PV (.int .i64) × PV (.int .i64) × PV S_impl_Row × PV S_impl_Row × PV .bool × PV S_impl_Row × PV S_impl_Row × PV (.int .i64) × PV (.int .i64) × Unit → Option ((PV Y_impl_Group × PV (.int .i64) × PV (.int .i64) × PV (.int .i64) × PV S_impl_Row × PV (.int .i64) × PV (.int .i64) × PV S_impl_Row × PV S_impl_Row × PV .bool × PV S_impl_Row × Unit) ⊕ (PV Y_impl_Group × PV (.int .i64) × PV (.int .i64) × PV (.int .i64) × PV S_impl_Row × PV (.int .i64) × PV (.int .i64) × PV S_impl_Row × PV S_impl_Row × PV .bool × PV S_impl_Row × PV (.int .i64) × Unit)) := fix fun d => b_I_Group_runHas_195_2 d.1 d.2.1 d.2.2.1 d.2.2.2.1 d.2.2.2.2.1 d.2.2.2.2.2.1 d.2.2.2.2.2.2.1 d.2.2.2.2.2.2.2.1 d.2.2.2.2.2.2.2.2.1 d.2.2.2.2.2.2.2.2.2.1 d.2.2.2.2.2.2.2.2.2.2.1 d.2.2.2.2.2.2.2.2.2.2.2.1 d.2.2.2.2.2.2.2.2.2.2.2.2.1 d.2.2.2.2.2.2.2.2.2.2.2.2.2.1
noncomputable def lp_I_Group_runHas_195_2 : Lp := ⟨⟨[], [0, 1, 7, 8], []⟩, sh_I_Group_runHas_195_2, o_I_Group_runHas_195_2, fun d => b_I_Group_runHas_195_2 d.1 d.2.1 d.2.2.1 d.2.2.2.1 d.2.2.2.2.1 d.2.2.2.2.2.1 d.2.2.2.2.2.2.1 d.2.2.2.2.2.2.2.1 d.2.2.2.2.2.2.2.2.1 d.2.2.2.2.2.2.2.2.2.1 d.2.2.2.2.2.2.2.2.2.2.1 d.2.2.2.2.2.2.2.2.2.2.2.1 d.2.2.2.2.2.2.2.2.2.2.2.2.1 d.2.2.2.2.2.2.2.2.2.2.2.2.2.1⟩
noncomputable def pl_I_Group_runHas_195 : Plan := ⟨[], [(2, lp_I_Group_runHas_195_2)], 1, 57⟩
noncomputable def pl_I_Group_runHas_196 : Plan := ⟨[], [], 0, 76⟩
noncomputable def sh_I_Group_runHas_2 : List Sh := mkSh 48 [(3, .var Y_impl_Group .b), (5, .var (.int .i64) .b), (7, .val (.int .i64) .b), (8, .val (.int .i64) .b)]
noncomputable def o_I_Group_runHas_2 : List Out := [⟨.exit 0, ⟨[], [3, 5, 7, 8, 31, 32, 33, 34, 35, 36, 37], []⟩, mkSh 48 [(3, .var Y_impl_Group .b), (5, .var (.int .i64) .b), (7, .val (.int .i64) .b), (8, .val (.int .i64) .b)]⟩]
noncomputable def b_I_Group_runHas_2 (t3 : PV Y_impl_Group) (t5 : PV (.int .i64)) (t7 : PV (.int .i64)) (t8 : PV (.int .i64)) : Option ((PV Y_impl_Group × PV (.int .i64) × PV (.int .i64) × PV (.int .i64) × Unit) ⊕ ((PV Y_impl_Group × PV (.int .i64) × PV (.int .i64) × PV (.int .i64) × Unit))) :=
  bif (decide (t7 > 0)) then
    bif inB (IntKind.wrap .i64 (t7 - 1)) t3.2.2.1.length then
      bif (!(((t3.2.2.1.getD ((IntKind.wrap .i64 (t7 - 1)).toNat) (dflt Y_impl_Row)).1) == 1)) then
        some (.inl (t3, t5, (IntKind.wrap .i64 (t7 - 1)), t8, ()))
      else
        some (.inr (t3, t5, t7, t8, ()))
    else
      none
  else
    some (.inr (t3, t5, t7, t8, ()))
noncomputable def w_I_Group_runHas_2 : PV Y_impl_Group × PV (.int .i64) × PV (.int .i64) × PV (.int .i64) × Unit → Option ((PV Y_impl_Group × PV (.int .i64) × PV (.int .i64) × PV (.int .i64) × Unit)) := fix fun d => b_I_Group_runHas_2 d.1 d.2.1 d.2.2.1 d.2.2.2.1
noncomputable def lp_I_Group_runHas_2 : Lp := ⟨⟨[], [3, 5, 7, 8, 31, 32, 33, 34, 35, 36, 37], []⟩, sh_I_Group_runHas_2, o_I_Group_runHas_2, fun d => b_I_Group_runHas_2 d.1 d.2.1 d.2.2.1 d.2.2.2.1⟩
noncomputable def sh_I_Group_runHas_4 : List Sh := mkSh 48 [(3, .var Y_impl_Group .b), (5, .var (.int .i64) .b), (7, .val (.int .i64) .b), (8, .val (.int .i64) .b)]
noncomputable def o_I_Group_runHas_4 : List Out := [⟨.exit 2, ⟨[], [3, 5, 7, 8], []⟩, mkSh 48 [(3, .var Y_impl_Group .b), (5, .var (.int .i64) .b), (7, .val (.int .i64) .b), (8, .val (.int .i64) .b)]⟩]
noncomputable def b_I_Group_runHas_4 (t3 : PV Y_impl_Group) (t5 : PV (.int .i64)) (t7 : PV (.int .i64)) (t8 : PV (.int .i64)) : Option ((PV Y_impl_Group × PV (.int .i64) × PV (.int .i64) × PV (.int .i64) × Unit) ⊕ ((PV Y_impl_Group × PV (.int .i64) × PV (.int .i64) × PV (.int .i64) × Unit))) :=
  bif (decide (t8 < (t3.2.2.1.length : Int))) then
    bif inB t8 t3.2.2.1.length then
      bif (!(((t3.2.2.1.getD t8.toNat (dflt Y_impl_Row)).1) == 1)) then
        some (.inl (t3, t5, t7, (IntKind.wrap .i64 (t8 + 1)), ()))
      else
        some (.inr (t3, t5, t7, t8, ()))
    else
      none
  else
    some (.inr (t3, t5, t7, t8, ()))
noncomputable def w_I_Group_runHas_4 : PV Y_impl_Group × PV (.int .i64) × PV (.int .i64) × PV (.int .i64) × Unit → Option ((PV Y_impl_Group × PV (.int .i64) × PV (.int .i64) × PV (.int .i64) × Unit)) := fix fun d => b_I_Group_runHas_4 d.1 d.2.1 d.2.2.1 d.2.2.2.1
noncomputable def lp_I_Group_runHas_4 : Lp := ⟨⟨[], [3, 5, 7, 8], []⟩, sh_I_Group_runHas_4, o_I_Group_runHas_4, fun d => b_I_Group_runHas_4 d.1 d.2.1 d.2.2.1 d.2.2.2.1⟩
noncomputable def pl_I_Group_runHas : Plan := ⟨[], [(2, lp_I_Group_runHas_2), (4, lp_I_Group_runHas_4)], 3, 0⟩
noncomputable def f_I_Group_runHas (t0 : PV Y_impl_Group) (t1 : PV (.int .i64)) (t2 : PV (.int .i64)) : Option (PVs [.bool] × PVs []) :=
  (w_I_Group_runHas_2 (t0, t2, t1, t1, ())).bind fun l2 =>
    (w_I_Group_runHas_4 (l2.1, l2.2.1, l2.2.2.1, l2.2.2.2.1, ())).bind fun l4 =>
      bif cutB l4.2.2.1 l4.2.2.2.1 l4.1.2.2.1.length then
        (w_I_Group_runHas_195_2 (l4.1, l4.2.1, l4.2.2.1, l4.2.2.2.1, l4.1.2.2.1, l4.2.2.1, l4.2.2.2.1, (cutL l4.2.2.1 l4.2.2.2.1 l4.1.2.2.1), (cutL l4.2.2.1 l4.2.2.2.1 l4.1.2.2.1), false, (cutL l4.2.2.1 l4.2.2.2.1 l4.1.2.2.1), (cutL l4.2.2.1 l4.2.2.2.1 l4.1.2.2.1), ((cutL l4.2.2.1 l4.2.2.2.1 l4.1.2.2.1).length : Int), 0, ())).bind fun x9 =>
          match x9 with
          | .inl l7 =>
            some (((decide ((-1) ≥ 0)), ()), ())
          | .inr l8 =>
            some (((decide (l8.2.2.2.2.2.2.2.2.2.2.2.1 ≥ 0)), ()), ())
      else
        none
noncomputable def ct_I_Group_runHas : Ct := ⟨[(.bor, Y_impl_Group), (.bor, (.int .i64)), (.bor, (.int .i64))], [(.bool, false)], fun x => f_I_Group_runHas x.1 x.2.1 x.2.2.1⟩
noncomputable def cx_I_Group_runHas : Cx := ⟨tab, arrs, [], [(163, Tryd.f163, pl_I_Group_runHas_163), (195, Tryd.f195, pl_I_Group_runHas_195), (196, Tryd.f196, pl_I_Group_runHas_196)], gl, []⟩
theorem eb_I_Group_runHas_195_2 (t3 : PV Y_impl_Group) (t5 : PV (.int .i64)) (t7 : PV (.int .i64)) (t8 : PV (.int .i64)) (t42 : PV S_impl_Row) (t43 : PV (.int .i64)) (t44 : PV (.int .i64)) (t45 : PV S_impl_Row) (t48 : PV S_impl_Row) (t52 : PV .bool) (t53 : PV S_impl_Row) (t57 : PV S_impl_Row) (t64 : PV (.int .i64)) (t65 : PV (.int .i64)) : denK cx_I_Group_runHas (rcN cx_I_Group_runHas 1) pl_I_Group_runHas_195 57 ((loopsOf (bodyOf Tryd.f195)).getD 0 .skip) (fillS sh_I_Group_runHas_195_2 (t3, t5, t7, t8, t42, t43, t44, t45, t48, t52, t53, t57, t64, t65, ())) (roundK 57 lp_I_Group_runHas_195_2) = b_I_Group_runHas_195_2 t3 t5 t7 t8 t42 t43 t44 t45 t48 t52 t53 t57 t64 t65 := by kernel_rfl
theorem eb_I_Group_runHas_2 (t3 : PV Y_impl_Group) (t5 : PV (.int .i64)) (t7 : PV (.int .i64)) (t8 : PV (.int .i64)) : denK cx_I_Group_runHas (rcN cx_I_Group_runHas 3) pl_I_Group_runHas 0 ((loopsOf (bodyOf Tryd.f165)).getD 0 .skip) (fillS sh_I_Group_runHas_2 (t3, t5, t7, t8, ())) (roundK 0 lp_I_Group_runHas_2) = b_I_Group_runHas_2 t3 t5 t7 t8 := by kernel_rfl
theorem eb_I_Group_runHas_4 (t3 : PV Y_impl_Group) (t5 : PV (.int .i64)) (t7 : PV (.int .i64)) (t8 : PV (.int .i64)) : denK cx_I_Group_runHas (rcN cx_I_Group_runHas 3) pl_I_Group_runHas 0 ((loopsOf (bodyOf Tryd.f165)).getD 1 .skip) (fillS sh_I_Group_runHas_4 (t3, t5, t7, t8, ())) (roundK 0 lp_I_Group_runHas_4) = b_I_Group_runHas_4 t3 t5 t7 t8 := by kernel_rfl
theorem ef_I_Group_runHas (t0 : PV Y_impl_Group) (t1 : PV (.int .i64)) (t2 : PV (.int .i64)) : denF cx_I_Group_runHas 3 pl_I_Group_runHas Tryd.f165.ntmps (bodyOf Tryd.f165) Tryd.f165.results.toList [(.bor, Y_impl_Group), (.bor, (.int .i64)), (.bor, (.int .i64))] [(.bool, false)] (t0, t1, t2, ()) = f_I_Group_runHas t0 t1 t2 := by kernel_rfl
theorem ok_I_Group_runHas : FnOk gl Tryd.prog 165 ct_I_Group_runHas :=
  fnOk (cx := cx_I_Group_runHas) (pl := pl_I_Group_runHas) (dp := 3) (ok0_of tabOk (by unfold ArrOk; kernel_rfl) mix trivial ⟨⟨Tryd.func163, by kernel_rfl, (by rw [show loopsOf (bodyOf Tryd.f163) = [] from by kernel_rfl]; exact trivial)⟩, ⟨Tryd.func195, by kernel_rfl, (by rw [show loopsOf (bodyOf Tryd.f195) = [((loopsOf (bodyOf Tryd.f195)).getD 0 .skip)] from by kernel_rfl]; exact ⟨(by rw [show lookup pl_I_Group_runHas_195.loops (firstId ((loopsOf (bodyOf Tryd.f195)).getD 0 .skip)) = some lp_I_Group_runHas_195_2 from by kernel_rfl]; exact fun d z h => (eb_I_Group_runHas_195_2 d.1 d.2.1 d.2.2.1 d.2.2.2.1 d.2.2.2.2.1 d.2.2.2.2.2.1 d.2.2.2.2.2.2.1 d.2.2.2.2.2.2.2.1 d.2.2.2.2.2.2.2.2.1 d.2.2.2.2.2.2.2.2.2.1 d.2.2.2.2.2.2.2.2.2.2.1 d.2.2.2.2.2.2.2.2.2.2.2.1 d.2.2.2.2.2.2.2.2.2.2.2.2.1 d.2.2.2.2.2.2.2.2.2.2.2.2.2.1).trans h), trivial⟩)⟩, ⟨Tryd.func196, by kernel_rfl, (by rw [show loopsOf (bodyOf Tryd.f196) = [] from by kernel_rfl]; exact trivial)⟩, trivial⟩) Tryd.func165 (by kernel_rfl) (by kernel_rfl) (by kernel_rfl)
    (by rw [show loopsOf (bodyOf Tryd.f165) = [((loopsOf (bodyOf Tryd.f165)).getD 0 .skip), ((loopsOf (bodyOf Tryd.f165)).getD 1 .skip)] from by kernel_rfl]; exact ⟨(by rw [show lookup pl_I_Group_runHas.loops (firstId ((loopsOf (bodyOf Tryd.f165)).getD 0 .skip)) = some lp_I_Group_runHas_2 from by kernel_rfl]; exact fun d z h => (eb_I_Group_runHas_2 d.1 d.2.1 d.2.2.1 d.2.2.2.1).trans h), (by rw [show lookup pl_I_Group_runHas.loops (firstId ((loopsOf (bodyOf Tryd.f165)).getD 1 .skip)) = some lp_I_Group_runHas_4 from by kernel_rfl]; exact fun d z h => (eb_I_Group_runHas_4 d.1 d.2.1 d.2.2.1 d.2.2.2.1).trans h), trivial⟩) (fun x => ef_I_Group_runHas x.1 x.2.1 x.2.2.1)
noncomputable def o_I_Group_half_8 : List Out := [⟨.normal, ⟨[], [1, 2, 5, 7, 9, 10, 11, 29], []⟩, mkSh 46 [(1, .val (.int .i64) .b), (2, .var Y_impl_Group .b), (5, .val .str .b), (7, .var Y_impl_Row .b), (9, .val S_impl_Row .b), (10, .val (.int .i64) .b), (11, .val (.int .i64) .b), (29, .val .bool .b)]⟩]
noncomputable def o_I_Group_half_9 : List Out := [⟨.normal, ⟨[], [1, 2, 5, 9, 10, 11, 34, 35, 36, 37], []⟩, mkSh 46 [(1, .val (.int .i64) .b), (2, .var Y_impl_Group .b), (5, .val .str .b), (9, .val S_impl_Row .b), (10, .val (.int .i64) .b), (11, .val (.int .i64) .b)]⟩]
noncomputable def sh_I_Group_half_3 : List Sh := mkSh 46 [(1, .val (.int .i64) .b), (2, .var Y_impl_Group .b), (5, .val .str .b), (9, .val S_impl_Row .b), (10, .val (.int .i64) .b), (11, .val (.int .i64) .b)]
noncomputable def o_I_Group_half_3 : List Out := [⟨.exit 0, ⟨[], [5], []⟩, mkSh 46 [(5, .val .str .b)]⟩]
noncomputable def b_I_Group_half_3 (t1 : PV (.int .i64)) (t2 : PV Y_impl_Group) (t5 : PV .str) (t9 : PV S_impl_Row) (t10 : PV (.int .i64)) (t11 : PV (.int .i64)) : Option ((PV (.int .i64) × PV Y_impl_Group × PV .str × PV S_impl_Row × PV (.int .i64) × PV (.int .i64) × Unit) ⊕ ((PV .str × Unit))) :=
  bif (decide (t11 < t10)) then
    ((
        bif inB t11 t9.length then
          bif (((t9.getD t11.toNat (dflt Y_impl_Row)).1) == t1) then
            some (t1, t2, t5, t9, t10, t11, ())
          else
            ((
                bif (!(((t9.getD t11.toNat (dflt Y_impl_Row)).1) == 1)) then
                  (f_I_Group_runHas t2 t11 t1).bind fun r1 =>
                    some (t1, t2, t5, (t9.getD t11.toNat (dflt Y_impl_Row)), t9, t10, t11, r1.1.1, ())
                else
                  some (t1, t2, t5, (t9.getD t11.toNat (dflt Y_impl_Row)), t9, t10, t11, false, ()) : Option ((PV (.int .i64) × PV Y_impl_Group × PV .str × PV Y_impl_Row × PV S_impl_Row × PV (.int .i64) × PV (.int .i64) × PV .bool × Unit)))).bind fun j2 =>
              bif j2.2.2.2.2.2.2.2.1 then
                (f_I_shown [33, 32] j2.2.2.2.1.2.1).bind fun r3 =>
                  bif decide (j2.2.2.1.length + r3.1.1.length ≤ 1099511627776) then
                    some (j2.1, j2.2.1, (j2.2.2.1 ++ r3.1.1), j2.2.2.2.2.1, j2.2.2.2.2.2.1, j2.2.2.2.2.2.2.1, ())
                  else
                    none
              else
                (f_I_Row_sign j2.2.2.2.1).bind fun r4 =>
                  bif decide (r4.1.1.length + [32].length ≤ 1099511627776) then
                    (f_I_shown (r4.1.1 ++ [32]) j2.2.2.2.1.2.1).bind fun r5 =>
                      bif decide (j2.2.2.1.length + r5.1.1.length ≤ 1099511627776) then
                        some (j2.1, j2.2.1, (j2.2.2.1 ++ r5.1.1), j2.2.2.2.2.1, j2.2.2.2.2.2.1, j2.2.2.2.2.2.2.1, ())
                      else
                        none
                  else
                    none
        else
          none : Option ((PV (.int .i64) × PV Y_impl_Group × PV .str × PV S_impl_Row × PV (.int .i64) × PV (.int .i64) × Unit)))).bind fun j6 =>
      some (.inl (j6.1, j6.2.1, j6.2.2.1, j6.2.2.2.1, j6.2.2.2.2.1, (IntKind.wrap .i64 (j6.2.2.2.2.2.1 + 1)), ()))
  else
    some (.inr (t5, ()))
noncomputable def w_I_Group_half_3 : PV (.int .i64) × PV Y_impl_Group × PV .str × PV S_impl_Row × PV (.int .i64) × PV (.int .i64) × Unit → Option ((PV .str × Unit)) := fix fun d => b_I_Group_half_3 d.1 d.2.1 d.2.2.1 d.2.2.2.1 d.2.2.2.2.1 d.2.2.2.2.2.1
noncomputable def lp_I_Group_half_3 : Lp := ⟨⟨[], [1, 2, 5, 9, 10, 11, 34, 35, 36, 37], []⟩, sh_I_Group_half_3, o_I_Group_half_3, fun d => b_I_Group_half_3 d.1 d.2.1 d.2.2.1 d.2.2.2.1 d.2.2.2.2.1 d.2.2.2.2.2.1⟩
noncomputable def pl_I_Group_half : Plan := ⟨[(8, o_I_Group_half_8), (9, o_I_Group_half_9)], [(3, lp_I_Group_half_3)], 0, 0⟩
noncomputable def f_I_Group_half (t0 : PV Y_impl_Group) (t1 : PV (.int .i64)) : Option (PVs [.str] × PVs []) :=
  (w_I_Group_half_3 (t1, t0, [], t0.2.2.1, (t0.2.2.1.length : Int), 0, ())).bind fun l8 =>
    some ((l8.1, ()), ())
noncomputable def ct_I_Group_half : Ct := ⟨[(.bor, Y_impl_Group), (.bor, (.int .i64))], [(.str, false)], fun x => f_I_Group_half x.1 x.2.1⟩
noncomputable def cx_I_Group_half : Cx := ⟨tab, arrs, [(157, ct_I_shown), (158, ct_I_Row_sign), (165, ct_I_Group_runHas)], [], gl, []⟩
theorem eb_I_Group_half_3 (t1 : PV (.int .i64)) (t2 : PV Y_impl_Group) (t5 : PV .str) (t9 : PV S_impl_Row) (t10 : PV (.int .i64)) (t11 : PV (.int .i64)) : denK cx_I_Group_half (rcN cx_I_Group_half 0) pl_I_Group_half 0 ((loopsOf (bodyOf Tryd.f124)).getD 0 .skip) (fillS sh_I_Group_half_3 (t1, t2, t5, t9, t10, t11, ())) (roundK 0 lp_I_Group_half_3) = b_I_Group_half_3 t1 t2 t5 t9 t10 t11 := by kernel_rfl
theorem ef_I_Group_half (t0 : PV Y_impl_Group) (t1 : PV (.int .i64)) : denF cx_I_Group_half 0 pl_I_Group_half Tryd.f124.ntmps (bodyOf Tryd.f124) Tryd.f124.results.toList [(.bor, Y_impl_Group), (.bor, (.int .i64))] [(.str, false)] (t0, t1, ()) = f_I_Group_half t0 t1 := by kernel_rfl
theorem ok_I_Group_half : FnOk gl Tryd.prog 124 ct_I_Group_half :=
  fnOk (cx := cx_I_Group_half) (pl := pl_I_Group_half) (dp := 0) (ok0_of tabOk (by unfold ArrOk; kernel_rfl) mix ⟨ok_I_shown, ok_I_Row_sign, ok_I_Group_runHas, trivial⟩ trivial) Tryd.func124 (by kernel_rfl) (by kernel_rfl) (by kernel_rfl)
    (by rw [show loopsOf (bodyOf Tryd.f124) = [((loopsOf (bodyOf Tryd.f124)).getD 0 .skip)] from by kernel_rfl]; exact ⟨(by rw [show lookup pl_I_Group_half.loops (firstId ((loopsOf (bodyOf Tryd.f124)).getD 0 .skip)) = some lp_I_Group_half_3 from by kernel_rfl]; exact fun d z h => (eb_I_Group_half_3 d.1 d.2.1 d.2.2.1 d.2.2.2.1 d.2.2.2.2.1 d.2.2.2.2.2.1).trans h), trivial⟩) (fun x => ef_I_Group_half x.1 x.2.1)
end R
