/- The functions, part 2. -/
import Derived.Test.YthcnbokoghjkjaaPaM1
open Go Go.Dn Go.Proofs
namespace R
set_option linter.unusedVariables false
set_option maxRecDepth 20000
open Go.Shelf
noncomputable def o_I_partsOf_178_52_1 : List Out := [⟨.normal, ⟨[], [0, 1, 2, 3, 4, 5, 6, 7, 8, 9, 25], [32, 38, 46, 50]⟩, mkSh 171 [(3, .var S_string .b), (4, .var S_string .b), (5, .var S_string .b), (7, .var S_impl_Part (.row (.pr .b (.pr .b (.pr .b (.pr (.row .b) (.pr (.row .b) .b))))))), (8, .val S_int (.row .b)), (9, .val S_int (.row .b)), (10, .var (.int .i64) .b), (11, .var (.int .i64) .b), (12, .var (.int .i64) .b), (13, .fn 178 [⟨10, [], 0, 0⟩, ⟨11, [], 0, 0⟩, ⟨12, [], 0, 0⟩, ⟨7, [], 0, 0⟩, ⟨3, [], 0, 0⟩, ⟨4, [], 0, 0⟩, ⟨5, [], 0, 0⟩]), (14, .val (.int .i64) .b), (24, .val (.int .i64) .b), (25, .val S_string .b), (26, .val (.int .i64) .b), (27, .val .bool .b), (30, .sub ⟨8, [], 0, 0⟩), (31, .val (.int .i64) .b), (33, .val (.int .i64) .b), (34, .val .bool .b), (35, .val .bool .b), (36, .sub ⟨9, [], 0, 0⟩), (37, .val (.int .i64) .b), (39, .val (.int .i64) .b), (40, .val .bool .b), (41, .val .bool .b), (42, .fn 178 [⟨10, [], 0, 0⟩, ⟨11, [], 0, 0⟩, ⟨12, [], 0, 0⟩, ⟨7, [], 0, 0⟩, ⟨3, [], 0, 0⟩, ⟨4, [], 0, 0⟩, ⟨5, [], 0, 0⟩]), (43, .val (.int .i64) .b), (44, .sub ⟨8, [], 0, 0⟩), (45, .val (.int .i64) .b), (47, .val (.int .i64) .b), (48, .sub ⟨9, [], 0, 0⟩), (49, .val (.int .i64) .b), (51, .val (.int .i64) .b), (113, .val (.int .i64) .b), (114, .val (.int .i64) .b), (115, .val (.int .i64) .b), (116, .addr ⟨10, [], 0, 0⟩), (117, .addr ⟨11, [], 0, 0⟩), (118, .addr ⟨12, [], 0, 0⟩), (119, .addr ⟨7, [], 0, 0⟩), (120, .addr ⟨3, [], 0, 0⟩), (121, .addr ⟨4, [], 0, 0⟩), (122, .addr ⟨5, [], 0, 0⟩), (138, .val .bool .b)]⟩]
noncomputable def o_I_partsOf_178_52_2 : List Out := [⟨.normal, ⟨[], [0, 1, 2, 3, 4, 5], []⟩, mkSh 171 [(3, .var S_string .b), (4, .var S_string .b), (5, .var S_string .b), (7, .var S_impl_Part (.row (.pr .b (.pr .b (.pr .b (.pr (.row .b) (.pr (.row .b) .b))))))), (8, .val S_int (.row .b)), (9, .val S_int (.row .b)), (10, .var (.int .i64) .b), (11, .var (.int .i64) .b), (12, .var (.int .i64) .b), (13, .fn 178 [⟨10, [], 0, 0⟩, ⟨11, [], 0, 0⟩, ⟨12, [], 0, 0⟩, ⟨7, [], 0, 0⟩, ⟨3, [], 0, 0⟩, ⟨4, [], 0, 0⟩, ⟨5, [], 0, 0⟩]), (14, .val (.int .i64) .b), (24, .val (.int .i64) .b), (25, .val S_string .b), (26, .val (.int .i64) .b), (27, .val .bool .b), (30, .sub ⟨8, [], 0, 0⟩), (31, .val (.int .i64) .b), (33, .val (.int .i64) .b), (34, .val .bool .b), (35, .val .bool .b), (36, .sub ⟨9, [], 0, 0⟩), (37, .val (.int .i64) .b), (39, .val (.int .i64) .b), (40, .val .bool .b), (41, .val .bool .b), (42, .fn 178 [⟨10, [], 0, 0⟩, ⟨11, [], 0, 0⟩, ⟨12, [], 0, 0⟩, ⟨7, [], 0, 0⟩, ⟨3, [], 0, 0⟩, ⟨4, [], 0, 0⟩, ⟨5, [], 0, 0⟩]), (43, .val (.int .i64) .b), (44, .sub ⟨8, [], 0, 0⟩), (45, .val (.int .i64) .b), (47, .val (.int .i64) .b), (48, .sub ⟨9, [], 0, 0⟩), (49, .val (.int .i64) .b), (51, .val (.int .i64) .b), (113, .val (.int .i64) .b), (114, .val (.int .i64) .b), (115, .val (.int .i64) .b), (116, .addr ⟨10, [], 0, 0⟩), (117, .addr ⟨11, [], 0, 0⟩), (118, .addr ⟨12, [], 0, 0⟩)]⟩]
noncomputable def o_I_partsOf_178_101_1 : List Out := [⟨.normal, ⟨[], [0, 1, 2, 3, 4, 5, 6, 7, 8, 9, 25], [92, 98]⟩, mkSh 171 [(3, .var S_string .b), (4, .var S_string .b), (5, .var S_string .b), (7, .var S_impl_Part (.row (.pr .b (.pr .b (.pr .b (.pr (.row .b) (.pr (.row .b) .b))))))), (8, .val S_int (.row .b)), (9, .val S_int (.row .b)), (10, .var (.int .i64) .b), (11, .var (.int .i64) .b), (12, .var (.int .i64) .b), (13, .fn 178 [⟨10, [], 0, 0⟩, ⟨11, [], 0, 0⟩, ⟨12, [], 0, 0⟩, ⟨7, [], 0, 0⟩, ⟨3, [], 0, 0⟩, ⟨4, [], 0, 0⟩, ⟨5, [], 0, 0⟩]), (15, .val (.int .i64) .b), (36, .sub ⟨9, [], 0, 0⟩), (37, .val (.int .i64) .b), (39, .val (.int .i64) .b), (40, .val .bool .b), (87, .fn 178 [⟨10, [], 0, 0⟩, ⟨11, [], 0, 0⟩, ⟨12, [], 0, 0⟩, ⟨7, [], 0, 0⟩, ⟨3, [], 0, 0⟩, ⟨4, [], 0, 0⟩, ⟨5, [], 0, 0⟩]), (88, .val (.int .i64) .b), (89, .sub ⟨8, [], 0, 0⟩), (90, .val (.int .i64) .b), (91, .val (.int .i64) .b), (93, .val (.int .i64) .b), (94, .val (.int .i64) .b), (95, .sub ⟨9, [], 0, 0⟩), (96, .val (.int .i64) .b), (97, .val (.int .i64) .b), (99, .val (.int .i64) .b), (100, .val (.int .i64) .b), (113, .val (.int .i64) .b), (114, .val (.int .i64) .b), (115, .val (.int .i64) .b), (116, .addr ⟨10, [], 0, 0⟩), (117, .addr ⟨11, [], 0, 0⟩), (118, .addr ⟨12, [], 0, 0⟩), (119, .addr ⟨7, [], 0, 0⟩), (120, .addr ⟨3, [], 0, 0⟩), (121, .addr ⟨4, [], 0, 0⟩), (122, .addr ⟨5, [], 0, 0⟩), (138, .val .bool .b)]⟩]
noncomputable def o_I_partsOf_178_101_2 : List Out := [⟨.normal, ⟨[], [0, 1, 2, 3, 4, 5], []⟩, mkSh 171 [(3, .var S_string .b), (4, .var S_string .b), (5, .var S_string .b), (7, .var S_impl_Part (.row (.pr .b (.pr .b (.pr .b (.pr (.row .b) (.pr (.row .b) .b))))))), (8, .val S_int (.row .b)), (9, .val S_int (.row .b)), (10, .var (.int .i64) .b), (11, .var (.int .i64) .b), (12, .var (.int .i64) .b), (13, .fn 178 [⟨10, [], 0, 0⟩, ⟨11, [], 0, 0⟩, ⟨12, [], 0, 0⟩, ⟨7, [], 0, 0⟩, ⟨3, [], 0, 0⟩, ⟨4, [], 0, 0⟩, ⟨5, [], 0, 0⟩]), (15, .val (.int .i64) .b), (36, .sub ⟨9, [], 0, 0⟩), (37, .val (.int .i64) .b), (39, .val (.int .i64) .b), (40, .val .bool .b), (87, .fn 178 [⟨10, [], 0, 0⟩, ⟨11, [], 0, 0⟩, ⟨12, [], 0, 0⟩, ⟨7, [], 0, 0⟩, ⟨3, [], 0, 0⟩, ⟨4, [], 0, 0⟩, ⟨5, [], 0, 0⟩]), (88, .val (.int .i64) .b), (89, .sub ⟨8, [], 0, 0⟩), (90, .val (.int .i64) .b), (91, .val (.int .i64) .b), (93, .val (.int .i64) .b), (94, .val (.int .i64) .b), (95, .sub ⟨9, [], 0, 0⟩), (96, .val (.int .i64) .b), (97, .val (.int .i64) .b), (99, .val (.int .i64) .b), (100, .val (.int .i64) .b), (113, .val (.int .i64) .b), (114, .val (.int .i64) .b), (115, .val (.int .i64) .b), (116, .addr ⟨10, [], 0, 0⟩), (117, .addr ⟨11, [], 0, 0⟩), (118, .addr ⟨12, [], 0, 0⟩)]⟩]
noncomputable def o_I_partsOf_178_111_1 : List Out := [⟨.normal, ⟨[], [0, 1, 2, 3, 4, 5, 6, 7, 8, 9, 25], []⟩, mkSh 171 [(3, .var S_string .b), (4, .var S_string .b), (5, .var S_string .b), (7, .var S_impl_Part (.row (.pr .b (.pr .b (.pr .b (.pr (.row .b) (.pr (.row .b) .b))))))), (10, .var (.int .i64) .b), (11, .var (.int .i64) .b), (12, .var (.int .i64) .b), (13, .fn 178 [⟨10, [], 0, 0⟩, ⟨11, [], 0, 0⟩, ⟨12, [], 0, 0⟩, ⟨7, [], 0, 0⟩, ⟨3, [], 0, 0⟩, ⟨4, [], 0, 0⟩, ⟨5, [], 0, 0⟩]), (104, .fn 178 [⟨10, [], 0, 0⟩, ⟨11, [], 0, 0⟩, ⟨12, [], 0, 0⟩, ⟨7, [], 0, 0⟩, ⟨3, [], 0, 0⟩, ⟨4, [], 0, 0⟩, ⟨5, [], 0, 0⟩]), (105, .val S_string .b), (106, .val (.int .i64) .b), (107, .val S_string .b), (108, .val (.int .i64) .b), (109, .val S_string .b), (110, .val (.int .i64) .b), (113, .val (.int .i64) .b), (114, .val (.int .i64) .b), (115, .val (.int .i64) .b), (116, .addr ⟨10, [], 0, 0⟩), (117, .addr ⟨11, [], 0, 0⟩), (118, .addr ⟨12, [], 0, 0⟩), (119, .addr ⟨7, [], 0, 0⟩), (120, .addr ⟨3, [], 0, 0⟩), (121, .addr ⟨4, [], 0, 0⟩), (122, .addr ⟨5, [], 0, 0⟩), (138, .val .bool .b)]⟩]
noncomputable def o_I_partsOf_178_111_2 : List Out := [⟨.normal, ⟨[], [0, 1, 2, 3, 4, 5], []⟩, mkSh 171 [(3, .var S_string .b), (4, .var S_string .b), (5, .var S_string .b), (7, .var S_impl_Part (.row (.pr .b (.pr .b (.pr .b (.pr (.row .b) (.pr (.row .b) .b))))))), (10, .var (.int .i64) .b), (11, .var (.int .i64) .b), (12, .var (.int .i64) .b), (13, .fn 178 [⟨10, [], 0, 0⟩, ⟨11, [], 0, 0⟩, ⟨12, [], 0, 0⟩, ⟨7, [], 0, 0⟩, ⟨3, [], 0, 0⟩, ⟨4, [], 0, 0⟩, ⟨5, [], 0, 0⟩]), (104, .fn 178 [⟨10, [], 0, 0⟩, ⟨11, [], 0, 0⟩, ⟨12, [], 0, 0⟩, ⟨7, [], 0, 0⟩, ⟨3, [], 0, 0⟩, ⟨4, [], 0, 0⟩, ⟨5, [], 0, 0⟩]), (105, .val S_string .b), (106, .val (.int .i64) .b), (107, .val S_string .b), (108, .val (.int .i64) .b), (109, .val S_string .b), (110, .val (.int .i64) .b), (113, .val (.int .i64) .b), (114, .val (.int .i64) .b), (115, .val (.int .i64) .b), (116, .addr ⟨10, [], 0, 0⟩), (117, .addr ⟨11, [], 0, 0⟩), (118, .addr ⟨12, [], 0, 0⟩)]⟩]
noncomputable def o_I_partsOf_6 : List Out := [⟨.normal, ⟨[], [3, 4, 5, 7, 8, 9, 10, 11, 12, 13, 14, 60, 61, 62, 63, 64, 65, 66, 67, 68, 69, 70, 73, 74, 75, 76, 77, 78, 79, 80, 81, 82, 83], []⟩, mkSh 113 [(3, .var S_string .b), (4, .var S_string .b), (5, .var S_string .b), (7, .var S_impl_Part (.row (.pr .b (.pr .b (.pr .b (.pr (.row .b) (.pr (.row .b) .b))))))), (8, .val S_int (.row .b)), (9, .val S_int (.row .b)), (10, .var (.int .i64) .b), (11, .var (.int .i64) .b), (12, .var (.int .i64) .b), (13, .fn 178 [⟨10, [], 0, 0⟩, ⟨11, [], 0, 0⟩, ⟨12, [], 0, 0⟩, ⟨7, [], 0, 0⟩, ⟨3, [], 0, 0⟩, ⟨4, [], 0, 0⟩, ⟨5, [], 0, 0⟩]), (14, .val (.int .i64) .b)]⟩]
noncomputable def pl_I_partsOf_178_52 : Plan := ⟨[(1, o_I_partsOf_178_52_1), (2, o_I_partsOf_178_52_2)], [], 0, 113⟩
noncomputable def pl_I_partsOf_178_101 : Plan := ⟨[(1, o_I_partsOf_178_101_1), (2, o_I_partsOf_178_101_2)], [], 0, 113⟩
noncomputable def pl_I_partsOf_178_111 : Plan := ⟨[(1, o_I_partsOf_178_111_1), (2, o_I_partsOf_178_111_2)], [], 0, 113⟩
noncomputable def sh_I_partsOf_10 : List Sh := mkSh 113 [(3, .var S_string .b), (4, .var S_string .b), (5, .var S_string .b), (7, .var S_impl_Part (.row (.pr .b (.pr .b (.pr .b (.pr (.row .b) (.pr (.row .b) .b))))))), (8, .val S_int (.row .b)), (9, .val S_int (.row .b)), (10, .var (.int .i64) .b), (11, .var (.int .i64) .b), (12, .var (.int .i64) .b), (13, .fn 178 [⟨10, [], 0, 0⟩, ⟨11, [], 0, 0⟩, ⟨12, [], 0, 0⟩, ⟨7, [], 0, 0⟩, ⟨3, [], 0, 0⟩, ⟨4, [], 0, 0⟩, ⟨5, [], 0, 0⟩]), (15, .val (.int .i64) .b), (36, .sub ⟨9, [], 0, 0⟩), (37, .val (.int .i64) .b), (39, .val (.int .i64) .b), (40, .val .bool .b)]
noncomputable def o_I_partsOf_10 : List Out := [⟨.exit 2, ⟨[], [3, 4, 5, 7, 8, 9, 10, 11, 12, 13, 15, 36, 37, 38, 39, 40], []⟩, mkSh 113 [(3, .var S_string .b), (4, .var S_string .b), (5, .var S_string .b), (7, .var S_impl_Part (.row (.pr .b (.pr .b (.pr .b (.pr (.row .b) (.pr (.row .b) .b))))))), (8, .val S_int (.row .b)), (9, .val S_int (.row .b)), (10, .var (.int .i64) .b), (11, .var (.int .i64) .b), (12, .var (.int .i64) .b), (13, .fn 178 [⟨10, [], 0, 0⟩, ⟨11, [], 0, 0⟩, ⟨12, [], 0, 0⟩, ⟨7, [], 0, 0⟩, ⟨3, [], 0, 0⟩, ⟨4, [], 0, 0⟩, ⟨5, [], 0, 0⟩]), (15, .val (.int .i64) .b), (36, .sub ⟨9, [], 0, 0⟩), (37, .val (.int .i64) .b), (39, .val (.int .i64) .b), (40, .val .bool .b)]⟩]
noncomputable def b_I_partsOf_10 (t3 : PV S_string) (t4 : PV S_string) (t5 : PV S_string) (t7 : PV S_impl_Part) (t8 : PV S_int) (t9 : PV S_int) (t10 : PV (.int .i64)) (t11 : PV (.int .i64)) (t12 : PV (.int .i64)) (t15 : PV (.int .i64)) (t37 : PV (.int .i64)) (t39 : PV (.int .i64)) (t40 : PV .bool) : Option ((PV S_string × PV S_string × PV S_string × PV S_impl_Part × PV S_int × PV S_int × PV (.int .i64) × PV (.int .i64) × PV (.int .i64) × PV (.int .i64) × PV (.int .i64) × PV (.int .i64) × PV .bool × Unit) ⊕ ((PV S_string × PV S_string × PV S_string × PV S_impl_Part × PV S_int × PV S_int × PV (.int .i64) × PV (.int .i64) × PV (.int .i64) × PV (.int .i64) × PV (.int .i64) × PV (.int .i64) × PV .bool × Unit))) :=
  bif (decide (t15 < (t3.length : Int))) then
    bif inB t15 t8.length then
      bif inB (IntKind.wrap .i64 (t15 - 1)) t8.length then
        bif ((t8.getD t15.toNat (0 : Int)) == (IntKind.wrap .i64 ((t8.getD ((IntKind.wrap .i64 (t15 - 1)).toNat) (0 : Int)) + 1))) then
          bif inB t15 t9.length then
            bif inB (IntKind.wrap .i64 (t15 - 1)) t9.length then
              bif ((t9.getD t15.toNat (0 : Int)) == (IntKind.wrap .i64 ((t9.getD ((IntKind.wrap .i64 (t15 - 1)).toNat) (0 : Int)) + 1))) then
                some (.inl (t3, t4, t5, t7, t8, t9, t10, t11, t12, (IntKind.wrap .i64 (t15 + 1)), t37, t39, t40, ()))
              else
                some (.inr (t3, t4, t5, t7, t8, t9, t10, t11, t12, t15, t37, t39, t40, ()))
            else
              none
          else
            none
        else
          some (.inr (t3, t4, t5, t7, t8, t9, t10, t11, t12, t15, t37, t39, t40, ()))
      else
        none
    else
      none
  else
    some (.inr (t3, t4, t5, t7, t8, t9, t10, t11, t12, t15, t37, t39, t40, ()))
noncomputable def w_I_partsOf_10 : PV S_string × PV S_string × PV S_string × PV S_impl_Part × PV S_int × PV S_int × PV (.int .i64) × PV (.int .i64) × PV (.int .i64) × PV (.int .i64) × PV (.int .i64) × PV (.int .i64) × PV .bool × Unit → Option ((PV S_string × PV S_string × PV S_string × PV S_impl_Part × PV S_int × PV S_int × PV (.int .i64) × PV (.int .i64) × PV (.int .i64) × PV (.int .i64) × PV (.int .i64) × PV (.int .i64) × PV .bool × Unit)) := fix fun d => b_I_partsOf_10 d.1 d.2.1 d.2.2.1 d.2.2.2.1 d.2.2.2.2.1 d.2.2.2.2.2.1 d.2.2.2.2.2.2.1 d.2.2.2.2.2.2.2.1 d.2.2.2.2.2.2.2.2.1 d.2.2.2.2.2.2.2.2.2.1 d.2.2.2.2.2.2.2.2.2.2.1 d.2.2.2.2.2.2.2.2.2.2.2.1 d.2.2.2.2.2.2.2.2.2.2.2.2.1
noncomputable def lp_I_partsOf_10 : Lp := ⟨⟨[], [3, 4, 5, 7, 8, 9, 10, 11, 12, 13, 15, 36, 37, 38, 39, 40], []⟩, sh_I_partsOf_10, o_I_partsOf_10, fun d => b_I_partsOf_10 d.1 d.2.1 d.2.2.1 d.2.2.2.1 d.2.2.2.2.1 d.2.2.2.2.2.1 d.2.2.2.2.2.2.1 d.2.2.2.2.2.2.2.1 d.2.2.2.2.2.2.2.2.1 d.2.2.2.2.2.2.2.2.2.1 d.2.2.2.2.2.2.2.2.2.2.1 d.2.2.2.2.2.2.2.2.2.2.2.1 d.2.2.2.2.2.2.2.2.2.2.2.2.1⟩
noncomputable def sh_I_partsOf_5 : List Sh := mkSh 113 [(3, .var S_string .b), (4, .var S_string .b), (5, .var S_string .b), (7, .var S_impl_Part (.row (.pr .b (.pr .b (.pr .b (.pr (.row .b) (.pr (.row .b) .b))))))), (8, .val S_int (.row .b)), (9, .val S_int (.row .b)), (10, .var (.int .i64) .b), (11, .var (.int .i64) .b), (12, .var (.int .i64) .b), (13, .fn 178 [⟨10, [], 0, 0⟩, ⟨11, [], 0, 0⟩, ⟨12, [], 0, 0⟩, ⟨7, [], 0, 0⟩, ⟨3, [], 0, 0⟩, ⟨4, [], 0, 0⟩, ⟨5, [], 0, 0⟩]), (14, .val (.int .i64) .b)]
noncomputable def o_I_partsOf_5 : List Out := [⟨.exit 0, ⟨[], [3, 4, 5, 7, 10, 11, 12, 13], []⟩, mkSh 113 [(3, .var S_string .b), (4, .var S_string .b), (5, .var S_string .b), (7, .var S_impl_Part (.row (.pr .b (.pr .b (.pr .b (.pr (.row .b) (.pr (.row .b) .b))))))), (10, .var (.int .i64) .b), (11, .var (.int .i64) .b), (12, .var (.int .i64) .b), (13, .fn 178 [⟨10, [], 0, 0⟩, ⟨11, [], 0, 0⟩, ⟨12, [], 0, 0⟩, ⟨7, [], 0, 0⟩, ⟨3, [], 0, 0⟩, ⟨4, [], 0, 0⟩, ⟨5, [], 0, 0⟩])]⟩]
noncomputable def b_I_partsOf_5 (t3 : PV S_string) (t4 : PV S_string) (t5 : PV S_string) (t7 : PV S_impl_Part) (t8 : PV S_int) (t9 : PV S_int) (t10 : PV (.int .i64)) (t11 : PV (.int .i64)) (t12 : PV (.int .i64)) (t14 : PV (.int .i64)) : Option ((PV S_string × PV S_string × PV S_string × PV S_impl_Part × PV S_int × PV S_int × PV (.int .i64) × PV (.int .i64) × PV (.int .i64) × PV (.int .i64) × Unit) ⊕ ((PV S_string × PV S_string × PV S_string × PV S_impl_Part × PV (.int .i64) × PV (.int .i64) × PV (.int .i64) × Unit))) :=
  bif (decide (t14 < (t3.length : Int))) then
    ((
        bif inB t14 t8.length then
          bif (decide ((t8.getD t14.toNat (0 : Int)) < 0)) then
            some (t3, t4, t5, t7, t8, t9, t10, t11, t12, t14, ())
          else
            bif inB t14 t9.length then
              bif (decide ((t9.getD t14.toNat (0 : Int)) < 0)) then
                some (t3, t4, t5, t7, t8, t9, t10, t11, t12, t14, ())
              else
                bif inB t14 t8.length then
                  bif inB t14 t9.length then
                    ((
                        ((
                            bif (decide (t14 > t10)) then
                              some (t3, t4, t5, t7, t8, t9, t10, t11, t12, t14, t14, t3, (t3.length : Int), (decide (t14 < (t3.length : Int))), t14, (t8.getD t14.toNat (0 : Int)), (decide ((t8.getD t14.toNat (0 : Int)) < 0)), false, t14, (t9.getD t14.toNat (0 : Int)), (decide ((t9.getD t14.toNat (0 : Int)) < 0)), (decide ((t9.getD t14.toNat (0 : Int)) < 0)), t14, t14, (t8.getD t14.toNat (0 : Int)), t14, (t9.getD t14.toNat (0 : Int)), t14, (t8.getD t14.toNat (0 : Int)), (t9.getD t14.toNat (0 : Int)), true, ())
                            else
                              bif (decide ((t8.getD t14.toNat (0 : Int)) > t11)) then
                                some (t3, t4, t5, t7, t8, t9, t10, t11, t12, t14, t14, t3, (t3.length : Int), (decide (t14 < (t3.length : Int))), t14, (t8.getD t14.toNat (0 : Int)), (decide ((t8.getD t14.toNat (0 : Int)) < 0)), false, t14, (t9.getD t14.toNat (0 : Int)), (decide ((t9.getD t14.toNat (0 : Int)) < 0)), (decide ((t9.getD t14.toNat (0 : Int)) < 0)), t14, t14, (t8.getD t14.toNat (0 : Int)), t14, (t9.getD t14.toNat (0 : Int)), t14, (t8.getD t14.toNat (0 : Int)), (t9.getD t14.toNat (0 : Int)), true, ())
                              else
                                some (t3, t4, t5, t7, t8, t9, t10, t11, t12, t14, t14, t3, (t3.length : Int), (decide (t14 < (t3.length : Int))), t14, (t8.getD t14.toNat (0 : Int)), (decide ((t8.getD t14.toNat (0 : Int)) < 0)), false, t14, (t9.getD t14.toNat (0 : Int)), (decide ((t9.getD t14.toNat (0 : Int)) < 0)), (decide ((t9.getD t14.toNat (0 : Int)) < 0)), t14, t14, (t8.getD t14.toNat (0 : Int)), t14, (t9.getD t14.toNat (0 : Int)), t14, (t8.getD t14.toNat (0 : Int)), (t9.getD t14.toNat (0 : Int)), (decide ((t9.getD t14.toNat (0 : Int)) > t12)), ()) : Option ((PV S_string × PV S_string × PV S_string × PV S_impl_Part × PV S_int × PV S_int × PV (.int .i64) × PV (.int .i64) × PV (.int .i64) × PV (.int .i64) × PV (.int .i64) × PV S_string × PV (.int .i64) × PV .bool × PV (.int .i64) × PV (.int .i64) × PV .bool × PV .bool × PV (.int .i64) × PV (.int .i64) × PV .bool × PV .bool × PV (.int .i64) × PV (.int .i64) × PV (.int .i64) × PV (.int .i64) × PV (.int .i64) × PV (.int .i64) × PV (.int .i64) × PV (.int .i64) × PV .bool × Unit)))).bind fun j10 =>
                          bif j10.2.2.2.2.2.2.2.2.2.2.2.2.2.2.2.2.2.2.2.2.2.2.2.2.2.2.2.2.2.2.1 then
                            bif cutB j10.2.2.2.2.2.2.1 j10.2.2.2.2.2.2.2.2.2.2.2.2.2.2.2.2.2.2.2.2.2.2.2.2.2.2.2.1 j10.1.length then
                              bif cutB j10.2.2.2.2.2.2.2.1 j10.2.2.2.2.2.2.2.2.2.2.2.2.2.2.2.2.2.2.2.2.2.2.2.2.2.2.2.2.1 j10.2.1.length then
                                bif cutB j10.2.2.2.2.2.2.2.2.1 j10.2.2.2.2.2.2.2.2.2.2.2.2.2.2.2.2.2.2.2.2.2.2.2.2.2.2.2.2.2.1 j10.2.2.1.length then
                                  (f_I_kindOf (cutL j10.2.2.2.2.2.2.1 j10.2.2.2.2.2.2.2.2.2.2.2.2.2.2.2.2.2.2.2.2.2.2.2.2.2.2.2.1 j10.1) (cutL j10.2.2.2.2.2.2.2.1 j10.2.2.2.2.2.2.2.2.2.2.2.2.2.2.2.2.2.2.2.2.2.2.2.2.2.2.2.2.1 j10.2.1) (cutL j10.2.2.2.2.2.2.2.2.1 j10.2.2.2.2.2.2.2.2.2.2.2.2.2.2.2.2.2.2.2.2.2.2.2.2.2.2.2.2.2.1 j10.2.2.1)).bind fun r11 =>
                                    bif cutB j10.2.2.2.2.2.2.2.1 j10.2.2.2.2.2.2.2.2.2.2.2.2.2.2.2.2.2.2.2.2.2.2.2.2.2.2.2.2.1 j10.2.1.length then
                                      (f_slices_Clone_string (cutL j10.2.2.2.2.2.2.2.1 j10.2.2.2.2.2.2.2.2.2.2.2.2.2.2.2.2.2.2.2.2.2.2.2.2.2.2.2.2.1 j10.2.1)).bind fun r12 =>
                                        bif cutB j10.2.2.2.2.2.2.2.2.1 j10.2.2.2.2.2.2.2.2.2.2.2.2.2.2.2.2.2.2.2.2.2.2.2.2.2.2.2.2.2.1 j10.2.2.1.length then
                                          (f_slices_Clone_string (cutL j10.2.2.2.2.2.2.2.2.1 j10.2.2.2.2.2.2.2.2.2.2.2.2.2.2.2.2.2.2.2.2.2.2.2.2.2.2.2.2.2.1 j10.2.2.1)).bind fun r13 =>
                                            bif roomB (j10.2.2.2.1.length + [(r11.1.1, (j10.2.2.2.2.2.2.1, (j10.2.2.2.2.2.2.2.2.2.2.2.2.2.2.2.2.2.2.2.2.2.2.2.2.2.2.2.1, (r12.1.1, (r13.1.1, ())))))].length) then
                                              some (j10.1, j10.2.1, j10.2.2.1, (j10.2.2.2.1 ++ [(r11.1.1, (j10.2.2.2.2.2.2.1, (j10.2.2.2.2.2.2.2.2.2.2.2.2.2.2.2.2.2.2.2.2.2.2.2.2.2.2.2.1, (r12.1.1, (r13.1.1, ())))))]), j10.2.2.2.2.1, j10.2.2.2.2.2.1, j10.2.2.2.2.2.2.1, j10.2.2.2.2.2.2.2.1, j10.2.2.2.2.2.2.2.2.1, j10.2.2.2.2.2.2.2.2.2.1, j10.2.2.2.2.2.2.2.2.2.2.1, j10.2.2.2.2.2.2.2.2.2.2.2.1, j10.2.2.2.2.2.2.2.2.2.2.2.2.1, j10.2.2.2.2.2.2.2.2.2.2.2.2.2.1, j10.2.2.2.2.2.2.2.2.2.2.2.2.2.2.1, j10.2.2.2.2.2.2.2.2.2.2.2.2.2.2.2.1, j10.2.2.2.2.2.2.2.2.2.2.2.2.2.2.2.2.1, j10.2.2.2.2.2.2.2.2.2.2.2.2.2.2.2.2.2.1, j10.2.2.2.2.2.2.2.2.2.2.2.2.2.2.2.2.2.2.1, j10.2.2.2.2.2.2.2.2.2.2.2.2.2.2.2.2.2.2.2.1, j10.2.2.2.2.2.2.2.2.2.2.2.2.2.2.2.2.2.2.2.2.1, j10.2.2.2.2.2.2.2.2.2.2.2.2.2.2.2.2.2.2.2.2.2.1, j10.2.2.2.2.2.2.2.2.2.2.2.2.2.2.2.2.2.2.2.2.2.2.1, j10.2.2.2.2.2.2.2.2.2.2.2.2.2.2.2.2.2.2.2.2.2.2.2.1, j10.2.2.2.2.2.2.2.2.2.2.2.2.2.2.2.2.2.2.2.2.2.2.2.2.1, j10.2.2.2.2.2.2.2.2.2.2.2.2.2.2.2.2.2.2.2.2.2.2.2.2.2.1, j10.2.2.2.2.2.2.2.2.2.2.2.2.2.2.2.2.2.2.2.2.2.2.2.2.2.2.1, j10.2.2.2.2.2.2.2.2.2.2.2.2.2.2.2.2.2.2.2.2.2.2.2.2.2.2.2.1, j10.2.2.2.2.2.2.2.2.2.2.2.2.2.2.2.2.2.2.2.2.2.2.2.2.2.2.2.2.1, j10.2.2.2.2.2.2.2.2.2.2.2.2.2.2.2.2.2.2.2.2.2.2.2.2.2.2.2.2.2.1, ())
                                            else
                                              none
                                        else
                                          none
                                    else
                                      none
                                else
                                  none
                              else
                                none
                            else
                              none
                          else
                            some (j10.1, j10.2.1, j10.2.2.1, j10.2.2.2.1, j10.2.2.2.2.1, j10.2.2.2.2.2.1, j10.2.2.2.2.2.2.1, j10.2.2.2.2.2.2.2.1, j10.2.2.2.2.2.2.2.2.1, j10.2.2.2.2.2.2.2.2.2.1, j10.2.2.2.2.2.2.2.2.2.2.1, j10.2.2.2.2.2.2.2.2.2.2.2.1, j10.2.2.2.2.2.2.2.2.2.2.2.2.1, j10.2.2.2.2.2.2.2.2.2.2.2.2.2.1, j10.2.2.2.2.2.2.2.2.2.2.2.2.2.2.1, j10.2.2.2.2.2.2.2.2.2.2.2.2.2.2.2.1, j10.2.2.2.2.2.2.2.2.2.2.2.2.2.2.2.2.1, j10.2.2.2.2.2.2.2.2.2.2.2.2.2.2.2.2.2.1, j10.2.2.2.2.2.2.2.2.2.2.2.2.2.2.2.2.2.2.1, j10.2.2.2.2.2.2.2.2.2.2.2.2.2.2.2.2.2.2.2.1, j10.2.2.2.2.2.2.2.2.2.2.2.2.2.2.2.2.2.2.2.2.1, j10.2.2.2.2.2.2.2.2.2.2.2.2.2.2.2.2.2.2.2.2.2.1, j10.2.2.2.2.2.2.2.2.2.2.2.2.2.2.2.2.2.2.2.2.2.2.1, j10.2.2.2.2.2.2.2.2.2.2.2.2.2.2.2.2.2.2.2.2.2.2.2.1, j10.2.2.2.2.2.2.2.2.2.2.2.2.2.2.2.2.2.2.2.2.2.2.2.2.1, j10.2.2.2.2.2.2.2.2.2.2.2.2.2.2.2.2.2.2.2.2.2.2.2.2.2.1, j10.2.2.2.2.2.2.2.2.2.2.2.2.2.2.2.2.2.2.2.2.2.2.2.2.2.2.1, j10.2.2.2.2.2.2.2.2.2.2.2.2.2.2.2.2.2.2.2.2.2.2.2.2.2.2.2.1, j10.2.2.2.2.2.2.2.2.2.2.2.2.2.2.2.2.2.2.2.2.2.2.2.2.2.2.2.2.1, j10.2.2.2.2.2.2.2.2.2.2.2.2.2.2.2.2.2.2.2.2.2.2.2.2.2.2.2.2.2.1, ()) : Option ((PV S_string × PV S_string × PV S_string × PV S_impl_Part × PV S_int × PV S_int × PV (.int .i64) × PV (.int .i64) × PV (.int .i64) × PV (.int .i64) × PV (.int .i64) × PV S_string × PV (.int .i64) × PV .bool × PV (.int .i64) × PV (.int .i64) × PV .bool × PV .bool × PV (.int .i64) × PV (.int .i64) × PV .bool × PV .bool × PV (.int .i64) × PV (.int .i64) × PV (.int .i64) × PV (.int .i64) × PV (.int .i64) × PV (.int .i64) × PV (.int .i64) × PV (.int .i64) × Unit)))).bind fun j14 =>
                      (w_I_partsOf_10 (j14.1, j14.2.1, j14.2.2.1, j14.2.2.2.1, j14.2.2.2.2.1, j14.2.2.2.2.2.1, j14.2.2.2.2.2.2.2.2.2.2.2.2.2.2.2.2.2.2.2.2.2.2.2.2.2.2.2.1, j14.2.2.2.2.2.2.2.2.2.2.2.2.2.2.2.2.2.2.2.2.2.2.2.2.2.2.2.2.1, j14.2.2.2.2.2.2.2.2.2.2.2.2.2.2.2.2.2.2.2.2.2.2.2.2.2.2.2.2.2.1, (IntKind.wrap .i64 (j14.2.2.2.2.2.2.2.2.2.1 + 1)), j14.2.2.2.2.2.2.2.2.2.2.2.2.2.2.2.2.2.2.1, j14.2.2.2.2.2.2.2.2.2.2.2.2.2.2.2.2.2.2.2.1, j14.2.2.2.2.2.2.2.2.2.2.2.2.2.2.2.2.2.2.2.2.1, ())).bind fun l16 =>
                        bif inB (IntKind.wrap .i64 (l16.2.2.2.2.2.2.2.2.2.1 - 1)) l16.2.2.2.2.1.length then
                          bif inB (IntKind.wrap .i64 (l16.2.2.2.2.2.2.2.2.2.1 - 1)) l16.2.2.2.2.2.1.length then
                            ((
                                ((
                                    bif (decide (l16.2.2.2.2.2.2.2.2.2.1 > l16.2.2.2.2.2.2.1)) then
                                      some (l16.1, l16.2.1, l16.2.2.1, l16.2.2.2.1, l16.2.2.2.2.1, l16.2.2.2.2.2.1, l16.2.2.2.2.2.2.1, l16.2.2.2.2.2.2.2.1, l16.2.2.2.2.2.2.2.2.1, l16.2.2.2.2.2.2.2.2.2.1, l16.2.2.2.2.2.2.2.2.2.2.1, l16.2.2.2.2.2.2.2.2.2.2.2.1, l16.2.2.2.2.2.2.2.2.2.2.2.2.1, l16.2.2.2.2.2.2.2.2.2.1, l16.2.2.2.2.2.2.2.2.2.1, (IntKind.wrap .i64 (l16.2.2.2.2.2.2.2.2.2.1 - 1)), (l16.2.2.2.2.1.getD ((IntKind.wrap .i64 (l16.2.2.2.2.2.2.2.2.2.1 - 1)).toNat) (0 : Int)), (IntKind.wrap .i64 ((l16.2.2.2.2.1.getD ((IntKind.wrap .i64 (l16.2.2.2.2.2.2.2.2.2.1 - 1)).toNat) (0 : Int)) + 1)), l16.2.2.2.2.2.2.2.2.2.1, (IntKind.wrap .i64 (l16.2.2.2.2.2.2.2.2.2.1 - 1)), (l16.2.2.2.2.2.1.getD ((IntKind.wrap .i64 (l16.2.2.2.2.2.2.2.2.2.1 - 1)).toNat) (0 : Int)), (IntKind.wrap .i64 ((l16.2.2.2.2.2.1.getD ((IntKind.wrap .i64 (l16.2.2.2.2.2.2.2.2.2.1 - 1)).toNat) (0 : Int)) + 1)), l16.2.2.2.2.2.2.2.2.2.1, (IntKind.wrap .i64 ((l16.2.2.2.2.1.getD ((IntKind.wrap .i64 (l16.2.2.2.2.2.2.2.2.2.1 - 1)).toNat) (0 : Int)) + 1)), (IntKind.wrap .i64 ((l16.2.2.2.2.2.1.getD ((IntKind.wrap .i64 (l16.2.2.2.2.2.2.2.2.2.1 - 1)).toNat) (0 : Int)) + 1)), true, ())
                                    else
                                      bif (decide ((IntKind.wrap .i64 ((l16.2.2.2.2.1.getD ((IntKind.wrap .i64 (l16.2.2.2.2.2.2.2.2.2.1 - 1)).toNat) (0 : Int)) + 1)) > l16.2.2.2.2.2.2.2.1)) then
                                        some (l16.1, l16.2.1, l16.2.2.1, l16.2.2.2.1, l16.2.2.2.2.1, l16.2.2.2.2.2.1, l16.2.2.2.2.2.2.1, l16.2.2.2.2.2.2.2.1, l16.2.2.2.2.2.2.2.2.1, l16.2.2.2.2.2.2.2.2.2.1, l16.2.2.2.2.2.2.2.2.2.2.1, l16.2.2.2.2.2.2.2.2.2.2.2.1, l16.2.2.2.2.2.2.2.2.2.2.2.2.1, l16.2.2.2.2.2.2.2.2.2.1, l16.2.2.2.2.2.2.2.2.2.1, (IntKind.wrap .i64 (l16.2.2.2.2.2.2.2.2.2.1 - 1)), (l16.2.2.2.2.1.getD ((IntKind.wrap .i64 (l16.2.2.2.2.2.2.2.2.2.1 - 1)).toNat) (0 : Int)), (IntKind.wrap .i64 ((l16.2.2.2.2.1.getD ((IntKind.wrap .i64 (l16.2.2.2.2.2.2.2.2.2.1 - 1)).toNat) (0 : Int)) + 1)), l16.2.2.2.2.2.2.2.2.2.1, (IntKind.wrap .i64 (l16.2.2.2.2.2.2.2.2.2.1 - 1)), (l16.2.2.2.2.2.1.getD ((IntKind.wrap .i64 (l16.2.2.2.2.2.2.2.2.2.1 - 1)).toNat) (0 : Int)), (IntKind.wrap .i64 ((l16.2.2.2.2.2.1.getD ((IntKind.wrap .i64 (l16.2.2.2.2.2.2.2.2.2.1 - 1)).toNat) (0 : Int)) + 1)), l16.2.2.2.2.2.2.2.2.2.1, (IntKind.wrap .i64 ((l16.2.2.2.2.1.getD ((IntKind.wrap .i64 (l16.2.2.2.2.2.2.2.2.2.1 - 1)).toNat) (0 : Int)) + 1)), (IntKind.wrap .i64 ((l16.2.2.2.2.2.1.getD ((IntKind.wrap .i64 (l16.2.2.2.2.2.2.2.2.2.1 - 1)).toNat) (0 : Int)) + 1)), true, ())
                                      else
                                        some (l16.1, l16.2.1, l16.2.2.1, l16.2.2.2.1, l16.2.2.2.2.1, l16.2.2.2.2.2.1, l16.2.2.2.2.2.2.1, l16.2.2.2.2.2.2.2.1, l16.2.2.2.2.2.2.2.2.1, l16.2.2.2.2.2.2.2.2.2.1, l16.2.2.2.2.2.2.2.2.2.2.1, l16.2.2.2.2.2.2.2.2.2.2.2.1, l16.2.2.2.2.2.2.2.2.2.2.2.2.1, l16.2.2.2.2.2.2.2.2.2.1, l16.2.2.2.2.2.2.2.2.2.1, (IntKind.wrap .i64 (l16.2.2.2.2.2.2.2.2.2.1 - 1)), (l16.2.2.2.2.1.getD ((IntKind.wrap .i64 (l16.2.2.2.2.2.2.2.2.2.1 - 1)).toNat) (0 : Int)), (IntKind.wrap .i64 ((l16.2.2.2.2.1.getD ((IntKind.wrap .i64 (l16.2.2.2.2.2.2.2.2.2.1 - 1)).toNat) (0 : Int)) + 1)), l16.2.2.2.2.2.2.2.2.2.1, (IntKind.wrap .i64 (l16.2.2.2.2.2.2.2.2.2.1 - 1)), (l16.2.2.2.2.2.1.getD ((IntKind.wrap .i64 (l16.2.2.2.2.2.2.2.2.2.1 - 1)).toNat) (0 : Int)), (IntKind.wrap .i64 ((l16.2.2.2.2.2.1.getD ((IntKind.wrap .i64 (l16.2.2.2.2.2.2.2.2.2.1 - 1)).toNat) (0 : Int)) + 1)), l16.2.2.2.2.2.2.2.2.2.1, (IntKind.wrap .i64 ((l16.2.2.2.2.1.getD ((IntKind.wrap .i64 (l16.2.2.2.2.2.2.2.2.2.1 - 1)).toNat) (0 : Int)) + 1)), (IntKind.wrap .i64 ((l16.2.2.2.2.2.1.getD ((IntKind.wrap .i64 (l16.2.2.2.2.2.2.2.2.2.1 - 1)).toNat) (0 : Int)) + 1)), (decide ((IntKind.wrap .i64 ((l16.2.2.2.2.2.1.getD ((IntKind.wrap .i64 (l16.2.2.2.2.2.2.2.2.2.1 - 1)).toNat) (0 : Int)) + 1)) > l16.2.2.2.2.2.2.2.2.1)), ()) : Option ((PV S_string × PV S_string × PV S_string × PV S_impl_Part × PV S_int × PV S_int × PV (.int .i64) × PV (.int .i64) × PV (.int .i64) × PV (.int .i64) × PV (.int .i64) × PV (.int .i64) × PV .bool × PV (.int .i64) × PV (.int .i64) × PV (.int .i64) × PV (.int .i64) × PV (.int .i64) × PV (.int .i64) × PV (.int .i64) × PV (.int .i64) × PV (.int .i64) × PV (.int .i64) × PV (.int .i64) × PV (.int .i64) × PV .bool × Unit)))).bind fun j22 =>
                                  bif j22.2.2.2.2.2.2.2.2.2.2.2.2.2.2.2.2.2.2.2.2.2.2.2.2.2.1 then
                                    bif cutB j22.2.2.2.2.2.2.1 j22.2.2.2.2.2.2.2.2.2.2.2.2.2.2.2.2.2.2.2.2.2.2.1 j22.1.length then
                                      bif cutB j22.2.2.2.2.2.2.2.1 j22.2.2.2.2.2.2.2.2.2.2.2.2.2.2.2.2.2.2.2.2.2.2.2.1 j22.2.1.length then
                                        bif cutB j22.2.2.2.2.2.2.2.2.1 j22.2.2.2.2.2.2.2.2.2.2.2.2.2.2.2.2.2.2.2.2.2.2.2.2.1 j22.2.2.1.length then
                                          (f_I_kindOf (cutL j22.2.2.2.2.2.2.1 j22.2.2.2.2.2.2.2.2.2.2.2.2.2.2.2.2.2.2.2.2.2.2.1 j22.1) (cutL j22.2.2.2.2.2.2.2.1 j22.2.2.2.2.2.2.2.2.2.2.2.2.2.2.2.2.2.2.2.2.2.2.2.1 j22.2.1) (cutL j22.2.2.2.2.2.2.2.2.1 j22.2.2.2.2.2.2.2.2.2.2.2.2.2.2.2.2.2.2.2.2.2.2.2.2.1 j22.2.2.1)).bind fun r23 =>
                                            bif cutB j22.2.2.2.2.2.2.2.1 j22.2.2.2.2.2.2.2.2.2.2.2.2.2.2.2.2.2.2.2.2.2.2.2.1 j22.2.1.length then
                                              (f_slices_Clone_string (cutL j22.2.2.2.2.2.2.2.1 j22.2.2.2.2.2.2.2.2.2.2.2.2.2.2.2.2.2.2.2.2.2.2.2.1 j22.2.1)).bind fun r24 =>
                                                bif cutB j22.2.2.2.2.2.2.2.2.1 j22.2.2.2.2.2.2.2.2.2.2.2.2.2.2.2.2.2.2.2.2.2.2.2.2.1 j22.2.2.1.length then
                                                  (f_slices_Clone_string (cutL j22.2.2.2.2.2.2.2.2.1 j22.2.2.2.2.2.2.2.2.2.2.2.2.2.2.2.2.2.2.2.2.2.2.2.2.1 j22.2.2.1)).bind fun r25 =>
                                                    bif roomB (j22.2.2.2.1.length + [(r23.1.1, (j22.2.2.2.2.2.2.1, (j22.2.2.2.2.2.2.2.2.2.2.2.2.2.2.2.2.2.2.2.2.2.2.1, (r24.1.1, (r25.1.1, ())))))].length) then
                                                      some (j22.1, j22.2.1, j22.2.2.1, (j22.2.2.2.1 ++ [(r23.1.1, (j22.2.2.2.2.2.2.1, (j22.2.2.2.2.2.2.2.2.2.2.2.2.2.2.2.2.2.2.2.2.2.2.1, (r24.1.1, (r25.1.1, ())))))]), j22.2.2.2.2.1, j22.2.2.2.2.2.1, j22.2.2.2.2.2.2.1, j22.2.2.2.2.2.2.2.1, j22.2.2.2.2.2.2.2.2.1, j22.2.2.2.2.2.2.2.2.2.1, j22.2.2.2.2.2.2.2.2.2.2.1, j22.2.2.2.2.2.2.2.2.2.2.2.1, j22.2.2.2.2.2.2.2.2.2.2.2.2.1, j22.2.2.2.2.2.2.2.2.2.2.2.2.2.1, j22.2.2.2.2.2.2.2.2.2.2.2.2.2.2.1, j22.2.2.2.2.2.2.2.2.2.2.2.2.2.2.2.1, j22.2.2.2.2.2.2.2.2.2.2.2.2.2.2.2.2.1, j22.2.2.2.2.2.2.2.2.2.2.2.2.2.2.2.2.2.1, j22.2.2.2.2.2.2.2.2.2.2.2.2.2.2.2.2.2.2.1, j22.2.2.2.2.2.2.2.2.2.2.2.2.2.2.2.2.2.2.2.1, j22.2.2.2.2.2.2.2.2.2.2.2.2.2.2.2.2.2.2.2.2.1, j22.2.2.2.2.2.2.2.2.2.2.2.2.2.2.2.2.2.2.2.2.2.1, j22.2.2.2.2.2.2.2.2.2.2.2.2.2.2.2.2.2.2.2.2.2.2.1, j22.2.2.2.2.2.2.2.2.2.2.2.2.2.2.2.2.2.2.2.2.2.2.2.1, j22.2.2.2.2.2.2.2.2.2.2.2.2.2.2.2.2.2.2.2.2.2.2.2.2.1, ())
                                                    else
                                                      none
                                                else
                                                  none
                                            else
                                              none
                                        else
                                          none
                                      else
                                        none
                                    else
                                      none
                                  else
                                    some (j22.1, j22.2.1, j22.2.2.1, j22.2.2.2.1, j22.2.2.2.2.1, j22.2.2.2.2.2.1, j22.2.2.2.2.2.2.1, j22.2.2.2.2.2.2.2.1, j22.2.2.2.2.2.2.2.2.1, j22.2.2.2.2.2.2.2.2.2.1, j22.2.2.2.2.2.2.2.2.2.2.1, j22.2.2.2.2.2.2.2.2.2.2.2.1, j22.2.2.2.2.2.2.2.2.2.2.2.2.1, j22.2.2.2.2.2.2.2.2.2.2.2.2.2.1, j22.2.2.2.2.2.2.2.2.2.2.2.2.2.2.1, j22.2.2.2.2.2.2.2.2.2.2.2.2.2.2.2.1, j22.2.2.2.2.2.2.2.2.2.2.2.2.2.2.2.2.1, j22.2.2.2.2.2.2.2.2.2.2.2.2.2.2.2.2.2.1, j22.2.2.2.2.2.2.2.2.2.2.2.2.2.2.2.2.2.2.1, j22.2.2.2.2.2.2.2.2.2.2.2.2.2.2.2.2.2.2.2.1, j22.2.2.2.2.2.2.2.2.2.2.2.2.2.2.2.2.2.2.2.2.1, j22.2.2.2.2.2.2.2.2.2.2.2.2.2.2.2.2.2.2.2.2.2.1, j22.2.2.2.2.2.2.2.2.2.2.2.2.2.2.2.2.2.2.2.2.2.2.1, j22.2.2.2.2.2.2.2.2.2.2.2.2.2.2.2.2.2.2.2.2.2.2.2.1, j22.2.2.2.2.2.2.2.2.2.2.2.2.2.2.2.2.2.2.2.2.2.2.2.2.1, ()) : Option ((PV S_string × PV S_string × PV S_string × PV S_impl_Part × PV S_int × PV S_int × PV (.int .i64) × PV (.int .i64) × PV (.int .i64) × PV (.int .i64) × PV (.int .i64) × PV (.int .i64) × PV .bool × PV (.int .i64) × PV (.int .i64) × PV (.int .i64) × PV (.int .i64) × PV (.int .i64) × PV (.int .i64) × PV (.int .i64) × PV (.int .i64) × PV (.int .i64) × PV (.int .i64) × PV (.int .i64) × PV (.int .i64) × Unit)))).bind fun j26 =>
                              some (j26.1, j26.2.1, j26.2.2.1, j26.2.2.2.1, j26.2.2.2.2.1, j26.2.2.2.2.2.1, j26.2.2.2.2.2.2.2.2.2.2.2.2.2.2.2.2.2.2.2.2.2.2.1, j26.2.2.2.2.2.2.2.2.2.2.2.2.2.2.2.2.2.2.2.2.2.2.2.1, j26.2.2.2.2.2.2.2.2.2.2.2.2.2.2.2.2.2.2.2.2.2.2.2.2.1, (IntKind.wrap .i64 (j26.2.2.2.2.2.2.2.2.2.1 - 1)), ())
                          else
                            none
                        else
                          none
                  else
                    none
                else
                  none
            else
              none
        else
          none : Option ((PV S_string × PV S_string × PV S_string × PV S_impl_Part × PV S_int × PV S_int × PV (.int .i64) × PV (.int .i64) × PV (.int .i64) × PV (.int .i64) × Unit)))).bind fun j27 =>
      some (.inl (j27.1, j27.2.1, j27.2.2.1, j27.2.2.2.1, j27.2.2.2.2.1, j27.2.2.2.2.2.1, j27.2.2.2.2.2.2.1, j27.2.2.2.2.2.2.2.1, j27.2.2.2.2.2.2.2.2.1, (IntKind.wrap .i64 (j27.2.2.2.2.2.2.2.2.2.1 + 1)), ()))
  else
    some (.inr (t3, t4, t5, t7, t10, t11, t12, ()))
noncomputable def w_I_partsOf_5 : PV S_string × PV S_string × PV S_string × PV S_impl_Part × PV S_int × PV S_int × PV (.int .i64) × PV (.int .i64) × PV (.int .i64) × PV (.int .i64) × Unit → Option ((PV S_string × PV S_string × PV S_string × PV S_impl_Part × PV (.int .i64) × PV (.int .i64) × PV (.int .i64) × Unit)) := fix fun d => b_I_partsOf_5 d.1 d.2.1 d.2.2.1 d.2.2.2.1 d.2.2.2.2.1 d.2.2.2.2.2.1 d.2.2.2.2.2.2.1 d.2.2.2.2.2.2.2.1 d.2.2.2.2.2.2.2.2.1 d.2.2.2.2.2.2.2.2.2.1
noncomputable def lp_I_partsOf_5 : Lp := ⟨⟨[], [3, 4, 5, 7, 8, 9, 10, 11, 12, 13, 14, 36, 37, 38, 39, 40, 60, 61, 62, 63, 64, 65, 66, 67, 68, 69, 70, 73, 74, 75, 76, 77, 78, 79, 80, 81, 82, 83], []⟩, sh_I_partsOf_5, o_I_partsOf_5, fun d => b_I_partsOf_5 d.1 d.2.1 d.2.2.1 d.2.2.2.1 d.2.2.2.2.1 d.2.2.2.2.2.1 d.2.2.2.2.2.2.1 d.2.2.2.2.2.2.2.1 d.2.2.2.2.2.2.2.2.1 d.2.2.2.2.2.2.2.2.2.1⟩
noncomputable def pl_I_partsOf : Plan := ⟨[(6, o_I_partsOf_6)], [(10, lp_I_partsOf_10), (5, lp_I_partsOf_5)], 1, 0⟩
noncomputable def f_I_partsOf (t0 : PV S_string) (t1 : PV S_string) (t2 : PV S_string) : Option (PVs [S_impl_Part] × PVs []) :=
  (f_I_mates t0 t1).bind fun r3 =>
    (f_I_mates t0 t2).bind fun r4 =>
      (w_I_partsOf_5 (t0, t1, t2, ([] : PV S_impl_Part), r3.1.1, r4.1.1, 0, 0, 0, 0, ())).bind fun l29 =>
        ((
            ((
                bif (decide ((l29.1.length : Int) > l29.2.2.2.2.1)) then
                  some (l29.1, l29.2.1, l29.2.2.1, l29.2.2.2.1, l29.2.2.2.2.1, l29.2.2.2.2.2.1, l29.2.2.2.2.2.2.1, l29.1, (l29.1.length : Int), l29.2.1, (l29.2.1.length : Int), l29.2.2.1, (l29.2.2.1.length : Int), (l29.1.length : Int), (l29.2.1.length : Int), (l29.2.2.1.length : Int), true, ())
                else
                  bif (decide ((l29.2.1.length : Int) > l29.2.2.2.2.2.1)) then
                    some (l29.1, l29.2.1, l29.2.2.1, l29.2.2.2.1, l29.2.2.2.2.1, l29.2.2.2.2.2.1, l29.2.2.2.2.2.2.1, l29.1, (l29.1.length : Int), l29.2.1, (l29.2.1.length : Int), l29.2.2.1, (l29.2.2.1.length : Int), (l29.1.length : Int), (l29.2.1.length : Int), (l29.2.2.1.length : Int), true, ())
                  else
                    some (l29.1, l29.2.1, l29.2.2.1, l29.2.2.2.1, l29.2.2.2.2.1, l29.2.2.2.2.2.1, l29.2.2.2.2.2.2.1, l29.1, (l29.1.length : Int), l29.2.1, (l29.2.1.length : Int), l29.2.2.1, (l29.2.2.1.length : Int), (l29.1.length : Int), (l29.2.1.length : Int), (l29.2.2.1.length : Int), (decide ((l29.2.2.1.length : Int) > l29.2.2.2.2.2.2.1)), ()) : Option ((PV S_string × PV S_string × PV S_string × PV S_impl_Part × PV (.int .i64) × PV (.int .i64) × PV (.int .i64) × PV S_string × PV (.int .i64) × PV S_string × PV (.int .i64) × PV S_string × PV (.int .i64) × PV (.int .i64) × PV (.int .i64) × PV (.int .i64) × PV .bool × Unit)))).bind fun j39 =>
              bif j39.2.2.2.2.2.2.2.2.2.2.2.2.2.2.2.2.1 then
                bif cutB j39.2.2.2.2.1 j39.2.2.2.2.2.2.2.2.2.2.2.2.2.1 j39.1.length then
                  bif cutB j39.2.2.2.2.2.1 j39.2.2.2.2.2.2.2.2.2.2.2.2.2.2.1 j39.2.1.length then
                    bif cutB j39.2.2.2.2.2.2.1 j39.2.2.2.2.2.2.2.2.2.2.2.2.2.2.2.1 j39.2.2.1.length then
                      (f_I_kindOf (cutL j39.2.2.2.2.1 j39.2.2.2.2.2.2.2.2.2.2.2.2.2.1 j39.1) (cutL j39.2.2.2.2.2.1 j39.2.2.2.2.2.2.2.2.2.2.2.2.2.2.1 j39.2.1) (cutL j39.2.2.2.2.2.2.1 j39.2.2.2.2.2.2.2.2.2.2.2.2.2.2.2.1 j39.2.2.1)).bind fun r40 =>
                        bif cutB j39.2.2.2.2.2.1 j39.2.2.2.2.2.2.2.2.2.2.2.2.2.2.1 j39.2.1.length then
                          (f_slices_Clone_string (cutL j39.2.2.2.2.2.1 j39.2.2.2.2.2.2.2.2.2.2.2.2.2.2.1 j39.2.1)).bind fun r41 =>
                            bif cutB j39.2.2.2.2.2.2.1 j39.2.2.2.2.2.2.2.2.2.2.2.2.2.2.2.1 j39.2.2.1.length then
                              (f_slices_Clone_string (cutL j39.2.2.2.2.2.2.1 j39.2.2.2.2.2.2.2.2.2.2.2.2.2.2.2.1 j39.2.2.1)).bind fun r42 =>
                                bif roomB (j39.2.2.2.1.length + [(r40.1.1, (j39.2.2.2.2.1, (j39.2.2.2.2.2.2.2.2.2.2.2.2.2.1, (r41.1.1, (r42.1.1, ())))))].length) then
                                  some (j39.1, j39.2.1, j39.2.2.1, (j39.2.2.2.1 ++ [(r40.1.1, (j39.2.2.2.2.1, (j39.2.2.2.2.2.2.2.2.2.2.2.2.2.1, (r41.1.1, (r42.1.1, ())))))]), j39.2.2.2.2.1, j39.2.2.2.2.2.1, j39.2.2.2.2.2.2.1, j39.2.2.2.2.2.2.2.1, j39.2.2.2.2.2.2.2.2.1, j39.2.2.2.2.2.2.2.2.2.1, j39.2.2.2.2.2.2.2.2.2.2.1, j39.2.2.2.2.2.2.2.2.2.2.2.1, j39.2.2.2.2.2.2.2.2.2.2.2.2.1, j39.2.2.2.2.2.2.2.2.2.2.2.2.2.1, j39.2.2.2.2.2.2.2.2.2.2.2.2.2.2.1, j39.2.2.2.2.2.2.2.2.2.2.2.2.2.2.2.1, ())
                                else
                                  none
                            else
                              none
                        else
                          none
                    else
                      none
                  else
                    none
                else
                  none
              else
                some (j39.1, j39.2.1, j39.2.2.1, j39.2.2.2.1, j39.2.2.2.2.1, j39.2.2.2.2.2.1, j39.2.2.2.2.2.2.1, j39.2.2.2.2.2.2.2.1, j39.2.2.2.2.2.2.2.2.1, j39.2.2.2.2.2.2.2.2.2.1, j39.2.2.2.2.2.2.2.2.2.2.1, j39.2.2.2.2.2.2.2.2.2.2.2.1, j39.2.2.2.2.2.2.2.2.2.2.2.2.1, j39.2.2.2.2.2.2.2.2.2.2.2.2.2.1, j39.2.2.2.2.2.2.2.2.2.2.2.2.2.2.1, j39.2.2.2.2.2.2.2.2.2.2.2.2.2.2.2.1, ()) : Option ((PV S_string × PV S_string × PV S_string × PV S_impl_Part × PV (.int .i64) × PV (.int .i64) × PV (.int .i64) × PV S_string × PV (.int .i64) × PV S_string × PV (.int .i64) × PV S_string × PV (.int .i64) × PV (.int .i64) × PV (.int .i64) × PV (.int .i64) × Unit)))).bind fun j43 =>
          some ((j43.2.2.2.1, ()), ())
noncomputable def ct_I_partsOf : Ct := ⟨[(.bor, S_string), (.bor, S_string), (.bor, S_string)], [(S_impl_Part, (.row (.pr .b (.pr .b (.pr .b (.pr (.row .b) (.pr (.row .b) .b)))))))], fun x => f_I_partsOf x.1 x.2.1 x.2.2.1⟩
noncomputable def cx_I_partsOf : Cx := ⟨tab, arrs, [(144, ct_slices_Clone_string), (168, ct_I_mates), (179, ct_I_kindOf)], [], gl, [(52, 178, Try.f178, pl_I_partsOf_178_52), (101, 178, Try.f178, pl_I_partsOf_178_101), (111, 178, Try.f178, pl_I_partsOf_178_111)]⟩
theorem eb_I_partsOf_5 (t3 : PV S_string) (t4 : PV S_string) (t5 : PV S_string) (t7 : PV S_impl_Part) (t8 : PV S_int) (t9 : PV S_int) (t10 : PV (.int .i64)) (t11 : PV (.int .i64)) (t12 : PV (.int .i64)) (t14 : PV (.int .i64)) : denK cx_I_partsOf (rcN cx_I_partsOf 1) pl_I_partsOf 0 ((loopsOf (bodyOf Try.f130)).getD 0 .skip) (fillS sh_I_partsOf_5 (t3, t4, t5, t7, t8, t9, t10, t11, t12, t14, ())) (roundK 0 lp_I_partsOf_5) = b_I_partsOf_5 t3 t4 t5 t7 t8 t9 t10 t11 t12 t14 := by kernel_rfl
theorem eb_I_partsOf_10 (t3 : PV S_string) (t4 : PV S_string) (t5 : PV S_string) (t7 : PV S_impl_Part) (t8 : PV S_int) (t9 : PV S_int) (t10 : PV (.int .i64)) (t11 : PV (.int .i64)) (t12 : PV (.int .i64)) (t15 : PV (.int .i64)) (t37 : PV (.int .i64)) (t39 : PV (.int .i64)) (t40 : PV .bool) : denK cx_I_partsOf (rcN cx_I_partsOf 1) pl_I_partsOf 0 ((loopsOf (bodyOf Try.f130)).getD 1 .skip) (fillS sh_I_partsOf_10 (t3, t4, t5, t7, t8, t9, t10, t11, t12, t15, t37, t39, t40, ())) (roundK 0 lp_I_partsOf_10) = b_I_partsOf_10 t3 t4 t5 t7 t8 t9 t10 t11 t12 t15 t37 t39 t40 := by kernel_rfl
theorem ef_I_partsOf (t0 : PV S_string) (t1 : PV S_string) (t2 : PV S_string) : denF cx_I_partsOf 1 pl_I_partsOf Try.f130.ntmps (bodyOf Try.f130) Try.f130.results.toList [(.bor, S_string), (.bor, S_string), (.bor, S_string)] [(S_impl_Part, (.row (.pr .b (.pr .b (.pr .b (.pr (.row .b) (.pr (.row .b) .b)))))))] (t0, t1, t2, ()) = f_I_partsOf t0 t1 t2 := by kernel_rfl
theorem ok_I_partsOf : FnOk gl Try.prog 130 ct_I_partsOf :=
  fnOk (cx := cx_I_partsOf) (pl := pl_I_partsOf) (dp := 1) (ok0_of tabOk (by unfold ArrOk; kernel_rfl) mix ⟨ok_slices_Clone_string, ok_I_mates, ok_I_kindOf, trivial⟩ trivial (hsi := ⟨⟨Try.func178, by kernel_rfl, (by rw [show loopsOf (bodyOf Try.f178) = [] from by kernel_rfl]; exact trivial)⟩, ⟨Try.func178, by kernel_rfl, (by rw [show loopsOf (bodyOf Try.f178) = [] from by kernel_rfl]; exact trivial)⟩, ⟨Try.func178, by kernel_rfl, (by rw [show loopsOf (bodyOf Try.f178) = [] from by kernel_rfl]; exact trivial)⟩, trivial⟩)) Try.func130 (by kernel_rfl) (by kernel_rfl) (by kernel_rfl)
    (by rw [show loopsOf (bodyOf Try.f130) = [((loopsOf (bodyOf Try.f130)).getD 0 .skip), ((loopsOf (bodyOf Try.f130)).getD 1 .skip)] from by kernel_rfl]; exact ⟨(by rw [show lookup pl_I_partsOf.loops (firstId ((loopsOf (bodyOf Try.f130)).getD 0 .skip)) = some lp_I_partsOf_5 from by kernel_rfl]; exact fun d z h => (eb_I_partsOf_5 d.1 d.2.1 d.2.2.1 d.2.2.2.1 d.2.2.2.2.1 d.2.2.2.2.2.1 d.2.2.2.2.2.2.1 d.2.2.2.2.2.2.2.1 d.2.2.2.2.2.2.2.2.1 d.2.2.2.2.2.2.2.2.2.1).trans h), (by rw [show lookup pl_I_partsOf.loops (firstId ((loopsOf (bodyOf Try.f130)).getD 1 .skip)) = some lp_I_partsOf_10 from by kernel_rfl]; exact fun d z h => (eb_I_partsOf_10 d.1 d.2.1 d.2.2.1 d.2.2.2.1 d.2.2.2.2.1 d.2.2.2.2.2.1 d.2.2.2.2.2.2.1 d.2.2.2.2.2.2.2.1 d.2.2.2.2.2.2.2.2.1 d.2.2.2.2.2.2.2.2.2.1 d.2.2.2.2.2.2.2.2.2.2.1 d.2.2.2.2.2.2.2.2.2.2.2.1 d.2.2.2.2.2.2.2.2.2.2.2.2.1).trans h), trivial⟩) (fun x => ef_I_partsOf x.1 x.2.1 x.2.2.1)
noncomputable def o_I_PartsOf_2 : List Out := [⟨.normal, ⟨[], [0, 1, 2, 20], []⟩, mkSh 25 [(0, .val S_string .b), (1, .val S_string .b), (2, .val S_string .b), (20, .val .bool .b)]⟩]
noncomputable def pl_I_PartsOf : Plan := ⟨[(2, o_I_PartsOf_2)], [], 0, 0⟩
noncomputable def f_I_PartsOf (t0 : PV S_string) (t1 : PV S_string) (t2 : PV S_string) : Option (PVs [S_impl_Part, .bool] × PVs []) :=
  ((
      (f_I_goodLines t0).bind fun r8 =>
        bif (!r8.1.1) then
          some (t0, t1, t2, true, ())
        else
          (f_I_goodLines t1).bind fun r9 =>
            bif (!r9.1.1) then
              some (t0, t1, t2, true, ())
            else
              (f_I_goodLines t2).bind fun r10 =>
                some (t0, t1, t2, (!r10.1.1), ()) : Option ((PV S_string × PV S_string × PV S_string × PV .bool × Unit)))).bind fun j11 =>
    bif j11.2.2.2.1 then
      some (([], false, ()), ())
    else
      (f_I_partsOf j11.1 j11.2.1 j11.2.2.1).bind fun r12 =>
        some ((r12.1.1, true, ()), ())
noncomputable def ct_I_PartsOf : Ct := ⟨[(.bor, S_string), (.bor, S_string), (.bor, S_string)], [(S_impl_Part, .b), (.bool, .b)], fun x => f_I_PartsOf x.1 x.2.1 x.2.2.1⟩
noncomputable def cx_I_PartsOf : Cx := ⟨tab, arrs, [(129, ct_I_goodLines), (130, ct_I_partsOf)], [], gl, []⟩
theorem ef_I_PartsOf (t0 : PV S_string) (t1 : PV S_string) (t2 : PV S_string) : denF cx_I_PartsOf 0 pl_I_PartsOf Try.f58.ntmps (bodyOf Try.f58) Try.f58.results.toList [(.bor, S_string), (.bor, S_string), (.bor, S_string)] [(S_impl_Part, .b), (.bool, .b)] (t0, t1, t2, ()) = f_I_PartsOf t0 t1 t2 := by kernel_rfl
theorem ok_I_PartsOf : FnOk gl Try.prog 58 ct_I_PartsOf :=
  fnOk (cx := cx_I_PartsOf) (pl := pl_I_PartsOf) (dp := 0) (ok0_of tabOk (by unfold ArrOk; kernel_rfl) mix ⟨ok_I_goodLines, ok_I_partsOf, trivial⟩ trivial) Try.func58 (by kernel_rfl) (by kernel_rfl) (by kernel_rfl)
    (by rw [show loopsOf (bodyOf Try.f58) = [] from by kernel_rfl]; exact trivial) (fun x => ef_I_PartsOf x.1 x.2.1 x.2.2.1)
noncomputable def o_I_clashes_7 : List Out := [⟨.normal, ⟨[], [3, 6, 7, 8], []⟩, mkSh 19 [(3, .val (.int .i64) .b), (6, .val S_impl_Part .b), (7, .val (.int .i64) .b), (8, .val (.int .i64) .b)]⟩]
noncomputable def sh_I_clashes_3 : List Sh := mkSh 19 [(3, .val (.int .i64) .b), (6, .val S_impl_Part .b), (7, .val (.int .i64) .b), (8, .val (.int .i64) .b)]
noncomputable def o_I_clashes_3 : List Out := [⟨.exit 0, ⟨[], [3], []⟩, mkSh 19 [(3, .val (.int .i64) .b)]⟩]
noncomputable def b_I_clashes_3 (t3 : PV (.int .i64)) (t6 : PV S_impl_Part) (t7 : PV (.int .i64)) (t8 : PV (.int .i64)) : Option ((PV (.int .i64) × PV S_impl_Part × PV (.int .i64) × PV (.int .i64) × Unit) ⊕ ((PV (.int .i64) × Unit))) :=
  bif (decide (t8 < t7)) then
    ((
        bif inB t8 t6.length then
          bif (((t6.getD t8.toNat (dflt Y_impl_Part)).1) == 5) then
            some ((IntKind.wrap .i64 (t3 + 1)), t6, t7, t8, ())
          else
            some (t3, t6, t7, t8, ())
        else
          none : Option ((PV (.int .i64) × PV S_impl_Part × PV (.int .i64) × PV (.int .i64) × Unit)))).bind fun j1 =>
      some (.inl (j1.1, j1.2.1, j1.2.2.1, (IntKind.wrap .i64 (j1.2.2.2.1 + 1)), ()))
  else
    some (.inr (t3, ()))
noncomputable def w_I_clashes_3 : PV (.int .i64) × PV S_impl_Part × PV (.int .i64) × PV (.int .i64) × Unit → Option ((PV (.int .i64) × Unit)) := fix fun d => b_I_clashes_3 d.1 d.2.1 d.2.2.1 d.2.2.2.1
noncomputable def lp_I_clashes_3 : Lp := ⟨⟨[], [3, 6, 7, 8], []⟩, sh_I_clashes_3, o_I_clashes_3, fun d => b_I_clashes_3 d.1 d.2.1 d.2.2.1 d.2.2.2.1⟩
noncomputable def pl_I_clashes : Plan := ⟨[(7, o_I_clashes_7)], [(3, lp_I_clashes_3)], 0, 0⟩
noncomputable def f_I_clashes (t0 : PV S_impl_Part) : Option (PVs [(.int .i64)] × PVs []) :=
  (w_I_clashes_3 (0, t0, (t0.length : Int), 0, ())).bind fun l3 =>
    some ((l3.1, ()), ())
noncomputable def ct_I_clashes : Ct := ⟨[(.bor, S_impl_Part)], [((.int .i64), .b)], fun x => f_I_clashes x.1⟩
noncomputable def cx_I_clashes : Cx := ⟨tab, arrs, [], [], gl, []⟩
theorem eb_I_clashes_3 (t3 : PV (.int .i64)) (t6 : PV S_impl_Part) (t7 : PV (.int .i64)) (t8 : PV (.int .i64)) : denK cx_I_clashes (rcN cx_I_clashes 0) pl_I_clashes 0 ((loopsOf (bodyOf Try.f127)).getD 0 .skip) (fillS sh_I_clashes_3 (t3, t6, t7, t8, ())) (roundK 0 lp_I_clashes_3) = b_I_clashes_3 t3 t6 t7 t8 := by kernel_rfl
theorem ef_I_clashes (t0 : PV S_impl_Part) : denF cx_I_clashes 0 pl_I_clashes Try.f127.ntmps (bodyOf Try.f127) Try.f127.results.toList [(.bor, S_impl_Part)] [((.int .i64), .b)] (t0, ()) = f_I_clashes t0 := by kernel_rfl
theorem ok_I_clashes : FnOk gl Try.prog 127 ct_I_clashes :=
  fnOk (cx := cx_I_clashes) (pl := pl_I_clashes) (dp := 0) (ok0_of tabOk (by unfold ArrOk; kernel_rfl) mix trivial trivial) Try.func127 (by kernel_rfl) (by kernel_rfl) (by kernel_rfl)
    (by rw [show loopsOf (bodyOf Try.f127) = [((loopsOf (bodyOf Try.f127)).getD 0 .skip)] from by kernel_rfl]; exact ⟨(by rw [show lookup pl_I_clashes.loops (firstId ((loopsOf (bodyOf Try.f127)).getD 0 .skip)) = some lp_I_clashes_3 from by kernel_rfl]; exact fun d z h => (eb_I_clashes_3 d.1 d.2.1 d.2.2.1 d.2.2.2.1).trans h), trivial⟩) (fun x => ef_I_clashes x.1)
noncomputable def o_I_Merge_128_11 : List Out := [⟨.normal, ⟨[], [1, 5, 9, 10, 11], []⟩, mkSh 67 [(8, .val S_impl_Part .b), (24, .val .bool .b), (25, .val S_impl_Part .b), (36, .val S_string (.row .b)), (40, .val S_impl_Part .b), (41, .val (.int .i64) .b), (42, .val (.int .i64) .b)]⟩]
noncomputable def o_I_Merge_3 : List Out := [⟨.normal, ⟨[], [8, 24], []⟩, mkSh 31 [(8, .val S_impl_Part .b), (24, .val .bool .b)]⟩]
noncomputable def sh_I_Merge_128_3 : List Sh := mkSh 67 [(8, .val S_impl_Part .b), (24, .val .bool .b), (25, .val S_impl_Part .b), (36, .val S_string (.row .b)), (40, .val S_impl_Part .b), (41, .val (.int .i64) .b), (42, .val (.int .i64) .b)]
noncomputable def o_I_Merge_128_3 : List Out := [⟨.exit 0, ⟨[], [5], []⟩, mkSh 67 [(8, .val S_impl_Part .b), (24, .val .bool .b), (25, .val S_impl_Part .b), (36, .val S_string (.row .b))]⟩]
noncomputable def b_I_Merge_128_3 (t8 : PV S_impl_Part) (t24 : PV .bool) (t25 : PV S_impl_Part) (t36 : PV S_string) (t40 : PV S_impl_Part) (t41 : PV (.int .i64)) (t42 : PV (.int .i64)) : Option ((PV S_impl_Part × PV .bool × PV S_impl_Part × PV S_string × PV S_impl_Part × PV (.int .i64) × PV (.int .i64) × Unit) ⊕ ((PV S_impl_Part × PV .bool × PV S_impl_Part × PV S_string × Unit))) :=
  bif (decide (t42 < t41)) then
    ((
        bif inB t42 t40.length then
          bif (((t40.getD t42.toNat (dflt Y_impl_Part)).1) == 5) then
            none
          else
            bif (((t40.getD t42.toNat (dflt Y_impl_Part)).1) == 3) then
              bif roomB (t36.length + ((((((t40.getD t42.toNat (dflt Y_impl_Part)).2).2).2).2).1).length) then
                some (t8, t24, t25, (t36 ++ ((((((t40.getD t42.toNat (dflt Y_impl_Part)).2).2).2).2).1)), t40, t41, t42, ())
              else
                none
            else
              bif roomB (t36.length + (((((t40.getD t42.toNat (dflt Y_impl_Part)).2).2).2).1).length) then
                some (t8, t24, t25, (t36 ++ (((((t40.getD t42.toNat (dflt Y_impl_Part)).2).2).2).1)), t40, t41, t42, ())
              else
                none
        else
          none : Option ((PV S_impl_Part × PV .bool × PV S_impl_Part × PV S_string × PV S_impl_Part × PV (.int .i64) × PV (.int .i64) × Unit)))).bind fun j8 =>
      some (.inl (j8.1, j8.2.1, j8.2.2.1, j8.2.2.2.1, j8.2.2.2.2.1, j8.2.2.2.2.2.1, (IntKind.wrap .i64 (j8.2.2.2.2.2.2.1 + 1)), ()))
  else
    some (.inr (t8, t24, t25, t36, ()))
noncomputable def w_I_Merge_128_3 : PV S_impl_Part × PV .bool × PV S_impl_Part × PV S_string × PV S_impl_Part × PV (.int .i64) × PV (.int .i64) × Unit → Option ((PV S_impl_Part × PV .bool × PV S_impl_Part × PV S_string × Unit)) := fix fun d => b_I_Merge_128_3 d.1 d.2.1 d.2.2.1 d.2.2.2.1 d.2.2.2.2.1 d.2.2.2.2.2.1 d.2.2.2.2.2.2.1
noncomputable def lp_I_Merge_128_3 : Lp := ⟨⟨[], [1, 5, 9, 10, 11], []⟩, sh_I_Merge_128_3, o_I_Merge_128_3, fun d => b_I_Merge_128_3 d.1 d.2.1 d.2.2.1 d.2.2.2.1 d.2.2.2.2.1 d.2.2.2.2.2.1 d.2.2.2.2.2.2.1⟩
noncomputable def pl_I_Merge_128 : Plan := ⟨[(11, o_I_Merge_128_11)], [(3, lp_I_Merge_128_3)], 0, 31⟩
noncomputable def pl_I_Merge : Plan := ⟨[(3, o_I_Merge_3)], [], 1, 0⟩
noncomputable def f_I_Merge (t0 : PV S_string) (t1 : PV S_string) (t2 : PV S_string) : Option (PVs [S_string, .bool] × PVs []) :=
  (f_I_PartsOf t0 t1 t2).bind fun r2 =>
    ((
        bif (!r2.1.2.1) then
          some (r2.1.1, true, ())
        else
          (f_I_clashes r2.1.1).bind fun r6 =>
            some (r2.1.1, (decide (r6.1.1 > 0)), ()) : Option ((PV S_impl_Part × PV .bool × Unit)))).bind fun j7 =>
      bif j7.2.1 then
        some (([], false, ()), ())
      else
        (w_I_Merge_128_3 (j7.1, j7.2.1, j7.1, ([] : PV S_string), j7.1, (j7.1.length : Int), 0, ())).bind fun l12 =>
          (f_I_goodLines l12.2.2.2.1).bind fun r16 =>
            bif (!r16.1.1) then
              some (([], false, ()), ())
            else
              some ((l12.2.2.2.1, true, ()), ())
noncomputable def ct_I_Merge : Ct := ⟨[(.bor, S_string), (.bor, S_string), (.bor, S_string)], [(S_string, (.row .b)), (.bool, .b)], fun x => f_I_Merge x.1 x.2.1 x.2.2.1⟩
noncomputable def cx_I_Merge : Cx := ⟨tab, arrs, [(58, ct_I_PartsOf), (127, ct_I_clashes), (129, ct_I_goodLines)], [(128, Try.f128, pl_I_Merge_128)], gl, []⟩
theorem eb_I_Merge_128_3 (t8 : PV S_impl_Part) (t24 : PV .bool) (t25 : PV S_impl_Part) (t36 : PV S_string) (t40 : PV S_impl_Part) (t41 : PV (.int .i64)) (t42 : PV (.int .i64)) : denK cx_I_Merge (rcN cx_I_Merge 0) pl_I_Merge_128 31 ((loopsOf (bodyOf Try.f128)).getD 0 .skip) (fillS sh_I_Merge_128_3 (t8, t24, t25, t36, t40, t41, t42, ())) (roundK 31 lp_I_Merge_128_3) = b_I_Merge_128_3 t8 t24 t25 t36 t40 t41 t42 := by kernel_rfl
theorem ef_I_Merge (t0 : PV S_string) (t1 : PV S_string) (t2 : PV S_string) : denF cx_I_Merge 1 pl_I_Merge Try.f56.ntmps (bodyOf Try.f56) Try.f56.results.toList [(.bor, S_string), (.bor, S_string), (.bor, S_string)] [(S_string, (.row .b)), (.bool, .b)] (t0, t1, t2, ()) = f_I_Merge t0 t1 t2 := by kernel_rfl
theorem ok_I_Merge : FnOk gl Try.prog 56 ct_I_Merge :=
  fnOk (cx := cx_I_Merge) (pl := pl_I_Merge) (dp := 1) (ok0_of tabOk (by unfold ArrOk; kernel_rfl) mix ⟨ok_I_PartsOf, ok_I_clashes, ok_I_goodLines, trivial⟩ ⟨⟨Try.func128, by kernel_rfl, (by rw [show loopsOf (bodyOf Try.f128) = [((loopsOf (bodyOf Try.f128)).getD 0 .skip)] from by kernel_rfl]; exact ⟨(by rw [show lookup pl_I_Merge_128.loops (firstId ((loopsOf (bodyOf Try.f128)).getD 0 .skip)) = some lp_I_Merge_128_3 from by kernel_rfl]; exact fun d z h => (eb_I_Merge_128_3 d.1 d.2.1 d.2.2.1 d.2.2.2.1 d.2.2.2.2.1 d.2.2.2.2.2.1 d.2.2.2.2.2.2.1).trans h), trivial⟩)⟩, trivial⟩) Try.func56 (by kernel_rfl) (by kernel_rfl) (by kernel_rfl)
    (by rw [show loopsOf (bodyOf Try.f56) = [] from by kernel_rfl]; exact trivial) (fun x => ef_I_Merge x.1 x.2.1 x.2.2.1)
noncomputable def sh_L_eqStringS_4 : List Sh := mkSh 26 [(0, .val S_string .b), (1, .val S_string .b), (5, .val (.int .i64) .b)]
noncomputable def o_L_eqStringS_4 : List Out := [⟨.exit 0, ⟨[], [], []⟩, mkSh 26 []⟩, ⟨.ret, ⟨[], [4], []⟩, mkSh 26 [(4, .val .bool .b)]⟩]
noncomputable def b_L_eqStringS_4 (t0 : PV S_string) (t1 : PV S_string) (t5 : PV (.int .i64)) : Option ((PV S_string × PV S_string × PV (.int .i64) × Unit) ⊕ ((Unit) ⊕ (PV .bool × Unit))) :=
  bif (decide (t5 < (t0.length : Int))) then
    bif inB t5 t0.length then
      bif inB t5 t1.length then
        bif (!((t0.getD t5.toNat []) == (t1.getD t5.toNat []))) then
          some (.inr (.inr (false, ())))
        else
          some (.inl (t0, t1, (IntKind.wrap .i64 (t5 + 1)), ()))
      else
        none
    else
      none
  else
    some (.inr (.inl ()))
noncomputable def w_L_eqStringS_4 : PV S_string × PV S_string × PV (.int .i64) × Unit → Option ((Unit) ⊕ (PV .bool × Unit)) := fix fun d => b_L_eqStringS_4 d.1 d.2.1 d.2.2.1
noncomputable def lp_L_eqStringS_4 : Lp := ⟨⟨[], [0, 1, 5], []⟩, sh_L_eqStringS_4, o_L_eqStringS_4, fun d => b_L_eqStringS_4 d.1 d.2.1 d.2.2.1⟩
noncomputable def pl_L_eqStringS : Plan := ⟨[], [(4, lp_L_eqStringS_4)], 0, 0⟩
noncomputable def f_L_eqStringS (t0 : PV S_string) (t1 : PV S_string) : Option (PVs [.bool] × PVs []) :=
  bif (!((t0.length : Int) == (t1.length : Int))) then
    some ((false, ()), ())
  else
    (w_L_eqStringS_4 (t0, t1, 0, ())).bind fun x5 =>
      match x5 with
      | .inl l3 =>
        some ((true, ()), ())
      | .inr l4 =>
        some ((l4.1, ()), ())
noncomputable def ct_L_eqStringS : Ct := ⟨[(.bor, S_string), (.bor, S_string)], [(.bool, .b)], fun x => f_L_eqStringS x.1 x.2.1⟩
noncomputable def cx_L_eqStringS : Cx := ⟨tab, arrs, [], [], gl, []⟩
theorem eb_L_eqStringS_4 (t0 : PV S_string) (t1 : PV S_string) (t5 : PV (.int .i64)) : denK cx_L_eqStringS (rcN cx_L_eqStringS 0) pl_L_eqStringS 0 ((loopsOf (bodyOf Try.f27)).getD 0 .skip) (fillS sh_L_eqStringS_4 (t0, t1, t5, ())) (roundK 0 lp_L_eqStringS_4) = b_L_eqStringS_4 t0 t1 t5 := by kernel_rfl
theorem ef_L_eqStringS (t0 : PV S_string) (t1 : PV S_string) : denF cx_L_eqStringS 0 pl_L_eqStringS Try.f27.ntmps (bodyOf Try.f27) Try.f27.results.toList [(.bor, S_string), (.bor, S_string)] [(.bool, .b)] (t0, t1, ()) = f_L_eqStringS t0 t1 := by kernel_rfl
theorem ok_L_eqStringS : FnOk gl Try.prog 27 ct_L_eqStringS :=
  fnOk (cx := cx_L_eqStringS) (pl := pl_L_eqStringS) (dp := 0) (ok0_of tabOk (by unfold ArrOk; kernel_rfl) mix trivial trivial) Try.func27 (by kernel_rfl) (by kernel_rfl) (by kernel_rfl)
    (by rw [show loopsOf (bodyOf Try.f27) = [((loopsOf (bodyOf Try.f27)).getD 0 .skip)] from by kernel_rfl]; exact ⟨(by rw [show lookup pl_L_eqStringS.loops (firstId ((loopsOf (bodyOf Try.f27)).getD 0 .skip)) = some lp_L_eqStringS_4 from by kernel_rfl]; exact fun d z h => (eb_L_eqStringS_4 d.1 d.2.1 d.2.2.1).trans h), trivial⟩) (fun x => ef_L_eqStringS x.1 x.2.1)
noncomputable def sh_L_markText_4 : List Sh := mkSh 20 [(0, .val (.int .i64) .b), (3, .val .str .b)]
noncomputable def o_L_markText_4 : List Out := [⟨.exit 0, ⟨[], [3], []⟩, mkSh 20 [(3, .val .str .b)]⟩]
noncomputable def b_L_markText_4 (t0 : PV (.int .i64)) (t3 : PV .str) : Option ((PV (.int .i64) × PV .str × Unit) ⊕ ((PV .str × Unit))) :=
  bif (decide (t0 > 0)) then
    bif 10 == 0 then
      none
    else
      bif decide ((bytesOfInts [(IntKind.wrap .u8 (IntKind.wrap .i64 (48 + (t0.tmod 10))))]).length + t3.length ≤ 1099511627776) then
        bif 10 == 0 then
          none
        else
          some (.inl ((IntKind.wrap .i64 (t0.tdiv 10)), ((bytesOfInts [(IntKind.wrap .u8 (IntKind.wrap .i64 (48 + (t0.tmod 10))))]) ++ t3), ()))
      else
        none
  else
    some (.inr (t3, ()))
noncomputable def w_L_markText_4 : PV (.int .i64) × PV .str × Unit → Option ((PV .str × Unit)) := fix fun d => b_L_markText_4 d.1 d.2.1
noncomputable def lp_L_markText_4 : Lp := ⟨⟨[], [0, 3], []⟩, sh_L_markText_4, o_L_markText_4, fun d => b_L_markText_4 d.1 d.2.1⟩
noncomputable def pl_L_markText : Plan := ⟨[], [(4, lp_L_markText_4)], 0, 0⟩
noncomputable def f_L_markText (t0 : PV (.int .i64)) : Option (PVs [.str] × PVs []) :=
  bif (decide (t0 ≤ 0)) then
    some (([109, 48], ()), ())
  else
    (w_L_markText_4 (t0, [], ())).bind fun l2 =>
      bif decide ([109].length + l2.1.length ≤ 1099511627776) then
        some ((([109] ++ l2.1), ()), ())
      else
        none
noncomputable def ct_L_markText : Ct := ⟨[(.bor, (.int .i64))], [(.str, .b)], fun x => f_L_markText x.1⟩
noncomputable def cx_L_markText : Cx := ⟨tab, arrs, [], [], gl, []⟩
theorem eb_L_markText_4 (t0 : PV (.int .i64)) (t3 : PV .str) : denK cx_L_markText (rcN cx_L_markText 0) pl_L_markText 0 ((loopsOf (bodyOf Try.f98)).getD 0 .skip) (fillS sh_L_markText_4 (t0, t3, ())) (roundK 0 lp_L_markText_4) = b_L_markText_4 t0 t3 := by kernel_rfl
theorem ef_L_markText (t0 : PV (.int .i64)) : denF cx_L_markText 0 pl_L_markText Try.f98.ntmps (bodyOf Try.f98) Try.f98.results.toList [(.bor, (.int .i64))] [(.str, .b)] (t0, ()) = f_L_markText t0 := by kernel_rfl
theorem ok_L_markText : FnOk gl Try.prog 98 ct_L_markText :=
  fnOk (cx := cx_L_markText) (pl := pl_L_markText) (dp := 0) (ok0_of tabOk (by unfold ArrOk; kernel_rfl) mix trivial trivial) Try.func98 (by kernel_rfl) (by kernel_rfl) (by kernel_rfl)
    (by rw [show loopsOf (bodyOf Try.f98) = [((loopsOf (bodyOf Try.f98)).getD 0 .skip)] from by kernel_rfl]; exact ⟨(by rw [show lookup pl_L_markText.loops (firstId ((loopsOf (bodyOf Try.f98)).getD 0 .skip)) = some lp_L_markText_4 from by kernel_rfl]; exact fun d z h => (eb_L_markText_4 d.1 d.2.1).trans h), trivial⟩) (fun x => ef_L_markText x.1)
noncomputable def sh_L_markStringS_2 : List Sh := mkSh 21 [(0, .val S_string (.row .b)), (1, .sub ⟨0, [], 0, 0⟩), (2, .val (.int .i64) .b), (6, .val (.int .i64) .b)]
noncomputable def o_L_markStringS_2 : List Out := [⟨.exit 0, ⟨[], [1], []⟩, mkSh 21 [(0, .val S_string (.row .b)), (2, .val (.int .i64) .b)]⟩]
noncomputable def b_L_markStringS_2 (t0 : PV S_string) (t2 : PV (.int .i64)) (t6 : PV (.int .i64)) : Option ((PV S_string × PV (.int .i64) × PV (.int .i64) × Unit) ⊕ ((PV S_string × PV (.int .i64) × Unit))) :=
  bif (decide (t6 < (t0.length : Int))) then
    (f_L_markText t2).bind fun r4 =>
      bif inB t6 t0.length then
        some (.inl ((t0.set t6.toNat r4.1.1), (IntKind.wrap .i64 (t2 + 1)), (IntKind.wrap .i64 (t6 + 1)), ()))
      else
        none
  else
    some (.inr (t0, t2, ()))
noncomputable def w_L_markStringS_2 : PV S_string × PV (.int .i64) × PV (.int .i64) × Unit → Option ((PV S_string × PV (.int .i64) × Unit)) := fix fun d => b_L_markStringS_2 d.1 d.2.1 d.2.2.1
noncomputable def lp_L_markStringS_2 : Lp := ⟨⟨[], [0, 1, 5], []⟩, sh_L_markStringS_2, o_L_markStringS_2, fun d => b_L_markStringS_2 d.1 d.2.1 d.2.2.1⟩
noncomputable def pl_L_markStringS : Plan := ⟨[], [(2, lp_L_markStringS_2)], 0, 1⟩
noncomputable def f_L_markStringS (t0 : PV S_string) (t1 : PV (.int .i64)) : Option (PVs [(.int .i64)] × PVs [S_string]) :=
  (w_L_markStringS_2 (t0, t1, 0, ())).bind fun l6 =>
    some ((l6.2.1, ()), (l6.1, ()))
noncomputable def ct_L_markStringS : Ct := ⟨[(.mut, S_string), (.bor, (.int .i64))], [((.int .i64), .b)], fun x => f_L_markStringS x.1 x.2.1⟩
noncomputable def cx_L_markStringS : Cx := ⟨tab, arrs, [(98, ct_L_markText)], [], gl, []⟩
theorem eb_L_markStringS_2 (t0 : PV S_string) (t2 : PV (.int .i64)) (t6 : PV (.int .i64)) : denK cx_L_markStringS (rcN cx_L_markStringS 0) pl_L_markStringS 1 ((loopsOf (bodyOf Try.f35)).getD 0 .skip) (fillS sh_L_markStringS_2 (t0, t2, t6, ())) (roundK 1 lp_L_markStringS_2) = b_L_markStringS_2 t0 t2 t6 := by kernel_rfl
theorem ef_L_markStringS (t0 : PV S_string) (t1 : PV (.int .i64)) : denF cx_L_markStringS 0 pl_L_markStringS Try.f35.ntmps (bodyOf Try.f35) Try.f35.results.toList [(.mut, S_string), (.bor, (.int .i64))] [((.int .i64), .b)] (t0, t1, ()) = f_L_markStringS t0 t1 := by kernel_rfl
theorem ok_L_markStringS : FnOk gl Try.prog 35 ct_L_markStringS :=
  fnOk (cx := cx_L_markStringS) (pl := pl_L_markStringS) (dp := 0) (ok0_of tabOk (by unfold ArrOk; kernel_rfl) mix ⟨ok_L_markText, trivial⟩ trivial) Try.func35 (by kernel_rfl) (by kernel_rfl) (by kernel_rfl)
    (by rw [show loopsOf (bodyOf Try.f35) = [((loopsOf (bodyOf Try.f35)).getD 0 .skip)] from by kernel_rfl]; exact ⟨(by rw [show lookup pl_L_markStringS.loops (firstId ((loopsOf (bodyOf Try.f35)).getD 0 .skip)) = some lp_L_markStringS_2 from by kernel_rfl]; exact fun d z h => (eb_L_markStringS_2 d.1 d.2.1 d.2.2.1).trans h), trivial⟩) (fun x => ef_L_markStringS x.1 x.2.1)
noncomputable def sh_L_heldStringS_2 : List Sh := mkSh 22 [(0, .val S_string .b), (1, .val (.int .i64) .b), (5, .val (.int .i64) .b)]
noncomputable def o_L_heldStringS_2 : List Out := [⟨.exit 0, ⟨[], [1], []⟩, mkSh 22 [(1, .val (.int .i64) .b)]⟩, ⟨.ret, ⟨[], [4], []⟩, mkSh 22 [(4, .val (.int .i64) .b)]⟩]
noncomputable def b_L_heldStringS_2 (t0 : PV S_string) (t1 : PV (.int .i64)) (t5 : PV (.int .i64)) : Option ((PV S_string × PV (.int .i64) × PV (.int .i64) × Unit) ⊕ ((PV (.int .i64) × Unit) ⊕ (PV (.int .i64) × Unit))) :=
  bif (decide (t5 < (t0.length : Int))) then
    bif inB t5 t0.length then
      (f_L_markText t1).bind fun r8 =>
        bif (!((t0.getD t5.toNat []) == r8.1.1)) then
          some (.inr (.inr ((-1), ())))
        else
          some (.inl (t0, (IntKind.wrap .i64 (t1 + 1)), (IntKind.wrap .i64 (t5 + 1)), ()))
    else
      none
  else
    some (.inr (.inl (t1, ())))
noncomputable def w_L_heldStringS_2 : PV S_string × PV (.int .i64) × PV (.int .i64) × Unit → Option ((PV (.int .i64) × Unit) ⊕ (PV (.int .i64) × Unit)) := fix fun d => b_L_heldStringS_2 d.1 d.2.1 d.2.2.1
noncomputable def lp_L_heldStringS_2 : Lp := ⟨⟨[], [0, 1, 5], []⟩, sh_L_heldStringS_2, o_L_heldStringS_2, fun d => b_L_heldStringS_2 d.1 d.2.1 d.2.2.1⟩
noncomputable def pl_L_heldStringS : Plan := ⟨[], [(2, lp_L_heldStringS_2)], 0, 0⟩
noncomputable def f_L_heldStringS (t0 : PV S_string) (t1 : PV (.int .i64)) : Option (PVs [(.int .i64)] × PVs []) :=
  (w_L_heldStringS_2 (t0, t1, 0, ())).bind fun x13 =>
    match x13 with
    | .inl l11 =>
      some ((l11.1, ()), ())
    | .inr l12 =>
      some ((l12.1, ()), ())
noncomputable def ct_L_heldStringS : Ct := ⟨[(.bor, S_string), (.bor, (.int .i64))], [((.int .i64), .b)], fun x => f_L_heldStringS x.1 x.2.1⟩
noncomputable def cx_L_heldStringS : Cx := ⟨tab, arrs, [(98, ct_L_markText)], [], gl, []⟩
theorem eb_L_heldStringS_2 (t0 : PV S_string) (t1 : PV (.int .i64)) (t5 : PV (.int .i64)) : denK cx_L_heldStringS (rcN cx_L_heldStringS 0) pl_L_heldStringS 0 ((loopsOf (bodyOf Try.f36)).getD 0 .skip) (fillS sh_L_heldStringS_2 (t0, t1, t5, ())) (roundK 0 lp_L_heldStringS_2) = b_L_heldStringS_2 t0 t1 t5 := by kernel_rfl
theorem ef_L_heldStringS (t0 : PV S_string) (t1 : PV (.int .i64)) : denF cx_L_heldStringS 0 pl_L_heldStringS Try.f36.ntmps (bodyOf Try.f36) Try.f36.results.toList [(.bor, S_string), (.bor, (.int .i64))] [((.int .i64), .b)] (t0, t1, ()) = f_L_heldStringS t0 t1 := by kernel_rfl
theorem ok_L_heldStringS : FnOk gl Try.prog 36 ct_L_heldStringS :=
  fnOk (cx := cx_L_heldStringS) (pl := pl_L_heldStringS) (dp := 0) (ok0_of tabOk (by unfold ArrOk; kernel_rfl) mix ⟨ok_L_markText, trivial⟩ trivial) Try.func36 (by kernel_rfl) (by kernel_rfl) (by kernel_rfl)
    (by rw [show loopsOf (bodyOf Try.f36) = [((loopsOf (bodyOf Try.f36)).getD 0 .skip)] from by kernel_rfl]; exact ⟨(by rw [show lookup pl_L_heldStringS.loops (firstId ((loopsOf (bodyOf Try.f36)).getD 0 .skip)) = some lp_L_heldStringS_2 from by kernel_rfl]; exact fun d z h => (eb_L_heldStringS_2 d.1 d.2.1 d.2.2.1).trans h), trivial⟩) (fun x => ef_L_heldStringS x.1 x.2.1)
noncomputable def o_L_FnExactMerge_17 : List Out := [⟨.normal, ⟨[], [0, 1, 2, 8, 9, 10, 11, 12, 13, 14, 66, 94, 95, 96, 97, 100, 101, 102, 130, 131, 132], []⟩, mkSh 142 [(0, .val S_string .b), (1, .val S_string .b), (2, .val S_string .b), (8, .val S_string (.row .b)), (9, .val .bool .b), (10, .val S_string (.row .b)), (11, .val S_string (.row .b)), (12, .val S_string (.row .b)), (13, .val S_string (.row .b)), (14, .val .bool .b), (66, .val .bool .b)]⟩]
noncomputable def o_L_FnExactMerge_29 : List Out := [⟨.normal, ⟨[], [0, 1, 2, 8, 9, 13, 103, 130, 131, 132], []⟩, mkSh 142 [(0, .val S_string .b), (1, .val S_string .b), (2, .val S_string .b), (8, .val S_string (.row .b)), (9, .val .bool .b), (13, .val S_string (.row .b)), (103, .val .bool .b)]⟩]
noncomputable def o_L_FnExactMerge_40 : List Out := [⟨.normal, ⟨[], [13, 16, 133], []⟩, mkSh 142 [(13, .val S_string (.row .b)), (16, .val (.int .i64) .b), (133, .val .bool .b)]⟩]
noncomputable def pl_L_FnExactMerge : Plan := ⟨[(17, o_L_FnExactMerge_17), (29, o_L_FnExactMerge_29), (40, o_L_FnExactMerge_40)], [], 0, 0⟩
noncomputable def f_L_FnExactMerge (t0 : PV S_string) (t1 : PV S_string) (t2 : PV S_string) : Option (PVs [.bool] × PVs []) :=
  (f_L_szStringS t0 1048576).bind fun r2 =>
    bif (decide (r2.1.1 < 0)) then
      some ((true, ()), ())
    else
      (f_L_szStringS t1 r2.1.1).bind fun r4 =>
        bif (decide (r4.1.1 < 0)) then
          some ((true, ()), ())
        else
          (f_L_szStringS t2 r4.1.1).bind fun r6 =>
            bif (decide (r6.1.1 < 0)) then
              some ((true, ()), ())
            else
              (f_L_toStringS t0).bind fun r11 =>
                (f_L_toStringS t1).bind fun r12 =>
                  (f_L_toStringS t2).bind fun r13 =>
                    (f_S_Merge r11.1.1 r12.1.1 r13.1.1).bind fun r14 =>
                      (f_L_toStringS t0).bind fun r16 =>
                        (f_L_toStringS t1).bind fun r18 =>
                          (f_L_toStringS t2).bind fun r20 =>
                            (f_I_Merge r16.1.1 r18.1.1 r20.1.1).bind fun r22 =>
                              ((
                                  (f_L_eqStringS r22.1.1 r14.1.1).bind fun r26 =>
                                    bif (!r26.1.1) then
                                      some (t0, t1, t2, r14.1.1, r14.1.2.1, r16.1.1, r18.1.1, r20.1.1, r22.1.1, r22.1.2.1, true, ())
                                    else
                                      some (t0, t1, t2, r14.1.1, r14.1.2.1, r16.1.1, r18.1.1, r20.1.1, r22.1.1, r22.1.2.1, (!(r22.1.2.1 == r14.1.2.1)), ()) : Option ((PV S_string × PV S_string × PV S_string × PV S_string × PV .bool × PV S_string × PV S_string × PV S_string × PV S_string × PV .bool × PV .bool × Unit)))).bind fun j27 =>
                                bif j27.2.2.2.2.2.2.2.2.2.2.1 then
                                  some ((false, ()), ())
                                else
                                  (f_L_toStringS j27.1).bind fun r34 =>
                                    (f_L_eqStringS j27.2.2.2.2.2.1 r34.1.1).bind fun r35 =>
                                      bif (!r35.1.1) then
                                        some ((false, ()), ())
                                      else
                                        (f_L_toStringS j27.2.1).bind fun r42 =>
                                          (f_L_eqStringS j27.2.2.2.2.2.2.1 r42.1.1).bind fun r43 =>
                                            bif (!r43.1.1) then
                                              some ((false, ()), ())
                                            else
                                              (f_L_toStringS j27.2.2.1).bind fun r50 =>
                                                (f_L_eqStringS j27.2.2.2.2.2.2.2.1 r50.1.1).bind fun r51 =>
                                                  bif (!r51.1.1) then
                                                    some ((false, ()), ())
                                                  else
                                                    (f_L_markStringS j27.2.2.2.2.2.1 1).bind fun r53 =>
                                                      (f_L_markStringS j27.2.2.2.2.2.2.1 r53.1.1).bind fun r55 =>
                                                        (f_L_markStringS j27.2.2.2.2.2.2.2.1 r55.1.1).bind fun r57 =>
                                                          ((
                                                              bif (decide (r57.1.1 < 0)) then
                                                                some (j27.1, j27.2.1, j27.2.2.1, j27.2.2.2.1, j27.2.2.2.2.1, j27.2.2.2.2.2.2.2.2.1, true, ())
                                                              else
                                                                (f_L_eqStringS j27.2.2.2.2.2.2.2.2.1 j27.2.2.2.1).bind fun r61 =>
                                                                  bif (!r61.1.1) then
                                                                    some (j27.1, j27.2.1, j27.2.2.1, j27.2.2.2.1, j27.2.2.2.2.1, j27.2.2.2.2.2.2.2.2.1, true, ())
                                                                  else
                                                                    some (j27.1, j27.2.1, j27.2.2.1, j27.2.2.2.1, j27.2.2.2.2.1, j27.2.2.2.2.2.2.2.2.1, (!(j27.2.2.2.2.2.2.2.2.2.1 == j27.2.2.2.2.1)), ()) : Option ((PV S_string × PV S_string × PV S_string × PV S_string × PV .bool × PV S_string × PV .bool × Unit)))).bind fun j62 =>
                                                            bif j62.2.2.2.2.2.2.1 then
                                                              some ((false, ()), ())
                                                            else
                                                              (f_L_markStringS j62.2.2.2.2.2.1 1).bind fun r64 =>
                                                                (f_L_heldStringS r64.2.1 1).bind fun r66 =>
                                                                  bif (decide (r66.1.1 < 0)) then
                                                                    some ((false, ()), ())
                                                                  else
                                                                    bif (!(r66.1.1 == r64.1.1)) then
                                                                      some ((false, ()), ())
                                                                    else
                                                                      (f_L_toStringS j62.1).bind fun r71 =>
                                                                        (f_L_toStringS j62.2.1).bind fun r72 =>
                                                                          (f_L_toStringS j62.2.2.1).bind fun r73 =>
                                                                            (f_I_Merge r71.1.1 r72.1.1 r73.1.1).bind fun r74 =>
                                                                              ((
                                                                                  (f_L_eqStringS r74.1.1 j62.2.2.2.1).bind fun r78 =>
                                                                                    bif (!r78.1.1) then
                                                                                      some (r64.2.1, r64.1.1, true, ())
                                                                                    else
                                                                                      some (r64.2.1, r64.1.1, (!(r74.1.2.1 == j62.2.2.2.2.1)), ()) : Option ((PV S_string × PV (.int .i64) × PV .bool × Unit)))).bind fun j79 =>
                                                                                bif j79.2.2.1 then
                                                                                  some ((false, ()), ())
                                                                                else
                                                                                  (f_L_heldStringS j79.1 1).bind fun r81 =>
                                                                                    bif (decide (r81.1.1 < 0)) then
                                                                                      some ((false, ()), ())
                                                                                    else
                                                                                      bif (!(r81.1.1 == j79.2.1)) then
                                                                                        some ((false, ()), ())
                                                                                      else
                                                                                        some ((true, ()), ())
noncomputable def ct_L_FnExactMerge : Ct := ⟨[(.bor, S_string), (.bor, S_string), (.bor, S_string)], [(.bool, .b)], fun x => f_L_FnExactMerge x.1 x.2.1 x.2.2.1⟩
noncomputable def cx_L_FnExactMerge : Cx := ⟨tab, arrs, [(21, ct_L_szStringS), (24, ct_L_toStringS), (27, ct_L_eqStringS), (35, ct_L_markStringS), (36, ct_L_heldStringS), (55, ct_S_Merge), (56, ct_I_Merge)], [], gl, []⟩
theorem ef_L_FnExactMerge (t0 : PV S_string) (t1 : PV S_string) (t2 : PV S_string) : denF cx_L_FnExactMerge 0 pl_L_FnExactMerge Try.f9.ntmps (bodyOf Try.f9) Try.f9.results.toList [(.bor, S_string), (.bor, S_string), (.bor, S_string)] [(.bool, .b)] (t0, t1, t2, ()) = f_L_FnExactMerge t0 t1 t2 := by kernel_rfl
theorem ok_L_FnExactMerge : FnOk gl Try.prog 9 ct_L_FnExactMerge :=
  fnOk (cx := cx_L_FnExactMerge) (pl := pl_L_FnExactMerge) (dp := 0) (ok0_of tabOk (by unfold ArrOk; kernel_rfl) mix ⟨ok_L_szStringS, ok_L_toStringS, ok_L_eqStringS, ok_L_markStringS, ok_L_heldStringS, ok_S_Merge, ok_I_Merge, trivial⟩ trivial) Try.func9 (by kernel_rfl) (by kernel_rfl) (by kernel_rfl)
    (by rw [show loopsOf (bodyOf Try.f9) = [] from by kernel_rfl]; exact trivial) (fun x => ef_L_FnExactMerge x.1 x.2.1 x.2.2.1)
noncomputable def sh_S_l1Text_3 : List Sh := mkSh 17 [(3, .val .str .b), (6, .val S_string .b), (7, .val (.int .i64) .b), (8, .val (.int .i64) .b)]
noncomputable def o_S_l1Text_3 : List Out := [⟨.exit 0, ⟨[], [3], []⟩, mkSh 17 [(3, .val .str .b)]⟩]
noncomputable def b_S_l1Text_3 (t3 : PV .str) (t6 : PV S_string) (t7 : PV (.int .i64)) (t8 : PV (.int .i64)) : Option ((PV .str × PV S_string × PV (.int .i64) × PV (.int .i64) × Unit) ⊕ ((PV .str × Unit))) :=
  bif (decide (t8 < t7)) then
    bif inB t8 t6.length then
      bif decide (t3.length + (t6.getD t8.toNat []).length ≤ 1099511627776) then
        some (.inl ((t3 ++ (t6.getD t8.toNat [])), t6, t7, (IntKind.wrap .i64 (t8 + 1)), ()))
      else
        none
    else
      none
  else
    some (.inr (t3, ()))
noncomputable def w_S_l1Text_3 : PV .str × PV S_string × PV (.int .i64) × PV (.int .i64) × Unit → Option ((PV .str × Unit)) := fix fun d => b_S_l1Text_3 d.1 d.2.1 d.2.2.1 d.2.2.2.1
noncomputable def lp_S_l1Text_3 : Lp := ⟨⟨[], [3, 6, 7, 8], []⟩, sh_S_l1Text_3, o_S_l1Text_3, fun d => b_S_l1Text_3 d.1 d.2.1 d.2.2.1 d.2.2.2.1⟩
noncomputable def pl_S_l1Text : Plan := ⟨[], [(3, lp_S_l1Text_3)], 0, 0⟩
noncomputable def f_S_l1Text (t0 : PV S_string) : Option (PVs [.str] × PVs []) :=
  (w_S_l1Text_3 ([], t0, (t0.length : Int), 0, ())).bind fun l2 =>
    some ((l2.1, ()), ())
noncomputable def ct_S_l1Text : Ct := ⟨[(.bor, S_string)], [(.str, .b)], fun x => f_S_l1Text x.1⟩
noncomputable def cx_S_l1Text : Cx := ⟨tab, arrs, [], [], gl, []⟩
theorem eb_S_l1Text_3 (t3 : PV .str) (t6 : PV S_string) (t7 : PV (.int .i64)) (t8 : PV (.int .i64)) : denK cx_S_l1Text (rcN cx_S_l1Text 0) pl_S_l1Text 0 ((loopsOf (bodyOf Try.f133)).getD 0 .skip) (fillS sh_S_l1Text_3 (t3, t6, t7, t8, ())) (roundK 0 lp_S_l1Text_3) = b_S_l1Text_3 t3 t6 t7 t8 := by kernel_rfl
theorem ef_S_l1Text (t0 : PV S_string) : denF cx_S_l1Text 0 pl_S_l1Text Try.f133.ntmps (bodyOf Try.f133) Try.f133.results.toList [(.bor, S_string)] [(.str, .b)] (t0, ()) = f_S_l1Text t0 := by kernel_rfl
theorem ok_S_l1Text : FnOk gl Try.prog 133 ct_S_l1Text :=
  fnOk (cx := cx_S_l1Text) (pl := pl_S_l1Text) (dp := 0) (ok0_of tabOk (by unfold ArrOk; kernel_rfl) mix trivial trivial) Try.func133 (by kernel_rfl) (by kernel_rfl) (by kernel_rfl)
    (by rw [show loopsOf (bodyOf Try.f133) = [((loopsOf (bodyOf Try.f133)).getD 0 .skip)] from by kernel_rfl]; exact ⟨(by rw [show lookup pl_S_l1Text.loops (firstId ((loopsOf (bodyOf Try.f133)).getD 0 .skip)) = some lp_S_l1Text_3 from by kernel_rfl]; exact fun d z h => (eb_S_l1Text_3 d.1 d.2.1 d.2.2.1 d.2.2.2.1).trans h), trivial⟩) (fun x => ef_S_l1Text x.1)
noncomputable def o_S_l11Full_3 : List Out := [⟨.normal, ⟨[], [3, 12], []⟩, mkSh 16 [(3, .val .str .b), (12, .val .bool .b)]⟩]
noncomputable def o_S_l11Full_4 : List Out := [⟨.normal, ⟨[], [3], []⟩, mkSh 16 [(3, .val .str .b)]⟩]
noncomputable def pl_S_l11Full : Plan := ⟨[(3, o_S_l11Full_3), (4, o_S_l11Full_4)], [], 0, 0⟩
noncomputable def f_S_l11Full (t0 : PV S_string) : Option (PVs [.str] × PVs []) :=
  (f_S_l1Text t0).bind fun r2 =>
    ((
        ((
            bif (!(r2.1.1 == [])) then
              (f_S_l1Ends r2.1.1).bind fun r6 =>
                some (r2.1.1, (!r6.1.1), ())
            else
              some (r2.1.1, false, ()) : Option ((PV .str × PV .bool × Unit)))).bind fun j7 =>
          bif j7.2.1 then
            bif decide (j7.1.length + [10].length ≤ 1099511627776) then
              some ((j7.1 ++ [10]), ())
            else
              none
          else
            some (j7.1, ()) : Option ((PV .str × Unit)))).bind fun j8 =>
      some ((j8.1, ()), ())
noncomputable def ct_S_l11Full : Ct := ⟨[(.bor, S_string)], [(.str, .b)], fun x => f_S_l11Full x.1⟩
noncomputable def cx_S_l11Full : Cx := ⟨tab, arrs, [(133, ct_S_l1Text), (177, ct_S_l1Ends)], [], gl, []⟩
theorem ef_S_l11Full (t0 : PV S_string) : denF cx_S_l11Full 0 pl_S_l11Full Try.f132.ntmps (bodyOf Try.f132) Try.f132.results.toList [(.bor, S_string)] [(.str, .b)] (t0, ()) = f_S_l11Full t0 := by kernel_rfl
theorem ok_S_l11Full : FnOk gl Try.prog 132 ct_S_l11Full :=
  fnOk (cx := cx_S_l11Full) (pl := pl_S_l11Full) (dp := 0) (ok0_of tabOk (by unfold ArrOk; kernel_rfl) mix ⟨ok_S_l1Text, ok_S_l1Ends, trivial⟩ trivial) Try.func132 (by kernel_rfl) (by kernel_rfl) (by kernel_rfl)
    (by rw [show loopsOf (bodyOf Try.f132) = [] from by kernel_rfl]; exact trivial) (fun x => ef_S_l11Full x.1)
noncomputable def o_S_MarkedText_10 : List Out := [⟨.normal, ⟨[], [8, 19, 20, 21], []⟩, mkSh 47 [(8, .val .str .b), (19, .val S_impl_Part .b), (20, .val (.int .i64) .b), (21, .val (.int .i64) .b)]⟩]
noncomputable def sh_S_MarkedText_5 : List Sh := mkSh 47 [(8, .val .str .b), (19, .val S_impl_Part .b), (20, .val (.int .i64) .b), (21, .val (.int .i64) .b)]
noncomputable def o_S_MarkedText_5 : List Out := [⟨.exit 0, ⟨[], [8], []⟩, mkSh 47 [(8, .val .str .b)]⟩]
noncomputable def b_S_MarkedText_5 (t8 : PV .str) (t19 : PV S_impl_Part) (t20 : PV (.int .i64)) (t21 : PV (.int .i64)) : Option ((PV .str × PV S_impl_Part × PV (.int .i64) × PV (.int .i64) × Unit) ⊕ ((PV .str × Unit))) :=
  bif (decide (t21 < t20)) then
    ((
        bif inB t21 t19.length then
          bif (((t19.getD t21.toNat (dflt Y_impl_Part)).1) == 5) then
            (f_S_l11Full (((((t19.getD t21.toNat (dflt Y_impl_Part)).2).2).2).1)).bind fun r7 =>
              bif decide ([60, 60, 60, 10].length + r7.1.1.length ≤ 1099511627776) then
                bif decide (([60, 60, 60, 10] ++ r7.1.1).length + [61, 61, 61, 10].length ≤ 1099511627776) then
                  (f_S_l11Full ((((((t19.getD t21.toNat (dflt Y_impl_Part)).2).2).2).2).1)).bind fun r8 =>
                    bif decide ((([60, 60, 60, 10] ++ r7.1.1) ++ [61, 61, 61, 10]).length + r8.1.1.length ≤ 1099511627776) then
                      bif decide (((([60, 60, 60, 10] ++ r7.1.1) ++ [61, 61, 61, 10]) ++ r8.1.1).length + [62, 62, 62, 10].length ≤ 1099511627776) then
                        bif decide (t8.length + (((([60, 60, 60, 10] ++ r7.1.1) ++ [61, 61, 61, 10]) ++ r8.1.1) ++ [62, 62, 62, 10]).length ≤ 1099511627776) then
                          some ((t8 ++ (((([60, 60, 60, 10] ++ r7.1.1) ++ [61, 61, 61, 10]) ++ r8.1.1) ++ [62, 62, 62, 10])), t19, t20, t21, ())
                        else
                          none
                      else
                        none
                    else
                      none
                else
                  none
              else
                none
          else
            (f_S_l11Taken (t19.getD t21.toNat (dflt Y_impl_Part))).bind fun r9 =>
              (f_S_l1Text r9.1.1).bind fun r10 =>
                bif decide (t8.length + r10.1.1.length ≤ 1099511627776) then
                  some ((t8 ++ r10.1.1), t19, t20, t21, ())
                else
                  none
        else
          none : Option ((PV .str × PV S_impl_Part × PV (.int .i64) × PV (.int .i64) × Unit)))).bind fun j11 =>
      some (.inl (j11.1, j11.2.1, j11.2.2.1, (IntKind.wrap .i64 (j11.2.2.2.1 + 1)), ()))
  else
    some (.inr (t8, ()))
noncomputable def w_S_MarkedText_5 : PV .str × PV S_impl_Part × PV (.int .i64) × PV (.int .i64) × Unit → Option ((PV .str × Unit)) := fix fun d => b_S_MarkedText_5 d.1 d.2.1 d.2.2.1 d.2.2.2.1
noncomputable def lp_S_MarkedText_5 : Lp := ⟨⟨[], [8, 19, 20, 21], []⟩, sh_S_MarkedText_5, o_S_MarkedText_5, fun d => b_S_MarkedText_5 d.1 d.2.1 d.2.2.1 d.2.2.2.1⟩
noncomputable def pl_S_MarkedText : Plan := ⟨[(10, o_S_MarkedText_10)], [(5, lp_S_MarkedText_5)], 0, 0⟩
noncomputable def f_S_MarkedText (t0 : PV S_string) (t1 : PV S_string) (t2 : PV S_string) : Option (PVs [.str, .bool] × PVs []) :=
  (f_S_l11Three t0 t1 t2).bind fun r4 =>
    bif (!r4.1.1) then
      some (([], false, ()), ())
    else
      (f_S_l11Parts t0 t1 t2).bind fun r14 =>
        (w_S_MarkedText_5 ([], r14.1.1, (r14.1.1.length : Int), 0, ())).bind fun l15 =>
          some ((l15.1, true, ()), ())
noncomputable def ct_S_MarkedText : Ct := ⟨[(.bor, S_string), (.bor, S_string), (.bor, S_string)], [(.str, .b), (.bool, .b)], fun x => f_S_MarkedText x.1 x.2.1 x.2.2.1⟩
noncomputable def cx_S_MarkedText : Cx := ⟨tab, arrs, [(123, ct_S_l11Three), (124, ct_S_l11Parts), (125, ct_S_l11Taken), (132, ct_S_l11Full), (133, ct_S_l1Text)], [], gl, []⟩
theorem eb_S_MarkedText_5 (t8 : PV .str) (t19 : PV S_impl_Part) (t20 : PV (.int .i64)) (t21 : PV (.int .i64)) : denK cx_S_MarkedText (rcN cx_S_MarkedText 0) pl_S_MarkedText 0 ((loopsOf (bodyOf Try.f62)).getD 0 .skip) (fillS sh_S_MarkedText_5 (t8, t19, t20, t21, ())) (roundK 0 lp_S_MarkedText_5) = b_S_MarkedText_5 t8 t19 t20 t21 := by kernel_rfl
theorem ef_S_MarkedText (t0 : PV S_string) (t1 : PV S_string) (t2 : PV S_string) : denF cx_S_MarkedText 0 pl_S_MarkedText Try.f62.ntmps (bodyOf Try.f62) Try.f62.results.toList [(.bor, S_string), (.bor, S_string), (.bor, S_string)] [(.str, .b), (.bool, .b)] (t0, t1, t2, ()) = f_S_MarkedText t0 t1 t2 := by kernel_rfl
theorem ok_S_MarkedText : FnOk gl Try.prog 62 ct_S_MarkedText :=
  fnOk (cx := cx_S_MarkedText) (pl := pl_S_MarkedText) (dp := 0) (ok0_of tabOk (by unfold ArrOk; kernel_rfl) mix ⟨ok_S_l11Three, ok_S_l11Parts, ok_S_l11Taken, ok_S_l11Full, ok_S_l1Text, trivial⟩ trivial) Try.func62 (by kernel_rfl) (by kernel_rfl) (by kernel_rfl)
    (by rw [show loopsOf (bodyOf Try.f62) = [((loopsOf (bodyOf Try.f62)).getD 0 .skip)] from by kernel_rfl]; exact ⟨(by rw [show lookup pl_S_MarkedText.loops (firstId ((loopsOf (bodyOf Try.f62)).getD 0 .skip)) = some lp_S_MarkedText_5 from by kernel_rfl]; exact fun d z h => (eb_S_MarkedText_5 d.1 d.2.1 d.2.2.1 d.2.2.2.1).trans h), trivial⟩) (fun x => ef_S_MarkedText x.1 x.2.1 x.2.2.1)
noncomputable def pl_internal_stringslite_TrimSuffix : Plan := ⟨[], [], 0, 0⟩
noncomputable def f_internal_stringslite_TrimSuffix (t0 : PV .str) (t1 : PV .str) : Option (PVs [.str] × PVs []) :=
  (f_internal_stringslite_HasSuffix t0 t1).bind fun r4 =>
    bif r4.1.1 then
      bif cutB 0 (IntKind.wrap .i64 ((t0.length : Int) - (t1.length : Int))) t0.length then
        some (((cutL 0 (IntKind.wrap .i64 ((t0.length : Int) - (t1.length : Int))) t0), ()), ())
      else
        none
    else
      some ((t0, ()), ())
noncomputable def ct_internal_stringslite_TrimSuffix : Ct := ⟨[(.bor, .str), (.bor, .str)], [(.str, .b)], fun x => f_internal_stringslite_TrimSuffix x.1 x.2.1⟩
noncomputable def cx_internal_stringslite_TrimSuffix : Cx := ⟨tab, arrs, [(225, ct_internal_stringslite_HasSuffix)], [], gl, []⟩
theorem ef_internal_stringslite_TrimSuffix (t0 : PV .str) (t1 : PV .str) : denF cx_internal_stringslite_TrimSuffix 0 pl_internal_stringslite_TrimSuffix Try.f228.ntmps (bodyOf Try.f228) Try.f228.results.toList [(.bor, .str), (.bor, .str)] [(.str, .b)] (t0, t1, ()) = f_internal_stringslite_TrimSuffix t0 t1 := by kernel_rfl
theorem ok_internal_stringslite_TrimSuffix : FnOk gl Try.prog 228 ct_internal_stringslite_TrimSuffix :=
  fnOk (cx := cx_internal_stringslite_TrimSuffix) (pl := pl_internal_stringslite_TrimSuffix) (dp := 0) (ok0_of tabOk (by unfold ArrOk; kernel_rfl) mix ⟨ok_internal_stringslite_HasSuffix, trivial⟩ trivial) Try.func228 (by kernel_rfl) (by kernel_rfl) (by kernel_rfl)
    (by rw [show loopsOf (bodyOf Try.f228) = [] from by kernel_rfl]; exact trivial) (fun x => ef_internal_stringslite_TrimSuffix x.1 x.2.1)
noncomputable def pl_strings_TrimSuffix : Plan := ⟨[], [], 0, 0⟩
noncomputable def f_strings_TrimSuffix (t0 : PV .str) (t1 : PV .str) : Option (PVs [.str] × PVs []) :=
  (f_internal_stringslite_TrimSuffix t0 t1).bind fun r1 =>
    some ((r1.1.1, ()), ())
noncomputable def ct_strings_TrimSuffix : Ct := ⟨[(.bor, .str), (.bor, .str)], [(.str, .b)], fun x => f_strings_TrimSuffix x.1 x.2.1⟩
noncomputable def cx_strings_TrimSuffix : Cx := ⟨tab, arrs, [(228, ct_internal_stringslite_TrimSuffix)], [], gl, []⟩
theorem ef_strings_TrimSuffix (t0 : PV .str) (t1 : PV .str) : denF cx_strings_TrimSuffix 0 pl_strings_TrimSuffix Try.f212.ntmps (bodyOf Try.f212) Try.f212.results.toList [(.bor, .str), (.bor, .str)] [(.str, .b)] (t0, t1, ()) = f_strings_TrimSuffix t0 t1 := by kernel_rfl
theorem ok_strings_TrimSuffix : FnOk gl Try.prog 212 ct_strings_TrimSuffix :=
  fnOk (cx := cx_strings_TrimSuffix) (pl := pl_strings_TrimSuffix) (dp := 0) (ok0_of tabOk (by unfold ArrOk; kernel_rfl) mix ⟨ok_internal_stringslite_TrimSuffix, trivial⟩ trivial) Try.func212 (by kernel_rfl) (by kernel_rfl) (by kernel_rfl)
    (by rw [show loopsOf (bodyOf Try.f212) = [] from by kernel_rfl]; exact trivial) (fun x => ef_strings_TrimSuffix x.1 x.2.1)
noncomputable def pl_I_plain : Plan := ⟨[], [], 0, 0⟩
noncomputable def f_I_plain (t0 : PV .str) : Option (PVs [.str] × PVs []) :=
  (f_strings_TrimSuffix t0 [10]).bind fun r1 =>
    some ((r1.1.1, ()), ())
noncomputable def ct_I_plain : Ct := ⟨[(.bor, .str)], [(.str, .b)], fun x => f_I_plain x.1⟩
noncomputable def cx_I_plain : Cx := ⟨tab, arrs, [(212, ct_strings_TrimSuffix)], [], gl, []⟩
theorem ef_I_plain (t0 : PV .str) : denF cx_I_plain 0 pl_I_plain Try.f184.ntmps (bodyOf Try.f184) Try.f184.results.toList [(.bor, .str)] [(.str, .b)] (t0, ()) = f_I_plain t0 := by kernel_rfl
theorem ok_I_plain : FnOk gl Try.prog 184 ct_I_plain :=
  fnOk (cx := cx_I_plain) (pl := pl_I_plain) (dp := 0) (ok0_of tabOk (by unfold ArrOk; kernel_rfl) mix ⟨ok_strings_TrimSuffix, trivial⟩ trivial) Try.func184 (by kernel_rfl) (by kernel_rfl) (by kernel_rfl)
    (by rw [show loopsOf (bodyOf Try.f184) = [] from by kernel_rfl]; exact trivial) (fun x => ef_I_plain x.1)
noncomputable def sh_I_endedAll_3 : List Sh := mkSh 21 [(3, .val S_string (.row .b)), (7, .val S_string .b), (8, .val (.int .i64) .b), (9, .val (.int .i64) .b)]
noncomputable def o_I_endedAll_3 : List Out := [⟨.exit 0, ⟨[], [3], []⟩, mkSh 21 [(3, .val S_string (.row .b))]⟩]
noncomputable def b_I_endedAll_3 (t3 : PV S_string) (t7 : PV S_string) (t8 : PV (.int .i64)) (t9 : PV (.int .i64)) : Option ((PV S_string × PV S_string × PV (.int .i64) × PV (.int .i64) × Unit) ⊕ ((PV S_string × Unit))) :=
  bif (decide (t9 < t8)) then
    bif inB t9 t7.length then
      (f_I_plain (t7.getD t9.toNat [])).bind fun r2 =>
        bif decide (r2.1.1.length + [10].length ≤ 1099511627776) then
          bif roomB (t3.length + [(r2.1.1 ++ [10])].length) then
            some (.inl ((t3 ++ [(r2.1.1 ++ [10])]), t7, t8, (IntKind.wrap .i64 (t9 + 1)), ()))
          else
            none
        else
          none
    else
      none
  else
    some (.inr (t3, ()))
noncomputable def w_I_endedAll_3 : PV S_string × PV S_string × PV (.int .i64) × PV (.int .i64) × Unit → Option ((PV S_string × Unit)) := fix fun d => b_I_endedAll_3 d.1 d.2.1 d.2.2.1 d.2.2.2.1
noncomputable def lp_I_endedAll_3 : Lp := ⟨⟨[], [3, 7, 8, 9], []⟩, sh_I_endedAll_3, o_I_endedAll_3, fun d => b_I_endedAll_3 d.1 d.2.1 d.2.2.1 d.2.2.2.1⟩
noncomputable def pl_I_endedAll : Plan := ⟨[], [(3, lp_I_endedAll_3)], 0, 0⟩
noncomputable def f_I_endedAll (t0 : PV S_string) : Option (PVs [S_string] × PVs []) :=
  (w_I_endedAll_3 (([] : PV S_string), t0, (t0.length : Int), 0, ())).bind fun l4 =>
    some ((l4.1, ()), ())
noncomputable def ct_I_endedAll : Ct := ⟨[(.bor, S_string)], [(S_string, (.row .b))], fun x => f_I_endedAll x.1⟩
noncomputable def cx_I_endedAll : Cx := ⟨tab, arrs, [(184, ct_I_plain)], [], gl, []⟩
theorem eb_I_endedAll_3 (t3 : PV S_string) (t7 : PV S_string) (t8 : PV (.int .i64)) (t9 : PV (.int .i64)) : denK cx_I_endedAll (rcN cx_I_endedAll 0) pl_I_endedAll 0 ((loopsOf (bodyOf Try.f137)).getD 0 .skip) (fillS sh_I_endedAll_3 (t3, t7, t8, t9, ())) (roundK 0 lp_I_endedAll_3) = b_I_endedAll_3 t3 t7 t8 t9 := by kernel_rfl
theorem ef_I_endedAll (t0 : PV S_string) : denF cx_I_endedAll 0 pl_I_endedAll Try.f137.ntmps (bodyOf Try.f137) Try.f137.results.toList [(.bor, S_string)] [(S_string, (.row .b))] (t0, ()) = f_I_endedAll t0 := by kernel_rfl
theorem ok_I_endedAll : FnOk gl Try.prog 137 ct_I_endedAll :=
  fnOk (cx := cx_I_endedAll) (pl := pl_I_endedAll) (dp := 0) (ok0_of tabOk (by unfold ArrOk; kernel_rfl) mix ⟨ok_I_plain, trivial⟩ trivial) Try.func137 (by kernel_rfl) (by kernel_rfl) (by kernel_rfl)
    (by rw [show loopsOf (bodyOf Try.f137) = [((loopsOf (bodyOf Try.f137)).getD 0 .skip)] from by kernel_rfl]; exact ⟨(by rw [show lookup pl_I_endedAll.loops (firstId ((loopsOf (bodyOf Try.f137)).getD 0 .skip)) = some lp_I_endedAll_3 from by kernel_rfl]; exact fun d z h => (eb_I_endedAll_3 d.1 d.2.1 d.2.2.1 d.2.2.2.1).trans h), trivial⟩) (fun x => ef_I_endedAll x.1)
noncomputable def sh_slices_Concat_string_3 : List Sh := mkSh 36 [(0, .val S_S_string .b), (3, .val (.int .i64) .b), (9, .val S_S_string .b), (10, .val (.int .i64) .b), (11, .val (.int .i64) .b)]
noncomputable def o_slices_Concat_string_3 : List Out := [⟨.exit 0, ⟨[], [0, 3], []⟩, mkSh 36 [(0, .val S_S_string .b), (3, .val (.int .i64) .b)]⟩]
noncomputable def b_slices_Concat_string_3 (t0 : PV S_S_string) (t3 : PV (.int .i64)) (t9 : PV S_S_string) (t10 : PV (.int .i64)) (t11 : PV (.int .i64)) : Option ((PV S_S_string × PV (.int .i64) × PV S_S_string × PV (.int .i64) × PV (.int .i64) × Unit) ⊕ ((PV S_S_string × PV (.int .i64) × Unit))) :=
  bif (decide (t11 < t10)) then
    bif inB t11 t9.length then
      bif (decide ((IntKind.wrap .i64 (t3 + ((t9.getD t11.toNat []).length : Int))) < 0)) then
        none
      else
        some (.inl (t0, (IntKind.wrap .i64 (t3 + ((t9.getD t11.toNat []).length : Int))), t9, t10, (IntKind.wrap .i64 (t11 + 1)), ()))
    else
      none
  else
    some (.inr (t0, t3, ()))
noncomputable def w_slices_Concat_string_3 : PV S_S_string × PV (.int .i64) × PV S_S_string × PV (.int .i64) × PV (.int .i64) × Unit → Option ((PV S_S_string × PV (.int .i64) × Unit)) := fix fun d => b_slices_Concat_string_3 d.1 d.2.1 d.2.2.1 d.2.2.2.1 d.2.2.2.2.1
noncomputable def lp_slices_Concat_string_3 : Lp := ⟨⟨[], [0, 3, 9, 10, 11], []⟩, sh_slices_Concat_string_3, o_slices_Concat_string_3, fun d => b_slices_Concat_string_3 d.1 d.2.1 d.2.2.1 d.2.2.2.1 d.2.2.2.2.1⟩
noncomputable def sh_slices_Concat_string_11 : List Sh := mkSh 36 [(6, .val S_string (.row .b)), (25, .val S_S_string .b), (26, .val (.int .i64) .b), (27, .val (.int .i64) .b)]
noncomputable def o_slices_Concat_string_11 : List Out := [⟨.exit 2, ⟨[], [6], []⟩, mkSh 36 [(6, .val S_string (.row .b))]⟩]
noncomputable def b_slices_Concat_string_11 (t6 : PV S_string) (t25 : PV S_S_string) (t26 : PV (.int .i64)) (t27 : PV (.int .i64)) : Option ((PV S_string × PV S_S_string × PV (.int .i64) × PV (.int .i64) × Unit) ⊕ ((PV S_string × Unit))) :=
  bif (decide (t27 < t26)) then
    bif inB t27 t25.length then
      bif roomB (t6.length + (t25.getD t27.toNat []).length) then
        some (.inl ((t6 ++ (t25.getD t27.toNat [])), t25, t26, (IntKind.wrap .i64 (t27 + 1)), ()))
      else
        none
    else
      none
  else
    some (.inr (t6, ()))
noncomputable def w_slices_Concat_string_11 : PV S_string × PV S_S_string × PV (.int .i64) × PV (.int .i64) × Unit → Option ((PV S_string × Unit)) := fix fun d => b_slices_Concat_string_11 d.1 d.2.1 d.2.2.1 d.2.2.2.1
noncomputable def lp_slices_Concat_string_11 : Lp := ⟨⟨[], [6, 25, 26, 27], []⟩, sh_slices_Concat_string_11, o_slices_Concat_string_11, fun d => b_slices_Concat_string_11 d.1 d.2.1 d.2.2.1 d.2.2.2.1⟩
noncomputable def pl_slices_Concat_string : Plan := ⟨[], [(3, lp_slices_Concat_string_3), (11, lp_slices_Concat_string_11)], 0, 0⟩
noncomputable def f_slices_Concat_string (t0 : PV S_S_string) : Option (PVs [S_string] × PVs []) :=
  (w_slices_Concat_string_3 (t0, 0, t0, (t0.length : Int), 0, ())).bind fun l2 =>
    (f_slices_Grow_string [] l2.2.1).bind fun r4 =>
      (w_slices_Concat_string_11 (r4.1.1, l2.1, (l2.1.length : Int), 0, ())).bind fun l6 =>
        some ((l6.1, ()), ())
noncomputable def ct_slices_Concat_string : Ct := ⟨[(.bor, S_S_string)], [(S_string, (.row .b))], fun x => f_slices_Concat_string x.1⟩
noncomputable def cx_slices_Concat_string : Cx := ⟨tab, arrs, [(183, ct_slices_Grow_string)], [], gl, []⟩
theorem eb_slices_Concat_string_3 (t0 : PV S_S_string) (t3 : PV (.int .i64)) (t9 : PV S_S_string) (t10 : PV (.int .i64)) (t11 : PV (.int .i64)) : denK cx_slices_Concat_string (rcN cx_slices_Concat_string 0) pl_slices_Concat_string 0 ((loopsOf (bodyOf Try.f136)).getD 0 .skip) (fillS sh_slices_Concat_string_3 (t0, t3, t9, t10, t11, ())) (roundK 0 lp_slices_Concat_string_3) = b_slices_Concat_string_3 t0 t3 t9 t10 t11 := by kernel_rfl
theorem eb_slices_Concat_string_11 (t6 : PV S_string) (t25 : PV S_S_string) (t26 : PV (.int .i64)) (t27 : PV (.int .i64)) : denK cx_slices_Concat_string (rcN cx_slices_Concat_string 0) pl_slices_Concat_string 0 ((loopsOf (bodyOf Try.f136)).getD 1 .skip) (fillS sh_slices_Concat_string_11 (t6, t25, t26, t27, ())) (roundK 0 lp_slices_Concat_string_11) = b_slices_Concat_string_11 t6 t25 t26 t27 := by kernel_rfl
theorem ef_slices_Concat_string (t0 : PV S_S_string) : denF cx_slices_Concat_string 0 pl_slices_Concat_string Try.f136.ntmps (bodyOf Try.f136) Try.f136.results.toList [(.bor, S_S_string)] [(S_string, (.row .b))] (t0, ()) = f_slices_Concat_string t0 := by kernel_rfl
theorem ok_slices_Concat_string : FnOk gl Try.prog 136 ct_slices_Concat_string :=
  fnOk (cx := cx_slices_Concat_string) (pl := pl_slices_Concat_string) (dp := 0) (ok0_of tabOk (by unfold ArrOk; kernel_rfl) mix ⟨ok_slices_Grow_string, trivial⟩ trivial) Try.func136 (by kernel_rfl) (by kernel_rfl) (by kernel_rfl)
    (by rw [show loopsOf (bodyOf Try.f136) = [((loopsOf (bodyOf Try.f136)).getD 0 .skip), ((loopsOf (bodyOf Try.f136)).getD 1 .skip)] from by kernel_rfl]; exact ⟨(by rw [show lookup pl_slices_Concat_string.loops (firstId ((loopsOf (bodyOf Try.f136)).getD 0 .skip)) = some lp_slices_Concat_string_3 from by kernel_rfl]; exact fun d z h => (eb_slices_Concat_string_3 d.1 d.2.1 d.2.2.1 d.2.2.2.1 d.2.2.2.2.1).trans h), (by rw [show lookup pl_slices_Concat_string.loops (firstId ((loopsOf (bodyOf Try.f136)).getD 1 .skip)) = some lp_slices_Concat_string_11 from by kernel_rfl]; exact fun d z h => (eb_slices_Concat_string_11 d.1 d.2.1 d.2.2.1 d.2.2.2.1).trans h), trivial⟩) (fun x => ef_slices_Concat_string x.1)
noncomputable def pl_I_MarkedText_1 : Plan := ⟨[], [], 0, 0⟩
noncomputable def f_I_MarkedText_1 (t0 : PV Y_impl_Part) : Option (PVs [S_string] × PVs []) :=
  (f_I_endedAll t0.2.2.2.1).bind fun r1 =>
    (f_I_endedAll t0.2.2.2.2.1).bind fun r2 =>
      (f_slices_Concat_string [[[60, 60, 60, 10]], r1.1.1, [[61, 61, 61, 10]], r2.1.1, [[62, 62, 62, 10]]]).bind fun r3 =>
        some ((r3.1.1, ()), ())
noncomputable def ct_I_MarkedText_1 : Ct := ⟨[(.bor, Y_impl_Part)], [(S_string, (.row .b))], fun x => f_I_MarkedText_1 x.1⟩
noncomputable def cx_I_MarkedText_1 : Cx := ⟨tab, arrs, [(136, ct_slices_Concat_string), (137, ct_I_endedAll)], [], gl, []⟩
theorem ef_I_MarkedText_1 (t0 : PV Y_impl_Part) : denF cx_I_MarkedText_1 0 pl_I_MarkedText_1 Try.f135.ntmps (bodyOf Try.f135) Try.f135.results.toList [(.bor, Y_impl_Part)] [(S_string, (.row .b))] (t0, ()) = f_I_MarkedText_1 t0 := by kernel_rfl
theorem ok_I_MarkedText_1 : FnOk gl Try.prog 135 ct_I_MarkedText_1 :=
  fnOk (cx := cx_I_MarkedText_1) (pl := pl_I_MarkedText_1) (dp := 0) (ok0_of tabOk (by unfold ArrOk; kernel_rfl) mix ⟨ok_slices_Concat_string, ok_I_endedAll, trivial⟩ trivial) Try.func135 (by kernel_rfl) (by kernel_rfl) (by kernel_rfl)
    (by rw [show loopsOf (bodyOf Try.f135) = [] from by kernel_rfl]; exact trivial) (fun x => ef_I_MarkedText_1 x.1)
noncomputable def o_I_MarkedText_128_11 : List Out := [⟨.normal, ⟨[], [1, 5, 9, 10, 11], []⟩, mkSh 58 [(0, .val S_string .b), (1, .val S_string .b), (2, .val S_string .b), (6, .val .str .b), (7, .val .bool .b), (8, .val S_impl_Part .b), (9, .val .bool .b), (11, .val S_string .b), (12, .val S_string .b), (13, .val S_string .b), (15, .val S_impl_Part .b), (16, .val .bool .b), (17, .val .bool .b), (18, .val .bool .b), (19, .val S_impl_Part .b), (23, .fn 135 []), (27, .val S_string (.row .b)), (31, .val S_impl_Part .b), (32, .val (.int .i64) .b), (33, .val (.int .i64) .b)]⟩]
noncomputable def sh_I_MarkedText_128_3 : List Sh := mkSh 58 [(0, .val S_string .b), (1, .val S_string .b), (2, .val S_string .b), (6, .val .str .b), (7, .val .bool .b), (8, .val S_impl_Part .b), (9, .val .bool .b), (11, .val S_string .b), (12, .val S_string .b), (13, .val S_string .b), (15, .val S_impl_Part .b), (16, .val .bool .b), (17, .val .bool .b), (18, .val .bool .b), (19, .val S_impl_Part .b), (23, .fn 135 []), (27, .val S_string (.row .b)), (31, .val S_impl_Part .b), (32, .val (.int .i64) .b), (33, .val (.int .i64) .b)]
noncomputable def o_I_MarkedText_128_3 : List Out := [⟨.exit 0, ⟨[], [5], [10]⟩, mkSh 58 [(0, .val S_string .b), (1, .val S_string .b), (2, .val S_string .b), (6, .val .str .b), (7, .val .bool .b), (8, .val S_impl_Part .b), (9, .val .bool .b), (11, .val S_string .b), (12, .val S_string .b), (13, .val S_string .b), (15, .val S_impl_Part .b), (16, .val .bool .b), (17, .val .bool .b), (18, .val .bool .b), (19, .val S_impl_Part .b), (27, .val S_string (.row .b))]⟩]
noncomputable def b_I_MarkedText_128_3 (t0 : PV S_string) (t1 : PV S_string) (t2 : PV S_string) (t6 : PV .str) (t7 : PV .bool) (t8 : PV S_impl_Part) (t9 : PV .bool) (t11 : PV S_string) (t12 : PV S_string) (t13 : PV S_string) (t15 : PV S_impl_Part) (t16 : PV .bool) (t17 : PV .bool) (t18 : PV .bool) (t19 : PV S_impl_Part) (t27 : PV S_string) (t31 : PV S_impl_Part) (t32 : PV (.int .i64)) (t33 : PV (.int .i64)) : Option ((PV S_string × PV S_string × PV S_string × PV .str × PV .bool × PV S_impl_Part × PV .bool × PV S_string × PV S_string × PV S_string × PV S_impl_Part × PV .bool × PV .bool × PV .bool × PV S_impl_Part × PV S_string × PV S_impl_Part × PV (.int .i64) × PV (.int .i64) × Unit) ⊕ ((PV S_string × PV S_string × PV S_string × PV .str × PV .bool × PV S_impl_Part × PV .bool × PV S_string × PV S_string × PV S_string × PV S_impl_Part × PV .bool × PV .bool × PV .bool × PV S_impl_Part × PV S_string × Unit))) :=
  bif (decide (t33 < t32)) then
    ((
        bif inB t33 t31.length then
          bif (((t31.getD t33.toNat (dflt Y_impl_Part)).1) == 5) then
            (f_I_MarkedText_1 (t31.getD t33.toNat (dflt Y_impl_Part))).bind fun r3 =>
              bif roomB (t27.length + r3.1.1.length) then
                some (t0, t1, t2, t6, t7, t8, t9, t11, t12, t13, t15, t16, t17, t18, t19, (t27 ++ r3.1.1), t31, t32, t33, ())
              else
                none
          else
            bif (((t31.getD t33.toNat (dflt Y_impl_Part)).1) == 3) then
              bif roomB (t27.length + ((((((t31.getD t33.toNat (dflt Y_impl_Part)).2).2).2).2).1).length) then
                some (t0, t1, t2, t6, t7, t8, t9, t11, t12, t13, t15, t16, t17, t18, t19, (t27 ++ ((((((t31.getD t33.toNat (dflt Y_impl_Part)).2).2).2).2).1)), t31, t32, t33, ())
              else
                none
            else
              bif roomB (t27.length + (((((t31.getD t33.toNat (dflt Y_impl_Part)).2).2).2).1).length) then
                some (t0, t1, t2, t6, t7, t8, t9, t11, t12, t13, t15, t16, t17, t18, t19, (t27 ++ (((((t31.getD t33.toNat (dflt Y_impl_Part)).2).2).2).1)), t31, t32, t33, ())
              else
                none
        else
          none : Option ((PV S_string × PV S_string × PV S_string × PV .str × PV .bool × PV S_impl_Part × PV .bool × PV S_string × PV S_string × PV S_string × PV S_impl_Part × PV .bool × PV .bool × PV .bool × PV S_impl_Part × PV S_string × PV S_impl_Part × PV (.int .i64) × PV (.int .i64) × Unit)))).bind fun j4 =>
      some (.inl (j4.1, j4.2.1, j4.2.2.1, j4.2.2.2.1, j4.2.2.2.2.1, j4.2.2.2.2.2.1, j4.2.2.2.2.2.2.1, j4.2.2.2.2.2.2.2.1, j4.2.2.2.2.2.2.2.2.1, j4.2.2.2.2.2.2.2.2.2.1, j4.2.2.2.2.2.2.2.2.2.2.1, j4.2.2.2.2.2.2.2.2.2.2.2.1, j4.2.2.2.2.2.2.2.2.2.2.2.2.1, j4.2.2.2.2.2.2.2.2.2.2.2.2.2.1, j4.2.2.2.2.2.2.2.2.2.2.2.2.2.2.1, j4.2.2.2.2.2.2.2.2.2.2.2.2.2.2.2.1, j4.2.2.2.2.2.2.2.2.2.2.2.2.2.2.2.2.1, j4.2.2.2.2.2.2.2.2.2.2.2.2.2.2.2.2.2.1, (IntKind.wrap .i64 (j4.2.2.2.2.2.2.2.2.2.2.2.2.2.2.2.2.2.2.1 + 1)), ()))
  else
    some (.inr (t0, t1, t2, t6, t7, t8, t9, t11, t12, t13, t15, t16, t17, t18, t19, t27, ()))
noncomputable def w_I_MarkedText_128_3 : PV S_string × PV S_string × PV S_string × PV .str × PV .bool × PV S_impl_Part × PV .bool × PV S_string × PV S_string × PV S_string × PV S_impl_Part × PV .bool × PV .bool × PV .bool × PV S_impl_Part × PV S_string × PV S_impl_Part × PV (.int .i64) × PV (.int .i64) × Unit → Option ((PV S_string × PV S_string × PV S_string × PV .str × PV .bool × PV S_impl_Part × PV .bool × PV S_string × PV S_string × PV S_string × PV S_impl_Part × PV .bool × PV .bool × PV .bool × PV S_impl_Part × PV S_string × Unit)) := fix fun d => b_I_MarkedText_128_3 d.1 d.2.1 d.2.2.1 d.2.2.2.1 d.2.2.2.2.1 d.2.2.2.2.2.1 d.2.2.2.2.2.2.1 d.2.2.2.2.2.2.2.1 d.2.2.2.2.2.2.2.2.1 d.2.2.2.2.2.2.2.2.2.1 d.2.2.2.2.2.2.2.2.2.2.1 d.2.2.2.2.2.2.2.2.2.2.2.1 d.2.2.2.2.2.2.2.2.2.2.2.2.1 d.2.2.2.2.2.2.2.2.2.2.2.2.2.1 d.2.2.2.2.2.2.2.2.2.2.2.2.2.2.1 d.2.2.2.2.2.2.2.2.2.2.2.2.2.2.2.1 d.2.2.2.2.2.2.2.2.2.2.2.2.2.2.2.2.1 d.2.2.2.2.2.2.2.2.2.2.2.2.2.2.2.2.2.1 d.2.2.2.2.2.2.2.2.2.2.2.2.2.2.2.2.2.2.1
noncomputable def lp_I_MarkedText_128_3 : Lp := ⟨⟨[], [1, 5, 9, 10, 11], [10]⟩, sh_I_MarkedText_128_3, o_I_MarkedText_128_3, fun d => b_I_MarkedText_128_3 d.1 d.2.1 d.2.2.1 d.2.2.2.1 d.2.2.2.2.1 d.2.2.2.2.2.1 d.2.2.2.2.2.2.1 d.2.2.2.2.2.2.2.1 d.2.2.2.2.2.2.2.2.1 d.2.2.2.2.2.2.2.2.2.1 d.2.2.2.2.2.2.2.2.2.2.1 d.2.2.2.2.2.2.2.2.2.2.2.1 d.2.2.2.2.2.2.2.2.2.2.2.2.1 d.2.2.2.2.2.2.2.2.2.2.2.2.2.1 d.2.2.2.2.2.2.2.2.2.2.2.2.2.2.1 d.2.2.2.2.2.2.2.2.2.2.2.2.2.2.2.1 d.2.2.2.2.2.2.2.2.2.2.2.2.2.2.2.2.1 d.2.2.2.2.2.2.2.2.2.2.2.2.2.2.2.2.2.1 d.2.2.2.2.2.2.2.2.2.2.2.2.2.2.2.2.2.2.1⟩
noncomputable def pl_I_MarkedText_128 : Plan := ⟨[(11, o_I_MarkedText_128_11)], [(3, lp_I_MarkedText_128_3)], 0, 22⟩
noncomputable def pl_I_MarkedText : Plan := ⟨[], [], 1, 0⟩
noncomputable def f_I_MarkedText (t0 : PV S_string) (t1 : PV S_string) (t2 : PV S_string) : Option (PVs [.str, .bool] × PVs []) :=
  (f_I_PartsOf t0 t1 t2).bind fun r2 =>
    bif (!r2.1.2.1) then
      some (([], false, ()), ())
    else
      (w_I_MarkedText_128_3 (t0, t1, t2, [], false, r2.1.1, r2.1.2.1, t0, t1, t2, r2.1.1, r2.1.2.1, r2.1.2.1, (!r2.1.2.1), r2.1.1, ([] : PV S_string), r2.1.1, (r2.1.1.length : Int), 0, ())).bind fun l6 =>
        (f_strings_Join l6.2.2.2.2.2.2.2.2.2.2.2.2.2.2.2.1 []).bind fun r7 =>
          some ((r7.1.1, true, ()), ())
noncomputable def ct_I_MarkedText : Ct := ⟨[(.bor, S_string), (.bor, S_string), (.bor, S_string)], [(.str, .b), (.bool, .b)], fun x => f_I_MarkedText x.1 x.2.1 x.2.2.1⟩
noncomputable def cx_I_MarkedText : Cx := ⟨tab, arrs, [(58, ct_I_PartsOf), (134, ct_strings_Join), (135, ct_I_MarkedText_1)], [(128, Try.f128, pl_I_MarkedText_128)], gl, []⟩
theorem eb_I_MarkedText_128_3 (t0 : PV S_string) (t1 : PV S_string) (t2 : PV S_string) (t6 : PV .str) (t7 : PV .bool) (t8 : PV S_impl_Part) (t9 : PV .bool) (t11 : PV S_string) (t12 : PV S_string) (t13 : PV S_string) (t15 : PV S_impl_Part) (t16 : PV .bool) (t17 : PV .bool) (t18 : PV .bool) (t19 : PV S_impl_Part) (t27 : PV S_string) (t31 : PV S_impl_Part) (t32 : PV (.int .i64)) (t33 : PV (.int .i64)) : denK cx_I_MarkedText (rcN cx_I_MarkedText 0) pl_I_MarkedText_128 22 ((loopsOf (bodyOf Try.f128)).getD 0 .skip) (fillS sh_I_MarkedText_128_3 (t0, t1, t2, t6, t7, t8, t9, t11, t12, t13, t15, t16, t17, t18, t19, t27, t31, t32, t33, ())) (roundK 22 lp_I_MarkedText_128_3) = b_I_MarkedText_128_3 t0 t1 t2 t6 t7 t8 t9 t11 t12 t13 t15 t16 t17 t18 t19 t27 t31 t32 t33 := by kernel_rfl
theorem ef_I_MarkedText (t0 : PV S_string) (t1 : PV S_string) (t2 : PV S_string) : denF cx_I_MarkedText 1 pl_I_MarkedText Try.f63.ntmps (bodyOf Try.f63) Try.f63.results.toList [(.bor, S_string), (.bor, S_string), (.bor, S_string)] [(.str, .b), (.bool, .b)] (t0, t1, t2, ()) = f_I_MarkedText t0 t1 t2 := by kernel_rfl
theorem ok_I_MarkedText : FnOk gl Try.prog 63 ct_I_MarkedText :=
  fnOk (cx := cx_I_MarkedText) (pl := pl_I_MarkedText) (dp := 1) (ok0_of tabOk (by unfold ArrOk; kernel_rfl) mix ⟨ok_I_PartsOf, ok_strings_Join, ok_I_MarkedText_1, trivial⟩ ⟨⟨Try.func128, by kernel_rfl, (by rw [show loopsOf (bodyOf Try.f128) = [((loopsOf (bodyOf Try.f128)).getD 0 .skip)] from by kernel_rfl]; exact ⟨(by rw [show lookup pl_I_MarkedText_128.loops (firstId ((loopsOf (bodyOf Try.f128)).getD 0 .skip)) = some lp_I_MarkedText_128_3 from by kernel_rfl]; exact fun d z h => (eb_I_MarkedText_128_3 d.1 d.2.1 d.2.2.1 d.2.2.2.1 d.2.2.2.2.1 d.2.2.2.2.2.1 d.2.2.2.2.2.2.1 d.2.2.2.2.2.2.2.1 d.2.2.2.2.2.2.2.2.1 d.2.2.2.2.2.2.2.2.2.1 d.2.2.2.2.2.2.2.2.2.2.1 d.2.2.2.2.2.2.2.2.2.2.2.1 d.2.2.2.2.2.2.2.2.2.2.2.2.1 d.2.2.2.2.2.2.2.2.2.2.2.2.2.1 d.2.2.2.2.2.2.2.2.2.2.2.2.2.2.1 d.2.2.2.2.2.2.2.2.2.2.2.2.2.2.2.1 d.2.2.2.2.2.2.2.2.2.2.2.2.2.2.2.2.1 d.2.2.2.2.2.2.2.2.2.2.2.2.2.2.2.2.2.1 d.2.2.2.2.2.2.2.2.2.2.2.2.2.2.2.2.2.2.1).trans h), trivial⟩)⟩, trivial⟩) Try.func63 (by kernel_rfl) (by kernel_rfl) (by kernel_rfl)
    (by rw [show loopsOf (bodyOf Try.f63) = [] from by kernel_rfl]; exact trivial) (fun x => ef_I_MarkedText x.1 x.2.1 x.2.2.1)
noncomputable def o_L_FnExactMarkedText_17 : List Out := [⟨.normal, ⟨[], [0, 1, 2, 10, 11, 12, 60], []⟩, mkSh 76 [(0, .val S_string .b), (1, .val S_string .b), (2, .val S_string .b), (10, .val S_string (.row .b)), (11, .val S_string (.row .b)), (12, .val S_string (.row .b)), (60, .val .bool .b)]⟩]
noncomputable def pl_L_FnExactMarkedText : Plan := ⟨[(17, o_L_FnExactMarkedText_17)], [], 0, 0⟩
noncomputable def f_L_FnExactMarkedText (t0 : PV S_string) (t1 : PV S_string) (t2 : PV S_string) : Option (PVs [.bool] × PVs []) :=
  (f_L_szStringS t0 1048576).bind fun r2 =>
    bif (decide (r2.1.1 < 0)) then
      some ((true, ()), ())
    else
      (f_L_szStringS t1 r2.1.1).bind fun r4 =>
        bif (decide (r4.1.1 < 0)) then
          some ((true, ()), ())
        else
          (f_L_szStringS t2 r4.1.1).bind fun r6 =>
            bif (decide (r6.1.1 < 0)) then
              some ((true, ()), ())
            else
              (f_L_toStringS t0).bind fun r11 =>
                (f_L_toStringS t1).bind fun r12 =>
                  (f_L_toStringS t2).bind fun r13 =>
                    (f_S_MarkedText r11.1.1 r12.1.1 r13.1.1).bind fun r14 =>
                      (f_L_toStringS t0).bind fun r16 =>
                        (f_L_toStringS t1).bind fun r18 =>
                          (f_L_toStringS t2).bind fun r20 =>
                            (f_I_MarkedText r16.1.1 r18.1.1 r20.1.1).bind fun r22 =>
                              ((
                                  bif (!(r22.1.1 == r14.1.1)) then
                                    some (t0, t1, t2, r16.1.1, r18.1.1, r20.1.1, true, ())
                                  else
                                    some (t0, t1, t2, r16.1.1, r18.1.1, r20.1.1, (!(r22.1.2.1 == r14.1.2.1)), ()) : Option ((PV S_string × PV S_string × PV S_string × PV S_string × PV S_string × PV S_string × PV .bool × Unit)))).bind fun j24 =>
                                bif j24.2.2.2.2.2.2.1 then
                                  some ((false, ()), ())
                                else
                                  (f_L_toStringS j24.1).bind fun r31 =>
                                    (f_L_eqStringS j24.2.2.2.1 r31.1.1).bind fun r32 =>
                                      bif (!r32.1.1) then
                                        some ((false, ()), ())
                                      else
                                        (f_L_toStringS j24.2.1).bind fun r39 =>
                                          (f_L_eqStringS j24.2.2.2.2.1 r39.1.1).bind fun r40 =>
                                            bif (!r40.1.1) then
                                              some ((false, ()), ())
                                            else
                                              (f_L_toStringS j24.2.2.1).bind fun r47 =>
                                                (f_L_eqStringS j24.2.2.2.2.2.1 r47.1.1).bind fun r48 =>
                                                  bif (!r48.1.1) then
                                                    some ((false, ()), ())
                                                  else
                                                    some ((true, ()), ())
noncomputable def ct_L_FnExactMarkedText : Ct := ⟨[(.bor, S_string), (.bor, S_string), (.bor, S_string)], [(.bool, .b)], fun x => f_L_FnExactMarkedText x.1 x.2.1 x.2.2.1⟩
noncomputable def cx_L_FnExactMarkedText : Cx := ⟨tab, arrs, [(21, ct_L_szStringS), (24, ct_L_toStringS), (27, ct_L_eqStringS), (62, ct_S_MarkedText), (63, ct_I_MarkedText)], [], gl, []⟩
theorem ef_L_FnExactMarkedText (t0 : PV S_string) (t1 : PV S_string) (t2 : PV S_string) : denF cx_L_FnExactMarkedText 0 pl_L_FnExactMarkedText Try.f11.ntmps (bodyOf Try.f11) Try.f11.results.toList [(.bor, S_string), (.bor, S_string), (.bor, S_string)] [(.bool, .b)] (t0, t1, t2, ()) = f_L_FnExactMarkedText t0 t1 t2 := by kernel_rfl
theorem ok_L_FnExactMarkedText : FnOk gl Try.prog 11 ct_L_FnExactMarkedText :=
  fnOk (cx := cx_L_FnExactMarkedText) (pl := pl_L_FnExactMarkedText) (dp := 0) (ok0_of tabOk (by unfold ArrOk; kernel_rfl) mix ⟨ok_L_szStringS, ok_L_toStringS, ok_L_eqStringS, ok_S_MarkedText, ok_I_MarkedText, trivial⟩ trivial) Try.func11 (by kernel_rfl) (by kernel_rfl) (by kernel_rfl)
    (by rw [show loopsOf (bodyOf Try.f11) = [] from by kernel_rfl]; exact trivial) (fun x => ef_L_FnExactMarkedText x.1 x.2.1 x.2.2.1)
end R
