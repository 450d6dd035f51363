/- The functions, part 2. -/
import Derived.Test.YtmdlfpmkghkakaaPaR1
open Go Go.Dn Go.Proofs
namespace R
set_option linter.unusedVariables false
set_option maxRecDepth 20000
open Go.Shelf
noncomputable def sh_L_markPartS_2 : List Sh := mkSh 49 [(0, .val S_impl_Part (.row (.pr .b (.pr .b (.pr .b (.pr (.row .b) (.pr (.row .b) .b))))))), (1, .sub ⟨0, [], 0, 0⟩), (2, .val (.int .i64) .b), (6, .val (.int .i64) .b)]
noncomputable def o_L_markPartS_2 : List Out := [⟨.exit 0, ⟨[], [1]⟩, mkSh 49 [(0, .val S_impl_Part (.row (.pr .b (.pr .b (.pr .b (.pr (.row .b) (.pr (.row .b) .b))))))), (2, .val (.int .i64) .b)]⟩]
noncomputable def b_L_markPartS_2 (t0 : PV S_impl_Part) (t2 : PV (.int .i64)) (t6 : PV (.int .i64)) : Option ((PV S_impl_Part × PV (.int .i64) × PV (.int .i64) × Unit) ⊕ ((PV S_impl_Part × PV (.int .i64) × Unit))) :=
  bif (decide (t6 < (t0.length : Int))) then
    bif inB t6 t0.length then
      bif inB t6 (t0.set t6.toNat (t2, (t0.getD t6.toNat (dflt Y_impl_Part)).2)).length then
        bif inB t6 ((t0.set t6.toNat (t2, (t0.getD t6.toNat (dflt Y_impl_Part)).2)).set t6.toNat (((t0.set t6.toNat (t2, (t0.getD t6.toNat (dflt Y_impl_Part)).2)).getD t6.toNat (dflt Y_impl_Part)).1, ((IntKind.wrap .i64 (t2 + 1)), (((t0.set t6.toNat (t2, (t0.getD t6.toNat (dflt Y_impl_Part)).2)).getD t6.toNat (dflt Y_impl_Part)).2).2))).length then
          bif inB t6 (((t0.set t6.toNat (t2, (t0.getD t6.toNat (dflt Y_impl_Part)).2)).set t6.toNat (((t0.set t6.toNat (t2, (t0.getD t6.toNat (dflt Y_impl_Part)).2)).getD t6.toNat (dflt Y_impl_Part)).1, ((IntKind.wrap .i64 (t2 + 1)), (((t0.set t6.toNat (t2, (t0.getD t6.toNat (dflt Y_impl_Part)).2)).getD t6.toNat (dflt Y_impl_Part)).2).2))).set t6.toNat ((((t0.set t6.toNat (t2, (t0.getD t6.toNat (dflt Y_impl_Part)).2)).set t6.toNat (((t0.set t6.toNat (t2, (t0.getD t6.toNat (dflt Y_impl_Part)).2)).getD t6.toNat (dflt Y_impl_Part)).1, ((IntKind.wrap .i64 (t2 + 1)), (((t0.set t6.toNat (t2, (t0.getD t6.toNat (dflt Y_impl_Part)).2)).getD t6.toNat (dflt Y_impl_Part)).2).2))).getD t6.toNat (dflt Y_impl_Part)).1, (((((t0.set t6.toNat (t2, (t0.getD t6.toNat (dflt Y_impl_Part)).2)).set t6.toNat (((t0.set t6.toNat (t2, (t0.getD t6.toNat (dflt Y_impl_Part)).2)).getD t6.toNat (dflt Y_impl_Part)).1, ((IntKind.wrap .i64 (t2 + 1)), (((t0.set t6.toNat (t2, (t0.getD t6.toNat (dflt Y_impl_Part)).2)).getD t6.toNat (dflt Y_impl_Part)).2).2))).getD t6.toNat (dflt Y_impl_Part)).2).1, ((IntKind.wrap .i64 ((IntKind.wrap .i64 (t2 + 1)) + 1)), (((((t0.set t6.toNat (t2, (t0.getD t6.toNat (dflt Y_impl_Part)).2)).set t6.toNat (((t0.set t6.toNat (t2, (t0.getD t6.toNat (dflt Y_impl_Part)).2)).getD t6.toNat (dflt Y_impl_Part)).1, ((IntKind.wrap .i64 (t2 + 1)), (((t0.set t6.toNat (t2, (t0.getD t6.toNat (dflt Y_impl_Part)).2)).getD t6.toNat (dflt Y_impl_Part)).2).2))).getD t6.toNat (dflt Y_impl_Part)).2).2).2)))).length then
            (f_L_markStringS ((((((((t0.set t6.toNat (t2, (t0.getD t6.toNat (dflt Y_impl_Part)).2)).set t6.toNat (((t0.set t6.toNat (t2, (t0.getD t6.toNat (dflt Y_impl_Part)).2)).getD t6.toNat (dflt Y_impl_Part)).1, ((IntKind.wrap .i64 (t2 + 1)), (((t0.set t6.toNat (t2, (t0.getD t6.toNat (dflt Y_impl_Part)).2)).getD t6.toNat (dflt Y_impl_Part)).2).2))).set t6.toNat ((((t0.set t6.toNat (t2, (t0.getD t6.toNat (dflt Y_impl_Part)).2)).set t6.toNat (((t0.set t6.toNat (t2, (t0.getD t6.toNat (dflt Y_impl_Part)).2)).getD t6.toNat (dflt Y_impl_Part)).1, ((IntKind.wrap .i64 (t2 + 1)), (((t0.set t6.toNat (t2, (t0.getD t6.toNat (dflt Y_impl_Part)).2)).getD t6.toNat (dflt Y_impl_Part)).2).2))).getD t6.toNat (dflt Y_impl_Part)).1, (((((t0.set t6.toNat (t2, (t0.getD t6.toNat (dflt Y_impl_Part)).2)).set t6.toNat (((t0.set t6.toNat (t2, (t0.getD t6.toNat (dflt Y_impl_Part)).2)).getD t6.toNat (dflt Y_impl_Part)).1, ((IntKind.wrap .i64 (t2 + 1)), (((t0.set t6.toNat (t2, (t0.getD t6.toNat (dflt Y_impl_Part)).2)).getD t6.toNat (dflt Y_impl_Part)).2).2))).getD t6.toNat (dflt Y_impl_Part)).2).1, ((IntKind.wrap .i64 ((IntKind.wrap .i64 (t2 + 1)) + 1)), (((((t0.set t6.toNat (t2, (t0.getD t6.toNat (dflt Y_impl_Part)).2)).set t6.toNat (((t0.set t6.toNat (t2, (t0.getD t6.toNat (dflt Y_impl_Part)).2)).getD t6.toNat (dflt Y_impl_Part)).1, ((IntKind.wrap .i64 (t2 + 1)), (((t0.set t6.toNat (t2, (t0.getD t6.toNat (dflt Y_impl_Part)).2)).getD t6.toNat (dflt Y_impl_Part)).2).2))).getD t6.toNat (dflt Y_impl_Part)).2).2).2)))).getD t6.toNat (dflt Y_impl_Part)).2).2).2).1) (IntKind.wrap .i64 ((IntKind.wrap .i64 ((IntKind.wrap .i64 (t2 + 1)) + 1)) + 1))).bind fun r5 =>
              bif inB t6 ((((t0.set t6.toNat (t2, (t0.getD t6.toNat (dflt Y_impl_Part)).2)).set t6.toNat (((t0.set t6.toNat (t2, (t0.getD t6.toNat (dflt Y_impl_Part)).2)).getD t6.toNat (dflt Y_impl_Part)).1, ((IntKind.wrap .i64 (t2 + 1)), (((t0.set t6.toNat (t2, (t0.getD t6.toNat (dflt Y_impl_Part)).2)).getD t6.toNat (dflt Y_impl_Part)).2).2))).set t6.toNat ((((t0.set t6.toNat (t2, (t0.getD t6.toNat (dflt Y_impl_Part)).2)).set t6.toNat (((t0.set t6.toNat (t2, (t0.getD t6.toNat (dflt Y_impl_Part)).2)).getD t6.toNat (dflt Y_impl_Part)).1, ((IntKind.wrap .i64 (t2 + 1)), (((t0.set t6.toNat (t2, (t0.getD t6.toNat (dflt Y_impl_Part)).2)).getD t6.toNat (dflt Y_impl_Part)).2).2))).getD t6.toNat (dflt Y_impl_Part)).1, (((((t0.set t6.toNat (t2, (t0.getD t6.toNat (dflt Y_impl_Part)).2)).set t6.toNat (((t0.set t6.toNat (t2, (t0.getD t6.toNat (dflt Y_impl_Part)).2)).getD t6.toNat (dflt Y_impl_Part)).1, ((IntKind.wrap .i64 (t2 + 1)), (((t0.set t6.toNat (t2, (t0.getD t6.toNat (dflt Y_impl_Part)).2)).getD t6.toNat (dflt Y_impl_Part)).2).2))).getD t6.toNat (dflt Y_impl_Part)).2).1, ((IntKind.wrap .i64 ((IntKind.wrap .i64 (t2 + 1)) + 1)), (((((t0.set t6.toNat (t2, (t0.getD t6.toNat (dflt Y_impl_Part)).2)).set t6.toNat (((t0.set t6.toNat (t2, (t0.getD t6.toNat (dflt Y_impl_Part)).2)).getD t6.toNat (dflt Y_impl_Part)).1, ((IntKind.wrap .i64 (t2 + 1)), (((t0.set t6.toNat (t2, (t0.getD t6.toNat (dflt Y_impl_Part)).2)).getD t6.toNat (dflt Y_impl_Part)).2).2))).getD t6.toNat (dflt Y_impl_Part)).2).2).2)))).set t6.toNat (((((t0.set t6.toNat (t2, (t0.getD t6.toNat (dflt Y_impl_Part)).2)).set t6.toNat (((t0.set t6.toNat (t2, (t0.getD t6.toNat (dflt Y_impl_Part)).2)).getD t6.toNat (dflt Y_impl_Part)).1, ((IntKind.wrap .i64 (t2 + 1)), (((t0.set t6.toNat (t2, (t0.getD t6.toNat (dflt Y_impl_Part)).2)).getD t6.toNat (dflt Y_impl_Part)).2).2))).set t6.toNat ((((t0.set t6.toNat (t2, (t0.getD t6.toNat (dflt Y_impl_Part)).2)).set t6.toNat (((t0.set t6.toNat (t2, (t0.getD t6.toNat (dflt Y_impl_Part)).2)).getD t6.toNat (dflt Y_impl_Part)).1, ((IntKind.wrap .i64 (t2 + 1)), (((t0.set t6.toNat (t2, (t0.getD t6.toNat (dflt Y_impl_Part)).2)).getD t6.toNat (dflt Y_impl_Part)).2).2))).getD t6.toNat (dflt Y_impl_Part)).1, (((((t0.set t6.toNat (t2, (t0.getD t6.toNat (dflt Y_impl_Part)).2)).set t6.toNat (((t0.set t6.toNat (t2, (t0.getD t6.toNat (dflt Y_impl_Part)).2)).getD t6.toNat (dflt Y_impl_Part)).1, ((IntKind.wrap .i64 (t2 + 1)), (((t0.set t6.toNat (t2, (t0.getD t6.toNat (dflt Y_impl_Part)).2)).getD t6.toNat (dflt Y_impl_Part)).2).2))).getD t6.toNat (dflt Y_impl_Part)).2).1, ((IntKind.wrap .i64 ((IntKind.wrap .i64 (t2 + 1)) + 1)), (((((t0.set t6.toNat (t2, (t0.getD t6.toNat (dflt Y_impl_Part)).2)).set t6.toNat (((t0.set t6.toNat (t2, (t0.getD t6.toNat (dflt Y_impl_Part)).2)).getD t6.toNat (dflt Y_impl_Part)).1, ((IntKind.wrap .i64 (t2 + 1)), (((t0.set t6.toNat (t2, (t0.getD t6.toNat (dflt Y_impl_Part)).2)).getD t6.toNat (dflt Y_impl_Part)).2).2))).getD t6.toNat (dflt Y_impl_Part)).2).2).2)))).getD t6.toNat (dflt Y_impl_Part)).1, ((((((t0.set t6.toNat (t2, (t0.getD t6.toNat (dflt Y_impl_Part)).2)).set t6.toNat (((t0.set t6.toNat (t2, (t0.getD t6.toNat (dflt Y_impl_Part)).2)).getD t6.toNat (dflt Y_impl_Part)).1, ((IntKind.wrap .i64 (t2 + 1)), (((t0.set t6.toNat (t2, (t0.getD t6.toNat (dflt Y_impl_Part)).2)).getD t6.toNat (dflt Y_impl_Part)).2).2))).set t6.toNat ((((t0.set t6.toNat (t2, (t0.getD t6.toNat (dflt Y_impl_Part)).2)).set t6.toNat (((t0.set t6.toNat (t2, (t0.getD t6.toNat (dflt Y_impl_Part)).2)).getD t6.toNat (dflt Y_impl_Part)).1, ((IntKind.wrap .i64 (t2 + 1)), (((t0.set t6.toNat (t2, (t0.getD t6.toNat (dflt Y_impl_Part)).2)).getD t6.toNat (dflt Y_impl_Part)).2).2))).getD t6.toNat (dflt Y_impl_Part)).1, (((((t0.set t6.toNat (t2, (t0.getD t6.toNat (dflt Y_impl_Part)).2)).set t6.toNat (((t0.set t6.toNat (t2, (t0.getD t6.toNat (dflt Y_impl_Part)).2)).getD t6.toNat (dflt Y_impl_Part)).1, ((IntKind.wrap .i64 (t2 + 1)), (((t0.set t6.toNat (t2, (t0.getD t6.toNat (dflt Y_impl_Part)).2)).getD t6.toNat (dflt Y_impl_Part)).2).2))).getD t6.toNat (dflt Y_impl_Part)).2).1, ((IntKind.wrap .i64 ((IntKind.wrap .i64 (t2 + 1)) + 1)), (((((t0.set t6.toNat (t2, (t0.getD t6.toNat (dflt Y_impl_Part)).2)).set t6.toNat (((t0.set t6.toNat (t2, (t0.getD t6.toNat (dflt Y_impl_Part)).2)).getD t6.toNat (dflt Y_impl_Part)).1, ((IntKind.wrap .i64 (t2 + 1)), (((t0.set t6.toNat (t2, (t0.getD t6.toNat (dflt Y_impl_Part)).2)).getD t6.toNat (dflt Y_impl_Part)).2).2))).getD t6.toNat (dflt Y_impl_Part)).2).2).2)))).getD t6.toNat (dflt Y_impl_Part)).2).1, (((((((t0.set t6.toNat (t2, (t0.getD t6.toNat (dflt Y_impl_Part)).2)).set t6.toNat (((t0.set t6.toNat (t2, (t0.getD t6.toNat (dflt Y_impl_Part)).2)).getD t6.toNat (dflt Y_impl_Part)).1, ((IntKind.wrap .i64 (t2 + 1)), (((t0.set t6.toNat (t2, (t0.getD t6.toNat (dflt Y_impl_Part)).2)).getD t6.toNat (dflt Y_impl_Part)).2).2))).set t6.toNat ((((t0.set t6.toNat (t2, (t0.getD t6.toNat (dflt Y_impl_Part)).2)).set t6.toNat (((t0.set t6.toNat (t2, (t0.getD t6.toNat (dflt Y_impl_Part)).2)).getD t6.toNat (dflt Y_impl_Part)).1, ((IntKind.wrap .i64 (t2 + 1)), (((t0.set t6.toNat (t2, (t0.getD t6.toNat (dflt Y_impl_Part)).2)).getD t6.toNat (dflt Y_impl_Part)).2).2))).getD t6.toNat (dflt Y_impl_Part)).1, (((((t0.set t6.toNat (t2, (t0.getD t6.toNat (dflt Y_impl_Part)).2)).set t6.toNat (((t0.set t6.toNat (t2, (t0.getD t6.toNat (dflt Y_impl_Part)).2)).getD t6.toNat (dflt Y_impl_Part)).1, ((IntKind.wrap .i64 (t2 + 1)), (((t0.set t6.toNat (t2, (t0.getD t6.toNat (dflt Y_impl_Part)).2)).getD t6.toNat (dflt Y_impl_Part)).2).2))).getD t6.toNat (dflt Y_impl_Part)).2).1, ((IntKind.wrap .i64 ((IntKind.wrap .i64 (t2 + 1)) + 1)), (((((t0.set t6.toNat (t2, (t0.getD t6.toNat (dflt Y_impl_Part)).2)).set t6.toNat (((t0.set t6.toNat (t2, (t0.getD t6.toNat (dflt Y_impl_Part)).2)).getD t6.toNat (dflt Y_impl_Part)).1, ((IntKind.wrap .i64 (t2 + 1)), (((t0.set t6.toNat (t2, (t0.getD t6.toNat (dflt Y_impl_Part)).2)).getD t6.toNat (dflt Y_impl_Part)).2).2))).getD t6.toNat (dflt Y_impl_Part)).2).2).2)))).getD t6.toNat (dflt Y_impl_Part)).2).2).1, (r5.2.1, (((((((t0.set t6.toNat (t2, (t0.getD t6.toNat (dflt Y_impl_Part)).2)).set t6.toNat (((t0.set t6.toNat (t2, (t0.getD t6.toNat (dflt Y_impl_Part)).2)).getD t6.toNat (dflt Y_impl_Part)).1, ((IntKind.wrap .i64 (t2 + 1)), (((t0.set t6.toNat (t2, (t0.getD t6.toNat (dflt Y_impl_Part)).2)).getD t6.toNat (dflt Y_impl_Part)).2).2))).set t6.toNat ((((t0.set t6.toNat (t2, (t0.getD t6.toNat (dflt Y_impl_Part)).2)).set t6.toNat (((t0.set t6.toNat (t2, (t0.getD t6.toNat (dflt Y_impl_Part)).2)).getD t6.toNat (dflt Y_impl_Part)).1, ((IntKind.wrap .i64 (t2 + 1)), (((t0.set t6.toNat (t2, (t0.getD t6.toNat (dflt Y_impl_Part)).2)).getD t6.toNat (dflt Y_impl_Part)).2).2))).getD t6.toNat (dflt Y_impl_Part)).1, (((((t0.set t6.toNat (t2, (t0.getD t6.toNat (dflt Y_impl_Part)).2)).set t6.toNat (((t0.set t6.toNat (t2, (t0.getD t6.toNat (dflt Y_impl_Part)).2)).getD t6.toNat (dflt Y_impl_Part)).1, ((IntKind.wrap .i64 (t2 + 1)), (((t0.set t6.toNat (t2, (t0.getD t6.toNat (dflt Y_impl_Part)).2)).getD t6.toNat (dflt Y_impl_Part)).2).2))).getD t6.toNat (dflt Y_impl_Part)).2).1, ((IntKind.wrap .i64 ((IntKind.wrap .i64 (t2 + 1)) + 1)), (((((t0.set t6.toNat (t2, (t0.getD t6.toNat (dflt Y_impl_Part)).2)).set t6.toNat (((t0.set t6.toNat (t2, (t0.getD t6.toNat (dflt Y_impl_Part)).2)).getD t6.toNat (dflt Y_impl_Part)).1, ((IntKind.wrap .i64 (t2 + 1)), (((t0.set t6.toNat (t2, (t0.getD t6.toNat (dflt Y_impl_Part)).2)).getD t6.toNat (dflt Y_impl_Part)).2).2))).getD t6.toNat (dflt Y_impl_Part)).2).2).2)))).getD t6.toNat (dflt Y_impl_Part)).2).2).2).2))))).length then
                (f_L_markStringS ((((((((((t0.set t6.toNat (t2, (t0.getD t6.toNat (dflt Y_impl_Part)).2)).set t6.toNat (((t0.set t6.toNat (t2, (t0.getD t6.toNat (dflt Y_impl_Part)).2)).getD t6.toNat (dflt Y_impl_Part)).1, ((IntKind.wrap .i64 (t2 + 1)), (((t0.set t6.toNat (t2, (t0.getD t6.toNat (dflt Y_impl_Part)).2)).getD t6.toNat (dflt Y_impl_Part)).2).2))).set t6.toNat ((((t0.set t6.toNat (t2, (t0.getD t6.toNat (dflt Y_impl_Part)).2)).set t6.toNat (((t0.set t6.toNat (t2, (t0.getD t6.toNat (dflt Y_impl_Part)).2)).getD t6.toNat (dflt Y_impl_Part)).1, ((IntKind.wrap .i64 (t2 + 1)), (((t0.set t6.toNat (t2, (t0.getD t6.toNat (dflt Y_impl_Part)).2)).getD t6.toNat (dflt Y_impl_Part)).2).2))).getD t6.toNat (dflt Y_impl_Part)).1, (((((t0.set t6.toNat (t2, (t0.getD t6.toNat (dflt Y_impl_Part)).2)).set t6.toNat (((t0.set t6.toNat (t2, (t0.getD t6.toNat (dflt Y_impl_Part)).2)).getD t6.toNat (dflt Y_impl_Part)).1, ((IntKind.wrap .i64 (t2 + 1)), (((t0.set t6.toNat (t2, (t0.getD t6.toNat (dflt Y_impl_Part)).2)).getD t6.toNat (dflt Y_impl_Part)).2).2))).getD t6.toNat (dflt Y_impl_Part)).2).1, ((IntKind.wrap .i64 ((IntKind.wrap .i64 (t2 + 1)) + 1)), (((((t0.set t6.toNat (t2, (t0.getD t6.toNat (dflt Y_impl_Part)).2)).set t6.toNat (((t0.set t6.toNat (t2, (t0.getD t6.toNat (dflt Y_impl_Part)).2)).getD t6.toNat (dflt Y_impl_Part)).1, ((IntKind.wrap .i64 (t2 + 1)), (((t0.set t6.toNat (t2, (t0.getD t6.toNat (dflt Y_impl_Part)).2)).getD t6.toNat (dflt Y_impl_Part)).2).2))).getD t6.toNat (dflt Y_impl_Part)).2).2).2)))).set t6.toNat (((((t0.set t6.toNat (t2, (t0.getD t6.toNat (dflt Y_impl_Part)).2)).set t6.toNat (((t0.set t6.toNat (t2, (t0.getD t6.toNat (dflt Y_impl_Part)).2)).getD t6.toNat (dflt Y_impl_Part)).1, ((IntKind.wrap .i64 (t2 + 1)), (((t0.set t6.toNat (t2, (t0.getD t6.toNat (dflt Y_impl_Part)).2)).getD t6.toNat (dflt Y_impl_Part)).2).2))).set t6.toNat ((((t0.set t6.toNat (t2, (t0.getD t6.toNat (dflt Y_impl_Part)).2)).set t6.toNat (((t0.set t6.toNat (t2, (t0.getD t6.toNat (dflt Y_impl_Part)).2)).getD t6.toNat (dflt Y_impl_Part)).1, ((IntKind.wrap .i64 (t2 + 1)), (((t0.set t6.toNat (t2, (t0.getD t6.toNat (dflt Y_impl_Part)).2)).getD t6.toNat (dflt Y_impl_Part)).2).2))).getD t6.toNat (dflt Y_impl_Part)).1, (((((t0.set t6.toNat (t2, (t0.getD t6.toNat (dflt Y_impl_Part)).2)).set t6.toNat (((t0.set t6.toNat (t2, (t0.getD t6.toNat (dflt Y_impl_Part)).2)).getD t6.toNat (dflt Y_impl_Part)).1, ((IntKind.wrap .i64 (t2 + 1)), (((t0.set t6.toNat (t2, (t0.getD t6.toNat (dflt Y_impl_Part)).2)).getD t6.toNat (dflt Y_impl_Part)).2).2))).getD t6.toNat (dflt Y_impl_Part)).2).1, ((IntKind.wrap .i64 ((IntKind.wrap .i64 (t2 + 1)) + 1)), (((((t0.set t6.toNat (t2, (t0.getD t6.toNat (dflt Y_impl_Part)).2)).set t6.toNat (((t0.set t6.toNat (t2, (t0.getD t6.toNat (dflt Y_impl_Part)).2)).getD t6.toNat (dflt Y_impl_Part)).1, ((IntKind.wrap .i64 (t2 + 1)), (((t0.set t6.toNat (t2, (t0.getD t6.toNat (dflt Y_impl_Part)).2)).getD t6.toNat (dflt Y_impl_Part)).2).2))).getD t6.toNat (dflt Y_impl_Part)).2).2).2)))).getD t6.toNat (dflt Y_impl_Part)).1, ((((((t0.set t6.toNat (t2, (t0.getD t6.toNat (dflt Y_impl_Part)).2)).set t6.toNat (((t0.set t6.toNat (t2, (t0.getD t6.toNat (dflt Y_impl_Part)).2)).getD t6.toNat (dflt Y_impl_Part)).1, ((IntKind.wrap .i64 (t2 + 1)), (((t0.set t6.toNat (t2, (t0.getD t6.toNat (dflt Y_impl_Part)).2)).getD t6.toNat (dflt Y_impl_Part)).2).2))).set t6.toNat ((((t0.set t6.toNat (t2, (t0.getD t6.toNat (dflt Y_impl_Part)).2)).set t6.toNat (((t0.set t6.toNat (t2, (t0.getD t6.toNat (dflt Y_impl_Part)).2)).getD t6.toNat (dflt Y_impl_Part)).1, ((IntKind.wrap .i64 (t2 + 1)), (((t0.set t6.toNat (t2, (t0.getD t6.toNat (dflt Y_impl_Part)).2)).getD t6.toNat (dflt Y_impl_Part)).2).2))).getD t6.toNat (dflt Y_impl_Part)).1, (((((t0.set t6.toNat (t2, (t0.getD t6.toNat (dflt Y_impl_Part)).2)).set t6.toNat (((t0.set t6.toNat (t2, (t0.getD t6.toNat (dflt Y_impl_Part)).2)).getD t6.toNat (dflt Y_impl_Part)).1, ((IntKind.wrap .i64 (t2 + 1)), (((t0.set t6.toNat (t2, (t0.getD t6.toNat (dflt Y_impl_Part)).2)).getD t6.toNat (dflt Y_impl_Part)).2).2))).getD t6.toNat (dflt Y_impl_Part)).2).1, ((IntKind.wrap .i64 ((IntKind.wrap .i64 (t2 + 1)) + 1)), (((((t0.set t6.toNat (t2, (t0.getD t6.toNat (dflt Y_impl_Part)).2)).set t6.toNat (((t0.set t6.toNat (t2, (t0.getD t6.toNat (dflt Y_impl_Part)).2)).getD t6.toNat (dflt Y_impl_Part)).1, ((IntKind.wrap .i64 (t2 + 1)), (((t0.set t6.toNat (t2, (t0.getD t6.toNat (dflt Y_impl_Part)).2)).getD t6.toNat (dflt Y_impl_Part)).2).2))).getD t6.toNat (dflt Y_impl_Part)).2).2).2)))).getD t6.toNat (dflt Y_impl_Part)).2).1, (((((((t0.set t6.toNat (t2, (t0.getD t6.toNat (dflt Y_impl_Part)).2)).set t6.toNat (((t0.set t6.toNat (t2, (t0.getD t6.toNat (dflt Y_impl_Part)).2)).getD t6.toNat (dflt Y_impl_Part)).1, ((IntKind.wrap .i64 (t2 + 1)), (((t0.set t6.toNat (t2, (t0.getD t6.toNat (dflt Y_impl_Part)).2)).getD t6.toNat (dflt Y_impl_Part)).2).2))).set t6.toNat ((((t0.set t6.toNat (t2, (t0.getD t6.toNat (dflt Y_impl_Part)).2)).set t6.toNat (((t0.set t6.toNat (t2, (t0.getD t6.toNat (dflt Y_impl_Part)).2)).getD t6.toNat (dflt Y_impl_Part)).1, ((IntKind.wrap .i64 (t2 + 1)), (((t0.set t6.toNat (t2, (t0.getD t6.toNat (dflt Y_impl_Part)).2)).getD t6.toNat (dflt Y_impl_Part)).2).2))).getD t6.toNat (dflt Y_impl_Part)).1, (((((t0.set t6.toNat (t2, (t0.getD t6.toNat (dflt Y_impl_Part)).2)).set t6.toNat (((t0.set t6.toNat (t2, (t0.getD t6.toNat (dflt Y_impl_Part)).2)).getD t6.toNat (dflt Y_impl_Part)).1, ((IntKind.wrap .i64 (t2 + 1)), (((t0.set t6.toNat (t2, (t0.getD t6.toNat (dflt Y_impl_Part)).2)).getD t6.toNat (dflt Y_impl_Part)).2).2))).getD t6.toNat (dflt Y_impl_Part)).2).1, ((IntKind.wrap .i64 ((IntKind.wrap .i64 (t2 + 1)) + 1)), (((((t0.set t6.toNat (t2, (t0.getD t6.toNat (dflt Y_impl_Part)).2)).set t6.toNat (((t0.set t6.toNat (t2, (t0.getD t6.toNat (dflt Y_impl_Part)).2)).getD t6.toNat (dflt Y_impl_Part)).1, ((IntKind.wrap .i64 (t2 + 1)), (((t0.set t6.toNat (t2, (t0.getD t6.toNat (dflt Y_impl_Part)).2)).getD t6.toNat (dflt Y_impl_Part)).2).2))).getD t6.toNat (dflt Y_impl_Part)).2).2).2)))).getD t6.toNat (dflt Y_impl_Part)).2).2).1, (r5.2.1, (((((((t0.set t6.toNat (t2, (t0.getD t6.toNat (dflt Y_impl_Part)).2)).set t6.toNat (((t0.set t6.toNat (t2, (t0.getD t6.toNat (dflt Y_impl_Part)).2)).getD t6.toNat (dflt Y_impl_Part)).1, ((IntKind.wrap .i64 (t2 + 1)), (((t0.set t6.toNat (t2, (t0.getD t6.toNat (dflt Y_impl_Part)).2)).getD t6.toNat (dflt Y_impl_Part)).2).2))).set t6.toNat ((((t0.set t6.toNat (t2, (t0.getD t6.toNat (dflt Y_impl_Part)).2)).set t6.toNat (((t0.set t6.toNat (t2, (t0.getD t6.toNat (dflt Y_impl_Part)).2)).getD t6.toNat (dflt Y_impl_Part)).1, ((IntKind.wrap .i64 (t2 + 1)), (((t0.set t6.toNat (t2, (t0.getD t6.toNat (dflt Y_impl_Part)).2)).getD t6.toNat (dflt Y_impl_Part)).2).2))).getD t6.toNat (dflt Y_impl_Part)).1, (((((t0.set t6.toNat (t2, (t0.getD t6.toNat (dflt Y_impl_Part)).2)).set t6.toNat (((t0.set t6.toNat (t2, (t0.getD t6.toNat (dflt Y_impl_Part)).2)).getD t6.toNat (dflt Y_impl_Part)).1, ((IntKind.wrap .i64 (t2 + 1)), (((t0.set t6.toNat (t2, (t0.getD t6.toNat (dflt Y_impl_Part)).2)).getD t6.toNat (dflt Y_impl_Part)).2).2))).getD t6.toNat (dflt Y_impl_Part)).2).1, ((IntKind.wrap .i64 ((IntKind.wrap .i64 (t2 + 1)) + 1)), (((((t0.set t6.toNat (t2, (t0.getD t6.toNat (dflt Y_impl_Part)).2)).set t6.toNat (((t0.set t6.toNat (t2, (t0.getD t6.toNat (dflt Y_impl_Part)).2)).getD t6.toNat (dflt Y_impl_Part)).1, ((IntKind.wrap .i64 (t2 + 1)), (((t0.set t6.toNat (t2, (t0.getD t6.toNat (dflt Y_impl_Part)).2)).getD t6.toNat (dflt Y_impl_Part)).2).2))).getD t6.toNat (dflt Y_impl_Part)).2).2).2)))).getD t6.toNat (dflt Y_impl_Part)).2).2).2).2))))).getD t6.toNat (dflt Y_impl_Part)).2).2).2).2).1) r5.1.1).bind fun r6 =>
                  some (.inl ((((((t0.set t6.toNat (t2, (t0.getD t6.toNat (dflt Y_impl_Part)).2)).set t6.toNat (((t0.set t6.toNat (t2, (t0.getD t6.toNat (dflt Y_impl_Part)).2)).getD t6.toNat (dflt Y_impl_Part)).1, ((IntKind.wrap .i64 (t2 + 1)), (((t0.set t6.toNat (t2, (t0.getD t6.toNat (dflt Y_impl_Part)).2)).getD t6.toNat (dflt Y_impl_Part)).2).2))).set t6.toNat ((((t0.set t6.toNat (t2, (t0.getD t6.toNat (dflt Y_impl_Part)).2)).set t6.toNat (((t0.set t6.toNat (t2, (t0.getD t6.toNat (dflt Y_impl_Part)).2)).getD t6.toNat (dflt Y_impl_Part)).1, ((IntKind.wrap .i64 (t2 + 1)), (((t0.set t6.toNat (t2, (t0.getD t6.toNat (dflt Y_impl_Part)).2)).getD t6.toNat (dflt Y_impl_Part)).2).2))).getD t6.toNat (dflt Y_impl_Part)).1, (((((t0.set t6.toNat (t2, (t0.getD t6.toNat (dflt Y_impl_Part)).2)).set t6.toNat (((t0.set t6.toNat (t2, (t0.getD t6.toNat (dflt Y_impl_Part)).2)).getD t6.toNat (dflt Y_impl_Part)).1, ((IntKind.wrap .i64 (t2 + 1)), (((t0.set t6.toNat (t2, (t0.getD t6.toNat (dflt Y_impl_Part)).2)).getD t6.toNat (dflt Y_impl_Part)).2).2))).getD t6.toNat (dflt Y_impl_Part)).2).1, ((IntKind.wrap .i64 ((IntKind.wrap .i64 (t2 + 1)) + 1)), (((((t0.set t6.toNat (t2, (t0.getD t6.toNat (dflt Y_impl_Part)).2)).set t6.toNat (((t0.set t6.toNat (t2, (t0.getD t6.toNat (dflt Y_impl_Part)).2)).getD t6.toNat (dflt Y_impl_Part)).1, ((IntKind.wrap .i64 (t2 + 1)), (((t0.set t6.toNat (t2, (t0.getD t6.toNat (dflt Y_impl_Part)).2)).getD t6.toNat (dflt Y_impl_Part)).2).2))).getD t6.toNat (dflt Y_impl_Part)).2).2).2)))).set t6.toNat (((((t0.set t6.toNat (t2, (t0.getD t6.toNat (dflt Y_impl_Part)).2)).set t6.toNat (((t0.set t6.toNat (t2, (t0.getD t6.toNat (dflt Y_impl_Part)).2)).getD t6.toNat (dflt Y_impl_Part)).1, ((IntKind.wrap .i64 (t2 + 1)), (((t0.set t6.toNat (t2, (t0.getD t6.toNat (dflt Y_impl_Part)).2)).getD t6.toNat (dflt Y_impl_Part)).2).2))).set t6.toNat ((((t0.set t6.toNat (t2, (t0.getD t6.toNat (dflt Y_impl_Part)).2)).set t6.toNat (((t0.set t6.toNat (t2, (t0.getD t6.toNat (dflt Y_impl_Part)).2)).getD t6.toNat (dflt Y_impl_Part)).1, ((IntKind.wrap .i64 (t2 + 1)), (((t0.set t6.toNat (t2, (t0.getD t6.toNat (dflt Y_impl_Part)).2)).getD t6.toNat (dflt Y_impl_Part)).2).2))).getD t6.toNat (dflt Y_impl_Part)).1, (((((t0.set t6.toNat (t2, (t0.getD t6.toNat (dflt Y_impl_Part)).2)).set t6.toNat (((t0.set t6.toNat (t2, (t0.getD t6.toNat (dflt Y_impl_Part)).2)).getD t6.toNat (dflt Y_impl_Part)).1, ((IntKind.wrap .i64 (t2 + 1)), (((t0.set t6.toNat (t2, (t0.getD t6.toNat (dflt Y_impl_Part)).2)).getD t6.toNat (dflt Y_impl_Part)).2).2))).getD t6.toNat (dflt Y_impl_Part)).2).1, ((IntKind.wrap .i64 ((IntKind.wrap .i64 (t2 + 1)) + 1)), (((((t0.set t6.toNat (t2, (t0.getD t6.toNat (dflt Y_impl_Part)).2)).set t6.toNat (((t0.set t6.toNat (t2, (t0.getD t6.toNat (dflt Y_impl_Part)).2)).getD t6.toNat (dflt Y_impl_Part)).1, ((IntKind.wrap .i64 (t2 + 1)), (((t0.set t6.toNat (t2, (t0.getD t6.toNat (dflt Y_impl_Part)).2)).getD t6.toNat (dflt Y_impl_Part)).2).2))).getD t6.toNat (dflt Y_impl_Part)).2).2).2)))).getD t6.toNat (dflt Y_impl_Part)).1, ((((((t0.set t6.toNat (t2, (t0.getD t6.toNat (dflt Y_impl_Part)).2)).set t6.toNat (((t0.set t6.toNat (t2, (t0.getD t6.toNat (dflt Y_impl_Part)).2)).getD t6.toNat (dflt Y_impl_Part)).1, ((IntKind.wrap .i64 (t2 + 1)), (((t0.set t6.toNat (t2, (t0.getD t6.toNat (dflt Y_impl_Part)).2)).getD t6.toNat (dflt Y_impl_Part)).2).2))).set t6.toNat ((((t0.set t6.toNat (t2, (t0.getD t6.toNat (dflt Y_impl_Part)).2)).set t6.toNat (((t0.set t6.toNat (t2, (t0.getD t6.toNat (dflt Y_impl_Part)).2)).getD t6.toNat (dflt Y_impl_Part)).1, ((IntKind.wrap .i64 (t2 + 1)), (((t0.set t6.toNat (t2, (t0.getD t6.toNat (dflt Y_impl_Part)).2)).getD t6.toNat (dflt Y_impl_Part)).2).2))).getD t6.toNat (dflt Y_impl_Part)).1, (((((t0.set t6.toNat (t2, (t0.getD t6.toNat (dflt Y_impl_Part)).2)).set t6.toNat (((t0.set t6.toNat (t2, (t0.getD t6.toNat (dflt Y_impl_Part)).2)).getD t6.toNat (dflt Y_impl_Part)).1, ((IntKind.wrap .i64 (t2 + 1)), (((t0.set t6.toNat (t2, (t0.getD t6.toNat (dflt Y_impl_Part)).2)).getD t6.toNat (dflt Y_impl_Part)).2).2))).getD t6.toNat (dflt Y_impl_Part)).2).1, ((IntKind.wrap .i64 ((IntKind.wrap .i64 (t2 + 1)) + 1)), (((((t0.set t6.toNat (t2, (t0.getD t6.toNat (dflt Y_impl_Part)).2)).set t6.toNat (((t0.set t6.toNat (t2, (t0.getD t6.toNat (dflt Y_impl_Part)).2)).getD t6.toNat (dflt Y_impl_Part)).1, ((IntKind.wrap .i64 (t2 + 1)), (((t0.set t6.toNat (t2, (t0.getD t6.toNat (dflt Y_impl_Part)).2)).getD t6.toNat (dflt Y_impl_Part)).2).2))).getD t6.toNat (dflt Y_impl_Part)).2).2).2)))).getD t6.toNat (dflt Y_impl_Part)).2).1, (((((((t0.set t6.toNat (t2, (t0.getD t6.toNat (dflt Y_impl_Part)).2)).set t6.toNat (((t0.set t6.toNat (t2, (t0.getD t6.toNat (dflt Y_impl_Part)).2)).getD t6.toNat (dflt Y_impl_Part)).1, ((IntKind.wrap .i64 (t2 + 1)), (((t0.set t6.toNat (t2, (t0.getD t6.toNat (dflt Y_impl_Part)).2)).getD t6.toNat (dflt Y_impl_Part)).2).2))).set t6.toNat ((((t0.set t6.toNat (t2, (t0.getD t6.toNat (dflt Y_impl_Part)).2)).set t6.toNat (((t0.set t6.toNat (t2, (t0.getD t6.toNat (dflt Y_impl_Part)).2)).getD t6.toNat (dflt Y_impl_Part)).1, ((IntKind.wrap .i64 (t2 + 1)), (((t0.set t6.toNat (t2, (t0.getD t6.toNat (dflt Y_impl_Part)).2)).getD t6.toNat (dflt Y_impl_Part)).2).2))).getD t6.toNat (dflt Y_impl_Part)).1, (((((t0.set t6.toNat (t2, (t0.getD t6.toNat (dflt Y_impl_Part)).2)).set t6.toNat (((t0.set t6.toNat (t2, (t0.getD t6.toNat (dflt Y_impl_Part)).2)).getD t6.toNat (dflt Y_impl_Part)).1, ((IntKind.wrap .i64 (t2 + 1)), (((t0.set t6.toNat (t2, (t0.getD t6.toNat (dflt Y_impl_Part)).2)).getD t6.toNat (dflt Y_impl_Part)).2).2))).getD t6.toNat (dflt Y_impl_Part)).2).1, ((IntKind.wrap .i64 ((IntKind.wrap .i64 (t2 + 1)) + 1)), (((((t0.set t6.toNat (t2, (t0.getD t6.toNat (dflt Y_impl_Part)).2)).set t6.toNat (((t0.set t6.toNat (t2, (t0.getD t6.toNat (dflt Y_impl_Part)).2)).getD t6.toNat (dflt Y_impl_Part)).1, ((IntKind.wrap .i64 (t2 + 1)), (((t0.set t6.toNat (t2, (t0.getD t6.toNat (dflt Y_impl_Part)).2)).getD t6.toNat (dflt Y_impl_Part)).2).2))).getD t6.toNat (dflt Y_impl_Part)).2).2).2)))).getD t6.toNat (dflt Y_impl_Part)).2).2).1, (r5.2.1, (((((((t0.set t6.toNat (t2, (t0.getD t6.toNat (dflt Y_impl_Part)).2)).set t6.toNat (((t0.set t6.toNat (t2, (t0.getD t6.toNat (dflt Y_impl_Part)).2)).getD t6.toNat (dflt Y_impl_Part)).1, ((IntKind.wrap .i64 (t2 + 1)), (((t0.set t6.toNat (t2, (t0.getD t6.toNat (dflt Y_impl_Part)).2)).getD t6.toNat (dflt Y_impl_Part)).2).2))).set t6.toNat ((((t0.set t6.toNat (t2, (t0.getD t6.toNat (dflt Y_impl_Part)).2)).set t6.toNat (((t0.set t6.toNat (t2, (t0.getD t6.toNat (dflt Y_impl_Part)).2)).getD t6.toNat (dflt Y_impl_Part)).1, ((IntKind.wrap .i64 (t2 + 1)), (((t0.set t6.toNat (t2, (t0.getD t6.toNat (dflt Y_impl_Part)).2)).getD t6.toNat (dflt Y_impl_Part)).2).2))).getD t6.toNat (dflt Y_impl_Part)).1, (((((t0.set t6.toNat (t2, (t0.getD t6.toNat (dflt Y_impl_Part)).2)).set t6.toNat (((t0.set t6.toNat (t2, (t0.getD t6.toNat (dflt Y_impl_Part)).2)).getD t6.toNat (dflt Y_impl_Part)).1, ((IntKind.wrap .i64 (t2 + 1)), (((t0.set t6.toNat (t2, (t0.getD t6.toNat (dflt Y_impl_Part)).2)).getD t6.toNat (dflt Y_impl_Part)).2).2))).getD t6.toNat (dflt Y_impl_Part)).2).1, ((IntKind.wrap .i64 ((IntKind.wrap .i64 (t2 + 1)) + 1)), (((((t0.set t6.toNat (t2, (t0.getD t6.toNat (dflt Y_impl_Part)).2)).set t6.toNat (((t0.set t6.toNat (t2, (t0.getD t6.toNat (dflt Y_impl_Part)).2)).getD t6.toNat (dflt Y_impl_Part)).1, ((IntKind.wrap .i64 (t2 + 1)), (((t0.set t6.toNat (t2, (t0.getD t6.toNat (dflt Y_impl_Part)).2)).getD t6.toNat (dflt Y_impl_Part)).2).2))).getD t6.toNat (dflt Y_impl_Part)).2).2).2)))).getD t6.toNat (dflt Y_impl_Part)).2).2).2).2))))).set t6.toNat ((((((t0.set t6.toNat (t2, (t0.getD t6.toNat (dflt Y_impl_Part)).2)).set t6.toNat (((t0.set t6.toNat (t2, (t0.getD t6.toNat (dflt Y_impl_Part)).2)).getD t6.toNat (dflt Y_impl_Part)).1, ((IntKind.wrap .i64 (t2 + 1)), (((t0.set t6.toNat (t2, (t0.getD t6.toNat (dflt Y_impl_Part)).2)).getD t6.toNat (dflt Y_impl_Part)).2).2))).set t6.toNat ((((t0.set t6.toNat (t2, (t0.getD t6.toNat (dflt Y_impl_Part)).2)).set t6.toNat (((t0.set t6.toNat (t2, (t0.getD t6.toNat (dflt Y_impl_Part)).2)).getD t6.toNat (dflt Y_impl_Part)).1, ((IntKind.wrap .i64 (t2 + 1)), (((t0.set t6.toNat (t2, (t0.getD t6.toNat (dflt Y_impl_Part)).2)).getD t6.toNat (dflt Y_impl_Part)).2).2))).getD t6.toNat (dflt Y_impl_Part)).1, (((((t0.set t6.toNat (t2, (t0.getD t6.toNat (dflt Y_impl_Part)).2)).set t6.toNat (((t0.set t6.toNat (t2, (t0.getD t6.toNat (dflt Y_impl_Part)).2)).getD t6.toNat (dflt Y_impl_Part)).1, ((IntKind.wrap .i64 (t2 + 1)), (((t0.set t6.toNat (t2, (t0.getD t6.toNat (dflt Y_impl_Part)).2)).getD t6.toNat (dflt Y_impl_Part)).2).2))).getD t6.toNat (dflt Y_impl_Part)).2).1, ((IntKind.wrap .i64 ((IntKind.wrap .i64 (t2 + 1)) + 1)), (((((t0.set t6.toNat (t2, (t0.getD t6.toNat (dflt Y_impl_Part)).2)).set t6.toNat (((t0.set t6.toNat (t2, (t0.getD t6.toNat (dflt Y_impl_Part)).2)).getD t6.toNat (dflt Y_impl_Part)).1, ((IntKind.wrap .i64 (t2 + 1)), (((t0.set t6.toNat (t2, (t0.getD t6.toNat (dflt Y_impl_Part)).2)).getD t6.toNat (dflt Y_impl_Part)).2).2))).getD t6.toNat (dflt Y_impl_Part)).2).2).2)))).set t6.toNat (((((t0.set t6.toNat (t2, (t0.getD t6.toNat (dflt Y_impl_Part)).2)).set t6.toNat (((t0.set t6.toNat (t2, (t0.getD t6.toNat (dflt Y_impl_Part)).2)).getD t6.toNat (dflt Y_impl_Part)).1, ((IntKind.wrap .i64 (t2 + 1)), (((t0.set t6.toNat (t2, (t0.getD t6.toNat (dflt Y_impl_Part)).2)).getD t6.toNat (dflt Y_impl_Part)).2).2))).set t6.toNat ((((t0.set t6.toNat (t2, (t0.getD t6.toNat (dflt Y_impl_Part)).2)).set t6.toNat (((t0.set t6.toNat (t2, (t0.getD t6.toNat (dflt Y_impl_Part)).2)).getD t6.toNat (dflt Y_impl_Part)).1, ((IntKind.wrap .i64 (t2 + 1)), (((t0.set t6.toNat (t2, (t0.getD t6.toNat (dflt Y_impl_Part)).2)).getD t6.toNat (dflt Y_impl_Part)).2).2))).getD t6.toNat (dflt Y_impl_Part)).1, (((((t0.set t6.toNat (t2, (t0.getD t6.toNat (dflt Y_impl_Part)).2)).set t6.toNat (((t0.set t6.toNat (t2, (t0.getD t6.toNat (dflt Y_impl_Part)).2)).getD t6.toNat (dflt Y_impl_Part)).1, ((IntKind.wrap .i64 (t2 + 1)), (((t0.set t6.toNat (t2, (t0.getD t6.toNat (dflt Y_impl_Part)).2)).getD t6.toNat (dflt Y_impl_Part)).2).2))).getD t6.toNat (dflt Y_impl_Part)).2).1, ((IntKind.wrap .i64 ((IntKind.wrap .i64 (t2 + 1)) + 1)), (((((t0.set t6.toNat (t2, (t0.getD t6.toNat (dflt Y_impl_Part)).2)).set t6.toNat (((t0.set t6.toNat (t2, (t0.getD t6.toNat (dflt Y_impl_Part)).2)).getD t6.toNat (dflt Y_impl_Part)).1, ((IntKind.wrap .i64 (t2 + 1)), (((t0.set t6.toNat (t2, (t0.getD t6.toNat (dflt Y_impl_Part)).2)).getD t6.toNat (dflt Y_impl_Part)).2).2))).getD t6.toNat (dflt Y_impl_Part)).2).2).2)))).getD t6.toNat (dflt Y_impl_Part)).1, ((((((t0.set t6.toNat (t2, (t0.getD t6.toNat (dflt Y_impl_Part)).2)).set t6.toNat (((t0.set t6.toNat (t2, (t0.getD t6.toNat (dflt Y_impl_Part)).2)).getD t6.toNat (dflt Y_impl_Part)).1, ((IntKind.wrap .i64 (t2 + 1)), (((t0.set t6.toNat (t2, (t0.getD t6.toNat (dflt Y_impl_Part)).2)).getD t6.toNat (dflt Y_impl_Part)).2).2))).set t6.toNat ((((t0.set t6.toNat (t2, (t0.getD t6.toNat (dflt Y_impl_Part)).2)).set t6.toNat (((t0.set t6.toNat (t2, (t0.getD t6.toNat (dflt Y_impl_Part)).2)).getD t6.toNat (dflt Y_impl_Part)).1, ((IntKind.wrap .i64 (t2 + 1)), (((t0.set t6.toNat (t2, (t0.getD t6.toNat (dflt Y_impl_Part)).2)).getD t6.toNat (dflt Y_impl_Part)).2).2))).getD t6.toNat (dflt Y_impl_Part)).1, (((((t0.set t6.toNat (t2, (t0.getD t6.toNat (dflt Y_impl_Part)).2)).set t6.toNat (((t0.set t6.toNat (t2, (t0.getD t6.toNat (dflt Y_impl_Part)).2)).getD t6.toNat (dflt Y_impl_Part)).1, ((IntKind.wrap .i64 (t2 + 1)), (((t0.set t6.toNat (t2, (t0.getD t6.toNat (dflt Y_impl_Part)).2)).getD t6.toNat (dflt Y_impl_Part)).2).2))).getD t6.toNat (dflt Y_impl_Part)).2).1, ((IntKind.wrap .i64 ((IntKind.wrap .i64 (t2 + 1)) + 1)), (((((t0.set t6.toNat (t2, (t0.getD t6.toNat (dflt Y_impl_Part)).2)).set t6.toNat (((t0.set t6.toNat (t2, (t0.getD t6.toNat (dflt Y_impl_Part)).2)).getD t6.toNat (dflt Y_impl_Part)).1, ((IntKind.wrap .i64 (t2 + 1)), (((t0.set t6.toNat (t2, (t0.getD t6.toNat (dflt Y_impl_Part)).2)).getD t6.toNat (dflt Y_impl_Part)).2).2))).getD t6.toNat (dflt Y_impl_Part)).2).2).2)))).getD t6.toNat (dflt Y_impl_Part)).2).1, (((((((t0.set t6.toNat (t2, (t0.getD t6.toNat (dflt Y_impl_Part)).2)).set t6.toNat (((t0.set t6.toNat (t2, (t0.getD t6.toNat (dflt Y_impl_Part)).2)).getD t6.toNat (dflt Y_impl_Part)).1, ((IntKind.wrap .i64 (t2 + 1)), (((t0.set t6.toNat (t2, (t0.getD t6.toNat (dflt Y_impl_Part)).2)).getD t6.toNat (dflt Y_impl_Part)).2).2))).set t6.toNat ((((t0.set t6.toNat (t2, (t0.getD t6.toNat (dflt Y_impl_Part)).2)).set t6.toNat (((t0.set t6.toNat (t2, (t0.getD t6.toNat (dflt Y_impl_Part)).2)).getD t6.toNat (dflt Y_impl_Part)).1, ((IntKind.wrap .i64 (t2 + 1)), (((t0.set t6.toNat (t2, (t0.getD t6.toNat (dflt Y_impl_Part)).2)).getD t6.toNat (dflt Y_impl_Part)).2).2))).getD t6.toNat (dflt Y_impl_Part)).1, (((((t0.set t6.toNat (t2, (t0.getD t6.toNat (dflt Y_impl_Part)).2)).set t6.toNat (((t0.set t6.toNat (t2, (t0.getD t6.toNat (dflt Y_impl_Part)).2)).getD t6.toNat (dflt Y_impl_Part)).1, ((IntKind.wrap .i64 (t2 + 1)), (((t0.set t6.toNat (t2, (t0.getD t6.toNat (dflt Y_impl_Part)).2)).getD t6.toNat (dflt Y_impl_Part)).2).2))).getD t6.toNat (dflt Y_impl_Part)).2).1, ((IntKind.wrap .i64 ((IntKind.wrap .i64 (t2 + 1)) + 1)), (((((t0.set t6.toNat (t2, (t0.getD t6.toNat (dflt Y_impl_Part)).2)).set t6.toNat (((t0.set t6.toNat (t2, (t0.getD t6.toNat (dflt Y_impl_Part)).2)).getD t6.toNat (dflt Y_impl_Part)).1, ((IntKind.wrap .i64 (t2 + 1)), (((t0.set t6.toNat (t2, (t0.getD t6.toNat (dflt Y_impl_Part)).2)).getD t6.toNat (dflt Y_impl_Part)).2).2))).getD t6.toNat (dflt Y_impl_Part)).2).2).2)))).getD t6.toNat (dflt Y_impl_Part)).2).2).1, (r5.2.1, (((((((t0.set t6.toNat (t2, (t0.getD t6.toNat (dflt Y_impl_Part)).2)).set t6.toNat (((t0.set t6.toNat (t2, (t0.getD t6.toNat (dflt Y_impl_Part)).2)).getD t6.toNat (dflt Y_impl_Part)).1, ((IntKind.wrap .i64 (t2 + 1)), (((t0.set t6.toNat (t2, (t0.getD t6.toNat (dflt Y_impl_Part)).2)).getD t6.toNat (dflt Y_impl_Part)).2).2))).set t6.toNat ((((t0.set t6.toNat (t2, (t0.getD t6.toNat (dflt Y_impl_Part)).2)).set t6.toNat (((t0.set t6.toNat (t2, (t0.getD t6.toNat (dflt Y_impl_Part)).2)).getD t6.toNat (dflt Y_impl_Part)).1, ((IntKind.wrap .i64 (t2 + 1)), (((t0.set t6.toNat (t2, (t0.getD t6.toNat (dflt Y_impl_Part)).2)).getD t6.toNat (dflt Y_impl_Part)).2).2))).getD t6.toNat (dflt Y_impl_Part)).1, (((((t0.set t6.toNat (t2, (t0.getD t6.toNat (dflt Y_impl_Part)).2)).set t6.toNat (((t0.set t6.toNat (t2, (t0.getD t6.toNat (dflt Y_impl_Part)).2)).getD t6.toNat (dflt Y_impl_Part)).1, ((IntKind.wrap .i64 (t2 + 1)), (((t0.set t6.toNat (t2, (t0.getD t6.toNat (dflt Y_impl_Part)).2)).getD t6.toNat (dflt Y_impl_Part)).2).2))).getD t6.toNat (dflt Y_impl_Part)).2).1, ((IntKind.wrap .i64 ((IntKind.wrap .i64 (t2 + 1)) + 1)), (((((t0.set t6.toNat (t2, (t0.getD t6.toNat (dflt Y_impl_Part)).2)).set t6.toNat (((t0.set t6.toNat (t2, (t0.getD t6.toNat (dflt Y_impl_Part)).2)).getD t6.toNat (dflt Y_impl_Part)).1, ((IntKind.wrap .i64 (t2 + 1)), (((t0.set t6.toNat (t2, (t0.getD t6.toNat (dflt Y_impl_Part)).2)).getD t6.toNat (dflt Y_impl_Part)).2).2))).getD t6.toNat (dflt Y_impl_Part)).2).2).2)))).getD t6.toNat (dflt Y_impl_Part)).2).2).2).2))))).getD t6.toNat (dflt Y_impl_Part)).1, (((((((t0.set t6.toNat (t2, (t0.getD t6.toNat (dflt Y_impl_Part)).2)).set t6.toNat (((t0.set t6.toNat (t2, (t0.getD t6.toNat (dflt Y_impl_Part)).2)).getD t6.toNat (dflt Y_impl_Part)).1, ((IntKind.wrap .i64 (t2 + 1)), (((t0.set t6.toNat (t2, (t0.getD t6.toNat (dflt Y_impl_Part)).2)).getD t6.toNat (dflt Y_impl_Part)).2).2))).set t6.toNat ((((t0.set t6.toNat (t2, (t0.getD t6.toNat (dflt Y_impl_Part)).2)).set t6.toNat (((t0.set t6.toNat (t2, (t0.getD t6.toNat (dflt Y_impl_Part)).2)).getD t6.toNat (dflt Y_impl_Part)).1, ((IntKind.wrap .i64 (t2 + 1)), (((t0.set t6.toNat (t2, (t0.getD t6.toNat (dflt Y_impl_Part)).2)).getD t6.toNat (dflt Y_impl_Part)).2).2))).getD t6.toNat (dflt Y_impl_Part)).1, (((((t0.set t6.toNat (t2, (t0.getD t6.toNat (dflt Y_impl_Part)).2)).set t6.toNat (((t0.set t6.toNat (t2, (t0.getD t6.toNat (dflt Y_impl_Part)).2)).getD t6.toNat (dflt Y_impl_Part)).1, ((IntKind.wrap .i64 (t2 + 1)), (((t0.set t6.toNat (t2, (t0.getD t6.toNat (dflt Y_impl_Part)).2)).getD t6.toNat (dflt Y_impl_Part)).2).2))).getD t6.toNat (dflt Y_impl_Part)).2).1, ((IntKind.wrap .i64 ((IntKind.wrap .i64 (t2 + 1)) + 1)), (((((t0.set t6.toNat (t2, (t0.getD t6.toNat (dflt Y_impl_Part)).2)).set t6.toNat (((t0.set t6.toNat (t2, (t0.getD t6.toNat (dflt Y_impl_Part)).2)).getD t6.toNat (dflt Y_impl_Part)).1, ((IntKind.wrap .i64 (t2 + 1)), (((t0.set t6.toNat (t2, (t0.getD t6.toNat (dflt Y_impl_Part)).2)).getD t6.toNat (dflt Y_impl_Part)).2).2))).getD t6.toNat (dflt Y_impl_Part)).2).2).2)))).set t6.toNat (((((t0.set t6.toNat (t2, (t0.getD t6.toNat (dflt Y_impl_Part)).2)).set t6.toNat (((t0.set t6.toNat (t2, (t0.getD t6.toNat (dflt Y_impl_Part)).2)).getD t6.toNat (dflt Y_impl_Part)).1, ((IntKind.wrap .i64 (t2 + 1)), (((t0.set t6.toNat (t2, (t0.getD t6.toNat (dflt Y_impl_Part)).2)).getD t6.toNat (dflt Y_impl_Part)).2).2))).set t6.toNat ((((t0.set t6.toNat (t2, (t0.getD t6.toNat (dflt Y_impl_Part)).2)).set t6.toNat (((t0.set t6.toNat (t2, (t0.getD t6.toNat (dflt Y_impl_Part)).2)).getD t6.toNat (dflt Y_impl_Part)).1, ((IntKind.wrap .i64 (t2 + 1)), (((t0.set t6.toNat (t2, (t0.getD t6.toNat (dflt Y_impl_Part)).2)).getD t6.toNat (dflt Y_impl_Part)).2).2))).getD t6.toNat (dflt Y_impl_Part)).1, (((((t0.set t6.toNat (t2, (t0.getD t6.toNat (dflt Y_impl_Part)).2)).set t6.toNat (((t0.set t6.toNat (t2, (t0.getD t6.toNat (dflt Y_impl_Part)).2)).getD t6.toNat (dflt Y_impl_Part)).1, ((IntKind.wrap .i64 (t2 + 1)), (((t0.set t6.toNat (t2, (t0.getD t6.toNat (dflt Y_impl_Part)).2)).getD t6.toNat (dflt Y_impl_Part)).2).2))).getD t6.toNat (dflt Y_impl_Part)).2).1, ((IntKind.wrap .i64 ((IntKind.wrap .i64 (t2 + 1)) + 1)), (((((t0.set t6.toNat (t2, (t0.getD t6.toNat (dflt Y_impl_Part)).2)).set t6.toNat (((t0.set t6.toNat (t2, (t0.getD t6.toNat (dflt Y_impl_Part)).2)).getD t6.toNat (dflt Y_impl_Part)).1, ((IntKind.wrap .i64 (t2 + 1)), (((t0.set t6.toNat (t2, (t0.getD t6.toNat (dflt Y_impl_Part)).2)).getD t6.toNat (dflt Y_impl_Part)).2).2))).getD t6.toNat (dflt Y_impl_Part)).2).2).2)))).getD t6.toNat (dflt Y_impl_Part)).1, ((((((t0.set t6.toNat (t2, (t0.getD t6.toNat (dflt Y_impl_Part)).2)).set t6.toNat (((t0.set t6.toNat (t2, (t0.getD t6.toNat (dflt Y_impl_Part)).2)).getD t6.toNat (dflt Y_impl_Part)).1, ((IntKind.wrap .i64 (t2 + 1)), (((t0.set t6.toNat (t2, (t0.getD t6.toNat (dflt Y_impl_Part)).2)).getD t6.toNat (dflt Y_impl_Part)).2).2))).set t6.toNat ((((t0.set t6.toNat (t2, (t0.getD t6.toNat (dflt Y_impl_Part)).2)).set t6.toNat (((t0.set t6.toNat (t2, (t0.getD t6.toNat (dflt Y_impl_Part)).2)).getD t6.toNat (dflt Y_impl_Part)).1, ((IntKind.wrap .i64 (t2 + 1)), (((t0.set t6.toNat (t2, (t0.getD t6.toNat (dflt Y_impl_Part)).2)).getD t6.toNat (dflt Y_impl_Part)).2).2))).getD t6.toNat (dflt Y_impl_Part)).1, (((((t0.set t6.toNat (t2, (t0.getD t6.toNat (dflt Y_impl_Part)).2)).set t6.toNat (((t0.set t6.toNat (t2, (t0.getD t6.toNat (dflt Y_impl_Part)).2)).getD t6.toNat (dflt Y_impl_Part)).1, ((IntKind.wrap .i64 (t2 + 1)), (((t0.set t6.toNat (t2, (t0.getD t6.toNat (dflt Y_impl_Part)).2)).getD t6.toNat (dflt Y_impl_Part)).2).2))).getD t6.toNat (dflt Y_impl_Part)).2).1, ((IntKind.wrap .i64 ((IntKind.wrap .i64 (t2 + 1)) + 1)), (((((t0.set t6.toNat (t2, (t0.getD t6.toNat (dflt Y_impl_Part)).2)).set t6.toNat (((t0.set t6.toNat (t2, (t0.getD t6.toNat (dflt Y_impl_Part)).2)).getD t6.toNat (dflt Y_impl_Part)).1, ((IntKind.wrap .i64 (t2 + 1)), (((t0.set t6.toNat (t2, (t0.getD t6.toNat (dflt Y_impl_Part)).2)).getD t6.toNat (dflt Y_impl_Part)).2).2))).getD t6.toNat (dflt Y_impl_Part)).2).2).2)))).getD t6.toNat (dflt Y_impl_Part)).2).1, (((((((t0.set t6.toNat (t2, (t0.getD t6.toNat (dflt Y_impl_Part)).2)).set t6.toNat (((t0.set t6.toNat (t2, (t0.getD t6.toNat (dflt Y_impl_Part)).2)).getD t6.toNat (dflt Y_impl_Part)).1, ((IntKind.wrap .i64 (t2 + 1)), (((t0.set t6.toNat (t2, (t0.getD t6.toNat (dflt Y_impl_Part)).2)).getD t6.toNat (dflt Y_impl_Part)).2).2))).set t6.toNat ((((t0.set t6.toNat (t2, (t0.getD t6.toNat (dflt Y_impl_Part)).2)).set t6.toNat (((t0.set t6.toNat (t2, (t0.getD t6.toNat (dflt Y_impl_Part)).2)).getD t6.toNat (dflt Y_impl_Part)).1, ((IntKind.wrap .i64 (t2 + 1)), (((t0.set t6.toNat (t2, (t0.getD t6.toNat (dflt Y_impl_Part)).2)).getD t6.toNat (dflt Y_impl_Part)).2).2))).getD t6.toNat (dflt Y_impl_Part)).1, (((((t0.set t6.toNat (t2, (t0.getD t6.toNat (dflt Y_impl_Part)).2)).set t6.toNat (((t0.set t6.toNat (t2, (t0.getD t6.toNat (dflt Y_impl_Part)).2)).getD t6.toNat (dflt Y_impl_Part)).1, ((IntKind.wrap .i64 (t2 + 1)), (((t0.set t6.toNat (t2, (t0.getD t6.toNat (dflt Y_impl_Part)).2)).getD t6.toNat (dflt Y_impl_Part)).2).2))).getD t6.toNat (dflt Y_impl_Part)).2).1, ((IntKind.wrap .i64 ((IntKind.wrap .i64 (t2 + 1)) + 1)), (((((t0.set t6.toNat (t2, (t0.getD t6.toNat (dflt Y_impl_Part)).2)).set t6.toNat (((t0.set t6.toNat (t2, (t0.getD t6.toNat (dflt Y_impl_Part)).2)).getD t6.toNat (dflt Y_impl_Part)).1, ((IntKind.wrap .i64 (t2 + 1)), (((t0.set t6.toNat (t2, (t0.getD t6.toNat (dflt Y_impl_Part)).2)).getD t6.toNat (dflt Y_impl_Part)).2).2))).getD t6.toNat (dflt Y_impl_Part)).2).2).2)))).getD t6.toNat (dflt Y_impl_Part)).2).2).1, (r5.2.1, (((((((t0.set t6.toNat (t2, (t0.getD t6.toNat (dflt Y_impl_Part)).2)).set t6.toNat (((t0.set t6.toNat (t2, (t0.getD t6.toNat (dflt Y_impl_Part)).2)).getD t6.toNat (dflt Y_impl_Part)).1, ((IntKind.wrap .i64 (t2 + 1)), (((t0.set t6.toNat (t2, (t0.getD t6.toNat (dflt Y_impl_Part)).2)).getD t6.toNat (dflt Y_impl_Part)).2).2))).set t6.toNat ((((t0.set t6.toNat (t2, (t0.getD t6.toNat (dflt Y_impl_Part)).2)).set t6.toNat (((t0.set t6.toNat (t2, (t0.getD t6.toNat (dflt Y_impl_Part)).2)).getD t6.toNat (dflt Y_impl_Part)).1, ((IntKind.wrap .i64 (t2 + 1)), (((t0.set t6.toNat (t2, (t0.getD t6.toNat (dflt Y_impl_Part)).2)).getD t6.toNat (dflt Y_impl_Part)).2).2))).getD t6.toNat (dflt Y_impl_Part)).1, (((((t0.set t6.toNat (t2, (t0.getD t6.toNat (dflt Y_impl_Part)).2)).set t6.toNat (((t0.set t6.toNat (t2, (t0.getD t6.toNat (dflt Y_impl_Part)).2)).getD t6.toNat (dflt Y_impl_Part)).1, ((IntKind.wrap .i64 (t2 + 1)), (((t0.set t6.toNat (t2, (t0.getD t6.toNat (dflt Y_impl_Part)).2)).getD t6.toNat (dflt Y_impl_Part)).2).2))).getD t6.toNat (dflt Y_impl_Part)).2).1, ((IntKind.wrap .i64 ((IntKind.wrap .i64 (t2 + 1)) + 1)), (((((t0.set t6.toNat (t2, (t0.getD t6.toNat (dflt Y_impl_Part)).2)).set t6.toNat (((t0.set t6.toNat (t2, (t0.getD t6.toNat (dflt Y_impl_Part)).2)).getD t6.toNat (dflt Y_impl_Part)).1, ((IntKind.wrap .i64 (t2 + 1)), (((t0.set t6.toNat (t2, (t0.getD t6.toNat (dflt Y_impl_Part)).2)).getD t6.toNat (dflt Y_impl_Part)).2).2))).getD t6.toNat (dflt Y_impl_Part)).2).2).2)))).getD t6.toNat (dflt Y_impl_Part)).2).2).2).2))))).getD t6.toNat (dflt Y_impl_Part)).2).1, ((((((((t0.set t6.toNat (t2, (t0.getD t6.toNat (dflt Y_impl_Part)).2)).set t6.toNat (((t0.set t6.toNat (t2, (t0.getD t6.toNat (dflt Y_impl_Part)).2)).getD t6.toNat (dflt Y_impl_Part)).1, ((IntKind.wrap .i64 (t2 + 1)), (((t0.set t6.toNat (t2, (t0.getD t6.toNat (dflt Y_impl_Part)).2)).getD t6.toNat (dflt Y_impl_Part)).2).2))).set t6.toNat ((((t0.set t6.toNat (t2, (t0.getD t6.toNat (dflt Y_impl_Part)).2)).set t6.toNat (((t0.set t6.toNat (t2, (t0.getD t6.toNat (dflt Y_impl_Part)).2)).getD t6.toNat (dflt Y_impl_Part)).1, ((IntKind.wrap .i64 (t2 + 1)), (((t0.set t6.toNat (t2, (t0.getD t6.toNat (dflt Y_impl_Part)).2)).getD t6.toNat (dflt Y_impl_Part)).2).2))).getD t6.toNat (dflt Y_impl_Part)).1, (((((t0.set t6.toNat (t2, (t0.getD t6.toNat (dflt Y_impl_Part)).2)).set t6.toNat (((t0.set t6.toNat (t2, (t0.getD t6.toNat (dflt Y_impl_Part)).2)).getD t6.toNat (dflt Y_impl_Part)).1, ((IntKind.wrap .i64 (t2 + 1)), (((t0.set t6.toNat (t2, (t0.getD t6.toNat (dflt Y_impl_Part)).2)).getD t6.toNat (dflt Y_impl_Part)).2).2))).getD t6.toNat (dflt Y_impl_Part)).2).1, ((IntKind.wrap .i64 ((IntKind.wrap .i64 (t2 + 1)) + 1)), (((((t0.set t6.toNat (t2, (t0.getD t6.toNat (dflt Y_impl_Part)).2)).set t6.toNat (((t0.set t6.toNat (t2, (t0.getD t6.toNat (dflt Y_impl_Part)).2)).getD t6.toNat (dflt Y_impl_Part)).1, ((IntKind.wrap .i64 (t2 + 1)), (((t0.set t6.toNat (t2, (t0.getD t6.toNat (dflt Y_impl_Part)).2)).getD t6.toNat (dflt Y_impl_Part)).2).2))).getD t6.toNat (dflt Y_impl_Part)).2).2).2)))).set t6.toNat (((((t0.set t6.toNat (t2, (t0.getD t6.toNat (dflt Y_impl_Part)).2)).set t6.toNat (((t0.set t6.toNat (t2, (t0.getD t6.toNat (dflt Y_impl_Part)).2)).getD t6.toNat (dflt Y_impl_Part)).1, ((IntKind.wrap .i64 (t2 + 1)), (((t0.set t6.toNat (t2, (t0.getD t6.toNat (dflt Y_impl_Part)).2)).getD t6.toNat (dflt Y_impl_Part)).2).2))).set t6.toNat ((((t0.set t6.toNat (t2, (t0.getD t6.toNat (dflt Y_impl_Part)).2)).set t6.toNat (((t0.set t6.toNat (t2, (t0.getD t6.toNat (dflt Y_impl_Part)).2)).getD t6.toNat (dflt Y_impl_Part)).1, ((IntKind.wrap .i64 (t2 + 1)), (((t0.set t6.toNat (t2, (t0.getD t6.toNat (dflt Y_impl_Part)).2)).getD t6.toNat (dflt Y_impl_Part)).2).2))).getD t6.toNat (dflt Y_impl_Part)).1, (((((t0.set t6.toNat (t2, (t0.getD t6.toNat (dflt Y_impl_Part)).2)).set t6.toNat (((t0.set t6.toNat (t2, (t0.getD t6.toNat (dflt Y_impl_Part)).2)).getD t6.toNat (dflt Y_impl_Part)).1, ((IntKind.wrap .i64 (t2 + 1)), (((t0.set t6.toNat (t2, (t0.getD t6.toNat (dflt Y_impl_Part)).2)).getD t6.toNat (dflt Y_impl_Part)).2).2))).getD t6.toNat (dflt Y_impl_Part)).2).1, ((IntKind.wrap .i64 ((IntKind.wrap .i64 (t2 + 1)) + 1)), (((((t0.set t6.toNat (t2, (t0.getD t6.toNat (dflt Y_impl_Part)).2)).set t6.toNat (((t0.set t6.toNat (t2, (t0.getD t6.toNat (dflt Y_impl_Part)).2)).getD t6.toNat (dflt Y_impl_Part)).1, ((IntKind.wrap .i64 (t2 + 1)), (((t0.set t6.toNat (t2, (t0.getD t6.toNat (dflt Y_impl_Part)).2)).getD t6.toNat (dflt Y_impl_Part)).2).2))).getD t6.toNat (dflt Y_impl_Part)).2).2).2)))).getD t6.toNat (dflt Y_impl_Part)).1, ((((((t0.set t6.toNat (t2, (t0.getD t6.toNat (dflt Y_impl_Part)).2)).set t6.toNat (((t0.set t6.toNat (t2, (t0.getD t6.toNat (dflt Y_impl_Part)).2)).getD t6.toNat (dflt Y_impl_Part)).1, ((IntKind.wrap .i64 (t2 + 1)), (((t0.set t6.toNat (t2, (t0.getD t6.toNat (dflt Y_impl_Part)).2)).getD t6.toNat (dflt Y_impl_Part)).2).2))).set t6.toNat ((((t0.set t6.toNat (t2, (t0.getD t6.toNat (dflt Y_impl_Part)).2)).set t6.toNat (((t0.set t6.toNat (t2, (t0.getD t6.toNat (dflt Y_impl_Part)).2)).getD t6.toNat (dflt Y_impl_Part)).1, ((IntKind.wrap .i64 (t2 + 1)), (((t0.set t6.toNat (t2, (t0.getD t6.toNat (dflt Y_impl_Part)).2)).getD t6.toNat (dflt Y_impl_Part)).2).2))).getD t6.toNat (dflt Y_impl_Part)).1, (((((t0.set t6.toNat (t2, (t0.getD t6.toNat (dflt Y_impl_Part)).2)).set t6.toNat (((t0.set t6.toNat (t2, (t0.getD t6.toNat (dflt Y_impl_Part)).2)).getD t6.toNat (dflt Y_impl_Part)).1, ((IntKind.wrap .i64 (t2 + 1)), (((t0.set t6.toNat (t2, (t0.getD t6.toNat (dflt Y_impl_Part)).2)).getD t6.toNat (dflt Y_impl_Part)).2).2))).getD t6.toNat (dflt Y_impl_Part)).2).1, ((IntKind.wrap .i64 ((IntKind.wrap .i64 (t2 + 1)) + 1)), (((((t0.set t6.toNat (t2, (t0.getD t6.toNat (dflt Y_impl_Part)).2)).set t6.toNat (((t0.set t6.toNat (t2, (t0.getD t6.toNat (dflt Y_impl_Part)).2)).getD t6.toNat (dflt Y_impl_Part)).1, ((IntKind.wrap .i64 (t2 + 1)), (((t0.set t6.toNat (t2, (t0.getD t6.toNat (dflt Y_impl_Part)).2)).getD t6.toNat (dflt Y_impl_Part)).2).2))).getD t6.toNat (dflt Y_impl_Part)).2).2).2)))).getD t6.toNat (dflt Y_impl_Part)).2).1, (((((((t0.set t6.toNat (t2, (t0.getD t6.toNat (dflt Y_impl_Part)).2)).set t6.toNat (((t0.set t6.toNat (t2, (t0.getD t6.toNat (dflt Y_impl_Part)).2)).getD t6.toNat (dflt Y_impl_Part)).1, ((IntKind.wrap .i64 (t2 + 1)), (((t0.set t6.toNat (t2, (t0.getD t6.toNat (dflt Y_impl_Part)).2)).getD t6.toNat (dflt Y_impl_Part)).2).2))).set t6.toNat ((((t0.set t6.toNat (t2, (t0.getD t6.toNat (dflt Y_impl_Part)).2)).set t6.toNat (((t0.set t6.toNat (t2, (t0.getD t6.toNat (dflt Y_impl_Part)).2)).getD t6.toNat (dflt Y_impl_Part)).1, ((IntKind.wrap .i64 (t2 + 1)), (((t0.set t6.toNat (t2, (t0.getD t6.toNat (dflt Y_impl_Part)).2)).getD t6.toNat (dflt Y_impl_Part)).2).2))).getD t6.toNat (dflt Y_impl_Part)).1, (((((t0.set t6.toNat (t2, (t0.getD t6.toNat (dflt Y_impl_Part)).2)).set t6.toNat (((t0.set t6.toNat (t2, (t0.getD t6.toNat (dflt Y_impl_Part)).2)).getD t6.toNat (dflt Y_impl_Part)).1, ((IntKind.wrap .i64 (t2 + 1)), (((t0.set t6.toNat (t2, (t0.getD t6.toNat (dflt Y_impl_Part)).2)).getD t6.toNat (dflt Y_impl_Part)).2).2))).getD t6.toNat (dflt Y_impl_Part)).2).1, ((IntKind.wrap .i64 ((IntKind.wrap .i64 (t2 + 1)) + 1)), (((((t0.set t6.toNat (t2, (t0.getD t6.toNat (dflt Y_impl_Part)).2)).set t6.toNat (((t0.set t6.toNat (t2, (t0.getD t6.toNat (dflt Y_impl_Part)).2)).getD t6.toNat (dflt Y_impl_Part)).1, ((IntKind.wrap .i64 (t2 + 1)), (((t0.set t6.toNat (t2, (t0.getD t6.toNat (dflt Y_impl_Part)).2)).getD t6.toNat (dflt Y_impl_Part)).2).2))).getD t6.toNat (dflt Y_impl_Part)).2).2).2)))).getD t6.toNat (dflt Y_impl_Part)).2).2).1, (r5.2.1, (((((((t0.set t6.toNat (t2, (t0.getD t6.toNat (dflt Y_impl_Part)).2)).set t6.toNat (((t0.set t6.toNat (t2, (t0.getD t6.toNat (dflt Y_impl_Part)).2)).getD t6.toNat (dflt Y_impl_Part)).1, ((IntKind.wrap .i64 (t2 + 1)), (((t0.set t6.toNat (t2, (t0.getD t6.toNat (dflt Y_impl_Part)).2)).getD t6.toNat (dflt Y_impl_Part)).2).2))).set t6.toNat ((((t0.set t6.toNat (t2, (t0.getD t6.toNat (dflt Y_impl_Part)).2)).set t6.toNat (((t0.set t6.toNat (t2, (t0.getD t6.toNat (dflt Y_impl_Part)).2)).getD t6.toNat (dflt Y_impl_Part)).1, ((IntKind.wrap .i64 (t2 + 1)), (((t0.set t6.toNat (t2, (t0.getD t6.toNat (dflt Y_impl_Part)).2)).getD t6.toNat (dflt Y_impl_Part)).2).2))).getD t6.toNat (dflt Y_impl_Part)).1, (((((t0.set t6.toNat (t2, (t0.getD t6.toNat (dflt Y_impl_Part)).2)).set t6.toNat (((t0.set t6.toNat (t2, (t0.getD t6.toNat (dflt Y_impl_Part)).2)).getD t6.toNat (dflt Y_impl_Part)).1, ((IntKind.wrap .i64 (t2 + 1)), (((t0.set t6.toNat (t2, (t0.getD t6.toNat (dflt Y_impl_Part)).2)).getD t6.toNat (dflt Y_impl_Part)).2).2))).getD t6.toNat (dflt Y_impl_Part)).2).1, ((IntKind.wrap .i64 ((IntKind.wrap .i64 (t2 + 1)) + 1)), (((((t0.set t6.toNat (t2, (t0.getD t6.toNat (dflt Y_impl_Part)).2)).set t6.toNat (((t0.set t6.toNat (t2, (t0.getD t6.toNat (dflt Y_impl_Part)).2)).getD t6.toNat (dflt Y_impl_Part)).1, ((IntKind.wrap .i64 (t2 + 1)), (((t0.set t6.toNat (t2, (t0.getD t6.toNat (dflt Y_impl_Part)).2)).getD t6.toNat (dflt Y_impl_Part)).2).2))).getD t6.toNat (dflt Y_impl_Part)).2).2).2)))).getD t6.toNat (dflt Y_impl_Part)).2).2).2).2))))).getD t6.toNat (dflt Y_impl_Part)).2).2).1, (((((((((t0.set t6.toNat (t2, (t0.getD t6.toNat (dflt Y_impl_Part)).2)).set t6.toNat (((t0.set t6.toNat (t2, (t0.getD t6.toNat (dflt Y_impl_Part)).2)).getD t6.toNat (dflt Y_impl_Part)).1, ((IntKind.wrap .i64 (t2 + 1)), (((t0.set t6.toNat (t2, (t0.getD t6.toNat (dflt Y_impl_Part)).2)).getD t6.toNat (dflt Y_impl_Part)).2).2))).set t6.toNat ((((t0.set t6.toNat (t2, (t0.getD t6.toNat (dflt Y_impl_Part)).2)).set t6.toNat (((t0.set t6.toNat (t2, (t0.getD t6.toNat (dflt Y_impl_Part)).2)).getD t6.toNat (dflt Y_impl_Part)).1, ((IntKind.wrap .i64 (t2 + 1)), (((t0.set t6.toNat (t2, (t0.getD t6.toNat (dflt Y_impl_Part)).2)).getD t6.toNat (dflt Y_impl_Part)).2).2))).getD t6.toNat (dflt Y_impl_Part)).1, (((((t0.set t6.toNat (t2, (t0.getD t6.toNat (dflt Y_impl_Part)).2)).set t6.toNat (((t0.set t6.toNat (t2, (t0.getD t6.toNat (dflt Y_impl_Part)).2)).getD t6.toNat (dflt Y_impl_Part)).1, ((IntKind.wrap .i64 (t2 + 1)), (((t0.set t6.toNat (t2, (t0.getD t6.toNat (dflt Y_impl_Part)).2)).getD t6.toNat (dflt Y_impl_Part)).2).2))).getD t6.toNat (dflt Y_impl_Part)).2).1, ((IntKind.wrap .i64 ((IntKind.wrap .i64 (t2 + 1)) + 1)), (((((t0.set t6.toNat (t2, (t0.getD t6.toNat (dflt Y_impl_Part)).2)).set t6.toNat (((t0.set t6.toNat (t2, (t0.getD t6.toNat (dflt Y_impl_Part)).2)).getD t6.toNat (dflt Y_impl_Part)).1, ((IntKind.wrap .i64 (t2 + 1)), (((t0.set t6.toNat (t2, (t0.getD t6.toNat (dflt Y_impl_Part)).2)).getD t6.toNat (dflt Y_impl_Part)).2).2))).getD t6.toNat (dflt Y_impl_Part)).2).2).2)))).set t6.toNat (((((t0.set t6.toNat (t2, (t0.getD t6.toNat (dflt Y_impl_Part)).2)).set t6.toNat (((t0.set t6.toNat (t2, (t0.getD t6.toNat (dflt Y_impl_Part)).2)).getD t6.toNat (dflt Y_impl_Part)).1, ((IntKind.wrap .i64 (t2 + 1)), (((t0.set t6.toNat (t2, (t0.getD t6.toNat (dflt Y_impl_Part)).2)).getD t6.toNat (dflt Y_impl_Part)).2).2))).set t6.toNat ((((t0.set t6.toNat (t2, (t0.getD t6.toNat (dflt Y_impl_Part)).2)).set t6.toNat (((t0.set t6.toNat (t2, (t0.getD t6.toNat (dflt Y_impl_Part)).2)).getD t6.toNat (dflt Y_impl_Part)).1, ((IntKind.wrap .i64 (t2 + 1)), (((t0.set t6.toNat (t2, (t0.getD t6.toNat (dflt Y_impl_Part)).2)).getD t6.toNat (dflt Y_impl_Part)).2).2))).getD t6.toNat (dflt Y_impl_Part)).1, (((((t0.set t6.toNat (t2, (t0.getD t6.toNat (dflt Y_impl_Part)).2)).set t6.toNat (((t0.set t6.toNat (t2, (t0.getD t6.toNat (dflt Y_impl_Part)).2)).getD t6.toNat (dflt Y_impl_Part)).1, ((IntKind.wrap .i64 (t2 + 1)), (((t0.set t6.toNat (t2, (t0.getD t6.toNat (dflt Y_impl_Part)).2)).getD t6.toNat (dflt Y_impl_Part)).2).2))).getD t6.toNat (dflt Y_impl_Part)).2).1, ((IntKind.wrap .i64 ((IntKind.wrap .i64 (t2 + 1)) + 1)), (((((t0.set t6.toNat (t2, (t0.getD t6.toNat (dflt Y_impl_Part)).2)).set t6.toNat (((t0.set t6.toNat (t2, (t0.getD t6.toNat (dflt Y_impl_Part)).2)).getD t6.toNat (dflt Y_impl_Part)).1, ((IntKind.wrap .i64 (t2 + 1)), (((t0.set t6.toNat (t2, (t0.getD t6.toNat (dflt Y_impl_Part)).2)).getD t6.toNat (dflt Y_impl_Part)).2).2))).getD t6.toNat (dflt Y_impl_Part)).2).2).2)))).getD t6.toNat (dflt Y_impl_Part)).1, ((((((t0.set t6.toNat (t2, (t0.getD t6.toNat (dflt Y_impl_Part)).2)).set t6.toNat (((t0.set t6.toNat (t2, (t0.getD t6.toNat (dflt Y_impl_Part)).2)).getD t6.toNat (dflt Y_impl_Part)).1, ((IntKind.wrap .i64 (t2 + 1)), (((t0.set t6.toNat (t2, (t0.getD t6.toNat (dflt Y_impl_Part)).2)).getD t6.toNat (dflt Y_impl_Part)).2).2))).set t6.toNat ((((t0.set t6.toNat (t2, (t0.getD t6.toNat (dflt Y_impl_Part)).2)).set t6.toNat (((t0.set t6.toNat (t2, (t0.getD t6.toNat (dflt Y_impl_Part)).2)).getD t6.toNat (dflt Y_impl_Part)).1, ((IntKind.wrap .i64 (t2 + 1)), (((t0.set t6.toNat (t2, (t0.getD t6.toNat (dflt Y_impl_Part)).2)).getD t6.toNat (dflt Y_impl_Part)).2).2))).getD t6.toNat (dflt Y_impl_Part)).1, (((((t0.set t6.toNat (t2, (t0.getD t6.toNat (dflt Y_impl_Part)).2)).set t6.toNat (((t0.set t6.toNat (t2, (t0.getD t6.toNat (dflt Y_impl_Part)).2)).getD t6.toNat (dflt Y_impl_Part)).1, ((IntKind.wrap .i64 (t2 + 1)), (((t0.set t6.toNat (t2, (t0.getD t6.toNat (dflt Y_impl_Part)).2)).getD t6.toNat (dflt Y_impl_Part)).2).2))).getD t6.toNat (dflt Y_impl_Part)).2).1, ((IntKind.wrap .i64 ((IntKind.wrap .i64 (t2 + 1)) + 1)), (((((t0.set t6.toNat (t2, (t0.getD t6.toNat (dflt Y_impl_Part)).2)).set t6.toNat (((t0.set t6.toNat (t2, (t0.getD t6.toNat (dflt Y_impl_Part)).2)).getD t6.toNat (dflt Y_impl_Part)).1, ((IntKind.wrap .i64 (t2 + 1)), (((t0.set t6.toNat (t2, (t0.getD t6.toNat (dflt Y_impl_Part)).2)).getD t6.toNat (dflt Y_impl_Part)).2).2))).getD t6.toNat (dflt Y_impl_Part)).2).2).2)))).getD t6.toNat (dflt Y_impl_Part)).2).1, (((((((t0.set t6.toNat (t2, (t0.getD t6.toNat (dflt Y_impl_Part)).2)).set t6.toNat (((t0.set t6.toNat (t2, (t0.getD t6.toNat (dflt Y_impl_Part)).2)).getD t6.toNat (dflt Y_impl_Part)).1, ((IntKind.wrap .i64 (t2 + 1)), (((t0.set t6.toNat (t2, (t0.getD t6.toNat (dflt Y_impl_Part)).2)).getD t6.toNat (dflt Y_impl_Part)).2).2))).set t6.toNat ((((t0.set t6.toNat (t2, (t0.getD t6.toNat (dflt Y_impl_Part)).2)).set t6.toNat (((t0.set t6.toNat (t2, (t0.getD t6.toNat (dflt Y_impl_Part)).2)).getD t6.toNat (dflt Y_impl_Part)).1, ((IntKind.wrap .i64 (t2 + 1)), (((t0.set t6.toNat (t2, (t0.getD t6.toNat (dflt Y_impl_Part)).2)).getD t6.toNat (dflt Y_impl_Part)).2).2))).getD t6.toNat (dflt Y_impl_Part)).1, (((((t0.set t6.toNat (t2, (t0.getD t6.toNat (dflt Y_impl_Part)).2)).set t6.toNat (((t0.set t6.toNat (t2, (t0.getD t6.toNat (dflt Y_impl_Part)).2)).getD t6.toNat (dflt Y_impl_Part)).1, ((IntKind.wrap .i64 (t2 + 1)), (((t0.set t6.toNat (t2, (t0.getD t6.toNat (dflt Y_impl_Part)).2)).getD t6.toNat (dflt Y_impl_Part)).2).2))).getD t6.toNat (dflt Y_impl_Part)).2).1, ((IntKind.wrap .i64 ((IntKind.wrap .i64 (t2 + 1)) + 1)), (((((t0.set t6.toNat (t2, (t0.getD t6.toNat (dflt Y_impl_Part)).2)).set t6.toNat (((t0.set t6.toNat (t2, (t0.getD t6.toNat (dflt Y_impl_Part)).2)).getD t6.toNat (dflt Y_impl_Part)).1, ((IntKind.wrap .i64 (t2 + 1)), (((t0.set t6.toNat (t2, (t0.getD t6.toNat (dflt Y_impl_Part)).2)).getD t6.toNat (dflt Y_impl_Part)).2).2))).getD t6.toNat (dflt Y_impl_Part)).2).2).2)))).getD t6.toNat (dflt Y_impl_Part)).2).2).1, (r5.2.1, (((((((t0.set t6.toNat (t2, (t0.getD t6.toNat (dflt Y_impl_Part)).2)).set t6.toNat (((t0.set t6.toNat (t2, (t0.getD t6.toNat (dflt Y_impl_Part)).2)).getD t6.toNat (dflt Y_impl_Part)).1, ((IntKind.wrap .i64 (t2 + 1)), (((t0.set t6.toNat (t2, (t0.getD t6.toNat (dflt Y_impl_Part)).2)).getD t6.toNat (dflt Y_impl_Part)).2).2))).set t6.toNat ((((t0.set t6.toNat (t2, (t0.getD t6.toNat (dflt Y_impl_Part)).2)).set t6.toNat (((t0.set t6.toNat (t2, (t0.getD t6.toNat (dflt Y_impl_Part)).2)).getD t6.toNat (dflt Y_impl_Part)).1, ((IntKind.wrap .i64 (t2 + 1)), (((t0.set t6.toNat (t2, (t0.getD t6.toNat (dflt Y_impl_Part)).2)).getD t6.toNat (dflt Y_impl_Part)).2).2))).getD t6.toNat (dflt Y_impl_Part)).1, (((((t0.set t6.toNat (t2, (t0.getD t6.toNat (dflt Y_impl_Part)).2)).set t6.toNat (((t0.set t6.toNat (t2, (t0.getD t6.toNat (dflt Y_impl_Part)).2)).getD t6.toNat (dflt Y_impl_Part)).1, ((IntKind.wrap .i64 (t2 + 1)), (((t0.set t6.toNat (t2, (t0.getD t6.toNat (dflt Y_impl_Part)).2)).getD t6.toNat (dflt Y_impl_Part)).2).2))).getD t6.toNat (dflt Y_impl_Part)).2).1, ((IntKind.wrap .i64 ((IntKind.wrap .i64 (t2 + 1)) + 1)), (((((t0.set t6.toNat (t2, (t0.getD t6.toNat (dflt Y_impl_Part)).2)).set t6.toNat (((t0.set t6.toNat (t2, (t0.getD t6.toNat (dflt Y_impl_Part)).2)).getD t6.toNat (dflt Y_impl_Part)).1, ((IntKind.wrap .i64 (t2 + 1)), (((t0.set t6.toNat (t2, (t0.getD t6.toNat (dflt Y_impl_Part)).2)).getD t6.toNat (dflt Y_impl_Part)).2).2))).getD t6.toNat (dflt Y_impl_Part)).2).2).2)))).getD t6.toNat (dflt Y_impl_Part)).2).2).2).2))))).getD t6.toNat (dflt Y_impl_Part)).2).2).2).1, (r6.2.1, (((((((((t0.set t6.toNat (t2, (t0.getD t6.toNat (dflt Y_impl_Part)).2)).set t6.toNat (((t0.set t6.toNat (t2, (t0.getD t6.toNat (dflt Y_impl_Part)).2)).getD t6.toNat (dflt Y_impl_Part)).1, ((IntKind.wrap .i64 (t2 + 1)), (((t0.set t6.toNat (t2, (t0.getD t6.toNat (dflt Y_impl_Part)).2)).getD t6.toNat (dflt Y_impl_Part)).2).2))).set t6.toNat ((((t0.set t6.toNat (t2, (t0.getD t6.toNat (dflt Y_impl_Part)).2)).set t6.toNat (((t0.set t6.toNat (t2, (t0.getD t6.toNat (dflt Y_impl_Part)).2)).getD t6.toNat (dflt Y_impl_Part)).1, ((IntKind.wrap .i64 (t2 + 1)), (((t0.set t6.toNat (t2, (t0.getD t6.toNat (dflt Y_impl_Part)).2)).getD t6.toNat (dflt Y_impl_Part)).2).2))).getD t6.toNat (dflt Y_impl_Part)).1, (((((t0.set t6.toNat (t2, (t0.getD t6.toNat (dflt Y_impl_Part)).2)).set t6.toNat (((t0.set t6.toNat (t2, (t0.getD t6.toNat (dflt Y_impl_Part)).2)).getD t6.toNat (dflt Y_impl_Part)).1, ((IntKind.wrap .i64 (t2 + 1)), (((t0.set t6.toNat (t2, (t0.getD t6.toNat (dflt Y_impl_Part)).2)).getD t6.toNat (dflt Y_impl_Part)).2).2))).getD t6.toNat (dflt Y_impl_Part)).2).1, ((IntKind.wrap .i64 ((IntKind.wrap .i64 (t2 + 1)) + 1)), (((((t0.set t6.toNat (t2, (t0.getD t6.toNat (dflt Y_impl_Part)).2)).set t6.toNat (((t0.set t6.toNat (t2, (t0.getD t6.toNat (dflt Y_impl_Part)).2)).getD t6.toNat (dflt Y_impl_Part)).1, ((IntKind.wrap .i64 (t2 + 1)), (((t0.set t6.toNat (t2, (t0.getD t6.toNat (dflt Y_impl_Part)).2)).getD t6.toNat (dflt Y_impl_Part)).2).2))).getD t6.toNat (dflt Y_impl_Part)).2).2).2)))).set t6.toNat (((((t0.set t6.toNat (t2, (t0.getD t6.toNat (dflt Y_impl_Part)).2)).set t6.toNat (((t0.set t6.toNat (t2, (t0.getD t6.toNat (dflt Y_impl_Part)).2)).getD t6.toNat (dflt Y_impl_Part)).1, ((IntKind.wrap .i64 (t2 + 1)), (((t0.set t6.toNat (t2, (t0.getD t6.toNat (dflt Y_impl_Part)).2)).getD t6.toNat (dflt Y_impl_Part)).2).2))).set t6.toNat ((((t0.set t6.toNat (t2, (t0.getD t6.toNat (dflt Y_impl_Part)).2)).set t6.toNat (((t0.set t6.toNat (t2, (t0.getD t6.toNat (dflt Y_impl_Part)).2)).getD t6.toNat (dflt Y_impl_Part)).1, ((IntKind.wrap .i64 (t2 + 1)), (((t0.set t6.toNat (t2, (t0.getD t6.toNat (dflt Y_impl_Part)).2)).getD t6.toNat (dflt Y_impl_Part)).2).2))).getD t6.toNat (dflt Y_impl_Part)).1, (((((t0.set t6.toNat (t2, (t0.getD t6.toNat (dflt Y_impl_Part)).2)).set t6.toNat (((t0.set t6.toNat (t2, (t0.getD t6.toNat (dflt Y_impl_Part)).2)).getD t6.toNat (dflt Y_impl_Part)).1, ((IntKind.wrap .i64 (t2 + 1)), (((t0.set t6.toNat (t2, (t0.getD t6.toNat (dflt Y_impl_Part)).2)).getD t6.toNat (dflt Y_impl_Part)).2).2))).getD t6.toNat (dflt Y_impl_Part)).2).1, ((IntKind.wrap .i64 ((IntKind.wrap .i64 (t2 + 1)) + 1)), (((((t0.set t6.toNat (t2, (t0.getD t6.toNat (dflt Y_impl_Part)).2)).set t6.toNat (((t0.set t6.toNat (t2, (t0.getD t6.toNat (dflt Y_impl_Part)).2)).getD t6.toNat (dflt Y_impl_Part)).1, ((IntKind.wrap .i64 (t2 + 1)), (((t0.set t6.toNat (t2, (t0.getD t6.toNat (dflt Y_impl_Part)).2)).getD t6.toNat (dflt Y_impl_Part)).2).2))).getD t6.toNat (dflt Y_impl_Part)).2).2).2)))).getD t6.toNat (dflt Y_impl_Part)).1, ((((((t0.set t6.toNat (t2, (t0.getD t6.toNat (dflt Y_impl_Part)).2)).set t6.toNat (((t0.set t6.toNat (t2, (t0.getD t6.toNat (dflt Y_impl_Part)).2)).getD t6.toNat (dflt Y_impl_Part)).1, ((IntKind.wrap .i64 (t2 + 1)), (((t0.set t6.toNat (t2, (t0.getD t6.toNat (dflt Y_impl_Part)).2)).getD t6.toNat (dflt Y_impl_Part)).2).2))).set t6.toNat ((((t0.set t6.toNat (t2, (t0.getD t6.toNat (dflt Y_impl_Part)).2)).set t6.toNat (((t0.set t6.toNat (t2, (t0.getD t6.toNat (dflt Y_impl_Part)).2)).getD t6.toNat (dflt Y_impl_Part)).1, ((IntKind.wrap .i64 (t2 + 1)), (((t0.set t6.toNat (t2, (t0.getD t6.toNat (dflt Y_impl_Part)).2)).getD t6.toNat (dflt Y_impl_Part)).2).2))).getD t6.toNat (dflt Y_impl_Part)).1, (((((t0.set t6.toNat (t2, (t0.getD t6.toNat (dflt Y_impl_Part)).2)).set t6.toNat (((t0.set t6.toNat (t2, (t0.getD t6.toNat (dflt Y_impl_Part)).2)).getD t6.toNat (dflt Y_impl_Part)).1, ((IntKind.wrap .i64 (t2 + 1)), (((t0.set t6.toNat (t2, (t0.getD t6.toNat (dflt Y_impl_Part)).2)).getD t6.toNat (dflt Y_impl_Part)).2).2))).getD t6.toNat (dflt Y_impl_Part)).2).1, ((IntKind.wrap .i64 ((IntKind.wrap .i64 (t2 + 1)) + 1)), (((((t0.set t6.toNat (t2, (t0.getD t6.toNat (dflt Y_impl_Part)).2)).set t6.toNat (((t0.set t6.toNat (t2, (t0.getD t6.toNat (dflt Y_impl_Part)).2)).getD t6.toNat (dflt Y_impl_Part)).1, ((IntKind.wrap .i64 (t2 + 1)), (((t0.set t6.toNat (t2, (t0.getD t6.toNat (dflt Y_impl_Part)).2)).getD t6.toNat (dflt Y_impl_Part)).2).2))).getD t6.toNat (dflt Y_impl_Part)).2).2).2)))).getD t6.toNat (dflt Y_impl_Part)).2).1, (((((((t0.set t6.toNat (t2, (t0.getD t6.toNat (dflt Y_impl_Part)).2)).set t6.toNat (((t0.set t6.toNat (t2, (t0.getD t6.toNat (dflt Y_impl_Part)).2)).getD t6.toNat (dflt Y_impl_Part)).1, ((IntKind.wrap .i64 (t2 + 1)), (((t0.set t6.toNat (t2, (t0.getD t6.toNat (dflt Y_impl_Part)).2)).getD t6.toNat (dflt Y_impl_Part)).2).2))).set t6.toNat ((((t0.set t6.toNat (t2, (t0.getD t6.toNat (dflt Y_impl_Part)).2)).set t6.toNat (((t0.set t6.toNat (t2, (t0.getD t6.toNat (dflt Y_impl_Part)).2)).getD t6.toNat (dflt Y_impl_Part)).1, ((IntKind.wrap .i64 (t2 + 1)), (((t0.set t6.toNat (t2, (t0.getD t6.toNat (dflt Y_impl_Part)).2)).getD t6.toNat (dflt Y_impl_Part)).2).2))).getD t6.toNat (dflt Y_impl_Part)).1, (((((t0.set t6.toNat (t2, (t0.getD t6.toNat (dflt Y_impl_Part)).2)).set t6.toNat (((t0.set t6.toNat (t2, (t0.getD t6.toNat (dflt Y_impl_Part)).2)).getD t6.toNat (dflt Y_impl_Part)).1, ((IntKind.wrap .i64 (t2 + 1)), (((t0.set t6.toNat (t2, (t0.getD t6.toNat (dflt Y_impl_Part)).2)).getD t6.toNat (dflt Y_impl_Part)).2).2))).getD t6.toNat (dflt Y_impl_Part)).2).1, ((IntKind.wrap .i64 ((IntKind.wrap .i64 (t2 + 1)) + 1)), (((((t0.set t6.toNat (t2, (t0.getD t6.toNat (dflt Y_impl_Part)).2)).set t6.toNat (((t0.set t6.toNat (t2, (t0.getD t6.toNat (dflt Y_impl_Part)).2)).getD t6.toNat (dflt Y_impl_Part)).1, ((IntKind.wrap .i64 (t2 + 1)), (((t0.set t6.toNat (t2, (t0.getD t6.toNat (dflt Y_impl_Part)).2)).getD t6.toNat (dflt Y_impl_Part)).2).2))).getD t6.toNat (dflt Y_impl_Part)).2).2).2)))).getD t6.toNat (dflt Y_impl_Part)).2).2).1, (r5.2.1, (((((((t0.set t6.toNat (t2, (t0.getD t6.toNat (dflt Y_impl_Part)).2)).set t6.toNat (((t0.set t6.toNat (t2, (t0.getD t6.toNat (dflt Y_impl_Part)).2)).getD t6.toNat (dflt Y_impl_Part)).1, ((IntKind.wrap .i64 (t2 + 1)), (((t0.set t6.toNat (t2, (t0.getD t6.toNat (dflt Y_impl_Part)).2)).getD t6.toNat (dflt Y_impl_Part)).2).2))).set t6.toNat ((((t0.set t6.toNat (t2, (t0.getD t6.toNat (dflt Y_impl_Part)).2)).set t6.toNat (((t0.set t6.toNat (t2, (t0.getD t6.toNat (dflt Y_impl_Part)).2)).getD t6.toNat (dflt Y_impl_Part)).1, ((IntKind.wrap .i64 (t2 + 1)), (((t0.set t6.toNat (t2, (t0.getD t6.toNat (dflt Y_impl_Part)).2)).getD t6.toNat (dflt Y_impl_Part)).2).2))).getD t6.toNat (dflt Y_impl_Part)).1, (((((t0.set t6.toNat (t2, (t0.getD t6.toNat (dflt Y_impl_Part)).2)).set t6.toNat (((t0.set t6.toNat (t2, (t0.getD t6.toNat (dflt Y_impl_Part)).2)).getD t6.toNat (dflt Y_impl_Part)).1, ((IntKind.wrap .i64 (t2 + 1)), (((t0.set t6.toNat (t2, (t0.getD t6.toNat (dflt Y_impl_Part)).2)).getD t6.toNat (dflt Y_impl_Part)).2).2))).getD t6.toNat (dflt Y_impl_Part)).2).1, ((IntKind.wrap .i64 ((IntKind.wrap .i64 (t2 + 1)) + 1)), (((((t0.set t6.toNat (t2, (t0.getD t6.toNat (dflt Y_impl_Part)).2)).set t6.toNat (((t0.set t6.toNat (t2, (t0.getD t6.toNat (dflt Y_impl_Part)).2)).getD t6.toNat (dflt Y_impl_Part)).1, ((IntKind.wrap .i64 (t2 + 1)), (((t0.set t6.toNat (t2, (t0.getD t6.toNat (dflt Y_impl_Part)).2)).getD t6.toNat (dflt Y_impl_Part)).2).2))).getD t6.toNat (dflt Y_impl_Part)).2).2).2)))).getD t6.toNat (dflt Y_impl_Part)).2).2).2).2))))).getD t6.toNat (dflt Y_impl_Part)).2).2).2).2).2)))))), r6.1.1, (IntKind.wrap .i64 (t6 + 1)), ()))
              else
                none
          else
            none
        else
          none
      else
        none
    else
      none
  else
    some (.inr (t0, t2, ()))
noncomputable def w_L_markPartS_2 : PV S_impl_Part × PV (.int .i64) × PV (.int .i64) × Unit → Option ((PV S_impl_Part × PV (.int .i64) × Unit)) := fix fun d => b_L_markPartS_2 d.1 d.2.1 d.2.2.1
noncomputable def lp_L_markPartS_2 : Lp := ⟨⟨[], [0, 1, 5]⟩, sh_L_markPartS_2, o_L_markPartS_2, fun d => b_L_markPartS_2 d.1 d.2.1 d.2.2.1⟩
noncomputable def pl_L_markPartS : Plan := ⟨[], [(2, lp_L_markPartS_2)], 0, 1⟩
noncomputable def f_L_markPartS (t0 : PV S_impl_Part) (t1 : PV (.int .i64)) : Option (PVs [(.int .i64)] × PVs [S_impl_Part]) :=
  (w_L_markPartS_2 (t0, t1, 0, ())).bind fun l8 =>
    some ((l8.2.1, ()), (l8.1, ()))
noncomputable def ct_L_markPartS : Ct := ⟨[(.mut, S_impl_Part), (.bor, (.int .i64))], [((.int .i64), false)], fun x => f_L_markPartS x.1 x.2.1⟩
noncomputable def cx_L_markPartS : Cx := ⟨tab, arrs, [(55, ct_L_markStringS)], []⟩
theorem eb_L_markPartS_2 (t0 : PV S_impl_Part) (t2 : PV (.int .i64)) (t6 : PV (.int .i64)) : denK cx_L_markPartS (rcN cx_L_markPartS 0) pl_L_markPartS 1 ((loopsOf (bodyOf Try.f22)).getD 0 .skip) (fillS sh_L_markPartS_2 (t0, t2, t6, ())) (roundK 1 lp_L_markPartS_2) = b_L_markPartS_2 t0 t2 t6 := by kernel_rfl
theorem ef_L_markPartS (t0 : PV S_impl_Part) (t1 : PV (.int .i64)) : denF cx_L_markPartS 0 pl_L_markPartS Try.f22.ntmps (bodyOf Try.f22) Try.f22.results.toList [(.mut, S_impl_Part), (.bor, (.int .i64))] [((.int .i64), false)] (t0, t1, ()) = f_L_markPartS t0 t1 := by kernel_rfl
theorem ok_L_markPartS : FnOk Try.prog 22 ct_L_markPartS :=
  fnOk (cx := cx_L_markPartS) (pl := pl_L_markPartS) (dp := 0) (ok0_of tabOk (by unfold ArrOk; kernel_rfl) mix ⟨ok_L_markStringS, trivial⟩ trivial) Try.func22 (by kernel_rfl) (by kernel_rfl) (by kernel_rfl)
    (by rw [show loopsOf (bodyOf Try.f22) = [((loopsOf (bodyOf Try.f22)).getD 0 .skip)] from by kernel_rfl]; exact ⟨(by rw [show lookup pl_L_markPartS.loops (firstId ((loopsOf (bodyOf Try.f22)).getD 0 .skip)) = some lp_L_markPartS_2 from by kernel_rfl]; exact fun d z h => (eb_L_markPartS_2 d.1 d.2.1 d.2.2.1).trans h), trivial⟩) (fun x => ef_L_markPartS x.1 x.2.1)
noncomputable def sh_L_heldStringS_2 : List Sh := mkSh 22 [(0, .val S_string .b), (1, .val (.int .i64) .b), (5, .val (.int .i64) .b)]
noncomputable def o_L_heldStringS_2 : List Out := [⟨.exit 0, ⟨[], [1]⟩, mkSh 22 [(1, .val (.int .i64) .b)]⟩, ⟨.ret, ⟨[], [4]⟩, mkSh 22 [(4, .val (.int .i64) .b)]⟩]
noncomputable def b_L_heldStringS_2 (t0 : PV S_string) (t1 : PV (.int .i64)) (t5 : PV (.int .i64)) : Option ((PV S_string × PV (.int .i64) × PV (.int .i64) × Unit) ⊕ ((PV (.int .i64) × Unit) ⊕ (PV (.int .i64) × Unit))) :=
  bif (decide (t5 < (t0.length : Int))) then
    bif inB t5 t0.length then
      (f_L_markText t1).bind fun r8 =>
        bif (!((t0.getD t5.toNat []) == r8.1.1)) then
          some (.inr (.inr ((-1), ())))
        else
          some (.inl (t0, (IntKind.wrap .i64 (t1 + 1)), (IntKind.wrap .i64 (t5 + 1)), ()))
    else
      none
  else
    some (.inr (.inl (t1, ())))
noncomputable def w_L_heldStringS_2 : PV S_string × PV (.int .i64) × PV (.int .i64) × Unit → Option ((PV (.int .i64) × Unit) ⊕ (PV (.int .i64) × Unit)) := fix fun d => b_L_heldStringS_2 d.1 d.2.1 d.2.2.1
noncomputable def lp_L_heldStringS_2 : Lp := ⟨⟨[], [0, 1, 5]⟩, sh_L_heldStringS_2, o_L_heldStringS_2, fun d => b_L_heldStringS_2 d.1 d.2.1 d.2.2.1⟩
noncomputable def pl_L_heldStringS : Plan := ⟨[], [(2, lp_L_heldStringS_2)], 0, 0⟩
noncomputable def f_L_heldStringS (t0 : PV S_string) (t1 : PV (.int .i64)) : Option (PVs [(.int .i64)] × PVs []) :=
  (w_L_heldStringS_2 (t0, t1, 0, ())).bind fun x13 =>
    match x13 with
    | .inl l11 =>
      some ((l11.1, ()), ())
    | .inr l12 =>
      some ((l12.1, ()), ())
noncomputable def ct_L_heldStringS : Ct := ⟨[(.bor, S_string), (.bor, (.int .i64))], [((.int .i64), false)], fun x => f_L_heldStringS x.1 x.2.1⟩
noncomputable def cx_L_heldStringS : Cx := ⟨tab, arrs, [(103, ct_L_markText)], []⟩
theorem eb_L_heldStringS_2 (t0 : PV S_string) (t1 : PV (.int .i64)) (t5 : PV (.int .i64)) : denK cx_L_heldStringS (rcN cx_L_heldStringS 0) pl_L_heldStringS 0 ((loopsOf (bodyOf Try.f56)).getD 0 .skip) (fillS sh_L_heldStringS_2 (t0, t1, t5, ())) (roundK 0 lp_L_heldStringS_2) = b_L_heldStringS_2 t0 t1 t5 := by kernel_rfl
theorem ef_L_heldStringS (t0 : PV S_string) (t1 : PV (.int .i64)) : denF cx_L_heldStringS 0 pl_L_heldStringS Try.f56.ntmps (bodyOf Try.f56) Try.f56.results.toList [(.bor, S_string), (.bor, (.int .i64))] [((.int .i64), false)] (t0, t1, ()) = f_L_heldStringS t0 t1 := by kernel_rfl
theorem ok_L_heldStringS : FnOk Try.prog 56 ct_L_heldStringS :=
  fnOk (cx := cx_L_heldStringS) (pl := pl_L_heldStringS) (dp := 0) (ok0_of tabOk (by unfold ArrOk; kernel_rfl) mix ⟨ok_L_markText, trivial⟩ trivial) Try.func56 (by kernel_rfl) (by kernel_rfl) (by kernel_rfl)
    (by rw [show loopsOf (bodyOf Try.f56) = [((loopsOf (bodyOf Try.f56)).getD 0 .skip)] from by kernel_rfl]; exact ⟨(by rw [show lookup pl_L_heldStringS.loops (firstId ((loopsOf (bodyOf Try.f56)).getD 0 .skip)) = some lp_L_heldStringS_2 from by kernel_rfl]; exact fun d z h => (eb_L_heldStringS_2 d.1 d.2.1 d.2.2.1).trans h), trivial⟩) (fun x => ef_L_heldStringS x.1 x.2.1)
noncomputable def sh_L_heldPartS_2 : List Sh := mkSh 58 [(0, .val S_impl_Part .b), (1, .val (.int .i64) .b), (5, .val (.int .i64) .b)]
noncomputable def o_L_heldPartS_2 : List Out := [⟨.exit 0, ⟨[], [1]⟩, mkSh 58 [(1, .val (.int .i64) .b)]⟩, ⟨.ret, ⟨[], [4]⟩, mkSh 58 [(4, .val (.int .i64) .b)]⟩]
noncomputable def b_L_heldPartS_2 (t0 : PV S_impl_Part) (t1 : PV (.int .i64)) (t5 : PV (.int .i64)) : Option ((PV S_impl_Part × PV (.int .i64) × PV (.int .i64) × Unit) ⊕ ((PV (.int .i64) × Unit) ⊕ (PV (.int .i64) × Unit))) :=
  bif (decide (t5 < (t0.length : Int))) then
    bif inB t5 t0.length then
      bif (!(((t0.getD t5.toNat (dflt Y_impl_Part)).1) == t1)) then
        some (.inr (.inr ((-1), ())))
      else
        bif inB t5 t0.length then
          bif (!((((t0.getD t5.toNat (dflt Y_impl_Part)).2).1) == (IntKind.wrap .i64 (t1 + 1)))) then
            some (.inr (.inr ((-1), ())))
          else
            bif inB t5 t0.length then
              bif (!(((((t0.getD t5.toNat (dflt Y_impl_Part)).2).2).1) == (IntKind.wrap .i64 ((IntKind.wrap .i64 (t1 + 1)) + 1)))) then
                some (.inr (.inr ((-1), ())))
              else
                bif inB t5 t0.length then
                  (f_L_heldStringS (((((t0.getD t5.toNat (dflt Y_impl_Part)).2).2).2).1) (IntKind.wrap .i64 ((IntKind.wrap .i64 ((IntKind.wrap .i64 (t1 + 1)) + 1)) + 1))).bind fun r6 =>
                    bif (decide (r6.1.1 < 0)) then
                      some (.inr (.inr ((-1), ())))
                    else
                      bif inB t5 t0.length then
                        (f_L_heldStringS ((((((t0.getD t5.toNat (dflt Y_impl_Part)).2).2).2).2).1) r6.1.1).bind fun r8 =>
                          bif (decide (r8.1.1 < 0)) then
                            some (.inr (.inr ((-1), ())))
                          else
                            some (.inl (t0, r8.1.1, (IntKind.wrap .i64 (t5 + 1)), ()))
                      else
                        none
                else
                  none
            else
              none
        else
          none
    else
      none
  else
    some (.inr (.inl (t1, ())))
noncomputable def w_L_heldPartS_2 : PV S_impl_Part × PV (.int .i64) × PV (.int .i64) × Unit → Option ((PV (.int .i64) × Unit) ⊕ (PV (.int .i64) × Unit)) := fix fun d => b_L_heldPartS_2 d.1 d.2.1 d.2.2.1
noncomputable def lp_L_heldPartS_2 : Lp := ⟨⟨[], [0, 1, 5]⟩, sh_L_heldPartS_2, o_L_heldPartS_2, fun d => b_L_heldPartS_2 d.1 d.2.1 d.2.2.1⟩
noncomputable def pl_L_heldPartS : Plan := ⟨[], [(2, lp_L_heldPartS_2)], 0, 0⟩
noncomputable def f_L_heldPartS (t0 : PV S_impl_Part) (t1 : PV (.int .i64)) : Option (PVs [(.int .i64)] × PVs []) :=
  (w_L_heldPartS_2 (t0, t1, 0, ())).bind fun x13 =>
    match x13 with
    | .inl l11 =>
      some ((l11.1, ()), ())
    | .inr l12 =>
      some ((l12.1, ()), ())
noncomputable def ct_L_heldPartS : Ct := ⟨[(.bor, S_impl_Part), (.bor, (.int .i64))], [((.int .i64), false)], fun x => f_L_heldPartS x.1 x.2.1⟩
noncomputable def cx_L_heldPartS : Cx := ⟨tab, arrs, [(56, ct_L_heldStringS)], []⟩
theorem eb_L_heldPartS_2 (t0 : PV S_impl_Part) (t1 : PV (.int .i64)) (t5 : PV (.int .i64)) : denK cx_L_heldPartS (rcN cx_L_heldPartS 0) pl_L_heldPartS 0 ((loopsOf (bodyOf Try.f23)).getD 0 .skip) (fillS sh_L_heldPartS_2 (t0, t1, t5, ())) (roundK 0 lp_L_heldPartS_2) = b_L_heldPartS_2 t0 t1 t5 := by kernel_rfl
theorem ef_L_heldPartS (t0 : PV S_impl_Part) (t1 : PV (.int .i64)) : denF cx_L_heldPartS 0 pl_L_heldPartS Try.f23.ntmps (bodyOf Try.f23) Try.f23.results.toList [(.bor, S_impl_Part), (.bor, (.int .i64))] [((.int .i64), false)] (t0, t1, ()) = f_L_heldPartS t0 t1 := by kernel_rfl
theorem ok_L_heldPartS : FnOk Try.prog 23 ct_L_heldPartS :=
  fnOk (cx := cx_L_heldPartS) (pl := pl_L_heldPartS) (dp := 0) (ok0_of tabOk (by unfold ArrOk; kernel_rfl) mix ⟨ok_L_heldStringS, trivial⟩ trivial) Try.func23 (by kernel_rfl) (by kernel_rfl) (by kernel_rfl)
    (by rw [show loopsOf (bodyOf Try.f23) = [((loopsOf (bodyOf Try.f23)).getD 0 .skip)] from by kernel_rfl]; exact ⟨(by rw [show lookup pl_L_heldPartS.loops (firstId ((loopsOf (bodyOf Try.f23)).getD 0 .skip)) = some lp_L_heldPartS_2 from by kernel_rfl]; exact fun d z h => (eb_L_heldPartS_2 d.1 d.2.1 d.2.2.1).trans h), trivial⟩) (fun x => ef_L_heldPartS x.1 x.2.1)
noncomputable def o_L_FnExactSwapSides_9 : List Out := [⟨.normal, ⟨[], [0, 4, 5, 6, 7, 8, 40, 52, 53, 54, 55, 58, 59, 60, 84, 85, 86]⟩, mkSh 96 [(0, .val S_laws_Part .b), (4, .val S_impl_Part (.row (.pr .b (.pr .b (.pr .b (.pr (.row .b) (.pr (.row .b) .b))))))), (5, .val .bool .b), (6, .val S_impl_Part (.row (.pr .b (.pr .b (.pr .b (.pr (.row .b) (.pr (.row .b) .b))))))), (7, .val S_impl_Part (.row (.pr .b (.pr .b (.pr .b (.pr (.row .b) (.pr (.row .b) .b))))))), (8, .val .bool .b), (40, .val .bool .b)]⟩]
noncomputable def o_L_FnExactSwapSides_15 : List Out := [⟨.normal, ⟨[], [0, 4, 5, 7, 61, 84, 85, 86]⟩, mkSh 96 [(0, .val S_laws_Part .b), (4, .val S_impl_Part (.row (.pr .b (.pr .b (.pr .b (.pr (.row .b) (.pr (.row .b) .b))))))), (5, .val .bool .b), (7, .val S_impl_Part (.row (.pr .b (.pr .b (.pr .b (.pr (.row .b) (.pr (.row .b) .b))))))), (61, .val .bool .b)]⟩]
noncomputable def o_L_FnExactSwapSides_26 : List Out := [⟨.normal, ⟨[], [7, 10, 87]⟩, mkSh 96 [(7, .val S_impl_Part (.row (.pr .b (.pr .b (.pr .b (.pr (.row .b) (.pr (.row .b) .b))))))), (10, .val (.int .i64) .b), (87, .val .bool .b)]⟩]
noncomputable def pl_L_FnExactSwapSides : Plan := ⟨[(9, o_L_FnExactSwapSides_9), (15, o_L_FnExactSwapSides_15), (26, o_L_FnExactSwapSides_26)], [], 0, 0⟩
noncomputable def f_L_FnExactSwapSides (t0 : PV S_laws_Part) : Option (PVs [.bool] × PVs []) :=
  (f_L_szPartS t0 1048576).bind fun r2 =>
    bif (decide (r2.1.1 < 0)) then
      some ((true, ()), ())
    else
      (f_L_toPartS t0).bind fun r5 =>
        (f_S_SwapSides r5.1.1).bind fun r6 =>
          (f_L_toPartS t0).bind fun r8 =>
            (f_I_SwapSides r8.1.1).bind fun r10 =>
              ((
                  (f_L_eqPartS r10.1.1 r6.1.1).bind fun r14 =>
                    bif (!r14.1.1) then
                      some (t0, r6.1.1, r6.1.2.1, r8.1.1, r10.1.1, r10.1.2.1, true, ())
                    else
                      some (t0, r6.1.1, r6.1.2.1, r8.1.1, r10.1.1, r10.1.2.1, (!(r10.1.2.1 == r6.1.2.1)), ()) : Option ((PV S_laws_Part × PV S_impl_Part × PV .bool × PV S_impl_Part × PV S_impl_Part × PV .bool × PV .bool × Unit)))).bind fun j15 =>
                bif j15.2.2.2.2.2.2.1 then
                  some ((false, ()), ())
                else
                  (f_L_toPartS j15.1).bind fun r22 =>
                    (f_L_eqPartS j15.2.2.2.1 r22.1.1).bind fun r23 =>
                      bif (!r23.1.1) then
                        some ((false, ()), ())
                      else
                        (f_L_markPartS j15.2.2.2.1 1).bind fun r25 =>
                          ((
                              bif (decide (r25.1.1 < 0)) then
                                some (j15.1, j15.2.1, j15.2.2.1, j15.2.2.2.2.1, true, ())
                              else
                                (f_L_eqPartS j15.2.2.2.2.1 j15.2.1).bind fun r29 =>
                                  bif (!r29.1.1) then
                                    some (j15.1, j15.2.1, j15.2.2.1, j15.2.2.2.2.1, true, ())
                                  else
                                    some (j15.1, j15.2.1, j15.2.2.1, j15.2.2.2.2.1, (!(j15.2.2.2.2.2.1 == j15.2.2.1)), ()) : Option ((PV S_laws_Part × PV S_impl_Part × PV .bool × PV S_impl_Part × PV .bool × Unit)))).bind fun j30 =>
                            bif j30.2.2.2.2.1 then
                              some ((false, ()), ())
                            else
                              (f_L_markPartS j30.2.2.2.1 1).bind fun r32 =>
                                (f_L_heldPartS r32.2.1 1).bind fun r34 =>
                                  bif (decide (r34.1.1 < 0)) then
                                    some ((false, ()), ())
                                  else
                                    bif (!(r34.1.1 == r32.1.1)) then
                                      some ((false, ()), ())
                                    else
                                      (f_L_toPartS j30.1).bind fun r37 =>
                                        (f_I_SwapSides r37.1.1).bind fun r38 =>
                                          ((
                                              (f_L_eqPartS r38.1.1 j30.2.1).bind fun r42 =>
                                                bif (!r42.1.1) then
                                                  some (r32.2.1, r32.1.1, true, ())
                                                else
                                                  some (r32.2.1, r32.1.1, (!(r38.1.2.1 == j30.2.2.1)), ()) : Option ((PV S_impl_Part × PV (.int .i64) × PV .bool × Unit)))).bind fun j43 =>
                                            bif j43.2.2.1 then
                                              some ((false, ()), ())
                                            else
                                              (f_L_heldPartS j43.1 1).bind fun r45 =>
                                                bif (decide (r45.1.1 < 0)) then
                                                  some ((false, ()), ())
                                                else
                                                  bif (!(r45.1.1 == j43.2.1)) then
                                                    some ((false, ()), ())
                                                  else
                                                    some ((true, ()), ())
noncomputable def ct_L_FnExactSwapSides : Ct := ⟨[(.bor, S_laws_Part)], [(.bool, false)], fun x => f_L_FnExactSwapSides x.1⟩
noncomputable def cx_L_FnExactSwapSides : Cx := ⟨tab, arrs, [(15, ct_L_szPartS), (17, ct_L_toPartS), (19, ct_L_eqPartS), (20, ct_S_SwapSides), (21, ct_I_SwapSides), (22, ct_L_markPartS), (23, ct_L_heldPartS)], []⟩
theorem ef_L_FnExactSwapSides (t0 : PV S_laws_Part) : denF cx_L_FnExactSwapSides 0 pl_L_FnExactSwapSides Try.f4.ntmps (bodyOf Try.f4) Try.f4.results.toList [(.bor, S_laws_Part)] [(.bool, false)] (t0, ()) = f_L_FnExactSwapSides t0 := by kernel_rfl
theorem ok_L_FnExactSwapSides : FnOk Try.prog 4 ct_L_FnExactSwapSides :=
  fnOk (cx := cx_L_FnExactSwapSides) (pl := pl_L_FnExactSwapSides) (dp := 0) (ok0_of tabOk (by unfold ArrOk; kernel_rfl) mix ⟨ok_L_szPartS, ok_L_toPartS, ok_L_eqPartS, ok_S_SwapSides, ok_I_SwapSides, ok_L_markPartS, ok_L_heldPartS, trivial⟩ trivial) Try.func4 (by kernel_rfl) (by kernel_rfl) (by kernel_rfl)
    (by rw [show loopsOf (bodyOf Try.f4) = [] from by kernel_rfl]; exact trivial) (fun x => ef_L_FnExactSwapSides x.1)
noncomputable def pl_L_szHunk : Plan := ⟨[], [], 0, 0⟩
noncomputable def f_L_szHunk (t0 : PV Y_impl_Hunk) (t1 : PV (.int .i64)) : Option (PVs [(.int .i64)] × PVs []) :=
  (f_L_szStringS t0.2.2.1 t1).bind fun r2 =>
    bif (decide (r2.1.1 < 0)) then
      some (((-1), ()), ())
    else
      some ((r2.1.1, ()), ())
noncomputable def ct_L_szHunk : Ct := ⟨[(.bor, Y_impl_Hunk), (.bor, (.int .i64))], [((.int .i64), false)], fun x => f_L_szHunk x.1 x.2.1⟩
noncomputable def cx_L_szHunk : Cx := ⟨tab, arrs, [(29, ct_L_szStringS)], []⟩
theorem ef_L_szHunk (t0 : PV Y_impl_Hunk) (t1 : PV (.int .i64)) : denF cx_L_szHunk 0 pl_L_szHunk Try.f159.ntmps (bodyOf Try.f159) Try.f159.results.toList [(.bor, Y_impl_Hunk), (.bor, (.int .i64))] [((.int .i64), false)] (t0, t1, ()) = f_L_szHunk t0 t1 := by kernel_rfl
theorem ok_L_szHunk : FnOk Try.prog 159 ct_L_szHunk :=
  fnOk (cx := cx_L_szHunk) (pl := pl_L_szHunk) (dp := 0) (ok0_of tabOk (by unfold ArrOk; kernel_rfl) mix ⟨ok_L_szStringS, trivial⟩ trivial) Try.func159 (by kernel_rfl) (by kernel_rfl) (by kernel_rfl)
    (by rw [show loopsOf (bodyOf Try.f159) = [] from by kernel_rfl]; exact trivial) (fun x => ef_L_szHunk x.1 x.2.1)
noncomputable def sh_L_szHunkS_5 : List Sh := mkSh 27 [(0, .val S_laws_Hunk .b), (1, .val (.int .i64) .b), (5, .val (.int .i64) .b)]
noncomputable def o_L_szHunkS_5 : List Out := [⟨.exit 0, ⟨[], [1]⟩, mkSh 27 [(1, .val (.int .i64) .b)]⟩, ⟨.ret, ⟨[], [4]⟩, mkSh 27 [(4, .val (.int .i64) .b)]⟩]
noncomputable def b_L_szHunkS_5 (t0 : PV S_laws_Hunk) (t1 : PV (.int .i64)) (t5 : PV (.int .i64)) : Option ((PV S_laws_Hunk × PV (.int .i64) × PV (.int .i64) × Unit) ⊕ ((PV (.int .i64) × Unit) ⊕ (PV (.int .i64) × Unit))) :=
  bif (decide (t5 < (t0.length : Int))) then
    bif inB t5 t0.length then
      (f_L_szHunk (t0.getD t5.toNat (dflt Y_impl_Hunk)) t1).bind fun r4 =>
        bif (decide (r4.1.1 < 0)) then
          some (.inr (.inr ((-1), ())))
        else
          some (.inl (t0, r4.1.1, (IntKind.wrap .i64 (t5 + 1)), ()))
    else
      none
  else
    some (.inr (.inl (t1, ())))
noncomputable def w_L_szHunkS_5 : PV S_laws_Hunk × PV (.int .i64) × PV (.int .i64) × Unit → Option ((PV (.int .i64) × Unit) ⊕ (PV (.int .i64) × Unit)) := fix fun d => b_L_szHunkS_5 d.1 d.2.1 d.2.2.1
noncomputable def lp_L_szHunkS_5 : Lp := ⟨⟨[], [0, 1, 5]⟩, sh_L_szHunkS_5, o_L_szHunkS_5, fun d => b_L_szHunkS_5 d.1 d.2.1 d.2.2.1⟩
noncomputable def pl_L_szHunkS : Plan := ⟨[], [(5, lp_L_szHunkS_5)], 0, 0⟩
noncomputable def f_L_szHunkS (t0 : PV S_laws_Hunk) (t1 : PV (.int .i64)) : Option (PVs [(.int .i64)] × PVs []) :=
  bif (decide ((IntKind.wrap .i64 (t1 - (t0.length : Int))) < 0)) then
    some (((-1), ()), ())
  else
    (w_L_szHunkS_5 (t0, (IntKind.wrap .i64 (t1 - (t0.length : Int))), 0, ())).bind fun x9 =>
      match x9 with
      | .inl l7 =>
        some ((l7.1, ()), ())
      | .inr l8 =>
        some ((l8.1, ()), ())
noncomputable def ct_L_szHunkS : Ct := ⟨[(.bor, S_laws_Hunk), (.bor, (.int .i64))], [((.int .i64), false)], fun x => f_L_szHunkS x.1 x.2.1⟩
noncomputable def cx_L_szHunkS : Cx := ⟨tab, arrs, [(159, ct_L_szHunk)], []⟩
theorem eb_L_szHunkS_5 (t0 : PV S_laws_Hunk) (t1 : PV (.int .i64)) (t5 : PV (.int .i64)) : denK cx_L_szHunkS (rcN cx_L_szHunkS 0) pl_L_szHunkS 0 ((loopsOf (bodyOf Try.f136)).getD 0 .skip) (fillS sh_L_szHunkS_5 (t0, t1, t5, ())) (roundK 0 lp_L_szHunkS_5) = b_L_szHunkS_5 t0 t1 t5 := by kernel_rfl
theorem ef_L_szHunkS (t0 : PV S_laws_Hunk) (t1 : PV (.int .i64)) : denF cx_L_szHunkS 0 pl_L_szHunkS Try.f136.ntmps (bodyOf Try.f136) Try.f136.results.toList [(.bor, S_laws_Hunk), (.bor, (.int .i64))] [((.int .i64), false)] (t0, t1, ()) = f_L_szHunkS t0 t1 := by kernel_rfl
theorem ok_L_szHunkS : FnOk Try.prog 136 ct_L_szHunkS :=
  fnOk (cx := cx_L_szHunkS) (pl := pl_L_szHunkS) (dp := 0) (ok0_of tabOk (by unfold ArrOk; kernel_rfl) mix ⟨ok_L_szHunk, trivial⟩ trivial) Try.func136 (by kernel_rfl) (by kernel_rfl) (by kernel_rfl)
    (by rw [show loopsOf (bodyOf Try.f136) = [((loopsOf (bodyOf Try.f136)).getD 0 .skip)] from by kernel_rfl]; exact ⟨(by rw [show lookup pl_L_szHunkS.loops (firstId ((loopsOf (bodyOf Try.f136)).getD 0 .skip)) = some lp_L_szHunkS_5 from by kernel_rfl]; exact fun d z h => (eb_L_szHunkS_5 d.1 d.2.1 d.2.2.1).trans h), trivial⟩) (fun x => ef_L_szHunkS x.1 x.2.1)
noncomputable def sh_L_szHunkSS_5 : List Sh := mkSh 27 [(0, .val S_S_laws_Hunk .b), (1, .val (.int .i64) .b), (5, .val (.int .i64) .b)]
noncomputable def o_L_szHunkSS_5 : List Out := [⟨.exit 0, ⟨[], [1]⟩, mkSh 27 [(1, .val (.int .i64) .b)]⟩, ⟨.ret, ⟨[], [4]⟩, mkSh 27 [(4, .val (.int .i64) .b)]⟩]
noncomputable def b_L_szHunkSS_5 (t0 : PV S_S_laws_Hunk) (t1 : PV (.int .i64)) (t5 : PV (.int .i64)) : Option ((PV S_S_laws_Hunk × PV (.int .i64) × PV (.int .i64) × Unit) ⊕ ((PV (.int .i64) × Unit) ⊕ (PV (.int .i64) × Unit))) :=
  bif (decide (t5 < (t0.length : Int))) then
    bif inB t5 t0.length then
      (f_L_szHunkS (t0.getD t5.toNat []) t1).bind fun r4 =>
        bif (decide (r4.1.1 < 0)) then
          some (.inr (.inr ((-1), ())))
        else
          some (.inl (t0, r4.1.1, (IntKind.wrap .i64 (t5 + 1)), ()))
    else
      none
  else
    some (.inr (.inl (t1, ())))
noncomputable def w_L_szHunkSS_5 : PV S_S_laws_Hunk × PV (.int .i64) × PV (.int .i64) × Unit → Option ((PV (.int .i64) × Unit) ⊕ (PV (.int .i64) × Unit)) := fix fun d => b_L_szHunkSS_5 d.1 d.2.1 d.2.2.1
noncomputable def lp_L_szHunkSS_5 : Lp := ⟨⟨[], [0, 1, 5]⟩, sh_L_szHunkSS_5, o_L_szHunkSS_5, fun d => b_L_szHunkSS_5 d.1 d.2.1 d.2.2.1⟩
noncomputable def pl_L_szHunkSS : Plan := ⟨[], [(5, lp_L_szHunkSS_5)], 0, 0⟩
noncomputable def f_L_szHunkSS (t0 : PV S_S_laws_Hunk) (t1 : PV (.int .i64)) : Option (PVs [(.int .i64)] × PVs []) :=
  bif (decide ((IntKind.wrap .i64 (t1 - (t0.length : Int))) < 0)) then
    some (((-1), ()), ())
  else
    (w_L_szHunkSS_5 (t0, (IntKind.wrap .i64 (t1 - (t0.length : Int))), 0, ())).bind fun x9 =>
      match x9 with
      | .inl l7 =>
        some ((l7.1, ()), ())
      | .inr l8 =>
        some ((l8.1, ()), ())
noncomputable def ct_L_szHunkSS : Ct := ⟨[(.bor, S_S_laws_Hunk), (.bor, (.int .i64))], [((.int .i64), false)], fun x => f_L_szHunkSS x.1 x.2.1⟩
noncomputable def cx_L_szHunkSS : Cx := ⟨tab, arrs, [(136, ct_L_szHunkS)], []⟩
theorem eb_L_szHunkSS_5 (t0 : PV S_S_laws_Hunk) (t1 : PV (.int .i64)) (t5 : PV (.int .i64)) : denK cx_L_szHunkSS (rcN cx_L_szHunkSS 0) pl_L_szHunkSS 0 ((loopsOf (bodyOf Try.f94)).getD 0 .skip) (fillS sh_L_szHunkSS_5 (t0, t1, t5, ())) (roundK 0 lp_L_szHunkSS_5) = b_L_szHunkSS_5 t0 t1 t5 := by kernel_rfl
theorem ef_L_szHunkSS (t0 : PV S_S_laws_Hunk) (t1 : PV (.int .i64)) : denF cx_L_szHunkSS 0 pl_L_szHunkSS Try.f94.ntmps (bodyOf Try.f94) Try.f94.results.toList [(.bor, S_S_laws_Hunk), (.bor, (.int .i64))] [((.int .i64), false)] (t0, t1, ()) = f_L_szHunkSS t0 t1 := by kernel_rfl
theorem ok_L_szHunkSS : FnOk Try.prog 94 ct_L_szHunkSS :=
  fnOk (cx := cx_L_szHunkSS) (pl := pl_L_szHunkSS) (dp := 0) (ok0_of tabOk (by unfold ArrOk; kernel_rfl) mix ⟨ok_L_szHunkS, trivial⟩ trivial) Try.func94 (by kernel_rfl) (by kernel_rfl) (by kernel_rfl)
    (by rw [show loopsOf (bodyOf Try.f94) = [((loopsOf (bodyOf Try.f94)).getD 0 .skip)] from by kernel_rfl]; exact ⟨(by rw [show lookup pl_L_szHunkSS.loops (firstId ((loopsOf (bodyOf Try.f94)).getD 0 .skip)) = some lp_L_szHunkSS_5 from by kernel_rfl]; exact fun d z h => (eb_L_szHunkSS_5 d.1 d.2.1 d.2.2.1).trans h), trivial⟩) (fun x => ef_L_szHunkSS x.1 x.2.1)
noncomputable def pl_L_szSeries : Plan := ⟨[], [], 0, 0⟩
noncomputable def f_L_szSeries (t0 : PV Y_laws_Series) (t1 : PV (.int .i64)) : Option (PVs [(.int .i64)] × PVs []) :=
  (f_L_szStringS t0.1 t1).bind fun r2 =>
    bif (decide (r2.1.1 < 0)) then
      some (((-1), ()), ())
    else
      (f_L_szHunkSS t0.2.1 r2.1.1).bind fun r4 =>
        bif (decide (r4.1.1 < 0)) then
          some (((-1), ()), ())
        else
          some ((r4.1.1, ()), ())
noncomputable def ct_L_szSeries : Ct := ⟨[(.bor, Y_laws_Series), (.bor, (.int .i64))], [((.int .i64), false)], fun x => f_L_szSeries x.1 x.2.1⟩
noncomputable def cx_L_szSeries : Cx := ⟨tab, arrs, [(29, ct_L_szStringS), (94, ct_L_szHunkSS)], []⟩
theorem ef_L_szSeries (t0 : PV Y_laws_Series) (t1 : PV (.int .i64)) : denF cx_L_szSeries 0 pl_L_szSeries Try.f48.ntmps (bodyOf Try.f48) Try.f48.results.toList [(.bor, Y_laws_Series), (.bor, (.int .i64))] [((.int .i64), false)] (t0, t1, ()) = f_L_szSeries t0 t1 := by kernel_rfl
theorem ok_L_szSeries : FnOk Try.prog 48 ct_L_szSeries :=
  fnOk (cx := cx_L_szSeries) (pl := pl_L_szSeries) (dp := 0) (ok0_of tabOk (by unfold ArrOk; kernel_rfl) mix ⟨ok_L_szStringS, ok_L_szHunkSS, trivial⟩ trivial) Try.func48 (by kernel_rfl) (by kernel_rfl) (by kernel_rfl)
    (by rw [show loopsOf (bodyOf Try.f48) = [] from by kernel_rfl]; exact trivial) (fun x => ef_L_szSeries x.1 x.2.1)
noncomputable def pl_L_toHunk : Plan := ⟨[], [], 0, 0⟩
noncomputable def f_L_toHunk (t0 : PV Y_impl_Hunk) : Option (PVs [Y_impl_Hunk] × PVs []) :=
  (f_L_toStringS t0.2.2.1).bind fun r2 =>
    some (((t0.1, (t0.2.1, (r2.1.1, ()))), ()), ())
noncomputable def ct_L_toHunk : Ct := ⟨[(.bor, Y_impl_Hunk)], [(Y_impl_Hunk, true)], fun x => f_L_toHunk x.1⟩
noncomputable def cx_L_toHunk : Cx := ⟨tab, arrs, [(31, ct_L_toStringS)], []⟩
theorem ef_L_toHunk (t0 : PV Y_impl_Hunk) : denF cx_L_toHunk 0 pl_L_toHunk Try.f162.ntmps (bodyOf Try.f162) Try.f162.results.toList [(.bor, Y_impl_Hunk)] [(Y_impl_Hunk, true)] (t0, ()) = f_L_toHunk t0 := by kernel_rfl
theorem ok_L_toHunk : FnOk Try.prog 162 ct_L_toHunk :=
  fnOk (cx := cx_L_toHunk) (pl := pl_L_toHunk) (dp := 0) (ok0_of tabOk (by unfold ArrOk; kernel_rfl) mix ⟨ok_L_toStringS, trivial⟩ trivial) Try.func162 (by kernel_rfl) (by kernel_rfl) (by kernel_rfl)
    (by rw [show loopsOf (bodyOf Try.f162) = [] from by kernel_rfl]; exact trivial) (fun x => ef_L_toHunk x.1)
noncomputable def sh_L_toHunkS_3 : List Sh := mkSh 23 [(0, .val S_laws_Hunk .b), (3, .val S_impl_Hunk (.row (.pr .b (.pr .b (.pr (.row .b) .b))))), (4, .val (.int .i64) .b)]
noncomputable def o_L_toHunkS_3 : List Out := [⟨.exit 0, ⟨[], [3]⟩, mkSh 23 [(3, .val S_impl_Hunk (.row (.pr .b (.pr .b (.pr (.row .b) .b)))))]⟩]
noncomputable def b_L_toHunkS_3 (t0 : PV S_laws_Hunk) (t3 : PV S_impl_Hunk) (t4 : PV (.int .i64)) : Option ((PV S_laws_Hunk × PV S_impl_Hunk × PV (.int .i64) × Unit) ⊕ ((PV S_impl_Hunk × Unit))) :=
  bif (decide (t4 < (t0.length : Int))) then
    bif inB t4 t0.length then
      (f_L_toHunk (t0.getD t4.toNat (dflt Y_impl_Hunk))).bind fun r2 =>
        bif inB t4 t3.length then
          some (.inl (t0, (t3.set t4.toNat r2.1.1), (IntKind.wrap .i64 (t4 + 1)), ()))
        else
          none
    else
      none
  else
    some (.inr (t3, ()))
noncomputable def w_L_toHunkS_3 : PV S_laws_Hunk × PV S_impl_Hunk × PV (.int .i64) × Unit → Option ((PV S_impl_Hunk × Unit)) := fix fun d => b_L_toHunkS_3 d.1 d.2.1 d.2.2.1
noncomputable def lp_L_toHunkS_3 : Lp := ⟨⟨[], [0, 3, 4]⟩, sh_L_toHunkS_3, o_L_toHunkS_3, fun d => b_L_toHunkS_3 d.1 d.2.1 d.2.2.1⟩
noncomputable def pl_L_toHunkS : Plan := ⟨[], [(3, lp_L_toHunkS_3)], 0, 0⟩
noncomputable def f_L_toHunkS (t0 : PV S_laws_Hunk) : Option (PVs [S_impl_Hunk] × PVs []) :=
  bif decide (0 ≤ (t0.length : Int)) && (decide ((t0.length : Int) ≤ (t0.length : Int)) && roomB (t0.length : Int).toNat) then
    (w_L_toHunkS_3 (t0, (List.replicate (t0.length : Int).toNat (dflt Y_impl_Hunk)), 0, ())).bind fun l4 =>
      some ((l4.1, ()), ())
  else
    none
noncomputable def ct_L_toHunkS : Ct := ⟨[(.bor, S_laws_Hunk)], [(S_impl_Hunk, true)], fun x => f_L_toHunkS x.1⟩
noncomputable def cx_L_toHunkS : Cx := ⟨tab, arrs, [(162, ct_L_toHunk)], []⟩
theorem eb_L_toHunkS_3 (t0 : PV S_laws_Hunk) (t3 : PV S_impl_Hunk) (t4 : PV (.int .i64)) : denK cx_L_toHunkS (rcN cx_L_toHunkS 0) pl_L_toHunkS 0 ((loopsOf (bodyOf Try.f138)).getD 0 .skip) (fillS sh_L_toHunkS_3 (t0, t3, t4, ())) (roundK 0 lp_L_toHunkS_3) = b_L_toHunkS_3 t0 t3 t4 := by kernel_rfl
theorem ef_L_toHunkS (t0 : PV S_laws_Hunk) : denF cx_L_toHunkS 0 pl_L_toHunkS Try.f138.ntmps (bodyOf Try.f138) Try.f138.results.toList [(.bor, S_laws_Hunk)] [(S_impl_Hunk, true)] (t0, ()) = f_L_toHunkS t0 := by kernel_rfl
theorem ok_L_toHunkS : FnOk Try.prog 138 ct_L_toHunkS :=
  fnOk (cx := cx_L_toHunkS) (pl := pl_L_toHunkS) (dp := 0) (ok0_of tabOk (by unfold ArrOk; kernel_rfl) mix ⟨ok_L_toHunk, trivial⟩ trivial) Try.func138 (by kernel_rfl) (by kernel_rfl) (by kernel_rfl)
    (by rw [show loopsOf (bodyOf Try.f138) = [((loopsOf (bodyOf Try.f138)).getD 0 .skip)] from by kernel_rfl]; exact ⟨(by rw [show lookup pl_L_toHunkS.loops (firstId ((loopsOf (bodyOf Try.f138)).getD 0 .skip)) = some lp_L_toHunkS_3 from by kernel_rfl]; exact fun d z h => (eb_L_toHunkS_3 d.1 d.2.1 d.2.2.1).trans h), trivial⟩) (fun x => ef_L_toHunkS x.1)
noncomputable def sh_L_toHunkSS_3 : List Sh := mkSh 23 [(0, .val S_S_laws_Hunk .b), (3, .val S_S_impl_Hunk (.row (.row (.pr .b (.pr .b (.pr (.row .b) .b)))))), (4, .val (.int .i64) .b)]
noncomputable def o_L_toHunkSS_3 : List Out := [⟨.exit 0, ⟨[], [3]⟩, mkSh 23 [(3, .val S_S_impl_Hunk (.row (.row (.pr .b (.pr .b (.pr (.row .b) .b))))))]⟩]
noncomputable def b_L_toHunkSS_3 (t0 : PV S_S_laws_Hunk) (t3 : PV S_S_impl_Hunk) (t4 : PV (.int .i64)) : Option ((PV S_S_laws_Hunk × PV S_S_impl_Hunk × PV (.int .i64) × Unit) ⊕ ((PV S_S_impl_Hunk × Unit))) :=
  bif (decide (t4 < (t0.length : Int))) then
    bif inB t4 t0.length then
      (f_L_toHunkS (t0.getD t4.toNat [])).bind fun r2 =>
        bif inB t4 t3.length then
          some (.inl (t0, (t3.set t4.toNat r2.1.1), (IntKind.wrap .i64 (t4 + 1)), ()))
        else
          none
    else
      none
  else
    some (.inr (t3, ()))
noncomputable def w_L_toHunkSS_3 : PV S_S_laws_Hunk × PV S_S_impl_Hunk × PV (.int .i64) × Unit → Option ((PV S_S_impl_Hunk × Unit)) := fix fun d => b_L_toHunkSS_3 d.1 d.2.1 d.2.2.1
noncomputable def lp_L_toHunkSS_3 : Lp := ⟨⟨[], [0, 3, 4]⟩, sh_L_toHunkSS_3, o_L_toHunkSS_3, fun d => b_L_toHunkSS_3 d.1 d.2.1 d.2.2.1⟩
noncomputable def pl_L_toHunkSS : Plan := ⟨[], [(3, lp_L_toHunkSS_3)], 0, 0⟩
noncomputable def f_L_toHunkSS (t0 : PV S_S_laws_Hunk) : Option (PVs [S_S_impl_Hunk] × PVs []) :=
  bif decide (0 ≤ (t0.length : Int)) && (decide ((t0.length : Int) ≤ (t0.length : Int)) && roomB (t0.length : Int).toNat) then
    (w_L_toHunkSS_3 (t0, (List.replicate (t0.length : Int).toNat ([] : PV S_impl_Hunk)), 0, ())).bind fun l4 =>
      some ((l4.1, ()), ())
  else
    none
noncomputable def ct_L_toHunkSS : Ct := ⟨[(.bor, S_S_laws_Hunk)], [(S_S_impl_Hunk, true)], fun x => f_L_toHunkSS x.1⟩
noncomputable def cx_L_toHunkSS : Cx := ⟨tab, arrs, [(138, ct_L_toHunkS)], []⟩
theorem eb_L_toHunkSS_3 (t0 : PV S_S_laws_Hunk) (t3 : PV S_S_impl_Hunk) (t4 : PV (.int .i64)) : denK cx_L_toHunkSS (rcN cx_L_toHunkSS 0) pl_L_toHunkSS 0 ((loopsOf (bodyOf Try.f96)).getD 0 .skip) (fillS sh_L_toHunkSS_3 (t0, t3, t4, ())) (roundK 0 lp_L_toHunkSS_3) = b_L_toHunkSS_3 t0 t3 t4 := by kernel_rfl
theorem ef_L_toHunkSS (t0 : PV S_S_laws_Hunk) : denF cx_L_toHunkSS 0 pl_L_toHunkSS Try.f96.ntmps (bodyOf Try.f96) Try.f96.results.toList [(.bor, S_S_laws_Hunk)] [(S_S_impl_Hunk, true)] (t0, ()) = f_L_toHunkSS t0 := by kernel_rfl
theorem ok_L_toHunkSS : FnOk Try.prog 96 ct_L_toHunkSS :=
  fnOk (cx := cx_L_toHunkSS) (pl := pl_L_toHunkSS) (dp := 0) (ok0_of tabOk (by unfold ArrOk; kernel_rfl) mix ⟨ok_L_toHunkS, trivial⟩ trivial) Try.func96 (by kernel_rfl) (by kernel_rfl) (by kernel_rfl)
    (by rw [show loopsOf (bodyOf Try.f96) = [((loopsOf (bodyOf Try.f96)).getD 0 .skip)] from by kernel_rfl]; exact ⟨(by rw [show lookup pl_L_toHunkSS.loops (firstId ((loopsOf (bodyOf Try.f96)).getD 0 .skip)) = some lp_L_toHunkSS_3 from by kernel_rfl]; exact fun d z h => (eb_L_toHunkSS_3 d.1 d.2.1 d.2.2.1).trans h), trivial⟩) (fun x => ef_L_toHunkSS x.1)
noncomputable def pl_L_toSeries : Plan := ⟨[], [], 0, 0⟩
noncomputable def f_L_toSeries (t0 : PV Y_laws_Series) : Option (PVs [Y_impl_Series] × PVs []) :=
  (f_L_toStringS t0.1).bind fun r2 =>
    (f_L_toHunkSS t0.2.1).bind fun r4 =>
      some (((r2.1.1, (r4.1.1, ())), ()), ())
noncomputable def ct_L_toSeries : Ct := ⟨[(.bor, Y_laws_Series)], [(Y_impl_Series, true)], fun x => f_L_toSeries x.1⟩
noncomputable def cx_L_toSeries : Cx := ⟨tab, arrs, [(31, ct_L_toStringS), (96, ct_L_toHunkSS)], []⟩
theorem ef_L_toSeries (t0 : PV Y_laws_Series) : denF cx_L_toSeries 0 pl_L_toSeries Try.f50.ntmps (bodyOf Try.f50) Try.f50.results.toList [(.bor, Y_laws_Series)] [(Y_impl_Series, true)] (t0, ()) = f_L_toSeries t0 := by kernel_rfl
theorem ok_L_toSeries : FnOk Try.prog 50 ct_L_toSeries :=
  fnOk (cx := cx_L_toSeries) (pl := pl_L_toSeries) (dp := 0) (ok0_of tabOk (by unfold ArrOk; kernel_rfl) mix ⟨ok_L_toStringS, ok_L_toHunkSS, trivial⟩ trivial) Try.func50 (by kernel_rfl) (by kernel_rfl) (by kernel_rfl)
    (by rw [show loopsOf (bodyOf Try.f50) = [] from by kernel_rfl]; exact trivial) (fun x => ef_L_toSeries x.1)
noncomputable def o_S_l1Good_5 : List Out := [⟨.normal, ⟨[], [0, 5, 6, 7, 26]⟩, mkSh 31 [(0, .val S_string .b), (5, .val S_string .b), (6, .val (.int .i64) .b), (7, .val (.int .i64) .b), (26, .val .bool .b)]⟩]
noncomputable def sh_S_l1Good_2 : List Sh := mkSh 31 [(0, .val S_string .b), (5, .val S_string .b), (6, .val (.int .i64) .b), (7, .val (.int .i64) .b)]
noncomputable def o_S_l1Good_2 : List Out := [⟨.exit 0, ⟨[], [0]⟩, mkSh 31 [(0, .val S_string .b)]⟩, ⟨.ret, ⟨[], [2]⟩, mkSh 31 [(2, .val .bool .b)]⟩]
noncomputable def b_S_l1Good_2 (t0 : PV S_string) (t5 : PV S_string) (t6 : PV (.int .i64)) (t7 : PV (.int .i64)) : Option ((PV S_string × PV S_string × PV (.int .i64) × PV (.int .i64) × Unit) ⊕ ((PV S_string × Unit) ⊕ (PV .bool × Unit))) :=
  bif (decide (t7 < t6)) then
    bif inB t7 t5.length then
      ((
          (f_S_l1Line (t5.getD t7.toNat [])).bind fun r4 =>
            bif (!r4.1.1) then
              some (t0, t5, t6, t7, true, ())
            else
              bif (decide (t7 < (IntKind.wrap .i64 ((t0.length : Int) - 1)))) then
                (f_S_l1Ends (t5.getD t7.toNat [])).bind fun r5 =>
                  some (t0, t5, t6, t7, (!r5.1.1), ())
              else
                some (t0, t5, t6, t7, false, ()) : Option ((PV S_string × PV S_string × PV (.int .i64) × PV (.int .i64) × PV .bool × Unit)))).bind fun j6 =>
        bif j6.2.2.2.2.1 then
          some (.inr (.inr (false, ())))
        else
          some (.inl (j6.1, j6.2.1, j6.2.2.1, (IntKind.wrap .i64 (j6.2.2.2.1 + 1)), ()))
    else
      none
  else
    some (.inr (.inl (t0, ())))
noncomputable def w_S_l1Good_2 : PV S_string × PV S_string × PV (.int .i64) × PV (.int .i64) × Unit → Option ((PV S_string × Unit) ⊕ (PV .bool × Unit)) := fix fun d => b_S_l1Good_2 d.1 d.2.1 d.2.2.1 d.2.2.2.1
noncomputable def lp_S_l1Good_2 : Lp := ⟨⟨[], [0, 5, 6, 7, 16, 17, 18, 19, 20, 21, 22, 23, 24, 25]⟩, sh_S_l1Good_2, o_S_l1Good_2, fun d => b_S_l1Good_2 d.1 d.2.1 d.2.2.1 d.2.2.2.1⟩
noncomputable def pl_S_l1Good : Plan := ⟨[(5, o_S_l1Good_5)], [(2, lp_S_l1Good_2)], 0, 0⟩
noncomputable def f_S_l1Good (t0 : PV S_string) : Option (PVs [.bool] × PVs []) :=
  (w_S_l1Good_2 (t0, t0, (t0.length : Int), 0, ())).bind fun x11 =>
    match x11 with
    | .inl l9 =>
      some (((decide ((l9.1.length : Int) ≤ 40)), ()), ())
    | .inr l10 =>
      some ((l10.1, ()), ())
noncomputable def ct_S_l1Good : Ct := ⟨[(.bor, S_string)], [(.bool, false)], fun x => f_S_l1Good x.1⟩
noncomputable def cx_S_l1Good : Cx := ⟨tab, arrs, [(115, ct_S_l1Line), (141, ct_S_l1Ends)], []⟩
theorem eb_S_l1Good_2 (t0 : PV S_string) (t5 : PV S_string) (t6 : PV (.int .i64)) (t7 : PV (.int .i64)) : denK cx_S_l1Good (rcN cx_S_l1Good 0) pl_S_l1Good 0 ((loopsOf (bodyOf Try.f100)).getD 0 .skip) (fillS sh_S_l1Good_2 (t0, t5, t6, t7, ())) (roundK 0 lp_S_l1Good_2) = b_S_l1Good_2 t0 t5 t6 t7 := by kernel_rfl
theorem ef_S_l1Good (t0 : PV S_string) : denF cx_S_l1Good 0 pl_S_l1Good Try.f100.ntmps (bodyOf Try.f100) Try.f100.results.toList [(.bor, S_string)] [(.bool, false)] (t0, ()) = f_S_l1Good t0 := by kernel_rfl
theorem ok_S_l1Good : FnOk Try.prog 100 ct_S_l1Good :=
  fnOk (cx := cx_S_l1Good) (pl := pl_S_l1Good) (dp := 0) (ok0_of tabOk (by unfold ArrOk; kernel_rfl) mix ⟨ok_S_l1Line, ok_S_l1Ends, trivial⟩ trivial) Try.func100 (by kernel_rfl) (by kernel_rfl) (by kernel_rfl)
    (by rw [show loopsOf (bodyOf Try.f100) = [((loopsOf (bodyOf Try.f100)).getD 0 .skip)] from by kernel_rfl]; exact ⟨(by rw [show lookup pl_S_l1Good.loops (firstId ((loopsOf (bodyOf Try.f100)).getD 0 .skip)) = some lp_S_l1Good_2 from by kernel_rfl]; exact fun d z h => (eb_S_l1Good_2 d.1 d.2.1 d.2.2.1 d.2.2.2.1).trans h), trivial⟩) (fun x => ef_S_l1Good x.1)
noncomputable def o_S_l2Hunks_5 : List Out := [⟨.normal, ⟨[], [0, 1, 6, 9, 10, 11, 75, 92, 93]⟩, mkSh 95 [(0, .val (.int .i64) .b), (1, .val S_impl_Hunk .b), (6, .var Y_impl_Hunk .b), (9, .val S_impl_Hunk .b), (10, .val (.int .i64) .b), (11, .val (.int .i64) .b), (75, .val .bool .b)]⟩]
noncomputable def sh_S_l2Hunks_7 : List Sh := mkSh 95 [(0, .val (.int .i64) .b), (1, .val S_impl_Hunk .b), (9, .val S_impl_Hunk .b), (10, .val (.int .i64) .b), (11, .val (.int .i64) .b), (77, .val S_string .b), (78, .val (.int .i64) .b), (79, .val (.int .i64) .b)]
noncomputable def o_S_l2Hunks_7 : List Out := [⟨.exit 2, ⟨[], [0, 1, 9, 10, 11, 20, 21, 22, 25, 26, 27, 28, 31, 32, 33, 34, 35, 36, 37, 40, 41, 42, 43, 44, 45, 46, 49, 50, 51, 52, 55, 56, 57, 58, 59, 60, 61, 62, 63, 64, 65, 66, 67, 68, 69, 70, 71, 72, 73, 74, 92, 93]⟩, mkSh 95 [(0, .val (.int .i64) .b), (1, .val S_impl_Hunk .b), (9, .val S_impl_Hunk .b), (10, .val (.int .i64) .b), (11, .val (.int .i64) .b)]⟩, ⟨.ret, ⟨[], [4]⟩, mkSh 95 [(4, .val .bool .b)]⟩]
noncomputable def b_S_l2Hunks_7 (t0 : PV (.int .i64)) (t1 : PV S_impl_Hunk) (t9 : PV S_impl_Hunk) (t10 : PV (.int .i64)) (t11 : PV (.int .i64)) (t77 : PV S_string) (t78 : PV (.int .i64)) (t79 : PV (.int .i64)) : Option ((PV (.int .i64) × PV S_impl_Hunk × PV S_impl_Hunk × PV (.int .i64) × PV (.int .i64) × PV S_string × PV (.int .i64) × PV (.int .i64) × Unit) ⊕ ((PV (.int .i64) × PV S_impl_Hunk × PV S_impl_Hunk × PV (.int .i64) × PV (.int .i64) × Unit) ⊕ (PV .bool × Unit))) :=
  bif (decide (t79 < t78)) then
    bif inB t79 t77.length then
      (f_S_l1Line (t77.getD t79.toNat [])).bind fun r6 =>
        bif (!r6.1.1) then
          some (.inr (.inr (false, ())))
        else
          some (.inl (t0, t1, t9, t10, t11, t77, t78, (IntKind.wrap .i64 (t79 + 1)), ()))
    else
      none
  else
    some (.inr (.inl (t0, t1, t9, t10, t11, ())))
noncomputable def w_S_l2Hunks_7 : PV (.int .i64) × PV S_impl_Hunk × PV S_impl_Hunk × PV (.int .i64) × PV (.int .i64) × PV S_string × PV (.int .i64) × PV (.int .i64) × Unit → Option ((PV (.int .i64) × PV S_impl_Hunk × PV S_impl_Hunk × PV (.int .i64) × PV (.int .i64) × Unit) ⊕ (PV .bool × Unit)) := fix fun d => b_S_l2Hunks_7 d.1 d.2.1 d.2.2.1 d.2.2.2.1 d.2.2.2.2.1 d.2.2.2.2.2.1 d.2.2.2.2.2.2.1 d.2.2.2.2.2.2.2.1
noncomputable def lp_S_l2Hunks_7 : Lp := ⟨⟨[], [0, 1, 9, 10, 11, 20, 21, 22, 25, 26, 27, 28, 31, 32, 33, 34, 35, 36, 37, 40, 41, 42, 43, 44, 45, 46, 49, 50, 51, 52, 55, 56, 57, 58, 59, 60, 61, 62, 63, 64, 65, 66, 67, 68, 69, 70, 71, 72, 73, 74, 77, 78, 79, 92, 93]⟩, sh_S_l2Hunks_7, o_S_l2Hunks_7, fun d => b_S_l2Hunks_7 d.1 d.2.1 d.2.2.1 d.2.2.2.1 d.2.2.2.2.1 d.2.2.2.2.2.1 d.2.2.2.2.2.2.1 d.2.2.2.2.2.2.2.1⟩
noncomputable def sh_S_l2Hunks_2 : List Sh := mkSh 95 [(0, .val (.int .i64) .b), (1, .val S_impl_Hunk .b), (9, .val S_impl_Hunk .b), (10, .val (.int .i64) .b), (11, .val (.int .i64) .b)]
noncomputable def o_S_l2Hunks_2 : List Out := [⟨.exit 0, ⟨[], [0, 1, 92, 93]⟩, mkSh 95 [(0, .val (.int .i64) .b), (1, .val S_impl_Hunk .b)]⟩, ⟨.ret, ⟨[], [4]⟩, mkSh 95 [(4, .val .bool .b)]⟩]
noncomputable def b_S_l2Hunks_2 (t0 : PV (.int .i64)) (t1 : PV S_impl_Hunk) (t9 : PV S_impl_Hunk) (t10 : PV (.int .i64)) (t11 : PV (.int .i64)) : Option ((PV (.int .i64) × PV S_impl_Hunk × PV S_impl_Hunk × PV (.int .i64) × PV (.int .i64) × Unit) ⊕ ((PV (.int .i64) × PV S_impl_Hunk × Unit) ⊕ (PV .bool × Unit))) :=
  bif (decide (t11 < t10)) then
    bif inB t11 t9.length then
      ((
          bif (decide (((t9.getD t11.toNat (dflt Y_impl_Hunk)).1) < 0)) then
            some (t0, t1, (t9.getD t11.toNat (dflt Y_impl_Hunk)), t9, t10, t11, true, ())
          else
            bif (decide ((((t9.getD t11.toNat (dflt Y_impl_Hunk)).2).1) < 0)) then
              some (t0, t1, (t9.getD t11.toNat (dflt Y_impl_Hunk)), t9, t10, t11, true, ())
            else
              bif (decide ((((t9.getD t11.toNat (dflt Y_impl_Hunk)).2).1) > t0)) then
                some (t0, t1, (t9.getD t11.toNat (dflt Y_impl_Hunk)), t9, t10, t11, true, ())
              else
                bif (decide (((t9.getD t11.toNat (dflt Y_impl_Hunk)).1) > (IntKind.wrap .i64 (t0 - (((t9.getD t11.toNat (dflt Y_impl_Hunk)).2).1))))) then
                  some (t0, t1, (t9.getD t11.toNat (dflt Y_impl_Hunk)), t9, t10, t11, true, ())
                else
                  bif ((IntKind.wrap .i64 ((((t9.getD t11.toNat (dflt Y_impl_Hunk)).2).1) + (((((t9.getD t11.toNat (dflt Y_impl_Hunk)).2).2).1).length : Int))) == 0) then
                    some (t0, t1, (t9.getD t11.toNat (dflt Y_impl_Hunk)), t9, t10, t11, true, ())
                  else
                    bif (decide ((((((t9.getD t11.toNat (dflt Y_impl_Hunk)).2).2).1).length : Int) > 40)) then
                      some (t0, t1, (t9.getD t11.toNat (dflt Y_impl_Hunk)), t9, t10, t11, true, ())
                    else
                      bif (decide (t11 > 0)) then
                        bif inB (IntKind.wrap .i64 (t11 - 1)) t1.length then
                          bif inB (IntKind.wrap .i64 (t11 - 1)) t1.length then
                            some (t0, t1, (t9.getD t11.toNat (dflt Y_impl_Hunk)), t9, t10, t11, (decide (((t9.getD t11.toNat (dflt Y_impl_Hunk)).1) ≤ (IntKind.wrap .i64 (((t1.getD ((IntKind.wrap .i64 (t11 - 1)).toNat) (dflt Y_impl_Hunk)).1) + (((t1.getD ((IntKind.wrap .i64 (t11 - 1)).toNat) (dflt Y_impl_Hunk)).2).1))))), ())
                          else
                            none
                        else
                          none
                      else
                        some (t0, t1, (t9.getD t11.toNat (dflt Y_impl_Hunk)), t9, t10, t11, false, ()) : Option ((PV (.int .i64) × PV S_impl_Hunk × PV Y_impl_Hunk × PV S_impl_Hunk × PV (.int .i64) × PV (.int .i64) × PV .bool × Unit)))).bind fun j6 =>
        bif j6.2.2.2.2.2.2.1 then
          some (.inr (.inr (false, ())))
        else
          (w_S_l2Hunks_7 (j6.1, j6.2.1, j6.2.2.2.1, j6.2.2.2.2.1, j6.2.2.2.2.2.1, j6.2.2.1.2.2.1, (j6.2.2.1.2.2.1.length : Int), 0, ())).bind fun x14 =>
            match x14 with
            | .inl l7 =>
              some (.inl (l7.1, l7.2.1, l7.2.2.1, l7.2.2.2.1, (IntKind.wrap .i64 (l7.2.2.2.2.1 + 1)), ()))
            | .inr l8 =>
              some (.inr (.inr (l8.1, ())))
    else
      none
  else
    some (.inr (.inl (t0, t1, ())))
noncomputable def w_S_l2Hunks_2 : PV (.int .i64) × PV S_impl_Hunk × PV S_impl_Hunk × PV (.int .i64) × PV (.int .i64) × Unit → Option ((PV (.int .i64) × PV S_impl_Hunk × Unit) ⊕ (PV .bool × Unit)) := fix fun d => b_S_l2Hunks_2 d.1 d.2.1 d.2.2.1 d.2.2.2.1 d.2.2.2.2.1
noncomputable def lp_S_l2Hunks_2 : Lp := ⟨⟨[], [0, 1, 9, 10, 11, 20, 21, 22, 25, 26, 27, 28, 31, 32, 33, 34, 35, 36, 37, 40, 41, 42, 43, 44, 45, 46, 49, 50, 51, 52, 55, 56, 57, 58, 59, 60, 61, 62, 63, 64, 65, 66, 67, 68, 69, 70, 71, 72, 73, 74, 92, 93]⟩, sh_S_l2Hunks_2, o_S_l2Hunks_2, fun d => b_S_l2Hunks_2 d.1 d.2.1 d.2.2.1 d.2.2.2.1 d.2.2.2.2.1⟩
noncomputable def pl_S_l2Hunks : Plan := ⟨[(5, o_S_l2Hunks_5)], [(7, lp_S_l2Hunks_7), (2, lp_S_l2Hunks_2)], 0, 0⟩
noncomputable def f_S_l2Hunks (t0 : PV (.int .i64)) (t1 : PV S_impl_Hunk) : Option (PVs [.bool] × PVs []) :=
  (w_S_l2Hunks_2 (t0, t1, t1, (t1.length : Int), 0, ())).bind fun x15 =>
    match x15 with
    | .inl l11 =>
      bif (decide ((l11.2.1.length : Int) ≤ 20)) then
        (f_S_l1In l11.1 0 40).bind fun r12 =>
          some ((r12.1.1, ()), ())
      else
        some ((false, ()), ())
    | .inr l13 =>
      some ((l13.1, ()), ())
noncomputable def ct_S_l2Hunks : Ct := ⟨[(.bor, (.int .i64)), (.bor, S_impl_Hunk)], [(.bool, false)], fun x => f_S_l2Hunks x.1 x.2.1⟩
noncomputable def cx_S_l2Hunks : Cx := ⟨tab, arrs, [(99, ct_S_l1In), (115, ct_S_l1Line)], []⟩
theorem eb_S_l2Hunks_2 (t0 : PV (.int .i64)) (t1 : PV S_impl_Hunk) (t9 : PV S_impl_Hunk) (t10 : PV (.int .i64)) (t11 : PV (.int .i64)) : denK cx_S_l2Hunks (rcN cx_S_l2Hunks 0) pl_S_l2Hunks 0 ((loopsOf (bodyOf Try.f172)).getD 0 .skip) (fillS sh_S_l2Hunks_2 (t0, t1, t9, t10, t11, ())) (roundK 0 lp_S_l2Hunks_2) = b_S_l2Hunks_2 t0 t1 t9 t10 t11 := by kernel_rfl
theorem eb_S_l2Hunks_7 (t0 : PV (.int .i64)) (t1 : PV S_impl_Hunk) (t9 : PV S_impl_Hunk) (t10 : PV (.int .i64)) (t11 : PV (.int .i64)) (t77 : PV S_string) (t78 : PV (.int .i64)) (t79 : PV (.int .i64)) : denK cx_S_l2Hunks (rcN cx_S_l2Hunks 0) pl_S_l2Hunks 0 ((loopsOf (bodyOf Try.f172)).getD 1 .skip) (fillS sh_S_l2Hunks_7 (t0, t1, t9, t10, t11, t77, t78, t79, ())) (roundK 0 lp_S_l2Hunks_7) = b_S_l2Hunks_7 t0 t1 t9 t10 t11 t77 t78 t79 := by kernel_rfl
theorem ef_S_l2Hunks (t0 : PV (.int .i64)) (t1 : PV S_impl_Hunk) : denF cx_S_l2Hunks 0 pl_S_l2Hunks Try.f172.ntmps (bodyOf Try.f172) Try.f172.results.toList [(.bor, (.int .i64)), (.bor, S_impl_Hunk)] [(.bool, false)] (t0, t1, ()) = f_S_l2Hunks t0 t1 := by kernel_rfl
theorem ok_S_l2Hunks : FnOk Try.prog 172 ct_S_l2Hunks :=
  fnOk (cx := cx_S_l2Hunks) (pl := pl_S_l2Hunks) (dp := 0) (ok0_of tabOk (by unfold ArrOk; kernel_rfl) mix ⟨ok_S_l1In, ok_S_l1Line, trivial⟩ trivial) Try.func172 (by kernel_rfl) (by kernel_rfl) (by kernel_rfl)
    (by rw [show loopsOf (bodyOf Try.f172) = [((loopsOf (bodyOf Try.f172)).getD 0 .skip), ((loopsOf (bodyOf Try.f172)).getD 1 .skip)] from by kernel_rfl]; exact ⟨(by rw [show lookup pl_S_l2Hunks.loops (firstId ((loopsOf (bodyOf Try.f172)).getD 0 .skip)) = some lp_S_l2Hunks_2 from by kernel_rfl]; exact fun d z h => (eb_S_l2Hunks_2 d.1 d.2.1 d.2.2.1 d.2.2.2.1 d.2.2.2.2.1).trans h), (by rw [show lookup pl_S_l2Hunks.loops (firstId ((loopsOf (bodyOf Try.f172)).getD 1 .skip)) = some lp_S_l2Hunks_7 from by kernel_rfl]; exact fun d z h => (eb_S_l2Hunks_7 d.1 d.2.1 d.2.2.1 d.2.2.2.1 d.2.2.2.2.1 d.2.2.2.2.2.1 d.2.2.2.2.2.2.1 d.2.2.2.2.2.2.2.1).trans h), trivial⟩) (fun x => ef_S_l2Hunks x.1 x.2.1)
noncomputable def pl_S_l2Asked : Plan := ⟨[], [], 0, 0⟩
noncomputable def f_S_l2Asked (t0 : PV S_string) (t1 : PV S_impl_Hunk) : Option (PVs [.bool] × PVs []) :=
  (f_S_l1Good t0).bind fun r1 =>
    bif r1.1.1 then
      (f_S_l2Hunks (t0.length : Int) t1).bind fun r2 =>
        some ((r2.1.1, ()), ())
    else
      some ((false, ()), ())
noncomputable def ct_S_l2Asked : Ct := ⟨[(.bor, S_string), (.bor, S_impl_Hunk)], [(.bool, false)], fun x => f_S_l2Asked x.1 x.2.1⟩
noncomputable def cx_S_l2Asked : Cx := ⟨tab, arrs, [(100, ct_S_l1Good), (172, ct_S_l2Hunks)], []⟩
theorem ef_S_l2Asked (t0 : PV S_string) (t1 : PV S_impl_Hunk) : denF cx_S_l2Asked 0 pl_S_l2Asked Try.f160.ntmps (bodyOf Try.f160) Try.f160.results.toList [(.bor, S_string), (.bor, S_impl_Hunk)] [(.bool, false)] (t0, t1, ()) = f_S_l2Asked t0 t1 := by kernel_rfl
theorem ok_S_l2Asked : FnOk Try.prog 160 ct_S_l2Asked :=
  fnOk (cx := cx_S_l2Asked) (pl := pl_S_l2Asked) (dp := 0) (ok0_of tabOk (by unfold ArrOk; kernel_rfl) mix ⟨ok_S_l1Good, ok_S_l2Hunks, trivial⟩ trivial) Try.func160 (by kernel_rfl) (by kernel_rfl) (by kernel_rfl)
    (by rw [show loopsOf (bodyOf Try.f160) = [] from by kernel_rfl]; exact trivial) (fun x => ef_S_l2Asked x.1 x.2.1)
noncomputable def sh_S_l2Patch_4 : List Sh := mkSh 37 [(0, .val S_string .b), (5, .val S_string (.row .b)), (6, .val (.int .i64) .b), (9, .val S_impl_Hunk .b), (10, .val (.int .i64) .b), (11, .val (.int .i64) .b)]
noncomputable def o_S_l2Patch_4 : List Out := [⟨.exit 0, ⟨[], [0, 5, 6]⟩, mkSh 37 [(0, .val S_string .b), (5, .val S_string (.row .b)), (6, .val (.int .i64) .b)]⟩]
noncomputable def b_S_l2Patch_4 (t0 : PV S_string) (t5 : PV S_string) (t6 : PV (.int .i64)) (t9 : PV S_impl_Hunk) (t10 : PV (.int .i64)) (t11 : PV (.int .i64)) : Option ((PV S_string × PV S_string × PV (.int .i64) × PV S_impl_Hunk × PV (.int .i64) × PV (.int .i64) × Unit) ⊕ ((PV S_string × PV S_string × PV (.int .i64) × Unit))) :=
  bif (decide (t11 < t10)) then
    bif inB t11 t9.length then
      bif cutB t6 ((t9.getD t11.toNat (dflt Y_impl_Hunk)).1) t0.length then
        bif roomB (t5.length + (cutL t6 ((t9.getD t11.toNat (dflt Y_impl_Hunk)).1) t0).length) then
          bif roomB ((t5 ++ (cutL t6 ((t9.getD t11.toNat (dflt Y_impl_Hunk)).1) t0)).length + ((((t9.getD t11.toNat (dflt Y_impl_Hunk)).2).2).1).length) then
            some (.inl (t0, ((t5 ++ (cutL t6 ((t9.getD t11.toNat (dflt Y_impl_Hunk)).1) t0)) ++ ((((t9.getD t11.toNat (dflt Y_impl_Hunk)).2).2).1)), (IntKind.wrap .i64 (((t9.getD t11.toNat (dflt Y_impl_Hunk)).1) + (((t9.getD t11.toNat (dflt Y_impl_Hunk)).2).1))), t9, t10, (IntKind.wrap .i64 (t11 + 1)), ()))
          else
            none
        else
          none
      else
        none
    else
      none
  else
    some (.inr (t0, t5, t6, ()))
noncomputable def w_S_l2Patch_4 : PV S_string × PV S_string × PV (.int .i64) × PV S_impl_Hunk × PV (.int .i64) × PV (.int .i64) × Unit → Option ((PV S_string × PV S_string × PV (.int .i64) × Unit)) := fix fun d => b_S_l2Patch_4 d.1 d.2.1 d.2.2.1 d.2.2.2.1 d.2.2.2.2.1 d.2.2.2.2.2.1
noncomputable def lp_S_l2Patch_4 : Lp := ⟨⟨[], [0, 5, 6, 9, 10, 11]⟩, sh_S_l2Patch_4, o_S_l2Patch_4, fun d => b_S_l2Patch_4 d.1 d.2.1 d.2.2.1 d.2.2.2.1 d.2.2.2.2.1 d.2.2.2.2.2.1⟩
noncomputable def pl_S_l2Patch : Plan := ⟨[], [(4, lp_S_l2Patch_4)], 0, 0⟩
noncomputable def f_S_l2Patch (t0 : PV S_string) (t1 : PV S_impl_Hunk) : Option (PVs [S_string] × PVs []) :=
  (w_S_l2Patch_4 (t0, [], 0, t1, (t1.length : Int), 0, ())).bind fun l2 =>
    bif cutB l2.2.2.1 (l2.1.length : Int) l2.1.length then
      bif roomB (l2.2.1.length + (cutL l2.2.2.1 (l2.1.length : Int) l2.1).length) then
        some (((l2.2.1 ++ (cutL l2.2.2.1 (l2.1.length : Int) l2.1)), ()), ())
      else
        none
    else
      none
noncomputable def ct_S_l2Patch : Ct := ⟨[(.bor, S_string), (.bor, S_impl_Hunk)], [(S_string, true)], fun x => f_S_l2Patch x.1 x.2.1⟩
noncomputable def cx_S_l2Patch : Cx := ⟨tab, arrs, [], []⟩
theorem eb_S_l2Patch_4 (t0 : PV S_string) (t5 : PV S_string) (t6 : PV (.int .i64)) (t9 : PV S_impl_Hunk) (t10 : PV (.int .i64)) (t11 : PV (.int .i64)) : denK cx_S_l2Patch (rcN cx_S_l2Patch 0) pl_S_l2Patch 0 ((loopsOf (bodyOf Try.f161)).getD 0 .skip) (fillS sh_S_l2Patch_4 (t0, t5, t6, t9, t10, t11, ())) (roundK 0 lp_S_l2Patch_4) = b_S_l2Patch_4 t0 t5 t6 t9 t10 t11 := by kernel_rfl
theorem ef_S_l2Patch (t0 : PV S_string) (t1 : PV S_impl_Hunk) : denF cx_S_l2Patch 0 pl_S_l2Patch Try.f161.ntmps (bodyOf Try.f161) Try.f161.results.toList [(.bor, S_string), (.bor, S_impl_Hunk)] [(S_string, true)] (t0, t1, ()) = f_S_l2Patch t0 t1 := by kernel_rfl
theorem ok_S_l2Patch : FnOk Try.prog 161 ct_S_l2Patch :=
  fnOk (cx := cx_S_l2Patch) (pl := pl_S_l2Patch) (dp := 0) (ok0_of tabOk (by unfold ArrOk; kernel_rfl) mix trivial trivial) Try.func161 (by kernel_rfl) (by kernel_rfl) (by kernel_rfl)
    (by rw [show loopsOf (bodyOf Try.f161) = [((loopsOf (bodyOf Try.f161)).getD 0 .skip)] from by kernel_rfl]; exact ⟨(by rw [show lookup pl_S_l2Patch.loops (firstId ((loopsOf (bodyOf Try.f161)).getD 0 .skip)) = some lp_S_l2Patch_4 from by kernel_rfl]; exact fun d z h => (eb_S_l2Patch_4 d.1 d.2.1 d.2.2.1 d.2.2.2.1 d.2.2.2.2.1 d.2.2.2.2.2.1).trans h), trivial⟩) (fun x => ef_S_l2Patch x.1 x.2.1)
noncomputable def pl_S_Patch : Plan := ⟨[], [], 0, 0⟩
noncomputable def f_S_Patch (t0 : PV S_string) (t1 : PV S_impl_Hunk) : Option (PVs [S_string, .bool] × PVs []) :=
  (f_S_l2Asked t0 t1).bind fun r4 =>
    bif (!r4.1.1) then
      some (([], false, ()), ())
    else
      (f_S_l2Patch t0 t1).bind fun r6 =>
        (f_S_l1Good r6.1.1).bind fun r10 =>
          bif (!r10.1.1) then
            some (([], false, ()), ())
          else
            some ((r6.1.1, true, ()), ())
noncomputable def ct_S_Patch : Ct := ⟨[(.bor, S_string), (.bor, S_impl_Hunk)], [(S_string, true), (.bool, false)], fun x => f_S_Patch x.1 x.2.1⟩
noncomputable def cx_S_Patch : Cx := ⟨tab, arrs, [(100, ct_S_l1Good), (160, ct_S_l2Asked), (161, ct_S_l2Patch)], []⟩
theorem ef_S_Patch (t0 : PV S_string) (t1 : PV S_impl_Hunk) : denF cx_S_Patch 0 pl_S_Patch Try.f137.ntmps (bodyOf Try.f137) Try.f137.results.toList [(.bor, S_string), (.bor, S_impl_Hunk)] [(S_string, true), (.bool, false)] (t0, t1, ()) = f_S_Patch t0 t1 := by kernel_rfl
theorem ok_S_Patch : FnOk Try.prog 137 ct_S_Patch :=
  fnOk (cx := cx_S_Patch) (pl := pl_S_Patch) (dp := 0) (ok0_of tabOk (by unfold ArrOk; kernel_rfl) mix ⟨ok_S_l1Good, ok_S_l2Asked, ok_S_l2Patch, trivial⟩ trivial) Try.func137 (by kernel_rfl) (by kernel_rfl) (by kernel_rfl)
    (by rw [show loopsOf (bodyOf Try.f137) = [] from by kernel_rfl]; exact trivial) (fun x => ef_S_Patch x.1 x.2.1)
noncomputable def sh_S_l13Good_3 : List Sh := mkSh 36 [(1, .var Y_impl_Series .b), (3, .val S_string .b), (11, .val S_S_impl_Hunk .b), (12, .val (.int .i64) .b), (13, .val (.int .i64) .b)]
noncomputable def o_S_l13Good_3 : List Out := [⟨.exit 0, ⟨[], [1, 31, 32, 33, 34]⟩, mkSh 36 [(1, .var Y_impl_Series .b)]⟩, ⟨.ret, ⟨[], [2]⟩, mkSh 36 [(2, .val .bool .b)]⟩]
noncomputable def b_S_l13Good_3 (t1 : PV Y_impl_Series) (t3 : PV S_string) (t11 : PV S_S_impl_Hunk) (t12 : PV (.int .i64)) (t13 : PV (.int .i64)) : Option ((PV Y_impl_Series × PV S_string × PV S_S_impl_Hunk × PV (.int .i64) × PV (.int .i64) × Unit) ⊕ ((PV Y_impl_Series × Unit) ⊕ (PV .bool × Unit))) :=
  bif (decide (t13 < t12)) then
    bif inB t13 t11.length then
      (f_S_Patch t3 (t11.getD t13.toNat [])).bind fun r8 =>
        bif (!r8.1.2.1) then
          some (.inr (.inr (false, ())))
        else
          some (.inl (t1, r8.1.1, t11, t12, (IntKind.wrap .i64 (t13 + 1)), ()))
    else
      none
  else
    some (.inr (.inl (t1, ())))
noncomputable def w_S_l13Good_3 : PV Y_impl_Series × PV S_string × PV S_S_impl_Hunk × PV (.int .i64) × PV (.int .i64) × Unit → Option ((PV Y_impl_Series × Unit) ⊕ (PV .bool × Unit)) := fix fun d => b_S_l13Good_3 d.1 d.2.1 d.2.2.1 d.2.2.2.1 d.2.2.2.2.1
noncomputable def lp_S_l13Good_3 : Lp := ⟨⟨[(3, .b)], [1, 3, 11, 12, 13, 31, 32, 33, 34]⟩, sh_S_l13Good_3, o_S_l13Good_3, fun d => b_S_l13Good_3 d.1 d.2.1 d.2.2.1 d.2.2.2.1 d.2.2.2.2.1⟩
noncomputable def pl_S_l13Good : Plan := ⟨[], [(3, lp_S_l13Good_3)], 0, 0⟩
noncomputable def f_S_l13Good (t0 : PV Y_impl_Series) : Option (PVs [.bool] × PVs []) :=
  (w_S_l13Good_3 (t0, t0.1, t0.2.1, (t0.2.1.length : Int), 0, ())).bind fun x14 =>
    match x14 with
    | .inl l11 =>
      (f_S_l1Good l11.1.1).bind fun r12 =>
        bif r12.1.1 then
          some (((decide ((l11.1.2.1.length : Int) < 8)), ()), ())
        else
          some ((false, ()), ())
    | .inr l13 =>
      some ((l13.1, ()), ())
noncomputable def ct_S_l13Good : Ct := ⟨[(.bor, Y_impl_Series)], [(.bool, false)], fun x => f_S_l13Good x.1⟩
noncomputable def cx_S_l13Good : Cx := ⟨tab, arrs, [(100, ct_S_l1Good), (137, ct_S_Patch)], []⟩
theorem eb_S_l13Good_3 (t1 : PV Y_impl_Series) (t3 : PV S_string) (t11 : PV S_S_impl_Hunk) (t12 : PV (.int .i64)) (t13 : PV (.int .i64)) : denK cx_S_l13Good (rcN cx_S_l13Good 0) pl_S_l13Good 0 ((loopsOf (bodyOf Try.f95)).getD 0 .skip) (fillS sh_S_l13Good_3 (t1, t3, t11, t12, t13, ())) (roundK 0 lp_S_l13Good_3) = b_S_l13Good_3 t1 t3 t11 t12 t13 := by kernel_rfl
theorem ef_S_l13Good (t0 : PV Y_impl_Series) : denF cx_S_l13Good 0 pl_S_l13Good Try.f95.ntmps (bodyOf Try.f95) Try.f95.results.toList [(.bor, Y_impl_Series)] [(.bool, false)] (t0, ()) = f_S_l13Good t0 := by kernel_rfl
theorem ok_S_l13Good : FnOk Try.prog 95 ct_S_l13Good :=
  fnOk (cx := cx_S_l13Good) (pl := pl_S_l13Good) (dp := 0) (ok0_of tabOk (by unfold ArrOk; kernel_rfl) mix ⟨ok_S_l1Good, ok_S_Patch, trivial⟩ trivial) Try.func95 (by kernel_rfl) (by kernel_rfl) (by kernel_rfl)
    (by rw [show loopsOf (bodyOf Try.f95) = [((loopsOf (bodyOf Try.f95)).getD 0 .skip)] from by kernel_rfl]; exact ⟨(by rw [show lookup pl_S_l13Good.loops (firstId ((loopsOf (bodyOf Try.f95)).getD 0 .skip)) = some lp_S_l13Good_3 from by kernel_rfl]; exact fun d z h => (eb_S_l13Good_3 d.1 d.2.1 d.2.2.1 d.2.2.2.1 d.2.2.2.2.1).trans h), trivial⟩) (fun x => ef_S_l13Good x.1)
noncomputable def pl_S_GoodSeries : Plan := ⟨[], [], 0, 0⟩
noncomputable def f_S_GoodSeries (t0 : PV Y_impl_Series) : Option (PVs [.bool] × PVs []) :=
  (f_S_l13Good t0).bind fun r1 =>
    some ((r1.1.1, ()), ())
noncomputable def ct_S_GoodSeries : Ct := ⟨[(.bor, Y_impl_Series)], [(.bool, false)], fun x => f_S_GoodSeries x.1⟩
noncomputable def cx_S_GoodSeries : Cx := ⟨tab, arrs, [(95, ct_S_l13Good)], []⟩
theorem ef_S_GoodSeries (t0 : PV Y_impl_Series) : denF cx_S_GoodSeries 0 pl_S_GoodSeries Try.f49.ntmps (bodyOf Try.f49) Try.f49.results.toList [(.bor, Y_impl_Series)] [(.bool, false)] (t0, ()) = f_S_GoodSeries t0 := by kernel_rfl
theorem ok_S_GoodSeries : FnOk Try.prog 49 ct_S_GoodSeries :=
  fnOk (cx := cx_S_GoodSeries) (pl := pl_S_GoodSeries) (dp := 0) (ok0_of tabOk (by unfold ArrOk; kernel_rfl) mix ⟨ok_S_l13Good, trivial⟩ trivial) Try.func49 (by kernel_rfl) (by kernel_rfl) (by kernel_rfl)
    (by rw [show loopsOf (bodyOf Try.f49) = [] from by kernel_rfl]; exact trivial) (fun x => ef_S_GoodSeries x.1)
noncomputable def pl_I_areLines_1 : Plan := ⟨[], [], 0, 0⟩
noncomputable def f_I_areLines_1 (t0 : PV .str) : Option (PVs [.bool] × PVs []) :=
  (f_I_isLine t0).bind fun r1 =>
    some (((!r1.1.1), ()), ())
noncomputable def ct_I_areLines_1 : Ct := ⟨[(.bor, .str)], [(.bool, false)], fun x => f_I_areLines_1 x.1⟩
noncomputable def cx_I_areLines_1 : Cx := ⟨tab, arrs, [(129, ct_I_isLine)], []⟩
theorem ef_I_areLines_1 (t0 : PV .str) : denF cx_I_areLines_1 0 pl_I_areLines_1 Try.f151.ntmps (bodyOf Try.f151) Try.f151.results.toList [(.bor, .str)] [(.bool, false)] (t0, ()) = f_I_areLines_1 t0 := by kernel_rfl
theorem ok_I_areLines_1 : FnOk Try.prog 151 ct_I_areLines_1 :=
  fnOk (cx := cx_I_areLines_1) (pl := pl_I_areLines_1) (dp := 0) (ok0_of tabOk (by unfold ArrOk; kernel_rfl) mix ⟨ok_I_isLine, trivial⟩ trivial) Try.func151 (by kernel_rfl) (by kernel_rfl) (by kernel_rfl)
    (by rw [show loopsOf (bodyOf Try.f151) = [] from by kernel_rfl]; exact trivial) (fun x => ef_I_areLines_1 x.1)
noncomputable def pl_I_areLines_148 : Plan := ⟨[], [], 1, 11⟩
noncomputable def sh_I_areLines_169_2 : List Sh := mkSh 39 [(0, .val S_string .b), (2, .val .bool .b), (3, .val S_string .b), (4, .val (.int .i64) .b), (5, .val .bool .b), (6, .val .bool .b), (7, .val S_string .b), (11, .val S_string .b), (12, .fn 151 []), (15, .val .bool .b), (16, .val S_string .b), (17, .fn 151 []), (20, .val S_string .b), (21, .fn 151 []), (27, .val (.int .i64) .b), (28, .val (.int .i64) .b)]
noncomputable def o_I_areLines_169_2 : List Out := [⟨.exit 0, ⟨[], []⟩, mkSh 39 [(0, .val S_string .b), (2, .val .bool .b), (3, .val S_string .b), (4, .val (.int .i64) .b), (5, .val .bool .b), (6, .val .bool .b), (7, .val S_string .b), (11, .val S_string .b), (12, .fn 151 []), (15, .val .bool .b), (16, .val S_string .b), (17, .fn 151 [])]⟩, ⟨.ret, ⟨[], [4]⟩, mkSh 39 [(0, .val S_string .b), (2, .val .bool .b), (3, .val S_string .b), (4, .val (.int .i64) .b), (5, .val .bool .b), (6, .val .bool .b), (7, .val S_string .b), (11, .val S_string .b), (12, .fn 151 []), (15, .val .bool .b), (16, .val S_string .b), (17, .fn 151 []), (24, .val (.int .i64) .b)]⟩]
noncomputable def b_I_areLines_169_2 (t0 : PV S_string) (t2 : PV .bool) (t3 : PV S_string) (t4 : PV (.int .i64)) (t5 : PV .bool) (t6 : PV .bool) (t7 : PV S_string) (t11 : PV S_string) (t15 : PV .bool) (t16 : PV S_string) (t20 : PV S_string) (t27 : PV (.int .i64)) (t28 : PV (.int .i64)) : Option ((PV S_string × PV .bool × PV S_string × PV (.int .i64) × PV .bool × PV .bool × PV S_string × PV S_string × PV .bool × PV S_string × PV S_string × PV (.int .i64) × PV (.int .i64) × Unit) ⊕ ((PV S_string × PV .bool × PV S_string × PV (.int .i64) × PV .bool × PV .bool × PV S_string × PV S_string × PV .bool × PV S_string × Unit) ⊕ (PV S_string × PV .bool × PV S_string × PV (.int .i64) × PV .bool × PV .bool × PV S_string × PV S_string × PV .bool × PV S_string × PV (.int .i64) × Unit))) :=
  bif (decide (t28 < t27)) then
    bif inB t28 t20.length then
      (f_I_areLines_1 (t20.getD t28.toNat [])).bind fun r4 =>
        bif r4.1.1 then
          some (.inr (.inr (t0, t2, t3, t4, t5, t6, t7, t11, t15, t16, t28, ())))
        else
          some (.inl (t0, t2, t3, t4, t5, t6, t7, t11, t15, t16, t20, t27, (IntKind.wrap .i64 (t28 + 1)), ()))
    else
      none
  else
    some (.inr (.inl (t0, t2, t3, t4, t5, t6, t7, t11, t15, t16, ())))
noncomputable def w_I_areLines_169_2 : PV S_string × PV .bool × PV S_string × PV (.int .i64) × PV .bool × PV .bool × PV S_string × PV S_string × PV .bool × PV S_string × PV S_string × PV (.int .i64) × PV (.int .i64) × Unit → Option ((PV S_string × PV .bool × PV S_string × PV (.int .i64) × PV .bool × PV .bool × PV S_string × PV S_string × PV .bool × PV S_string × Unit) ⊕ (PV S_string × PV .bool × PV S_string × PV (.int .i64) × PV .bool × PV .bool × PV S_string × PV S_string × PV .bool × PV S_string × PV (.int .i64) × Unit)) := fix fun d => b_I_areLines_169_2 d.1 d.2.1 d.2.2.1 d.2.2.2.1 d.2.2.2.2.1 d.2.2.2.2.2.1 d.2.2.2.2.2.2.1 d.2.2.2.2.2.2.2.1 d.2.2.2.2.2.2.2.2.1 d.2.2.2.2.2.2.2.2.2.1 d.2.2.2.2.2.2.2.2.2.2.1 d.2.2.2.2.2.2.2.2.2.2.2.1 d.2.2.2.2.2.2.2.2.2.2.2.2.1
noncomputable def lp_I_areLines_169_2 : Lp := ⟨⟨[], [0, 1, 7, 8]⟩, sh_I_areLines_169_2, o_I_areLines_169_2, fun d => b_I_areLines_169_2 d.1 d.2.1 d.2.2.1 d.2.2.2.1 d.2.2.2.2.1 d.2.2.2.2.2.1 d.2.2.2.2.2.2.1 d.2.2.2.2.2.2.2.1 d.2.2.2.2.2.2.2.2.1 d.2.2.2.2.2.2.2.2.2.1 d.2.2.2.2.2.2.2.2.2.2.1 d.2.2.2.2.2.2.2.2.2.2.2.1 d.2.2.2.2.2.2.2.2.2.2.2.2.1⟩
noncomputable def pl_I_areLines_169 : Plan := ⟨[], [(2, lp_I_areLines_169_2)], 0, 20⟩
noncomputable def pl_I_areLines : Plan := ⟨[], [], 2, 0⟩
noncomputable def f_I_areLines (t0 : PV S_string) : Option (PVs [.bool] × PVs []) :=
  bif (decide ((t0.length : Int) ≤ 40)) then
    (w_I_areLines_169_2 (t0, false, t0, (t0.length : Int), (decide ((t0.length : Int) ≤ 40)), true, t0, t0, false, t0, t0, (t0.length : Int), 0, ())).bind fun x9 =>
      match x9 with
      | .inl l7 =>
        bif l7.2.2.2.2.2.1 then
          some (((!(decide ((-1) ≥ 0))), ()), ())
        else
          some ((false, ()), ())
      | .inr l8 =>
        bif l8.2.2.2.2.2.1 then
          some (((!(decide (l8.2.2.2.2.2.2.2.2.2.2.1 ≥ 0))), ()), ())
        else
          some ((false, ()), ())
  else
    some ((false, ()), ())
noncomputable def ct_I_areLines : Ct := ⟨[(.bor, S_string)], [(.bool, false)], fun x => f_I_areLines x.1⟩
noncomputable def cx_I_areLines : Cx := ⟨tab, arrs, [(151, ct_I_areLines_1)], [(148, Try.f148, pl_I_areLines_148), (169, Try.f169, pl_I_areLines_169)]⟩
theorem eb_I_areLines_169_2 (t0 : PV S_string) (t2 : PV .bool) (t3 : PV S_string) (t4 : PV (.int .i64)) (t5 : PV .bool) (t6 : PV .bool) (t7 : PV S_string) (t11 : PV S_string) (t15 : PV .bool) (t16 : PV S_string) (t20 : PV S_string) (t27 : PV (.int .i64)) (t28 : PV (.int .i64)) : denK cx_I_areLines (rcN cx_I_areLines 0) pl_I_areLines_169 20 ((loopsOf (bodyOf Try.f169)).getD 0 .skip) (fillS sh_I_areLines_169_2 (t0, t2, t3, t4, t5, t6, t7, t11, t15, t16, t20, t27, t28, ())) (roundK 20 lp_I_areLines_169_2) = b_I_areLines_169_2 t0 t2 t3 t4 t5 t6 t7 t11 t15 t16 t20 t27 t28 := by kernel_rfl
theorem ef_I_areLines (t0 : PV S_string) : denF cx_I_areLines 2 pl_I_areLines Try.f117.ntmps (bodyOf Try.f117) Try.f117.results.toList [(.bor, S_string)] [(.bool, false)] (t0, ()) = f_I_areLines t0 := by kernel_rfl
theorem ok_I_areLines : FnOk Try.prog 117 ct_I_areLines :=
  fnOk (cx := cx_I_areLines) (pl := pl_I_areLines) (dp := 2) (ok0_of tabOk (by unfold ArrOk; kernel_rfl) mix ⟨ok_I_areLines_1, trivial⟩ ⟨⟨Try.func148, by kernel_rfl, (by rw [show loopsOf (bodyOf Try.f148) = [] from by kernel_rfl]; exact trivial)⟩, ⟨Try.func169, by kernel_rfl, (by rw [show loopsOf (bodyOf Try.f169) = [((loopsOf (bodyOf Try.f169)).getD 0 .skip)] from by kernel_rfl]; exact ⟨(by rw [show lookup pl_I_areLines_169.loops (firstId ((loopsOf (bodyOf Try.f169)).getD 0 .skip)) = some lp_I_areLines_169_2 from by kernel_rfl]; exact fun d z h => (eb_I_areLines_169_2 d.1 d.2.1 d.2.2.1 d.2.2.2.1 d.2.2.2.2.1 d.2.2.2.2.2.1 d.2.2.2.2.2.2.1 d.2.2.2.2.2.2.2.1 d.2.2.2.2.2.2.2.2.1 d.2.2.2.2.2.2.2.2.2.1 d.2.2.2.2.2.2.2.2.2.2.1 d.2.2.2.2.2.2.2.2.2.2.2.1 d.2.2.2.2.2.2.2.2.2.2.2.2.1).trans h), trivial⟩)⟩, trivial⟩) Try.func117 (by kernel_rfl) (by kernel_rfl) (by kernel_rfl)
    (by rw [show loopsOf (bodyOf Try.f117) = [] from by kernel_rfl]; exact trivial) (fun x => ef_I_areLines x.1)
noncomputable def o_I_goodLines_7 : List Out := [⟨.normal, ⟨[], [0, 8, 9, 10, 24]⟩, mkSh 26 [(0, .val S_string .b), (8, .val S_string .b), (9, .val (.int .i64) .b), (10, .val (.int .i64) .b), (24, .val .bool .b)]⟩]
noncomputable def sh_I_goodLines_4 : List Sh := mkSh 26 [(0, .val S_string .b), (8, .val S_string .b), (9, .val (.int .i64) .b), (10, .val (.int .i64) .b)]
noncomputable def o_I_goodLines_4 : List Out := [⟨.exit 0, ⟨[], []⟩, mkSh 26 []⟩, ⟨.ret, ⟨[], [2]⟩, mkSh 26 [(2, .val .bool .b)]⟩]
noncomputable def b_I_goodLines_4 (t0 : PV S_string) (t8 : PV S_string) (t9 : PV (.int .i64)) (t10 : PV (.int .i64)) : Option ((PV S_string × PV S_string × PV (.int .i64) × PV (.int .i64) × Unit) ⊕ ((Unit) ⊕ (PV .bool × Unit))) :=
  bif (decide (t10 < t9)) then
    bif inB t10 t8.length then
      ((
          bif (decide (t10 < (IntKind.wrap .i64 ((t0.length : Int) - 1)))) then
            (f_I_isEnded (t8.getD t10.toNat [])).bind fun r7 =>
              some (t0, t8, t9, t10, (!r7.1.1), ())
          else
            some (t0, t8, t9, t10, false, ()) : Option ((PV S_string × PV S_string × PV (.int .i64) × PV (.int .i64) × PV .bool × Unit)))).bind fun j8 =>
        bif j8.2.2.2.2.1 then
          some (.inr (.inr (false, ())))
        else
          some (.inl (j8.1, j8.2.1, j8.2.2.1, (IntKind.wrap .i64 (j8.2.2.2.1 + 1)), ()))
    else
      none
  else
    some (.inr (.inl ()))
noncomputable def w_I_goodLines_4 : PV S_string × PV S_string × PV (.int .i64) × PV (.int .i64) × Unit → Option ((Unit) ⊕ (PV .bool × Unit)) := fix fun d => b_I_goodLines_4 d.1 d.2.1 d.2.2.1 d.2.2.2.1
noncomputable def lp_I_goodLines_4 : Lp := ⟨⟨[], [0, 8, 9, 10, 21, 22, 23]⟩, sh_I_goodLines_4, o_I_goodLines_4, fun d => b_I_goodLines_4 d.1 d.2.1 d.2.2.1 d.2.2.2.1⟩
noncomputable def pl_I_goodLines : Plan := ⟨[(7, o_I_goodLines_7)], [(4, lp_I_goodLines_4)], 0, 0⟩
noncomputable def f_I_goodLines (t0 : PV S_string) : Option (PVs [.bool] × PVs []) :=
  (f_I_areLines t0).bind fun r4 =>
    bif (!r4.1.1) then
      some ((false, ()), ())
    else
      (w_I_goodLines_4 (t0, t0, (t0.length : Int), 0, ())).bind fun x13 =>
        match x13 with
        | .inl l11 =>
          some ((true, ()), ())
        | .inr l12 =>
          some ((l12.1, ()), ())
noncomputable def ct_I_goodLines : Ct := ⟨[(.bor, S_string)], [(.bool, false)], fun x => f_I_goodLines x.1⟩
noncomputable def cx_I_goodLines : Cx := ⟨tab, arrs, [(117, ct_I_areLines), (142, ct_I_isEnded)], []⟩
theorem eb_I_goodLines_4 (t0 : PV S_string) (t8 : PV S_string) (t9 : PV (.int .i64)) (t10 : PV (.int .i64)) : denK cx_I_goodLines (rcN cx_I_goodLines 0) pl_I_goodLines 0 ((loopsOf (bodyOf Try.f102)).getD 0 .skip) (fillS sh_I_goodLines_4 (t0, t8, t9, t10, ())) (roundK 0 lp_I_goodLines_4) = b_I_goodLines_4 t0 t8 t9 t10 := by kernel_rfl
theorem ef_I_goodLines (t0 : PV S_string) : denF cx_I_goodLines 0 pl_I_goodLines Try.f102.ntmps (bodyOf Try.f102) Try.f102.results.toList [(.bor, S_string)] [(.bool, false)] (t0, ()) = f_I_goodLines t0 := by kernel_rfl
theorem ok_I_goodLines : FnOk Try.prog 102 ct_I_goodLines :=
  fnOk (cx := cx_I_goodLines) (pl := pl_I_goodLines) (dp := 0) (ok0_of tabOk (by unfold ArrOk; kernel_rfl) mix ⟨ok_I_areLines, ok_I_isEnded, trivial⟩ trivial) Try.func102 (by kernel_rfl) (by kernel_rfl) (by kernel_rfl)
    (by rw [show loopsOf (bodyOf Try.f102) = [((loopsOf (bodyOf Try.f102)).getD 0 .skip)] from by kernel_rfl]; exact ⟨(by rw [show lookup pl_I_goodLines.loops (firstId ((loopsOf (bodyOf Try.f102)).getD 0 .skip)) = some lp_I_goodLines_4 from by kernel_rfl]; exact fun d z h => (eb_I_goodLines_4 d.1 d.2.1 d.2.2.1 d.2.2.2.1).trans h), trivial⟩) (fun x => ef_I_goodLines x.1)
noncomputable def o_I_goodHunks_2 : List Out := [⟨.normal, ⟨[], [0, 1, 14, 28, 29, 30, 31, 32, 33, 34, 35, 38, 39, 40, 41, 44, 45, 46, 47, 48, 49, 50, 51, 52, 57, 58, 59, 60, 61, 62, 63, 64, 65, 66, 67, 68, 69, 70, 71, 72]⟩, mkSh 75 [(0, .val (.int .i64) .b), (1, .val S_impl_Hunk .b), (14, .val .bool .b)]⟩]
noncomputable def o_I_goodHunks_7 : List Out := [⟨.normal, ⟨[], [0, 1, 5, 6, 15, 16, 17, 53, 57, 58, 59, 60, 61, 62, 63, 64, 65, 66, 67, 68, 69, 70, 71, 72]⟩, mkSh 75 [(0, .val (.int .i64) .b), (1, .val S_impl_Hunk .b), (5, .val (.int .i64) .b), (6, .var Y_impl_Hunk .b), (15, .val S_impl_Hunk .b), (16, .val (.int .i64) .b), (17, .val (.int .i64) .b), (53, .val .bool .b)]⟩]
noncomputable def o_I_goodHunks_9 : List Out := [⟨.normal, ⟨[], [0, 1, 6, 15, 16, 17, 28, 29, 30, 31, 32, 33, 34, 35, 38, 39, 40, 41, 44, 45, 46, 47, 48, 49, 50, 51, 52, 73]⟩, mkSh 75 [(0, .val (.int .i64) .b), (1, .val S_impl_Hunk .b), (6, .var Y_impl_Hunk .b), (15, .val S_impl_Hunk .b), (16, .val (.int .i64) .b), (17, .val (.int .i64) .b), (73, .val .bool .b)]⟩]
noncomputable def sh_I_goodHunks_4 : List Sh := mkSh 75 [(0, .val (.int .i64) .b), (1, .val S_impl_Hunk .b), (15, .val S_impl_Hunk .b), (16, .val (.int .i64) .b), (17, .val (.int .i64) .b)]
noncomputable def o_I_goodHunks_4 : List Out := [⟨.exit 0, ⟨[], []⟩, mkSh 75 []⟩, ⟨.ret, ⟨[], [4]⟩, mkSh 75 [(4, .val .bool .b)]⟩]
noncomputable def b_I_goodHunks_4 (t0 : PV (.int .i64)) (t1 : PV S_impl_Hunk) (t15 : PV S_impl_Hunk) (t16 : PV (.int .i64)) (t17 : PV (.int .i64)) : Option ((PV (.int .i64) × PV S_impl_Hunk × PV S_impl_Hunk × PV (.int .i64) × PV (.int .i64) × Unit) ⊕ ((Unit) ⊕ (PV .bool × Unit))) :=
  bif (decide (t17 < t16)) then
    bif inB t17 t15.length then
      ((
          (f_I_in ((t15.getD t17.toNat (dflt Y_impl_Hunk)).1) 0 t0).bind fun r19 =>
            bif (!r19.1.1) then
              some (t0, t1, t17, (t15.getD t17.toNat (dflt Y_impl_Hunk)), t15, t16, t17, true, ())
            else
              (f_I_in (((t15.getD t17.toNat (dflt Y_impl_Hunk)).2).1) 0 (IntKind.wrap .i64 (t0 - ((t15.getD t17.toNat (dflt Y_impl_Hunk)).1)))).bind fun r20 =>
                bif (!r20.1.1) then
                  some (t0, t1, t17, (t15.getD t17.toNat (dflt Y_impl_Hunk)), t15, t16, t17, true, ())
                else
                  (f_I_areLines ((((t15.getD t17.toNat (dflt Y_impl_Hunk)).2).2).1)).bind fun r21 =>
                    bif (!r21.1.1) then
                      some (t0, t1, t17, (t15.getD t17.toNat (dflt Y_impl_Hunk)), t15, t16, t17, true, ())
                    else
                      bif ((((t15.getD t17.toNat (dflt Y_impl_Hunk)).2).1) == 0) then
                        some (t0, t1, t17, (t15.getD t17.toNat (dflt Y_impl_Hunk)), t15, t16, t17, ((((((t15.getD t17.toNat (dflt Y_impl_Hunk)).2).2).1).length : Int) == 0), ())
                      else
                        some (t0, t1, t17, (t15.getD t17.toNat (dflt Y_impl_Hunk)), t15, t16, t17, false, ()) : Option ((PV (.int .i64) × PV S_impl_Hunk × PV (.int .i64) × PV Y_impl_Hunk × PV S_impl_Hunk × PV (.int .i64) × PV (.int .i64) × PV .bool × Unit)))).bind fun j22 =>
        bif j22.2.2.2.2.2.2.2.1 then
          some (.inr (.inr (false, ())))
        else
          ((
              bif (decide (j22.2.2.1 > 0)) then
                bif inB (IntKind.wrap .i64 (j22.2.2.1 - 1)) j22.2.1.length then
                  bif inB (IntKind.wrap .i64 (j22.2.2.1 - 1)) j22.2.1.length then
                    some (j22.1, j22.2.1, j22.2.2.2.1, j22.2.2.2.2.1, j22.2.2.2.2.2.1, j22.2.2.2.2.2.2.1, (decide (j22.2.2.2.1.1 ≤ (IntKind.wrap .i64 (((j22.2.1.getD ((IntKind.wrap .i64 (j22.2.2.1 - 1)).toNat) (dflt Y_impl_Hunk)).1) + (((j22.2.1.getD ((IntKind.wrap .i64 (j22.2.2.1 - 1)).toNat) (dflt Y_impl_Hunk)).2).1))))), ())
                  else
                    none
                else
                  none
              else
                some (j22.1, j22.2.1, j22.2.2.2.1, j22.2.2.2.2.1, j22.2.2.2.2.2.1, j22.2.2.2.2.2.2.1, false, ()) : Option ((PV (.int .i64) × PV S_impl_Hunk × PV Y_impl_Hunk × PV S_impl_Hunk × PV (.int .i64) × PV (.int .i64) × PV .bool × Unit)))).bind fun j23 =>
            bif j23.2.2.2.2.2.2.1 then
              some (.inr (.inr (false, ())))
            else
              some (.inl (j23.1, j23.2.1, j23.2.2.2.1, j23.2.2.2.2.1, (IntKind.wrap .i64 (j23.2.2.2.2.2.1 + 1)), ()))
    else
      none
  else
    some (.inr (.inl ()))
noncomputable def w_I_goodHunks_4 : PV (.int .i64) × PV S_impl_Hunk × PV S_impl_Hunk × PV (.int .i64) × PV (.int .i64) × Unit → Option ((Unit) ⊕ (PV .bool × Unit)) := fix fun d => b_I_goodHunks_4 d.1 d.2.1 d.2.2.1 d.2.2.2.1 d.2.2.2.2.1
noncomputable def lp_I_goodHunks_4 : Lp := ⟨⟨[], [0, 1, 15, 16, 17, 28, 29, 30, 31, 32, 33, 34, 35, 38, 39, 40, 41, 44, 45, 46, 47, 48, 49, 50, 51, 52, 57, 58, 59, 60, 61, 62, 63, 64, 65, 66, 67, 68, 69, 70, 71, 72]⟩, sh_I_goodHunks_4, o_I_goodHunks_4, fun d => b_I_goodHunks_4 d.1 d.2.1 d.2.2.1 d.2.2.2.1 d.2.2.2.2.1⟩
noncomputable def pl_I_goodHunks : Plan := ⟨[(2, o_I_goodHunks_2), (7, o_I_goodHunks_7), (9, o_I_goodHunks_9)], [(4, lp_I_goodHunks_4)], 0, 0⟩
noncomputable def f_I_goodHunks (t0 : PV (.int .i64)) (t1 : PV S_impl_Hunk) : Option (PVs [.bool] × PVs []) :=
  ((
      (f_I_in t0 0 40).bind fun r4 =>
        bif (!r4.1.1) then
          some (t0, t1, true, ())
        else
          some (t0, t1, (decide ((t1.length : Int) > 20)), ()) : Option ((PV (.int .i64) × PV S_impl_Hunk × PV .bool × Unit)))).bind fun j5 =>
    bif j5.2.2.1 then
      some ((false, ()), ())
    else
      (w_I_goodHunks_4 (j5.1, j5.2.1, j5.2.1, (j5.2.1.length : Int), 0, ())).bind fun x28 =>
        match x28 with
        | .inl l26 =>
          some ((true, ()), ())
        | .inr l27 =>
          some ((l27.1, ()), ())
noncomputable def ct_I_goodHunks : Ct := ⟨[(.bor, (.int .i64)), (.bor, S_impl_Hunk)], [(.bool, false)], fun x => f_I_goodHunks x.1 x.2.1⟩
noncomputable def cx_I_goodHunks : Cx := ⟨tab, arrs, [(101, ct_I_in), (117, ct_I_areLines)], []⟩
theorem eb_I_goodHunks_4 (t0 : PV (.int .i64)) (t1 : PV S_impl_Hunk) (t15 : PV S_impl_Hunk) (t16 : PV (.int .i64)) (t17 : PV (.int .i64)) : denK cx_I_goodHunks (rcN cx_I_goodHunks 0) pl_I_goodHunks 0 ((loopsOf (bodyOf Try.f163)).getD 0 .skip) (fillS sh_I_goodHunks_4 (t0, t1, t15, t16, t17, ())) (roundK 0 lp_I_goodHunks_4) = b_I_goodHunks_4 t0 t1 t15 t16 t17 := by kernel_rfl
theorem ef_I_goodHunks (t0 : PV (.int .i64)) (t1 : PV S_impl_Hunk) : denF cx_I_goodHunks 0 pl_I_goodHunks Try.f163.ntmps (bodyOf Try.f163) Try.f163.results.toList [(.bor, (.int .i64)), (.bor, S_impl_Hunk)] [(.bool, false)] (t0, t1, ()) = f_I_goodHunks t0 t1 := by kernel_rfl
theorem ok_I_goodHunks : FnOk Try.prog 163 ct_I_goodHunks :=
  fnOk (cx := cx_I_goodHunks) (pl := pl_I_goodHunks) (dp := 0) (ok0_of tabOk (by unfold ArrOk; kernel_rfl) mix ⟨ok_I_in, ok_I_areLines, trivial⟩ trivial) Try.func163 (by kernel_rfl) (by kernel_rfl) (by kernel_rfl)
    (by rw [show loopsOf (bodyOf Try.f163) = [((loopsOf (bodyOf Try.f163)).getD 0 .skip)] from by kernel_rfl]; exact ⟨(by rw [show lookup pl_I_goodHunks.loops (firstId ((loopsOf (bodyOf Try.f163)).getD 0 .skip)) = some lp_I_goodHunks_4 from by kernel_rfl]; exact fun d z h => (eb_I_goodHunks_4 d.1 d.2.1 d.2.2.1 d.2.2.2.1 d.2.2.2.2.1).trans h), trivial⟩) (fun x => ef_I_goodHunks x.1 x.2.1)
noncomputable def sh_I_patched_3 : List Sh := mkSh 37 [(0, .val S_string .b), (5, .val S_string (.row .b)), (6, .val (.int .i64) .b), (10, .val S_impl_Hunk .b), (11, .val (.int .i64) .b), (12, .val (.int .i64) .b)]
noncomputable def o_I_patched_3 : List Out := [⟨.exit 0, ⟨[], [0, 5, 6]⟩, mkSh 37 [(0, .val S_string .b), (5, .val S_string (.row .b)), (6, .val (.int .i64) .b)]⟩]
noncomputable def b_I_patched_3 (t0 : PV S_string) (t5 : PV S_string) (t6 : PV (.int .i64)) (t10 : PV S_impl_Hunk) (t11 : PV (.int .i64)) (t12 : PV (.int .i64)) : Option ((PV S_string × PV S_string × PV (.int .i64) × PV S_impl_Hunk × PV (.int .i64) × PV (.int .i64) × Unit) ⊕ ((PV S_string × PV S_string × PV (.int .i64) × Unit))) :=
  bif (decide (t12 < t11)) then
    bif inB t12 t10.length then
      bif cutB t6 ((t10.getD t12.toNat (dflt Y_impl_Hunk)).1) t0.length then
        bif roomB (t5.length + (cutL t6 ((t10.getD t12.toNat (dflt Y_impl_Hunk)).1) t0).length) then
          bif roomB ((t5 ++ (cutL t6 ((t10.getD t12.toNat (dflt Y_impl_Hunk)).1) t0)).length + ((((t10.getD t12.toNat (dflt Y_impl_Hunk)).2).2).1).length) then
            some (.inl (t0, ((t5 ++ (cutL t6 ((t10.getD t12.toNat (dflt Y_impl_Hunk)).1) t0)) ++ ((((t10.getD t12.toNat (dflt Y_impl_Hunk)).2).2).1)), (IntKind.wrap .i64 (((t10.getD t12.toNat (dflt Y_impl_Hunk)).1) + (((t10.getD t12.toNat (dflt Y_impl_Hunk)).2).1))), t10, t11, (IntKind.wrap .i64 (t12 + 1)), ()))
          else
            none
        else
          none
      else
        none
    else
      none
  else
    some (.inr (t0, t5, t6, ()))
noncomputable def w_I_patched_3 : PV S_string × PV S_string × PV (.int .i64) × PV S_impl_Hunk × PV (.int .i64) × PV (.int .i64) × Unit → Option ((PV S_string × PV S_string × PV (.int .i64) × Unit)) := fix fun d => b_I_patched_3 d.1 d.2.1 d.2.2.1 d.2.2.2.1 d.2.2.2.2.1 d.2.2.2.2.2.1
noncomputable def lp_I_patched_3 : Lp := ⟨⟨[], [0, 5, 6, 10, 11, 12]⟩, sh_I_patched_3, o_I_patched_3, fun d => b_I_patched_3 d.1 d.2.1 d.2.2.1 d.2.2.2.1 d.2.2.2.2.1 d.2.2.2.2.2.1⟩
noncomputable def pl_I_patched : Plan := ⟨[], [(3, lp_I_patched_3)], 0, 0⟩
noncomputable def f_I_patched (t0 : PV S_string) (t1 : PV S_impl_Hunk) : Option (PVs [S_string] × PVs []) :=
  (w_I_patched_3 (t0, ([] : PV S_string), 0, t1, (t1.length : Int), 0, ())).bind fun l2 =>
    bif cutB l2.2.2.1 (l2.1.length : Int) l2.1.length then
      bif roomB (l2.2.1.length + (cutL l2.2.2.1 (l2.1.length : Int) l2.1).length) then
        some (((l2.2.1 ++ (cutL l2.2.2.1 (l2.1.length : Int) l2.1)), ()), ())
      else
        none
    else
      none
noncomputable def ct_I_patched : Ct := ⟨[(.bor, S_string), (.bor, S_impl_Hunk)], [(S_string, true)], fun x => f_I_patched x.1 x.2.1⟩
noncomputable def cx_I_patched : Cx := ⟨tab, arrs, [], []⟩
theorem eb_I_patched_3 (t0 : PV S_string) (t5 : PV S_string) (t6 : PV (.int .i64)) (t10 : PV S_impl_Hunk) (t11 : PV (.int .i64)) (t12 : PV (.int .i64)) : denK cx_I_patched (rcN cx_I_patched 0) pl_I_patched 0 ((loopsOf (bodyOf Try.f164)).getD 0 .skip) (fillS sh_I_patched_3 (t0, t5, t6, t10, t11, t12, ())) (roundK 0 lp_I_patched_3) = b_I_patched_3 t0 t5 t6 t10 t11 t12 := by kernel_rfl
theorem ef_I_patched (t0 : PV S_string) (t1 : PV S_impl_Hunk) : denF cx_I_patched 0 pl_I_patched Try.f164.ntmps (bodyOf Try.f164) Try.f164.results.toList [(.bor, S_string), (.bor, S_impl_Hunk)] [(S_string, true)] (t0, t1, ()) = f_I_patched t0 t1 := by kernel_rfl
theorem ok_I_patched : FnOk Try.prog 164 ct_I_patched :=
  fnOk (cx := cx_I_patched) (pl := pl_I_patched) (dp := 0) (ok0_of tabOk (by unfold ArrOk; kernel_rfl) mix trivial trivial) Try.func164 (by kernel_rfl) (by kernel_rfl) (by kernel_rfl)
    (by rw [show loopsOf (bodyOf Try.f164) = [((loopsOf (bodyOf Try.f164)).getD 0 .skip)] from by kernel_rfl]; exact ⟨(by rw [show lookup pl_I_patched.loops (firstId ((loopsOf (bodyOf Try.f164)).getD 0 .skip)) = some lp_I_patched_3 from by kernel_rfl]; exact fun d z h => (eb_I_patched_3 d.1 d.2.1 d.2.2.1 d.2.2.2.1 d.2.2.2.2.1 d.2.2.2.2.2.1).trans h), trivial⟩) (fun x => ef_I_patched x.1 x.2.1)
noncomputable def o_I_Patch_2 : List Out := [⟨.normal, ⟨[], [0, 1, 16]⟩, mkSh 24 [(0, .val S_string .b), (1, .val S_impl_Hunk .b), (16, .val .bool .b)]⟩]
noncomputable def pl_I_Patch : Plan := ⟨[(2, o_I_Patch_2)], [], 0, 0⟩
noncomputable def f_I_Patch (t0 : PV S_string) (t1 : PV S_impl_Hunk) : Option (PVs [S_string, .bool] × PVs []) :=
  ((
      (f_I_goodLines t0).bind fun r6 =>
        bif (!r6.1.1) then
          some (t0, t1, true, ())
        else
          (f_I_goodHunks (t0.length : Int) t1).bind fun r7 =>
            some (t0, t1, (!r7.1.1), ()) : Option ((PV S_string × PV S_impl_Hunk × PV .bool × Unit)))).bind fun j8 =>
    bif j8.2.2.1 then
      some (([], false, ()), ())
    else
      (f_I_patched j8.1 j8.2.1).bind fun r10 =>
        (f_I_goodLines r10.1.1).bind fun r14 =>
          bif (!r14.1.1) then
            some (([], false, ()), ())
          else
            some ((r10.1.1, true, ()), ())
noncomputable def ct_I_Patch : Ct := ⟨[(.bor, S_string), (.bor, S_impl_Hunk)], [(S_string, true), (.bool, false)], fun x => f_I_Patch x.1 x.2.1⟩
noncomputable def cx_I_Patch : Cx := ⟨tab, arrs, [(102, ct_I_goodLines), (163, ct_I_goodHunks), (164, ct_I_patched)], []⟩
theorem ef_I_Patch (t0 : PV S_string) (t1 : PV S_impl_Hunk) : denF cx_I_Patch 0 pl_I_Patch Try.f139.ntmps (bodyOf Try.f139) Try.f139.results.toList [(.bor, S_string), (.bor, S_impl_Hunk)] [(S_string, true), (.bool, false)] (t0, t1, ()) = f_I_Patch t0 t1 := by kernel_rfl
theorem ok_I_Patch : FnOk Try.prog 139 ct_I_Patch :=
  fnOk (cx := cx_I_Patch) (pl := pl_I_Patch) (dp := 0) (ok0_of tabOk (by unfold ArrOk; kernel_rfl) mix ⟨ok_I_goodLines, ok_I_goodHunks, ok_I_patched, trivial⟩ trivial) Try.func139 (by kernel_rfl) (by kernel_rfl) (by kernel_rfl)
    (by rw [show loopsOf (bodyOf Try.f139) = [] from by kernel_rfl]; exact trivial) (fun x => ef_I_Patch x.1 x.2.1)
noncomputable def o_I_Series_texts_2 : List Out := [⟨.normal, ⟨[], [1, 18]⟩, mkSh 48 [(1, .var Y_impl_Series .b), (18, .val .bool .b)]⟩]
noncomputable def sh_I_Series_texts_5 : List Sh := mkSh 48 [(4, .val S_S_string (.row (.row .b))), (24, .val S_S_impl_Hunk .b), (25, .val (.int .i64) .b), (26, .val (.int .i64) .b)]
noncomputable def o_I_Series_texts_5 : List Out := [⟨.exit 0, ⟨[], [4]⟩, mkSh 48 [(4, .val S_S_string (.row (.row .b)))]⟩, ⟨.ret, ⟨[], [2, 3]⟩, mkSh 48 [(2, .val S_S_string (.row (.row .b))), (3, .val .bool .b)]⟩]
noncomputable def b_I_Series_texts_5 (t4 : PV S_S_string) (t24 : PV S_S_impl_Hunk) (t25 : PV (.int .i64)) (t26 : PV (.int .i64)) : Option ((PV S_S_string × PV S_S_impl_Hunk × PV (.int .i64) × PV (.int .i64) × Unit) ⊕ ((PV S_S_string × Unit) ⊕ (PV S_S_string × PV .bool × Unit))) :=
  bif (decide (t26 < t25)) then
    bif inB t26 t24.length then
      bif inB t26 t4.length then
        (f_I_Patch (t4.getD t26.toNat []) (t24.getD t26.toNat [])).bind fun r11 =>
          bif (!r11.1.2.1) then
            some (.inr (.inr ([], false, ())))
          else
            bif roomB (t4.length + [r11.1.1].length) then
              some (.inl ((t4 ++ [r11.1.1]), t24, t25, (IntKind.wrap .i64 (t26 + 1)), ()))
            else
              none
      else
        none
    else
      none
  else
    some (.inr (.inl (t4, ())))
noncomputable def w_I_Series_texts_5 : PV S_S_string × PV S_S_impl_Hunk × PV (.int .i64) × PV (.int .i64) × Unit → Option ((PV S_S_string × Unit) ⊕ (PV S_S_string × PV .bool × Unit)) := fix fun d => b_I_Series_texts_5 d.1 d.2.1 d.2.2.1 d.2.2.2.1
noncomputable def lp_I_Series_texts_5 : Lp := ⟨⟨[], [4, 24, 25, 26]⟩, sh_I_Series_texts_5, o_I_Series_texts_5, fun d => b_I_Series_texts_5 d.1 d.2.1 d.2.2.1 d.2.2.2.1⟩
noncomputable def pl_I_Series_texts : Plan := ⟨[(2, o_I_Series_texts_2)], [(5, lp_I_Series_texts_5)], 0, 0⟩
noncomputable def f_I_Series_texts (t0 : PV Y_impl_Series) : Option (PVs [S_S_string, .bool] × PVs []) :=
  ((
      (f_I_goodLines t0.1).bind fun r4 =>
        bif (!r4.1.1) then
          some (t0, true, ())
        else
          some (t0, (decide ((t0.2.1.length : Int) ≥ 8)), ()) : Option ((PV Y_impl_Series × PV .bool × Unit)))).bind fun j5 =>
    bif j5.2.1 then
      some (([], false, ()), ())
    else
      (f_slices_Clone_string j5.1.1).bind fun r7 =>
        (w_I_Series_texts_5 ([r7.1.1], j5.1.2.1, (j5.1.2.1.length : Int), 0, ())).bind fun x16 =>
          match x16 with
          | .inl l14 =>
            some ((l14.1, true, ()), ())
          | .inr l15 =>
            some ((l15.1, l15.2.1, ()), ())
noncomputable def ct_I_Series_texts : Ct := ⟨[(.bor, Y_impl_Series)], [(S_S_string, true), (.bool, false)], fun x => f_I_Series_texts x.1⟩
noncomputable def cx_I_Series_texts : Cx := ⟨tab, arrs, [(75, ct_slices_Clone_string), (102, ct_I_goodLines), (139, ct_I_Patch)], []⟩
theorem eb_I_Series_texts_5 (t4 : PV S_S_string) (t24 : PV S_S_impl_Hunk) (t25 : PV (.int .i64)) (t26 : PV (.int .i64)) : denK cx_I_Series_texts (rcN cx_I_Series_texts 0) pl_I_Series_texts 0 ((loopsOf (bodyOf Try.f97)).getD 0 .skip) (fillS sh_I_Series_texts_5 (t4, t24, t25, t26, ())) (roundK 0 lp_I_Series_texts_5) = b_I_Series_texts_5 t4 t24 t25 t26 := by kernel_rfl
theorem ef_I_Series_texts (t0 : PV Y_impl_Series) : denF cx_I_Series_texts 0 pl_I_Series_texts Try.f97.ntmps (bodyOf Try.f97) Try.f97.results.toList [(.bor, Y_impl_Series)] [(S_S_string, true), (.bool, false)] (t0, ()) = f_I_Series_texts t0 := by kernel_rfl
theorem ok_I_Series_texts : FnOk Try.prog 97 ct_I_Series_texts :=
  fnOk (cx := cx_I_Series_texts) (pl := pl_I_Series_texts) (dp := 0) (ok0_of tabOk (by unfold ArrOk; kernel_rfl) mix ⟨ok_slices_Clone_string, ok_I_goodLines, ok_I_Patch, trivial⟩ trivial) Try.func97 (by kernel_rfl) (by kernel_rfl) (by kernel_rfl)
    (by rw [show loopsOf (bodyOf Try.f97) = [((loopsOf (bodyOf Try.f97)).getD 0 .skip)] from by kernel_rfl]; exact ⟨(by rw [show lookup pl_I_Series_texts.loops (firstId ((loopsOf (bodyOf Try.f97)).getD 0 .skip)) = some lp_I_Series_texts_5 from by kernel_rfl]; exact fun d z h => (eb_I_Series_texts_5 d.1 d.2.1 d.2.2.1 d.2.2.2.1).trans h), trivial⟩) (fun x => ef_I_Series_texts x.1)
noncomputable def pl_I_GoodSeries : Plan := ⟨[], [], 0, 0⟩
noncomputable def f_I_GoodSeries (t0 : PV Y_impl_Series) : Option (PVs [.bool] × PVs []) :=
  (f_I_Series_texts t0).bind fun r2 =>
    some ((r2.1.2.1, ()), ())
noncomputable def ct_I_GoodSeries : Ct := ⟨[(.bor, Y_impl_Series)], [(.bool, false)], fun x => f_I_GoodSeries x.1⟩
noncomputable def cx_I_GoodSeries : Cx := ⟨tab, arrs, [(97, ct_I_Series_texts)], []⟩
theorem ef_I_GoodSeries (t0 : PV Y_impl_Series) : denF cx_I_GoodSeries 0 pl_I_GoodSeries Try.f51.ntmps (bodyOf Try.f51) Try.f51.results.toList [(.bor, Y_impl_Series)] [(.bool, false)] (t0, ()) = f_I_GoodSeries t0 := by kernel_rfl
theorem ok_I_GoodSeries : FnOk Try.prog 51 ct_I_GoodSeries :=
  fnOk (cx := cx_I_GoodSeries) (pl := pl_I_GoodSeries) (dp := 0) (ok0_of tabOk (by unfold ArrOk; kernel_rfl) mix ⟨ok_I_Series_texts, trivial⟩ trivial) Try.func51 (by kernel_rfl) (by kernel_rfl) (by kernel_rfl)
    (by rw [show loopsOf (bodyOf Try.f51) = [] from by kernel_rfl]; exact trivial) (fun x => ef_I_GoodSeries x.1)
noncomputable def pl_L_eqHunk : Plan := ⟨[], [], 0, 0⟩
noncomputable def f_L_eqHunk (t0 : PV Y_impl_Hunk) (t1 : PV Y_impl_Hunk) : Option (PVs [.bool] × PVs []) :=
  bif (!(t0.1 == t1.1)) then
    some ((false, ()), ())
  else
    bif (!(t0.2.1 == t1.2.1)) then
      some ((false, ()), ())
    else
      (f_L_eqStringS t0.2.2.1 t1.2.2.1).bind fun r4 =>
        bif (!r4.1.1) then
          some ((false, ()), ())
        else
          some ((true, ()), ())
noncomputable def ct_L_eqHunk : Ct := ⟨[(.bor, Y_impl_Hunk), (.bor, Y_impl_Hunk)], [(.bool, false)], fun x => f_L_eqHunk x.1 x.2.1⟩
noncomputable def cx_L_eqHunk : Cx := ⟨tab, arrs, [(33, ct_L_eqStringS)], []⟩
theorem ef_L_eqHunk (t0 : PV Y_impl_Hunk) (t1 : PV Y_impl_Hunk) : denF cx_L_eqHunk 0 pl_L_eqHunk Try.f165.ntmps (bodyOf Try.f165) Try.f165.results.toList [(.bor, Y_impl_Hunk), (.bor, Y_impl_Hunk)] [(.bool, false)] (t0, t1, ()) = f_L_eqHunk t0 t1 := by kernel_rfl
theorem ok_L_eqHunk : FnOk Try.prog 165 ct_L_eqHunk :=
  fnOk (cx := cx_L_eqHunk) (pl := pl_L_eqHunk) (dp := 0) (ok0_of tabOk (by unfold ArrOk; kernel_rfl) mix ⟨ok_L_eqStringS, trivial⟩ trivial) Try.func165 (by kernel_rfl) (by kernel_rfl) (by kernel_rfl)
    (by rw [show loopsOf (bodyOf Try.f165) = [] from by kernel_rfl]; exact trivial) (fun x => ef_L_eqHunk x.1 x.2.1)
noncomputable def sh_L_eqHunkS_4 : List Sh := mkSh 27 [(0, .val S_impl_Hunk .b), (1, .val S_impl_Hunk .b), (5, .val (.int .i64) .b)]
noncomputable def o_L_eqHunkS_4 : List Out := [⟨.exit 0, ⟨[], []⟩, mkSh 27 []⟩, ⟨.ret, ⟨[], [4]⟩, mkSh 27 [(4, .val .bool .b)]⟩]
noncomputable def b_L_eqHunkS_4 (t0 : PV S_impl_Hunk) (t1 : PV S_impl_Hunk) (t5 : PV (.int .i64)) : Option ((PV S_impl_Hunk × PV S_impl_Hunk × PV (.int .i64) × Unit) ⊕ ((Unit) ⊕ (PV .bool × Unit))) :=
  bif (decide (t5 < (t0.length : Int))) then
    bif inB t5 t0.length then
      bif inB t5 t1.length then
        (f_L_eqHunk (t0.getD t5.toNat (dflt Y_impl_Hunk)) (t1.getD t5.toNat (dflt Y_impl_Hunk))).bind fun r4 =>
          bif (!r4.1.1) then
            some (.inr (.inr (false, ())))
          else
            some (.inl (t0, t1, (IntKind.wrap .i64 (t5 + 1)), ()))
      else
        none
    else
      none
  else
    some (.inr (.inl ()))
noncomputable def w_L_eqHunkS_4 : PV S_impl_Hunk × PV S_impl_Hunk × PV (.int .i64) × Unit → Option ((Unit) ⊕ (PV .bool × Unit)) := fix fun d => b_L_eqHunkS_4 d.1 d.2.1 d.2.2.1
noncomputable def lp_L_eqHunkS_4 : Lp := ⟨⟨[], [0, 1, 5]⟩, sh_L_eqHunkS_4, o_L_eqHunkS_4, fun d => b_L_eqHunkS_4 d.1 d.2.1 d.2.2.1⟩
noncomputable def pl_L_eqHunkS : Plan := ⟨[], [(4, lp_L_eqHunkS_4)], 0, 0⟩
noncomputable def f_L_eqHunkS (t0 : PV S_impl_Hunk) (t1 : PV S_impl_Hunk) : Option (PVs [.bool] × PVs []) :=
  bif (!((t0.length : Int) == (t1.length : Int))) then
    some ((false, ()), ())
  else
    (w_L_eqHunkS_4 (t0, t1, 0, ())).bind fun x9 =>
      match x9 with
      | .inl l7 =>
        some ((true, ()), ())
      | .inr l8 =>
        some ((l8.1, ()), ())
noncomputable def ct_L_eqHunkS : Ct := ⟨[(.bor, S_impl_Hunk), (.bor, S_impl_Hunk)], [(.bool, false)], fun x => f_L_eqHunkS x.1 x.2.1⟩
noncomputable def cx_L_eqHunkS : Cx := ⟨tab, arrs, [(165, ct_L_eqHunk)], []⟩
theorem eb_L_eqHunkS_4 (t0 : PV S_impl_Hunk) (t1 : PV S_impl_Hunk) (t5 : PV (.int .i64)) : denK cx_L_eqHunkS (rcN cx_L_eqHunkS 0) pl_L_eqHunkS 0 ((loopsOf (bodyOf Try.f140)).getD 0 .skip) (fillS sh_L_eqHunkS_4 (t0, t1, t5, ())) (roundK 0 lp_L_eqHunkS_4) = b_L_eqHunkS_4 t0 t1 t5 := by kernel_rfl
theorem ef_L_eqHunkS (t0 : PV S_impl_Hunk) (t1 : PV S_impl_Hunk) : denF cx_L_eqHunkS 0 pl_L_eqHunkS Try.f140.ntmps (bodyOf Try.f140) Try.f140.results.toList [(.bor, S_impl_Hunk), (.bor, S_impl_Hunk)] [(.bool, false)] (t0, t1, ()) = f_L_eqHunkS t0 t1 := by kernel_rfl
theorem ok_L_eqHunkS : FnOk Try.prog 140 ct_L_eqHunkS :=
  fnOk (cx := cx_L_eqHunkS) (pl := pl_L_eqHunkS) (dp := 0) (ok0_of tabOk (by unfold ArrOk; kernel_rfl) mix ⟨ok_L_eqHunk, trivial⟩ trivial) Try.func140 (by kernel_rfl) (by kernel_rfl) (by kernel_rfl)
    (by rw [show loopsOf (bodyOf Try.f140) = [((loopsOf (bodyOf Try.f140)).getD 0 .skip)] from by kernel_rfl]; exact ⟨(by rw [show lookup pl_L_eqHunkS.loops (firstId ((loopsOf (bodyOf Try.f140)).getD 0 .skip)) = some lp_L_eqHunkS_4 from by kernel_rfl]; exact fun d z h => (eb_L_eqHunkS_4 d.1 d.2.1 d.2.2.1).trans h), trivial⟩) (fun x => ef_L_eqHunkS x.1 x.2.1)
noncomputable def sh_L_eqHunkSS_4 : List Sh := mkSh 27 [(0, .val S_S_impl_Hunk .b), (1, .val S_S_impl_Hunk .b), (5, .val (.int .i64) .b)]
noncomputable def o_L_eqHunkSS_4 : List Out := [⟨.exit 0, ⟨[], []⟩, mkSh 27 []⟩, ⟨.ret, ⟨[], [4]⟩, mkSh 27 [(4, .val .bool .b)]⟩]
noncomputable def b_L_eqHunkSS_4 (t0 : PV S_S_impl_Hunk) (t1 : PV S_S_impl_Hunk) (t5 : PV (.int .i64)) : Option ((PV S_S_impl_Hunk × PV S_S_impl_Hunk × PV (.int .i64) × Unit) ⊕ ((Unit) ⊕ (PV .bool × Unit))) :=
  bif (decide (t5 < (t0.length : Int))) then
    bif inB t5 t0.length then
      bif inB t5 t1.length then
        (f_L_eqHunkS (t0.getD t5.toNat []) (t1.getD t5.toNat [])).bind fun r4 =>
          bif (!r4.1.1) then
            some (.inr (.inr (false, ())))
          else
            some (.inl (t0, t1, (IntKind.wrap .i64 (t5 + 1)), ()))
      else
        none
    else
      none
  else
    some (.inr (.inl ()))
noncomputable def w_L_eqHunkSS_4 : PV S_S_impl_Hunk × PV S_S_impl_Hunk × PV (.int .i64) × Unit → Option ((Unit) ⊕ (PV .bool × Unit)) := fix fun d => b_L_eqHunkSS_4 d.1 d.2.1 d.2.2.1
noncomputable def lp_L_eqHunkSS_4 : Lp := ⟨⟨[], [0, 1, 5]⟩, sh_L_eqHunkSS_4, o_L_eqHunkSS_4, fun d => b_L_eqHunkSS_4 d.1 d.2.1 d.2.2.1⟩
noncomputable def pl_L_eqHunkSS : Plan := ⟨[], [(4, lp_L_eqHunkSS_4)], 0, 0⟩
noncomputable def f_L_eqHunkSS (t0 : PV S_S_impl_Hunk) (t1 : PV S_S_impl_Hunk) : Option (PVs [.bool] × PVs []) :=
  bif (!((t0.length : Int) == (t1.length : Int))) then
    some ((false, ()), ())
  else
    (w_L_eqHunkSS_4 (t0, t1, 0, ())).bind fun x9 =>
      match x9 with
      | .inl l7 =>
        some ((true, ()), ())
      | .inr l8 =>
        some ((l8.1, ()), ())
noncomputable def ct_L_eqHunkSS : Ct := ⟨[(.bor, S_S_impl_Hunk), (.bor, S_S_impl_Hunk)], [(.bool, false)], fun x => f_L_eqHunkSS x.1 x.2.1⟩
noncomputable def cx_L_eqHunkSS : Cx := ⟨tab, arrs, [(140, ct_L_eqHunkS)], []⟩
theorem eb_L_eqHunkSS_4 (t0 : PV S_S_impl_Hunk) (t1 : PV S_S_impl_Hunk) (t5 : PV (.int .i64)) : denK cx_L_eqHunkSS (rcN cx_L_eqHunkSS 0) pl_L_eqHunkSS 0 ((loopsOf (bodyOf Try.f98)).getD 0 .skip) (fillS sh_L_eqHunkSS_4 (t0, t1, t5, ())) (roundK 0 lp_L_eqHunkSS_4) = b_L_eqHunkSS_4 t0 t1 t5 := by kernel_rfl
theorem ef_L_eqHunkSS (t0 : PV S_S_impl_Hunk) (t1 : PV S_S_impl_Hunk) : denF cx_L_eqHunkSS 0 pl_L_eqHunkSS Try.f98.ntmps (bodyOf Try.f98) Try.f98.results.toList [(.bor, S_S_impl_Hunk), (.bor, S_S_impl_Hunk)] [(.bool, false)] (t0, t1, ()) = f_L_eqHunkSS t0 t1 := by kernel_rfl
theorem ok_L_eqHunkSS : FnOk Try.prog 98 ct_L_eqHunkSS :=
  fnOk (cx := cx_L_eqHunkSS) (pl := pl_L_eqHunkSS) (dp := 0) (ok0_of tabOk (by unfold ArrOk; kernel_rfl) mix ⟨ok_L_eqHunkS, trivial⟩ trivial) Try.func98 (by kernel_rfl) (by kernel_rfl) (by kernel_rfl)
    (by rw [show loopsOf (bodyOf Try.f98) = [((loopsOf (bodyOf Try.f98)).getD 0 .skip)] from by kernel_rfl]; exact ⟨(by rw [show lookup pl_L_eqHunkSS.loops (firstId ((loopsOf (bodyOf Try.f98)).getD 0 .skip)) = some lp_L_eqHunkSS_4 from by kernel_rfl]; exact fun d z h => (eb_L_eqHunkSS_4 d.1 d.2.1 d.2.2.1).trans h), trivial⟩) (fun x => ef_L_eqHunkSS x.1 x.2.1)
noncomputable def pl_L_eqSeries : Plan := ⟨[], [], 0, 0⟩
noncomputable def f_L_eqSeries (t0 : PV Y_impl_Series) (t1 : PV Y_impl_Series) : Option (PVs [.bool] × PVs []) :=
  (f_L_eqStringS t0.1 t1.1).bind fun r4 =>
    bif (!r4.1.1) then
      some ((false, ()), ())
    else
      (f_L_eqHunkSS t0.2.1 t1.2.1).bind fun r8 =>
        bif (!r8.1.1) then
          some ((false, ()), ())
        else
          some ((true, ()), ())
noncomputable def ct_L_eqSeries : Ct := ⟨[(.bor, Y_impl_Series), (.bor, Y_impl_Series)], [(.bool, false)], fun x => f_L_eqSeries x.1 x.2.1⟩
noncomputable def cx_L_eqSeries : Cx := ⟨tab, arrs, [(33, ct_L_eqStringS), (98, ct_L_eqHunkSS)], []⟩
theorem ef_L_eqSeries (t0 : PV Y_impl_Series) (t1 : PV Y_impl_Series) : denF cx_L_eqSeries 0 pl_L_eqSeries Try.f52.ntmps (bodyOf Try.f52) Try.f52.results.toList [(.bor, Y_impl_Series), (.bor, Y_impl_Series)] [(.bool, false)] (t0, t1, ()) = f_L_eqSeries t0 t1 := by kernel_rfl
theorem ok_L_eqSeries : FnOk Try.prog 52 ct_L_eqSeries :=
  fnOk (cx := cx_L_eqSeries) (pl := pl_L_eqSeries) (dp := 0) (ok0_of tabOk (by unfold ArrOk; kernel_rfl) mix ⟨ok_L_eqStringS, ok_L_eqHunkSS, trivial⟩ trivial) Try.func52 (by kernel_rfl) (by kernel_rfl) (by kernel_rfl)
    (by rw [show loopsOf (bodyOf Try.f52) = [] from by kernel_rfl]; exact trivial) (fun x => ef_L_eqSeries x.1 x.2.1)
noncomputable def pl_L_FnExactGoodSeries : Plan := ⟨[], [], 0, 0⟩
noncomputable def f_L_FnExactGoodSeries (t0 : PV Y_laws_Series) : Option (PVs [.bool] × PVs []) :=
  (f_L_szSeries t0 1048576).bind fun r2 =>
    bif (decide (r2.1.1 < 0)) then
      some ((true, ()), ())
    else
      (f_L_toSeries t0).bind fun r5 =>
        (f_S_GoodSeries r5.1.1).bind fun r6 =>
          (f_L_toSeries t0).bind fun r8 =>
            (f_I_GoodSeries r8.1.1).bind fun r10 =>
              bif (!(r10.1.1 == r6.1.1)) then
                some ((false, ()), ())
              else
                (f_L_toSeries t0).bind fun r17 =>
                  (f_L_eqSeries r8.1.1 r17.1.1).bind fun r18 =>
                    bif (!r18.1.1) then
                      some ((false, ()), ())
                    else
                      some ((true, ()), ())
noncomputable def ct_L_FnExactGoodSeries : Ct := ⟨[(.bor, Y_laws_Series)], [(.bool, false)], fun x => f_L_FnExactGoodSeries x.1⟩
noncomputable def cx_L_FnExactGoodSeries : Cx := ⟨tab, arrs, [(48, ct_L_szSeries), (49, ct_S_GoodSeries), (50, ct_L_toSeries), (51, ct_I_GoodSeries), (52, ct_L_eqSeries)], []⟩
theorem ef_L_FnExactGoodSeries (t0 : PV Y_laws_Series) : denF cx_L_FnExactGoodSeries 0 pl_L_FnExactGoodSeries Try.f9.ntmps (bodyOf Try.f9) Try.f9.results.toList [(.bor, Y_laws_Series)] [(.bool, false)] (t0, ()) = f_L_FnExactGoodSeries t0 := by kernel_rfl
theorem ok_L_FnExactGoodSeries : FnOk Try.prog 9 ct_L_FnExactGoodSeries :=
  fnOk (cx := cx_L_FnExactGoodSeries) (pl := pl_L_FnExactGoodSeries) (dp := 0) (ok0_of tabOk (by unfold ArrOk; kernel_rfl) mix ⟨ok_L_szSeries, ok_S_GoodSeries, ok_L_toSeries, ok_I_GoodSeries, ok_L_eqSeries, trivial⟩ trivial) Try.func9 (by kernel_rfl) (by kernel_rfl) (by kernel_rfl)
    (by rw [show loopsOf (bodyOf Try.f9) = [] from by kernel_rfl]; exact trivial) (fun x => ef_L_FnExactGoodSeries x.1)
noncomputable def sh_S_SizeOf_8 : List Sh := mkSh 36 [(4, .val (.int .i64) .b), (16, .val S_S_impl_Hunk .b), (17, .val (.int .i64) .b), (18, .val (.int .i64) .b), (22, .val S_impl_Hunk .b), (23, .val (.int .i64) .b), (24, .val (.int .i64) .b)]
noncomputable def o_S_SizeOf_8 : List Out := [⟨.exit 2, ⟨[], [4, 16, 17, 18]⟩, mkSh 36 [(4, .val (.int .i64) .b), (16, .val S_S_impl_Hunk .b), (17, .val (.int .i64) .b), (18, .val (.int .i64) .b)]⟩]
noncomputable def b_S_SizeOf_8 (t4 : PV (.int .i64)) (t16 : PV S_S_impl_Hunk) (t17 : PV (.int .i64)) (t18 : PV (.int .i64)) (t22 : PV S_impl_Hunk) (t23 : PV (.int .i64)) (t24 : PV (.int .i64)) : Option ((PV (.int .i64) × PV S_S_impl_Hunk × PV (.int .i64) × PV (.int .i64) × PV S_impl_Hunk × PV (.int .i64) × PV (.int .i64) × Unit) ⊕ ((PV (.int .i64) × PV S_S_impl_Hunk × PV (.int .i64) × PV (.int .i64) × Unit))) :=
  bif (decide (t24 < t23)) then
    bif inB t24 t22.length then
      some (.inl ((IntKind.wrap .i64 (t4 + (((((t22.getD t24.toNat (dflt Y_impl_Hunk)).2).2).1).length : Int))), t16, t17, t18, t22, t23, (IntKind.wrap .i64 (t24 + 1)), ()))
    else
      none
  else
    some (.inr (t4, t16, t17, t18, ()))
noncomputable def w_S_SizeOf_8 : PV (.int .i64) × PV S_S_impl_Hunk × PV (.int .i64) × PV (.int .i64) × PV S_impl_Hunk × PV (.int .i64) × PV (.int .i64) × Unit → Option ((PV (.int .i64) × PV S_S_impl_Hunk × PV (.int .i64) × PV (.int .i64) × Unit)) := fix fun d => b_S_SizeOf_8 d.1 d.2.1 d.2.2.1 d.2.2.2.1 d.2.2.2.2.1 d.2.2.2.2.2.1 d.2.2.2.2.2.2.1
noncomputable def lp_S_SizeOf_8 : Lp := ⟨⟨[], [4, 16, 17, 18, 22, 23, 24]⟩, sh_S_SizeOf_8, o_S_SizeOf_8, fun d => b_S_SizeOf_8 d.1 d.2.1 d.2.2.1 d.2.2.2.1 d.2.2.2.2.1 d.2.2.2.2.2.1 d.2.2.2.2.2.2.1⟩
noncomputable def sh_S_SizeOf_5 : List Sh := mkSh 36 [(4, .val (.int .i64) .b), (16, .val S_S_impl_Hunk .b), (17, .val (.int .i64) .b), (18, .val (.int .i64) .b)]
noncomputable def o_S_SizeOf_5 : List Out := [⟨.exit 0, ⟨[], [4]⟩, mkSh 36 [(4, .val (.int .i64) .b)]⟩]
noncomputable def b_S_SizeOf_5 (t4 : PV (.int .i64)) (t16 : PV S_S_impl_Hunk) (t17 : PV (.int .i64)) (t18 : PV (.int .i64)) : Option ((PV (.int .i64) × PV S_S_impl_Hunk × PV (.int .i64) × PV (.int .i64) × Unit) ⊕ ((PV (.int .i64) × Unit))) :=
  bif (decide (t18 < t17)) then
    bif inB t18 t16.length then
      (w_S_SizeOf_8 (t4, t16, t17, t18, (t16.getD t18.toNat []), ((t16.getD t18.toNat []).length : Int), 0, ())).bind fun l6 =>
        some (.inl (l6.1, l6.2.1, l6.2.2.1, (IntKind.wrap .i64 (l6.2.2.2.1 + 1)), ()))
    else
      none
  else
    some (.inr (t4, ()))
noncomputable def w_S_SizeOf_5 : PV (.int .i64) × PV S_S_impl_Hunk × PV (.int .i64) × PV (.int .i64) × Unit → Option ((PV (.int .i64) × Unit)) := fix fun d => b_S_SizeOf_5 d.1 d.2.1 d.2.2.1 d.2.2.2.1
noncomputable def lp_S_SizeOf_5 : Lp := ⟨⟨[], [4, 16, 17, 18]⟩, sh_S_SizeOf_5, o_S_SizeOf_5, fun d => b_S_SizeOf_5 d.1 d.2.1 d.2.2.1 d.2.2.2.1⟩
noncomputable def pl_S_SizeOf : Plan := ⟨[], [(8, lp_S_SizeOf_8), (5, lp_S_SizeOf_5)], 0, 0⟩
noncomputable def f_S_SizeOf (t0 : PV Y_impl_Series) : Option (PVs [(.int .i64), .bool] × PVs []) :=
  (f_S_l13Good t0).bind fun r4 =>
    bif (!r4.1.1) then
      some ((0, false, ()), ())
    else
      (w_S_SizeOf_5 ((t0.1.length : Int), t0.2.1, (t0.2.1.length : Int), 0, ())).bind fun l8 =>
        some ((l8.1, true, ()), ())
noncomputable def ct_S_SizeOf : Ct := ⟨[(.bor, Y_impl_Series)], [((.int .i64), false), (.bool, false)], fun x => f_S_SizeOf x.1⟩
noncomputable def cx_S_SizeOf : Cx := ⟨tab, arrs, [(95, ct_S_l13Good)], []⟩
theorem eb_S_SizeOf_5 (t4 : PV (.int .i64)) (t16 : PV S_S_impl_Hunk) (t17 : PV (.int .i64)) (t18 : PV (.int .i64)) : denK cx_S_SizeOf (rcN cx_S_SizeOf 0) pl_S_SizeOf 0 ((loopsOf (bodyOf Try.f57)).getD 0 .skip) (fillS sh_S_SizeOf_5 (t4, t16, t17, t18, ())) (roundK 0 lp_S_SizeOf_5) = b_S_SizeOf_5 t4 t16 t17 t18 := by kernel_rfl
theorem eb_S_SizeOf_8 (t4 : PV (.int .i64)) (t16 : PV S_S_impl_Hunk) (t17 : PV (.int .i64)) (t18 : PV (.int .i64)) (t22 : PV S_impl_Hunk) (t23 : PV (.int .i64)) (t24 : PV (.int .i64)) : denK cx_S_SizeOf (rcN cx_S_SizeOf 0) pl_S_SizeOf 0 ((loopsOf (bodyOf Try.f57)).getD 1 .skip) (fillS sh_S_SizeOf_8 (t4, t16, t17, t18, t22, t23, t24, ())) (roundK 0 lp_S_SizeOf_8) = b_S_SizeOf_8 t4 t16 t17 t18 t22 t23 t24 := by kernel_rfl
theorem ef_S_SizeOf (t0 : PV Y_impl_Series) : denF cx_S_SizeOf 0 pl_S_SizeOf Try.f57.ntmps (bodyOf Try.f57) Try.f57.results.toList [(.bor, Y_impl_Series)] [((.int .i64), false), (.bool, false)] (t0, ()) = f_S_SizeOf t0 := by kernel_rfl
theorem ok_S_SizeOf : FnOk Try.prog 57 ct_S_SizeOf :=
  fnOk (cx := cx_S_SizeOf) (pl := pl_S_SizeOf) (dp := 0) (ok0_of tabOk (by unfold ArrOk; kernel_rfl) mix ⟨ok_S_l13Good, trivial⟩ trivial) Try.func57 (by kernel_rfl) (by kernel_rfl) (by kernel_rfl)
    (by rw [show loopsOf (bodyOf Try.f57) = [((loopsOf (bodyOf Try.f57)).getD 0 .skip), ((loopsOf (bodyOf Try.f57)).getD 1 .skip)] from by kernel_rfl]; exact ⟨(by rw [show lookup pl_S_SizeOf.loops (firstId ((loopsOf (bodyOf Try.f57)).getD 0 .skip)) = some lp_S_SizeOf_5 from by kernel_rfl]; exact fun d z h => (eb_S_SizeOf_5 d.1 d.2.1 d.2.2.1 d.2.2.2.1).trans h), (by rw [show lookup pl_S_SizeOf.loops (firstId ((loopsOf (bodyOf Try.f57)).getD 1 .skip)) = some lp_S_SizeOf_8 from by kernel_rfl]; exact fun d z h => (eb_S_SizeOf_8 d.1 d.2.1 d.2.2.1 d.2.2.2.1 d.2.2.2.2.1 d.2.2.2.2.2.1 d.2.2.2.2.2.2.1).trans h), trivial⟩) (fun x => ef_S_SizeOf x.1)
end R
