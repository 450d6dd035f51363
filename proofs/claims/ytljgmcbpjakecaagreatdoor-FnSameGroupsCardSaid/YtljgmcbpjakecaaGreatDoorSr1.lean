/- The same groups: written two ways, read back the same. -/
import Derived.Test.YtljgmcbpjakecaaGreatDoorQSr32
import Derived.Test.YtljgmcbpjakecaaGreatDoorRows
import Derived.Test.YtljgmcbpjakecaaGreatDoorCards
import Derived.Test.YtljgmcbpjakecaaGreatDoorTie
import Derived.Test.YtljgmcbpjakecaaGreatDoorL3
import Derived.Lay
import Derived.SevenTiedAt
set_option linter.unusedVariables false
namespace Go.Proofs.YtljgmcbpjakecaaGreatDoor
open Go Go.ChangeShapes Go.WideShapes Go.ChangeAt Go.RowKit Go.Dn R
def zk9:List (String×DataW Unit):=[("math/bits.deBruijn32tab",Rows.laid_math_bits_deBruijn32tab),("math/bits.deBruijn64tab",Rows.laid_math_bits_deBruijn64tab),("internal/strconv.uint64pow10",Rows.laid_internal_strconv_uint64pow10),("unicode/utf8.acceptRanges",Rows.laid_unicode_utf8_acceptRanges),("strconv.ErrRange",Rows.laid_strconv_ErrRange),("strconv.ErrSyntax",Rows.laid_strconv_ErrSyntax),("unicode/utf8.first",Rows.laid_unicode_utf8_first)]
theorem door_met (os:Os)(args:Array Value):laidMetH Tryz.prog zk9 ((World.laidAll Tryz.prog os zk9).forCall (λ_ _=>0) ⟨#[],args,[]⟩).memory:=by
 rw[MakeChecks.laidMetH_plain _ _ _ (by kernel_rfl)];exact laidMet_laidAll _ (by kernel_rfl) (by kernel_rfl)
theorem ja1 (W:World)(h:laidMetH Tryz.prog zk9 W)(hs:W.ShapedOpen Tryz.prog):gl.ok W/\∀b,gl.dom b->b<W.heap.size:=by
 rw[MakeChecks.laidMetH_plain _ _ _ (by kernel_rfl)] at h;have hg0:Tryz.prog.globalNamed "internal/strconv.uint64pow10"=some 2:=by kernel_rfl
 have a0:(znb Tryz.prog 2).ok W:=⟨hg0,q5r (t:=259) (e:=74) (n:=20) (k:=.u64) (zs:=Lib.pow10Tab) h (List.mem_of_getElem? (i:=2) (by kernel_rfl)) hg0 (by kernel_rfl) Tryz.underlying259 Tryz.underlying74 (by kernel_rfl) (by kernel_rfl)⟩;have b0:=qxb (P:=Tryz.prog) a0;have a1:(zq0 1).ok W:=cell_of_shapedOpen_int (g:=1) (t:=3) (zero:=#[.int .i64 0]) (k:=.i64) hs (of_decide_eq_true (by kernel_rfl)) (by kernel_rfl) (by kernel_rfl) (by kernel_rfl) (by kernel_rfl) Tryz.underlying3;have b1:=qxd a1;have hg2:Tryz.prog.globalNamed "strconv.ErrSyntax"=some 3:=by kernel_rfl
 have a2:(zin Tryz.prog "strconv.ErrSyntax" 3).ok W:=qci (nm:= "*errors.errorString") (D:=.ptr (.agg [.lit (.string [105,110,118,97,108,105,100,32,115,121,110,116,97,120])])) (t:=225) h (List.mem_of_getElem? (i:=5) (by kernel_rfl)) hg2 (by kernel_rfl) Tryz.underlying225;have b2:=z6c a2;have hg3:Tryz.prog.globalNamed "strconv.ErrRange"=some 4:=by kernel_rfl
 have a3:(zin Tryz.prog "strconv.ErrRange" 4).ok W:=qci (nm:= "*errors.errorString") (D:=.ptr (.agg [.lit (.string [118,97,108,117,101,32,111,117,116,32,111,102,32,114,97,110,103,101])])) (t:=225) h (List.mem_of_getElem? (i:=4) (by kernel_rfl)) hg3 (by kernel_rfl) Tryz.underlying225;have b3:=z6c a3;exact⟨⟨a0,⟨a1,⟨a2,a3⟩⟩⟩,λx=>λhx=>hx.elim (b0 x) (λhx=>hx.elim (b1 x) (λhx=>hx.elim (b2 x) (b3 x)))⟩
set_option maxRecDepth 100000 in
theorem qit (os:Os)(started:os.Started)(H:Type)(enc:TypeId×Value->H):
 ReturnsInHanded {} Tryz.checked os 3 .any (λw args=>(Rows.fnSameGroupsSpec.pre enc Tryz.prog Tryz.f3 [] false w args/\laidMetH Tryz.prog zk9 w)/\sizedMet enc Tryz.prog Tryz.f3 (OpenSpec.ofChange Rows.fnSameGroupsSpec) false w args)
  (Rows.fnSameGroupsSpec.post enc Tryz.prog Tryz.f3 false true false false):=
 qtr (C:=Tryz.checked) (tab:=tab) (tb:=4) (by kernel_rfl) started (by kernel_rfl) Tryz.func3
  (ChangeSpec.witness_shaped (enc:=enc) (C:=Tryz.checked) (os:=os) (X:=λw _=>laidMetH Tryz.prog zk9 w) false (World.laidAll Tryz.prog os zk9) #[.slice none 0 0,.slice none 0 0] 8 (World.laidAll_os _ _ _) (World.shaped_of_ZipB (by kernel_rfl) (by kernel_rfl)) (by kernel_rfl) (by kernel_rfl) (by kernel_rfl) (door_met os _))
  (by kernel_rfl) (by kernel_rfl) (by kernel_rfl) (by kernel_rfl) (by kernel_rfl) (nv:=0) rfl (by kernel_rfl) Tryz.underlying4
  (λds gs h hg=>by
    match ds,gs,h,hg with
    |[d0,d1],[],_,_=>exact⟨rfl,rfl,rfl⟩)
  zrr qjt (by kernel_rfl) (λx h=>⟨(),qqj x.1 x.2.1 h.1 h.2.1⟩) ja1
end Go.Proofs.YtljgmcbpjakecaaGreatDoor
