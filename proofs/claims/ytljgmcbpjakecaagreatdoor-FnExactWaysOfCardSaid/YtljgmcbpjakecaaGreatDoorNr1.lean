/- The program tells all ways of which a text is a patch just as the reference does, for all texts. -/
import Derived.Test.YtljgmcbpjakecaaGreatDoorQNr32
import Derived.Test.YtljgmcbpjakecaaGreatDoorRows
import Derived.Test.YtljgmcbpjakecaaGreatDoorCards
import Derived.Test.YtljgmcbpjakecaaGreatDoorTie
import Derived.Test.YtljgmcbpjakecaaGreatDoorL3
import Derived.Lay
import Derived.SevenTiedAt
set_option linter.unusedVariables false
namespace Go.Proofs.YtljgmcbpjakecaaGreatDoor
open Go Go.ChangeShapes Go.WideShapes Go.ChangeAt Go.RowKit Go.Dn R
def zl3:List (String×DataW Unit):=[("math/bits.deBruijn32tab",Rows.laid_math_bits_deBruijn32tab),("math/bits.deBruijn64tab",Rows.laid_math_bits_deBruijn64tab),("internal/strconv.uint64pow10",Rows.laid_internal_strconv_uint64pow10),("unicode/utf8.acceptRanges",Rows.laid_unicode_utf8_acceptRanges),("strconv.ErrRange",Rows.laid_strconv_ErrRange),("strconv.ErrSyntax",Rows.laid_strconv_ErrSyntax),("loop.example/g00825/impl.orderSigns",Rows.laid_loop_example_g00825_impl_orderSigns),("unicode/utf8.first",Rows.laid_unicode_utf8_first)]
theorem door_met (os:Os)(args:Array Value):laidMetH Tryz.prog zl3 ((World.laidAll Tryz.prog os zl3).forCall (λ_ _=>0) ⟨#[],args,[]⟩).memory:=by
 rw[MakeChecks.laidMetH_plain _ _ _ (by kernel_rfl)];exact laidMet_laidAll _ (by kernel_rfl) (by kernel_rfl)
theorem jdb (W:World)(h:laidMetH Tryz.prog zl3 W)(hs:W.ShapedOpen Tryz.prog):gl.ok W/\∀b,gl.dom b->b<W.heap.size:=by
 rw[MakeChecks.laidMetH_plain _ _ _ (by kernel_rfl)] at h;have hg0:Tryz.prog.globalNamed "internal/strconv.uint64pow10"=some 2:=by kernel_rfl
 have a0:(zn7 Tryz.prog 2).ok W:=⟨hg0,q8y (t:=259) (e:=74) (n:=20) (k:=.u64) (zs:=Lib.pow10Tab) h (List.mem_of_getElem? (i:=2) (by kernel_rfl)) hg0 (by kernel_rfl) Tryz.underlying259 Tryz.underlying74 (by kernel_rfl) (by kernel_rfl)⟩;have b0:=qyj (P:=Tryz.prog) a0;have a1:(zsu 1).ok W:=cell_of_shapedOpen_int (g:=1) (t:=3) (zero:=#[.int .i64 0]) (k:=.i64) hs (of_decide_eq_true (by kernel_rfl)) (by kernel_rfl) (by kernel_rfl) (by kernel_rfl) (by kernel_rfl) Tryz.underlying3;have b1:=qyl a1;have hg2:Tryz.prog.globalNamed "strconv.ErrSyntax"=some 3:=by kernel_rfl
 have a2:(zi5 Tryz.prog "strconv.ErrSyntax" 3).ok W:=qdt (nm:= "*errors.errorString") (D:=.ptr (.agg [.lit (.string [105,110,118,97,108,105,100,32,115,121,110,116,97,120])])) (t:=225) h (List.mem_of_getElem? (i:=5) (by kernel_rfl)) hg2 (by kernel_rfl) Tryz.underlying225;have b2:=z7v a2;have hg3:Tryz.prog.globalNamed "strconv.ErrRange"=some 4:=by kernel_rfl
 have a3:(zi5 Tryz.prog "strconv.ErrRange" 4).ok W:=qdt (nm:= "*errors.errorString") (D:=.ptr (.agg [.lit (.string [118,97,108,117,101,32,111,117,116,32,111,102,32,114,97,110,103,101])])) (t:=225) h (List.mem_of_getElem? (i:=4) (by kernel_rfl)) hg3 (by kernel_rfl) Tryz.underlying225;have b3:=z7v a3;have hg4:Tryz.prog.globalNamed "loop.example/g00825/impl.orderSigns"=some 0:=by kernel_rfl
 have a4:(zn8 0 gs0).ok W:=q6l (t:=220) (e:=9) (n:=6) h (List.mem_of_getElem? (i:=6) (by kernel_rfl)) (by decide) hg4 (by kernel_rfl) Tryz.underlying220 Tryz.underlying9 (by kernel_rfl) (by kernel_rfl);have b4:=qym a4;exact⟨⟨a0,⟨a1,⟨a2,⟨a3,a4⟩⟩⟩⟩,λx=>λhx=>hx.elim (b0 x) (λhx=>hx.elim (b1 x) (λhx=>hx.elim (b2 x) (λhx=>hx.elim (b3 x) (b4 x))))⟩
set_option maxRecDepth 100000 in
theorem qi2 (os:Os)(started:os.Started)(H:Type)(enc:TypeId×Value->H):
 ReturnsInHanded {} Tryz.checked os 5 .any (λw args=>(Rows.fnExactWaysOfSpec.pre enc Tryz.prog Tryz.f5 [] false w args/\laidMetH Tryz.prog zl3 w)/\sizedMet enc Tryz.prog Tryz.f5 (OpenSpec.ofChange Rows.fnExactWaysOfSpec) false w args)
  (Rows.fnExactWaysOfSpec.post enc Tryz.prog Tryz.f5 false true false false):=
 qu9 (C:=Tryz.checked) (tab:=tab) (tb:=4) (by kernel_rfl) started (by kernel_rfl) Tryz.func5
  (ChangeSpec.witness_shaped (enc:=enc) (C:=Tryz.checked) (os:=os) (X:=λw _=>laidMetH Tryz.prog zl3 w) false (World.laidAll Tryz.prog os zl3) #[.string ⟨#[]⟩] 8 (World.laidAll_os _ _ _) (World.shaped_of_ZipB (by kernel_rfl) (by kernel_rfl)) (by kernel_rfl) (by kernel_rfl) (by kernel_rfl) (door_met os _))
  (by kernel_rfl) (by kernel_rfl) (by kernel_rfl) (by kernel_rfl) (by kernel_rfl) (nv:=1) rfl (by kernel_rfl) Tryz.underlying4
  (λds gs h hg=>by
    match ds,gs,h,hg with
    |[d0],[g0],_,_=>exact⟨rfl,rfl,rfl⟩)
  zo4 qjz (by kernel_rfl) (λx h=>⟨(),q3x x.1 h.1⟩) jdb
end Go.Proofs.YtljgmcbpjakecaaGreatDoor
