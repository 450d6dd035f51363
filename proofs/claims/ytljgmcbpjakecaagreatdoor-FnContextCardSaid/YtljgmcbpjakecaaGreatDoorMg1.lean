/- Groups are read back from their text side by side, and nothing else is, for drawn groups and texts. -/
import Derived.Test.YtljgmcbpjakecaaGreatDoorQMg32
import Derived.Test.YtljgmcbpjakecaaGreatDoorRows
import Derived.Test.YtljgmcbpjakecaaGreatDoorCards
import Derived.Test.YtljgmcbpjakecaaGreatDoorTie
import Derived.Test.YtljgmcbpjakecaaGreatDoorL3
import Derived.Lay
import Derived.SevenTiedAt
namespace Go.Proofs.YtljgmcbpjakecaaGreatDoor
open Go Go.ChangeShapes Go.WideShapes Go.ChangeAt Go.RowKit Go.Dn R
set_option linter.unusedVariables false
def laidL:List (String×DataW Unit):=[("math/bits.deBruijn32tab",Rows.laid_math_bits_deBruijn32tab),("math/bits.deBruijn64tab",Rows.laid_math_bits_deBruijn64tab),("internal/strconv.uint64pow10",Rows.laid_internal_strconv_uint64pow10),("unicode/utf8.acceptRanges",Rows.laid_unicode_utf8_acceptRanges),("strconv.ErrRange",Rows.laid_strconv_ErrRange),("strconv.ErrSyntax",Rows.laid_strconv_ErrSyntax),("unicode/utf8.first",Rows.laid_unicode_utf8_first)]
theorem door_met (os:Os)(args:Array Value):laidMetH Tryz.prog laidL ((World.laidAll Tryz.prog os laidL).forCall (fun _ _=>0) ⟨#[],args,[]⟩).memory:=by
 rw[MakeChecks.laidMetH_plain _ _ _ (by kernel_rfl)];exact laidMet_laidAll _ (by kernel_rfl) (by kernel_rfl)
theorem gl_of (W:World)(h:laidMetH Tryz.prog laidL W)(hs:W.ShapedOpen Tryz.prog):gl.ok W∧∀b,gl.dom b→b<W.heap.size:=by
 rw[MakeChecks.laidMetH_plain _ _ _ (by kernel_rfl)] at h
 have hg0:Tryz.prog.globalNamed "internal/strconv.uint64pow10"=some 2:=by kernel_rfl
 have a0:(tabGlob Tryz.prog 2).ok W:=⟨hg0,laid_tab (t:=259) (e:=74) (n:=20) (k:=.u64) (zs:=Lib.pow10Tab) h (List.mem_of_getElem? (i:=2) (by kernel_rfl)) hg0 (by kernel_rfl) Tryz.underlying259 Tryz.underlying74 (by kernel_rfl) (by kernel_rfl)⟩
 have b0:=tabGlob_dom (P:=Tryz.prog) a0
 have a1:(numGlob 1).ok W:=cell_of_shapedOpen_int (g:=1) (t:=3) (zero:=#[.int .i64 0]) (k:=.i64) hs (of_decide_eq_true (by kernel_rfl)) (by kernel_rfl) (by kernel_rfl) (by kernel_rfl) (by kernel_rfl) Tryz.underlying3
 have b1:=numGlob_dom a1
 have hg2:Tryz.prog.globalNamed "strconv.ErrSyntax"=some 3:=by kernel_rfl
 have a2:(errGlob Tryz.prog "strconv.ErrSyntax" 3).ok W:=laid_err (nm:= "*errors.errorString") (D:=.ptr (.agg [.lit (.string [105,110,118,97,108,105,100,32,115,121,110,116,97,120])])) (t:=225) h (List.mem_of_getElem? (i:=5) (by kernel_rfl)) hg2 (by kernel_rfl) Tryz.underlying225
 have b2:=errGlob_dom a2
 have hg3:Tryz.prog.globalNamed "strconv.ErrRange"=some 4:=by kernel_rfl
 have a3:(errGlob Tryz.prog "strconv.ErrRange" 4).ok W:=laid_err (nm:= "*errors.errorString") (D:=.ptr (.agg [.lit (.string [118,97,108,117,101,32,111,117,116,32,111,102,32,114,97,110,103,101])])) (t:=225) h (List.mem_of_getElem? (i:=4) (by kernel_rfl)) hg3 (by kernel_rfl) Tryz.underlying225
 have b3:=errGlob_dom a3
 exact⟨⟨a0,⟨a1,⟨a2,a3⟩⟩⟩,fun x=>fun hx=>hx.elim (b0 x) (fun hx=>hx.elim (b1 x) (fun hx=>hx.elim (b2 x) (b3 x)))⟩
set_option maxRecDepth 100000 in
theorem fnContext_lifted (os:Os)(started:os.Started)(H:Type)(enc:TypeId×Value→H):
 ReturnsInHanded {} Tryz.checked os 9 .any (fun w args=>(Rows.fnContextSpec.pre enc Tryz.prog Tryz.f9 [] false w args∧laidMetH Tryz.prog laidL w)∧sizedMet enc Tryz.prog Tryz.f9 (OpenSpec.ofChange Rows.fnContextSpec) false w args)
  (Rows.fnContextSpec.post enc Tryz.prog Tryz.f9 false true false false):=
 law_row_vars (C:=Tryz.checked) (tab:=tab) (tb:=4) (by kernel_rfl) started (by kernel_rfl) Tryz.func9
  (ChangeSpec.witness_shaped (enc:=enc) (C:=Tryz.checked) (os:=os) (X:=fun w _=>laidMetH Tryz.prog laidL w) false (World.laidAll Tryz.prog os laidL) #[.slice none 0 0,.slice none 0 0] 8 (World.laidAll_os _ _ _) (World.shaped_of_ZipB (by kernel_rfl) (by kernel_rfl)) (by kernel_rfl) (by kernel_rfl) (by kernel_rfl) (door_met os _))
  (by kernel_rfl) (by kernel_rfl) (by kernel_rfl) (by kernel_rfl) (by kernel_rfl) (nv:=0) rfl (by kernel_rfl) Tryz.underlying4
  (fun ds gs h hg=>by
    match ds,gs,h,hg with
    |[d0,d1],[],_,_=>exact⟨rfl,rfl,rfl⟩)
  tabOk ok_L_FnContext (by kernel_rfl) (fun x h=>⟨(),law_Context x.1 x.2.1 h.1 h.2.1⟩) gl_of
end Go.Proofs.YtljgmcbpjakecaaGreatDoor
