/- The functions that L_FnOrders reach, as pure functions, and that the program computes them. -/
import Derived.Test.YtgcdpcjeamjgfaaGreatDoorL3
import Derived.Test.YtgcdpcjeamjgfaaGreatDoorL2
import Derived.Test.YtgcdpcjeamjgfaaGreatDoorChecked
import Derived.KernelRfl
open Go Go.Dn Go.Proofs
namespace R
set_option linter.unusedVariables false
@[reducible] def S_string:Ty:=(.slice 9 .str)
@[reducible] def S_uint8:Ty:=(.slice 5 (.int .u8))
@[reducible] def Y_impl_Hunk:Ty:=(.pair (.int .i64) (.pair (.int .i64) (.pair S_string .unit)))
@[reducible] def Y_spec_l1Cur:Ty:=(.pair S_uint8 (.pair (.int .i64) (.pair (.int .u64) .unit)))
@[reducible] def S_impl_Hunk:Ty:=(.slice 107 Y_impl_Hunk)
@[reducible] def Y_impl_Order:Ty:=(.pair (.int .i64) Y_impl_Hunk)
@[reducible] def Y__6_string:Ty:=(.pair .str (.pair .str (.pair .str (.pair .str (.pair .str (.pair .str .unit))))))
@[reducible] def S_impl_Order:Ty:=(.slice 38 Y_impl_Order)
noncomputable def tab:List (TypeId×Ty):=[(3,(.int .i64)),(4,.bool),(5,(.int .u8)),(9,.str),(22,S_impl_Order),(28,S_uint8),(35,S_string),(38,Y_impl_Order),(48,Y__6_string),(53,(.int .u64)),(55,Y_spec_l1Cur),(83,S_impl_Hunk),(107,Y_impl_Hunk)]
noncomputable def arrs:List TypeId:=[48]
theorem tabOk:TabOk Tryz.prog tab:=by unfold TabOk;kernel_rfl
theorem mix:Tryz.prog.follows .mixedOrders=true:=by kernel_rfl
def gs0:List (List UInt8):=[[],[97],[105],[99],[100],[115,47,46,47,47]]
noncomputable def gl:Glob:=(Glob.both (tabGlob Tryz.prog 2) (Glob.both (numGlob 1) (Glob.both (errGlob Tryz.prog "strconv.ErrSyntax" 3) (Glob.both (errGlob Tryz.prog "strconv.ErrRange" 4) (strGlob 0 gs0)))))
theorem gl_tab:∀w,gl.ok w→Lib.TabIs Tryz.prog w "internal/strconv.uint64pow10" .u64 Lib.pow10Tab:=fun w h=>tabGlob_tab w h.1
theorem gl_max:∀w,gl.ok w→∃m,w.cell? ⟨1,0,none⟩=some (.int .i64 m):=fun w h=>h.2.1
theorem gl_syn:∀w,gl.ok w→∃tp p,w.var? Tryz.prog "strconv.ErrSyntax"=some #[.iface tp p]:=fun w h=>h.2.2.1.2
theorem gl_rng:∀w,gl.ok w→∃tp p,w.var? Tryz.prog "strconv.ErrRange"=some #[.iface tp p]:=fun w h=>h.2.2.2.1.2
open Go.Shelf
set_option maxRecDepth 20000
def lays_strings_Join_ren:Go.Shelf.Ren:=⟨fun|0=>0|1=>1|2=>2|100=>105|102=>68|109=>46|119=>95|129=>135|137=>94|138=>101|143=>102|144=>104|145=>73|152=>69|153=>45|156=>31|165=>56|166=>57|169=>58|171=>55|172=>99|195=>116|197=>117|205=>143|207=>111|209=>93|217=>112|218=>118|219=>113|220=>98|221=>75|224=>96|225=>97|226=>70|227=>71|228=>72|240=>83|241=>84|243=>82|244=>114|245=>115|246=>106|247=>128|260=>133|266=>126|267=>127|268=>100|276=>107|277=>108|279=>129|280=>130|281=>131|282=>132|283=>119|284=>120|285=>121|286=>122|287=>141|314=>140|316=>142|317=>134|318=>136|319=>137|320=>138|321=>146|322=>147|337=>144|338=>145|347=>148|348=>149|349=>150|350=>151|351=>152|352=>153|353=>154|354=>155|355=>156|356=>157|357=>158|358=>159|359=>160|360=>161|361=>162|362=>164|363=>167|364=>165|365=>166|366=>168|367=>180|n=>n,fun|0=>0|1=>1|2=>2|3=>3|4=>4|5=>5|6=>6|7=>7|8=>8|9=>9|10=>10|11=>11|12=>12|13=>13|14=>14|15=>15|16=>16|17=>17|18=>18|19=>19|20=>20|21=>21|22=>115|23=>59|24=>31|27=>65|31=>35|32=>66|37=>28|38=>29|40=>111|41=>94|43=>105|46=>108|47=>142|51=>140|52=>155|53=>53|54=>127|55=>110|59=>95|60=>96|61=>70|64=>89|67=>49|68=>36|69=>41|70=>73|71=>74|72=>75|73=>76|74=>77|75=>78|76=>79|77=>80|80=>81|81=>86|83=>71|84=>116|85=>133|86=>134|101=>51|102=>69|103=>122|104=>27|105=>124|106=>125|108=>150|111=>85|113=>99|114=>58|115=>90|116=>91|117=>92|118=>93|119=>151|124=>112|127=>102|128=>123|131=>97|137=>152|138=>153|139=>154|143=>157|144=>158|145=>159|146=>144|150=>113|151=>145|164=>117|165=>118|166=>119|167=>132|168=>135|169=>136|170=>137|171=>126|172=>128|173=>129|174=>130|175=>146|176=>147|209=>148|210=>149|211=>138|212=>139|213=>141|214=>156|232=>160|233=>161|238=>162|239=>163|240=>164|241=>165|242=>166|243=>167|244=>168|245=>169|246=>170|247=>171|248=>172|249=>173|n=>n,fun|1=>1|3=>5|4=>6|15=>3|16=>4|17=>2|18=>7|19=>8|n=>n⟩
theorem lays_strings_Join:Go.Proofs.Lays.n156 Tryz.prog lays_strings_Join_ren where
 mixed:=by kernel_rfl
 f156:=Tryz.func31.trans (congrArg some (by kernel_rfl))
 f165:=Tryz.func56.trans (congrArg some (by kernel_rfl))
 f166:=Tryz.func57.trans (congrArg some (by kernel_rfl))
 f169:=Tryz.func58.trans (congrArg some (by kernel_rfl))
 f240:=Tryz.func83.trans (congrArg some (by kernel_rfl))
 f241:=Tryz.func84.trans (congrArg some (by kernel_rfl))
 f276:=Tryz.func107.trans (congrArg some (by kernel_rfl))
 f277:=Tryz.func108.trans (congrArg some (by kernel_rfl))
 t0:=Tryz.underlying0
 a0:=Tryz.isAgg0
 z0:=Tryz.sizeOf0
 v0:=Tryz.zeroValue0
 t3:=Tryz.underlying3
 a3:=Tryz.isAgg3
 z3:=Tryz.sizeOf3
 v3:=Tryz.zeroValue3
 t4:=Tryz.underlying4
 a4:=Tryz.isAgg4
 z4:=Tryz.sizeOf4
 v4:=Tryz.zeroValue4
 t9:=Tryz.underlying9
 a9:=Tryz.isAgg9
 z9:=Tryz.sizeOf9
 v9:=Tryz.zeroValue9
 t20:=Tryz.underlying20
 a20:=Tryz.isAgg20
 z20:=Tryz.sizeOf20
 v20:=Tryz.zeroValue20
 t31:=Tryz.underlying35
 a31:=Tryz.isAgg35
 z31:=Tryz.sizeOf35
 v31:=Tryz.zeroValue35
 t37:=Tryz.underlying28
 a37:=Tryz.isAgg28
 z37:=Tryz.sizeOf28
 v37:=Tryz.zeroValue28
 t70:=Tryz.underlying73
 a70:=Tryz.isAgg73
 z70:=Tryz.sizeOf73
 v70:=Tryz.zeroValue73
 t72:=Tryz.underlying75
 a72:=Tryz.isAgg75
 z72:=Tryz.sizeOf75
 v72:=Tryz.zeroValue75
 t75:=Tryz.underlying78
 a75:=Tryz.isAgg78
 z75:=Tryz.sizeOf78
 v75:=Tryz.zeroValue78
 t76:=Tryz.underlying79
 a76:=Tryz.isAgg79
 z76:=Tryz.sizeOf79
 v76:=Tryz.zeroValue79
 t127:=Tryz.underlying102
 a127:=Tryz.isAgg102
 z127:=Tryz.sizeOf102
 v127:=Tryz.zeroValue102
 t164:=Tryz.underlying117
 a164:=Tryz.isAgg117
 z164:=Tryz.sizeOf117
 v164:=Tryz.zeroValue117
def extra_strings_Join_ren:Go.Shelf.Ren:=⟨fun|0=>0|1=>1|2=>2|100=>105|102=>68|109=>46|119=>95|129=>135|137=>94|138=>101|143=>102|144=>104|145=>73|152=>69|153=>45|156=>31|165=>56|166=>57|169=>58|171=>55|172=>99|195=>116|197=>117|205=>143|207=>111|209=>93|217=>112|218=>118|219=>113|220=>98|221=>75|224=>96|225=>97|226=>70|227=>71|228=>72|240=>83|241=>84|243=>82|244=>114|245=>115|246=>106|247=>128|260=>133|266=>126|267=>127|268=>100|276=>107|277=>108|279=>129|280=>130|281=>131|282=>132|283=>119|284=>120|285=>121|286=>122|287=>141|314=>140|316=>142|317=>134|318=>136|319=>137|320=>138|321=>146|322=>147|337=>144|338=>145|347=>148|348=>149|349=>150|350=>151|351=>152|352=>153|353=>154|354=>155|355=>156|356=>157|357=>158|358=>159|359=>160|360=>161|361=>162|362=>164|363=>167|364=>165|365=>166|366=>168|367=>180|n=>n,fun|0=>0|1=>1|2=>2|3=>3|4=>4|5=>5|6=>6|7=>7|8=>8|9=>9|10=>10|11=>11|12=>12|13=>13|14=>14|15=>15|16=>16|17=>17|18=>18|19=>19|20=>20|21=>21|22=>115|23=>59|24=>31|27=>65|31=>35|32=>66|37=>28|38=>29|40=>111|41=>94|43=>105|46=>108|47=>142|51=>140|52=>155|53=>53|54=>127|55=>110|59=>95|60=>96|61=>70|64=>89|67=>49|68=>36|69=>41|70=>73|71=>74|72=>75|73=>76|74=>77|75=>78|76=>79|77=>80|80=>81|81=>86|83=>71|84=>116|85=>133|86=>134|101=>51|102=>69|103=>122|104=>27|105=>124|106=>125|108=>150|111=>85|113=>99|114=>58|115=>90|116=>91|117=>92|118=>93|119=>151|124=>112|127=>102|128=>123|131=>97|137=>152|138=>153|139=>154|143=>157|144=>158|145=>159|146=>144|150=>113|151=>145|164=>117|165=>118|166=>119|167=>132|168=>135|169=>136|170=>137|171=>126|172=>128|173=>129|174=>130|175=>146|176=>147|209=>148|210=>149|211=>138|212=>139|213=>141|214=>156|232=>160|233=>161|238=>162|239=>163|240=>164|241=>165|242=>166|243=>167|244=>168|245=>169|246=>170|247=>171|248=>172|249=>173|n=>n,fun|1=>1|3=>5|4=>6|15=>3|16=>4|17=>2|18=>7|19=>8|n=>n⟩
theorem extra_strings_Join:Go.Proofs.Builder.Extra Tryz.prog extra_strings_Join_ren where
 sizeBuilder:=by kernel_rfl
 liesBuilder:=by kernel_rfl
 t5:=Tryz.underlying5
 a5:=Tryz.isAgg5
 z5:=Tryz.sizeOf5
 v5:=Tryz.zeroValue5
 infoByte:=by kernel_rfl
 cellsByte:=by kernel_rfl
 sizeByte:=by kernel_rfl
 neB5:=by decide+kernel
noncomputable def f_strings_Join (t0:PV S_string)(t1:PV .str):Option (PVs [.str]×PVs []):=Go.Dn.joinF t0 t1
noncomputable def ct_strings_Join:Ct:=⟨[(.bor,S_string),(.bor,.str)],[(.str,.b)],fun x=>f_strings_Join x.1 x.2.1⟩
theorem ok_strings_Join:FnOk gl Tryz.prog 31 ct_strings_Join:=Go.Dn.join_ok lays_strings_Join extra_strings_Join
def lays_strings_IndexAny_ren:Go.Shelf.Ren:=⟨fun|0=>0|1=>1|2=>2|100=>105|102=>68|109=>46|119=>95|129=>135|137=>94|138=>101|143=>102|144=>104|145=>73|152=>69|153=>45|156=>31|165=>56|166=>57|169=>58|171=>55|172=>99|195=>116|197=>117|205=>143|207=>111|209=>93|217=>112|218=>118|219=>113|220=>98|221=>75|224=>96|225=>97|226=>70|227=>71|228=>72|240=>83|241=>84|243=>82|244=>114|245=>115|246=>106|247=>128|260=>133|266=>126|267=>127|268=>100|276=>107|277=>108|279=>129|280=>130|281=>131|282=>132|283=>119|284=>120|285=>121|286=>122|287=>141|314=>140|316=>142|317=>134|318=>136|319=>137|320=>138|321=>146|322=>147|337=>144|338=>145|347=>148|348=>149|349=>150|350=>151|351=>152|352=>153|353=>154|354=>155|355=>156|356=>157|357=>158|358=>159|359=>160|360=>161|361=>162|362=>164|363=>167|364=>165|365=>166|366=>168|367=>180|n=>n,fun|0=>0|1=>1|2=>2|3=>3|4=>4|5=>5|6=>6|7=>7|8=>8|9=>9|10=>10|11=>11|12=>12|13=>13|14=>14|15=>15|16=>16|17=>17|18=>18|19=>19|20=>20|21=>21|22=>115|23=>59|24=>31|27=>65|31=>35|32=>66|37=>28|38=>29|40=>111|41=>94|43=>105|46=>108|47=>142|51=>140|52=>155|53=>53|54=>127|55=>110|59=>95|60=>96|61=>70|64=>89|67=>49|68=>36|69=>41|70=>73|71=>74|72=>75|73=>76|74=>77|75=>78|76=>79|77=>80|80=>81|81=>86|83=>71|84=>116|85=>133|86=>134|101=>51|102=>69|103=>122|104=>27|105=>124|106=>125|108=>150|111=>85|113=>99|114=>58|115=>90|116=>91|117=>92|118=>93|119=>151|124=>112|127=>102|128=>123|131=>97|137=>152|138=>153|139=>154|143=>157|144=>158|145=>159|146=>144|150=>113|151=>145|164=>117|165=>118|166=>119|167=>132|168=>135|169=>136|170=>137|171=>126|172=>128|173=>129|174=>130|175=>146|176=>147|209=>148|210=>149|211=>138|212=>139|213=>141|214=>156|232=>160|233=>161|238=>162|239=>163|240=>164|241=>165|242=>166|243=>167|244=>168|245=>169|246=>170|247=>171|248=>172|249=>173|n=>n,fun|1=>1|3=>5|4=>6|15=>3|16=>4|17=>2|18=>7|19=>8|n=>n⟩
theorem lays_strings_IndexAny:Go.Proofs.Lays.n153 Tryz.prog lays_strings_IndexAny_ren where
 mixed:=by kernel_rfl
 f119:=Tryz.func95.trans (congrArg some (by kernel_rfl))
 f137:=Tryz.func94.trans (congrArg some (by kernel_rfl))
 f152:=Tryz.func69.trans (congrArg some (by kernel_rfl))
 f153:=Tryz.func45.trans (congrArg some (by kernel_rfl))
 f217:=Tryz.func112.trans (congrArg some (by kernel_rfl))
 f224:=Tryz.func96.trans (congrArg some (by kernel_rfl))
 f225:=Tryz.func97.trans (congrArg some (by kernel_rfl))
 f226:=Tryz.func70.trans (congrArg some (by kernel_rfl))
 f227:=Tryz.func71.trans (congrArg some (by kernel_rfl))
 f228:=Tryz.func72.trans (congrArg some (by kernel_rfl))
 f266:=Tryz.func126.trans (congrArg some (by kernel_rfl))
 t0:=Tryz.underlying0
 a0:=Tryz.isAgg0
 z0:=Tryz.sizeOf0
 v0:=Tryz.zeroValue0
 t3:=Tryz.underlying3
 a3:=Tryz.isAgg3
 z3:=Tryz.sizeOf3
 v3:=Tryz.zeroValue3
 t4:=Tryz.underlying4
 a4:=Tryz.isAgg4
 z4:=Tryz.sizeOf4
 v4:=Tryz.zeroValue4
 t5:=Tryz.underlying5
 a5:=Tryz.isAgg5
 z5:=Tryz.sizeOf5
 v5:=Tryz.zeroValue5
 t9:=Tryz.underlying9
 a9:=Tryz.isAgg9
 z9:=Tryz.sizeOf9
 v9:=Tryz.zeroValue9
 t21:=Tryz.underlying21
 a21:=Tryz.isAgg21
 z21:=Tryz.sizeOf21
 v21:=Tryz.zeroValue21
 t46:=Tryz.underlying108
 a46:=Tryz.isAgg108
 z46:=Tryz.sizeOf108
 v46:=Tryz.zeroValue108
 t116:=Tryz.underlying91
 a116:=Tryz.isAgg91
 z116:=Tryz.sizeOf91
 t117:=Tryz.underlying92
 a117:=Tryz.isAgg92
 z117:=Tryz.sizeOf92
 v117:=Tryz.zeroValue92
 t124:=Tryz.underlying112
 a124:=Tryz.isAgg112
 z124:=Tryz.sizeOf112
 v124:=Tryz.zeroValue112
noncomputable def f_strings_IndexAny (t0:PV .str)(t1:PV .str):Option (PVs [(.int .i64)]×PVs []):=Go.Dn.indexAnyF t0 t1
noncomputable def ct_strings_IndexAny:Ct:=⟨[(.bor,.str),(.bor,.str)],[((.int .i64),.b)],fun x=>f_strings_IndexAny x.1 x.2.1⟩
theorem ok_strings_IndexAny:FnOk gl Tryz.prog 45 ct_strings_IndexAny:=Go.Dn.indexAny_ok (by kernel_rfl) lays_strings_IndexAny
noncomputable def f_slices_Clone_string (t0:PV S_string):Option (PVs [S_string]×PVs []):=bif roomB ((([]:PV S_string)).length+t0.length) then some ((([]:PV S_string)++t0,()),()) else none
noncomputable def ct_slices_Clone_string:Ct:=⟨[(.bor,S_string)],[(S_string,(.row .b))],fun x=>f_slices_Clone_string x.1⟩
noncomputable def pl_slices_Clone_string:Plan:=⟨[],[],0,0⟩
noncomputable def cx_slices_Clone_string:Cx:=⟨tab,arrs,[],[],gl,[]⟩
theorem ok_slices_Clone_string:FnOk gl Tryz.prog 48 ct_slices_Clone_string:=
 fnOk_nil' (cx:=cx_slices_Clone_string) (pl:=pl_slices_Clone_string) (dp:=0) (t3:=3) (te:=9) (T:=.str) (ok0_of tabOk (by unfold ArrOk;kernel_rfl) mix trivial trivial) Tryz.func48 (fn:=Tryz.f48) (rvs:=Tryz.f48.results.toList) rfl (by kernel_rfl) (by kernel_rfl) (by kernel_rfl) rfl rfl rfl rfl Tryz.underlying35 ⟨⟨⟨trivial,trivial⟩,trivial⟩,⟨trivial,trivial⟩⟩ (fun x=>by kernel_rfl) (fun x=>by kernel_rfl) (fun x=>by kernel_rfl) (fun x=>by kernel_rfl) (by kernel_rfl)
def lays_strconv_Itoa_ren:Go.Shelf.Ren:=⟨fun|0=>0|1=>1|2=>2|100=>105|102=>68|109=>46|119=>95|129=>135|137=>94|138=>101|143=>102|144=>104|145=>73|152=>69|153=>45|156=>31|165=>56|166=>57|169=>58|171=>55|172=>99|195=>116|197=>117|205=>143|207=>111|209=>93|217=>112|218=>118|219=>113|220=>98|221=>75|224=>96|225=>97|226=>70|227=>71|228=>72|240=>83|241=>84|243=>82|244=>114|245=>115|246=>106|247=>128|260=>133|266=>126|267=>127|268=>100|276=>107|277=>108|279=>129|280=>130|281=>131|282=>132|283=>119|284=>120|285=>121|286=>122|287=>141|314=>140|316=>142|317=>134|318=>136|319=>137|320=>138|321=>146|322=>147|337=>144|338=>145|347=>148|348=>149|349=>150|350=>151|351=>152|352=>153|353=>154|354=>155|355=>156|356=>157|357=>158|358=>159|359=>160|360=>161|361=>162|362=>164|363=>167|364=>165|365=>166|366=>168|367=>180|n=>n,fun|0=>0|1=>1|2=>2|3=>3|4=>4|5=>5|6=>6|7=>7|8=>8|9=>9|10=>10|11=>11|12=>12|13=>13|14=>14|15=>15|16=>16|17=>17|18=>18|19=>19|20=>20|21=>21|22=>115|23=>59|24=>31|27=>65|31=>35|32=>66|37=>28|38=>29|40=>111|41=>94|43=>105|46=>108|47=>142|51=>140|52=>155|53=>53|54=>127|55=>110|59=>95|60=>96|61=>70|64=>89|67=>49|68=>36|69=>41|70=>73|71=>74|72=>75|73=>76|74=>77|75=>78|76=>79|77=>80|80=>81|81=>86|83=>71|84=>116|85=>133|86=>134|101=>51|102=>69|103=>122|104=>27|105=>124|106=>125|108=>150|111=>85|113=>99|114=>58|115=>90|116=>91|117=>92|118=>93|119=>151|124=>112|127=>102|128=>123|131=>97|137=>152|138=>153|139=>154|143=>157|144=>158|145=>159|146=>144|150=>113|151=>145|164=>117|165=>118|166=>119|167=>132|168=>135|169=>136|170=>137|171=>126|172=>128|173=>129|174=>130|175=>146|176=>147|209=>148|210=>149|211=>138|212=>139|213=>141|214=>156|232=>160|233=>161|238=>162|239=>163|240=>164|241=>165|242=>166|243=>167|244=>168|245=>169|246=>170|247=>171|248=>172|249=>173|n=>n,fun|1=>1|3=>5|4=>6|15=>3|16=>4|17=>2|18=>7|19=>8|n=>n⟩
theorem lays_strconv_Itoa:Go.Proofs.LaysM.n171 Tryz.prog lays_strconv_Itoa_ren where
 mixed:=by kernel_rfl
 f129:=Tryz.func135.trans (congrArg some (by kernel_rfl))
 f171:=Tryz.func55.trans (congrArg some (by kernel_rfl))
 f243:=Tryz.func82.trans (congrArg some (by kernel_rfl))
 f246:=Tryz.func106.trans (congrArg some (by kernel_rfl))
 f283:=Tryz.func119.trans (congrArg some (by kernel_rfl))
 f284:=Tryz.func120.trans (congrArg some (by kernel_rfl))
 f285:=Tryz.func121.trans (congrArg some (by kernel_rfl))
 f286:=Tryz.func122.trans (congrArg some (by kernel_rfl))
 f317:=Tryz.func134.trans (congrArg some (by kernel_rfl))
 f318:=Tryz.func136.trans (congrArg some (by kernel_rfl))
 f319:=Tryz.func137.trans (congrArg some (by kernel_rfl))
 f320:=Tryz.func138.trans (congrArg some (by kernel_rfl))
 f337:=Tryz.func144.trans (congrArg some (by kernel_rfl))
 f338:=Tryz.func145.trans (congrArg some (by kernel_rfl))
 t0:=Tryz.underlying0
 a0:=Tryz.isAgg0
 z0:=Tryz.sizeOf0
 v0:=Tryz.zeroValue0
 t2:=Tryz.underlying2
 a2:=Tryz.isAgg2
 z2:=Tryz.sizeOf2
 v2:=Tryz.zeroValue2
 t3:=Tryz.underlying3
 a3:=Tryz.isAgg3
 z3:=Tryz.sizeOf3
 v3:=Tryz.zeroValue3
 t4:=Tryz.underlying4
 a4:=Tryz.isAgg4
 z4:=Tryz.sizeOf4
 v4:=Tryz.zeroValue4
 t5:=Tryz.underlying5
 a5:=Tryz.isAgg5
 z5:=Tryz.sizeOf5
 v5:=Tryz.zeroValue5
 t9:=Tryz.underlying9
 a9:=Tryz.isAgg9
 z9:=Tryz.sizeOf9
 v9:=Tryz.zeroValue9
 t20:=Tryz.underlying20
 a20:=Tryz.isAgg20
 z20:=Tryz.sizeOf20
 v20:=Tryz.zeroValue20
 t37:=Tryz.underlying28
 a37:=Tryz.isAgg28
 z37:=Tryz.sizeOf28
 v37:=Tryz.zeroValue28
 t46:=Tryz.underlying108
 a46:=Tryz.isAgg108
 z46:=Tryz.sizeOf108
 v46:=Tryz.zeroValue108
 t51:=Tryz.underlying140
 a51:=Tryz.isAgg140
 z51:=Tryz.sizeOf140
 v51:=Tryz.zeroValue140
 t53:=Tryz.underlying53
 a53:=Tryz.isAgg53
 z53:=Tryz.sizeOf53
 v53:=Tryz.zeroValue53
 t171:=Tryz.underlying126
 a171:=Tryz.isAgg126
 z171:=Tryz.sizeOf126
 v171:=Tryz.zeroValue126
 t173:=Tryz.underlying129
 a173:=Tryz.isAgg129
 z173:=Tryz.sizeOf129
 v173:=Tryz.zeroValue129
 t212:=Tryz.underlying139
 a212:=Tryz.isAgg139
 z212:=Tryz.sizeOf139
 v212:=Tryz.zeroValue139
 t213:=Tryz.underlying141
 a213:=Tryz.isAgg141
 z213:=Tryz.sizeOf141
 t232:=Tryz.underlying160
 a232:=Tryz.isAgg160
 z232:=Tryz.sizeOf160
 v232:=Tryz.zeroValue160
 t233:=Tryz.underlying161
 a233:=Tryz.isAgg161
 z233:=Tryz.sizeOf161
 v233:=Tryz.zeroValue161
 g17:=by kernel_rfl
 g18:=by kernel_rfl
 g19:=by kernel_rfl
 i0:=by kernel_rfl
 i2:=by kernel_rfl
 i3:=by kernel_rfl
 i4:=by kernel_rfl
 i5:=by kernel_rfl
 i9:=by kernel_rfl
 i20:=by kernel_rfl
 i37:=by kernel_rfl
 i46:=by kernel_rfl
 i51:=by kernel_rfl
 i53:=by kernel_rfl
 i171:=by kernel_rfl
 i173:=by kernel_rfl
 i212:=by kernel_rfl
 i232:=by kernel_rfl
 i233:=by kernel_rfl
 m17:=by kernel_rfl
 m18:=by kernel_rfl
 m19:=by kernel_rfl
noncomputable def f_strconv_Itoa (t0:PV (.int .i64)):Option (PVs [.str]×PVs []):=Go.Dn.itoaF t0
noncomputable def ct_strconv_Itoa:Ct:=⟨[(.bor,(.int .i64))],[(.str,.b)],fun x=>f_strconv_Itoa x.1⟩
theorem ok_strconv_Itoa:FnOk gl Tryz.prog 55 ct_strconv_Itoa:=Go.Dn.itoa_ok gl_tab lays_strconv_Itoa
def lays_strconv_Atoi_ren:Go.Shelf.Ren:=⟨fun|0=>0|1=>1|2=>2|100=>105|102=>68|109=>46|119=>95|129=>135|137=>94|138=>101|143=>102|144=>104|145=>73|152=>69|153=>45|156=>31|165=>56|166=>57|169=>58|171=>55|172=>99|195=>116|197=>117|205=>143|207=>111|209=>93|217=>112|218=>118|219=>113|220=>98|221=>75|224=>96|225=>97|226=>70|227=>71|228=>72|240=>83|241=>84|243=>82|244=>114|245=>115|246=>106|247=>128|260=>133|266=>126|267=>127|268=>100|276=>107|277=>108|279=>129|280=>130|281=>131|282=>132|283=>119|284=>120|285=>121|286=>122|287=>141|314=>140|316=>142|317=>134|318=>136|319=>137|320=>138|321=>146|322=>147|337=>144|338=>145|347=>148|348=>149|349=>150|350=>151|351=>152|352=>153|353=>154|354=>155|355=>156|356=>157|357=>158|358=>159|359=>160|360=>161|361=>162|362=>164|363=>167|364=>165|365=>166|366=>168|367=>180|n=>n,fun|0=>0|1=>1|2=>2|3=>3|4=>4|5=>5|6=>6|7=>7|8=>8|9=>9|10=>10|11=>11|12=>12|13=>13|14=>14|15=>15|16=>16|17=>17|18=>18|19=>19|20=>20|21=>21|22=>115|23=>59|24=>31|27=>65|31=>35|32=>66|37=>28|38=>29|40=>111|41=>94|43=>105|46=>108|47=>142|51=>140|52=>155|53=>53|54=>127|55=>110|59=>95|60=>96|61=>70|64=>89|67=>49|68=>36|69=>41|70=>73|71=>74|72=>75|73=>76|74=>77|75=>78|76=>79|77=>80|80=>81|81=>86|83=>71|84=>116|85=>133|86=>134|101=>51|102=>69|103=>122|104=>27|105=>124|106=>125|108=>150|111=>85|113=>99|114=>58|115=>90|116=>91|117=>92|118=>93|119=>151|124=>112|127=>102|128=>123|131=>97|137=>152|138=>153|139=>154|143=>157|144=>158|145=>159|146=>144|150=>113|151=>145|164=>117|165=>118|166=>119|167=>132|168=>135|169=>136|170=>137|171=>126|172=>128|173=>129|174=>130|175=>146|176=>147|209=>148|210=>149|211=>138|212=>139|213=>141|214=>156|232=>160|233=>161|238=>162|239=>163|240=>164|241=>165|242=>166|243=>167|244=>168|245=>169|246=>170|247=>171|248=>172|249=>173|n=>n,fun|1=>1|3=>5|4=>6|15=>3|16=>4|17=>2|18=>7|19=>8|n=>n⟩
theorem lays_strconv_Atoi:Go.Proofs.LaysC.n172 Tryz.prog lays_strconv_Atoi_ren where
 mixed:=by kernel_rfl
 f129:=Tryz.func135.trans (congrArg some (by kernel_rfl))
 f171:=Tryz.func55.trans (congrArg some (by kernel_rfl))
 f172:=Tryz.func99.trans (congrArg some (by kernel_rfl))
 f205:=Tryz.func143.trans (congrArg some (by kernel_rfl))
 f243:=Tryz.func82.trans (congrArg some (by kernel_rfl))
 f244:=Tryz.func114.trans (congrArg some (by kernel_rfl))
 f245:=Tryz.func115.trans (congrArg some (by kernel_rfl))
 f246:=Tryz.func106.trans (congrArg some (by kernel_rfl))
 f247:=Tryz.func128.trans (congrArg some (by kernel_rfl))
 f279:=Tryz.func129.trans (congrArg some (by kernel_rfl))
 f280:=Tryz.func130.trans (congrArg some (by kernel_rfl))
 f281:=Tryz.func131.trans (congrArg some (by kernel_rfl))
 f282:=Tryz.func132.trans (congrArg some (by kernel_rfl))
 f283:=Tryz.func119.trans (congrArg some (by kernel_rfl))
 f284:=Tryz.func120.trans (congrArg some (by kernel_rfl))
 f285:=Tryz.func121.trans (congrArg some (by kernel_rfl))
 f286:=Tryz.func122.trans (congrArg some (by kernel_rfl))
 f287:=Tryz.func141.trans (congrArg some (by kernel_rfl))
 f316:=Tryz.func142.trans (congrArg some (by kernel_rfl))
 f317:=Tryz.func134.trans (congrArg some (by kernel_rfl))
 f318:=Tryz.func136.trans (congrArg some (by kernel_rfl))
 f319:=Tryz.func137.trans (congrArg some (by kernel_rfl))
 f320:=Tryz.func138.trans (congrArg some (by kernel_rfl))
 f321:=Tryz.func146.trans (congrArg some (by kernel_rfl))
 f322:=Tryz.func147.trans (congrArg some (by kernel_rfl))
 f337:=Tryz.func144.trans (congrArg some (by kernel_rfl))
 f338:=Tryz.func145.trans (congrArg some (by kernel_rfl))
 t0:=Tryz.underlying0
 a0:=Tryz.isAgg0
 z0:=Tryz.sizeOf0
 v0:=Tryz.zeroValue0
 t2:=Tryz.underlying2
 a2:=Tryz.isAgg2
 z2:=Tryz.sizeOf2
 v2:=Tryz.zeroValue2
 t3:=Tryz.underlying3
 a3:=Tryz.isAgg3
 z3:=Tryz.sizeOf3
 v3:=Tryz.zeroValue3
 t4:=Tryz.underlying4
 a4:=Tryz.isAgg4
 z4:=Tryz.sizeOf4
 v4:=Tryz.zeroValue4
 t5:=Tryz.underlying5
 a5:=Tryz.isAgg5
 z5:=Tryz.sizeOf5
 v5:=Tryz.zeroValue5
 t9:=Tryz.underlying9
 a9:=Tryz.isAgg9
 z9:=Tryz.sizeOf9
 v9:=Tryz.zeroValue9
 t20:=Tryz.underlying20
 a20:=Tryz.isAgg20
 z20:=Tryz.sizeOf20
 v20:=Tryz.zeroValue20
 t21:=Tryz.underlying21
 a21:=Tryz.isAgg21
 z21:=Tryz.sizeOf21
 v21:=Tryz.zeroValue21
 t37:=Tryz.underlying28
 a37:=Tryz.isAgg28
 z37:=Tryz.sizeOf28
 v37:=Tryz.zeroValue28
 t46:=Tryz.underlying108
 a46:=Tryz.isAgg108
 z46:=Tryz.sizeOf108
 v46:=Tryz.zeroValue108
 t51:=Tryz.underlying140
 a51:=Tryz.isAgg140
 z51:=Tryz.sizeOf140
 v51:=Tryz.zeroValue140
 t53:=Tryz.underlying53
 a53:=Tryz.isAgg53
 z53:=Tryz.sizeOf53
 v53:=Tryz.zeroValue53
 t75:=Tryz.underlying78
 a75:=Tryz.isAgg78
 z75:=Tryz.sizeOf78
 v75:=Tryz.zeroValue78
 t76:=Tryz.underlying79
 a76:=Tryz.isAgg79
 z76:=Tryz.sizeOf79
 v76:=Tryz.zeroValue79
 t85:=Tryz.underlying133
 a85:=Tryz.isAgg133
 z85:=Tryz.sizeOf133
 v85:=Tryz.zeroValue133
 t127:=Tryz.underlying102
 a127:=Tryz.isAgg102
 z127:=Tryz.sizeOf102
 v127:=Tryz.zeroValue102
 t143:=Tryz.underlying157
 a143:=Tryz.isAgg157
 z143:=Tryz.sizeOf157
 v143:=Tryz.zeroValue157
 t145:=Tryz.underlying159
 a145:=Tryz.isAgg159
 z145:=Tryz.sizeOf159
 v145:=Tryz.zeroValue159
 t167:=Tryz.underlying132
 a167:=Tryz.isAgg132
 z167:=Tryz.sizeOf132
 v167:=Tryz.zeroValue132
 t168:=Tryz.underlying135
 a168:=Tryz.isAgg135
 z168:=Tryz.sizeOf135
 v168:=Tryz.zeroValue135
 t171:=Tryz.underlying126
 a171:=Tryz.isAgg126
 z171:=Tryz.sizeOf126
 v171:=Tryz.zeroValue126
 t173:=Tryz.underlying129
 a173:=Tryz.isAgg129
 z173:=Tryz.sizeOf129
 v173:=Tryz.zeroValue129
 t175:=Tryz.underlying146
 a175:=Tryz.isAgg146
 z175:=Tryz.sizeOf146
 v175:=Tryz.zeroValue146
 t210:=Tryz.underlying149
 a210:=Tryz.isAgg149
 z210:=Tryz.sizeOf149
 v210:=Tryz.zeroValue149
 t212:=Tryz.underlying139
 a212:=Tryz.isAgg139
 z212:=Tryz.sizeOf139
 v212:=Tryz.zeroValue139
 t213:=Tryz.underlying141
 a213:=Tryz.isAgg141
 z213:=Tryz.sizeOf141
 t232:=Tryz.underlying160
 a232:=Tryz.isAgg160
 z232:=Tryz.sizeOf160
 v232:=Tryz.zeroValue160
 t233:=Tryz.underlying161
 a233:=Tryz.isAgg161
 z233:=Tryz.sizeOf161
 v233:=Tryz.zeroValue161
 g15:=by kernel_rfl
 g16:=by kernel_rfl
 g17:=by kernel_rfl
 g18:=by kernel_rfl
 g19:=by kernel_rfl
 t80:=Tryz.underlying81
 a80:=Tryz.isAgg81
 z80:=Tryz.sizeOf81
 v80:=Tryz.zeroValue81
 i0:=by kernel_rfl
 i2:=by kernel_rfl
 i3:=by kernel_rfl
 i4:=by kernel_rfl
 i5:=by kernel_rfl
 i9:=by kernel_rfl
 i20:=by kernel_rfl
 i21:=by kernel_rfl
 i37:=by kernel_rfl
 i46:=by kernel_rfl
 i51:=by kernel_rfl
 i53:=by kernel_rfl
 i75:=by kernel_rfl
 i76:=by kernel_rfl
 i80:=by kernel_rfl
 i85:=by kernel_rfl
 i127:=by kernel_rfl
 i143:=by kernel_rfl
 i145:=by kernel_rfl
 i167:=by kernel_rfl
 i168:=by kernel_rfl
 i171:=by kernel_rfl
 i173:=by kernel_rfl
 i175:=by kernel_rfl
 i210:=by kernel_rfl
 i212:=by kernel_rfl
 i232:=by kernel_rfl
 i233:=by kernel_rfl
 m15:=by kernel_rfl
 m16:=by kernel_rfl
 m17:=by kernel_rfl
 m18:=by kernel_rfl
 m19:=by kernel_rfl
 c0:=by kernel_rfl
 c2:=by kernel_rfl
 c3:=by kernel_rfl
 c4:=by kernel_rfl
 c5:=by kernel_rfl
 c9:=by kernel_rfl
 c20:=by kernel_rfl
 c21:=by kernel_rfl
 c37:=by kernel_rfl
 c46:=by kernel_rfl
 c51:=by kernel_rfl
 c53:=by kernel_rfl
 c75:=by kernel_rfl
 c76:=by kernel_rfl
 c80:=by kernel_rfl
 c85:=by kernel_rfl
 c127:=by kernel_rfl
 c143:=by kernel_rfl
 c145:=by kernel_rfl
 c167:=by kernel_rfl
 c168:=by kernel_rfl
 c171:=by kernel_rfl
 c173:=by kernel_rfl
 c175:=by kernel_rfl
 c210:=by kernel_rfl
 c212:=by kernel_rfl
 c213:=by kernel_rfl
 c232:=by kernel_rfl
 c233:=by kernel_rfl
def lays_num_Itoa_ren:Go.Shelf.Ren:=⟨fun|0=>0|1=>1|2=>2|100=>105|102=>68|109=>46|119=>95|129=>135|137=>94|138=>101|143=>102|144=>104|145=>73|152=>69|153=>45|156=>31|165=>56|166=>57|169=>58|171=>55|172=>99|195=>116|197=>117|205=>143|207=>111|209=>93|217=>112|218=>118|219=>113|220=>98|221=>75|224=>96|225=>97|226=>70|227=>71|228=>72|240=>83|241=>84|243=>82|244=>114|245=>115|246=>106|247=>128|260=>133|266=>126|267=>127|268=>100|276=>107|277=>108|279=>129|280=>130|281=>131|282=>132|283=>119|284=>120|285=>121|286=>122|287=>141|314=>140|316=>142|317=>134|318=>136|319=>137|320=>138|321=>146|322=>147|337=>144|338=>145|347=>148|348=>149|349=>150|350=>151|351=>152|352=>153|353=>154|354=>155|355=>156|356=>157|357=>158|358=>159|359=>160|360=>161|361=>162|362=>164|363=>167|364=>165|365=>166|366=>168|367=>180|n=>n,fun|0=>0|1=>1|2=>2|3=>3|4=>4|5=>5|6=>6|7=>7|8=>8|9=>9|10=>10|11=>11|12=>12|13=>13|14=>14|15=>15|16=>16|17=>17|18=>18|19=>19|20=>20|21=>21|22=>115|23=>59|24=>31|27=>65|31=>35|32=>66|37=>28|38=>29|40=>111|41=>94|43=>105|46=>108|47=>142|51=>140|52=>155|53=>53|54=>127|55=>110|59=>95|60=>96|61=>70|64=>89|67=>49|68=>36|69=>41|70=>73|71=>74|72=>75|73=>76|74=>77|75=>78|76=>79|77=>80|80=>81|81=>86|83=>71|84=>116|85=>133|86=>134|101=>51|102=>69|103=>122|104=>27|105=>124|106=>125|108=>150|111=>85|113=>99|114=>58|115=>90|116=>91|117=>92|118=>93|119=>151|124=>112|127=>102|128=>123|131=>97|137=>152|138=>153|139=>154|143=>157|144=>158|145=>159|146=>144|150=>113|151=>145|164=>117|165=>118|166=>119|167=>132|168=>135|169=>136|170=>137|171=>126|172=>128|173=>129|174=>130|175=>146|176=>147|209=>148|210=>149|211=>138|212=>139|213=>141|214=>156|232=>160|233=>161|238=>162|239=>163|240=>164|241=>165|242=>166|243=>167|244=>168|245=>169|246=>170|247=>171|248=>172|249=>173|n=>n,fun|1=>1|3=>5|4=>6|15=>3|16=>4|17=>2|18=>7|19=>8|n=>n⟩
theorem lays_num_Itoa:Go.Proofs.LaysM.n171 Tryz.prog lays_num_Itoa_ren where
 mixed:=by kernel_rfl
 f129:=Tryz.func135.trans (congrArg some (by kernel_rfl))
 f171:=Tryz.func55.trans (congrArg some (by kernel_rfl))
 f243:=Tryz.func82.trans (congrArg some (by kernel_rfl))
 f246:=Tryz.func106.trans (congrArg some (by kernel_rfl))
 f283:=Tryz.func119.trans (congrArg some (by kernel_rfl))
 f284:=Tryz.func120.trans (congrArg some (by kernel_rfl))
 f285:=Tryz.func121.trans (congrArg some (by kernel_rfl))
 f286:=Tryz.func122.trans (congrArg some (by kernel_rfl))
 f317:=Tryz.func134.trans (congrArg some (by kernel_rfl))
 f318:=Tryz.func136.trans (congrArg some (by kernel_rfl))
 f319:=Tryz.func137.trans (congrArg some (by kernel_rfl))
 f320:=Tryz.func138.trans (congrArg some (by kernel_rfl))
 f337:=Tryz.func144.trans (congrArg some (by kernel_rfl))
 f338:=Tryz.func145.trans (congrArg some (by kernel_rfl))
 t0:=Tryz.underlying0
 a0:=Tryz.isAgg0
 z0:=Tryz.sizeOf0
 v0:=Tryz.zeroValue0
 t2:=Tryz.underlying2
 a2:=Tryz.isAgg2
 z2:=Tryz.sizeOf2
 v2:=Tryz.zeroValue2
 t3:=Tryz.underlying3
 a3:=Tryz.isAgg3
 z3:=Tryz.sizeOf3
 v3:=Tryz.zeroValue3
 t4:=Tryz.underlying4
 a4:=Tryz.isAgg4
 z4:=Tryz.sizeOf4
 v4:=Tryz.zeroValue4
 t5:=Tryz.underlying5
 a5:=Tryz.isAgg5
 z5:=Tryz.sizeOf5
 v5:=Tryz.zeroValue5
 t9:=Tryz.underlying9
 a9:=Tryz.isAgg9
 z9:=Tryz.sizeOf9
 v9:=Tryz.zeroValue9
 t20:=Tryz.underlying20
 a20:=Tryz.isAgg20
 z20:=Tryz.sizeOf20
 v20:=Tryz.zeroValue20
 t37:=Tryz.underlying28
 a37:=Tryz.isAgg28
 z37:=Tryz.sizeOf28
 v37:=Tryz.zeroValue28
 t46:=Tryz.underlying108
 a46:=Tryz.isAgg108
 z46:=Tryz.sizeOf108
 v46:=Tryz.zeroValue108
 t51:=Tryz.underlying140
 a51:=Tryz.isAgg140
 z51:=Tryz.sizeOf140
 v51:=Tryz.zeroValue140
 t53:=Tryz.underlying53
 a53:=Tryz.isAgg53
 z53:=Tryz.sizeOf53
 v53:=Tryz.zeroValue53
 t171:=Tryz.underlying126
 a171:=Tryz.isAgg126
 z171:=Tryz.sizeOf126
 v171:=Tryz.zeroValue126
 t173:=Tryz.underlying129
 a173:=Tryz.isAgg129
 z173:=Tryz.sizeOf129
 v173:=Tryz.zeroValue129
 t212:=Tryz.underlying139
 a212:=Tryz.isAgg139
 z212:=Tryz.sizeOf139
 v212:=Tryz.zeroValue139
 t213:=Tryz.underlying141
 a213:=Tryz.isAgg141
 z213:=Tryz.sizeOf141
 t232:=Tryz.underlying160
 a232:=Tryz.isAgg160
 z232:=Tryz.sizeOf160
 v232:=Tryz.zeroValue160
 t233:=Tryz.underlying161
 a233:=Tryz.isAgg161
 z233:=Tryz.sizeOf161
 v233:=Tryz.zeroValue161
 g17:=by kernel_rfl
 g18:=by kernel_rfl
 g19:=by kernel_rfl
 i0:=by kernel_rfl
 i2:=by kernel_rfl
 i3:=by kernel_rfl
 i4:=by kernel_rfl
 i5:=by kernel_rfl
 i9:=by kernel_rfl
 i20:=by kernel_rfl
 i37:=by kernel_rfl
 i46:=by kernel_rfl
 i51:=by kernel_rfl
 i53:=by kernel_rfl
 i171:=by kernel_rfl
 i173:=by kernel_rfl
 i212:=by kernel_rfl
 i232:=by kernel_rfl
 i233:=by kernel_rfl
 m17:=by kernel_rfl
 m18:=by kernel_rfl
 m19:=by kernel_rfl
section
open Go.RowKit Go.Lib
theorem num_itoa (n:Int)(h1: -9223372036854775808≤n)(h2:n≤9223372036854775807)(w:World)(hT:Lib.TabIs Tryz.prog w "internal/strconv.uint64pow10" .u64 Lib.pow10Tab):
 Calls Tryz.prog 55 #[.int .i64 n] w fun e w'=>e=.returned (.string ⟨(Lib.itoa n).toArray⟩)∧Below w.heap.size w w':=
 (Any.strconv_Itoa lays_num_Itoa n h1 h2 w hT).mono fun e w' ⟨e1,k,os,e2⟩=>⟨e1,by
   subst e2
   exact⟨rfl,rfl,rfl,by show w.heap.size≤(w.heap++os).size;simp,fun b hb=>by show(w.heap++os)[b]? =_;rw[Array.getElem?_append_left hb]⟩⟩
set_option maxHeartbeats 1000000 in
set_option maxRecDepth 100000 in
theorem num_ok (s:ByteArray)(v:Int)(h:Lib.atoiAll s.data.toList=.ok v)(hs:s.size≤1000000)(w:World)(hT:Lib.TabIs Tryz.prog w "internal/strconv.uint64pow10" .u64 Lib.pow10Tab):
 Calls Tryz.prog 74 #[.string s] w fun e w'=>e=.returned (.tuple #[.int .i64 v,.bool (decide (0≤v)&&(decide (s.size≤4)&&(Lib.itoa v==s.data.toList)))])∧Below w.heap.size w w':=by
 obtain⟨b1,b2⟩:=Go.Dn.atoi_bound h
 have hA:Calls Tryz.prog 99 #[.string s] w fun e w'=>e=.returned (.tuple #[.int .i64 v,.nilIface])∧Below w.heap.size w w':=
  (Any.strconv_Atoi_ok lays_strconv_Atoi s (by omega) v h w).mono fun e w' ⟨e1,e2⟩=>⟨e1,by
    rcases e2 with rfl|⟨t,rfl⟩
    ·exact Below.refl _ _
    ·exact Lib.bytesWorld_below _ _ _⟩
 by_cases h0:0≤v
 ·by_cases h4:s.size≤4
  ·rw[decide_eq_true h0,decide_eq_true h4]
   have h4':(s.size:Int)≤4:=by omega
   go_enter Tryz.func74,Tryz.ntmps74
   go_wp2_with (go_at_fn 99;go_fit hA;rintro e w' ⟨rfl,hb⟩)
   refine hA.mono ?_
   rintro e w1 ⟨rfl,hb⟩
   go_wp2_with (go_at_fn 55;go_fit hA;rintro e w' ⟨rfl,hb⟩)
   refine(num_itoa v b1 b2 w1 (Go.Dn.tab_below hT hb)).mono ?_
   rintro e w2 ⟨rfl,hb2⟩
   go_wp2
   go_ret2
   refine⟨?_,hb.trans (hb2.mono hb.size)⟩
   simp[Lib.toList_data]
  ·rw[decide_eq_true h0,decide_eq_false h4]
   have h4':¬(s.size:Int)≤4:=by omega
   go_enter Tryz.func74,Tryz.ntmps74
   go_wp2_with (go_at_fn 99;go_fit hA;rintro e w' ⟨rfl,hb⟩)
   refine hA.mono ?_
   rintro e w1 ⟨rfl,hb⟩
   go_wp2
   go_ret2
   exact⟨rfl,hb⟩
 ·rw[decide_eq_false h0]
  go_enter Tryz.func74,Tryz.ntmps74
  go_wp2_with (go_at_fn 99;go_fit hA;rintro e w' ⟨rfl,hb⟩)
  refine hA.mono ?_
  rintro e w1 ⟨rfl,hb⟩
  go_wp2
  go_ret2
  exact⟨rfl,hb⟩
set_option maxHeartbeats 1000000 in
set_option maxRecDepth 100000 in
theorem num_no (s:ByteArray)(x:Int)(tp:TypeId)(w:World)(hA:Calls Tryz.prog 99 #[.string s] w fun e w'=>∃N,e=.returned (.tuple #[.int .i64 x,.iface tp (.pointer (some ⟨N,0,none⟩))])∧Below w.heap.size w w'):
 Calls Tryz.prog 74 #[.string s] w fun e w'=>e=.returned (.tuple #[.int .i64 x,.bool false])∧Below w.heap.size w w':=by
 go_enter Tryz.func74,Tryz.ntmps74
 go_wp2_with (go_at_fn 99;go_fit hA;rintro e w' ⟨rfl,hb⟩)
 refine hA.mono ?_
 rintro e w1 ⟨N,rfl,hb⟩
 go_wp2
 go_ret2
 exact⟨rfl,hb⟩
theorem num_any (s:ByteArray)(w:World)(hs:s.size≤1000000)(hT:Lib.TabIs Tryz.prog w "internal/strconv.uint64pow10" .u64 Lib.pow10Tab)(h1:∃tp p,w.var? Tryz.prog "strconv.ErrSyntax"=some #[.iface tp p])(h2:∃tp p,w.var? Tryz.prog "strconv.ErrRange"=some #[.iface tp p]):
 Calls Tryz.prog 74 #[.string s] w fun e w'=>e=.returned (.tuple #[.int .i64 (Go.Dn.numV s.data.toList),.bool (Go.Dn.numB s.data.toList)])∧Below w.heap.size w w':=by
 unfold Go.Dn.numV Go.Dn.numB
 rcases h:Lib.atoiAll s.data.toList with v|_|_
 ·exact num_ok s v h hs w hT
 ·obtain⟨tp,p,hv⟩:=h1
  exact num_no s 0 _ w ((Any.strconv_Atoi_syntax_var lays_strconv_Atoi s (by omega) h tp p w hv).mono fun e w' ⟨N,e1,_,_,hb⟩=>⟨N,e1,hb⟩)
 ·obtain⟨tp,p,hv⟩:=h2
  exact num_no s _ _ w ((Any.strconv_Atoi_range_var lays_strconv_Atoi s (by omega) h tp p w hv).mono fun e w' ⟨N,e1,_,_,hb⟩=>⟨N,e1,hb⟩)
end
noncomputable def f_I_readNumber (t0:PV .str):Option (PVs [.int .i64,.bool]×PVs []):=Go.Dn.numF t0
noncomputable def ct_I_readNumber:Ct:=⟨[(.bor,.str)],[(.int .i64,.b),(.bool,.b)],fun x=>f_I_readNumber x.1⟩
theorem ok_I_readNumber:FnOk gl Tryz.prog 74 ct_I_readNumber:=Go.Dn.fnOk_number ⟨_,Tryz.func74,rfl,by kernel_rfl⟩ fun s w hs hg=>num_any s w hs (gl_tab w hg) (gl_syn w hg) (gl_rng w hg)
def lays_strings_genSplit_ren:Go.Shelf.Ren:=⟨fun|0=>0|1=>1|2=>2|100=>105|102=>68|109=>46|119=>95|129=>135|137=>94|138=>101|143=>102|144=>104|145=>73|152=>69|153=>45|156=>31|165=>56|166=>57|169=>58|171=>55|172=>99|195=>116|197=>117|205=>143|207=>111|209=>93|217=>112|218=>118|219=>113|220=>98|221=>75|224=>96|225=>97|226=>70|227=>71|228=>72|240=>83|241=>84|243=>82|244=>114|245=>115|246=>106|247=>128|260=>133|266=>126|267=>127|268=>100|276=>107|277=>108|279=>129|280=>130|281=>131|282=>132|283=>119|284=>120|285=>121|286=>122|287=>141|314=>140|316=>142|317=>134|318=>136|319=>137|320=>138|321=>146|322=>147|337=>144|338=>145|347=>148|348=>149|349=>150|350=>151|351=>152|352=>153|353=>154|354=>155|355=>156|356=>157|357=>158|358=>159|359=>160|360=>161|361=>162|362=>164|363=>167|364=>165|365=>166|366=>168|367=>180|n=>n,fun|0=>0|1=>1|2=>2|3=>3|4=>4|5=>5|6=>6|7=>7|8=>8|9=>9|10=>10|11=>11|12=>12|13=>13|14=>14|15=>15|16=>16|17=>17|18=>18|19=>19|20=>20|21=>21|22=>115|23=>59|24=>31|27=>65|31=>35|32=>66|37=>28|38=>29|40=>111|41=>94|43=>105|46=>108|47=>142|51=>140|52=>155|53=>53|54=>127|55=>110|59=>95|60=>96|61=>70|64=>89|67=>49|68=>36|69=>41|70=>73|71=>74|72=>75|73=>76|74=>77|75=>78|76=>79|77=>80|80=>81|81=>86|83=>71|84=>116|85=>133|86=>134|101=>51|102=>69|103=>122|104=>27|105=>124|106=>125|108=>150|111=>85|113=>99|114=>58|115=>90|116=>91|117=>92|118=>93|119=>151|124=>112|127=>102|128=>123|131=>97|137=>152|138=>153|139=>154|143=>157|144=>158|145=>159|146=>144|150=>113|151=>145|164=>117|165=>118|166=>119|167=>132|168=>135|169=>136|170=>137|171=>126|172=>128|173=>129|174=>130|175=>146|176=>147|209=>148|210=>149|211=>138|212=>139|213=>141|214=>156|232=>160|233=>161|238=>162|239=>163|240=>164|241=>165|242=>166|243=>167|244=>168|245=>169|246=>170|247=>171|248=>172|249=>173|n=>n,fun|1=>1|3=>5|4=>6|15=>3|16=>4|17=>2|18=>7|19=>8|n=>n⟩
theorem lays_strings_genSplit:Go.Proofs.Lays.n221 Tryz.prog lays_strings_genSplit_ren where
 mixed:=by kernel_rfl
 f138:=Tryz.func101.trans (congrArg some (by kernel_rfl))
 f143:=Tryz.func102.trans (congrArg some (by kernel_rfl))
 f195:=Tryz.func116.trans (congrArg some (by kernel_rfl))
 f197:=Tryz.func117.trans (congrArg some (by kernel_rfl))
 f217:=Tryz.func112.trans (congrArg some (by kernel_rfl))
 f218:=Tryz.func118.trans (congrArg some (by kernel_rfl))
 f219:=Tryz.func113.trans (congrArg some (by kernel_rfl))
 f221:=Tryz.func75.trans (congrArg some (by kernel_rfl))
 f224:=Tryz.func96.trans (congrArg some (by kernel_rfl))
 f225:=Tryz.func97.trans (congrArg some (by kernel_rfl))
 f260:=Tryz.func133.trans (congrArg some (by kernel_rfl))
 f266:=Tryz.func126.trans (congrArg some (by kernel_rfl))
 f267:=Tryz.func127.trans (congrArg some (by kernel_rfl))
 f268:=Tryz.func100.trans (congrArg some (by kernel_rfl))
 f314:=Tryz.func140.trans (congrArg some (by kernel_rfl))
 t0:=Tryz.underlying0
 a0:=Tryz.isAgg0
 z0:=Tryz.sizeOf0
 v0:=Tryz.zeroValue0
 t3:=Tryz.underlying3
 a3:=Tryz.isAgg3
 z3:=Tryz.sizeOf3
 v3:=Tryz.zeroValue3
 t4:=Tryz.underlying4
 a4:=Tryz.isAgg4
 z4:=Tryz.sizeOf4
 v4:=Tryz.zeroValue4
 t5:=Tryz.underlying5
 a5:=Tryz.isAgg5
 z5:=Tryz.sizeOf5
 v5:=Tryz.zeroValue5
 t9:=Tryz.underlying9
 a9:=Tryz.isAgg9
 z9:=Tryz.sizeOf9
 v9:=Tryz.zeroValue9
 t21:=Tryz.underlying21
 a21:=Tryz.isAgg21
 z21:=Tryz.sizeOf21
 v21:=Tryz.zeroValue21
 t31:=Tryz.underlying35
 a31:=Tryz.isAgg35
 z31:=Tryz.sizeOf35
 v31:=Tryz.zeroValue35
 t46:=Tryz.underlying108
 a46:=Tryz.isAgg108
 z46:=Tryz.sizeOf108
 v46:=Tryz.zeroValue108
 t51:=Tryz.underlying140
 a51:=Tryz.isAgg140
 z51:=Tryz.sizeOf140
 v51:=Tryz.zeroValue140
 t105:=Tryz.underlying124
 a105:=Tryz.isAgg124
 z105:=Tryz.sizeOf124
 v105:=Tryz.zeroValue124
 t119:=Tryz.underlying151
 a119:=Tryz.isAgg151
 z119:=Tryz.sizeOf151
 t138:=Tryz.underlying153
 a138:=Tryz.isAgg153
 z138:=Tryz.sizeOf153
 v138:=Tryz.zeroValue153
 t139:=Tryz.underlying154
 a139:=Tryz.isAgg154
 z139:=Tryz.sizeOf154
 v139:=Tryz.zeroValue154
 t146:=Tryz.underlying144
 a146:=Tryz.isAgg144
 z146:=Tryz.sizeOf144
 v146:=Tryz.zeroValue144
 g1:=by kernel_rfl
 g3:=by kernel_rfl
 g4:=by kernel_rfl
noncomputable def f_strings_genSplit (t0:PV .str)(t1:PV .str)(t2:PV (.int .i64))(t3:PV (.int .i64)):Option (PVs [S_string]×PVs []):=Go.Dn.splitF 9 t0 t1 t2 t3
noncomputable def ct_strings_genSplit:Ct:=⟨[(.bor,.str),(.bor,.str),(.bor,.int .i64),(.bor,.int .i64)],[(S_string,.row .b)],fun x=>f_strings_genSplit x.1 x.2.1 x.2.2.1 x.2.2.2.1⟩
theorem ok_strings_genSplit:FnOk gl Tryz.prog 75 ct_strings_genSplit:=Go.Dn.split_ok rfl lays_strings_genSplit (by kernel_rfl)
def lays_strings_Contains_ren:Go.Shelf.Ren:=⟨fun|0=>0|1=>1|2=>2|100=>105|102=>68|109=>46|119=>95|129=>135|137=>94|138=>101|143=>102|144=>104|145=>73|152=>69|153=>45|156=>31|165=>56|166=>57|169=>58|171=>55|172=>99|195=>116|197=>117|205=>143|207=>111|209=>93|217=>112|218=>118|219=>113|220=>98|221=>75|224=>96|225=>97|226=>70|227=>71|228=>72|240=>83|241=>84|243=>82|244=>114|245=>115|246=>106|247=>128|260=>133|266=>126|267=>127|268=>100|276=>107|277=>108|279=>129|280=>130|281=>131|282=>132|283=>119|284=>120|285=>121|286=>122|287=>141|314=>140|316=>142|317=>134|318=>136|319=>137|320=>138|321=>146|322=>147|337=>144|338=>145|347=>148|348=>149|349=>150|350=>151|351=>152|352=>153|353=>154|354=>155|355=>156|356=>157|357=>158|358=>159|359=>160|360=>161|361=>162|362=>164|363=>167|364=>165|365=>166|366=>168|367=>180|n=>n,fun|0=>0|1=>1|2=>2|3=>3|4=>4|5=>5|6=>6|7=>7|8=>8|9=>9|10=>10|11=>11|12=>12|13=>13|14=>14|15=>15|16=>16|17=>17|18=>18|19=>19|20=>20|21=>21|22=>115|23=>59|24=>31|27=>65|31=>35|32=>66|37=>28|38=>29|40=>111|41=>94|43=>105|46=>108|47=>142|51=>140|52=>155|53=>53|54=>127|55=>110|59=>95|60=>96|61=>70|64=>89|67=>49|68=>36|69=>41|70=>73|71=>74|72=>75|73=>76|74=>77|75=>78|76=>79|77=>80|80=>81|81=>86|83=>71|84=>116|85=>133|86=>134|101=>51|102=>69|103=>122|104=>27|105=>124|106=>125|108=>150|111=>85|113=>99|114=>58|115=>90|116=>91|117=>92|118=>93|119=>151|124=>112|127=>102|128=>123|131=>97|137=>152|138=>153|139=>154|143=>157|144=>158|145=>159|146=>144|150=>113|151=>145|164=>117|165=>118|166=>119|167=>132|168=>135|169=>136|170=>137|171=>126|172=>128|173=>129|174=>130|175=>146|176=>147|209=>148|210=>149|211=>138|212=>139|213=>141|214=>156|232=>160|233=>161|238=>162|239=>163|240=>164|241=>165|242=>166|243=>167|244=>168|245=>169|246=>170|247=>171|248=>172|249=>173|n=>n,fun|1=>1|3=>5|4=>6|15=>3|16=>4|17=>2|18=>7|19=>8|n=>n⟩
theorem lays_strings_Contains:Go.Proofs.Lays.n144 Tryz.prog lays_strings_Contains_ren where
 mixed:=by kernel_rfl
 f143:=Tryz.func102.trans (congrArg some (by kernel_rfl))
 f144:=Tryz.func104.trans (congrArg some (by kernel_rfl))
 f217:=Tryz.func112.trans (congrArg some (by kernel_rfl))
 f219:=Tryz.func113.trans (congrArg some (by kernel_rfl))
 f224:=Tryz.func96.trans (congrArg some (by kernel_rfl))
 f225:=Tryz.func97.trans (congrArg some (by kernel_rfl))
 f266:=Tryz.func126.trans (congrArg some (by kernel_rfl))
 f267:=Tryz.func127.trans (congrArg some (by kernel_rfl))
 f314:=Tryz.func140.trans (congrArg some (by kernel_rfl))
 t3:=Tryz.underlying3
 a3:=Tryz.isAgg3
 z3:=Tryz.sizeOf3
 v3:=Tryz.zeroValue3
 t4:=Tryz.underlying4
 a4:=Tryz.isAgg4
 z4:=Tryz.sizeOf4
 v4:=Tryz.zeroValue4
 t5:=Tryz.underlying5
 a5:=Tryz.isAgg5
 z5:=Tryz.sizeOf5
 v5:=Tryz.zeroValue5
 t9:=Tryz.underlying9
 a9:=Tryz.isAgg9
 z9:=Tryz.sizeOf9
 v9:=Tryz.zeroValue9
 t46:=Tryz.underlying108
 a46:=Tryz.isAgg108
 z46:=Tryz.sizeOf108
 v46:=Tryz.zeroValue108
 t51:=Tryz.underlying140
 a51:=Tryz.isAgg140
 z51:=Tryz.sizeOf140
 v51:=Tryz.zeroValue140
 t146:=Tryz.underlying144
 a146:=Tryz.isAgg144
 z146:=Tryz.sizeOf144
 v146:=Tryz.zeroValue144
 g1:=by kernel_rfl
noncomputable def f_strings_Contains (t0:PV .str)(t1:PV .str):Option (PVs [.bool]×PVs []):=Go.Dn.containsF t0 t1
noncomputable def ct_strings_Contains:Ct:=⟨[(.bor,.str),(.bor,.str)],[(.bool,.b)],fun x=>f_strings_Contains x.1 x.2.1⟩
theorem ok_strings_Contains:FnOk gl Tryz.prog 104 ct_strings_Contains:=Go.Dn.contains_ok lays_strings_Contains
def lays_internal_stringslite_Index_ren:Go.Shelf.Ren:=⟨fun|0=>0|1=>1|2=>2|100=>105|102=>68|109=>46|119=>95|129=>135|137=>94|138=>101|143=>102|144=>104|145=>73|152=>69|153=>45|156=>31|165=>56|166=>57|169=>58|171=>55|172=>99|195=>116|197=>117|205=>143|207=>111|209=>93|217=>112|218=>118|219=>113|220=>98|221=>75|224=>96|225=>97|226=>70|227=>71|228=>72|240=>83|241=>84|243=>82|244=>114|245=>115|246=>106|247=>128|260=>133|266=>126|267=>127|268=>100|276=>107|277=>108|279=>129|280=>130|281=>131|282=>132|283=>119|284=>120|285=>121|286=>122|287=>141|314=>140|316=>142|317=>134|318=>136|319=>137|320=>138|321=>146|322=>147|337=>144|338=>145|347=>148|348=>149|349=>150|350=>151|351=>152|352=>153|353=>154|354=>155|355=>156|356=>157|357=>158|358=>159|359=>160|360=>161|361=>162|362=>164|363=>167|364=>165|365=>166|366=>168|367=>180|n=>n,fun|0=>0|1=>1|2=>2|3=>3|4=>4|5=>5|6=>6|7=>7|8=>8|9=>9|10=>10|11=>11|12=>12|13=>13|14=>14|15=>15|16=>16|17=>17|18=>18|19=>19|20=>20|21=>21|22=>115|23=>59|24=>31|27=>65|31=>35|32=>66|37=>28|38=>29|40=>111|41=>94|43=>105|46=>108|47=>142|51=>140|52=>155|53=>53|54=>127|55=>110|59=>95|60=>96|61=>70|64=>89|67=>49|68=>36|69=>41|70=>73|71=>74|72=>75|73=>76|74=>77|75=>78|76=>79|77=>80|80=>81|81=>86|83=>71|84=>116|85=>133|86=>134|101=>51|102=>69|103=>122|104=>27|105=>124|106=>125|108=>150|111=>85|113=>99|114=>58|115=>90|116=>91|117=>92|118=>93|119=>151|124=>112|127=>102|128=>123|131=>97|137=>152|138=>153|139=>154|143=>157|144=>158|145=>159|146=>144|150=>113|151=>145|164=>117|165=>118|166=>119|167=>132|168=>135|169=>136|170=>137|171=>126|172=>128|173=>129|174=>130|175=>146|176=>147|209=>148|210=>149|211=>138|212=>139|213=>141|214=>156|232=>160|233=>161|238=>162|239=>163|240=>164|241=>165|242=>166|243=>167|244=>168|245=>169|246=>170|247=>171|248=>172|249=>173|n=>n,fun|1=>1|3=>5|4=>6|15=>3|16=>4|17=>2|18=>7|19=>8|n=>n⟩
theorem lays_internal_stringslite_Index:Go.Proofs.Lays.n219 Tryz.prog lays_internal_stringslite_Index_ren where
 mixed:=by kernel_rfl
 f217:=Tryz.func112.trans (congrArg some (by kernel_rfl))
 f219:=Tryz.func113.trans (congrArg some (by kernel_rfl))
 f224:=Tryz.func96.trans (congrArg some (by kernel_rfl))
 f225:=Tryz.func97.trans (congrArg some (by kernel_rfl))
 f266:=Tryz.func126.trans (congrArg some (by kernel_rfl))
 f267:=Tryz.func127.trans (congrArg some (by kernel_rfl))
 f314:=Tryz.func140.trans (congrArg some (by kernel_rfl))
 t3:=Tryz.underlying3
 a3:=Tryz.isAgg3
 z3:=Tryz.sizeOf3
 v3:=Tryz.zeroValue3
 t4:=Tryz.underlying4
 a4:=Tryz.isAgg4
 z4:=Tryz.sizeOf4
 v4:=Tryz.zeroValue4
 t5:=Tryz.underlying5
 a5:=Tryz.isAgg5
 z5:=Tryz.sizeOf5
 v5:=Tryz.zeroValue5
 t9:=Tryz.underlying9
 a9:=Tryz.isAgg9
 z9:=Tryz.sizeOf9
 v9:=Tryz.zeroValue9
 t46:=Tryz.underlying108
 a46:=Tryz.isAgg108
 z46:=Tryz.sizeOf108
 v46:=Tryz.zeroValue108
 t51:=Tryz.underlying140
 a51:=Tryz.isAgg140
 z51:=Tryz.sizeOf140
 v51:=Tryz.zeroValue140
 t146:=Tryz.underlying144
 a146:=Tryz.isAgg144
 z146:=Tryz.sizeOf144
 v146:=Tryz.zeroValue144
 g1:=by kernel_rfl
noncomputable def f_internal_stringslite_Index (t0:PV .str)(t1:PV .str):Option (PVs [(.int .i64)]×PVs []):=Go.Dn.indexF t0 t1
noncomputable def ct_internal_stringslite_Index:Ct:=⟨[(.bor,.str),(.bor,.str)],[((.int .i64),.b)],fun x=>f_internal_stringslite_Index x.1 x.2.1⟩
theorem ok_internal_stringslite_Index:FnOk gl Tryz.prog 113 ct_internal_stringslite_Index:=Go.Dn.indexLite_ok gl_max lays_internal_stringslite_Index
noncomputable def o_S_l1Split_5:List Out:=[⟨.normal,⟨[],[0,1,5,6,7],[]⟩,mkSh 34 [(0,.val .str .b),(1,.val (.int .u8) .b),(5,.val S_string (.row .b)),(6,.val (.int .i64) .b),(7,.val (.int .i64) .b)]⟩]
noncomputable def sh_S_l1Split_4:List Sh:=mkSh 34 [(0,.val .str .b),(1,.val (.int .u8) .b),(5,.val S_string (.row .b)),(6,.val (.int .i64) .b),(7,.val (.int .i64) .b)]
noncomputable def o_S_l1Split_4:List Out:=[⟨.exit 0,⟨[],[0,5,6],[]⟩,mkSh 34 [(0,.val .str .b),(5,.val S_string (.row .b)),(6,.val (.int .i64) .b)]⟩]
noncomputable def b_S_l1Split_4 (t0:PV .str)(t1:PV (.int .u8))(t5:PV S_string)(t6:PV (.int .i64))(t7:PV (.int .i64)):Option ((PV .str×PV (.int .u8)×PV S_string×PV (.int .i64)×PV (.int .i64)×Unit)⊕((PV .str×PV S_string×PV (.int .i64)×Unit))):=bif (decide (t7<(t0.length:Int))) then((bif inB t7 t0.length then bif (((t0.getD t7.toNat 0).toNat:Int)==t1) then bif cutB t6 t7 t0.length then bif roomB (t5.length+[(cutL t6 t7 t0)].length) then some (t0,t1,(t5++[(cutL t6 t7 t0)]),(IntKind.wrap .i64 (t7+1)),t7,()) else none else none else some (t0,t1,t5,t6,t7,()) else none:Option ((PV .str×PV (.int .u8)×PV S_string×PV (.int .i64)×PV (.int .i64)×Unit)))).bind fun j1=>some (.inl (j1.1,j1.2.1,j1.2.2.1,j1.2.2.2.1,(IntKind.wrap .i64 (j1.2.2.2.2.1+1)),())) else some (.inr (t0,t5,t6,()))
noncomputable def w_S_l1Split_4:PV .str×PV (.int .u8)×PV S_string×PV (.int .i64)×PV (.int .i64)×Unit→Option ((PV .str×PV S_string×PV (.int .i64)×Unit)):=fix fun d=>b_S_l1Split_4 d.1 d.2.1 d.2.2.1 d.2.2.2.1 d.2.2.2.2.1
noncomputable def lp_S_l1Split_4:Lp:=⟨⟨[],[0,1,5,6,7],[]⟩,sh_S_l1Split_4,o_S_l1Split_4,fun d=>b_S_l1Split_4 d.1 d.2.1 d.2.2.1 d.2.2.2.1 d.2.2.2.2.1⟩
noncomputable def pl_S_l1Split:Plan:=⟨[(5,o_S_l1Split_5)],[(4,lp_S_l1Split_4)],0,0⟩
noncomputable def f_S_l1Split (t0:PV .str)(t1:PV (.int .u8)):Option (PVs [S_string]×PVs []):=(w_S_l1Split_4 (t0,t1,[],0,0,())).bind fun l3=>bif cutB l3.2.2.1 (l3.1.length:Int) l3.1.length then bif roomB (l3.2.1.length+[(cutL l3.2.2.1 (l3.1.length:Int) l3.1)].length) then some (((l3.2.1++[(cutL l3.2.2.1 (l3.1.length:Int) l3.1)]),()),()) else none else none
noncomputable def ct_S_l1Split:Ct:=⟨[(.bor,.str),(.bor,(.int .u8))],[(S_string,(.row .b))],fun x=>f_S_l1Split x.1 x.2.1⟩
noncomputable def cx_S_l1Split:Cx:=⟨tab,arrs,[],[],gl,[]⟩
theorem eb_S_l1Split_4 (t0:PV .str)(t1:PV (.int .u8))(t5:PV S_string)(t6:PV (.int .i64))(t7:PV (.int .i64)):denK cx_S_l1Split (rcN cx_S_l1Split 0) pl_S_l1Split 0 ((loopsOf (bodyOf Tryz.f90)).getD 0 .skip) (fillS sh_S_l1Split_4 (t0,t1,t5,t6,t7,())) (roundK 0 lp_S_l1Split_4)=b_S_l1Split_4 t0 t1 t5 t6 t7:=by kernel_rfl
theorem ef_S_l1Split (t0:PV .str)(t1:PV (.int .u8)):denF cx_S_l1Split 0 pl_S_l1Split Tryz.f90.ntmps (bodyOf Tryz.f90) Tryz.f90.results.toList [(.bor,.str),(.bor,(.int .u8))] [(S_string,(.row .b))] (t0,t1,())=f_S_l1Split t0 t1:=by kernel_rfl
theorem ok_S_l1Split:FnOk gl Tryz.prog 90 ct_S_l1Split:=
 fnOk (cx:=cx_S_l1Split) (pl:=pl_S_l1Split) (dp:=0) (ok0_of tabOk (by unfold ArrOk;kernel_rfl) mix trivial trivial) Tryz.func90 (by kernel_rfl) (by kernel_rfl) (by kernel_rfl)
  (by rw[show loopsOf (bodyOf Tryz.f90)=[((loopsOf (bodyOf Tryz.f90)).getD 0 .skip)] from by kernel_rfl];exact⟨(by rw[show lookup pl_S_l1Split.loops (firstId ((loopsOf (bodyOf Tryz.f90)).getD 0 .skip))=some lp_S_l1Split_4 from by kernel_rfl];exact fun d z h=>(eb_S_l1Split_4 d.1 d.2.1 d.2.2.1 d.2.2.2.1 d.2.2.2.2.1).trans h),trivial⟩) (fun x=>ef_S_l1Split x.1 x.2.1)
noncomputable def pl_S_l1In:Plan:=⟨[],[],0,0⟩
noncomputable def f_S_l1In (t0:PV (.int .i64))(t1:PV (.int .i64))(t2:PV (.int .i64)):Option (PVs [.bool]×PVs []):=bif (decide (t0≥t1)) then some (((decide (t0≤t2)),()),()) else some ((false,()),())
noncomputable def ct_S_l1In:Ct:=⟨[(.bor,(.int .i64)),(.bor,(.int .i64)),(.bor,(.int .i64))],[(.bool,.b)],fun x=>f_S_l1In x.1 x.2.1 x.2.2.1⟩
noncomputable def cx_S_l1In:Cx:=⟨tab,arrs,[],[],gl,[]⟩
theorem ef_S_l1In (t0:PV (.int .i64))(t1:PV (.int .i64))(t2:PV (.int .i64)):denF cx_S_l1In 0 pl_S_l1In Tryz.f65.ntmps (bodyOf Tryz.f65) Tryz.f65.results.toList [(.bor,(.int .i64)),(.bor,(.int .i64)),(.bor,(.int .i64))] [(.bool,.b)] (t0,t1,t2,())=f_S_l1In t0 t1 t2:=by kernel_rfl
theorem ok_S_l1In:FnOk gl Tryz.prog 65 ct_S_l1In:=
 fnOk (cx:=cx_S_l1In) (pl:=pl_S_l1In) (dp:=0) (ok0_of tabOk (by unfold ArrOk;kernel_rfl) mix trivial trivial) Tryz.func65 (by kernel_rfl) (by kernel_rfl) (by kernel_rfl)
  (by rw[show loopsOf (bodyOf Tryz.f65)=[] from by kernel_rfl];exact trivial) (fun x=>ef_S_l1In x.1 x.2.1 x.2.2.1)
noncomputable def o_S_l1Read_2:List Out:=[⟨.normal,⟨[],[0,18,30,31,32,33],[]⟩,mkSh 44 [(0,.val .str .b),(18,.val .bool .b)]⟩]
noncomputable def o_S_l1Read_8:List Out:=[⟨.normal,⟨[],[0,3,4,34],[]⟩,mkSh 44 [(0,.val .str .b),(3,.val (.int .i64) .b),(4,.val (.int .i64) .b),(34,.val .bool .b)]⟩]
noncomputable def sh_S_l1Read_5:List Sh:=mkSh 44 [(0,.val .str .b),(3,.val (.int .i64) .b),(4,.val (.int .i64) .b)]
noncomputable def o_S_l1Read_5:List Out:=[⟨.exit 0,⟨[],[3],[]⟩,mkSh 44 [(3,.val (.int .i64) .b)]⟩,⟨.ret,⟨[],[2],[]⟩,mkSh 44 [(2,.val (.int .i64) .b)]⟩]
noncomputable def b_S_l1Read_5 (t0:PV .str)(t3:PV (.int .i64))(t4:PV (.int .i64)):Option ((PV .str×PV (.int .i64)×PV (.int .i64)×Unit)⊕((PV (.int .i64)×Unit)⊕(PV (.int .i64)×Unit))):=bif (decide (t4<(t0.length:Int))) then((bif inB t4 t0.length then bif (decide (((t0.getD t4.toNat 0).toNat:Int)<48)) then some (t0,t3,t4,true,()) else bif inB t4 t0.length then some (t0,t3,t4,(decide (((t0.getD t4.toNat 0).toNat:Int)>57)),()) else none else none:Option ((PV .str×PV (.int .i64)×PV (.int .i64)×PV .bool×Unit)))).bind fun j9=>bif j9.2.2.2.1 then some (.inr (.inr ((-1),()))) else bif inB j9.2.2.1 j9.1.length then some (.inl (j9.1,(IntKind.wrap .i64 ((IntKind.wrap .i64 (10*j9.2.1))+(IntKind.wrap .i64 (IntKind.wrap .u8 (((j9.1.getD j9.2.2.1.toNat 0).toNat:Int) -48))))),(IntKind.wrap .i64 (j9.2.2.1+1)),())) else none else some (.inr (.inl (t3,())))
noncomputable def w_S_l1Read_5:PV .str×PV (.int .i64)×PV (.int .i64)×Unit→Option ((PV (.int .i64)×Unit)⊕(PV (.int .i64)×Unit)):=fix fun d=>b_S_l1Read_5 d.1 d.2.1 d.2.2.1
noncomputable def lp_S_l1Read_5:Lp:=⟨⟨[],[0,3,4,30,31,32,33],[]⟩,sh_S_l1Read_5,o_S_l1Read_5,fun d=>b_S_l1Read_5 d.1 d.2.1 d.2.2.1⟩
noncomputable def pl_S_l1Read:Plan:=⟨[(2,o_S_l1Read_2),(8,o_S_l1Read_8)],[(5,lp_S_l1Read_5)],0,0⟩
noncomputable def f_S_l1Read (t0:PV .str):Option (PVs [(.int .i64)]×PVs []):=
 ((
   (f_S_l1In (t0.length:Int) 1 6).bind fun r4=>
     bif (!r4.1.1) then
      some (t0,true,())
     else
      bif inB 0 t0.length then
       bif (((t0.getD (0:Int).toNat 0).toNat:Int)==48) then
        some (t0,(decide ((t0.length:Int)>1)),())
       else
        some (t0,false,())
      else
       none:Option ((PV .str×PV .bool×Unit)))).bind fun j5=>
   bif j5.2.1 then
    some (((-1),()),())
   else
    (w_S_l1Read_5 (j5.1,0,0,())).bind fun x14=>
      match x14 with
      | .inl l12=>
        some ((l12.1,()),())
      | .inr l13=>
        some ((l13.1,()),())
noncomputable def ct_S_l1Read:Ct:=⟨[(.bor,.str)],[((.int .i64),.b)],fun x=>f_S_l1Read x.1⟩
noncomputable def cx_S_l1Read:Cx:=⟨tab,arrs,[(65,ct_S_l1In)],[],gl,[]⟩
theorem eb_S_l1Read_5 (t0:PV .str)(t3:PV (.int .i64))(t4:PV (.int .i64)):denK cx_S_l1Read (rcN cx_S_l1Read 0) pl_S_l1Read 0 ((loopsOf (bodyOf Tryz.f110)).getD 0 .skip) (fillS sh_S_l1Read_5 (t0,t3,t4,())) (roundK 0 lp_S_l1Read_5)=b_S_l1Read_5 t0 t3 t4:=by kernel_rfl
theorem ef_S_l1Read (t0:PV .str):denF cx_S_l1Read 0 pl_S_l1Read Tryz.f110.ntmps (bodyOf Tryz.f110) Tryz.f110.results.toList [(.bor,.str)] [((.int .i64),.b)] (t0,())=f_S_l1Read t0:=by kernel_rfl
theorem ok_S_l1Read:FnOk gl Tryz.prog 110 ct_S_l1Read:=
 fnOk (cx:=cx_S_l1Read) (pl:=pl_S_l1Read) (dp:=0) (ok0_of tabOk (by unfold ArrOk;kernel_rfl) mix ⟨ok_S_l1In,trivial⟩ trivial) Tryz.func110 (by kernel_rfl) (by kernel_rfl) (by kernel_rfl)
  (by rw[show loopsOf (bodyOf Tryz.f110)=[((loopsOf (bodyOf Tryz.f110)).getD 0 .skip)] from by kernel_rfl];exact⟨(by rw[show lookup pl_S_l1Read.loops (firstId ((loopsOf (bodyOf Tryz.f110)).getD 0 .skip))=some lp_S_l1Read_5 from by kernel_rfl];exact fun d z h=>(eb_S_l1Read_5 d.1 d.2.1 d.2.2.1).trans h),trivial⟩) (fun x=>ef_S_l1Read x.1)
noncomputable def o_S_ReadNumber_3:List Out:=[⟨.normal,⟨[],[4,13],[]⟩,mkSh 15 [(4,.val (.int .i64) .b),(13,.val .bool .b)]⟩]
noncomputable def pl_S_ReadNumber:Plan:=⟨[(3,o_S_ReadNumber_3)],[],0,0⟩
noncomputable def f_S_ReadNumber (t0:PV .str):Option (PVs [(.int .i64),.bool]×PVs []):=(f_S_l1Read t0).bind fun r2=>((bif (decide ((t0.length:Int)>4)) then some (r2.1.1,true,()) else some (r2.1.1,(decide (r2.1.1<0)),()):Option ((PV (.int .i64)×PV .bool×Unit)))).bind fun j4=>bif j4.2.1 then some ((0,false,()),()) else some ((j4.1,true,()),())
noncomputable def ct_S_ReadNumber:Ct:=⟨[(.bor,.str)],[((.int .i64),.b),(.bool,.b)],fun x=>f_S_ReadNumber x.1⟩
noncomputable def cx_S_ReadNumber:Cx:=⟨tab,arrs,[(110,ct_S_l1Read)],[],gl,[]⟩
theorem ef_S_ReadNumber (t0:PV .str):denF cx_S_ReadNumber 0 pl_S_ReadNumber Tryz.f91.ntmps (bodyOf Tryz.f91) Tryz.f91.results.toList [(.bor,.str)] [((.int .i64),.b),(.bool,.b)] (t0,())=f_S_ReadNumber t0:=by kernel_rfl
theorem ok_S_ReadNumber:FnOk gl Tryz.prog 91 ct_S_ReadNumber:=
 fnOk (cx:=cx_S_ReadNumber) (pl:=pl_S_ReadNumber) (dp:=0) (ok0_of tabOk (by unfold ArrOk;kernel_rfl) mix ⟨ok_S_l1Read,trivial⟩ trivial) Tryz.func91 (by kernel_rfl) (by kernel_rfl) (by kernel_rfl)
  (by rw[show loopsOf (bodyOf Tryz.f91)=[] from by kernel_rfl];exact trivial) (fun x=>ef_S_ReadNumber x.1)
noncomputable def o_S_l4Two_4:List Out:=[⟨.normal,⟨[],[5,6,29,45,46],[]⟩,mkSh 50 [(5,.val S_string (.row .b)),(6,.val (.int .i64) .b),(29,.val .bool .b)]⟩]
noncomputable def o_S_l4Two_9:List Out:=[⟨.normal,⟨[],[6,8,47],[]⟩,mkSh 50 [(6,.val (.int .i64) .b),(8,.val (.int .i64) .b),(47,.val .bool .b)]⟩]
noncomputable def pl_S_l4Two:Plan:=⟨[(4,o_S_l4Two_4),(9,o_S_l4Two_9)],[],0,0⟩
noncomputable def f_S_l4Two (t0:PV .str):Option (PVs [(.int .i64),(.int .i64),.bool]×PVs []):=(f_S_l1Split t0 44).bind fun r2=>bif inB 0 r2.1.1.length then(f_S_ReadNumber (r2.1.1.getD ((0:Int).toNat) [])).bind fun r4=>((bif (!r4.1.2.1) then some (r2.1.1,r4.1.1,true,()) else bif (decide ((r2.1.1.length:Int)>2)) then some (r2.1.1,r4.1.1,true,()) else some (r2.1.1,r4.1.1,(decide (r4.1.1>1000)),()):Option ((PV S_string×PV (.int .i64)×PV .bool×Unit)))).bind fun j6=>bif j6.2.2.1 then some ((0,0,false,()),()) else bif ((j6.1.length:Int)==1) then some ((j6.2.1,j6.2.1,true,()),()) else bif inB 1 j6.1.length then(f_S_ReadNumber (j6.1.getD ((1:Int).toNat) [])).bind fun r8=>((bif (!r8.1.2.1) then some (j6.2.1,r8.1.1,true,()) else some (j6.2.1,r8.1.1,(decide (r8.1.1>1000)),()):Option ((PV (.int .i64)×PV (.int .i64)×PV .bool×Unit)))).bind fun j10=>bif j10.2.2.1 then some ((0,0,false,()),()) else some ((j10.1,j10.2.1,true,()),()) else none else none
noncomputable def ct_S_l4Two:Ct:=⟨[(.bor,.str)],[((.int .i64),.b),((.int .i64),.b),(.bool,.b)],fun x=>f_S_l4Two x.1⟩
noncomputable def cx_S_l4Two:Cx:=⟨tab,arrs,[(90,ct_S_l1Split),(91,ct_S_ReadNumber)],[],gl,[]⟩
theorem ef_S_l4Two (t0:PV .str):denF cx_S_l4Two 0 pl_S_l4Two Tryz.f64.ntmps (bodyOf Tryz.f64) Tryz.f64.results.toList [(.bor,.str)] [((.int .i64),.b),((.int .i64),.b),(.bool,.b)] (t0,())=f_S_l4Two t0:=by kernel_rfl
theorem ok_S_l4Two:FnOk gl Tryz.prog 64 ct_S_l4Two:=
 fnOk (cx:=cx_S_l4Two) (pl:=pl_S_l4Two) (dp:=0) (ok0_of tabOk (by unfold ArrOk;kernel_rfl) mix ⟨ok_S_l1Split,ok_S_ReadNumber,trivial⟩ trivial) Tryz.func64 (by kernel_rfl) (by kernel_rfl) (by kernel_rfl)
  (by rw[show loopsOf (bodyOf Tryz.f64)=[] from by kernel_rfl];exact trivial) (fun x=>ef_S_l4Two x.1)
noncomputable def o_S_ReadPair_3:List Out:=[⟨.normal,⟨[],[5,6,20],[]⟩,mkSh 23 [(5,.val (.int .i64) .b),(6,.val (.int .i64) .b),(20,.val .bool .b)]⟩]
noncomputable def pl_S_ReadPair:Plan:=⟨[(3,o_S_ReadPair_3)],[],0,0⟩
noncomputable def f_S_ReadPair (t0:PV .str):Option (PVs [(.int .i64),(.int .i64),.bool]×PVs []):=(f_S_l4Two t0).bind fun r2=>((bif (!r2.1.2.2.1) then some (r2.1.1,r2.1.2.1,true,()) else some (r2.1.1,r2.1.2.1,(decide (r2.1.1>r2.1.2.1)),()):Option ((PV (.int .i64)×PV (.int .i64)×PV .bool×Unit)))).bind fun j4=>bif j4.2.2.1 then some ((0,0,false,()),()) else some ((j4.1,j4.2.1,true,()),())
noncomputable def ct_S_ReadPair:Ct:=⟨[(.bor,.str)],[((.int .i64),.b),((.int .i64),.b),(.bool,.b)],fun x=>f_S_ReadPair x.1⟩
noncomputable def cx_S_ReadPair:Cx:=⟨tab,arrs,[(64,ct_S_l4Two)],[],gl,[]⟩
theorem ef_S_ReadPair (t0:PV .str):denF cx_S_ReadPair 0 pl_S_ReadPair Tryz.f38.ntmps (bodyOf Tryz.f38) Tryz.f38.results.toList [(.bor,.str)] [((.int .i64),.b),((.int .i64),.b),(.bool,.b)] (t0,())=f_S_ReadPair t0:=by kernel_rfl
theorem ok_S_ReadPair:FnOk gl Tryz.prog 38 ct_S_ReadPair:=
 fnOk (cx:=cx_S_ReadPair) (pl:=pl_S_ReadPair) (dp:=0) (ok0_of tabOk (by unfold ArrOk;kernel_rfl) mix ⟨ok_S_l4Two,trivial⟩ trivial) Tryz.func38 (by kernel_rfl) (by kernel_rfl) (by kernel_rfl)
  (by rw[show loopsOf (bodyOf Tryz.f38)=[] from by kernel_rfl];exact trivial) (fun x=>ef_S_ReadPair x.1)
noncomputable def pl_S_l9Words:Plan:=⟨[],[],0,0⟩
noncomputable def f_S_l9Words:Option (PVs [S_string]×PVs []):=some (([[],[97],[105],[99],[100],[115,47,46,47,47]],()),())
noncomputable def ct_S_l9Words:Ct:=⟨[],[(S_string,(.row .b))],fun x=>f_S_l9Words⟩
noncomputable def cx_S_l9Words:Cx:=⟨tab,arrs,[],[],gl,[]⟩
theorem ef_S_l9Words:denF cx_S_l9Words 0 pl_S_l9Words Tryz.f39.ntmps (bodyOf Tryz.f39) Tryz.f39.results.toList [] [(S_string,(.row .b))] ()=f_S_l9Words:=by kernel_rfl
theorem ok_S_l9Words:FnOk gl Tryz.prog 39 ct_S_l9Words:=
 fnOk (cx:=cx_S_l9Words) (pl:=pl_S_l9Words) (dp:=0) (ok0_of tabOk (by unfold ArrOk;kernel_rfl) mix trivial trivial) Tryz.func39 (by kernel_rfl) (by kernel_rfl) (by kernel_rfl)
  (by rw[show loopsOf (bodyOf Tryz.f39)=[] from by kernel_rfl];exact trivial) (fun x=>ef_S_l9Words)
section
open Go.RowKit Go.Lib
set_option maxHeartbeats 4000000 in
set_option maxRecDepth 100000 in
theorem head_main (s:ByteArray)(w:World)(n m:Int)(b:Bool)(p:Nat)(W:Nat→ByteArray)(hs:s.size≤100000)(hp:p≤s.size)
 (hd:∀i (h:i<s.size),i<p→Go.Dn.hdB (s[i]'h)=true)(he:∀h:p<s.size,Go.Dn.hdB (s[p]'h)=false)
 (hR:∀w1,Below w.heap.size w w1→Calls Tryz.prog 38 #[.string (s.extract 0 p)] w1 fun e w'=>e=.returned (.tuple #[.int .i64 n,.int .i64 m,.bool b])∧Below w1.heap.size w1 w')
 (hW:∀w1,Below w.heap.size w w1→Calls Tryz.prog 39 #[] w1 fun e w'=>∃g c,e=.returned (.slice (some ⟨g,0,none⟩) 6 c)∧w1.heap.size≤g∧Below w1.heap.size w1 w'∧∀k,k<6→w'.cell? ⟨g,k,none⟩=some (.string (W k))):
 Calls Tryz.prog 19 #[.string s] w fun e w'=>e=.returned (.tuple #[.agg #[.int .i64 (Go.Dn.kdW W (s.extract p s.size) 6),.int .i64 n,.int .i64 m,.slice none 0 0],.bool (b&&decide (0<Go.Dn.kdW W (s.extract p s.size) 6))])∧Below w.heap.size w w':=by
 go_enter Tryz.func19,Tryz.ntmps19
 go_wp2
 obtain⟨w0,hw0⟩:∃w0,w.alloc (.cells #[.int .i64 0,.int .i64 0,.int .i64 0,.slice none 0 0] 38)=w0:=⟨_,rfl⟩
 rw[hw0]
 have hb0:Below w.heap.size w w0:=by rw[←hw0];exact(Below.refl _ _).alloc (Nat.le_refl _) _
 go_loopg [4] p (fun g s4 wx=>∃i:Nat,i+g=p∧s4=.int .i64 i∧wx=w0)
 case atStart=>exact⟨0,by omega,rfl,rfl⟩
 case round=>
  obtain⟨i,hig,rfl,rfl⟩:=hrel
  cases gk with
  |zero=>
   obtain rfl:i=p:=by omega
   have hR0:=hR wr hb0
   have hcase:(¬(i:Int)<(s.size:Int))∨(∃hi:i<s.size,(i:Int)<(s.size:Int)∧∃x:UInt8,s[i]'hi=x∧((¬(48:Int)≤(x.toNat:Int))∨((48:Int)≤(x.toNat:Int)∧¬(x.toNat:Int)≤57))∧((x.toNat:Int)==44)=false):=by
    by_cases hi:i<s.size
    ·exact .inr ⟨hi,by omega,_,rfl,Go.Dn.hd_no (he hi)⟩
    ·exact .inl (by omega)
   rcases hcase with hiz|⟨hi,hiz,x,hxx,h1|⟨h1,h2⟩,h3⟩
   all_goals (
    clear he hd
    go_wp2_with (go_at_fn 38;go_fit hR0;rintro e w' ⟨rfl,hb⟩)
    refine hR0.mono ?_
    rintro e w1 ⟨rfl,hb1⟩
    have hbx:Below w.heap.size w (w1.alloc (.cells #[.int .i64 0,.int .i64 n,.int .i64 m,.slice none 0 0] 38)):=(hb0.trans (hb1.mono hb0.size)).alloc (Nat.le_trans hb0.size hb1.size) _
    have hW0:=hW _ hbx
    go_wp2_with (go_at_fn 39;go_fit hW0;rintro e w' ⟨rfl,hb⟩)
    refine hW0.mono ?_
    rintro e w2 ⟨g,c,rfl,hg,hb2,hwd⟩
    have hH:Go.Dn.Hd4 w w2 w.heap.size w1.heap.size g 38 0 n m W:=Go.Dn.Hd4.start hw0 hb1 hbx hg hb2 hwd
    have hiz2:(i:Int)≤(s.size:Int):=by omega
    clear hR hW hW0 hR0 hwd
    go_wp2
    go_loopg [48] 6 (fun gh s48 wy=>∃k:Nat,k+gh=6∧s48=.int .i64 k∧Go.Dn.Hd4 w wy w.heap.size w1.heap.size g 38 (Go.Dn.kdW W (s.extract i s.size) k) n m W)
    case atStart=>exact⟨0,rfl,rfl,hH⟩
    case round=>
     obtain⟨k,hkg,rfl,hK⟩:=hrel
     cases gk with
     |zero=>
      obtain rfl:k=6:=by omega
      have hx0:wr.cell? ⟨w1.heap.size,0,none⟩=some (.int .i64 (Go.Dn.kdW W (s.extract i s.size) 6)):=by rw[Go.Dn.cell_of_heap hK.x];rfl
      have hx1:wr.cell? ⟨w1.heap.size,1,none⟩=some (.int .i64 n):=by rw[Go.Dn.cell_of_heap hK.x];rfl
      have hx2:wr.cell? ⟨w1.heap.size,2,none⟩=some (.int .i64 m):=by rw[Go.Dn.cell_of_heap hK.x];rfl
      have hx3:wr.cell? ⟨w1.heap.size,3,none⟩=some (.slice none 0 0):=by rw[Go.Dn.cell_of_heap hK.x];rfl
      have hr0:wr.cell? ⟨w.heap.size,0,none⟩=some (.int .i64 0):=by rw[Go.Dn.cell_of_heap hK.r];rfl
      have hr1:wr.cell? ⟨w.heap.size,1,none⟩=some (.int .i64 0):=by rw[Go.Dn.cell_of_heap hK.r];rfl
      have hr2:wr.cell? ⟨w.heap.size,2,none⟩=some (.int .i64 0):=by rw[Go.Dn.cell_of_heap hK.r];rfl
      have hr3:wr.cell? ⟨w.heap.size,3,none⟩=some (.slice none 0 0):=by rw[Go.Dn.cell_of_heap hK.r];rfl
      have hf0:=(hK.fz 0).2
      have hf1:=(hK.fz 1).2
      have hf2:=(hK.fz 2).2
      have hf3:=(hK.fz 3).2
      have hbw:Aside (Below w.heap.size w wr):=hK.below
      have hne1:¬w1.heap.size=w.heap.size:=by have:=hK.ne;omega
      have hne2:¬w.heap.size=w1.heap.size:=by have:=hK.ne;omega
      obtain⟨q,hq⟩:∃q,Go.Dn.kdW W (s.extract i s.size) 6=q:=⟨_,rfl⟩
      rw[hq] at hx0
      clear hK hH
      cases b
      ·go_wp2
       go_region
       go_wp2
       (try simp only[Exit.inBlock,Exit.then])
       refine bodyPost_ret (v:=.tuple #[.agg #[.int .i64 q,.int .i64 n,.int .i64 m,.slice none 0 0],.bool false]) ?_ rfl ⟨by rw[hq];rfl,?_⟩
       ·rw[results_cell_tmp rfl]
        go_simp
       ·exact((((hbw.out.setCell (p:=⟨w.heap.size,0,none⟩) (Nat.le_refl _) _).setCell (p:=⟨w.heap.size,1,none⟩) (Nat.le_refl _) _).setCell (p:=⟨w.heap.size,2,none⟩) (Nat.le_refl _) _).setCell (p:=⟨w.heap.size,3,none⟩) (Nat.le_refl _) _).drew
      ·go_wp2
       go_region
       go_wp2
       (try simp only[Exit.inBlock,Exit.then])
       refine bodyPost_ret (v:=.tuple #[.agg #[.int .i64 q,.int .i64 n,.int .i64 m,.slice none 0 0],.bool (decide (0<q))]) ?_ rfl ⟨by rw[hq];rfl,?_⟩
       ·rw[results_cell_tmp rfl]
        go_simp
       ·exact((((hbw.out.setCell (p:=⟨w.heap.size,0,none⟩) (Nat.le_refl _) _).setCell (p:=⟨w.heap.size,1,none⟩) (Nat.le_refl _) _).setCell (p:=⟨w.heap.size,2,none⟩) (Nat.le_refl _) _).setCell (p:=⟨w.heap.size,3,none⟩) (Nat.le_refl _) _).drew
     |succ gh=>
      have hk6:(k:Int)<6:=by omega
      have hcell:=hK.wd k (by omega)
      have hc0:wr.cell? ⟨w1.heap.size,0,none⟩=some (.int .i64 (Go.Dn.kdW W (s.extract i s.size) k)):=by rw[Go.Dn.cell_of_heap hK.x];rfl
      have hf0:=(hK.fz 0).1
      by_cases hk0:0<k
      ·have hk0z:(0:Int)<(k:Int):=by omega
       by_cases hm:W k=s.extract i s.size
       ·have hmb:((W k).toList==(s.extract i s.size).toList)=true:=by rw[hm];exact Go.Dn.ba_eq _
        have hkd:Go.Dn.kdW W (s.extract i s.size) (k+1)=(k:Int):=if_pos ⟨hk0,hm⟩
        have HK:Aside (Go.Dn.Hd4 w (wr.setCell ⟨w1.heap.size,0,none⟩ (.int .i64 (k:Int))) w.heap.size w1.heap.size g 38 (Go.Dn.kdW W (s.extract i s.size) (k+1)) n m W):=by
         rw[hkd]
         exact hK.set (k:Int)
        clear hK hm hH hkd
        go_wp2
        go_roundg gh
        case measure=>omega
        case rel=>exact⟨k+1,by omega,by first|rfl|simp,HK.out⟩
       ·have hmb:((W k).toList==(s.extract i s.size).toList)=false:=Go.Dn.ba_ne hm
        have hkd:Go.Dn.kdW W (s.extract i s.size) (k+1)=Go.Dn.kdW W (s.extract i s.size) k:=if_neg fun h=>hm h.2
        rw[←hkd] at hK
        have HK:Aside (Go.Dn.Hd4 w wr w.heap.size w1.heap.size g 38 (Go.Dn.kdW W (s.extract i s.size) (k+1)) n m W):=hK
        clear hK hm hH hkd
        go_wp2
        go_roundg gh
        case measure=>omega
        case rel=>exact⟨k+1,by omega,by first|rfl|simp,HK.out⟩
      ·have hk0z:¬(0:Int)<(k:Int):=by omega
       have hkd:Go.Dn.kdW W (s.extract i s.size) (k+1)=Go.Dn.kdW W (s.extract i s.size) k:=if_neg fun h=>hk0 h.1
       rw[←hkd] at hK
       have HK:Aside (Go.Dn.Hd4 w wr w.heap.size w1.heap.size g 38 (Go.Dn.kdW W (s.extract i s.size) (k+1)) n m W):=hK
       clear hK hH hkd
       go_wp2
       go_roundg gh
       case measure=>omega
       case rel=>exact⟨k+1,by omega,by first|rfl|simp,HK.out⟩)
  |succ g=>
   have hi:i<s.size:=by omega
   have hx:=hd i hi (by omega)
   obtain⟨x,hxx⟩:∃x:UInt8,s[i]'hi=x:=⟨_,rfl⟩
   rw[hxx] at hx
   have hiz:(i:Int)<(s.size:Int):=by omega
   by_cases h1:(48:Int)≤(x.toNat:Int)
   ·by_cases h2:(x.toNat:Int)≤57
    ·clear hx
     go_wp2
     go_roundg g
     case measure=>omega
     case rel=>exact⟨i+1,by omega,by first|rfl|simp,rfl⟩
    ·have hx44:((x.toNat:Int)==44)=true:=Go.Dn.hd_44 hx (fun _=>h2)
     clear hx
     go_wp2
     go_roundg g
     case measure=>omega
     case rel=>exact⟨i+1,by omega,by first|rfl|simp,rfl⟩
   ·have hx44:((x.toNat:Int)==44)=true:=Go.Dn.hd_44 hx (fun h=>absurd h h1)
    clear hx
    go_wp2
    go_roundg g
    case measure=>omega
    case rel=>exact⟨i+1,by omega,by first|rfl|simp,rfl⟩
end
noncomputable def f_S_l9Head (t0:PV .str):Option (PVs [Y_impl_Order,.bool]×PVs []):=Go.Dn.headF 9 f_S_ReadPair [[],[97],[105],[99],[100],[115,47,46,47,47]] t0
noncomputable def ct_S_l9Head:Ct:=⟨[(.bor,.str)],[(Y_impl_Order,(.pr .b (.pr .b (.pr .b (.pr (.row .b) .b))))),(.bool,.b)],fun x=>f_S_l9Head x.1⟩
theorem ok_S_l9Head:FnOk gl Tryz.prog 19 ct_S_l9Head:=Go.Dn.head_ok (e:=9) (RP:=f_S_ReadPair) (ws:=[[],[97],[105],[99],[100],[115,47,46,47,47]]) rfl ⟨_,Tryz.func19,rfl,by kernel_rfl⟩ ok_S_ReadPair ok_S_l9Words head_main
noncomputable def pl_L_big:Plan:=⟨[],[],0,0⟩
noncomputable def f_L_big (t0:PV S_uint8)(t1:PV S_uint8):Option (PVs [.bool]×PVs []):=bif (decide ((t0.length:Int)>1048576)) then some ((true,()),()) else some (((decide ((t1.length:Int)>(IntKind.wrap .i64 (1048576 -(t0.length:Int))))),()),())
noncomputable def ct_L_big:Ct:=⟨[(.bor,S_uint8),(.bor,S_uint8)],[(.bool,.b)],fun x=>f_L_big x.1 x.2.1⟩
noncomputable def cx_L_big:Cx:=⟨tab,arrs,[],[],gl,[]⟩
theorem ef_L_big (t0:PV S_uint8)(t1:PV S_uint8):denF cx_L_big 0 pl_L_big Tryz.f10.ntmps (bodyOf Tryz.f10) Tryz.f10.results.toList [(.bor,S_uint8),(.bor,S_uint8)] [(.bool,.b)] (t0,t1,())=f_L_big t0 t1:=by kernel_rfl
theorem ok_L_big:FnOk gl Tryz.prog 10 ct_L_big:=
 fnOk (cx:=cx_L_big) (pl:=pl_L_big) (dp:=0) (ok0_of tabOk (by unfold ArrOk;kernel_rfl) mix trivial trivial) Tryz.func10 (by kernel_rfl) (by kernel_rfl) (by kernel_rfl)
  (by rw[show loopsOf (bodyOf Tryz.f10)=[] from by kernel_rfl];exact trivial) (fun x=>ef_L_big x.1 x.2.1)
noncomputable def o_S_l1Cur_next_4:List Out:=[⟨.normal,⟨[],[0,3],[]⟩,mkSh 63 [(0,.var Y_spec_l1Cur .b),(1,.addr ⟨0,[],0,0⟩),(4,.val (.int .i64) .b)]⟩]
noncomputable def pl_S_l1Cur_next:Plan:=⟨[(4,o_S_l1Cur_next_4)],[],0,1⟩
noncomputable def f_S_l1Cur_next (t0:PV Y_spec_l1Cur):Option (PVs [(.int .i64)]×PVs [Y_spec_l1Cur]):=((bif (decide (t0.2.1<(t0.1.length:Int))) then bif inB t0.2.1 t0.1.length then some (t0,(IntKind.wrap .i64 (t0.1.getD t0.2.1.toNat (0:Int))),()) else none else some (t0,0,()):Option ((PV Y_spec_l1Cur×PV (.int .i64)×Unit)))).bind fun j1=>bif (decide ((IntKind.wrap .i64 (j1.1.2.1+1))≤(j1.1.1.length:Int))) then some ((j1.2.1,()),((j1.1.1,((IntKind.wrap .i64 (j1.1.2.1+1)),((IntKind.wrap .u64 ((IntKind.wrap .u64 ((IntKind.wrap .u64 (j1.1.2.2.1*6364136223846793005))+(IntKind.wrap .u64 j1.2.1)))+1442695040888963407)),j1.1.2.2.2))),())) else bif decide (0≤40) then some (((IntKind.wrap .i64 (IntKind.wrap .u64 ((BitVec.ofInt (IntKind.bits .u64) ((IntKind.wrap .u64 ((IntKind.wrap .u64 ((IntKind.wrap .u64 (j1.1.2.2.1*6364136223846793005))+(IntKind.wrap .u64 j1.2.1)))+1442695040888963407)).fdiv (2^(min (40:Int).toNat (IntKind.bits .u64))))&&&BitVec.ofInt (IntKind.bits .u64) 255).toNat:Int))),()),((j1.1.1,((IntKind.wrap .i64 (j1.1.2.1+1)),((IntKind.wrap .u64 ((IntKind.wrap .u64 ((IntKind.wrap .u64 (j1.1.2.2.1*6364136223846793005))+(IntKind.wrap .u64 j1.2.1)))+1442695040888963407)),j1.1.2.2.2))),())) else none
noncomputable def ct_S_l1Cur_next:Ct:=⟨[(.ptr,Y_spec_l1Cur)],[((.int .i64),.b)],fun x=>f_S_l1Cur_next x.1⟩
noncomputable def cx_S_l1Cur_next:Cx:=⟨tab,arrs,[],[],gl,[]⟩
theorem ef_S_l1Cur_next (t0:PV Y_spec_l1Cur):denF cx_S_l1Cur_next 0 pl_S_l1Cur_next Tryz.f63.ntmps (bodyOf Tryz.f63) Tryz.f63.results.toList [(.ptr,Y_spec_l1Cur)] [((.int .i64),.b)] (t0,())=f_S_l1Cur_next t0:=by kernel_rfl
theorem ok_S_l1Cur_next:FnOk gl Tryz.prog 63 ct_S_l1Cur_next:=
 fnOk (cx:=cx_S_l1Cur_next) (pl:=pl_S_l1Cur_next) (dp:=0) (ok0_of tabOk (by unfold ArrOk;kernel_rfl) mix trivial trivial) Tryz.func63 (by kernel_rfl) (by kernel_rfl) (by kernel_rfl)
  (by rw[show loopsOf (bodyOf Tryz.f63)=[] from by kernel_rfl];exact trivial) (fun x=>ef_S_l1Cur_next x.1)
noncomputable def o_S_l1Cur_pick_6:List Out:=[⟨.normal,⟨[],[1,5],[]⟩,mkSh 21 [(0,.var Y_spec_l1Cur .b),(2,.val (.int .i64) .b),(6,.val (.int .i64) .b)]⟩]
noncomputable def pl_S_l1Cur_pick:Plan:=⟨[(6,o_S_l1Cur_pick_6)],[],0,1⟩
noncomputable def f_S_l1Cur_pick (t0:PV Y_spec_l1Cur)(t1:PV (.int .i64)):Option (PVs [(.int .i64)]×PVs [Y_spec_l1Cur]):=bif (decide (t1≤1)) then some ((0,()),(t0,())) else(f_S_l1Cur_next t0).bind fun r2=>((bif (decide (t1>200)) then(f_S_l1Cur_next r2.2.1).bind fun r4=>some (r4.2.1,t1,(IntKind.wrap .i64 ((IntKind.wrap .i64 (r2.1.1*256))+r4.1.1)),()) else some (r2.2.1,t1,r2.1.1,()):Option ((PV Y_spec_l1Cur×PV (.int .i64)×PV (.int .i64)×Unit)))).bind fun j5=>bif j5.2.1==0 then none else some (((j5.2.2.1.tmod j5.2.1),()),(j5.1,()))
noncomputable def ct_S_l1Cur_pick:Ct:=⟨[(.ptr,Y_spec_l1Cur),(.bor,(.int .i64))],[((.int .i64),.b)],fun x=>f_S_l1Cur_pick x.1 x.2.1⟩
noncomputable def cx_S_l1Cur_pick:Cx:=⟨tab,arrs,[(63,ct_S_l1Cur_next)],[],gl,[]⟩
theorem ef_S_l1Cur_pick (t0:PV Y_spec_l1Cur)(t1:PV (.int .i64)):denF cx_S_l1Cur_pick 0 pl_S_l1Cur_pick Tryz.f35.ntmps (bodyOf Tryz.f35) Tryz.f35.results.toList [(.ptr,Y_spec_l1Cur),(.bor,(.int .i64))] [((.int .i64),.b)] (t0,t1,())=f_S_l1Cur_pick t0 t1:=by kernel_rfl
theorem ok_S_l1Cur_pick:FnOk gl Tryz.prog 35 ct_S_l1Cur_pick:=
 fnOk (cx:=cx_S_l1Cur_pick) (pl:=pl_S_l1Cur_pick) (dp:=0) (ok0_of tabOk (by unfold ArrOk;kernel_rfl) mix ⟨ok_S_l1Cur_next,trivial⟩ trivial) Tryz.func35 (by kernel_rfl) (by kernel_rfl) (by kernel_rfl)
  (by rw[show loopsOf (bodyOf Tryz.f35)=[] from by kernel_rfl];exact trivial) (fun x=>ef_S_l1Cur_pick x.1 x.2.1)
noncomputable def pl_S_l1Cur_line_37:Plan:=⟨[],[],0,7⟩
noncomputable def pl_S_l1Cur_line:Plan:=⟨[],[],1,1⟩
noncomputable def f_S_l1Cur_line (t0:PV Y_spec_l1Cur):Option (PVs [.str]×PVs [Y_spec_l1Cur]):=(f_S_l1Cur_pick t0 ([[97],[98],[99],[100],[],[46],[46,46],[111,110,101,32,116,119,111],[43,120],[45,121],[92,32,122],[64,64]].length:Int)).bind fun r1=>bif inB r1.1.1 [[97],[98],[99],[100],[],[46],[46,46],[111,110,101,32,116,119,111],[43,120],[45,121],[92,32,122],[64,64]].length then some ((([[97],[98],[99],[100],[],[46],[46,46],[111,110,101,32,116,119,111],[43,120],[45,121],[92,32,122],[64,64]].getD r1.1.1.toNat []),()),(r1.2.1,())) else none
noncomputable def ct_S_l1Cur_line:Ct:=⟨[(.ptr,Y_spec_l1Cur)],[(.str,.b)],fun x=>f_S_l1Cur_line x.1⟩
noncomputable def cx_S_l1Cur_line:Cx:=⟨tab,arrs,[(35,ct_S_l1Cur_pick)],[(37,Tryz.f37,pl_S_l1Cur_line_37)],gl,[]⟩
theorem ef_S_l1Cur_line (t0:PV Y_spec_l1Cur):denF cx_S_l1Cur_line 1 pl_S_l1Cur_line Tryz.f85.ntmps (bodyOf Tryz.f85) Tryz.f85.results.toList [(.ptr,Y_spec_l1Cur)] [(.str,.b)] (t0,())=f_S_l1Cur_line t0:=by kernel_rfl
theorem ok_S_l1Cur_line:FnOk gl Tryz.prog 85 ct_S_l1Cur_line:=
 fnOk (cx:=cx_S_l1Cur_line) (pl:=pl_S_l1Cur_line) (dp:=1) (ok0_of tabOk (by unfold ArrOk;kernel_rfl) mix ⟨ok_S_l1Cur_pick,trivial⟩ ⟨⟨Tryz.func37,by kernel_rfl,(by rw[show loopsOf (bodyOf Tryz.f37)=[] from by kernel_rfl];exact trivial)⟩,trivial⟩) Tryz.func85 (by kernel_rfl) (by kernel_rfl) (by kernel_rfl)
  (by rw[show loopsOf (bodyOf Tryz.f85)=[] from by kernel_rfl];exact trivial) (fun x=>ef_S_l1Cur_line x.1)
noncomputable def pl_S_l1Cur_one:Plan:=⟨[],[],0,1⟩
noncomputable def f_S_l1Cur_one (t0:PV Y_spec_l1Cur)(t1:PV (.int .i64)):Option (PVs [.bool]×PVs [Y_spec_l1Cur]):=(f_S_l1Cur_pick t0 t1).bind fun r1=>some (((r1.1.1==0),()),(r1.2.1,()))
noncomputable def ct_S_l1Cur_one:Ct:=⟨[(.ptr,Y_spec_l1Cur),(.bor,(.int .i64))],[(.bool,.b)],fun x=>f_S_l1Cur_one x.1 x.2.1⟩
noncomputable def cx_S_l1Cur_one:Cx:=⟨tab,arrs,[(35,ct_S_l1Cur_pick)],[],gl,[]⟩
theorem ef_S_l1Cur_one (t0:PV Y_spec_l1Cur)(t1:PV (.int .i64)):denF cx_S_l1Cur_one 0 pl_S_l1Cur_one Tryz.f62.ntmps (bodyOf Tryz.f62) Tryz.f62.results.toList [(.ptr,Y_spec_l1Cur),(.bor,(.int .i64))] [(.bool,.b)] (t0,t1,())=f_S_l1Cur_one t0 t1:=by kernel_rfl
theorem ok_S_l1Cur_one:FnOk gl Tryz.prog 62 ct_S_l1Cur_one:=
 fnOk (cx:=cx_S_l1Cur_one) (pl:=pl_S_l1Cur_one) (dp:=0) (ok0_of tabOk (by unfold ArrOk;kernel_rfl) mix ⟨ok_S_l1Cur_pick,trivial⟩ trivial) Tryz.func62 (by kernel_rfl) (by kernel_rfl) (by kernel_rfl)
  (by rw[show loopsOf (bodyOf Tryz.f62)=[] from by kernel_rfl];exact trivial) (fun x=>ef_S_l1Cur_one x.1 x.2.1)
noncomputable def o_S_l1Cur_text_8:List Out:=[⟨.normal,⟨[],[3],[]⟩,mkSh 27 [(0,.var Y_spec_l1Cur .b),(4,.val S_string (.row .b))]⟩]
noncomputable def pl_S_l1Cur_text_37:Plan:=⟨[],[],0,27⟩
noncomputable def sh_S_l1Cur_text_3:List Sh:=mkSh 27 [(0,.var Y_spec_l1Cur .b),(1,.addr ⟨0,[],0,0⟩),(4,.val S_string (.row .b)),(5,.val (.int .i64) .b)]
noncomputable def o_S_l1Cur_text_3:List Out:=[⟨.exit 0,⟨[],[0,3],[]⟩,mkSh 27 [(0,.var Y_spec_l1Cur .b),(1,.addr ⟨0,[],0,0⟩),(4,.val S_string (.row .b))]⟩]
noncomputable def b_S_l1Cur_text_3 (t0:PV Y_spec_l1Cur)(t4:PV S_string)(t5:PV (.int .i64)):Option ((PV Y_spec_l1Cur×PV S_string×PV (.int .i64)×Unit)⊕((PV Y_spec_l1Cur×PV S_string×Unit))):=bif (decide (t5>0)) then(f_S_l1Cur_line t0).bind fun r4=>bif decide (r4.1.1.length+[10].length≤1099511627776) then bif roomB (t4.length+[(r4.1.1++[10])].length) then some (.inl (r4.2.1,(t4++[(r4.1.1++[10])]),(IntKind.wrap .i64 (t5 -1)),())) else none else none else some (.inr (t0,t4,()))
noncomputable def w_S_l1Cur_text_3:PV Y_spec_l1Cur×PV S_string×PV (.int .i64)×Unit→Option ((PV Y_spec_l1Cur×PV S_string×Unit)):=fix fun d=>b_S_l1Cur_text_3 d.1 d.2.1 d.2.2.1
noncomputable def lp_S_l1Cur_text_3:Lp:=⟨⟨[],[0,3,4],[]⟩,sh_S_l1Cur_text_3,o_S_l1Cur_text_3,fun d=>b_S_l1Cur_text_3 d.1 d.2.1 d.2.2.1⟩
noncomputable def pl_S_l1Cur_text:Plan:=⟨[(8,o_S_l1Cur_text_8)],[(3,lp_S_l1Cur_text_3)],1,1⟩
noncomputable def f_S_l1Cur_text (t0:PV Y_spec_l1Cur):Option (PVs [S_string]×PVs [Y_spec_l1Cur]):=(f_S_l1Cur_pick t0 9).bind fun r7=>(w_S_l1Cur_text_3 (r7.2.1,[],r7.1.1,())).bind fun l8=>(((f_S_l1Cur_one l8.1 5).bind fun r13=>bif r13.1.1 then(f_S_l1Cur_pick r13.2.1 ([[97],[101,110,100],[46]].length:Int)).bind fun r14=>bif inB r14.1.1 [[97],[101,110,100],[46]].length then bif roomB (l8.2.1.length+[([[97],[101,110,100],[46]].getD r14.1.1.toNat [])].length) then some (r14.2.1,(l8.2.1++[([[97],[101,110,100],[46]].getD r14.1.1.toNat [])]),()) else none else none else some (r13.2.1,l8.2.1,()):Option ((PV Y_spec_l1Cur×PV S_string×Unit)))).bind fun j15=>some ((j15.2.1,()),(j15.1,()))
noncomputable def ct_S_l1Cur_text:Ct:=⟨[(.ptr,Y_spec_l1Cur)],[(S_string,.b)],fun x=>f_S_l1Cur_text x.1⟩
noncomputable def cx_S_l1Cur_text:Cx:=⟨tab,arrs,[(35,ct_S_l1Cur_pick),(62,ct_S_l1Cur_one),(85,ct_S_l1Cur_line)],[(37,Tryz.f37,pl_S_l1Cur_text_37)],gl,[]⟩
theorem eb_S_l1Cur_text_3 (t0:PV Y_spec_l1Cur)(t4:PV S_string)(t5:PV (.int .i64)):denK cx_S_l1Cur_text (rcN cx_S_l1Cur_text 1) pl_S_l1Cur_text 1 ((loopsOf (bodyOf Tryz.f59)).getD 0 .skip) (fillS sh_S_l1Cur_text_3 (t0,t4,t5,())) (roundK 1 lp_S_l1Cur_text_3)=b_S_l1Cur_text_3 t0 t4 t5:=by kernel_rfl
theorem ef_S_l1Cur_text (t0:PV Y_spec_l1Cur):denF cx_S_l1Cur_text 1 pl_S_l1Cur_text Tryz.f59.ntmps (bodyOf Tryz.f59) Tryz.f59.results.toList [(.ptr,Y_spec_l1Cur)] [(S_string,.b)] (t0,())=f_S_l1Cur_text t0:=by kernel_rfl
theorem ok_S_l1Cur_text:FnOk gl Tryz.prog 59 ct_S_l1Cur_text:=
 fnOk (cx:=cx_S_l1Cur_text) (pl:=pl_S_l1Cur_text) (dp:=1) (ok0_of tabOk (by unfold ArrOk;kernel_rfl) mix ⟨ok_S_l1Cur_pick,ok_S_l1Cur_one,ok_S_l1Cur_line,trivial⟩ ⟨⟨Tryz.func37,by kernel_rfl,(by rw[show loopsOf (bodyOf Tryz.f37)=[] from by kernel_rfl];exact trivial)⟩,trivial⟩) Tryz.func59 (by kernel_rfl) (by kernel_rfl) (by kernel_rfl)
  (by rw[show loopsOf (bodyOf Tryz.f59)=[((loopsOf (bodyOf Tryz.f59)).getD 0 .skip)] from by kernel_rfl];exact⟨(by rw[show lookup pl_S_l1Cur_text.loops (firstId ((loopsOf (bodyOf Tryz.f59)).getD 0 .skip))=some lp_S_l1Cur_text_3 from by kernel_rfl];exact fun d z h=>(eb_S_l1Cur_text_3 d.1 d.2.1 d.2.2.1).trans h),trivial⟩) (fun x=>ef_S_l1Cur_text x.1)
noncomputable def pl_S_l1Least:Plan:=⟨[],[],0,0⟩
noncomputable def f_S_l1Least (t0:PV (.int .i64))(t1:PV (.int .i64)):Option (PVs [(.int .i64)]×PVs []):=bif (decide (t0<t1)) then some ((t0,()),()) else some ((t1,()),())
noncomputable def ct_S_l1Least:Ct:=⟨[(.bor,(.int .i64)),(.bor,(.int .i64))],[((.int .i64),.b)],fun x=>f_S_l1Least x.1 x.2.1⟩
noncomputable def cx_S_l1Least:Cx:=⟨tab,arrs,[],[],gl,[]⟩
theorem ef_S_l1Least (t0:PV (.int .i64))(t1:PV (.int .i64)):denF cx_S_l1Least 0 pl_S_l1Least Tryz.f88.ntmps (bodyOf Tryz.f88) Tryz.f88.results.toList [(.bor,(.int .i64)),(.bor,(.int .i64))] [((.int .i64),.b)] (t0,t1,())=f_S_l1Least t0 t1:=by kernel_rfl
theorem ok_S_l1Least:FnOk gl Tryz.prog 88 ct_S_l1Least:=
 fnOk (cx:=cx_S_l1Least) (pl:=pl_S_l1Least) (dp:=0) (ok0_of tabOk (by unfold ArrOk;kernel_rfl) mix trivial trivial) Tryz.func88 (by kernel_rfl) (by kernel_rfl) (by kernel_rfl)
  (by rw[show loopsOf (bodyOf Tryz.f88)=[] from by kernel_rfl];exact trivial) (fun x=>ef_S_l1Least x.1 x.2.1)
noncomputable def pl_S_l1Ends:Plan:=⟨[],[],0,0⟩
noncomputable def f_S_l1Ends (t0:PV .str):Option (PVs [.bool]×PVs []):=bif inB (IntKind.wrap .i64 ((t0.length:Int) -1)) t0.length then some (((((t0.getD (IntKind.wrap .i64 ((t0.length:Int) -1)).toNat 0).toNat:Int)==10),()),()) else none
noncomputable def ct_S_l1Ends:Ct:=⟨[(.bor,.str)],[(.bool,.b)],fun x=>f_S_l1Ends x.1⟩
noncomputable def cx_S_l1Ends:Cx:=⟨tab,arrs,[],[],gl,[]⟩
theorem ef_S_l1Ends (t0:PV .str):denF cx_S_l1Ends 0 pl_S_l1Ends Tryz.f40.ntmps (bodyOf Tryz.f40) Tryz.f40.results.toList [(.bor,.str)] [(.bool,.b)] (t0,())=f_S_l1Ends t0:=by kernel_rfl
theorem ok_S_l1Ends:FnOk gl Tryz.prog 40 ct_S_l1Ends:=
 fnOk (cx:=cx_S_l1Ends) (pl:=pl_S_l1Ends) (dp:=0) (ok0_of tabOk (by unfold ArrOk;kernel_rfl) mix trivial trivial) Tryz.func40 (by kernel_rfl) (by kernel_rfl) (by kernel_rfl)
  (by rw[show loopsOf (bodyOf Tryz.f40)=[] from by kernel_rfl];exact trivial) (fun x=>ef_S_l1Ends x.1)
noncomputable def pl_S_l1Whole:Plan:=⟨[],[],0,0⟩
noncomputable def f_S_l1Whole (t0:PV S_string):Option (PVs [.bool]×PVs []):=bif ((t0.length:Int)==0) then some ((true,()),()) else bif inB (IntKind.wrap .i64 ((t0.length:Int) -1)) t0.length then(f_S_l1Ends (t0.getD ((IntKind.wrap .i64 ((t0.length:Int) -1)).toNat) [])).bind fun r1=>some ((r1.1.1,()),()) else none
noncomputable def ct_S_l1Whole:Ct:=⟨[(.bor,S_string)],[(.bool,.b)],fun x=>f_S_l1Whole x.1⟩
noncomputable def cx_S_l1Whole:Cx:=⟨tab,arrs,[(40,ct_S_l1Ends)],[],gl,[]⟩
theorem ef_S_l1Whole (t0:PV S_string):denF cx_S_l1Whole 0 pl_S_l1Whole Tryz.f89.ntmps (bodyOf Tryz.f89) Tryz.f89.results.toList [(.bor,S_string)] [(.bool,.b)] (t0,())=f_S_l1Whole t0:=by kernel_rfl
theorem ok_S_l1Whole:FnOk gl Tryz.prog 89 ct_S_l1Whole:=
 fnOk (cx:=cx_S_l1Whole) (pl:=pl_S_l1Whole) (dp:=0) (ok0_of tabOk (by unfold ArrOk;kernel_rfl) mix ⟨ok_S_l1Ends,trivial⟩ trivial) Tryz.func89 (by kernel_rfl) (by kernel_rfl) (by kernel_rfl)
  (by rw[show loopsOf (bodyOf Tryz.f89)=[] from by kernel_rfl];exact trivial) (fun x=>ef_S_l1Whole x.1)
noncomputable def o_S_l1Cur_hunks_10:List Out:=[⟨.normal,⟨[],[0,1,5,6,7,16,17,18,68],[]⟩,mkSh 83 [(0,.var Y_spec_l1Cur .b),(1,.addr ⟨0,[],0,0⟩),(2,.val S_string .b),(6,.val S_impl_Hunk (.row .b)),(7,.val (.int .i64) .b),(8,.var Y_impl_Hunk .b),(17,.sub ⟨6,[],0,0⟩),(18,.val (.int .i64) .b),(19,.val .bool .b),(69,.val .bool .b)]⟩]
noncomputable def o_S_l1Cur_hunks_11:List Out:=[⟨.normal,⟨[],[0,1,5,6,7,17,18,52,53,54,55,56,57,58,59,60,61,62,63,64,65,66,67],[]⟩,mkSh 83 [(0,.var Y_spec_l1Cur .b),(1,.addr ⟨0,[],0,0⟩),(2,.val S_string .b),(6,.val S_impl_Hunk (.row .b)),(7,.val (.int .i64) .b),(8,.var Y_impl_Hunk .b),(18,.val (.int .i64) .b),(19,.val .bool .b)]⟩]
noncomputable def sh_S_l1Cur_hunks_6:List Sh:=mkSh 83 [(0,.var Y_spec_l1Cur .b),(1,.addr ⟨0,[],0,0⟩),(2,.val S_string .b),(6,.val S_impl_Hunk (.row .b)),(7,.val (.int .i64) .b),(8,.var Y_impl_Hunk (.pr .b (.pr .b (.pr (.row .b) .b)))),(9,.val (.int .i64) .b),(17,.sub ⟨6,[],0,0⟩),(18,.val (.int .i64) .b),(19,.val .bool .b)]
noncomputable def o_S_l1Cur_hunks_6:List Out:=[⟨.exit 2,⟨[(7,.b)],[0,1,5,6,7,16,17,18,52,53,54,55,56,57,58,59,60,61,62,63,64,65,66,67],[]⟩,mkSh 83 [(0,.var Y_spec_l1Cur .b),(1,.addr ⟨0,[],0,0⟩),(2,.val S_string .b),(6,.val S_impl_Hunk (.row .b)),(7,.val (.int .i64) .b),(8,.var Y_impl_Hunk .b),(17,.sub ⟨6,[],0,0⟩),(18,.val (.int .i64) .b),(19,.val .bool .b)]⟩]
noncomputable def b_S_l1Cur_hunks_6 (t0:PV Y_spec_l1Cur)(t2:PV S_string)(t6:PV S_impl_Hunk)(t7:PV (.int .i64))(t8:PV Y_impl_Hunk)(t9:PV (.int .i64))(t18:PV (.int .i64))(t19:PV .bool):Option ((PV Y_spec_l1Cur×PV S_string×PV S_impl_Hunk×PV (.int .i64)×PV Y_impl_Hunk×PV (.int .i64)×PV (.int .i64)×PV .bool×Unit)⊕((PV Y_spec_l1Cur×PV S_string×PV S_impl_Hunk×PV (.int .i64)×PV Y_impl_Hunk×PV (.int .i64)×PV .bool×Unit))):=bif (decide (t9>0)) then(f_S_l1Cur_line t0).bind fun r29=>bif decide (r29.1.1.length+[10].length≤1099511627776) then bif roomB (t8.2.2.1.length+[(r29.1.1++[10])].length) then some (.inl (r29.2.1,t2,t6,t7,(t8.1,(t8.2.1,((t8.2.2.1++[(r29.1.1++[10])]),t8.2.2.2))),(IntKind.wrap .i64 (t9 -1)),t18,t19,())) else none else none else some (.inr (t0,t2,t6,t7,t8,t18,t19,()))
noncomputable def w_S_l1Cur_hunks_6:PV Y_spec_l1Cur×PV S_string×PV S_impl_Hunk×PV (.int .i64)×PV Y_impl_Hunk×PV (.int .i64)×PV (.int .i64)×PV .bool×Unit→Option ((PV Y_spec_l1Cur×PV S_string×PV S_impl_Hunk×PV (.int .i64)×PV Y_impl_Hunk×PV (.int .i64)×PV .bool×Unit)):=fix fun d=>b_S_l1Cur_hunks_6 d.1 d.2.1 d.2.2.1 d.2.2.2.1 d.2.2.2.2.1 d.2.2.2.2.2.1 d.2.2.2.2.2.2.1 d.2.2.2.2.2.2.2.1
noncomputable def lp_S_l1Cur_hunks_6:Lp:=⟨⟨[],[0,1,5,6,7,8,16,17,18,52,53,54,55,56,57,58,59,60,61,62,63,64,65,66,67],[]⟩,sh_S_l1Cur_hunks_6,o_S_l1Cur_hunks_6,fun d=>b_S_l1Cur_hunks_6 d.1 d.2.1 d.2.2.1 d.2.2.2.1 d.2.2.2.2.1 d.2.2.2.2.2.1 d.2.2.2.2.2.2.1 d.2.2.2.2.2.2.2.1⟩
noncomputable def sh_S_l1Cur_hunks_3:List Sh:=mkSh 83 [(0,.var Y_spec_l1Cur .b),(1,.addr ⟨0,[],0,0⟩),(2,.val S_string .b),(6,.val S_impl_Hunk (.row .b)),(7,.val (.int .i64) .b)]
noncomputable def o_S_l1Cur_hunks_3:List Out:=[⟨.exit 0,⟨[],[5],[]⟩,mkSh 83 [(0,.var Y_spec_l1Cur .b),(6,.val S_impl_Hunk (.row .b))]⟩]
noncomputable def b_S_l1Cur_hunks_3 (t0:PV Y_spec_l1Cur)(t2:PV S_string)(t6:PV S_impl_Hunk)(t7:PV (.int .i64)):Option ((PV Y_spec_l1Cur×PV S_string×PV S_impl_Hunk×PV (.int .i64)×Unit)⊕((PV Y_spec_l1Cur×PV S_impl_Hunk×Unit))):=bif (decide (t7≤(t2.length:Int))) then bif (decide ((t6.length:Int)<6)) then(f_S_l1Least 3 (IntKind.wrap .i64 ((t2.length:Int) -t7))).bind fun r24=>(f_S_l1Cur_pick t0 (IntKind.wrap .i64 (r24.1.1+1))).bind fun r25=>(f_S_l1Cur_pick r25.2.1 3).bind fun r30=>(w_S_l1Cur_hunks_6 (r30.2.1,t2,t6,t7,(t7,(r25.1.1,(([]:PV S_string),()))),r30.1.1,(t6.length:Int),(decide ((t6.length:Int)<6)),())).bind fun l31=>((((bif (decide ((IntKind.wrap .i64 (l31.2.2.2.2.1.2.1+(l31.2.2.2.2.1.2.2.1.length:Int)))>0)) then bif (decide ((IntKind.wrap .i64 (l31.2.2.2.1+l31.2.2.2.2.1.2.1))<(l31.2.1.length:Int))) then some (l31.1,l31.2.1,l31.2.2.1,l31.2.2.2.1,l31.2.2.2.2.1,l31.2.2.2.2.2.1,l31.2.2.2.2.2.2.1,true,()) else(f_S_l1Whole l31.2.1).bind fun r32=>bif r32.1.1 then some (l31.1,l31.2.1,l31.2.2.1,l31.2.2.2.1,l31.2.2.2.2.1,l31.2.2.2.2.2.1,l31.2.2.2.2.2.2.1,true,()) else some (l31.1,l31.2.1,l31.2.2.1,l31.2.2.2.1,l31.2.2.2.2.1,l31.2.2.2.2.2.1,l31.2.2.2.2.2.2.1,(decide (l31.2.2.2.2.1.2.1>0)),()) else some (l31.1,l31.2.1,l31.2.2.1,l31.2.2.2.1,l31.2.2.2.2.1,l31.2.2.2.2.2.1,l31.2.2.2.2.2.2.1,false,()):Option ((PV Y_spec_l1Cur×PV S_string×PV S_impl_Hunk×PV (.int .i64)×PV Y_impl_Hunk×PV (.int .i64)×PV .bool×PV .bool×Unit)))).bind fun j33=>bif j33.2.2.2.2.2.2.2.1 then bif roomB (j33.2.2.1.length+[j33.2.2.2.2.1].length) then some (j33.1,j33.2.1,(j33.2.2.1++[j33.2.2.2.2.1]),j33.2.2.2.1,j33.2.2.2.2.1,j33.2.2.2.2.2.1,j33.2.2.2.2.2.2.1,()) else none else some (j33.1,j33.2.1,j33.2.2.1,j33.2.2.2.1,j33.2.2.2.2.1,j33.2.2.2.2.2.1,j33.2.2.2.2.2.2.1,()):Option ((PV Y_spec_l1Cur×PV S_string×PV S_impl_Hunk×PV (.int .i64)×PV Y_impl_Hunk×PV (.int .i64)×PV .bool×Unit)))).bind fun j34=>(f_S_l1Cur_pick j34.1 3).bind fun r35=>some (.inl (r35.2.1,j34.2.1,j34.2.2.1,(IntKind.wrap .i64 (j34.2.2.2.1+(IntKind.wrap .i64 ((IntKind.wrap .i64 (j34.2.2.2.2.1.2.1+1))+r35.1.1)))),())) else some (.inr (t0,t6,())) else some (.inr (t0,t6,()))
noncomputable def w_S_l1Cur_hunks_3:PV Y_spec_l1Cur×PV S_string×PV S_impl_Hunk×PV (.int .i64)×Unit→Option ((PV Y_spec_l1Cur×PV S_impl_Hunk×Unit)):=fix fun d=>b_S_l1Cur_hunks_3 d.1 d.2.1 d.2.2.1 d.2.2.2.1
noncomputable def lp_S_l1Cur_hunks_3:Lp:=⟨⟨[(5,(.row .b))],[0,1,5,6,16,52,53,54,55,56,57,58,59,60,61,62,63,64,65,66,67],[]⟩,sh_S_l1Cur_hunks_3,o_S_l1Cur_hunks_3,fun d=>b_S_l1Cur_hunks_3 d.1 d.2.1 d.2.2.1 d.2.2.2.1⟩
noncomputable def pl_S_l1Cur_hunks:Plan:=⟨[(10,o_S_l1Cur_hunks_10),(11,o_S_l1Cur_hunks_11)],[(6,lp_S_l1Cur_hunks_6),(3,lp_S_l1Cur_hunks_3)],0,1⟩
noncomputable def f_S_l1Cur_hunks (t0:PV Y_spec_l1Cur)(t1:PV S_string):Option (PVs [S_impl_Hunk]×PVs [Y_spec_l1Cur]):=(f_S_l1Cur_pick t0 3).bind fun r2=>(w_S_l1Cur_hunks_3 (r2.2.1,t1,[],r2.1.1,())).bind fun l37=>some ((l37.2.1,()),(l37.1,()))
noncomputable def ct_S_l1Cur_hunks:Ct:=⟨[(.ptr,Y_spec_l1Cur),(.bor,S_string)],[(S_impl_Hunk,.b)],fun x=>f_S_l1Cur_hunks x.1 x.2.1⟩
noncomputable def cx_S_l1Cur_hunks:Cx:=⟨tab,arrs,[(35,ct_S_l1Cur_pick),(85,ct_S_l1Cur_line),(88,ct_S_l1Least),(89,ct_S_l1Whole)],[],gl,[]⟩
theorem eb_S_l1Cur_hunks_3 (t0:PV Y_spec_l1Cur)(t2:PV S_string)(t6:PV S_impl_Hunk)(t7:PV (.int .i64)):denK cx_S_l1Cur_hunks (rcN cx_S_l1Cur_hunks 0) pl_S_l1Cur_hunks 1 ((loopsOf (bodyOf Tryz.f61)).getD 0 .skip) (fillS sh_S_l1Cur_hunks_3 (t0,t2,t6,t7,())) (roundK 1 lp_S_l1Cur_hunks_3)=b_S_l1Cur_hunks_3 t0 t2 t6 t7:=by kernel_rfl
theorem eb_S_l1Cur_hunks_6 (t0:PV Y_spec_l1Cur)(t2:PV S_string)(t6:PV S_impl_Hunk)(t7:PV (.int .i64))(t8:PV Y_impl_Hunk)(t9:PV (.int .i64))(t18:PV (.int .i64))(t19:PV .bool):denK cx_S_l1Cur_hunks (rcN cx_S_l1Cur_hunks 0) pl_S_l1Cur_hunks 1 ((loopsOf (bodyOf Tryz.f61)).getD 1 .skip) (fillS sh_S_l1Cur_hunks_6 (t0,t2,t6,t7,t8,t9,t18,t19,())) (roundK 1 lp_S_l1Cur_hunks_6)=b_S_l1Cur_hunks_6 t0 t2 t6 t7 t8 t9 t18 t19:=by kernel_rfl
theorem ef_S_l1Cur_hunks (t0:PV Y_spec_l1Cur)(t1:PV S_string):denF cx_S_l1Cur_hunks 0 pl_S_l1Cur_hunks Tryz.f61.ntmps (bodyOf Tryz.f61) Tryz.f61.results.toList [(.ptr,Y_spec_l1Cur),(.bor,S_string)] [(S_impl_Hunk,.b)] (t0,t1,())=f_S_l1Cur_hunks t0 t1:=by kernel_rfl
theorem ok_S_l1Cur_hunks:FnOk gl Tryz.prog 61 ct_S_l1Cur_hunks:=
 fnOk (cx:=cx_S_l1Cur_hunks) (pl:=pl_S_l1Cur_hunks) (dp:=0) (ok0_of tabOk (by unfold ArrOk;kernel_rfl) mix ⟨ok_S_l1Cur_pick,ok_S_l1Cur_line,ok_S_l1Least,ok_S_l1Whole,trivial⟩ trivial) Tryz.func61 (by kernel_rfl) (by kernel_rfl) (by kernel_rfl)
  (by rw[show loopsOf (bodyOf Tryz.f61)=[((loopsOf (bodyOf Tryz.f61)).getD 0 .skip),((loopsOf (bodyOf Tryz.f61)).getD 1 .skip)] from by kernel_rfl];exact⟨(by rw[show lookup pl_S_l1Cur_hunks.loops (firstId ((loopsOf (bodyOf Tryz.f61)).getD 0 .skip))=some lp_S_l1Cur_hunks_3 from by kernel_rfl];exact fun d z h=>(eb_S_l1Cur_hunks_3 d.1 d.2.1 d.2.2.1 d.2.2.2.1).trans h),(by rw[show lookup pl_S_l1Cur_hunks.loops (firstId ((loopsOf (bodyOf Tryz.f61)).getD 1 .skip))=some lp_S_l1Cur_hunks_6 from by kernel_rfl];exact fun d z h=>(eb_S_l1Cur_hunks_6 d.1 d.2.1 d.2.2.1 d.2.2.2.1 d.2.2.2.2.1 d.2.2.2.2.2.1 d.2.2.2.2.2.2.1 d.2.2.2.2.2.2.2.1).trans h),trivial⟩) (fun x=>ef_S_l1Cur_hunks x.1 x.2.1)
noncomputable def sh_S_l1Line_2:List Sh:=mkSh 18 [(0,.val .str .b),(3,.val (.int .i64) .b)]
noncomputable def o_S_l1Line_2:List Out:=[⟨.exit 0,⟨[],[0],[]⟩,mkSh 18 [(0,.val .str .b)]⟩,⟨.ret,⟨[],[2],[]⟩,mkSh 18 [(2,.val .bool .b)]⟩]
noncomputable def b_S_l1Line_2 (t0:PV .str)(t3:PV (.int .i64)):Option ((PV .str×PV (.int .i64)×Unit)⊕((PV .str×Unit)⊕(PV .bool×Unit))):=bif (decide (t3<(IntKind.wrap .i64 ((t0.length:Int) -1)))) then bif inB t3 t0.length then bif (((t0.getD t3.toNat 0).toNat:Int)==10) then some (.inr (.inr (false,()))) else some (.inl (t0,(IntKind.wrap .i64 (t3+1)),())) else none else some (.inr (.inl (t0,())))
noncomputable def w_S_l1Line_2:PV .str×PV (.int .i64)×Unit→Option ((PV .str×Unit)⊕(PV .bool×Unit)):=fix fun d=>b_S_l1Line_2 d.1 d.2.1
noncomputable def lp_S_l1Line_2:Lp:=⟨⟨[],[0,3],[]⟩,sh_S_l1Line_2,o_S_l1Line_2,fun d=>b_S_l1Line_2 d.1 d.2.1⟩
noncomputable def pl_S_l1Line:Plan:=⟨[],[(2,lp_S_l1Line_2)],0,0⟩
noncomputable def f_S_l1Line (t0:PV .str):Option (PVs [.bool]×PVs []):=
 (w_S_l1Line_2 (t0,0,())).bind fun x6=>
   match x6 with
   | .inl l3=>
     (f_S_l1In (l3.1.length:Int) 1 30).bind fun r4=>
       some ((r4.1.1,()),())
   | .inr l5=>
     some ((l5.1,()),())
noncomputable def ct_S_l1Line:Ct:=⟨[(.bor,.str)],[(.bool,.b)],fun x=>f_S_l1Line x.1⟩
noncomputable def cx_S_l1Line:Cx:=⟨tab,arrs,[(65,ct_S_l1In)],[],gl,[]⟩
theorem eb_S_l1Line_2 (t0:PV .str)(t3:PV (.int .i64)):denK cx_S_l1Line (rcN cx_S_l1Line 0) pl_S_l1Line 0 ((loopsOf (bodyOf Tryz.f92)).getD 0 .skip) (fillS sh_S_l1Line_2 (t0,t3,())) (roundK 0 lp_S_l1Line_2)=b_S_l1Line_2 t0 t3:=by kernel_rfl
theorem ef_S_l1Line (t0:PV .str):denF cx_S_l1Line 0 pl_S_l1Line Tryz.f92.ntmps (bodyOf Tryz.f92) Tryz.f92.results.toList [(.bor,.str)] [(.bool,.b)] (t0,())=f_S_l1Line t0:=by kernel_rfl
theorem ok_S_l1Line:FnOk gl Tryz.prog 92 ct_S_l1Line:=
 fnOk (cx:=cx_S_l1Line) (pl:=pl_S_l1Line) (dp:=0) (ok0_of tabOk (by unfold ArrOk;kernel_rfl) mix ⟨ok_S_l1In,trivial⟩ trivial) Tryz.func92 (by kernel_rfl) (by kernel_rfl) (by kernel_rfl)
  (by rw[show loopsOf (bodyOf Tryz.f92)=[((loopsOf (bodyOf Tryz.f92)).getD 0 .skip)] from by kernel_rfl];exact⟨(by rw[show lookup pl_S_l1Line.loops (firstId ((loopsOf (bodyOf Tryz.f92)).getD 0 .skip))=some lp_S_l1Line_2 from by kernel_rfl];exact fun d z h=>(eb_S_l1Line_2 d.1 d.2.1).trans h),trivial⟩) (fun x=>ef_S_l1Line x.1)
noncomputable def o_S_l1Good_5:List Out:=[⟨.normal,⟨[],[0,5,6,7,26],[]⟩,mkSh 31 [(0,.val S_string .b),(5,.val S_string .b),(6,.val (.int .i64) .b),(7,.val (.int .i64) .b),(26,.val .bool .b)]⟩]
noncomputable def sh_S_l1Good_2:List Sh:=mkSh 31 [(0,.val S_string .b),(5,.val S_string .b),(6,.val (.int .i64) .b),(7,.val (.int .i64) .b)]
noncomputable def o_S_l1Good_2:List Out:=[⟨.exit 0,⟨[],[0],[]⟩,mkSh 31 [(0,.val S_string .b)]⟩,⟨.ret,⟨[],[2],[]⟩,mkSh 31 [(2,.val .bool .b)]⟩]
noncomputable def b_S_l1Good_2 (t0:PV S_string)(t5:PV S_string)(t6:PV (.int .i64))(t7:PV (.int .i64)):Option ((PV S_string×PV S_string×PV (.int .i64)×PV (.int .i64)×Unit)⊕((PV S_string×Unit)⊕(PV .bool×Unit))):=bif (decide (t7<t6)) then bif inB t7 t5.length then(((f_S_l1Line (t5.getD t7.toNat [])).bind fun r4=>bif (!r4.1.1) then some (t0,t5,t6,t7,true,()) else bif (decide (t7<(IntKind.wrap .i64 ((t0.length:Int) -1)))) then(f_S_l1Ends (t5.getD t7.toNat [])).bind fun r5=>some (t0,t5,t6,t7,(!r5.1.1),()) else some (t0,t5,t6,t7,false,()):Option ((PV S_string×PV S_string×PV (.int .i64)×PV (.int .i64)×PV .bool×Unit)))).bind fun j6=>bif j6.2.2.2.2.1 then some (.inr (.inr (false,()))) else some (.inl (j6.1,j6.2.1,j6.2.2.1,(IntKind.wrap .i64 (j6.2.2.2.1+1)),())) else none else some (.inr (.inl (t0,())))
noncomputable def w_S_l1Good_2:PV S_string×PV S_string×PV (.int .i64)×PV (.int .i64)×Unit→Option ((PV S_string×Unit)⊕(PV .bool×Unit)):=fix fun d=>b_S_l1Good_2 d.1 d.2.1 d.2.2.1 d.2.2.2.1
noncomputable def lp_S_l1Good_2:Lp:=⟨⟨[],[0,5,6,7,16,17,18,19,20,21,22,23,24,25],[]⟩,sh_S_l1Good_2,o_S_l1Good_2,fun d=>b_S_l1Good_2 d.1 d.2.1 d.2.2.1 d.2.2.2.1⟩
noncomputable def pl_S_l1Good:Plan:=⟨[(5,o_S_l1Good_5)],[(2,lp_S_l1Good_2)],0,0⟩
noncomputable def f_S_l1Good (t0:PV S_string):Option (PVs [.bool]×PVs []):=
 (w_S_l1Good_2 (t0,t0,(t0.length:Int),0,())).bind fun x11=>
   match x11 with
   | .inl l9=>
     some (((decide ((l9.1.length:Int)≤40)),()),())
   | .inr l10=>
     some ((l10.1,()),())
noncomputable def ct_S_l1Good:Ct:=⟨[(.bor,S_string)],[(.bool,.b)],fun x=>f_S_l1Good x.1⟩
noncomputable def cx_S_l1Good:Cx:=⟨tab,arrs,[(40,ct_S_l1Ends),(92,ct_S_l1Line)],[],gl,[]⟩
theorem eb_S_l1Good_2 (t0:PV S_string)(t5:PV S_string)(t6:PV (.int .i64))(t7:PV (.int .i64)):denK cx_S_l1Good (rcN cx_S_l1Good 0) pl_S_l1Good 0 ((loopsOf (bodyOf Tryz.f125)).getD 0 .skip) (fillS sh_S_l1Good_2 (t0,t5,t6,t7,())) (roundK 0 lp_S_l1Good_2)=b_S_l1Good_2 t0 t5 t6 t7:=by kernel_rfl
theorem ef_S_l1Good (t0:PV S_string):denF cx_S_l1Good 0 pl_S_l1Good Tryz.f125.ntmps (bodyOf Tryz.f125) Tryz.f125.results.toList [(.bor,S_string)] [(.bool,.b)] (t0,())=f_S_l1Good t0:=by kernel_rfl
theorem ok_S_l1Good:FnOk gl Tryz.prog 125 ct_S_l1Good:=
 fnOk (cx:=cx_S_l1Good) (pl:=pl_S_l1Good) (dp:=0) (ok0_of tabOk (by unfold ArrOk;kernel_rfl) mix ⟨ok_S_l1Ends,ok_S_l1Line,trivial⟩ trivial) Tryz.func125 (by kernel_rfl) (by kernel_rfl) (by kernel_rfl)
  (by rw[show loopsOf (bodyOf Tryz.f125)=[((loopsOf (bodyOf Tryz.f125)).getD 0 .skip)] from by kernel_rfl];exact⟨(by rw[show lookup pl_S_l1Good.loops (firstId ((loopsOf (bodyOf Tryz.f125)).getD 0 .skip))=some lp_S_l1Good_2 from by kernel_rfl];exact fun d z h=>(eb_S_l1Good_2 d.1 d.2.1 d.2.2.1 d.2.2.2.1).trans h),trivial⟩) (fun x=>ef_S_l1Good x.1)
noncomputable def o_S_l2Hunks_5:List Out:=[⟨.normal,⟨[],[0,1,6,9,10,11,75,92,93],[]⟩,mkSh 95 [(0,.val (.int .i64) .b),(1,.val S_impl_Hunk .b),(6,.var Y_impl_Hunk .b),(9,.val S_impl_Hunk .b),(10,.val (.int .i64) .b),(11,.val (.int .i64) .b),(75,.val .bool .b)]⟩]
noncomputable def sh_S_l2Hunks_7:List Sh:=mkSh 95 [(0,.val (.int .i64) .b),(1,.val S_impl_Hunk .b),(9,.val S_impl_Hunk .b),(10,.val (.int .i64) .b),(11,.val (.int .i64) .b),(77,.val S_string .b),(78,.val (.int .i64) .b),(79,.val (.int .i64) .b)]
noncomputable def o_S_l2Hunks_7:List Out:=[⟨.exit 2,⟨[],[0,1,9,10,11,20,21,22,25,26,27,28,31,32,33,34,35,36,37,40,41,42,43,44,45,46,49,50,51,52,55,56,57,58,59,60,61,62,63,64,65,66,67,68,69,70,71,72,73,74,92,93],[]⟩,mkSh 95 [(0,.val (.int .i64) .b),(1,.val S_impl_Hunk .b),(9,.val S_impl_Hunk .b),(10,.val (.int .i64) .b),(11,.val (.int .i64) .b)]⟩,⟨.ret,⟨[],[4],[]⟩,mkSh 95 [(4,.val .bool .b)]⟩]
noncomputable def b_S_l2Hunks_7 (t0:PV (.int .i64))(t1:PV S_impl_Hunk)(t9:PV S_impl_Hunk)(t10:PV (.int .i64))(t11:PV (.int .i64))(t77:PV S_string)(t78:PV (.int .i64))(t79:PV (.int .i64)):Option ((PV (.int .i64)×PV S_impl_Hunk×PV S_impl_Hunk×PV (.int .i64)×PV (.int .i64)×PV S_string×PV (.int .i64)×PV (.int .i64)×Unit)⊕((PV (.int .i64)×PV S_impl_Hunk×PV S_impl_Hunk×PV (.int .i64)×PV (.int .i64)×Unit)⊕(PV .bool×Unit))):=bif (decide (t79<t78)) then bif inB t79 t77.length then(f_S_l1Line (t77.getD t79.toNat [])).bind fun r6=>bif (!r6.1.1) then some (.inr (.inr (false,()))) else some (.inl (t0,t1,t9,t10,t11,t77,t78,(IntKind.wrap .i64 (t79+1)),())) else none else some (.inr (.inl (t0,t1,t9,t10,t11,())))
noncomputable def w_S_l2Hunks_7:PV (.int .i64)×PV S_impl_Hunk×PV S_impl_Hunk×PV (.int .i64)×PV (.int .i64)×PV S_string×PV (.int .i64)×PV (.int .i64)×Unit→Option ((PV (.int .i64)×PV S_impl_Hunk×PV S_impl_Hunk×PV (.int .i64)×PV (.int .i64)×Unit)⊕(PV .bool×Unit)):=fix fun d=>b_S_l2Hunks_7 d.1 d.2.1 d.2.2.1 d.2.2.2.1 d.2.2.2.2.1 d.2.2.2.2.2.1 d.2.2.2.2.2.2.1 d.2.2.2.2.2.2.2.1
noncomputable def lp_S_l2Hunks_7:Lp:=⟨⟨[],[0,1,9,10,11,20,21,22,25,26,27,28,31,32,33,34,35,36,37,40,41,42,43,44,45,46,49,50,51,52,55,56,57,58,59,60,61,62,63,64,65,66,67,68,69,70,71,72,73,74,77,78,79,92,93],[]⟩,sh_S_l2Hunks_7,o_S_l2Hunks_7,fun d=>b_S_l2Hunks_7 d.1 d.2.1 d.2.2.1 d.2.2.2.1 d.2.2.2.2.1 d.2.2.2.2.2.1 d.2.2.2.2.2.2.1 d.2.2.2.2.2.2.2.1⟩
noncomputable def sh_S_l2Hunks_2:List Sh:=mkSh 95 [(0,.val (.int .i64) .b),(1,.val S_impl_Hunk .b),(9,.val S_impl_Hunk .b),(10,.val (.int .i64) .b),(11,.val (.int .i64) .b)]
noncomputable def o_S_l2Hunks_2:List Out:=[⟨.exit 0,⟨[],[0,1,92,93],[]⟩,mkSh 95 [(0,.val (.int .i64) .b),(1,.val S_impl_Hunk .b)]⟩,⟨.ret,⟨[],[4],[]⟩,mkSh 95 [(4,.val .bool .b)]⟩]
noncomputable def b_S_l2Hunks_2 (t0:PV (.int .i64))(t1:PV S_impl_Hunk)(t9:PV S_impl_Hunk)(t10:PV (.int .i64))(t11:PV (.int .i64)):Option ((PV (.int .i64)×PV S_impl_Hunk×PV S_impl_Hunk×PV (.int .i64)×PV (.int .i64)×Unit)⊕((PV (.int .i64)×PV S_impl_Hunk×Unit)⊕(PV .bool×Unit))):=
 bif (decide (t11<t10)) then
  bif inB t11 t9.length then
   ((
     bif (decide (((t9.getD t11.toNat (dflt Y_impl_Hunk)).1)<0)) then
      some (t0,t1,(t9.getD t11.toNat (dflt Y_impl_Hunk)),t9,t10,t11,true,())
     else
      bif (decide ((((t9.getD t11.toNat (dflt Y_impl_Hunk)).2).1)<0)) then
       some (t0,t1,(t9.getD t11.toNat (dflt Y_impl_Hunk)),t9,t10,t11,true,())
      else
       bif (decide ((((t9.getD t11.toNat (dflt Y_impl_Hunk)).2).1)>t0)) then
        some (t0,t1,(t9.getD t11.toNat (dflt Y_impl_Hunk)),t9,t10,t11,true,())
       else
        bif (decide (((t9.getD t11.toNat (dflt Y_impl_Hunk)).1)>(IntKind.wrap .i64 (t0 -(((t9.getD t11.toNat (dflt Y_impl_Hunk)).2).1))))) then
         some (t0,t1,(t9.getD t11.toNat (dflt Y_impl_Hunk)),t9,t10,t11,true,())
        else
         bif ((IntKind.wrap .i64 ((((t9.getD t11.toNat (dflt Y_impl_Hunk)).2).1)+(((((t9.getD t11.toNat (dflt Y_impl_Hunk)).2).2).1).length:Int)))==0) then
          some (t0,t1,(t9.getD t11.toNat (dflt Y_impl_Hunk)),t9,t10,t11,true,())
         else
          bif (decide ((((((t9.getD t11.toNat (dflt Y_impl_Hunk)).2).2).1).length:Int)>40)) then
           some (t0,t1,(t9.getD t11.toNat (dflt Y_impl_Hunk)),t9,t10,t11,true,())
          else
           bif (decide (t11>0)) then
            bif inB (IntKind.wrap .i64 (t11 -1)) t1.length then
             bif inB (IntKind.wrap .i64 (t11 -1)) t1.length then
              some (t0,t1,(t9.getD t11.toNat (dflt Y_impl_Hunk)),t9,t10,t11,(decide (((t9.getD t11.toNat (dflt Y_impl_Hunk)).1)≤(IntKind.wrap .i64 (((t1.getD ((IntKind.wrap .i64 (t11 -1)).toNat) (dflt Y_impl_Hunk)).1)+(((t1.getD ((IntKind.wrap .i64 (t11 -1)).toNat) (dflt Y_impl_Hunk)).2).1))))),())
             else
              none
            else
             none
           else
            some (t0,t1,(t9.getD t11.toNat (dflt Y_impl_Hunk)),t9,t10,t11,false,()):Option ((PV (.int .i64)×PV S_impl_Hunk×PV Y_impl_Hunk×PV S_impl_Hunk×PV (.int .i64)×PV (.int .i64)×PV .bool×Unit)))).bind fun j6=>
     bif j6.2.2.2.2.2.2.1 then
      some (.inr (.inr (false,())))
     else
      (w_S_l2Hunks_7 (j6.1,j6.2.1,j6.2.2.2.1,j6.2.2.2.2.1,j6.2.2.2.2.2.1,j6.2.2.1.2.2.1,(j6.2.2.1.2.2.1.length:Int),0,())).bind fun x14=>
        match x14 with
        | .inl l7=>
          some (.inl (l7.1,l7.2.1,l7.2.2.1,l7.2.2.2.1,(IntKind.wrap .i64 (l7.2.2.2.2.1+1)),()))
        | .inr l8=>
          some (.inr (.inr (l8.1,())))
  else
   none
 else
  some (.inr (.inl (t0,t1,())))
noncomputable def w_S_l2Hunks_2:PV (.int .i64)×PV S_impl_Hunk×PV S_impl_Hunk×PV (.int .i64)×PV (.int .i64)×Unit→Option ((PV (.int .i64)×PV S_impl_Hunk×Unit)⊕(PV .bool×Unit)):=fix fun d=>b_S_l2Hunks_2 d.1 d.2.1 d.2.2.1 d.2.2.2.1 d.2.2.2.2.1
noncomputable def lp_S_l2Hunks_2:Lp:=⟨⟨[],[0,1,9,10,11,20,21,22,25,26,27,28,31,32,33,34,35,36,37,40,41,42,43,44,45,46,49,50,51,52,55,56,57,58,59,60,61,62,63,64,65,66,67,68,69,70,71,72,73,74,92,93],[]⟩,sh_S_l2Hunks_2,o_S_l2Hunks_2,fun d=>b_S_l2Hunks_2 d.1 d.2.1 d.2.2.1 d.2.2.2.1 d.2.2.2.2.1⟩
noncomputable def pl_S_l2Hunks:Plan:=⟨[(5,o_S_l2Hunks_5)],[(7,lp_S_l2Hunks_7),(2,lp_S_l2Hunks_2)],0,0⟩
noncomputable def f_S_l2Hunks (t0:PV (.int .i64))(t1:PV S_impl_Hunk):Option (PVs [.bool]×PVs []):=
 (w_S_l2Hunks_2 (t0,t1,t1,(t1.length:Int),0,())).bind fun x15=>
   match x15 with
   | .inl l11=>
     bif (decide ((l11.2.1.length:Int)≤20)) then
      (f_S_l1In l11.1 0 40).bind fun r12=>
        some ((r12.1.1,()),())
     else
      some ((false,()),())
   | .inr l13=>
     some ((l13.1,()),())
noncomputable def ct_S_l2Hunks:Ct:=⟨[(.bor,(.int .i64)),(.bor,S_impl_Hunk)],[(.bool,.b)],fun x=>f_S_l2Hunks x.1 x.2.1⟩
noncomputable def cx_S_l2Hunks:Cx:=⟨tab,arrs,[(65,ct_S_l1In),(92,ct_S_l1Line)],[],gl,[]⟩
theorem eb_S_l2Hunks_2 (t0:PV (.int .i64))(t1:PV S_impl_Hunk)(t9:PV S_impl_Hunk)(t10:PV (.int .i64))(t11:PV (.int .i64)):denK cx_S_l2Hunks (rcN cx_S_l2Hunks 0) pl_S_l2Hunks 0 ((loopsOf (bodyOf Tryz.f139)).getD 0 .skip) (fillS sh_S_l2Hunks_2 (t0,t1,t9,t10,t11,())) (roundK 0 lp_S_l2Hunks_2)=b_S_l2Hunks_2 t0 t1 t9 t10 t11:=by kernel_rfl
theorem eb_S_l2Hunks_7 (t0:PV (.int .i64))(t1:PV S_impl_Hunk)(t9:PV S_impl_Hunk)(t10:PV (.int .i64))(t11:PV (.int .i64))(t77:PV S_string)(t78:PV (.int .i64))(t79:PV (.int .i64)):denK cx_S_l2Hunks (rcN cx_S_l2Hunks 0) pl_S_l2Hunks 0 ((loopsOf (bodyOf Tryz.f139)).getD 1 .skip) (fillS sh_S_l2Hunks_7 (t0,t1,t9,t10,t11,t77,t78,t79,())) (roundK 0 lp_S_l2Hunks_7)=b_S_l2Hunks_7 t0 t1 t9 t10 t11 t77 t78 t79:=by kernel_rfl
theorem ef_S_l2Hunks (t0:PV (.int .i64))(t1:PV S_impl_Hunk):denF cx_S_l2Hunks 0 pl_S_l2Hunks Tryz.f139.ntmps (bodyOf Tryz.f139) Tryz.f139.results.toList [(.bor,(.int .i64)),(.bor,S_impl_Hunk)] [(.bool,.b)] (t0,t1,())=f_S_l2Hunks t0 t1:=by kernel_rfl
theorem ok_S_l2Hunks:FnOk gl Tryz.prog 139 ct_S_l2Hunks:=
 fnOk (cx:=cx_S_l2Hunks) (pl:=pl_S_l2Hunks) (dp:=0) (ok0_of tabOk (by unfold ArrOk;kernel_rfl) mix ⟨ok_S_l1In,ok_S_l1Line,trivial⟩ trivial) Tryz.func139 (by kernel_rfl) (by kernel_rfl) (by kernel_rfl)
  (by rw[show loopsOf (bodyOf Tryz.f139)=[((loopsOf (bodyOf Tryz.f139)).getD 0 .skip),((loopsOf (bodyOf Tryz.f139)).getD 1 .skip)] from by kernel_rfl];exact⟨(by rw[show lookup pl_S_l2Hunks.loops (firstId ((loopsOf (bodyOf Tryz.f139)).getD 0 .skip))=some lp_S_l2Hunks_2 from by kernel_rfl];exact fun d z h=>(eb_S_l2Hunks_2 d.1 d.2.1 d.2.2.1 d.2.2.2.1 d.2.2.2.2.1).trans h),(by rw[show lookup pl_S_l2Hunks.loops (firstId ((loopsOf (bodyOf Tryz.f139)).getD 1 .skip))=some lp_S_l2Hunks_7 from by kernel_rfl];exact fun d z h=>(eb_S_l2Hunks_7 d.1 d.2.1 d.2.2.1 d.2.2.2.1 d.2.2.2.2.1 d.2.2.2.2.2.1 d.2.2.2.2.2.2.1 d.2.2.2.2.2.2.2.1).trans h),trivial⟩) (fun x=>ef_S_l2Hunks x.1 x.2.1)
noncomputable def pl_S_l2Asked:Plan:=⟨[],[],0,0⟩
noncomputable def f_S_l2Asked (t0:PV S_string)(t1:PV S_impl_Hunk):Option (PVs [.bool]×PVs []):=(f_S_l1Good t0).bind fun r1=>bif r1.1.1 then(f_S_l2Hunks (t0.length:Int) t1).bind fun r2=>some ((r2.1.1,()),()) else some ((false,()),())
noncomputable def ct_S_l2Asked:Ct:=⟨[(.bor,S_string),(.bor,S_impl_Hunk)],[(.bool,.b)],fun x=>f_S_l2Asked x.1 x.2.1⟩
noncomputable def cx_S_l2Asked:Cx:=⟨tab,arrs,[(125,ct_S_l1Good),(139,ct_S_l2Hunks)],[],gl,[]⟩
theorem ef_S_l2Asked (t0:PV S_string)(t1:PV S_impl_Hunk):denF cx_S_l2Asked 0 pl_S_l2Asked Tryz.f123.ntmps (bodyOf Tryz.f123) Tryz.f123.results.toList [(.bor,S_string),(.bor,S_impl_Hunk)] [(.bool,.b)] (t0,t1,())=f_S_l2Asked t0 t1:=by kernel_rfl
theorem ok_S_l2Asked:FnOk gl Tryz.prog 123 ct_S_l2Asked:=
 fnOk (cx:=cx_S_l2Asked) (pl:=pl_S_l2Asked) (dp:=0) (ok0_of tabOk (by unfold ArrOk;kernel_rfl) mix ⟨ok_S_l1Good,ok_S_l2Hunks,trivial⟩ trivial) Tryz.func123 (by kernel_rfl) (by kernel_rfl) (by kernel_rfl)
  (by rw[show loopsOf (bodyOf Tryz.f123)=[] from by kernel_rfl];exact trivial) (fun x=>ef_S_l2Asked x.1 x.2.1)
noncomputable def sh_S_l2Patch_4:List Sh:=mkSh 37 [(0,.val S_string .b),(5,.val S_string (.row .b)),(6,.val (.int .i64) .b),(9,.val S_impl_Hunk .b),(10,.val (.int .i64) .b),(11,.val (.int .i64) .b)]
noncomputable def o_S_l2Patch_4:List Out:=[⟨.exit 0,⟨[],[0,5,6],[]⟩,mkSh 37 [(0,.val S_string .b),(5,.val S_string (.row .b)),(6,.val (.int .i64) .b)]⟩]
noncomputable def b_S_l2Patch_4 (t0:PV S_string)(t5:PV S_string)(t6:PV (.int .i64))(t9:PV S_impl_Hunk)(t10:PV (.int .i64))(t11:PV (.int .i64)):Option ((PV S_string×PV S_string×PV (.int .i64)×PV S_impl_Hunk×PV (.int .i64)×PV (.int .i64)×Unit)⊕((PV S_string×PV S_string×PV (.int .i64)×Unit))):=bif (decide (t11<t10)) then bif inB t11 t9.length then bif cutB t6 ((t9.getD t11.toNat (dflt Y_impl_Hunk)).1) t0.length then bif roomB (t5.length+(cutL t6 ((t9.getD t11.toNat (dflt Y_impl_Hunk)).1) t0).length) then bif roomB ((t5++(cutL t6 ((t9.getD t11.toNat (dflt Y_impl_Hunk)).1) t0)).length+((((t9.getD t11.toNat (dflt Y_impl_Hunk)).2).2).1).length) then some (.inl (t0,((t5++(cutL t6 ((t9.getD t11.toNat (dflt Y_impl_Hunk)).1) t0))++((((t9.getD t11.toNat (dflt Y_impl_Hunk)).2).2).1)),(IntKind.wrap .i64 (((t9.getD t11.toNat (dflt Y_impl_Hunk)).1)+(((t9.getD t11.toNat (dflt Y_impl_Hunk)).2).1))),t9,t10,(IntKind.wrap .i64 (t11+1)),())) else none else none else none else none else some (.inr (t0,t5,t6,()))
noncomputable def w_S_l2Patch_4:PV S_string×PV S_string×PV (.int .i64)×PV S_impl_Hunk×PV (.int .i64)×PV (.int .i64)×Unit→Option ((PV S_string×PV S_string×PV (.int .i64)×Unit)):=fix fun d=>b_S_l2Patch_4 d.1 d.2.1 d.2.2.1 d.2.2.2.1 d.2.2.2.2.1 d.2.2.2.2.2.1
noncomputable def lp_S_l2Patch_4:Lp:=⟨⟨[],[0,5,6,9,10,11],[]⟩,sh_S_l2Patch_4,o_S_l2Patch_4,fun d=>b_S_l2Patch_4 d.1 d.2.1 d.2.2.1 d.2.2.2.1 d.2.2.2.2.1 d.2.2.2.2.2.1⟩
noncomputable def pl_S_l2Patch:Plan:=⟨[],[(4,lp_S_l2Patch_4)],0,0⟩
noncomputable def f_S_l2Patch (t0:PV S_string)(t1:PV S_impl_Hunk):Option (PVs [S_string]×PVs []):=(w_S_l2Patch_4 (t0,[],0,t1,(t1.length:Int),0,())).bind fun l2=>bif cutB l2.2.2.1 (l2.1.length:Int) l2.1.length then bif roomB (l2.2.1.length+(cutL l2.2.2.1 (l2.1.length:Int) l2.1).length) then some (((l2.2.1++(cutL l2.2.2.1 (l2.1.length:Int) l2.1)),()),()) else none else none
noncomputable def ct_S_l2Patch:Ct:=⟨[(.bor,S_string),(.bor,S_impl_Hunk)],[(S_string,(.row .b))],fun x=>f_S_l2Patch x.1 x.2.1⟩
noncomputable def cx_S_l2Patch:Cx:=⟨tab,arrs,[],[],gl,[]⟩
theorem eb_S_l2Patch_4 (t0:PV S_string)(t5:PV S_string)(t6:PV (.int .i64))(t9:PV S_impl_Hunk)(t10:PV (.int .i64))(t11:PV (.int .i64)):denK cx_S_l2Patch (rcN cx_S_l2Patch 0) pl_S_l2Patch 0 ((loopsOf (bodyOf Tryz.f124)).getD 0 .skip) (fillS sh_S_l2Patch_4 (t0,t5,t6,t9,t10,t11,())) (roundK 0 lp_S_l2Patch_4)=b_S_l2Patch_4 t0 t5 t6 t9 t10 t11:=by kernel_rfl
theorem ef_S_l2Patch (t0:PV S_string)(t1:PV S_impl_Hunk):denF cx_S_l2Patch 0 pl_S_l2Patch Tryz.f124.ntmps (bodyOf Tryz.f124) Tryz.f124.results.toList [(.bor,S_string),(.bor,S_impl_Hunk)] [(S_string,(.row .b))] (t0,t1,())=f_S_l2Patch t0 t1:=by kernel_rfl
theorem ok_S_l2Patch:FnOk gl Tryz.prog 124 ct_S_l2Patch:=
 fnOk (cx:=cx_S_l2Patch) (pl:=pl_S_l2Patch) (dp:=0) (ok0_of tabOk (by unfold ArrOk;kernel_rfl) mix trivial trivial) Tryz.func124 (by kernel_rfl) (by kernel_rfl) (by kernel_rfl)
  (by rw[show loopsOf (bodyOf Tryz.f124)=[((loopsOf (bodyOf Tryz.f124)).getD 0 .skip)] from by kernel_rfl];exact⟨(by rw[show lookup pl_S_l2Patch.loops (firstId ((loopsOf (bodyOf Tryz.f124)).getD 0 .skip))=some lp_S_l2Patch_4 from by kernel_rfl];exact fun d z h=>(eb_S_l2Patch_4 d.1 d.2.1 d.2.2.1 d.2.2.2.1 d.2.2.2.2.1 d.2.2.2.2.2.1).trans h),trivial⟩) (fun x=>ef_S_l2Patch x.1 x.2.1)
noncomputable def pl_S_Patch:Plan:=⟨[],[],0,0⟩
noncomputable def f_S_Patch (t0:PV S_string)(t1:PV S_impl_Hunk):Option (PVs [S_string,.bool]×PVs []):=(f_S_l2Asked t0 t1).bind fun r4=>bif (!r4.1.1) then some (([],false,()),()) else(f_S_l2Patch t0 t1).bind fun r6=>(f_S_l1Good r6.1.1).bind fun r10=>bif (!r10.1.1) then some (([],false,()),()) else some ((r6.1.1,true,()),())
noncomputable def ct_S_Patch:Ct:=⟨[(.bor,S_string),(.bor,S_impl_Hunk)],[(S_string,(.row .b)),(.bool,.b)],fun x=>f_S_Patch x.1 x.2.1⟩
noncomputable def cx_S_Patch:Cx:=⟨tab,arrs,[(123,ct_S_l2Asked),(124,ct_S_l2Patch),(125,ct_S_l1Good)],[],gl,[]⟩
theorem ef_S_Patch (t0:PV S_string)(t1:PV S_impl_Hunk):denF cx_S_Patch 0 pl_S_Patch Tryz.f109.ntmps (bodyOf Tryz.f109) Tryz.f109.results.toList [(.bor,S_string),(.bor,S_impl_Hunk)] [(S_string,(.row .b)),(.bool,.b)] (t0,t1,())=f_S_Patch t0 t1:=by kernel_rfl
theorem ok_S_Patch:FnOk gl Tryz.prog 109 ct_S_Patch:=
 fnOk (cx:=cx_S_Patch) (pl:=pl_S_Patch) (dp:=0) (ok0_of tabOk (by unfold ArrOk;kernel_rfl) mix ⟨ok_S_l2Asked,ok_S_l2Patch,ok_S_l1Good,trivial⟩ trivial) Tryz.func109 (by kernel_rfl) (by kernel_rfl) (by kernel_rfl)
  (by rw[show loopsOf (bodyOf Tryz.f109)=[] from by kernel_rfl];exact trivial) (fun x=>ef_S_Patch x.1 x.2.1)
noncomputable def pl_S_l9Whole:Plan:=⟨[],[],0,0⟩
noncomputable def f_S_l9Whole (t0:PV S_string)(t1:PV S_impl_Hunk):Option (PVs [.bool]×PVs []):=(f_S_Patch t0 t1).bind fun r2=>bif r2.1.2.1 then(f_S_l1Whole t0).bind fun r3=>bif r3.1.1 then(f_S_l1Whole r2.1.1).bind fun r4=>some ((r4.1.1,()),()) else some ((false,()),()) else some ((false,()),())
noncomputable def ct_S_l9Whole:Ct:=⟨[(.bor,S_string),(.bor,S_impl_Hunk)],[(.bool,.b)],fun x=>f_S_l9Whole x.1 x.2.1⟩
noncomputable def cx_S_l9Whole:Cx:=⟨tab,arrs,[(89,ct_S_l1Whole),(109,ct_S_Patch)],[],gl,[]⟩
theorem ef_S_l9Whole (t0:PV S_string)(t1:PV S_impl_Hunk):denF cx_S_l9Whole 0 pl_S_l9Whole Tryz.f86.ntmps (bodyOf Tryz.f86) Tryz.f86.results.toList [(.bor,S_string),(.bor,S_impl_Hunk)] [(.bool,.b)] (t0,t1,())=f_S_l9Whole t0 t1:=by kernel_rfl
theorem ok_S_l9Whole:FnOk gl Tryz.prog 86 ct_S_l9Whole:=
 fnOk (cx:=cx_S_l9Whole) (pl:=pl_S_l9Whole) (dp:=0) (ok0_of tabOk (by unfold ArrOk;kernel_rfl) mix ⟨ok_S_l1Whole,ok_S_Patch,trivial⟩ trivial) Tryz.func86 (by kernel_rfl) (by kernel_rfl) (by kernel_rfl)
  (by rw[show loopsOf (bodyOf Tryz.f86)=[] from by kernel_rfl];exact trivial) (fun x=>ef_S_l9Whole x.1 x.2.1)
noncomputable def o_S_l9Orders_11:List Out:=[⟨.normal,⟨[],[0,3,4,5,6],[]⟩,mkSh 81 [(0,.val S_impl_Hunk .b),(3,.val S_impl_Order (.row (.pr .b (.pr .b (.pr .b (.pr (.row .b) .b)))))),(4,.val (.int .i64) .b),(5,.var Y_impl_Hunk .b),(6,.var Y_impl_Order (.pr .b (.pr .b (.pr .b (.pr (.row .b) .b)))))]⟩]
noncomputable def o_S_l9Orders_18:List Out:=[⟨.normal,⟨[],[0,3,4,5,6,7,9,44,45,46],[]⟩,mkSh 81 [(0,.val S_impl_Hunk .b),(3,.val S_impl_Order (.row (.pr .b (.pr .b (.pr .b (.pr (.row .b) .b)))))),(4,.val (.int .i64) .b),(5,.var Y_impl_Hunk .b),(6,.var Y_impl_Order (.pr .b (.pr .b (.pr .b (.pr (.row .b) .b))))),(7,.val S_impl_Order (.row (.pr .b (.pr .b (.pr .b (.pr (.row .b) .b)))))),(9,.val .str .b),(44,.val S_string .b),(45,.val (.int .i64) .b),(46,.val (.int .i64) .b)]⟩]
noncomputable def sh_S_l9Orders_13:List Sh:=mkSh 81 [(0,.val S_impl_Hunk .b),(3,.val S_impl_Order (.row (.pr .b (.pr .b (.pr .b (.pr (.row .b) .b)))))),(4,.val (.int .i64) .b),(5,.var Y_impl_Hunk .b),(6,.var Y_impl_Order (.pr .b (.pr .b (.pr .b (.pr (.row .b) .b))))),(7,.val S_impl_Order (.row (.pr .b (.pr .b (.pr .b (.pr (.row .b) .b)))))),(44,.val S_string .b),(45,.val (.int .i64) .b),(46,.val (.int .i64) .b)]
noncomputable def o_S_l9Orders_13:List Out:=[⟨.exit 2,⟨[],[0,3,4,6,7],[]⟩,mkSh 81 [(0,.val S_impl_Hunk .b),(3,.val S_impl_Order (.row (.pr .b (.pr .b (.pr .b (.pr (.row .b) .b)))))),(4,.val (.int .i64) .b),(6,.var Y_impl_Order (.pr .b (.pr .b (.pr .b (.pr (.row .b) .b))))),(7,.val S_impl_Order (.row (.pr .b (.pr .b (.pr .b (.pr (.row .b) .b))))))]⟩]
noncomputable def b_S_l9Orders_13 (t0:PV S_impl_Hunk)(t3:PV S_impl_Order)(t4:PV (.int .i64))(t5:PV Y_impl_Hunk)(t6:PV Y_impl_Order)(t7:PV S_impl_Order)(t44:PV S_string)(t45:PV (.int .i64))(t46:PV (.int .i64)):Option ((PV S_impl_Hunk×PV S_impl_Order×PV (.int .i64)×PV Y_impl_Hunk×PV Y_impl_Order×PV S_impl_Order×PV S_string×PV (.int .i64)×PV (.int .i64)×Unit)⊕((PV S_impl_Hunk×PV S_impl_Order×PV (.int .i64)×PV Y_impl_Order×PV S_impl_Order×Unit))):=bif (decide (t46<t45)) then bif inB t46 t44.length then((bif ((t44.getD t46.toNat [])==[46,10]) then bif roomB (t7.length+[(5,((IntKind.wrap .i64 ((IntKind.wrap .i64 (t5.1+t46))+1)),((IntKind.wrap .i64 ((IntKind.wrap .i64 (t5.1+t46))+1)),(([]:PV S_string),()))))].length) then some (t0,t3,t4,t5,t6,(t7++[(5,((IntKind.wrap .i64 ((IntKind.wrap .i64 (t5.1+t46))+1)),((IntKind.wrap .i64 ((IntKind.wrap .i64 (t5.1+t46))+1)),(([]:PV S_string),()))))]),[46,46,10],t44,t45,t46,()) else none else some (t0,t3,t4,t5,t6,t7,(t44.getD t46.toNat []),t44,t45,t46,()):Option ((PV S_impl_Hunk×PV S_impl_Order×PV (.int .i64)×PV Y_impl_Hunk×PV Y_impl_Order×PV S_impl_Order×PV .str×PV S_string×PV (.int .i64)×PV (.int .i64)×Unit)))).bind fun j3=>bif roomB (j3.2.2.2.2.1.2.2.2.1.length+[j3.2.2.2.2.2.2.1].length) then some (.inl (j3.1,j3.2.1,j3.2.2.1,j3.2.2.2.1,(j3.2.2.2.2.1.1,(j3.2.2.2.2.1.2.1,(j3.2.2.2.2.1.2.2.1,((j3.2.2.2.2.1.2.2.2.1++[j3.2.2.2.2.2.2.1]),j3.2.2.2.2.1.2.2.2.2)))),j3.2.2.2.2.2.1,j3.2.2.2.2.2.2.2.1,j3.2.2.2.2.2.2.2.2.1,(IntKind.wrap .i64 (j3.2.2.2.2.2.2.2.2.2.1+1)),())) else none else none else some (.inr (t0,t3,t4,t6,t7,()))
noncomputable def w_S_l9Orders_13:PV S_impl_Hunk×PV S_impl_Order×PV (.int .i64)×PV Y_impl_Hunk×PV Y_impl_Order×PV S_impl_Order×PV S_string×PV (.int .i64)×PV (.int .i64)×Unit→Option ((PV S_impl_Hunk×PV S_impl_Order×PV (.int .i64)×PV Y_impl_Order×PV S_impl_Order×Unit)):=fix fun d=>b_S_l9Orders_13 d.1 d.2.1 d.2.2.1 d.2.2.2.1 d.2.2.2.2.1 d.2.2.2.2.2.1 d.2.2.2.2.2.2.1 d.2.2.2.2.2.2.2.1 d.2.2.2.2.2.2.2.2.1
noncomputable def lp_S_l9Orders_13:Lp:=⟨⟨[],[0,3,4,5,6,7,44,45,46],[]⟩,sh_S_l9Orders_13,o_S_l9Orders_13,fun d=>b_S_l9Orders_13 d.1 d.2.1 d.2.2.1 d.2.2.2.1 d.2.2.2.2.1 d.2.2.2.2.2.1 d.2.2.2.2.2.2.1 d.2.2.2.2.2.2.2.1 d.2.2.2.2.2.2.2.2.1⟩
noncomputable def sh_S_l9Orders_3:List Sh:=mkSh 81 [(0,.val S_impl_Hunk .b),(3,.val S_impl_Order (.row (.pr .b (.pr .b (.pr .b (.pr (.row .b) .b)))))),(4,.val (.int .i64) .b)]
noncomputable def o_S_l9Orders_3:List Out:=[⟨.exit 0,⟨[],[3],[]⟩,mkSh 81 [(3,.val S_impl_Order (.row (.pr .b (.pr .b (.pr .b (.pr (.row .b) .b))))))]⟩]
noncomputable def b_S_l9Orders_3 (t0:PV S_impl_Hunk)(t3:PV S_impl_Order)(t4:PV (.int .i64)):Option ((PV S_impl_Hunk×PV S_impl_Order×PV (.int .i64)×Unit)⊕((PV S_impl_Order×Unit))):=bif (decide (t4≥0)) then bif inB t4 t0.length then((bif ((((t0.getD t4.toNat (dflt Y_impl_Hunk)).2).1)==0) then some (t0,t3,t4,(t0.getD t4.toNat (dflt Y_impl_Hunk)),(1,((t0.getD t4.toNat (dflt Y_impl_Hunk)).1,((t0.getD t4.toNat (dflt Y_impl_Hunk)).1,(([]:PV S_string),())))),()) else bif ((((((t0.getD t4.toNat (dflt Y_impl_Hunk)).2).2).1).length:Int)==0) then some (t0,t3,t4,(t0.getD t4.toNat (dflt Y_impl_Hunk)),(4,((IntKind.wrap .i64 (((t0.getD t4.toNat (dflt Y_impl_Hunk)).1)+1)),((IntKind.wrap .i64 (((t0.getD t4.toNat (dflt Y_impl_Hunk)).1)+(((t0.getD t4.toNat (dflt Y_impl_Hunk)).2).1))),(([]:PV S_string),())))),()) else some (t0,t3,t4,(t0.getD t4.toNat (dflt Y_impl_Hunk)),(3,((IntKind.wrap .i64 (((t0.getD t4.toNat (dflt Y_impl_Hunk)).1)+1)),((IntKind.wrap .i64 (((t0.getD t4.toNat (dflt Y_impl_Hunk)).1)+(((t0.getD t4.toNat (dflt Y_impl_Hunk)).2).1))),(([]:PV S_string),())))),()):Option ((PV S_impl_Hunk×PV S_impl_Order×PV (.int .i64)×PV Y_impl_Hunk×PV Y_impl_Order×Unit)))).bind fun j4=>(w_S_l9Orders_13 (j4.1,j4.2.1,j4.2.2.1,j4.2.2.2.1,j4.2.2.2.2.1,[],j4.2.2.2.1.2.2.1,(j4.2.2.2.1.2.2.1.length:Int),0,())).bind fun l6=>bif roomB (l6.2.1.length+[l6.2.2.2.1].length) then bif roomB ((l6.2.1++[l6.2.2.2.1]).length+l6.2.2.2.2.1.length) then some (.inl (l6.1,((l6.2.1++[l6.2.2.2.1])++l6.2.2.2.2.1),(IntKind.wrap .i64 (l6.2.2.1 -1)),())) else none else none else none else some (.inr (t3,()))
noncomputable def w_S_l9Orders_3:PV S_impl_Hunk×PV S_impl_Order×PV (.int .i64)×Unit→Option ((PV S_impl_Order×Unit)):=fix fun d=>b_S_l9Orders_3 d.1 d.2.1 d.2.2.1
noncomputable def lp_S_l9Orders_3:Lp:=⟨⟨[],[0,3,4],[]⟩,sh_S_l9Orders_3,o_S_l9Orders_3,fun d=>b_S_l9Orders_3 d.1 d.2.1 d.2.2.1⟩
noncomputable def pl_S_l9Orders:Plan:=⟨[(11,o_S_l9Orders_11),(18,o_S_l9Orders_18)],[(13,lp_S_l9Orders_13),(3,lp_S_l9Orders_3)],0,0⟩
noncomputable def f_S_l9Orders (t0:PV S_impl_Hunk):Option (PVs [S_impl_Order]×PVs []):=(w_S_l9Orders_3 (t0,[],(IntKind.wrap .i64 ((t0.length:Int) -1)),())).bind fun l8=>some ((l8.1,()),())
noncomputable def ct_S_l9Orders:Ct:=⟨[(.bor,S_impl_Hunk)],[(S_impl_Order,(.row (.pr .b (.pr .b (.pr .b (.pr (.row .b) .b))))))],fun x=>f_S_l9Orders x.1⟩
noncomputable def cx_S_l9Orders:Cx:=⟨tab,arrs,[],[],gl,[]⟩
theorem eb_S_l9Orders_3 (t0:PV S_impl_Hunk)(t3:PV S_impl_Order)(t4:PV (.int .i64)):denK cx_S_l9Orders (rcN cx_S_l9Orders 0) pl_S_l9Orders 0 ((loopsOf (bodyOf Tryz.f87)).getD 0 .skip) (fillS sh_S_l9Orders_3 (t0,t3,t4,())) (roundK 0 lp_S_l9Orders_3)=b_S_l9Orders_3 t0 t3 t4:=by kernel_rfl
theorem eb_S_l9Orders_13 (t0:PV S_impl_Hunk)(t3:PV S_impl_Order)(t4:PV (.int .i64))(t5:PV Y_impl_Hunk)(t6:PV Y_impl_Order)(t7:PV S_impl_Order)(t44:PV S_string)(t45:PV (.int .i64))(t46:PV (.int .i64)):denK cx_S_l9Orders (rcN cx_S_l9Orders 0) pl_S_l9Orders 0 ((loopsOf (bodyOf Tryz.f87)).getD 1 .skip) (fillS sh_S_l9Orders_13 (t0,t3,t4,t5,t6,t7,t44,t45,t46,())) (roundK 0 lp_S_l9Orders_13)=b_S_l9Orders_13 t0 t3 t4 t5 t6 t7 t44 t45 t46:=by kernel_rfl
theorem ef_S_l9Orders (t0:PV S_impl_Hunk):denF cx_S_l9Orders 0 pl_S_l9Orders Tryz.f87.ntmps (bodyOf Tryz.f87) Tryz.f87.results.toList [(.bor,S_impl_Hunk)] [(S_impl_Order,(.row (.pr .b (.pr .b (.pr .b (.pr (.row .b) .b))))))] (t0,())=f_S_l9Orders t0:=by kernel_rfl
theorem ok_S_l9Orders:FnOk gl Tryz.prog 87 ct_S_l9Orders:=
 fnOk (cx:=cx_S_l9Orders) (pl:=pl_S_l9Orders) (dp:=0) (ok0_of tabOk (by unfold ArrOk;kernel_rfl) mix trivial trivial) Tryz.func87 (by kernel_rfl) (by kernel_rfl) (by kernel_rfl)
  (by rw[show loopsOf (bodyOf Tryz.f87)=[((loopsOf (bodyOf Tryz.f87)).getD 0 .skip),((loopsOf (bodyOf Tryz.f87)).getD 1 .skip)] from by kernel_rfl];exact⟨(by rw[show lookup pl_S_l9Orders.loops (firstId ((loopsOf (bodyOf Tryz.f87)).getD 0 .skip))=some lp_S_l9Orders_3 from by kernel_rfl];exact fun d z h=>(eb_S_l9Orders_3 d.1 d.2.1 d.2.2.1).trans h),(by rw[show lookup pl_S_l9Orders.loops (firstId ((loopsOf (bodyOf Tryz.f87)).getD 1 .skip))=some lp_S_l9Orders_13 from by kernel_rfl];exact fun d z h=>(eb_S_l9Orders_13 d.1 d.2.1 d.2.2.1 d.2.2.2.1 d.2.2.2.2.1 d.2.2.2.2.2.1 d.2.2.2.2.2.2.1 d.2.2.2.2.2.2.2.1 d.2.2.2.2.2.2.2.2.1).trans h),trivial⟩) (fun x=>ef_S_l9Orders x.1)
noncomputable def pl_S_EdOrders:Plan:=⟨[],[],0,0⟩
noncomputable def f_S_EdOrders (t0:PV S_string)(t1:PV S_impl_Hunk):Option (PVs [S_impl_Order,.bool]×PVs []):=(f_S_l9Whole t0 t1).bind fun r4=>bif (!r4.1.1) then some (([],false,()),()) else(f_S_l9Orders t1).bind fun r5=>some ((r5.1.1,true,()),())
noncomputable def ct_S_EdOrders:Ct:=⟨[(.bor,S_string),(.bor,S_impl_Hunk)],[(S_impl_Order,(.row (.pr .b (.pr .b (.pr .b (.pr (.row .b) .b)))))),(.bool,.b)],fun x=>f_S_EdOrders x.1 x.2.1⟩
noncomputable def cx_S_EdOrders:Cx:=⟨tab,arrs,[(86,ct_S_l9Whole),(87,ct_S_l9Orders)],[],gl,[]⟩
theorem ef_S_EdOrders (t0:PV S_string)(t1:PV S_impl_Hunk):denF cx_S_EdOrders 0 pl_S_EdOrders Tryz.f60.ntmps (bodyOf Tryz.f60) Tryz.f60.results.toList [(.bor,S_string),(.bor,S_impl_Hunk)] [(S_impl_Order,(.row (.pr .b (.pr .b (.pr .b (.pr (.row .b) .b)))))),(.bool,.b)] (t0,t1,())=f_S_EdOrders t0 t1:=by kernel_rfl
theorem ok_S_EdOrders:FnOk gl Tryz.prog 60 ct_S_EdOrders:=
 fnOk (cx:=cx_S_EdOrders) (pl:=pl_S_EdOrders) (dp:=0) (ok0_of tabOk (by unfold ArrOk;kernel_rfl) mix ⟨ok_S_l9Whole,ok_S_l9Orders,trivial⟩ trivial) Tryz.func60 (by kernel_rfl) (by kernel_rfl) (by kernel_rfl)
  (by rw[show loopsOf (bodyOf Tryz.f60)=[] from by kernel_rfl];exact trivial) (fun x=>ef_S_EdOrders x.1 x.2.1)
noncomputable def o_S_l1Cur_orders_11:List Out:=[⟨.normal,⟨[],[0,4,5,7,9,44],[]⟩,mkSh 106 [(0,.var Y_spec_l1Cur .b),(1,.addr ⟨0,[],0,0⟩),(5,.val S_string .b),(6,.val S_impl_Order (.row (.pr .b (.pr .b (.pr .b (.pr (.row .b) .b)))))),(8,.val (.int .i64) .b),(10,.var Y_impl_Order (.pr .b (.pr .b (.pr .b (.pr (.row .b) .b))))),(45,.val .bool .b)]⟩]
noncomputable def o_S_l1Cur_orders_12:List Out:=[⟨.normal,⟨[],[0,4,5,7,9,41,42,43],[]⟩,mkSh 106 [(0,.var Y_spec_l1Cur .b),(1,.addr ⟨0,[],0,0⟩),(5,.val S_string .b),(6,.val S_impl_Order (.row (.pr .b (.pr .b (.pr .b (.pr (.row .b) .b)))))),(8,.val (.int .i64) .b),(10,.var Y_impl_Order (.pr .b (.pr .b (.pr .b (.pr (.row .b) .b)))))]⟩]
noncomputable def o_S_l1Cur_orders_14:List Out:=[⟨.normal,⟨[],[0,4,5,7,9,41,42,43],[]⟩,mkSh 106 [(0,.var Y_spec_l1Cur .b),(1,.addr ⟨0,[],0,0⟩),(5,.val S_string .b),(6,.val S_impl_Order (.row (.pr .b (.pr .b (.pr .b (.pr (.row .b) .b)))))),(8,.val (.int .i64) .b),(10,.var Y_impl_Order (.pr .b (.pr .b (.pr .b (.pr (.row .b) .b)))))]⟩]
noncomputable def o_S_l1Cur_orders_15:List Out:=[⟨.normal,⟨[],[0,4,5],[]⟩,mkSh 106 [(0,.var Y_spec_l1Cur .b),(1,.addr ⟨0,[],0,0⟩),(5,.val S_string .b),(6,.val S_impl_Order (.row (.pr .b (.pr .b (.pr .b (.pr (.row .b) .b))))))]⟩]
noncomputable def o_S_l1Cur_orders_24:List Out:=[⟨.normal,⟨[],[4,5],[]⟩,mkSh 106 [(0,.var Y_spec_l1Cur .b),(5,.val S_string .b),(6,.val S_impl_Order (.row (.pr .b (.pr .b (.pr .b (.pr (.row .b) .b))))))]⟩]
noncomputable def pl_S_l1Cur_orders_37:Plan:=⟨[],[],0,106⟩
noncomputable def sh_S_l1Cur_orders_6:List Sh:=mkSh 106 [(0,.var Y_spec_l1Cur .b),(1,.addr ⟨0,[],0,0⟩),(5,.val S_string .b),(6,.val S_impl_Order (.row (.pr .b (.pr .b (.pr .b (.pr (.row .b) .b)))))),(8,.val (.int .i64) .b)]
noncomputable def o_S_l1Cur_orders_6:List Out:=[⟨.exit 0,⟨[],[0,4,5],[]⟩,mkSh 106 [(0,.var Y_spec_l1Cur .b),(1,.addr ⟨0,[],0,0⟩),(5,.val S_string .b),(6,.val S_impl_Order (.row (.pr .b (.pr .b (.pr .b (.pr (.row .b) .b))))))]⟩]
noncomputable def b_S_l1Cur_orders_6 (t0:PV Y_spec_l1Cur)(t5:PV S_string)(t6:PV S_impl_Order)(t8:PV (.int .i64)):Option ((PV Y_spec_l1Cur×PV S_string×PV S_impl_Order×PV (.int .i64)×Unit)⊕((PV Y_spec_l1Cur×PV S_string×PV S_impl_Order×Unit))):=bif (decide (t8>0)) then(f_S_l1Cur_pick t0 6).bind fun r21=>(f_S_l1Cur_pick r21.2.1 5).bind fun r23=>((((bif ((IntKind.wrap .i64 (1+r23.1.1))==3) then some (r23.2.1,t5,t6,t8,((IntKind.wrap .i64 (1+r23.1.1)),(r21.1.1,(r21.1.1,(([]:PV S_string),())))),true,()) else some (r23.2.1,t5,t6,t8,((IntKind.wrap .i64 (1+r23.1.1)),(r21.1.1,(r21.1.1,(([]:PV S_string),())))),((IntKind.wrap .i64 (1+r23.1.1))==4),()):Option ((PV Y_spec_l1Cur×PV S_string×PV S_impl_Order×PV (.int .i64)×PV Y_impl_Order×PV .bool×Unit)))).bind fun j24=>bif j24.2.2.2.2.2.1 then(f_S_l1Cur_pick j24.1 3).bind fun r25=>some (r25.2.1,j24.2.1,j24.2.2.1,j24.2.2.2.1,(j24.2.2.2.2.1.1,(j24.2.2.2.2.1.2.1,((IntKind.wrap .i64 (j24.2.2.2.2.1.2.2.1+r25.1.1)),j24.2.2.2.2.1.2.2.2))),()) else some (j24.1,j24.2.1,j24.2.2.1,j24.2.2.2.1,j24.2.2.2.2.1,()):Option ((PV Y_spec_l1Cur×PV S_string×PV S_impl_Order×PV (.int .i64)×PV Y_impl_Order×Unit)))).bind fun j26=>((bif (decide (j26.2.2.2.2.1.1≤3)) then(f_S_l1Cur_pick j26.1 ([[120,10],[46,46,10],[121,32,122,10]].length:Int)).bind fun r27=>bif inB r27.1.1 [[120,10],[46,46,10],[121,32,122,10]].length then some (r27.2.1,j26.2.1,j26.2.2.1,j26.2.2.2.1,(j26.2.2.2.2.1.1,(j26.2.2.2.2.1.2.1,(j26.2.2.2.2.1.2.2.1,([([[120,10],[46,46,10],[121,32,122,10]].getD r27.1.1.toNat [])],j26.2.2.2.2.1.2.2.2.2)))),()) else none else some (j26.1,j26.2.1,j26.2.2.1,j26.2.2.2.1,j26.2.2.2.2.1,()):Option ((PV Y_spec_l1Cur×PV S_string×PV S_impl_Order×PV (.int .i64)×PV Y_impl_Order×Unit)))).bind fun j28=>bif roomB (j28.2.2.1.length+[j28.2.2.2.2.1].length) then some (.inl (j28.1,j28.2.1,(j28.2.2.1++[j28.2.2.2.2.1]),(IntKind.wrap .i64 (j28.2.2.2.1 -1)),())) else none else some (.inr (t0,t5,t6,()))
noncomputable def w_S_l1Cur_orders_6:PV Y_spec_l1Cur×PV S_string×PV S_impl_Order×PV (.int .i64)×Unit→Option ((PV Y_spec_l1Cur×PV S_string×PV S_impl_Order×Unit)):=fix fun d=>b_S_l1Cur_orders_6 d.1 d.2.1 d.2.2.1 d.2.2.2.1
noncomputable def lp_S_l1Cur_orders_6:Lp:=⟨⟨[],[0,4,5,7,41,42,43],[]⟩,sh_S_l1Cur_orders_6,o_S_l1Cur_orders_6,fun d=>b_S_l1Cur_orders_6 d.1 d.2.1 d.2.2.1 d.2.2.2.1⟩
noncomputable def pl_S_l1Cur_orders:Plan:=⟨[(11,o_S_l1Cur_orders_11),(12,o_S_l1Cur_orders_12),(14,o_S_l1Cur_orders_14),(15,o_S_l1Cur_orders_15),(24,o_S_l1Cur_orders_24)],[(6,lp_S_l1Cur_orders_6)],1,1⟩
noncomputable def f_S_l1Cur_orders (t0:PV Y_spec_l1Cur):Option (PVs [S_string,S_impl_Order]×PVs [Y_spec_l1Cur]):=(f_S_l1Cur_text t0).bind fun r2=>(f_S_l1Cur_hunks r2.2.1 r2.1.1).bind fun r5=>(f_S_EdOrders r2.1.1 r5.1.1).bind fun r6=>(((f_S_l1Cur_one r5.2.1 3).bind fun r31=>bif r31.1.1 then(f_S_l1Cur_pick r31.2.1 4).bind fun r33=>(w_S_l1Cur_orders_6 (r33.2.1,r2.1.1,[],r33.1.1,())).bind fun l34=>some (l34.1,l34.2.1,l34.2.2.1,()) else some (r31.2.1,r2.1.1,r6.1.1,()):Option ((PV Y_spec_l1Cur×PV S_string×PV S_impl_Order×Unit)))).bind fun j35=>((bif (decide ((j35.2.2.1.length:Int)>0)) then(f_S_l1Cur_pick j35.1 (j35.2.2.1.length:Int)).bind fun r42=>(f_S_l1Cur_pick r42.2.1 15).bind fun r44=>bif (r44.1.1==0) then bif inB r42.1.1 j35.2.2.1.length then bif inB r42.1.1 j35.2.2.1.length then some (r44.2.1,j35.2.1,(j35.2.2.1.set r42.1.1.toNat ((j35.2.2.1.getD r42.1.1.toNat (dflt Y_impl_Order)).1,((IntKind.wrap .i64 ((((j35.2.2.1.getD r42.1.1.toNat (dflt Y_impl_Order)).2).1)+1)),((j35.2.2.1.getD r42.1.1.toNat (dflt Y_impl_Order)).2).2))),()) else none else none else bif (r44.1.1==1) then bif inB r42.1.1 j35.2.2.1.length then bif roomB ((((((j35.2.2.1.getD r42.1.1.toNat (dflt Y_impl_Order)).2).2).2).1).length+[[46,10]].length) then bif decide (0≤r42.1.1)&&(r42.1.1.toNat==r42.1.1.toNat) then bif ((r42.1.1.toNat==r42.1.1.toNat)&&true) then bif ((r42.1.1.toNat==r42.1.1.toNat)&&true) then some (r44.2.1,j35.2.1,(j35.2.2.1.set r42.1.1.toNat ((j35.2.2.1.getD r42.1.1.toNat (dflt Y_impl_Order)).1,(((j35.2.2.1.getD r42.1.1.toNat (dflt Y_impl_Order)).2).1,((((j35.2.2.1.getD r42.1.1.toNat (dflt Y_impl_Order)).2).2).1,(((((((j35.2.2.1.getD r42.1.1.toNat (dflt Y_impl_Order)).2).2).2).1)++[[46,10]]),((((j35.2.2.1.getD r42.1.1.toNat (dflt Y_impl_Order)).2).2).2).2))))),()) else none else none else none else none else none else bif (r44.1.1==2) then(f_S_l1Cur_pick r44.2.1 7).bind fun r45=>bif inB r42.1.1 j35.2.2.1.length then some (r45.2.1,j35.2.1,(j35.2.2.1.set r42.1.1.toNat (r45.1.1,(j35.2.2.1.getD r42.1.1.toNat (dflt Y_impl_Order)).2)),()) else none else some (r44.2.1,j35.2.1,j35.2.2.1,()) else some (j35.1,j35.2.1,j35.2.2.1,()):Option ((PV Y_spec_l1Cur×PV S_string×PV S_impl_Order×Unit)))).bind fun j46=>some ((j46.2.1,j46.2.2.1,()),(j46.1,()))
noncomputable def ct_S_l1Cur_orders:Ct:=⟨[(.ptr,Y_spec_l1Cur)],[(S_string,.b),(S_impl_Order,(.row (.pr .b (.pr .b (.pr .b (.pr (.row .b) .b))))))],fun x=>f_S_l1Cur_orders x.1⟩
noncomputable def cx_S_l1Cur_orders:Cx:=⟨tab,arrs,[(35,ct_S_l1Cur_pick),(59,ct_S_l1Cur_text),(60,ct_S_EdOrders),(61,ct_S_l1Cur_hunks),(62,ct_S_l1Cur_one)],[(37,Tryz.f37,pl_S_l1Cur_orders_37)],gl,[]⟩
theorem eb_S_l1Cur_orders_6 (t0:PV Y_spec_l1Cur)(t5:PV S_string)(t6:PV S_impl_Order)(t8:PV (.int .i64)):denK cx_S_l1Cur_orders (rcN cx_S_l1Cur_orders 1) pl_S_l1Cur_orders 1 ((loopsOf (bodyOf Tryz.f34)).getD 0 .skip) (fillS sh_S_l1Cur_orders_6 (t0,t5,t6,t8,())) (roundK 1 lp_S_l1Cur_orders_6)=b_S_l1Cur_orders_6 t0 t5 t6 t8:=by kernel_rfl
theorem ef_S_l1Cur_orders (t0:PV Y_spec_l1Cur):denF cx_S_l1Cur_orders 1 pl_S_l1Cur_orders Tryz.f34.ntmps (bodyOf Tryz.f34) Tryz.f34.results.toList [(.ptr,Y_spec_l1Cur)] [(S_string,.b),(S_impl_Order,(.row (.pr .b (.pr .b (.pr .b (.pr (.row .b) .b))))))] (t0,())=f_S_l1Cur_orders t0:=by kernel_rfl
theorem ok_S_l1Cur_orders:FnOk gl Tryz.prog 34 ct_S_l1Cur_orders:=
 fnOk (cx:=cx_S_l1Cur_orders) (pl:=pl_S_l1Cur_orders) (dp:=1) (ok0_of tabOk (by unfold ArrOk;kernel_rfl) mix ⟨ok_S_l1Cur_pick,ok_S_l1Cur_text,ok_S_EdOrders,ok_S_l1Cur_hunks,ok_S_l1Cur_one,trivial⟩ ⟨⟨Tryz.func37,by kernel_rfl,(by rw[show loopsOf (bodyOf Tryz.f37)=[] from by kernel_rfl];exact trivial)⟩,trivial⟩) Tryz.func34 (by kernel_rfl) (by kernel_rfl) (by kernel_rfl)
  (by rw[show loopsOf (bodyOf Tryz.f34)=[((loopsOf (bodyOf Tryz.f34)).getD 0 .skip)] from by kernel_rfl];exact⟨(by rw[show lookup pl_S_l1Cur_orders.loops (firstId ((loopsOf (bodyOf Tryz.f34)).getD 0 .skip))=some lp_S_l1Cur_orders_6 from by kernel_rfl];exact fun d z h=>(eb_S_l1Cur_orders_6 d.1 d.2.1 d.2.2.1 d.2.2.2.1).trans h),trivial⟩) (fun x=>ef_S_l1Cur_orders x.1)
noncomputable def pl_S_DrawGoodOrders:Plan:=⟨[],[],0,0⟩
noncomputable def f_S_DrawGoodOrders (t0:PV S_uint8):Option (PVs [S_impl_Order]×PVs []):=(f_S_l1Cur_orders (t0,(0,(0,())))).bind fun r2=>some ((r2.1.2.1,()),())
noncomputable def ct_S_DrawGoodOrders:Ct:=⟨[(.bor,S_uint8)],[(S_impl_Order,(.row (.pr .b (.pr .b (.pr .b (.pr (.row .b) .b))))))],fun x=>f_S_DrawGoodOrders x.1⟩
noncomputable def cx_S_DrawGoodOrders:Cx:=⟨tab,arrs,[(34,ct_S_l1Cur_orders)],[],gl,[]⟩
theorem ef_S_DrawGoodOrders (t0:PV S_uint8):denF cx_S_DrawGoodOrders 0 pl_S_DrawGoodOrders Tryz.f28.ntmps (bodyOf Tryz.f28) Tryz.f28.results.toList [(.bor,S_uint8)] [(S_impl_Order,(.row (.pr .b (.pr .b (.pr .b (.pr (.row .b) .b))))))] (t0,())=f_S_DrawGoodOrders t0:=by kernel_rfl
theorem ok_S_DrawGoodOrders:FnOk gl Tryz.prog 28 ct_S_DrawGoodOrders:=
 fnOk (cx:=cx_S_DrawGoodOrders) (pl:=pl_S_DrawGoodOrders) (dp:=0) (ok0_of tabOk (by unfold ArrOk;kernel_rfl) mix ⟨ok_S_l1Cur_orders,trivial⟩ trivial) Tryz.func28 (by kernel_rfl) (by kernel_rfl) (by kernel_rfl)
  (by rw[show loopsOf (bodyOf Tryz.f28)=[] from by kernel_rfl];exact trivial) (fun x=>ef_S_DrawGoodOrders x.1)
noncomputable def pl_S_DrawOrdersText:Plan:=⟨[],[],0,0⟩
noncomputable def f_S_DrawOrdersText (t0:PV S_uint8):Option (PVs [S_impl_Order]×PVs []):=(f_S_DrawGoodOrders t0).bind fun r1=>some ((r1.1.1,()),())
noncomputable def ct_S_DrawOrdersText:Ct:=⟨[(.bor,S_uint8)],[(S_impl_Order,(.row (.pr .b (.pr .b (.pr .b (.pr (.row .b) .b))))))],fun x=>f_S_DrawOrdersText x.1⟩
noncomputable def cx_S_DrawOrdersText:Cx:=⟨tab,arrs,[(28,ct_S_DrawGoodOrders)],[],gl,[]⟩
theorem ef_S_DrawOrdersText (t0:PV S_uint8):denF cx_S_DrawOrdersText 0 pl_S_DrawOrdersText Tryz.f11.ntmps (bodyOf Tryz.f11) Tryz.f11.results.toList [(.bor,S_uint8)] [(S_impl_Order,(.row (.pr .b (.pr .b (.pr .b (.pr (.row .b) .b))))))] (t0,())=f_S_DrawOrdersText t0:=by kernel_rfl
theorem ok_S_DrawOrdersText:FnOk gl Tryz.prog 11 ct_S_DrawOrdersText:=
 fnOk (cx:=cx_S_DrawOrdersText) (pl:=pl_S_DrawOrdersText) (dp:=0) (ok0_of tabOk (by unfold ArrOk;kernel_rfl) mix ⟨ok_S_DrawGoodOrders,trivial⟩ trivial) Tryz.func11 (by kernel_rfl) (by kernel_rfl) (by kernel_rfl)
  (by rw[show loopsOf (bodyOf Tryz.f11)=[] from by kernel_rfl];exact trivial) (fun x=>ef_S_DrawOrdersText x.1)
noncomputable def pl_I_in:Plan:=⟨[],[],0,0⟩
noncomputable def f_I_in (t0:PV (.int .i64))(t1:PV (.int .i64))(t2:PV (.int .i64)):Option (PVs [.bool]×PVs []):=bif (decide (t0≥t1)) then some (((decide (t0≤t2)),()),()) else some ((false,()),())
noncomputable def ct_I_in:Ct:=⟨[(.bor,(.int .i64)),(.bor,(.int .i64)),(.bor,(.int .i64))],[(.bool,.b)],fun x=>f_I_in x.1 x.2.1 x.2.2.1⟩
noncomputable def cx_I_in:Cx:=⟨tab,arrs,[],[],gl,[]⟩
theorem ef_I_in (t0:PV (.int .i64))(t1:PV (.int .i64))(t2:PV (.int .i64)):denF cx_I_in 0 pl_I_in Tryz.f77.ntmps (bodyOf Tryz.f77) Tryz.f77.results.toList [(.bor,(.int .i64)),(.bor,(.int .i64)),(.bor,(.int .i64))] [(.bool,.b)] (t0,t1,t2,())=f_I_in t0 t1 t2:=by kernel_rfl
theorem ok_I_in:FnOk gl Tryz.prog 77 ct_I_in:=
 fnOk (cx:=cx_I_in) (pl:=pl_I_in) (dp:=0) (ok0_of tabOk (by unfold ArrOk;kernel_rfl) mix trivial trivial) Tryz.func77 (by kernel_rfl) (by kernel_rfl) (by kernel_rfl)
  (by rw[show loopsOf (bodyOf Tryz.f77)=[] from by kernel_rfl];exact trivial) (fun x=>ef_I_in x.1 x.2.1 x.2.2.1)
noncomputable def pl_I_isLine:Plan:=⟨[],[],0,0⟩
noncomputable def f_I_isLine (t0:PV .str):Option (PVs [.bool]×PVs []):=(f_I_in (t0.length:Int) 1 30).bind fun r1=>bif r1.1.1 then bif cutB 0 (IntKind.wrap .i64 ((t0.length:Int) -1)) t0.length then(f_strings_Contains (cutL 0 (IntKind.wrap .i64 ((t0.length:Int) -1)) t0) [10]).bind fun r2=>some (((!r2.1.1),()),()) else none else some ((false,()),())
noncomputable def ct_I_isLine:Ct:=⟨[(.bor,.str)],[(.bool,.b)],fun x=>f_I_isLine x.1⟩
noncomputable def cx_I_isLine:Cx:=⟨tab,arrs,[(77,ct_I_in),(104,ct_strings_Contains)],[],gl,[]⟩
theorem ef_I_isLine (t0:PV .str):denF cx_I_isLine 0 pl_I_isLine Tryz.f80.ntmps (bodyOf Tryz.f80) Tryz.f80.results.toList [(.bor,.str)] [(.bool,.b)] (t0,())=f_I_isLine t0:=by kernel_rfl
theorem ok_I_isLine:FnOk gl Tryz.prog 80 ct_I_isLine:=
 fnOk (cx:=cx_I_isLine) (pl:=pl_I_isLine) (dp:=0) (ok0_of tabOk (by unfold ArrOk;kernel_rfl) mix ⟨ok_I_in,ok_strings_Contains,trivial⟩ trivial) Tryz.func80 (by kernel_rfl) (by kernel_rfl) (by kernel_rfl)
  (by rw[show loopsOf (bodyOf Tryz.f80)=[] from by kernel_rfl];exact trivial) (fun x=>ef_I_isLine x.1)
noncomputable def pl_internal_stringslite_HasSuffix:Plan:=⟨[],[],0,0⟩
noncomputable def f_internal_stringslite_HasSuffix (t0:PV .str)(t1:PV .str):Option (PVs [.bool]×PVs []):=bif (decide ((t0.length:Int)≥(t1.length:Int))) then bif cutB (IntKind.wrap .i64 ((t0.length:Int) -(t1.length:Int))) (t0.length:Int) t0.length then some ((((cutL (IntKind.wrap .i64 ((t0.length:Int) -(t1.length:Int))) (t0.length:Int) t0)==t1),()),()) else none else some ((false,()),())
noncomputable def ct_internal_stringslite_HasSuffix:Ct:=⟨[(.bor,.str),(.bor,.str)],[(.bool,.b)],fun x=>f_internal_stringslite_HasSuffix x.1 x.2.1⟩
noncomputable def cx_internal_stringslite_HasSuffix:Cx:=⟨tab,arrs,[],[],gl,[]⟩
theorem ef_internal_stringslite_HasSuffix (t0:PV .str)(t1:PV .str):denF cx_internal_stringslite_HasSuffix 0 pl_internal_stringslite_HasSuffix Tryz.f111.ntmps (bodyOf Tryz.f111) Tryz.f111.results.toList [(.bor,.str),(.bor,.str)] [(.bool,.b)] (t0,t1,())=f_internal_stringslite_HasSuffix t0 t1:=by kernel_rfl
theorem ok_internal_stringslite_HasSuffix:FnOk gl Tryz.prog 111 ct_internal_stringslite_HasSuffix:=
 fnOk (cx:=cx_internal_stringslite_HasSuffix) (pl:=pl_internal_stringslite_HasSuffix) (dp:=0) (ok0_of tabOk (by unfold ArrOk;kernel_rfl) mix trivial trivial) Tryz.func111 (by kernel_rfl) (by kernel_rfl) (by kernel_rfl)
  (by rw[show loopsOf (bodyOf Tryz.f111)=[] from by kernel_rfl];exact trivial) (fun x=>ef_internal_stringslite_HasSuffix x.1 x.2.1)
noncomputable def pl_strings_HasSuffix:Plan:=⟨[],[],0,0⟩
noncomputable def f_strings_HasSuffix (t0:PV .str)(t1:PV .str):Option (PVs [.bool]×PVs []):=(f_internal_stringslite_HasSuffix t0 t1).bind fun r1=>some ((r1.1.1,()),())
noncomputable def ct_strings_HasSuffix:Ct:=⟨[(.bor,.str),(.bor,.str)],[(.bool,.b)],fun x=>f_strings_HasSuffix x.1 x.2.1⟩
noncomputable def cx_strings_HasSuffix:Cx:=⟨tab,arrs,[(111,ct_internal_stringslite_HasSuffix)],[],gl,[]⟩
theorem ef_strings_HasSuffix (t0:PV .str)(t1:PV .str):denF cx_strings_HasSuffix 0 pl_strings_HasSuffix Tryz.f105.ntmps (bodyOf Tryz.f105) Tryz.f105.results.toList [(.bor,.str),(.bor,.str)] [(.bool,.b)] (t0,t1,())=f_strings_HasSuffix t0 t1:=by kernel_rfl
theorem ok_strings_HasSuffix:FnOk gl Tryz.prog 105 ct_strings_HasSuffix:=
 fnOk (cx:=cx_strings_HasSuffix) (pl:=pl_strings_HasSuffix) (dp:=0) (ok0_of tabOk (by unfold ArrOk;kernel_rfl) mix ⟨ok_internal_stringslite_HasSuffix,trivial⟩ trivial) Tryz.func105 (by kernel_rfl) (by kernel_rfl) (by kernel_rfl)
  (by rw[show loopsOf (bodyOf Tryz.f105)=[] from by kernel_rfl];exact trivial) (fun x=>ef_strings_HasSuffix x.1 x.2.1)
noncomputable def pl_I_isEnded:Plan:=⟨[],[],0,0⟩
noncomputable def f_I_isEnded (t0:PV .str):Option (PVs [.bool]×PVs []):=(f_strings_HasSuffix t0 [10]).bind fun r1=>some ((r1.1.1,()),())
noncomputable def ct_I_isEnded:Ct:=⟨[(.bor,.str)],[(.bool,.b)],fun x=>f_I_isEnded x.1⟩
noncomputable def cx_I_isEnded:Cx:=⟨tab,arrs,[(105,ct_strings_HasSuffix)],[],gl,[]⟩
theorem ef_I_isEnded (t0:PV .str):denF cx_I_isEnded 0 pl_I_isEnded Tryz.f81.ntmps (bodyOf Tryz.f81) Tryz.f81.results.toList [(.bor,.str)] [(.bool,.b)] (t0,())=f_I_isEnded t0:=by kernel_rfl
theorem ok_I_isEnded:FnOk gl Tryz.prog 81 ct_I_isEnded:=
 fnOk (cx:=cx_I_isEnded) (pl:=pl_I_isEnded) (dp:=0) (ok0_of tabOk (by unfold ArrOk;kernel_rfl) mix ⟨ok_strings_HasSuffix,trivial⟩ trivial) Tryz.func81 (by kernel_rfl) (by kernel_rfl) (by kernel_rfl)
  (by rw[show loopsOf (bodyOf Tryz.f81)=[] from by kernel_rfl];exact trivial) (fun x=>ef_I_isEnded x.1)
noncomputable def pl_I_goodOrder_1:Plan:=⟨[],[],0,0⟩
noncomputable def f_I_goodOrder_1 (t0:PV .str):Option (PVs [.bool]×PVs []):=(f_I_isLine t0).bind fun r1=>bif (!r1.1.1) then some ((true,()),()) else(f_I_isEnded t0).bind fun r2=>bif (!r2.1.1) then some ((true,()),()) else some (((t0==[46,10]),()),())
noncomputable def ct_I_goodOrder_1:Ct:=⟨[(.bor,.str)],[(.bool,.b)],fun x=>f_I_goodOrder_1 x.1⟩
noncomputable def cx_I_goodOrder_1:Cx:=⟨tab,arrs,[(80,ct_I_isLine),(81,ct_I_isEnded)],[],gl,[]⟩
theorem ef_I_goodOrder_1 (t0:PV .str):denF cx_I_goodOrder_1 0 pl_I_goodOrder_1 Tryz.f79.ntmps (bodyOf Tryz.f79) Tryz.f79.results.toList [(.bor,.str)] [(.bool,.b)] (t0,())=f_I_goodOrder_1 t0:=by kernel_rfl
theorem ok_I_goodOrder_1:FnOk gl Tryz.prog 79 ct_I_goodOrder_1:=
 fnOk (cx:=cx_I_goodOrder_1) (pl:=pl_I_goodOrder_1) (dp:=0) (ok0_of tabOk (by unfold ArrOk;kernel_rfl) mix ⟨ok_I_isLine,ok_I_isEnded,trivial⟩ trivial) Tryz.func79 (by kernel_rfl) (by kernel_rfl) (by kernel_rfl)
  (by rw[show loopsOf (bodyOf Tryz.f79)=[] from by kernel_rfl];exact trivial) (fun x=>ef_I_goodOrder_1 x.1)
noncomputable def o_I_goodOrder_2:List Out:=[⟨.normal,⟨[],[1,15,21,22,23,24,32,33,34,35,36,42,43,44,45,46,49,50,51,57,58,59,68,69,70,79,80,81,84,85,86,87,88],[]⟩,mkSh 90 [(1,.var Y_impl_Order .b),(15,.val .bool .b)]⟩]
noncomputable def o_I_goodOrder_4:List Out:=[⟨.normal,⟨[],[1,3,32,33,34,35,36,42,43,44,45,46,49,50,51,57,58,59,68,69,70,79,80,81,84,85,86,87,88],[]⟩,mkSh 90 [(1,.var Y_impl_Order .b),(3,.val .bool .b)]⟩]
noncomputable def pl_I_goodOrder_78:Plan:=⟨[],[],1,90⟩
noncomputable def sh_I_goodOrder_103_2:List Sh:=mkSh 118 [(1,.var Y_impl_Order .b),(15,.val .bool .b),(16,.addr ⟨1,[.r,.r,.r,.l],0,0⟩),(17,.val S_string .b),(18,.val (.int .i64) .b),(19,.val .bool .b),(20,.val .bool .b),(21,.addr ⟨1,[.r,.r,.r,.l],0,0⟩),(22,.val S_string .b),(90,.val S_string .b),(91,.fn 79 []),(94,.val .bool .b),(95,.val S_string .b),(96,.fn 79 []),(99,.val S_string .b),(100,.fn 79 []),(106,.val (.int .i64) .b),(107,.val (.int .i64) .b)]
noncomputable def o_I_goodOrder_103_2:List Out:=[⟨.exit 0,⟨[],[],[]⟩,mkSh 118 [(1,.var Y_impl_Order .b),(15,.val .bool .b),(16,.addr ⟨1,[.r,.r,.r,.l],0,0⟩),(17,.val S_string .b),(18,.val (.int .i64) .b),(19,.val .bool .b),(20,.val .bool .b),(21,.addr ⟨1,[.r,.r,.r,.l],0,0⟩),(22,.val S_string .b),(90,.val S_string .b),(91,.fn 79 []),(94,.val .bool .b),(95,.val S_string .b),(96,.fn 79 [])]⟩,⟨.ret,⟨[],[4],[]⟩,mkSh 118 [(1,.var Y_impl_Order .b),(15,.val .bool .b),(16,.addr ⟨1,[.r,.r,.r,.l],0,0⟩),(17,.val S_string .b),(18,.val (.int .i64) .b),(19,.val .bool .b),(20,.val .bool .b),(21,.addr ⟨1,[.r,.r,.r,.l],0,0⟩),(22,.val S_string .b),(90,.val S_string .b),(91,.fn 79 []),(94,.val .bool .b),(95,.val S_string .b),(96,.fn 79 []),(103,.val (.int .i64) .b)]⟩]
noncomputable def b_I_goodOrder_103_2 (t1:PV Y_impl_Order)(t15:PV .bool)(t17:PV S_string)(t18:PV (.int .i64))(t19:PV .bool)(t20:PV .bool)(t22:PV S_string)(t90:PV S_string)(t94:PV .bool)(t95:PV S_string)(t99:PV S_string)(t106:PV (.int .i64))(t107:PV (.int .i64)):Option ((PV Y_impl_Order×PV .bool×PV S_string×PV (.int .i64)×PV .bool×PV .bool×PV S_string×PV S_string×PV .bool×PV S_string×PV S_string×PV (.int .i64)×PV (.int .i64)×Unit)⊕((PV Y_impl_Order×PV .bool×PV S_string×PV (.int .i64)×PV .bool×PV .bool×PV S_string×PV S_string×PV .bool×PV S_string×Unit)⊕(PV Y_impl_Order×PV .bool×PV S_string×PV (.int .i64)×PV .bool×PV .bool×PV S_string×PV S_string×PV .bool×PV S_string×PV (.int .i64)×Unit))):=bif (decide (t107<t106)) then bif inB t107 t99.length then(f_I_goodOrder_1 (t99.getD t107.toNat [])).bind fun r13=>bif r13.1.1 then some (.inr (.inr (t1,t15,t17,t18,t19,t20,t22,t90,t94,t95,t107,()))) else some (.inl (t1,t15,t17,t18,t19,t20,t22,t90,t94,t95,t99,t106,(IntKind.wrap .i64 (t107+1)),())) else none else some (.inr (.inl (t1,t15,t17,t18,t19,t20,t22,t90,t94,t95,())))
noncomputable def w_I_goodOrder_103_2:PV Y_impl_Order×PV .bool×PV S_string×PV (.int .i64)×PV .bool×PV .bool×PV S_string×PV S_string×PV .bool×PV S_string×PV S_string×PV (.int .i64)×PV (.int .i64)×Unit→Option ((PV Y_impl_Order×PV .bool×PV S_string×PV (.int .i64)×PV .bool×PV .bool×PV S_string×PV S_string×PV .bool×PV S_string×Unit)⊕(PV Y_impl_Order×PV .bool×PV S_string×PV (.int .i64)×PV .bool×PV .bool×PV S_string×PV S_string×PV .bool×PV S_string×PV (.int .i64)×Unit)):=fix fun d=>b_I_goodOrder_103_2 d.1 d.2.1 d.2.2.1 d.2.2.2.1 d.2.2.2.2.1 d.2.2.2.2.2.1 d.2.2.2.2.2.2.1 d.2.2.2.2.2.2.2.1 d.2.2.2.2.2.2.2.2.1 d.2.2.2.2.2.2.2.2.2.1 d.2.2.2.2.2.2.2.2.2.2.1 d.2.2.2.2.2.2.2.2.2.2.2.1 d.2.2.2.2.2.2.2.2.2.2.2.2.1
noncomputable def lp_I_goodOrder_103_2:Lp:=⟨⟨[],[0,1,7,8],[]⟩,sh_I_goodOrder_103_2,o_I_goodOrder_103_2,fun d=>b_I_goodOrder_103_2 d.1 d.2.1 d.2.2.1 d.2.2.2.1 d.2.2.2.2.1 d.2.2.2.2.2.1 d.2.2.2.2.2.2.1 d.2.2.2.2.2.2.2.1 d.2.2.2.2.2.2.2.2.1 d.2.2.2.2.2.2.2.2.2.1 d.2.2.2.2.2.2.2.2.2.2.1 d.2.2.2.2.2.2.2.2.2.2.2.1 d.2.2.2.2.2.2.2.2.2.2.2.2.1⟩
noncomputable def pl_I_goodOrder_103:Plan:=⟨[],[(2,lp_I_goodOrder_103_2)],0,99⟩
noncomputable def pl_I_goodOrder:Plan:=⟨[(2,o_I_goodOrder_2),(4,o_I_goodOrder_4)],[],2,0⟩
noncomputable def f_I_goodOrder (t0:PV Y_impl_Order):Option (PVs [.bool]×PVs []):=
 ((
   (f_I_in t0.2.1 0 1000).bind fun r6=>
     bif (!r6.1.1) then
      some (t0,true,())
     else
      (f_I_in t0.2.2.1 t0.2.1 1000).bind fun r7=>
        some (t0,(!r7.1.1),()):Option ((PV Y_impl_Order×PV .bool×Unit)))).bind fun j8=>
   bif j8.2.1 then
    some ((false,()),())
   else
    ((
      (f_I_in (j8.1.2.2.2.1.length:Int) 1 40).bind fun r18=>
        bif r18.1.1 then
         (w_I_goodOrder_103_2 (j8.1,j8.2.1,j8.1.2.2.2.1,(j8.1.2.2.2.1.length:Int),r18.1.1,true,j8.1.2.2.2.1,j8.1.2.2.2.1,false,j8.1.2.2.2.1,j8.1.2.2.2.1,(j8.1.2.2.2.1.length:Int),0,())).bind fun x24=>
           match x24 with
           | .inl l21=>
             bif l21.2.2.2.2.2.1 then
              some (l21.1,(!(decide ((-1)≥0))),())
             else
              some (l21.1,false,())
           | .inr l22=>
             bif l22.2.2.2.2.2.1 then
              some (l22.1,(!(decide (l22.2.2.2.2.2.2.2.2.2.2.1≥0))),())
             else
              some (l22.1,false,())
        else
         some (j8.1,false,()):Option ((PV Y_impl_Order×PV .bool×Unit)))).bind fun j23=>
      bif (j23.1.1==1) then
       bif j23.2.1 then
        some (((j23.1.2.2.1==j23.1.2.1),()),())
       else
        some ((false,()),())
      else
       bif (j23.1.1==2) then
        bif j23.2.1 then
         bif (j23.1.2.2.1==j23.1.2.1) then
          some (((decide (j23.1.2.1≥1)),()),())
         else
          some ((false,()),())
        else
         some ((false,()),())
       else
        bif (j23.1.1==3) then
         bif j23.2.1 then
          some (((decide (j23.1.2.1≥1)),()),())
         else
          some ((false,()),())
        else
         bif (j23.1.1==4) then
          bif ((j23.1.2.2.2.1.length:Int)==0) then
           some (((decide (j23.1.2.1≥1)),()),())
          else
           some ((false,()),())
         else
          bif (j23.1.1==5) then
           bif ((j23.1.2.2.2.1.length:Int)==0) then
            bif (decide (j23.1.2.1≥1)) then
             some (((j23.1.2.2.1==j23.1.2.1),()),())
            else
             some ((false,()),())
           else
            some ((false,()),())
          else
           some ((false,()),())
noncomputable def ct_I_goodOrder:Ct:=⟨[(.bor,Y_impl_Order)],[(.bool,.b)],fun x=>f_I_goodOrder x.1⟩
noncomputable def cx_I_goodOrder:Cx:=⟨tab,arrs,[(77,ct_I_in),(79,ct_I_goodOrder_1)],[(78,Tryz.f78,pl_I_goodOrder_78),(103,Tryz.f103,pl_I_goodOrder_103)],gl,[]⟩
theorem eb_I_goodOrder_103_2 (t1:PV Y_impl_Order)(t15:PV .bool)(t17:PV S_string)(t18:PV (.int .i64))(t19:PV .bool)(t20:PV .bool)(t22:PV S_string)(t90:PV S_string)(t94:PV .bool)(t95:PV S_string)(t99:PV S_string)(t106:PV (.int .i64))(t107:PV (.int .i64)):denK cx_I_goodOrder (rcN cx_I_goodOrder 0) pl_I_goodOrder_103 99 ((loopsOf (bodyOf Tryz.f103)).getD 0 .skip) (fillS sh_I_goodOrder_103_2 (t1,t15,t17,t18,t19,t20,t22,t90,t94,t95,t99,t106,t107,())) (roundK 99 lp_I_goodOrder_103_2)=b_I_goodOrder_103_2 t1 t15 t17 t18 t19 t20 t22 t90 t94 t95 t99 t106 t107:=by kernel_rfl
theorem ef_I_goodOrder (t0:PV Y_impl_Order):denF cx_I_goodOrder 2 pl_I_goodOrder Tryz.f54.ntmps (bodyOf Tryz.f54) Tryz.f54.results.toList [(.bor,Y_impl_Order)] [(.bool,.b)] (t0,())=f_I_goodOrder t0:=by kernel_rfl
theorem ok_I_goodOrder:FnOk gl Tryz.prog 54 ct_I_goodOrder:=
 fnOk (cx:=cx_I_goodOrder) (pl:=pl_I_goodOrder) (dp:=2) (ok0_of tabOk (by unfold ArrOk;kernel_rfl) mix ⟨ok_I_in,ok_I_goodOrder_1,trivial⟩ ⟨⟨Tryz.func78,by kernel_rfl,(by rw[show loopsOf (bodyOf Tryz.f78)=[] from by kernel_rfl];exact trivial)⟩,⟨Tryz.func103,by kernel_rfl,(by rw[show loopsOf (bodyOf Tryz.f103)=[((loopsOf (bodyOf Tryz.f103)).getD 0 .skip)] from by kernel_rfl];exact⟨(by rw[show lookup pl_I_goodOrder_103.loops (firstId ((loopsOf (bodyOf Tryz.f103)).getD 0 .skip))=some lp_I_goodOrder_103_2 from by kernel_rfl];exact fun d z h=>(eb_I_goodOrder_103_2 d.1 d.2.1 d.2.2.1 d.2.2.2.1 d.2.2.2.2.1 d.2.2.2.2.2.1 d.2.2.2.2.2.2.1 d.2.2.2.2.2.2.2.1 d.2.2.2.2.2.2.2.2.1 d.2.2.2.2.2.2.2.2.2.1 d.2.2.2.2.2.2.2.2.2.2.1 d.2.2.2.2.2.2.2.2.2.2.2.1 d.2.2.2.2.2.2.2.2.2.2.2.2.1).trans h),trivial⟩)⟩,trivial⟩) Tryz.func54 (by kernel_rfl) (by kernel_rfl) (by kernel_rfl)
  (by rw[show loopsOf (bodyOf Tryz.f54)=[] from by kernel_rfl];exact trivial) (fun x=>ef_I_goodOrder x.1)
end R
