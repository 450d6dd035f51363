/- The functions that L_FnContext reach, as pure functions, and that the program computes them. -/
import Derived.Test.YtljgmcbpjakecaaGreatDoorL3
import Derived.Test.YtljgmcbpjakecaaGreatDoorL2
import Derived.Test.YtljgmcbpjakecaaGreatDoorChecked
import Derived.KernelRfl
open Go Go.Dn Go.Proofs
namespace R
set_option linter.unusedVariables false
@[reducible] def S_string:Ty:=(.slice 9 .str)
@[reducible] def S_bool:Ty:=(.slice 4 .bool)
@[reducible] def S_uint8:Ty:=(.slice 5 (.int .u8))
@[reducible] def S_int:Ty:=(.slice 3 (.int .i64))
@[reducible] def Y_spec_l8Line:Ty:=(.pair (.int .u8) (.pair .str .unit))
@[reducible] def Y_impl_Row:Ty:=(.pair (.int .i64) (.pair .str .unit))
@[reducible] def S_spec_l8Line:Ty:=(.slice 216 Y_spec_l8Line)
@[reducible] def S_impl_Row:Ty:=(.slice 129 Y_impl_Row)
@[reducible] def Y_impl_Hunk:Ty:=(.pair (.int .i64) (.pair (.int .i64) (.pair S_string .unit)))
@[reducible] def Y_spec_l1Cur:Ty:=(.pair S_uint8 (.pair (.int .i64) (.pair (.int .u64) .unit)))
@[reducible] def S_impl_Hunk:Ty:=(.slice 133 Y_impl_Hunk)
@[reducible] def Y_impl_Order:Ty:=(.pair (.int .i64) Y_impl_Hunk)
@[reducible] def Y_impl_Group:Ty:=(.pair (.int .i64) (.pair (.int .i64) (.pair S_impl_Row .unit)))
@[reducible] def S_impl_Group:Ty:=(.slice 68 Y_impl_Group)
noncomputable def tab:List (TypeId×Ty):=[(3,(.int .i64)),(4,.bool),(5,(.int .u8)),(9,.str),(22,S_uint8),(24,S_string),(25,S_impl_Hunk),(36,S_int),(51,S_impl_Group),(66,S_impl_Row),(68,Y_impl_Group),(74,(.int .u64)),(76,Y_spec_l1Cur),(129,Y_impl_Row),(133,Y_impl_Hunk),(170,S_spec_l8Line),(174,S_bool),(184,Y_impl_Order),(216,Y_spec_l8Line)]
noncomputable def arrs:List TypeId:=[]
theorem tabOk:TabOk Tryz.prog tab:=by unfold TabOk;kernel_rfl
theorem mix:Tryz.prog.follows .mixedOrders=true:=by kernel_rfl
noncomputable def gl:Glob:=(Glob.both (tabGlob Tryz.prog 2) (Glob.both (numGlob 1) (Glob.both (errGlob Tryz.prog "strconv.ErrSyntax" 3) (errGlob Tryz.prog "strconv.ErrRange" 4))))
theorem gl_tab:∀w,gl.ok w→Lib.TabIs Tryz.prog w "internal/strconv.uint64pow10" .u64 Lib.pow10Tab:=fun w h=>tabGlob_tab w h.1
theorem gl_max:∀w,gl.ok w→∃m,w.cell? ⟨1,0,none⟩=some (.int .i64 m):=fun w h=>h.2.1
theorem gl_syn:∀w,gl.ok w→∃tp p,w.var? Tryz.prog "strconv.ErrSyntax"=some #[.iface tp p]:=fun w h=>h.2.2.1.2
theorem gl_rng:∀w,gl.ok w→∃tp p,w.var? Tryz.prog "strconv.ErrRange"=some #[.iface tp p]:=fun w h=>h.2.2.2.2
open Go.Shelf
set_option maxRecDepth 20000
def lays_strconv_Itoa_ren:Go.Shelf.Ren:=⟨fun|0=>0|1=>1|2=>2|99=>213|100=>226|101=>214|102=>206|103=>218|104=>219|109=>244|119=>250|129=>302|137=>221|138=>258|143=>259|144=>233|145=>211|152=>207|153=>142|156=>247|165=>273|166=>274|169=>275|171=>205|172=>254|193=>154|195=>280|197=>281|205=>309|206=>255|207=>265|208=>256|209=>249|210=>260|211=>261|217=>263|218=>282|219=>277|220=>253|221=>215|224=>251|225=>252|226=>208|227=>209|228=>210|240=>286|241=>287|243=>248|244=>278|245=>279|246=>276|247=>293|260=>298|266=>283|267=>292|268=>257|276=>299|277=>300|279=>294|280=>295|281=>296|282=>297|283=>288|284=>289|285=>290|286=>291|287=>307|314=>306|316=>308|317=>301|318=>303|319=>304|320=>305|321=>312|322=>313|337=>310|338=>311|347=>314|348=>315|349=>316|350=>317|351=>318|352=>319|353=>320|354=>321|355=>322|356=>323|357=>324|358=>325|359=>326|360=>327|361=>328|362=>330|363=>333|364=>331|365=>332|366=>334|367=>346|n=>n,fun|0=>0|1=>1|2=>2|3=>3|4=>4|5=>5|6=>6|7=>7|8=>8|9=>9|10=>10|11=>11|12=>12|13=>13|14=>14|15=>15|16=>16|17=>17|18=>18|19=>19|20=>20|21=>21|22=>50|23=>93|24=>28|25=>205|27=>145|28=>36|30=>40|31=>24|32=>219|34=>39|36=>168|37=>22|38=>23|40=>222|41=>198|43=>131|46=>180|47=>262|48=>182|51=>260|52=>274|53=>74|54=>245|55=>206|59=>199|60=>200|61=>150|64=>193|67=>221|68=>90|69=>97|70=>234|71=>235|72=>236|73=>237|74=>224|75=>225|76=>226|77=>227|80=>130|81=>123|83=>119|84=>238|85=>250|86=>251|101=>58|102=>100|103=>232|104=>41|105=>240|106=>241|108=>269|111=>81|112=>80|113=>203|114=>79|115=>194|116=>195|117=>196|118=>197|119=>270|124=>223|127=>243|128=>239|131=>201|137=>271|138=>272|139=>273|143=>276|144=>277|145=>278|146=>263|150=>228|151=>264|164=>255|165=>256|166=>257|167=>249|168=>252|169=>253|170=>254|171=>244|172=>246|173=>247|174=>248|175=>265|176=>266|209=>267|210=>268|211=>258|212=>259|213=>261|214=>275|232=>279|233=>280|238=>281|239=>282|240=>283|241=>284|242=>285|243=>286|244=>287|245=>288|246=>289|247=>290|248=>291|249=>292|n=>n,fun|1=>1|3=>5|4=>6|15=>3|16=>4|17=>2|18=>7|19=>8|n=>n⟩
theorem lays_strconv_Itoa:Go.Proofs.LaysM.n171 Tryz.prog lays_strconv_Itoa_ren where
 mixed:=by kernel_rfl
 f129:=Tryz.func302.trans (congrArg some (by kernel_rfl))
 f171:=Tryz.func205.trans (congrArg some (by kernel_rfl))
 f243:=Tryz.func248.trans (congrArg some (by kernel_rfl))
 f246:=Tryz.func276.trans (congrArg some (by kernel_rfl))
 f283:=Tryz.func288.trans (congrArg some (by kernel_rfl))
 f284:=Tryz.func289.trans (congrArg some (by kernel_rfl))
 f285:=Tryz.func290.trans (congrArg some (by kernel_rfl))
 f286:=Tryz.func291.trans (congrArg some (by kernel_rfl))
 f317:=Tryz.func301.trans (congrArg some (by kernel_rfl))
 f318:=Tryz.func303.trans (congrArg some (by kernel_rfl))
 f319:=Tryz.func304.trans (congrArg some (by kernel_rfl))
 f320:=Tryz.func305.trans (congrArg some (by kernel_rfl))
 f337:=Tryz.func310.trans (congrArg some (by kernel_rfl))
 f338:=Tryz.func311.trans (congrArg some (by kernel_rfl))
 t0:=Tryz.underlying0
 a0:=Tryz.isAgg0
 z0:=Tryz.sizeOf0
 v0:=Tryz.zeroValue0
 t2:=Tryz.underlying2
 a2:=Tryz.isAgg2
 z2:=Tryz.sizeOf2
 v2:=Tryz.zeroValue2
 t3:=Tryz.underlying3
 a3:=Tryz.isAgg3
 z3:=Tryz.sizeOf3
 v3:=Tryz.zeroValue3
 t4:=Tryz.underlying4
 a4:=Tryz.isAgg4
 z4:=Tryz.sizeOf4
 v4:=Tryz.zeroValue4
 t5:=Tryz.underlying5
 a5:=Tryz.isAgg5
 z5:=Tryz.sizeOf5
 v5:=Tryz.zeroValue5
 t9:=Tryz.underlying9
 a9:=Tryz.isAgg9
 z9:=Tryz.sizeOf9
 v9:=Tryz.zeroValue9
 t20:=Tryz.underlying20
 a20:=Tryz.isAgg20
 z20:=Tryz.sizeOf20
 v20:=Tryz.zeroValue20
 t37:=Tryz.underlying22
 a37:=Tryz.isAgg22
 z37:=Tryz.sizeOf22
 v37:=Tryz.zeroValue22
 t46:=Tryz.underlying180
 a46:=Tryz.isAgg180
 z46:=Tryz.sizeOf180
 v46:=Tryz.zeroValue180
 t51:=Tryz.underlying260
 a51:=Tryz.isAgg260
 z51:=Tryz.sizeOf260
 v51:=Tryz.zeroValue260
 t53:=Tryz.underlying74
 a53:=Tryz.isAgg74
 z53:=Tryz.sizeOf74
 v53:=Tryz.zeroValue74
 t171:=Tryz.underlying244
 a171:=Tryz.isAgg244
 z171:=Tryz.sizeOf244
 v171:=Tryz.zeroValue244
 t173:=Tryz.underlying247
 a173:=Tryz.isAgg247
 z173:=Tryz.sizeOf247
 v173:=Tryz.zeroValue247
 t212:=Tryz.underlying259
 a212:=Tryz.isAgg259
 z212:=Tryz.sizeOf259
 v212:=Tryz.zeroValue259
 t213:=Tryz.underlying261
 a213:=Tryz.isAgg261
 z213:=Tryz.sizeOf261
 t232:=Tryz.underlying279
 a232:=Tryz.isAgg279
 z232:=Tryz.sizeOf279
 v232:=Tryz.zeroValue279
 t233:=Tryz.underlying280
 a233:=Tryz.isAgg280
 z233:=Tryz.sizeOf280
 v233:=Tryz.zeroValue280
 g17:=by kernel_rfl
 g18:=by kernel_rfl
 g19:=by kernel_rfl
 i0:=by kernel_rfl
 i2:=by kernel_rfl
 i3:=by kernel_rfl
 i4:=by kernel_rfl
 i5:=by kernel_rfl
 i9:=by kernel_rfl
 i20:=by kernel_rfl
 i37:=by kernel_rfl
 i46:=by kernel_rfl
 i51:=by kernel_rfl
 i53:=by kernel_rfl
 i171:=by kernel_rfl
 i173:=by kernel_rfl
 i212:=by kernel_rfl
 i232:=by kernel_rfl
 i233:=by kernel_rfl
 m17:=by kernel_rfl
 m18:=by kernel_rfl
 m19:=by kernel_rfl
noncomputable def f_strconv_Itoa (t0:PV (.int .i64)):Option (PVs [.str]×PVs []):=Go.Dn.itoaF t0
noncomputable def ct_strconv_Itoa:Ct:=⟨[(.bor,(.int .i64))],[(.str,.b)],fun x=>f_strconv_Itoa x.1⟩
theorem ok_strconv_Itoa:FnOk gl Tryz.prog 205 ct_strconv_Itoa:=Go.Dn.itoa_ok gl_tab lays_strconv_Itoa
def lays_strconv_Atoi_ren:Go.Shelf.Ren:=⟨fun|0=>0|1=>1|2=>2|99=>213|100=>226|101=>214|102=>206|103=>218|104=>219|109=>244|119=>250|129=>302|137=>221|138=>258|143=>259|144=>233|145=>211|152=>207|153=>142|156=>247|165=>273|166=>274|169=>275|171=>205|172=>254|193=>154|195=>280|197=>281|205=>309|206=>255|207=>265|208=>256|209=>249|210=>260|211=>261|217=>263|218=>282|219=>277|220=>253|221=>215|224=>251|225=>252|226=>208|227=>209|228=>210|240=>286|241=>287|243=>248|244=>278|245=>279|246=>276|247=>293|260=>298|266=>283|267=>292|268=>257|276=>299|277=>300|279=>294|280=>295|281=>296|282=>297|283=>288|284=>289|285=>290|286=>291|287=>307|314=>306|316=>308|317=>301|318=>303|319=>304|320=>305|321=>312|322=>313|337=>310|338=>311|347=>314|348=>315|349=>316|350=>317|351=>318|352=>319|353=>320|354=>321|355=>322|356=>323|357=>324|358=>325|359=>326|360=>327|361=>328|362=>330|363=>333|364=>331|365=>332|366=>334|367=>346|n=>n,fun|0=>0|1=>1|2=>2|3=>3|4=>4|5=>5|6=>6|7=>7|8=>8|9=>9|10=>10|11=>11|12=>12|13=>13|14=>14|15=>15|16=>16|17=>17|18=>18|19=>19|20=>20|21=>21|22=>50|23=>93|24=>28|25=>205|27=>145|28=>36|30=>40|31=>24|32=>219|34=>39|36=>168|37=>22|38=>23|40=>222|41=>198|43=>131|46=>180|47=>262|48=>182|51=>260|52=>274|53=>74|54=>245|55=>206|59=>199|60=>200|61=>150|64=>193|67=>221|68=>90|69=>97|70=>234|71=>235|72=>236|73=>237|74=>224|75=>225|76=>226|77=>227|80=>130|81=>123|83=>119|84=>238|85=>250|86=>251|101=>58|102=>100|103=>232|104=>41|105=>240|106=>241|108=>269|111=>81|112=>80|113=>203|114=>79|115=>194|116=>195|117=>196|118=>197|119=>270|124=>223|127=>243|128=>239|131=>201|137=>271|138=>272|139=>273|143=>276|144=>277|145=>278|146=>263|150=>228|151=>264|164=>255|165=>256|166=>257|167=>249|168=>252|169=>253|170=>254|171=>244|172=>246|173=>247|174=>248|175=>265|176=>266|209=>267|210=>268|211=>258|212=>259|213=>261|214=>275|232=>279|233=>280|238=>281|239=>282|240=>283|241=>284|242=>285|243=>286|244=>287|245=>288|246=>289|247=>290|248=>291|249=>292|n=>n,fun|1=>1|3=>5|4=>6|15=>3|16=>4|17=>2|18=>7|19=>8|n=>n⟩
theorem lays_strconv_Atoi:Go.Proofs.LaysC.n172 Tryz.prog lays_strconv_Atoi_ren where
 mixed:=by kernel_rfl
 f129:=Tryz.func302.trans (congrArg some (by kernel_rfl))
 f171:=Tryz.func205.trans (congrArg some (by kernel_rfl))
 f172:=Tryz.func254.trans (congrArg some (by kernel_rfl))
 f205:=Tryz.func309.trans (congrArg some (by kernel_rfl))
 f243:=Tryz.func248.trans (congrArg some (by kernel_rfl))
 f244:=Tryz.func278.trans (congrArg some (by kernel_rfl))
 f245:=Tryz.func279.trans (congrArg some (by kernel_rfl))
 f246:=Tryz.func276.trans (congrArg some (by kernel_rfl))
 f247:=Tryz.func293.trans (congrArg some (by kernel_rfl))
 f279:=Tryz.func294.trans (congrArg some (by kernel_rfl))
 f280:=Tryz.func295.trans (congrArg some (by kernel_rfl))
 f281:=Tryz.func296.trans (congrArg some (by kernel_rfl))
 f282:=Tryz.func297.trans (congrArg some (by kernel_rfl))
 f283:=Tryz.func288.trans (congrArg some (by kernel_rfl))
 f284:=Tryz.func289.trans (congrArg some (by kernel_rfl))
 f285:=Tryz.func290.trans (congrArg some (by kernel_rfl))
 f286:=Tryz.func291.trans (congrArg some (by kernel_rfl))
 f287:=Tryz.func307.trans (congrArg some (by kernel_rfl))
 f316:=Tryz.func308.trans (congrArg some (by kernel_rfl))
 f317:=Tryz.func301.trans (congrArg some (by kernel_rfl))
 f318:=Tryz.func303.trans (congrArg some (by kernel_rfl))
 f319:=Tryz.func304.trans (congrArg some (by kernel_rfl))
 f320:=Tryz.func305.trans (congrArg some (by kernel_rfl))
 f321:=Tryz.func312.trans (congrArg some (by kernel_rfl))
 f322:=Tryz.func313.trans (congrArg some (by kernel_rfl))
 f337:=Tryz.func310.trans (congrArg some (by kernel_rfl))
 f338:=Tryz.func311.trans (congrArg some (by kernel_rfl))
 t0:=Tryz.underlying0
 a0:=Tryz.isAgg0
 z0:=Tryz.sizeOf0
 v0:=Tryz.zeroValue0
 t2:=Tryz.underlying2
 a2:=Tryz.isAgg2
 z2:=Tryz.sizeOf2
 v2:=Tryz.zeroValue2
 t3:=Tryz.underlying3
 a3:=Tryz.isAgg3
 z3:=Tryz.sizeOf3
 v3:=Tryz.zeroValue3
 t4:=Tryz.underlying4
 a4:=Tryz.isAgg4
 z4:=Tryz.sizeOf4
 v4:=Tryz.zeroValue4
 t5:=Tryz.underlying5
 a5:=Tryz.isAgg5
 z5:=Tryz.sizeOf5
 v5:=Tryz.zeroValue5
 t9:=Tryz.underlying9
 a9:=Tryz.isAgg9
 z9:=Tryz.sizeOf9
 v9:=Tryz.zeroValue9
 t20:=Tryz.underlying20
 a20:=Tryz.isAgg20
 z20:=Tryz.sizeOf20
 v20:=Tryz.zeroValue20
 t21:=Tryz.underlying21
 a21:=Tryz.isAgg21
 z21:=Tryz.sizeOf21
 v21:=Tryz.zeroValue21
 t37:=Tryz.underlying22
 a37:=Tryz.isAgg22
 z37:=Tryz.sizeOf22
 v37:=Tryz.zeroValue22
 t46:=Tryz.underlying180
 a46:=Tryz.isAgg180
 z46:=Tryz.sizeOf180
 v46:=Tryz.zeroValue180
 t51:=Tryz.underlying260
 a51:=Tryz.isAgg260
 z51:=Tryz.sizeOf260
 v51:=Tryz.zeroValue260
 t53:=Tryz.underlying74
 a53:=Tryz.isAgg74
 z53:=Tryz.sizeOf74
 v53:=Tryz.zeroValue74
 t75:=Tryz.underlying225
 a75:=Tryz.isAgg225
 z75:=Tryz.sizeOf225
 v75:=Tryz.zeroValue225
 t76:=Tryz.underlying226
 a76:=Tryz.isAgg226
 z76:=Tryz.sizeOf226
 v76:=Tryz.zeroValue226
 t85:=Tryz.underlying250
 a85:=Tryz.isAgg250
 z85:=Tryz.sizeOf250
 v85:=Tryz.zeroValue250
 t127:=Tryz.underlying243
 a127:=Tryz.isAgg243
 z127:=Tryz.sizeOf243
 v127:=Tryz.zeroValue243
 t143:=Tryz.underlying276
 a143:=Tryz.isAgg276
 z143:=Tryz.sizeOf276
 v143:=Tryz.zeroValue276
 t145:=Tryz.underlying278
 a145:=Tryz.isAgg278
 z145:=Tryz.sizeOf278
 v145:=Tryz.zeroValue278
 t167:=Tryz.underlying249
 a167:=Tryz.isAgg249
 z167:=Tryz.sizeOf249
 v167:=Tryz.zeroValue249
 t168:=Tryz.underlying252
 a168:=Tryz.isAgg252
 z168:=Tryz.sizeOf252
 v168:=Tryz.zeroValue252
 t171:=Tryz.underlying244
 a171:=Tryz.isAgg244
 z171:=Tryz.sizeOf244
 v171:=Tryz.zeroValue244
 t173:=Tryz.underlying247
 a173:=Tryz.isAgg247
 z173:=Tryz.sizeOf247
 v173:=Tryz.zeroValue247
 t175:=Tryz.underlying265
 a175:=Tryz.isAgg265
 z175:=Tryz.sizeOf265
 v175:=Tryz.zeroValue265
 t210:=Tryz.underlying268
 a210:=Tryz.isAgg268
 z210:=Tryz.sizeOf268
 v210:=Tryz.zeroValue268
 t212:=Tryz.underlying259
 a212:=Tryz.isAgg259
 z212:=Tryz.sizeOf259
 v212:=Tryz.zeroValue259
 t213:=Tryz.underlying261
 a213:=Tryz.isAgg261
 z213:=Tryz.sizeOf261
 t232:=Tryz.underlying279
 a232:=Tryz.isAgg279
 z232:=Tryz.sizeOf279
 v232:=Tryz.zeroValue279
 t233:=Tryz.underlying280
 a233:=Tryz.isAgg280
 z233:=Tryz.sizeOf280
 v233:=Tryz.zeroValue280
 g15:=by kernel_rfl
 g16:=by kernel_rfl
 g17:=by kernel_rfl
 g18:=by kernel_rfl
 g19:=by kernel_rfl
 t80:=Tryz.underlying130
 a80:=Tryz.isAgg130
 z80:=Tryz.sizeOf130
 v80:=Tryz.zeroValue130
 i0:=by kernel_rfl
 i2:=by kernel_rfl
 i3:=by kernel_rfl
 i4:=by kernel_rfl
 i5:=by kernel_rfl
 i9:=by kernel_rfl
 i20:=by kernel_rfl
 i21:=by kernel_rfl
 i37:=by kernel_rfl
 i46:=by kernel_rfl
 i51:=by kernel_rfl
 i53:=by kernel_rfl
 i75:=by kernel_rfl
 i76:=by kernel_rfl
 i80:=by kernel_rfl
 i85:=by kernel_rfl
 i127:=by kernel_rfl
 i143:=by kernel_rfl
 i145:=by kernel_rfl
 i167:=by kernel_rfl
 i168:=by kernel_rfl
 i171:=by kernel_rfl
 i173:=by kernel_rfl
 i175:=by kernel_rfl
 i210:=by kernel_rfl
 i212:=by kernel_rfl
 i232:=by kernel_rfl
 i233:=by kernel_rfl
 m15:=by kernel_rfl
 m16:=by kernel_rfl
 m17:=by kernel_rfl
 m18:=by kernel_rfl
 m19:=by kernel_rfl
 c0:=by kernel_rfl
 c2:=by kernel_rfl
 c3:=by kernel_rfl
 c4:=by kernel_rfl
 c5:=by kernel_rfl
 c9:=by kernel_rfl
 c20:=by kernel_rfl
 c21:=by kernel_rfl
 c37:=by kernel_rfl
 c46:=by kernel_rfl
 c51:=by kernel_rfl
 c53:=by kernel_rfl
 c75:=by kernel_rfl
 c76:=by kernel_rfl
 c80:=by kernel_rfl
 c85:=by kernel_rfl
 c127:=by kernel_rfl
 c143:=by kernel_rfl
 c145:=by kernel_rfl
 c167:=by kernel_rfl
 c168:=by kernel_rfl
 c171:=by kernel_rfl
 c173:=by kernel_rfl
 c175:=by kernel_rfl
 c210:=by kernel_rfl
 c212:=by kernel_rfl
 c213:=by kernel_rfl
 c232:=by kernel_rfl
 c233:=by kernel_rfl
def lays_num_Itoa_ren:Go.Shelf.Ren:=⟨fun|0=>0|1=>1|2=>2|99=>213|100=>226|101=>214|102=>206|103=>218|104=>219|109=>244|119=>250|129=>302|137=>221|138=>258|143=>259|144=>233|145=>211|152=>207|153=>142|156=>247|165=>273|166=>274|169=>275|171=>205|172=>254|193=>154|195=>280|197=>281|205=>309|206=>255|207=>265|208=>256|209=>249|210=>260|211=>261|217=>263|218=>282|219=>277|220=>253|221=>215|224=>251|225=>252|226=>208|227=>209|228=>210|240=>286|241=>287|243=>248|244=>278|245=>279|246=>276|247=>293|260=>298|266=>283|267=>292|268=>257|276=>299|277=>300|279=>294|280=>295|281=>296|282=>297|283=>288|284=>289|285=>290|286=>291|287=>307|314=>306|316=>308|317=>301|318=>303|319=>304|320=>305|321=>312|322=>313|337=>310|338=>311|347=>314|348=>315|349=>316|350=>317|351=>318|352=>319|353=>320|354=>321|355=>322|356=>323|357=>324|358=>325|359=>326|360=>327|361=>328|362=>330|363=>333|364=>331|365=>332|366=>334|367=>346|n=>n,fun|0=>0|1=>1|2=>2|3=>3|4=>4|5=>5|6=>6|7=>7|8=>8|9=>9|10=>10|11=>11|12=>12|13=>13|14=>14|15=>15|16=>16|17=>17|18=>18|19=>19|20=>20|21=>21|22=>50|23=>93|24=>28|25=>205|27=>145|28=>36|30=>40|31=>24|32=>219|34=>39|36=>168|37=>22|38=>23|40=>222|41=>198|43=>131|46=>180|47=>262|48=>182|51=>260|52=>274|53=>74|54=>245|55=>206|59=>199|60=>200|61=>150|64=>193|67=>221|68=>90|69=>97|70=>234|71=>235|72=>236|73=>237|74=>224|75=>225|76=>226|77=>227|80=>130|81=>123|83=>119|84=>238|85=>250|86=>251|101=>58|102=>100|103=>232|104=>41|105=>240|106=>241|108=>269|111=>81|112=>80|113=>203|114=>79|115=>194|116=>195|117=>196|118=>197|119=>270|124=>223|127=>243|128=>239|131=>201|137=>271|138=>272|139=>273|143=>276|144=>277|145=>278|146=>263|150=>228|151=>264|164=>255|165=>256|166=>257|167=>249|168=>252|169=>253|170=>254|171=>244|172=>246|173=>247|174=>248|175=>265|176=>266|209=>267|210=>268|211=>258|212=>259|213=>261|214=>275|232=>279|233=>280|238=>281|239=>282|240=>283|241=>284|242=>285|243=>286|244=>287|245=>288|246=>289|247=>290|248=>291|249=>292|n=>n,fun|1=>1|3=>5|4=>6|15=>3|16=>4|17=>2|18=>7|19=>8|n=>n⟩
theorem lays_num_Itoa:Go.Proofs.LaysM.n171 Tryz.prog lays_num_Itoa_ren where
 mixed:=by kernel_rfl
 f129:=Tryz.func302.trans (congrArg some (by kernel_rfl))
 f171:=Tryz.func205.trans (congrArg some (by kernel_rfl))
 f243:=Tryz.func248.trans (congrArg some (by kernel_rfl))
 f246:=Tryz.func276.trans (congrArg some (by kernel_rfl))
 f283:=Tryz.func288.trans (congrArg some (by kernel_rfl))
 f284:=Tryz.func289.trans (congrArg some (by kernel_rfl))
 f285:=Tryz.func290.trans (congrArg some (by kernel_rfl))
 f286:=Tryz.func291.trans (congrArg some (by kernel_rfl))
 f317:=Tryz.func301.trans (congrArg some (by kernel_rfl))
 f318:=Tryz.func303.trans (congrArg some (by kernel_rfl))
 f319:=Tryz.func304.trans (congrArg some (by kernel_rfl))
 f320:=Tryz.func305.trans (congrArg some (by kernel_rfl))
 f337:=Tryz.func310.trans (congrArg some (by kernel_rfl))
 f338:=Tryz.func311.trans (congrArg some (by kernel_rfl))
 t0:=Tryz.underlying0
 a0:=Tryz.isAgg0
 z0:=Tryz.sizeOf0
 v0:=Tryz.zeroValue0
 t2:=Tryz.underlying2
 a2:=Tryz.isAgg2
 z2:=Tryz.sizeOf2
 v2:=Tryz.zeroValue2
 t3:=Tryz.underlying3
 a3:=Tryz.isAgg3
 z3:=Tryz.sizeOf3
 v3:=Tryz.zeroValue3
 t4:=Tryz.underlying4
 a4:=Tryz.isAgg4
 z4:=Tryz.sizeOf4
 v4:=Tryz.zeroValue4
 t5:=Tryz.underlying5
 a5:=Tryz.isAgg5
 z5:=Tryz.sizeOf5
 v5:=Tryz.zeroValue5
 t9:=Tryz.underlying9
 a9:=Tryz.isAgg9
 z9:=Tryz.sizeOf9
 v9:=Tryz.zeroValue9
 t20:=Tryz.underlying20
 a20:=Tryz.isAgg20
 z20:=Tryz.sizeOf20
 v20:=Tryz.zeroValue20
 t37:=Tryz.underlying22
 a37:=Tryz.isAgg22
 z37:=Tryz.sizeOf22
 v37:=Tryz.zeroValue22
 t46:=Tryz.underlying180
 a46:=Tryz.isAgg180
 z46:=Tryz.sizeOf180
 v46:=Tryz.zeroValue180
 t51:=Tryz.underlying260
 a51:=Tryz.isAgg260
 z51:=Tryz.sizeOf260
 v51:=Tryz.zeroValue260
 t53:=Tryz.underlying74
 a53:=Tryz.isAgg74
 z53:=Tryz.sizeOf74
 v53:=Tryz.zeroValue74
 t171:=Tryz.underlying244
 a171:=Tryz.isAgg244
 z171:=Tryz.sizeOf244
 v171:=Tryz.zeroValue244
 t173:=Tryz.underlying247
 a173:=Tryz.isAgg247
 z173:=Tryz.sizeOf247
 v173:=Tryz.zeroValue247
 t212:=Tryz.underlying259
 a212:=Tryz.isAgg259
 z212:=Tryz.sizeOf259
 v212:=Tryz.zeroValue259
 t213:=Tryz.underlying261
 a213:=Tryz.isAgg261
 z213:=Tryz.sizeOf261
 t232:=Tryz.underlying279
 a232:=Tryz.isAgg279
 z232:=Tryz.sizeOf279
 v232:=Tryz.zeroValue279
 t233:=Tryz.underlying280
 a233:=Tryz.isAgg280
 z233:=Tryz.sizeOf280
 v233:=Tryz.zeroValue280
 g17:=by kernel_rfl
 g18:=by kernel_rfl
 g19:=by kernel_rfl
 i0:=by kernel_rfl
 i2:=by kernel_rfl
 i3:=by kernel_rfl
 i4:=by kernel_rfl
 i5:=by kernel_rfl
 i9:=by kernel_rfl
 i20:=by kernel_rfl
 i37:=by kernel_rfl
 i46:=by kernel_rfl
 i51:=by kernel_rfl
 i53:=by kernel_rfl
 i171:=by kernel_rfl
 i173:=by kernel_rfl
 i212:=by kernel_rfl
 i232:=by kernel_rfl
 i233:=by kernel_rfl
 m17:=by kernel_rfl
 m18:=by kernel_rfl
 m19:=by kernel_rfl
section
open Go.RowKit Go.Lib
theorem num_itoa (n:Int)(h1: -9223372036854775808≤n)(h2:n≤9223372036854775807)(w:World)(hT:Lib.TabIs Tryz.prog w "internal/strconv.uint64pow10" .u64 Lib.pow10Tab):
 Calls Tryz.prog 205 #[.int .i64 n] w fun e w'=>e=.returned (.string ⟨(Lib.itoa n).toArray⟩)∧Below w.heap.size w w':=
 (Any.strconv_Itoa lays_num_Itoa n h1 h2 w hT).mono fun e w' ⟨e1,k,os,e2⟩=>⟨e1,by
   subst e2
   exact⟨rfl,rfl,rfl,by show w.heap.size≤(w.heap++os).size;simp,fun b hb=>by show(w.heap++os)[b]? =_;rw[Array.getElem?_append_left hb]⟩⟩
set_option maxHeartbeats 1000000 in
set_option maxRecDepth 100000 in
theorem num_ok (s:ByteArray)(v:Int)(h:Lib.atoiAll s.data.toList=.ok v)(hs:s.size≤1000000)(w:World)(hT:Lib.TabIs Tryz.prog w "internal/strconv.uint64pow10" .u64 Lib.pow10Tab):
 Calls Tryz.prog 212 #[.string s] w fun e w'=>e=.returned (.tuple #[.int .i64 v,.bool (decide (0≤v)&&(decide (s.size≤4)&&(Lib.itoa v==s.data.toList)))])∧Below w.heap.size w w':=by
 obtain⟨b1,b2⟩:=Go.Dn.atoi_bound h
 have hA:Calls Tryz.prog 254 #[.string s] w fun e w'=>e=.returned (.tuple #[.int .i64 v,.nilIface])∧Below w.heap.size w w':=
  (Any.strconv_Atoi_ok lays_strconv_Atoi s (by omega) v h w).mono fun e w' ⟨e1,e2⟩=>⟨e1,by
    rcases e2 with rfl|⟨t,rfl⟩
    ·exact Below.refl _ _
    ·exact Lib.bytesWorld_below _ _ _⟩
 by_cases h0:0≤v
 ·by_cases h4:s.size≤4
  ·rw[decide_eq_true h0,decide_eq_true h4]
   have h4':(s.size:Int)≤4:=by omega
   go_enter Tryz.func212,Tryz.ntmps212
   go_wp2_with (go_at_fn 254;go_fit hA;rintro e w' ⟨rfl,hb⟩)
   refine hA.mono ?_
   rintro e w1 ⟨rfl,hb⟩
   go_wp2_with (go_at_fn 205;go_fit hA;rintro e w' ⟨rfl,hb⟩)
   refine(num_itoa v b1 b2 w1 (Go.Dn.tab_below hT hb)).mono ?_
   rintro e w2 ⟨rfl,hb2⟩
   go_wp2
   go_ret2
   refine⟨?_,hb.trans (hb2.mono hb.size)⟩
   simp[Lib.toList_data]
  ·rw[decide_eq_true h0,decide_eq_false h4]
   have h4':¬(s.size:Int)≤4:=by omega
   go_enter Tryz.func212,Tryz.ntmps212
   go_wp2_with (go_at_fn 254;go_fit hA;rintro e w' ⟨rfl,hb⟩)
   refine hA.mono ?_
   rintro e w1 ⟨rfl,hb⟩
   go_wp2
   go_ret2
   exact⟨rfl,hb⟩
 ·rw[decide_eq_false h0]
  go_enter Tryz.func212,Tryz.ntmps212
  go_wp2_with (go_at_fn 254;go_fit hA;rintro e w' ⟨rfl,hb⟩)
  refine hA.mono ?_
  rintro e w1 ⟨rfl,hb⟩
  go_wp2
  go_ret2
  exact⟨rfl,hb⟩
set_option maxHeartbeats 1000000 in
set_option maxRecDepth 100000 in
theorem num_no (s:ByteArray)(x:Int)(tp:TypeId)(w:World)(hA:Calls Tryz.prog 254 #[.string s] w fun e w'=>∃N,e=.returned (.tuple #[.int .i64 x,.iface tp (.pointer (some ⟨N,0,none⟩))])∧Below w.heap.size w w'):
 Calls Tryz.prog 212 #[.string s] w fun e w'=>e=.returned (.tuple #[.int .i64 x,.bool false])∧Below w.heap.size w w':=by
 go_enter Tryz.func212,Tryz.ntmps212
 go_wp2_with (go_at_fn 254;go_fit hA;rintro e w' ⟨rfl,hb⟩)
 refine hA.mono ?_
 rintro e w1 ⟨N,rfl,hb⟩
 go_wp2
 go_ret2
 exact⟨rfl,hb⟩
theorem num_any (s:ByteArray)(w:World)(hs:s.size≤1000000)(hT:Lib.TabIs Tryz.prog w "internal/strconv.uint64pow10" .u64 Lib.pow10Tab)(h1:∃tp p,w.var? Tryz.prog "strconv.ErrSyntax"=some #[.iface tp p])(h2:∃tp p,w.var? Tryz.prog "strconv.ErrRange"=some #[.iface tp p]):
 Calls Tryz.prog 212 #[.string s] w fun e w'=>e=.returned (.tuple #[.int .i64 (Go.Dn.numV s.data.toList),.bool (Go.Dn.numB s.data.toList)])∧Below w.heap.size w w':=by
 unfold Go.Dn.numV Go.Dn.numB
 rcases h:Lib.atoiAll s.data.toList with v|_|_
 ·exact num_ok s v h hs w hT
 ·obtain⟨tp,p,hv⟩:=h1
  exact num_no s 0 _ w ((Any.strconv_Atoi_syntax_var lays_strconv_Atoi s (by omega) h tp p w hv).mono fun e w' ⟨N,e1,_,_,hb⟩=>⟨N,e1,hb⟩)
 ·obtain⟨tp,p,hv⟩:=h2
  exact num_no s _ _ w ((Any.strconv_Atoi_range_var lays_strconv_Atoi s (by omega) h tp p w hv).mono fun e w' ⟨N,e1,_,_,hb⟩=>⟨N,e1,hb⟩)
end
noncomputable def f_I_readNumber (t0:PV .str):Option (PVs [.int .i64,.bool]×PVs []):=Go.Dn.numF t0
noncomputable def ct_I_readNumber:Ct:=⟨[(.bor,.str)],[(.int .i64,.b),(.bool,.b)],fun x=>f_I_readNumber x.1⟩
theorem ok_I_readNumber:FnOk gl Tryz.prog 212 ct_I_readNumber:=Go.Dn.fnOk_number ⟨_,Tryz.func212,rfl,by kernel_rfl⟩ fun s w hs hg=>num_any s w hs (gl_tab w hg) (gl_syn w hg) (gl_rng w hg)
def lays_strings_genSplit_ren:Go.Shelf.Ren:=⟨fun|0=>0|1=>1|2=>2|99=>213|100=>226|101=>214|102=>206|103=>218|104=>219|109=>244|119=>250|129=>302|137=>221|138=>258|143=>259|144=>233|145=>211|152=>207|153=>142|156=>247|165=>273|166=>274|169=>275|171=>205|172=>254|193=>154|195=>280|197=>281|205=>309|206=>255|207=>265|208=>256|209=>249|210=>260|211=>261|217=>263|218=>282|219=>277|220=>253|221=>215|224=>251|225=>252|226=>208|227=>209|228=>210|240=>286|241=>287|243=>248|244=>278|245=>279|246=>276|247=>293|260=>298|266=>283|267=>292|268=>257|276=>299|277=>300|279=>294|280=>295|281=>296|282=>297|283=>288|284=>289|285=>290|286=>291|287=>307|314=>306|316=>308|317=>301|318=>303|319=>304|320=>305|321=>312|322=>313|337=>310|338=>311|347=>314|348=>315|349=>316|350=>317|351=>318|352=>319|353=>320|354=>321|355=>322|356=>323|357=>324|358=>325|359=>326|360=>327|361=>328|362=>330|363=>333|364=>331|365=>332|366=>334|367=>346|n=>n,fun|0=>0|1=>1|2=>2|3=>3|4=>4|5=>5|6=>6|7=>7|8=>8|9=>9|10=>10|11=>11|12=>12|13=>13|14=>14|15=>15|16=>16|17=>17|18=>18|19=>19|20=>20|21=>21|22=>50|23=>93|24=>28|25=>205|27=>145|28=>36|30=>40|31=>24|32=>219|34=>39|36=>168|37=>22|38=>23|40=>222|41=>198|43=>131|46=>180|47=>262|48=>182|51=>260|52=>274|53=>74|54=>245|55=>206|59=>199|60=>200|61=>150|64=>193|67=>221|68=>90|69=>97|70=>234|71=>235|72=>236|73=>237|74=>224|75=>225|76=>226|77=>227|80=>130|81=>123|83=>119|84=>238|85=>250|86=>251|101=>58|102=>100|103=>232|104=>41|105=>240|106=>241|108=>269|111=>81|112=>80|113=>203|114=>79|115=>194|116=>195|117=>196|118=>197|119=>270|124=>223|127=>243|128=>239|131=>201|137=>271|138=>272|139=>273|143=>276|144=>277|145=>278|146=>263|150=>228|151=>264|164=>255|165=>256|166=>257|167=>249|168=>252|169=>253|170=>254|171=>244|172=>246|173=>247|174=>248|175=>265|176=>266|209=>267|210=>268|211=>258|212=>259|213=>261|214=>275|232=>279|233=>280|238=>281|239=>282|240=>283|241=>284|242=>285|243=>286|244=>287|245=>288|246=>289|247=>290|248=>291|249=>292|n=>n,fun|1=>1|3=>5|4=>6|15=>3|16=>4|17=>2|18=>7|19=>8|n=>n⟩
theorem lays_strings_genSplit:Go.Proofs.Lays.n221 Tryz.prog lays_strings_genSplit_ren where
 mixed:=by kernel_rfl
 f138:=Tryz.func258.trans (congrArg some (by kernel_rfl))
 f143:=Tryz.func259.trans (congrArg some (by kernel_rfl))
 f195:=Tryz.func280.trans (congrArg some (by kernel_rfl))
 f197:=Tryz.func281.trans (congrArg some (by kernel_rfl))
 f217:=Tryz.func263.trans (congrArg some (by kernel_rfl))
 f218:=Tryz.func282.trans (congrArg some (by kernel_rfl))
 f219:=Tryz.func277.trans (congrArg some (by kernel_rfl))
 f221:=Tryz.func215.trans (congrArg some (by kernel_rfl))
 f224:=Tryz.func251.trans (congrArg some (by kernel_rfl))
 f225:=Tryz.func252.trans (congrArg some (by kernel_rfl))
 f260:=Tryz.func298.trans (congrArg some (by kernel_rfl))
 f266:=Tryz.func283.trans (congrArg some (by kernel_rfl))
 f267:=Tryz.func292.trans (congrArg some (by kernel_rfl))
 f268:=Tryz.func257.trans (congrArg some (by kernel_rfl))
 f314:=Tryz.func306.trans (congrArg some (by kernel_rfl))
 t0:=Tryz.underlying0
 a0:=Tryz.isAgg0
 z0:=Tryz.sizeOf0
 v0:=Tryz.zeroValue0
 t3:=Tryz.underlying3
 a3:=Tryz.isAgg3
 z3:=Tryz.sizeOf3
 v3:=Tryz.zeroValue3
 t4:=Tryz.underlying4
 a4:=Tryz.isAgg4
 z4:=Tryz.sizeOf4
 v4:=Tryz.zeroValue4
 t5:=Tryz.underlying5
 a5:=Tryz.isAgg5
 z5:=Tryz.sizeOf5
 v5:=Tryz.zeroValue5
 t9:=Tryz.underlying9
 a9:=Tryz.isAgg9
 z9:=Tryz.sizeOf9
 v9:=Tryz.zeroValue9
 t21:=Tryz.underlying21
 a21:=Tryz.isAgg21
 z21:=Tryz.sizeOf21
 v21:=Tryz.zeroValue21
 t31:=Tryz.underlying24
 a31:=Tryz.isAgg24
 z31:=Tryz.sizeOf24
 v31:=Tryz.zeroValue24
 t46:=Tryz.underlying180
 a46:=Tryz.isAgg180
 z46:=Tryz.sizeOf180
 v46:=Tryz.zeroValue180
 t51:=Tryz.underlying260
 a51:=Tryz.isAgg260
 z51:=Tryz.sizeOf260
 v51:=Tryz.zeroValue260
 t105:=Tryz.underlying240
 a105:=Tryz.isAgg240
 z105:=Tryz.sizeOf240
 v105:=Tryz.zeroValue240
 t119:=Tryz.underlying270
 a119:=Tryz.isAgg270
 z119:=Tryz.sizeOf270
 t138:=Tryz.underlying272
 a138:=Tryz.isAgg272
 z138:=Tryz.sizeOf272
 v138:=Tryz.zeroValue272
 t139:=Tryz.underlying273
 a139:=Tryz.isAgg273
 z139:=Tryz.sizeOf273
 v139:=Tryz.zeroValue273
 t146:=Tryz.underlying263
 a146:=Tryz.isAgg263
 z146:=Tryz.sizeOf263
 v146:=Tryz.zeroValue263
 g1:=by kernel_rfl
 g3:=by kernel_rfl
 g4:=by kernel_rfl
noncomputable def f_strings_genSplit (t0:PV .str)(t1:PV .str)(t2:PV (.int .i64))(t3:PV (.int .i64)):Option (PVs [S_string]×PVs []):=Go.Dn.splitF 9 t0 t1 t2 t3
noncomputable def ct_strings_genSplit:Ct:=⟨[(.bor,.str),(.bor,.str),(.bor,.int .i64),(.bor,.int .i64)],[(S_string,.row .b)],fun x=>f_strings_genSplit x.1 x.2.1 x.2.2.1 x.2.2.2.1⟩
theorem ok_strings_genSplit:FnOk gl Tryz.prog 215 ct_strings_genSplit:=Go.Dn.split_ok rfl lays_strings_genSplit (by kernel_rfl)
def lays_strings_Contains_ren:Go.Shelf.Ren:=⟨fun|0=>0|1=>1|2=>2|99=>213|100=>226|101=>214|102=>206|103=>218|104=>219|109=>244|119=>250|129=>302|137=>221|138=>258|143=>259|144=>233|145=>211|152=>207|153=>142|156=>247|165=>273|166=>274|169=>275|171=>205|172=>254|193=>154|195=>280|197=>281|205=>309|206=>255|207=>265|208=>256|209=>249|210=>260|211=>261|217=>263|218=>282|219=>277|220=>253|221=>215|224=>251|225=>252|226=>208|227=>209|228=>210|240=>286|241=>287|243=>248|244=>278|245=>279|246=>276|247=>293|260=>298|266=>283|267=>292|268=>257|276=>299|277=>300|279=>294|280=>295|281=>296|282=>297|283=>288|284=>289|285=>290|286=>291|287=>307|314=>306|316=>308|317=>301|318=>303|319=>304|320=>305|321=>312|322=>313|337=>310|338=>311|347=>314|348=>315|349=>316|350=>317|351=>318|352=>319|353=>320|354=>321|355=>322|356=>323|357=>324|358=>325|359=>326|360=>327|361=>328|362=>330|363=>333|364=>331|365=>332|366=>334|367=>346|n=>n,fun|0=>0|1=>1|2=>2|3=>3|4=>4|5=>5|6=>6|7=>7|8=>8|9=>9|10=>10|11=>11|12=>12|13=>13|14=>14|15=>15|16=>16|17=>17|18=>18|19=>19|20=>20|21=>21|22=>50|23=>93|24=>28|25=>205|27=>145|28=>36|30=>40|31=>24|32=>219|34=>39|36=>168|37=>22|38=>23|40=>222|41=>198|43=>131|46=>180|47=>262|48=>182|51=>260|52=>274|53=>74|54=>245|55=>206|59=>199|60=>200|61=>150|64=>193|67=>221|68=>90|69=>97|70=>234|71=>235|72=>236|73=>237|74=>224|75=>225|76=>226|77=>227|80=>130|81=>123|83=>119|84=>238|85=>250|86=>251|101=>58|102=>100|103=>232|104=>41|105=>240|106=>241|108=>269|111=>81|112=>80|113=>203|114=>79|115=>194|116=>195|117=>196|118=>197|119=>270|124=>223|127=>243|128=>239|131=>201|137=>271|138=>272|139=>273|143=>276|144=>277|145=>278|146=>263|150=>228|151=>264|164=>255|165=>256|166=>257|167=>249|168=>252|169=>253|170=>254|171=>244|172=>246|173=>247|174=>248|175=>265|176=>266|209=>267|210=>268|211=>258|212=>259|213=>261|214=>275|232=>279|233=>280|238=>281|239=>282|240=>283|241=>284|242=>285|243=>286|244=>287|245=>288|246=>289|247=>290|248=>291|249=>292|n=>n,fun|1=>1|3=>5|4=>6|15=>3|16=>4|17=>2|18=>7|19=>8|n=>n⟩
theorem lays_strings_Contains:Go.Proofs.Lays.n144 Tryz.prog lays_strings_Contains_ren where
 mixed:=by kernel_rfl
 f143:=Tryz.func259.trans (congrArg some (by kernel_rfl))
 f144:=Tryz.func233.trans (congrArg some (by kernel_rfl))
 f217:=Tryz.func263.trans (congrArg some (by kernel_rfl))
 f219:=Tryz.func277.trans (congrArg some (by kernel_rfl))
 f224:=Tryz.func251.trans (congrArg some (by kernel_rfl))
 f225:=Tryz.func252.trans (congrArg some (by kernel_rfl))
 f266:=Tryz.func283.trans (congrArg some (by kernel_rfl))
 f267:=Tryz.func292.trans (congrArg some (by kernel_rfl))
 f314:=Tryz.func306.trans (congrArg some (by kernel_rfl))
 t3:=Tryz.underlying3
 a3:=Tryz.isAgg3
 z3:=Tryz.sizeOf3
 v3:=Tryz.zeroValue3
 t4:=Tryz.underlying4
 a4:=Tryz.isAgg4
 z4:=Tryz.sizeOf4
 v4:=Tryz.zeroValue4
 t5:=Tryz.underlying5
 a5:=Tryz.isAgg5
 z5:=Tryz.sizeOf5
 v5:=Tryz.zeroValue5
 t9:=Tryz.underlying9
 a9:=Tryz.isAgg9
 z9:=Tryz.sizeOf9
 v9:=Tryz.zeroValue9
 t46:=Tryz.underlying180
 a46:=Tryz.isAgg180
 z46:=Tryz.sizeOf180
 v46:=Tryz.zeroValue180
 t51:=Tryz.underlying260
 a51:=Tryz.isAgg260
 z51:=Tryz.sizeOf260
 v51:=Tryz.zeroValue260
 t146:=Tryz.underlying263
 a146:=Tryz.isAgg263
 z146:=Tryz.sizeOf263
 v146:=Tryz.zeroValue263
 g1:=by kernel_rfl
noncomputable def f_strings_Contains (t0:PV .str)(t1:PV .str):Option (PVs [.bool]×PVs []):=Go.Dn.containsF t0 t1
noncomputable def ct_strings_Contains:Ct:=⟨[(.bor,.str),(.bor,.str)],[(.bool,.b)],fun x=>f_strings_Contains x.1 x.2.1⟩
theorem ok_strings_Contains:FnOk gl Tryz.prog 233 ct_strings_Contains:=Go.Dn.contains_ok lays_strings_Contains
def lays_internal_stringslite_Index_ren:Go.Shelf.Ren:=⟨fun|0=>0|1=>1|2=>2|99=>213|100=>226|101=>214|102=>206|103=>218|104=>219|109=>244|119=>250|129=>302|137=>221|138=>258|143=>259|144=>233|145=>211|152=>207|153=>142|156=>247|165=>273|166=>274|169=>275|171=>205|172=>254|193=>154|195=>280|197=>281|205=>309|206=>255|207=>265|208=>256|209=>249|210=>260|211=>261|217=>263|218=>282|219=>277|220=>253|221=>215|224=>251|225=>252|226=>208|227=>209|228=>210|240=>286|241=>287|243=>248|244=>278|245=>279|246=>276|247=>293|260=>298|266=>283|267=>292|268=>257|276=>299|277=>300|279=>294|280=>295|281=>296|282=>297|283=>288|284=>289|285=>290|286=>291|287=>307|314=>306|316=>308|317=>301|318=>303|319=>304|320=>305|321=>312|322=>313|337=>310|338=>311|347=>314|348=>315|349=>316|350=>317|351=>318|352=>319|353=>320|354=>321|355=>322|356=>323|357=>324|358=>325|359=>326|360=>327|361=>328|362=>330|363=>333|364=>331|365=>332|366=>334|367=>346|n=>n,fun|0=>0|1=>1|2=>2|3=>3|4=>4|5=>5|6=>6|7=>7|8=>8|9=>9|10=>10|11=>11|12=>12|13=>13|14=>14|15=>15|16=>16|17=>17|18=>18|19=>19|20=>20|21=>21|22=>50|23=>93|24=>28|25=>205|27=>145|28=>36|30=>40|31=>24|32=>219|34=>39|36=>168|37=>22|38=>23|40=>222|41=>198|43=>131|46=>180|47=>262|48=>182|51=>260|52=>274|53=>74|54=>245|55=>206|59=>199|60=>200|61=>150|64=>193|67=>221|68=>90|69=>97|70=>234|71=>235|72=>236|73=>237|74=>224|75=>225|76=>226|77=>227|80=>130|81=>123|83=>119|84=>238|85=>250|86=>251|101=>58|102=>100|103=>232|104=>41|105=>240|106=>241|108=>269|111=>81|112=>80|113=>203|114=>79|115=>194|116=>195|117=>196|118=>197|119=>270|124=>223|127=>243|128=>239|131=>201|137=>271|138=>272|139=>273|143=>276|144=>277|145=>278|146=>263|150=>228|151=>264|164=>255|165=>256|166=>257|167=>249|168=>252|169=>253|170=>254|171=>244|172=>246|173=>247|174=>248|175=>265|176=>266|209=>267|210=>268|211=>258|212=>259|213=>261|214=>275|232=>279|233=>280|238=>281|239=>282|240=>283|241=>284|242=>285|243=>286|244=>287|245=>288|246=>289|247=>290|248=>291|249=>292|n=>n,fun|1=>1|3=>5|4=>6|15=>3|16=>4|17=>2|18=>7|19=>8|n=>n⟩
theorem lays_internal_stringslite_Index:Go.Proofs.Lays.n219 Tryz.prog lays_internal_stringslite_Index_ren where
 mixed:=by kernel_rfl
 f217:=Tryz.func263.trans (congrArg some (by kernel_rfl))
 f219:=Tryz.func277.trans (congrArg some (by kernel_rfl))
 f224:=Tryz.func251.trans (congrArg some (by kernel_rfl))
 f225:=Tryz.func252.trans (congrArg some (by kernel_rfl))
 f266:=Tryz.func283.trans (congrArg some (by kernel_rfl))
 f267:=Tryz.func292.trans (congrArg some (by kernel_rfl))
 f314:=Tryz.func306.trans (congrArg some (by kernel_rfl))
 t3:=Tryz.underlying3
 a3:=Tryz.isAgg3
 z3:=Tryz.sizeOf3
 v3:=Tryz.zeroValue3
 t4:=Tryz.underlying4
 a4:=Tryz.isAgg4
 z4:=Tryz.sizeOf4
 v4:=Tryz.zeroValue4
 t5:=Tryz.underlying5
 a5:=Tryz.isAgg5
 z5:=Tryz.sizeOf5
 v5:=Tryz.zeroValue5
 t9:=Tryz.underlying9
 a9:=Tryz.isAgg9
 z9:=Tryz.sizeOf9
 v9:=Tryz.zeroValue9
 t46:=Tryz.underlying180
 a46:=Tryz.isAgg180
 z46:=Tryz.sizeOf180
 v46:=Tryz.zeroValue180
 t51:=Tryz.underlying260
 a51:=Tryz.isAgg260
 z51:=Tryz.sizeOf260
 v51:=Tryz.zeroValue260
 t146:=Tryz.underlying263
 a146:=Tryz.isAgg263
 z146:=Tryz.sizeOf263
 v146:=Tryz.zeroValue263
 g1:=by kernel_rfl
noncomputable def f_internal_stringslite_Index (t0:PV .str)(t1:PV .str):Option (PVs [(.int .i64)]×PVs []):=Go.Dn.indexF t0 t1
noncomputable def ct_internal_stringslite_Index:Ct:=⟨[(.bor,.str),(.bor,.str)],[((.int .i64),.b)],fun x=>f_internal_stringslite_Index x.1 x.2.1⟩
theorem ok_internal_stringslite_Index:FnOk gl Tryz.prog 277 ct_internal_stringslite_Index:=Go.Dn.indexLite_ok gl_max lays_internal_stringslite_Index
section
open Go.RowKit Go.Lib
set_option maxHeartbeats 1000000 in
set_option maxRecDepth 100000 in
theorem keeps_del (k:Int)(s:ByteArray)(w:World):Calls Tryz.prog 236 #[.agg #[.int .i64 k,.string s]] w fun e w'=>e=.returned (.bool (k !=1))∧w'=w.alloc (.cells #[.int .i64 k,.string s] 129):=by
 go_enter Tryz.func236,Tryz.ntmps236
 go_wp2
 go_ret
 refine⟨?_,rfl⟩
 congr 2
set_option maxHeartbeats 1000000 in
set_option maxRecDepth 100000 in
theorem keeps_idx (A:Option Addr)(n c:Nat)(w:World)(K:Nat→Int)(S:Nat→ByteArray)(J:Nat→World→Prop)(hn:(n:Int)≤1099511627776)
 (h0:J 0 w)(hal:∀j w o,J j w→J j (w.alloc o))
 (hJ:∀j w,j<n→J j w→∃g,A=some ⟨g,0,none⟩∧w.cell? ⟨g,j*2,none⟩=some (.int .i64 (K j))∧w.cell? ⟨g,j*2+1,none⟩=some (.string (S j))∧(K j=1→J (j+1) w)):
 Calls Tryz.prog 266 #[.slice A n c,.func (.func 236) #[] #[]] w fun e w'=>(∃i:Nat,i<n∧e=.returned (.int .i64 i)∧K i≠1∧J i w')∨(e=.returned (.int .i64 (-1))∧J n w'):=by
 go_enter Tryz.func266,Tryz.ntmps266
 go_wp2
 go_loopw [8] (fun s8 wr=>∃i:Nat,i≤n∧s8=.int .i64 i∧J i wr) (fun s8 _=>n -(Go.RowKit.intOf s8).toNat)
 case atStart=>exact⟨0,Nat.zero_le _,rfl,h0⟩
 case round=>
  obtain⟨i,hi,rfl,hr⟩:=hrel
  by_cases hlt:i<n
  ·obtain⟨g,rfl,h1,h2,h3⟩:=hJ i _ hlt hr
   have hz:(i:Int)<(n:Int):=by omega
   have hD:=keeps_del (K i) (S i) wr
   by_cases hk:K i=1
   ·rw[hk] at hD h1
    go_wp2_with (go_at_fn 236;go_fit hD;rintro e w' ⟨v',rfl,hw⟩)
    refine hD.mono ?_
    rintro e w2 ⟨rfl,rfl⟩
    go_wp2
    exact⟨⟨i+1,hlt,by simp,hal _ _ _ (h3 hk)⟩,by simp[Go.RowKit.intOf];omega⟩
   ·have hkb:(K i !=1)=true:=by simp[hk]
    rw[hkb] at hD
    go_wp2_with (go_at_fn 236;go_fit hD;rintro e w' ⟨v',rfl,hw⟩)
    refine hD.mono ?_
    rintro e w2 ⟨rfl,rfl⟩
    go_wp2
    go_ret
    exact .inl ⟨i,hlt,rfl,hk,hal _ _ _ hr⟩
  ·have hz:¬(i:Int)<(n:Int):=by omega
   obtain rfl:i=n:=by omega
   go_wp2
   go_ret
   exact .inr ⟨rfl,hr⟩
set_option maxHeartbeats 4000000 in
set_option maxRecDepth 100000 in
theorem keeps_cut (A:Option Addr)(n c:Nat)(w:World)(K:Nat→Int)(S:Nat→ByteArray)(J E:Nat→World→Prop)(I:Nat→Nat→World→Prop)(hn:(n:Int)≤1099511627776)(hnc:n≤c)(hc:c≤9223372036854775807)
 (h0:J 0 w)(hal:∀j w o,J j w→J j (w.alloc o))(ial:∀i j w o,I i j w→I i j (w.alloc o))
 (hJ:∀j w,j<n→J j w→∃g,A=some ⟨g,0,none⟩∧w.cell? ⟨g,j*2,none⟩=some (.int .i64 (K j))∧w.cell? ⟨g,j*2+1,none⟩=some (.string (S j))∧(K j=1→J (j+1) w)∧(K j≠1→I j (j+1) w))
 (hI:∀i j w,i<j→j≤n→I i j w→∃g,A=some ⟨g,0,none⟩∧(∀t,t<n*2→(w.cell? ⟨g,t,none⟩).isSome=true)∧(∀t,t<n*2→w.frozen? ⟨g,t,none⟩=false)∧
   (j<n→w.cell? ⟨g,j*2,none⟩=some (.int .i64 (K j))∧w.cell? ⟨g,j*2+1,none⟩=some (.string (S j))∧(K j≠1→I i (j+1) w)∧
     (K j=1→I (i+1) (j+1) ((w.setCell ⟨g,i*2,none⟩ (.int .i64 (K j))).setCell ⟨g,i*2+1,none⟩ (.string (S j)))))∧
   (j=n→E i (w.setCells g (i*2) (Go.Dn.zRow (n -i)))))
 (hE:∀w,J n w→E n w):
 Calls Tryz.prog 234 #[.slice A n c,.func (.func 236) #[] #[]] w fun e w'=>∃i:Nat,i≤n∧e=.returned (.slice A i c)∧E i w':=by
 have hidx:=keeps_idx A n c w K S J hn h0 hal (fun j w hj h=>by obtain⟨g,a1,a2,a3,a4,_⟩:=hJ j w hj h;exact⟨g,a1,a2,a3,a4⟩)
 go_enter Tryz.func234,Tryz.ntmps234
 go_wp2_with (go_at_fn 266;go_fit hidx;rintro e w' ⟨v',rfl,hw⟩)
 refine hidx.mono ?_
 rintro e w1 (⟨i0,hi0,rfl,hk0,hj0⟩|⟨rfl,hj0⟩)
 ·obtain⟨g,rfl,b1,b2,_,b4⟩:=hJ i0 w1 hi0 hj0
  have hI0:=b4 hk0
  have hz0:¬((i0:Int)= -1):=by omega
  have hw0:IntKind.wrap .i64 ((i0:Int)+1)=((i0+1:Nat):Int):=by rw[IntKind.wrap_i64];omega
  go_wp2
  go_loopw [5,6] (fun s5 s6 wr=>∃i j:Nat,i<j∧j≤n∧s5=.int .i64 i∧s6=.int .i64 j∧I i j wr) (fun _ s6 _=>n -(Go.RowKit.intOf s6).toNat)
  case atStart=>exact⟨i0,i0+1,by omega,by omega,rfl,rfl,hI0⟩
  case round=>
   obtain⟨i,j,hij,hj,rfl,rfl,hr⟩:=hrel
   obtain⟨g',hg,d1,d2,d3,d4⟩:=hI i j _ hij hj hr
   obtain rfl:g=g':=by cases hg;rfl
   by_cases hlt:j<n
   ·obtain⟨c1,c2,c3,c4⟩:=d3 hlt
    have hz:(j:Int)<(n:Int):=by omega
    have hzi:(i:Int)<(n:Int):=by omega
    have e1:=d1 (i*2) (by omega)
    have e2:=d1 (i*2+1) (by omega)
    have f1:=d2 (i*2) (by omega)
    have f2:=d2 (i*2+1) (by omega)
    have hD:=keeps_del (K j) (S j) (wr.alloc (.cells #[.int .i64 (K j),.string (S j)] 129))
    by_cases hk:K j=1
    ·rw[hk] at hD c1
     have c4':=c4 hk
     rw[hk] at c4'
     go_wp2_with (go_at_fn 236;go_fit hD;rintro e w' ⟨v',rfl,hw⟩)
     refine hD.mono ?_
     rintro e w2 ⟨rfl,rfl⟩
     obtain⟨x1,hx1⟩:=Option.isSome_iff_exists.1 e1
     obtain⟨x2,hx2⟩:=Option.isSome_iff_exists.1 e2
     obtain⟨W2,hW2⟩:∃W2,W2=(wr.alloc (.cells #[.int .i64 1,.string (S j)] 129)).alloc (.cells #[.int .i64 1,.string (S j)] 129):=⟨_,rfl⟩
     have p1:W2.cell? ⟨g,i*2,none⟩=some x1:=by rw[hW2];exact Lib.cell?_alloc_some _ (Lib.cell?_alloc_some _ hx1)
     have p2:W2.cell? ⟨g,i*2+1,none⟩=some x2:=by rw[hW2];exact Lib.cell?_alloc_some _ (Lib.cell?_alloc_some _ hx2)
     have q1:W2.frozen? ⟨g,i*2,none⟩=false:=by rw[hW2];rw[frozen?_alloc_cells,frozen?_alloc_cells];exact f1
     have q2:W2.frozen? ⟨g,i*2+1,none⟩=false:=by rw[hW2];rw[frozen?_alloc_cells,frozen?_alloc_cells];exact f2
     have p0:W2.cell? ⟨wr.heap.size,0,none⟩=some (.int .i64 1):=by rw[hW2];exact Lib.cell?_alloc_some _ (by rw[World.cell?_alloc_new];rfl)
     have p3:W2.cell? ⟨wr.heap.size,1,none⟩=some (.string (S j)):=by rw[hW2];exact Lib.cell?_alloc_some _ (by rw[World.cell?_alloc_new];rfl)
     have hI2:=ial i j _ (.cells #[.int .i64 1,.string (S j)] 129) (ial i j _ (.cells #[.int .i64 1,.string (S j)] 129) hr)
     rw[←hW2] at hI2
     obtain⟨g2,hg2,_,_,r3,_⟩:=hI i j _ hij hj hI2
     obtain rfl:g=g2:=by cases hg2;rfl
     have hfin:=(r3 hlt).2.2.2 hk
     rw[hk] at hfin
     have p4:(W2.setCell ⟨g,i*2,none⟩ (.int .i64 1)).cell? ⟨g,i*2+1,none⟩=some x2:=by rw[World.cell?_setCell_other _ _ _ _ (by simp)];exact p2
     have q4:(W2.setCell ⟨g,i*2,none⟩ (.int .i64 1)).frozen? ⟨g,i*2+1,none⟩=false:=by rw[World.frozen?_setCell];exact q2
     subst hW2
     go_wp2
     refine⟨?_,by simp[Go.RowKit.intOf];omega⟩
     exact⟨_,_,_,_,_,_,_,_,_,_,_,_,_,_,_,_,_,_,_,_,_,_,_,⟨i+1,j+1,by omega,hlt,by simp,by simp,hfin⟩,rfl⟩
    ·have hkb:(K j !=1)=true:=by simp[hk]
     rw[hkb] at hD
     go_wp2_with (go_at_fn 236;go_fit hD;rintro e w' ⟨v',rfl,hw⟩)
     refine hD.mono ?_
     rintro e w2 ⟨rfl,rfl⟩
     go_wp2
     refine⟨?_,by simp[Go.RowKit.intOf];omega⟩
     exact⟨_,_,_,_,_,_,_,_,_,_,_,_,_,_,_,_,_,_,_,_,_,_,_,⟨i,j+1,by omega,hlt,rfl,by simp,ial _ _ _ _ (ial _ _ _ _ (c3 hk))⟩,rfl⟩
   ·have hz:¬(j:Int)<(n:Int):=by omega
    obtain rfl:j=n:=by omega
    have hcl:∀ty,(Builtin.clear_ #[66] ty #[.slice (some ⟨g,i*2,none⟩) (j -i) (c -i)]).run Tryz.prog wr=.ok (.tuple #[]) (wr.setCells g (i*2) (Go.Dn.zRow (j -i))):=
     fun ty=>Go.Dn.run_clear_row wr 66 129 ty Tryz.underlying66 (fun w=>by kernel_rfl) g (i*2) (j -i) (c -i) (by omega) (fun t ht=>d1 _ (by omega)) (fun t ht=>d2 _ (by omega))
    have hz1:(i:Int)≤(j:Int):=by omega
    have hz2:i≤j:=by omega
    have hz3:i≤c:=by omega
    have hz4:(i:Int)≤(c:Int):=by omega
    have hz5:¬c=i:=by omega
    go_wp2
    go_ret
    exact⟨i,by omega,rfl,d4 trivial⟩
 ·go_wp2
  go_ret
  exact⟨n,Nat.le_refl _,rfl,hE _ hj0⟩
set_option maxHeartbeats 1000000 in
set_option maxRecDepth 100000 in
theorem keeps_main (v:Value)(w:World)(n:Nat)(Q:Option Addr→Nat→World→Prop)(E:Option Addr→Nat→Nat→World→Prop)
 (hC:Calls Tryz.prog 235 #[v] w fun e w'=>∃A cap,e=.returned (.slice A n cap)∧Q A cap w')
 (hD:∀A cap w1,Q A cap w1→Calls Tryz.prog 234 #[.slice A n cap,.func (.func 236) #[] #[]] w1 fun e w'=>∃i:Nat,i≤n∧e=.returned (.slice A i cap)∧E A cap i w'):
 Calls Tryz.prog 172 #[v] w fun e w'=>∃A cap i,i≤n∧e=.returned (.slice A i cap)∧E A cap i w':=by
 go_enter Tryz.func172,Tryz.ntmps172
 go_wp2_with (go_at_fn 235;go_fit hC;rintro e w' ⟨A,cap,rfl,hw⟩)
 refine hC.mono ?_
 rintro e w1 ⟨A,cap,rfl,hw⟩
 have hD':=hD A cap w1 hw
 go_wp2_with (go_at_fn 234;go_fit hD';rintro e w' ⟨A,cap,rfl,hw⟩)
 refine hD'.mono ?_
 rintro e w2 ⟨i,hi,rfl,hE⟩
 go_wp2
 go_ret
 exact⟨A,cap,i,hi,rfl,hE⟩
end
noncomputable def f_slices_Clone_Row (t0:PV S_impl_Row):Option (PVs [S_impl_Row]×PVs []):=bif roomB ((([]:PV S_impl_Row)).length+t0.length) then some ((([]:PV S_impl_Row)++t0,()),()) else none
noncomputable def ct_slices_Clone_Row:Ct:=⟨[(.bor,S_impl_Row)],[(S_impl_Row,(.row (.pr .b (.pr .b .b))))],fun x=>f_slices_Clone_Row x.1⟩
noncomputable def pl_slices_Clone_Row:Plan:=⟨[],[],0,0⟩
noncomputable def cx_slices_Clone_Row:Cx:=⟨tab,arrs,[],[],gl,[]⟩
theorem ok_slices_Clone_Row:FnOk gl Tryz.prog 235 ct_slices_Clone_Row:=
 fnOk_nil' (cx:=cx_slices_Clone_Row) (pl:=pl_slices_Clone_Row) (dp:=0) (t3:=3) (te:=129) (T:=Y_impl_Row) (ok0_of tabOk (by unfold ArrOk;kernel_rfl) mix trivial trivial) Tryz.func235 (fn:=Tryz.f235) (rvs:=Tryz.f235.results.toList) rfl (by kernel_rfl) (by kernel_rfl) (by kernel_rfl) rfl rfl rfl rfl Tryz.underlying66 ⟨⟨⟨trivial,trivial⟩,trivial⟩,⟨trivial,trivial⟩⟩ (fun x=>by kernel_rfl) (fun x=>by kernel_rfl) (fun x=>by kernel_rfl) (fun x=>by kernel_rfl) (by kernel_rfl)
noncomputable def f_I_keeps (t0:PV S_impl_Row):Option (PVs [S_impl_Row]×PVs []):=Go.Dn.keepF 129 t0
noncomputable def ct_I_keeps:Ct:=⟨[(.bor,S_impl_Row)],[(S_impl_Row,(.row (.pr .b (.pr .b .b))))],fun x=>f_I_keeps x.1⟩
theorem ok_I_keeps:FnOk gl Tryz.prog 172 ct_I_keeps:=Go.Dn.keep_ok (kC:=235) (kD:=234) (kF:=236) ⟨_,Tryz.func172,rfl,by kernel_rfl⟩ ok_slices_Clone_Row keeps_cut keeps_main
noncomputable def o_S_l1Split_5:List Out:=[⟨.normal,⟨[],[0,1,5,6,7],[]⟩,mkSh 34 [(0,.val .str .b),(1,.val (.int .u8) .b),(5,.val S_string (.row .b)),(6,.val (.int .i64) .b),(7,.val (.int .i64) .b)]⟩]
noncomputable def sh_S_l1Split_4:List Sh:=mkSh 34 [(0,.val .str .b),(1,.val (.int .u8) .b),(5,.val S_string (.row .b)),(6,.val (.int .i64) .b),(7,.val (.int .i64) .b)]
noncomputable def o_S_l1Split_4:List Out:=[⟨.exit 0,⟨[],[0,5,6],[]⟩,mkSh 34 [(0,.val .str .b),(5,.val S_string (.row .b)),(6,.val (.int .i64) .b)]⟩]
noncomputable def b_S_l1Split_4 (t0:PV .str)(t1:PV (.int .u8))(t5:PV S_string)(t6:PV (.int .i64))(t7:PV (.int .i64)):Option ((PV .str×PV (.int .u8)×PV S_string×PV (.int .i64)×PV (.int .i64)×Unit)⊕((PV .str×PV S_string×PV (.int .i64)×Unit))):=bif (decide (t7<(t0.length:Int))) then((bif inB t7 t0.length then bif (((t0.getD t7.toNat 0).toNat:Int)==t1) then bif cutB t6 t7 t0.length then bif roomB (t5.length+[(cutL t6 t7 t0)].length) then some (t0,t1,(t5++[(cutL t6 t7 t0)]),(IntKind.wrap .i64 (t7+1)),t7,()) else none else none else some (t0,t1,t5,t6,t7,()) else none:Option ((PV .str×PV (.int .u8)×PV S_string×PV (.int .i64)×PV (.int .i64)×Unit)))).bind fun j1=>some (.inl (j1.1,j1.2.1,j1.2.2.1,j1.2.2.2.1,(IntKind.wrap .i64 (j1.2.2.2.2.1+1)),())) else some (.inr (t0,t5,t6,()))
noncomputable def w_S_l1Split_4:PV .str×PV (.int .u8)×PV S_string×PV (.int .i64)×PV (.int .i64)×Unit→Option ((PV .str×PV S_string×PV (.int .i64)×Unit)):=fix fun d=>b_S_l1Split_4 d.1 d.2.1 d.2.2.1 d.2.2.2.1 d.2.2.2.2.1
noncomputable def lp_S_l1Split_4:Lp:=⟨⟨[],[0,1,5,6,7],[]⟩,sh_S_l1Split_4,o_S_l1Split_4,fun d=>b_S_l1Split_4 d.1 d.2.1 d.2.2.1 d.2.2.2.1 d.2.2.2.2.1⟩
noncomputable def pl_S_l1Split:Plan:=⟨[(5,o_S_l1Split_5)],[(4,lp_S_l1Split_4)],0,0⟩
noncomputable def f_S_l1Split (t0:PV .str)(t1:PV (.int .u8)):Option (PVs [S_string]×PVs []):=(w_S_l1Split_4 (t0,t1,[],0,0,())).bind fun l3=>bif cutB l3.2.2.1 (l3.1.length:Int) l3.1.length then bif roomB (l3.2.1.length+[(cutL l3.2.2.1 (l3.1.length:Int) l3.1)].length) then some (((l3.2.1++[(cutL l3.2.2.1 (l3.1.length:Int) l3.1)]),()),()) else none else none
noncomputable def ct_S_l1Split:Ct:=⟨[(.bor,.str),(.bor,(.int .u8))],[(S_string,(.row .b))],fun x=>f_S_l1Split x.1 x.2.1⟩
noncomputable def cx_S_l1Split:Cx:=⟨tab,arrs,[],[],gl,[]⟩
theorem eb_S_l1Split_4 (t0:PV .str)(t1:PV (.int .u8))(t5:PV S_string)(t6:PV (.int .i64))(t7:PV (.int .i64)):denK cx_S_l1Split (rcN cx_S_l1Split 0) pl_S_l1Split 0 ((loopsOf (bodyOf Tryz.f193)).getD 0 .skip) (fillS sh_S_l1Split_4 (t0,t1,t5,t6,t7,())) (roundK 0 lp_S_l1Split_4)=b_S_l1Split_4 t0 t1 t5 t6 t7:=by kernel_rfl
theorem ef_S_l1Split (t0:PV .str)(t1:PV (.int .u8)):denF cx_S_l1Split 0 pl_S_l1Split Tryz.f193.ntmps (bodyOf Tryz.f193) Tryz.f193.results.toList [(.bor,.str),(.bor,(.int .u8))] [(S_string,(.row .b))] (t0,t1,())=f_S_l1Split t0 t1:=by kernel_rfl
theorem ok_S_l1Split:FnOk gl Tryz.prog 193 ct_S_l1Split:=
 fnOk (cx:=cx_S_l1Split) (pl:=pl_S_l1Split) (dp:=0) (ok0_of tabOk (by unfold ArrOk;kernel_rfl) mix trivial trivial) Tryz.func193 (by kernel_rfl) (by kernel_rfl) (by kernel_rfl)
  (by rw[show loopsOf (bodyOf Tryz.f193)=[((loopsOf (bodyOf Tryz.f193)).getD 0 .skip)] from by kernel_rfl];exact⟨(by rw[show lookup pl_S_l1Split.loops (firstId ((loopsOf (bodyOf Tryz.f193)).getD 0 .skip))=some lp_S_l1Split_4 from by kernel_rfl];exact fun d z h=>(eb_S_l1Split_4 d.1 d.2.1 d.2.2.1 d.2.2.2.1 d.2.2.2.2.1).trans h),trivial⟩) (fun x=>ef_S_l1Split x.1 x.2.1)
noncomputable def pl_S_l1In:Plan:=⟨[],[],0,0⟩
noncomputable def f_S_l1In (t0:PV (.int .i64))(t1:PV (.int .i64))(t2:PV (.int .i64)):Option (PVs [.bool]×PVs []):=bif (decide (t0≥t1)) then some (((decide (t0≤t2)),()),()) else some ((false,()),())
noncomputable def ct_S_l1In:Ct:=⟨[(.bor,(.int .i64)),(.bor,(.int .i64)),(.bor,(.int .i64))],[(.bool,.b)],fun x=>f_S_l1In x.1 x.2.1 x.2.2.1⟩
noncomputable def cx_S_l1In:Cx:=⟨tab,arrs,[],[],gl,[]⟩
theorem ef_S_l1In (t0:PV (.int .i64))(t1:PV (.int .i64))(t2:PV (.int .i64)):denF cx_S_l1In 0 pl_S_l1In Tryz.f114.ntmps (bodyOf Tryz.f114) Tryz.f114.results.toList [(.bor,(.int .i64)),(.bor,(.int .i64)),(.bor,(.int .i64))] [(.bool,.b)] (t0,t1,t2,())=f_S_l1In t0 t1 t2:=by kernel_rfl
theorem ok_S_l1In:FnOk gl Tryz.prog 114 ct_S_l1In:=
 fnOk (cx:=cx_S_l1In) (pl:=pl_S_l1In) (dp:=0) (ok0_of tabOk (by unfold ArrOk;kernel_rfl) mix trivial trivial) Tryz.func114 (by kernel_rfl) (by kernel_rfl) (by kernel_rfl)
  (by rw[show loopsOf (bodyOf Tryz.f114)=[] from by kernel_rfl];exact trivial) (fun x=>ef_S_l1In x.1 x.2.1 x.2.2.1)
noncomputable def o_S_l1Read_2:List Out:=[⟨.normal,⟨[],[0,18,30,31,32,33],[]⟩,mkSh 44 [(0,.val .str .b),(18,.val .bool .b)]⟩]
noncomputable def o_S_l1Read_8:List Out:=[⟨.normal,⟨[],[0,3,4,34],[]⟩,mkSh 44 [(0,.val .str .b),(3,.val (.int .i64) .b),(4,.val (.int .i64) .b),(34,.val .bool .b)]⟩]
noncomputable def sh_S_l1Read_5:List Sh:=mkSh 44 [(0,.val .str .b),(3,.val (.int .i64) .b),(4,.val (.int .i64) .b)]
noncomputable def o_S_l1Read_5:List Out:=[⟨.exit 0,⟨[],[3],[]⟩,mkSh 44 [(3,.val (.int .i64) .b)]⟩,⟨.ret,⟨[],[2],[]⟩,mkSh 44 [(2,.val (.int .i64) .b)]⟩]
noncomputable def b_S_l1Read_5 (t0:PV .str)(t3:PV (.int .i64))(t4:PV (.int .i64)):Option ((PV .str×PV (.int .i64)×PV (.int .i64)×Unit)⊕((PV (.int .i64)×Unit)⊕(PV (.int .i64)×Unit))):=bif (decide (t4<(t0.length:Int))) then((bif inB t4 t0.length then bif (decide (((t0.getD t4.toNat 0).toNat:Int)<48)) then some (t0,t3,t4,true,()) else bif inB t4 t0.length then some (t0,t3,t4,(decide (((t0.getD t4.toNat 0).toNat:Int)>57)),()) else none else none:Option ((PV .str×PV (.int .i64)×PV (.int .i64)×PV .bool×Unit)))).bind fun j9=>bif j9.2.2.2.1 then some (.inr (.inr ((-1),()))) else bif inB j9.2.2.1 j9.1.length then some (.inl (j9.1,(IntKind.wrap .i64 ((IntKind.wrap .i64 (10*j9.2.1))+(IntKind.wrap .i64 (IntKind.wrap .u8 (((j9.1.getD j9.2.2.1.toNat 0).toNat:Int) -48))))),(IntKind.wrap .i64 (j9.2.2.1+1)),())) else none else some (.inr (.inl (t3,())))
noncomputable def w_S_l1Read_5:PV .str×PV (.int .i64)×PV (.int .i64)×Unit→Option ((PV (.int .i64)×Unit)⊕(PV (.int .i64)×Unit)):=fix fun d=>b_S_l1Read_5 d.1 d.2.1 d.2.2.1
noncomputable def lp_S_l1Read_5:Lp:=⟨⟨[],[0,3,4,30,31,32,33],[]⟩,sh_S_l1Read_5,o_S_l1Read_5,fun d=>b_S_l1Read_5 d.1 d.2.1 d.2.2.1⟩
noncomputable def pl_S_l1Read:Plan:=⟨[(2,o_S_l1Read_2),(8,o_S_l1Read_8)],[(5,lp_S_l1Read_5)],0,0⟩
noncomputable def f_S_l1Read (t0:PV .str):Option (PVs [(.int .i64)]×PVs []):=
 ((
   (f_S_l1In (t0.length:Int) 1 6).bind fun r4=>
     bif (!r4.1.1) then
      some (t0,true,())
     else
      bif inB 0 t0.length then
       bif (((t0.getD (0:Int).toNat 0).toNat:Int)==48) then
        some (t0,(decide ((t0.length:Int)>1)),())
       else
        some (t0,false,())
      else
       none:Option ((PV .str×PV .bool×Unit)))).bind fun j5=>
   bif j5.2.1 then
    some (((-1),()),())
   else
    (w_S_l1Read_5 (j5.1,0,0,())).bind fun x14=>
      match x14 with
      | .inl l12=>
        some ((l12.1,()),())
      | .inr l13=>
        some ((l13.1,()),())
noncomputable def ct_S_l1Read:Ct:=⟨[(.bor,.str)],[((.int .i64),.b)],fun x=>f_S_l1Read x.1⟩
noncomputable def cx_S_l1Read:Cx:=⟨tab,arrs,[(114,ct_S_l1In)],[],gl,[]⟩
theorem eb_S_l1Read_5 (t0:PV .str)(t3:PV (.int .i64))(t4:PV (.int .i64)):denK cx_S_l1Read (rcN cx_S_l1Read 0) pl_S_l1Read 0 ((loopsOf (bodyOf Tryz.f268)).getD 0 .skip) (fillS sh_S_l1Read_5 (t0,t3,t4,())) (roundK 0 lp_S_l1Read_5)=b_S_l1Read_5 t0 t3 t4:=by kernel_rfl
theorem ef_S_l1Read (t0:PV .str):denF cx_S_l1Read 0 pl_S_l1Read Tryz.f268.ntmps (bodyOf Tryz.f268) Tryz.f268.results.toList [(.bor,.str)] [((.int .i64),.b)] (t0,())=f_S_l1Read t0:=by kernel_rfl
theorem ok_S_l1Read:FnOk gl Tryz.prog 268 ct_S_l1Read:=
 fnOk (cx:=cx_S_l1Read) (pl:=pl_S_l1Read) (dp:=0) (ok0_of tabOk (by unfold ArrOk;kernel_rfl) mix ⟨ok_S_l1In,trivial⟩ trivial) Tryz.func268 (by kernel_rfl) (by kernel_rfl) (by kernel_rfl)
  (by rw[show loopsOf (bodyOf Tryz.f268)=[((loopsOf (bodyOf Tryz.f268)).getD 0 .skip)] from by kernel_rfl];exact⟨(by rw[show lookup pl_S_l1Read.loops (firstId ((loopsOf (bodyOf Tryz.f268)).getD 0 .skip))=some lp_S_l1Read_5 from by kernel_rfl];exact fun d z h=>(eb_S_l1Read_5 d.1 d.2.1 d.2.2.1).trans h),trivial⟩) (fun x=>ef_S_l1Read x.1)
noncomputable def o_S_ReadNumber_3:List Out:=[⟨.normal,⟨[],[4,13],[]⟩,mkSh 15 [(4,.val (.int .i64) .b),(13,.val .bool .b)]⟩]
noncomputable def pl_S_ReadNumber:Plan:=⟨[(3,o_S_ReadNumber_3)],[],0,0⟩
noncomputable def f_S_ReadNumber (t0:PV .str):Option (PVs [(.int .i64),.bool]×PVs []):=(f_S_l1Read t0).bind fun r2=>((bif (decide ((t0.length:Int)>4)) then some (r2.1.1,true,()) else some (r2.1.1,(decide (r2.1.1<0)),()):Option ((PV (.int .i64)×PV .bool×Unit)))).bind fun j4=>bif j4.2.1 then some ((0,false,()),()) else some ((j4.1,true,()),())
noncomputable def ct_S_ReadNumber:Ct:=⟨[(.bor,.str)],[((.int .i64),.b),(.bool,.b)],fun x=>f_S_ReadNumber x.1⟩
noncomputable def cx_S_ReadNumber:Cx:=⟨tab,arrs,[(268,ct_S_l1Read)],[],gl,[]⟩
theorem ef_S_ReadNumber (t0:PV .str):denF cx_S_ReadNumber 0 pl_S_ReadNumber Tryz.f240.ntmps (bodyOf Tryz.f240) Tryz.f240.results.toList [(.bor,.str)] [((.int .i64),.b),(.bool,.b)] (t0,())=f_S_ReadNumber t0:=by kernel_rfl
theorem ok_S_ReadNumber:FnOk gl Tryz.prog 240 ct_S_ReadNumber:=
 fnOk (cx:=cx_S_ReadNumber) (pl:=pl_S_ReadNumber) (dp:=0) (ok0_of tabOk (by unfold ArrOk;kernel_rfl) mix ⟨ok_S_l1Read,trivial⟩ trivial) Tryz.func240 (by kernel_rfl) (by kernel_rfl) (by kernel_rfl)
  (by rw[show loopsOf (bodyOf Tryz.f240)=[] from by kernel_rfl];exact trivial) (fun x=>ef_S_ReadNumber x.1)
noncomputable def o_S_l4Two_4:List Out:=[⟨.normal,⟨[],[5,6,29,45,46],[]⟩,mkSh 50 [(5,.val S_string (.row .b)),(6,.val (.int .i64) .b),(29,.val .bool .b)]⟩]
noncomputable def o_S_l4Two_9:List Out:=[⟨.normal,⟨[],[6,8,47],[]⟩,mkSh 50 [(6,.val (.int .i64) .b),(8,.val (.int .i64) .b),(47,.val .bool .b)]⟩]
noncomputable def pl_S_l4Two:Plan:=⟨[(4,o_S_l4Two_4),(9,o_S_l4Two_9)],[],0,0⟩
noncomputable def f_S_l4Two (t0:PV .str):Option (PVs [(.int .i64),(.int .i64),.bool]×PVs []):=(f_S_l1Split t0 44).bind fun r2=>bif inB 0 r2.1.1.length then(f_S_ReadNumber (r2.1.1.getD ((0:Int).toNat) [])).bind fun r4=>((bif (!r4.1.2.1) then some (r2.1.1,r4.1.1,true,()) else bif (decide ((r2.1.1.length:Int)>2)) then some (r2.1.1,r4.1.1,true,()) else some (r2.1.1,r4.1.1,(decide (r4.1.1>1000)),()):Option ((PV S_string×PV (.int .i64)×PV .bool×Unit)))).bind fun j6=>bif j6.2.2.1 then some ((0,0,false,()),()) else bif ((j6.1.length:Int)==1) then some ((j6.2.1,j6.2.1,true,()),()) else bif inB 1 j6.1.length then(f_S_ReadNumber (j6.1.getD ((1:Int).toNat) [])).bind fun r8=>((bif (!r8.1.2.1) then some (j6.2.1,r8.1.1,true,()) else some (j6.2.1,r8.1.1,(decide (r8.1.1>1000)),()):Option ((PV (.int .i64)×PV (.int .i64)×PV .bool×Unit)))).bind fun j10=>bif j10.2.2.1 then some ((0,0,false,()),()) else some ((j10.1,j10.2.1,true,()),()) else none else none
noncomputable def ct_S_l4Two:Ct:=⟨[(.bor,.str)],[((.int .i64),.b),((.int .i64),.b),(.bool,.b)],fun x=>f_S_l4Two x.1⟩
noncomputable def cx_S_l4Two:Cx:=⟨tab,arrs,[(193,ct_S_l1Split),(240,ct_S_ReadNumber)],[],gl,[]⟩
theorem ef_S_l4Two (t0:PV .str):denF cx_S_l4Two 0 pl_S_l4Two Tryz.f217.ntmps (bodyOf Tryz.f217) Tryz.f217.results.toList [(.bor,.str)] [((.int .i64),.b),((.int .i64),.b),(.bool,.b)] (t0,())=f_S_l4Two t0:=by kernel_rfl
theorem ok_S_l4Two:FnOk gl Tryz.prog 217 ct_S_l4Two:=
 fnOk (cx:=cx_S_l4Two) (pl:=pl_S_l4Two) (dp:=0) (ok0_of tabOk (by unfold ArrOk;kernel_rfl) mix ⟨ok_S_l1Split,ok_S_ReadNumber,trivial⟩ trivial) Tryz.func217 (by kernel_rfl) (by kernel_rfl) (by kernel_rfl)
  (by rw[show loopsOf (bodyOf Tryz.f217)=[] from by kernel_rfl];exact trivial) (fun x=>ef_S_l4Two x.1)
noncomputable def o_S_ReadPair_3:List Out:=[⟨.normal,⟨[],[5,6,20],[]⟩,mkSh 23 [(5,.val (.int .i64) .b),(6,.val (.int .i64) .b),(20,.val .bool .b)]⟩]
noncomputable def pl_S_ReadPair:Plan:=⟨[(3,o_S_ReadPair_3)],[],0,0⟩
noncomputable def f_S_ReadPair (t0:PV .str):Option (PVs [(.int .i64),(.int .i64),.bool]×PVs []):=(f_S_l4Two t0).bind fun r2=>((bif (!r2.1.2.2.1) then some (r2.1.1,r2.1.2.1,true,()) else some (r2.1.1,r2.1.2.1,(decide (r2.1.1>r2.1.2.1)),()):Option ((PV (.int .i64)×PV (.int .i64)×PV .bool×Unit)))).bind fun j4=>bif j4.2.2.1 then some ((0,0,false,()),()) else some ((j4.1,j4.2.1,true,()),())
noncomputable def ct_S_ReadPair:Ct:=⟨[(.bor,.str)],[((.int .i64),.b),((.int .i64),.b),(.bool,.b)],fun x=>f_S_ReadPair x.1⟩
noncomputable def cx_S_ReadPair:Cx:=⟨tab,arrs,[(217,ct_S_l4Two)],[],gl,[]⟩
theorem ef_S_ReadPair (t0:PV .str):denF cx_S_ReadPair 0 pl_S_ReadPair Tryz.f148.ntmps (bodyOf Tryz.f148) Tryz.f148.results.toList [(.bor,.str)] [((.int .i64),.b),((.int .i64),.b),(.bool,.b)] (t0,())=f_S_ReadPair t0:=by kernel_rfl
theorem ok_S_ReadPair:FnOk gl Tryz.prog 148 ct_S_ReadPair:=
 fnOk (cx:=cx_S_ReadPair) (pl:=pl_S_ReadPair) (dp:=0) (ok0_of tabOk (by unfold ArrOk;kernel_rfl) mix ⟨ok_S_l4Two,trivial⟩ trivial) Tryz.func148 (by kernel_rfl) (by kernel_rfl) (by kernel_rfl)
  (by rw[show loopsOf (bodyOf Tryz.f148)=[] from by kernel_rfl];exact trivial) (fun x=>ef_S_ReadPair x.1)
section
open Go.RowKit Go.Lib
end
noncomputable def pl_L_big:Plan:=⟨[],[],0,0⟩
noncomputable def f_L_big (t0:PV S_uint8)(t1:PV S_uint8):Option (PVs [.bool]×PVs []):=bif (decide ((t0.length:Int)>1048576)) then some ((true,()),()) else some (((decide ((t1.length:Int)>(IntKind.wrap .i64 (1048576 -(t0.length:Int))))),()),())
noncomputable def ct_L_big:Ct:=⟨[(.bor,S_uint8),(.bor,S_uint8)],[(.bool,.b)],fun x=>f_L_big x.1 x.2.1⟩
noncomputable def cx_L_big:Cx:=⟨tab,arrs,[],[],gl,[]⟩
theorem ef_L_big (t0:PV S_uint8)(t1:PV S_uint8):denF cx_L_big 0 pl_L_big Tryz.f10.ntmps (bodyOf Tryz.f10) Tryz.f10.results.toList [(.bor,S_uint8),(.bor,S_uint8)] [(.bool,.b)] (t0,t1,())=f_L_big t0 t1:=by kernel_rfl
theorem ok_L_big:FnOk gl Tryz.prog 10 ct_L_big:=
 fnOk (cx:=cx_L_big) (pl:=pl_L_big) (dp:=0) (ok0_of tabOk (by unfold ArrOk;kernel_rfl) mix trivial trivial) Tryz.func10 (by kernel_rfl) (by kernel_rfl) (by kernel_rfl)
  (by rw[show loopsOf (bodyOf Tryz.f10)=[] from by kernel_rfl];exact trivial) (fun x=>ef_L_big x.1 x.2.1)
noncomputable def o_S_l1Cur_next_4:List Out:=[⟨.normal,⟨[],[0,3],[]⟩,mkSh 63 [(0,.var Y_spec_l1Cur .b),(1,.addr ⟨0,[],0,0⟩),(4,.val (.int .i64) .b)]⟩]
noncomputable def pl_S_l1Cur_next:Plan:=⟨[(4,o_S_l1Cur_next_4)],[],0,1⟩
noncomputable def f_S_l1Cur_next (t0:PV Y_spec_l1Cur):Option (PVs [(.int .i64)]×PVs [Y_spec_l1Cur]):=((bif (decide (t0.2.1<(t0.1.length:Int))) then bif inB t0.2.1 t0.1.length then some (t0,(IntKind.wrap .i64 (t0.1.getD t0.2.1.toNat (0:Int))),()) else none else some (t0,0,()):Option ((PV Y_spec_l1Cur×PV (.int .i64)×Unit)))).bind fun j1=>bif (decide ((IntKind.wrap .i64 (j1.1.2.1+1))≤(j1.1.1.length:Int))) then some ((j1.2.1,()),((j1.1.1,((IntKind.wrap .i64 (j1.1.2.1+1)),((IntKind.wrap .u64 ((IntKind.wrap .u64 ((IntKind.wrap .u64 (j1.1.2.2.1*6364136223846793005))+(IntKind.wrap .u64 j1.2.1)))+1442695040888963407)),j1.1.2.2.2))),())) else bif decide (0≤40) then some (((IntKind.wrap .i64 (IntKind.wrap .u64 ((BitVec.ofInt (IntKind.bits .u64) ((IntKind.wrap .u64 ((IntKind.wrap .u64 ((IntKind.wrap .u64 (j1.1.2.2.1*6364136223846793005))+(IntKind.wrap .u64 j1.2.1)))+1442695040888963407)).fdiv (2^(min (40:Int).toNat (IntKind.bits .u64))))&&&BitVec.ofInt (IntKind.bits .u64) 255).toNat:Int))),()),((j1.1.1,((IntKind.wrap .i64 (j1.1.2.1+1)),((IntKind.wrap .u64 ((IntKind.wrap .u64 ((IntKind.wrap .u64 (j1.1.2.2.1*6364136223846793005))+(IntKind.wrap .u64 j1.2.1)))+1442695040888963407)),j1.1.2.2.2))),())) else none
noncomputable def ct_S_l1Cur_next:Ct:=⟨[(.ptr,Y_spec_l1Cur)],[((.int .i64),.b)],fun x=>f_S_l1Cur_next x.1⟩
noncomputable def cx_S_l1Cur_next:Cx:=⟨tab,arrs,[],[],gl,[]⟩
theorem ef_S_l1Cur_next (t0:PV Y_spec_l1Cur):denF cx_S_l1Cur_next 0 pl_S_l1Cur_next Tryz.f123.ntmps (bodyOf Tryz.f123) Tryz.f123.results.toList [(.ptr,Y_spec_l1Cur)] [((.int .i64),.b)] (t0,())=f_S_l1Cur_next t0:=by kernel_rfl
theorem ok_S_l1Cur_next:FnOk gl Tryz.prog 123 ct_S_l1Cur_next:=
 fnOk (cx:=cx_S_l1Cur_next) (pl:=pl_S_l1Cur_next) (dp:=0) (ok0_of tabOk (by unfold ArrOk;kernel_rfl) mix trivial trivial) Tryz.func123 (by kernel_rfl) (by kernel_rfl) (by kernel_rfl)
  (by rw[show loopsOf (bodyOf Tryz.f123)=[] from by kernel_rfl];exact trivial) (fun x=>ef_S_l1Cur_next x.1)
noncomputable def o_S_l1Cur_pick_6:List Out:=[⟨.normal,⟨[],[1,5],[]⟩,mkSh 21 [(0,.var Y_spec_l1Cur .b),(2,.val (.int .i64) .b),(6,.val (.int .i64) .b)]⟩]
noncomputable def pl_S_l1Cur_pick:Plan:=⟨[(6,o_S_l1Cur_pick_6)],[],0,1⟩
noncomputable def f_S_l1Cur_pick (t0:PV Y_spec_l1Cur)(t1:PV (.int .i64)):Option (PVs [(.int .i64)]×PVs [Y_spec_l1Cur]):=bif (decide (t1≤1)) then some ((0,()),(t0,())) else(f_S_l1Cur_next t0).bind fun r2=>((bif (decide (t1>200)) then(f_S_l1Cur_next r2.2.1).bind fun r4=>some (r4.2.1,t1,(IntKind.wrap .i64 ((IntKind.wrap .i64 (r2.1.1*256))+r4.1.1)),()) else some (r2.2.1,t1,r2.1.1,()):Option ((PV Y_spec_l1Cur×PV (.int .i64)×PV (.int .i64)×Unit)))).bind fun j5=>bif j5.2.1==0 then none else some (((j5.2.2.1.tmod j5.2.1),()),(j5.1,()))
noncomputable def ct_S_l1Cur_pick:Ct:=⟨[(.ptr,Y_spec_l1Cur),(.bor,(.int .i64))],[((.int .i64),.b)],fun x=>f_S_l1Cur_pick x.1 x.2.1⟩
noncomputable def cx_S_l1Cur_pick:Cx:=⟨tab,arrs,[(123,ct_S_l1Cur_next)],[],gl,[]⟩
theorem ef_S_l1Cur_pick (t0:PV Y_spec_l1Cur)(t1:PV (.int .i64)):denF cx_S_l1Cur_pick 0 pl_S_l1Cur_pick Tryz.f61.ntmps (bodyOf Tryz.f61) Tryz.f61.results.toList [(.ptr,Y_spec_l1Cur),(.bor,(.int .i64))] [((.int .i64),.b)] (t0,t1,())=f_S_l1Cur_pick t0 t1:=by kernel_rfl
theorem ok_S_l1Cur_pick:FnOk gl Tryz.prog 61 ct_S_l1Cur_pick:=
 fnOk (cx:=cx_S_l1Cur_pick) (pl:=pl_S_l1Cur_pick) (dp:=0) (ok0_of tabOk (by unfold ArrOk;kernel_rfl) mix ⟨ok_S_l1Cur_next,trivial⟩ trivial) Tryz.func61 (by kernel_rfl) (by kernel_rfl) (by kernel_rfl)
  (by rw[show loopsOf (bodyOf Tryz.f61)=[] from by kernel_rfl];exact trivial) (fun x=>ef_S_l1Cur_pick x.1 x.2.1)
noncomputable def pl_S_l1Cur_line_78:Plan:=⟨[],[],0,7⟩
noncomputable def pl_S_l1Cur_line:Plan:=⟨[],[],1,1⟩
noncomputable def f_S_l1Cur_line (t0:PV Y_spec_l1Cur):Option (PVs [.str]×PVs [Y_spec_l1Cur]):=(f_S_l1Cur_pick t0 ([[97],[98],[99],[100],[],[46],[46,46],[111,110,101,32,116,119,111],[43,120],[45,121],[92,32,122],[64,64]].length:Int)).bind fun r1=>bif inB r1.1.1 [[97],[98],[99],[100],[],[46],[46,46],[111,110,101,32,116,119,111],[43,120],[45,121],[92,32,122],[64,64]].length then some ((([[97],[98],[99],[100],[],[46],[46,46],[111,110,101,32,116,119,111],[43,120],[45,121],[92,32,122],[64,64]].getD r1.1.1.toNat []),()),(r1.2.1,())) else none
noncomputable def ct_S_l1Cur_line:Ct:=⟨[(.ptr,Y_spec_l1Cur)],[(.str,.b)],fun x=>f_S_l1Cur_line x.1⟩
noncomputable def cx_S_l1Cur_line:Cx:=⟨tab,arrs,[(61,ct_S_l1Cur_pick)],[(78,Tryz.f78,pl_S_l1Cur_line_78)],gl,[]⟩
theorem ef_S_l1Cur_line (t0:PV Y_spec_l1Cur):denF cx_S_l1Cur_line 1 pl_S_l1Cur_line Tryz.f120.ntmps (bodyOf Tryz.f120) Tryz.f120.results.toList [(.ptr,Y_spec_l1Cur)] [(.str,.b)] (t0,())=f_S_l1Cur_line t0:=by kernel_rfl
theorem ok_S_l1Cur_line:FnOk gl Tryz.prog 120 ct_S_l1Cur_line:=
 fnOk (cx:=cx_S_l1Cur_line) (pl:=pl_S_l1Cur_line) (dp:=1) (ok0_of tabOk (by unfold ArrOk;kernel_rfl) mix ⟨ok_S_l1Cur_pick,trivial⟩ ⟨⟨Tryz.func78,by kernel_rfl,(by rw[show loopsOf (bodyOf Tryz.f78)=[] from by kernel_rfl];exact trivial)⟩,trivial⟩) Tryz.func120 (by kernel_rfl) (by kernel_rfl) (by kernel_rfl)
  (by rw[show loopsOf (bodyOf Tryz.f120)=[] from by kernel_rfl];exact trivial) (fun x=>ef_S_l1Cur_line x.1)
noncomputable def pl_S_l1Cur_one:Plan:=⟨[],[],0,1⟩
noncomputable def f_S_l1Cur_one (t0:PV Y_spec_l1Cur)(t1:PV (.int .i64)):Option (PVs [.bool]×PVs [Y_spec_l1Cur]):=(f_S_l1Cur_pick t0 t1).bind fun r1=>some (((r1.1.1==0),()),(r1.2.1,()))
noncomputable def ct_S_l1Cur_one:Ct:=⟨[(.ptr,Y_spec_l1Cur),(.bor,(.int .i64))],[(.bool,.b)],fun x=>f_S_l1Cur_one x.1 x.2.1⟩
noncomputable def cx_S_l1Cur_one:Cx:=⟨tab,arrs,[(61,ct_S_l1Cur_pick)],[],gl,[]⟩
theorem ef_S_l1Cur_one (t0:PV Y_spec_l1Cur)(t1:PV (.int .i64)):denF cx_S_l1Cur_one 0 pl_S_l1Cur_one Tryz.f105.ntmps (bodyOf Tryz.f105) Tryz.f105.results.toList [(.ptr,Y_spec_l1Cur),(.bor,(.int .i64))] [(.bool,.b)] (t0,t1,())=f_S_l1Cur_one t0 t1:=by kernel_rfl
theorem ok_S_l1Cur_one:FnOk gl Tryz.prog 105 ct_S_l1Cur_one:=
 fnOk (cx:=cx_S_l1Cur_one) (pl:=pl_S_l1Cur_one) (dp:=0) (ok0_of tabOk (by unfold ArrOk;kernel_rfl) mix ⟨ok_S_l1Cur_pick,trivial⟩ trivial) Tryz.func105 (by kernel_rfl) (by kernel_rfl) (by kernel_rfl)
  (by rw[show loopsOf (bodyOf Tryz.f105)=[] from by kernel_rfl];exact trivial) (fun x=>ef_S_l1Cur_one x.1 x.2.1)
noncomputable def o_S_l1Cur_text_8:List Out:=[⟨.normal,⟨[],[3],[]⟩,mkSh 27 [(0,.var Y_spec_l1Cur .b),(4,.val S_string (.row .b))]⟩]
noncomputable def pl_S_l1Cur_text_78:Plan:=⟨[],[],0,27⟩
noncomputable def sh_S_l1Cur_text_3:List Sh:=mkSh 27 [(0,.var Y_spec_l1Cur .b),(1,.addr ⟨0,[],0,0⟩),(4,.val S_string (.row .b)),(5,.val (.int .i64) .b)]
noncomputable def o_S_l1Cur_text_3:List Out:=[⟨.exit 0,⟨[],[0,3],[]⟩,mkSh 27 [(0,.var Y_spec_l1Cur .b),(1,.addr ⟨0,[],0,0⟩),(4,.val S_string (.row .b))]⟩]
noncomputable def b_S_l1Cur_text_3 (t0:PV Y_spec_l1Cur)(t4:PV S_string)(t5:PV (.int .i64)):Option ((PV Y_spec_l1Cur×PV S_string×PV (.int .i64)×Unit)⊕((PV Y_spec_l1Cur×PV S_string×Unit))):=bif (decide (t5>0)) then(f_S_l1Cur_line t0).bind fun r4=>bif decide (r4.1.1.length+[10].length≤1099511627776) then bif roomB (t4.length+[(r4.1.1++[10])].length) then some (.inl (r4.2.1,(t4++[(r4.1.1++[10])]),(IntKind.wrap .i64 (t5 -1)),())) else none else none else some (.inr (t0,t4,()))
noncomputable def w_S_l1Cur_text_3:PV Y_spec_l1Cur×PV S_string×PV (.int .i64)×Unit→Option ((PV Y_spec_l1Cur×PV S_string×Unit)):=fix fun d=>b_S_l1Cur_text_3 d.1 d.2.1 d.2.2.1
noncomputable def lp_S_l1Cur_text_3:Lp:=⟨⟨[],[0,3,4],[]⟩,sh_S_l1Cur_text_3,o_S_l1Cur_text_3,fun d=>b_S_l1Cur_text_3 d.1 d.2.1 d.2.2.1⟩
noncomputable def pl_S_l1Cur_text:Plan:=⟨[(8,o_S_l1Cur_text_8)],[(3,lp_S_l1Cur_text_3)],1,1⟩
noncomputable def f_S_l1Cur_text (t0:PV Y_spec_l1Cur):Option (PVs [S_string]×PVs [Y_spec_l1Cur]):=(f_S_l1Cur_pick t0 9).bind fun r7=>(w_S_l1Cur_text_3 (r7.2.1,[],r7.1.1,())).bind fun l8=>(((f_S_l1Cur_one l8.1 5).bind fun r13=>bif r13.1.1 then(f_S_l1Cur_pick r13.2.1 ([[97],[101,110,100],[46]].length:Int)).bind fun r14=>bif inB r14.1.1 [[97],[101,110,100],[46]].length then bif roomB (l8.2.1.length+[([[97],[101,110,100],[46]].getD r14.1.1.toNat [])].length) then some (r14.2.1,(l8.2.1++[([[97],[101,110,100],[46]].getD r14.1.1.toNat [])]),()) else none else none else some (r13.2.1,l8.2.1,()):Option ((PV Y_spec_l1Cur×PV S_string×Unit)))).bind fun j15=>some ((j15.2.1,()),(j15.1,()))
noncomputable def ct_S_l1Cur_text:Ct:=⟨[(.ptr,Y_spec_l1Cur)],[(S_string,.b)],fun x=>f_S_l1Cur_text x.1⟩
noncomputable def cx_S_l1Cur_text:Cx:=⟨tab,arrs,[(61,ct_S_l1Cur_pick),(105,ct_S_l1Cur_one),(120,ct_S_l1Cur_line)],[(78,Tryz.f78,pl_S_l1Cur_text_78)],gl,[]⟩
theorem eb_S_l1Cur_text_3 (t0:PV Y_spec_l1Cur)(t4:PV S_string)(t5:PV (.int .i64)):denK cx_S_l1Cur_text (rcN cx_S_l1Cur_text 1) pl_S_l1Cur_text 1 ((loopsOf (bodyOf Tryz.f59)).getD 0 .skip) (fillS sh_S_l1Cur_text_3 (t0,t4,t5,())) (roundK 1 lp_S_l1Cur_text_3)=b_S_l1Cur_text_3 t0 t4 t5:=by kernel_rfl
theorem ef_S_l1Cur_text (t0:PV Y_spec_l1Cur):denF cx_S_l1Cur_text 1 pl_S_l1Cur_text Tryz.f59.ntmps (bodyOf Tryz.f59) Tryz.f59.results.toList [(.ptr,Y_spec_l1Cur)] [(S_string,.b)] (t0,())=f_S_l1Cur_text t0:=by kernel_rfl
theorem ok_S_l1Cur_text:FnOk gl Tryz.prog 59 ct_S_l1Cur_text:=
 fnOk (cx:=cx_S_l1Cur_text) (pl:=pl_S_l1Cur_text) (dp:=1) (ok0_of tabOk (by unfold ArrOk;kernel_rfl) mix ⟨ok_S_l1Cur_pick,ok_S_l1Cur_one,ok_S_l1Cur_line,trivial⟩ ⟨⟨Tryz.func78,by kernel_rfl,(by rw[show loopsOf (bodyOf Tryz.f78)=[] from by kernel_rfl];exact trivial)⟩,trivial⟩) Tryz.func59 (by kernel_rfl) (by kernel_rfl) (by kernel_rfl)
  (by rw[show loopsOf (bodyOf Tryz.f59)=[((loopsOf (bodyOf Tryz.f59)).getD 0 .skip)] from by kernel_rfl];exact⟨(by rw[show lookup pl_S_l1Cur_text.loops (firstId ((loopsOf (bodyOf Tryz.f59)).getD 0 .skip))=some lp_S_l1Cur_text_3 from by kernel_rfl];exact fun d z h=>(eb_S_l1Cur_text_3 d.1 d.2.1 d.2.2.1).trans h),trivial⟩) (fun x=>ef_S_l1Cur_text x.1)
noncomputable def pl_S_l1Least:Plan:=⟨[],[],0,0⟩
noncomputable def f_S_l1Least (t0:PV (.int .i64))(t1:PV (.int .i64)):Option (PVs [(.int .i64)]×PVs []):=bif (decide (t0<t1)) then some ((t0,()),()) else some ((t1,()),())
noncomputable def ct_S_l1Least:Ct:=⟨[(.bor,(.int .i64)),(.bor,(.int .i64))],[((.int .i64),.b)],fun x=>f_S_l1Least x.1 x.2.1⟩
noncomputable def cx_S_l1Least:Cx:=⟨tab,arrs,[],[],gl,[]⟩
theorem ef_S_l1Least (t0:PV (.int .i64))(t1:PV (.int .i64)):denF cx_S_l1Least 0 pl_S_l1Least Tryz.f121.ntmps (bodyOf Tryz.f121) Tryz.f121.results.toList [(.bor,(.int .i64)),(.bor,(.int .i64))] [((.int .i64),.b)] (t0,t1,())=f_S_l1Least t0 t1:=by kernel_rfl
theorem ok_S_l1Least:FnOk gl Tryz.prog 121 ct_S_l1Least:=
 fnOk (cx:=cx_S_l1Least) (pl:=pl_S_l1Least) (dp:=0) (ok0_of tabOk (by unfold ArrOk;kernel_rfl) mix trivial trivial) Tryz.func121 (by kernel_rfl) (by kernel_rfl) (by kernel_rfl)
  (by rw[show loopsOf (bodyOf Tryz.f121)=[] from by kernel_rfl];exact trivial) (fun x=>ef_S_l1Least x.1 x.2.1)
noncomputable def pl_S_l1Ends:Plan:=⟨[],[],0,0⟩
noncomputable def f_S_l1Ends (t0:PV .str):Option (PVs [.bool]×PVs []):=bif inB (IntKind.wrap .i64 ((t0.length:Int) -1)) t0.length then some (((((t0.getD (IntKind.wrap .i64 ((t0.length:Int) -1)).toNat 0).toNat:Int)==10),()),()) else none
noncomputable def ct_S_l1Ends:Ct:=⟨[(.bor,.str)],[(.bool,.b)],fun x=>f_S_l1Ends x.1⟩
noncomputable def cx_S_l1Ends:Cx:=⟨tab,arrs,[],[],gl,[]⟩
theorem ef_S_l1Ends (t0:PV .str):denF cx_S_l1Ends 0 pl_S_l1Ends Tryz.f128.ntmps (bodyOf Tryz.f128) Tryz.f128.results.toList [(.bor,.str)] [(.bool,.b)] (t0,())=f_S_l1Ends t0:=by kernel_rfl
theorem ok_S_l1Ends:FnOk gl Tryz.prog 128 ct_S_l1Ends:=
 fnOk (cx:=cx_S_l1Ends) (pl:=pl_S_l1Ends) (dp:=0) (ok0_of tabOk (by unfold ArrOk;kernel_rfl) mix trivial trivial) Tryz.func128 (by kernel_rfl) (by kernel_rfl) (by kernel_rfl)
  (by rw[show loopsOf (bodyOf Tryz.f128)=[] from by kernel_rfl];exact trivial) (fun x=>ef_S_l1Ends x.1)
noncomputable def pl_S_l1Whole:Plan:=⟨[],[],0,0⟩
noncomputable def f_S_l1Whole (t0:PV S_string):Option (PVs [.bool]×PVs []):=bif ((t0.length:Int)==0) then some ((true,()),()) else bif inB (IntKind.wrap .i64 ((t0.length:Int) -1)) t0.length then(f_S_l1Ends (t0.getD ((IntKind.wrap .i64 ((t0.length:Int) -1)).toNat) [])).bind fun r1=>some ((r1.1.1,()),()) else none
noncomputable def ct_S_l1Whole:Ct:=⟨[(.bor,S_string)],[(.bool,.b)],fun x=>f_S_l1Whole x.1⟩
noncomputable def cx_S_l1Whole:Cx:=⟨tab,arrs,[(128,ct_S_l1Ends)],[],gl,[]⟩
theorem ef_S_l1Whole (t0:PV S_string):denF cx_S_l1Whole 0 pl_S_l1Whole Tryz.f122.ntmps (bodyOf Tryz.f122) Tryz.f122.results.toList [(.bor,S_string)] [(.bool,.b)] (t0,())=f_S_l1Whole t0:=by kernel_rfl
theorem ok_S_l1Whole:FnOk gl Tryz.prog 122 ct_S_l1Whole:=
 fnOk (cx:=cx_S_l1Whole) (pl:=pl_S_l1Whole) (dp:=0) (ok0_of tabOk (by unfold ArrOk;kernel_rfl) mix ⟨ok_S_l1Ends,trivial⟩ trivial) Tryz.func122 (by kernel_rfl) (by kernel_rfl) (by kernel_rfl)
  (by rw[show loopsOf (bodyOf Tryz.f122)=[] from by kernel_rfl];exact trivial) (fun x=>ef_S_l1Whole x.1)
noncomputable def o_S_l1Cur_hunks_10:List Out:=[⟨.normal,⟨[],[0,1,5,6,7,16,17,18,68],[]⟩,mkSh 83 [(0,.var Y_spec_l1Cur .b),(1,.addr ⟨0,[],0,0⟩),(2,.val S_string .b),(6,.val S_impl_Hunk (.row .b)),(7,.val (.int .i64) .b),(8,.var Y_impl_Hunk .b),(17,.sub ⟨6,[],0,0⟩),(18,.val (.int .i64) .b),(19,.val .bool .b),(69,.val .bool .b)]⟩]
noncomputable def o_S_l1Cur_hunks_11:List Out:=[⟨.normal,⟨[],[0,1,5,6,7,17,18,52,53,54,55,56,57,58,59,60,61,62,63,64,65,66,67],[]⟩,mkSh 83 [(0,.var Y_spec_l1Cur .b),(1,.addr ⟨0,[],0,0⟩),(2,.val S_string .b),(6,.val S_impl_Hunk (.row .b)),(7,.val (.int .i64) .b),(8,.var Y_impl_Hunk .b),(18,.val (.int .i64) .b),(19,.val .bool .b)]⟩]
noncomputable def sh_S_l1Cur_hunks_6:List Sh:=mkSh 83 [(0,.var Y_spec_l1Cur .b),(1,.addr ⟨0,[],0,0⟩),(2,.val S_string .b),(6,.val S_impl_Hunk (.row .b)),(7,.val (.int .i64) .b),(8,.var Y_impl_Hunk (.pr .b (.pr .b (.pr (.row .b) .b)))),(9,.val (.int .i64) .b),(17,.sub ⟨6,[],0,0⟩),(18,.val (.int .i64) .b),(19,.val .bool .b)]
noncomputable def o_S_l1Cur_hunks_6:List Out:=[⟨.exit 2,⟨[(7,.b)],[0,1,5,6,7,16,17,18,52,53,54,55,56,57,58,59,60,61,62,63,64,65,66,67],[]⟩,mkSh 83 [(0,.var Y_spec_l1Cur .b),(1,.addr ⟨0,[],0,0⟩),(2,.val S_string .b),(6,.val S_impl_Hunk (.row .b)),(7,.val (.int .i64) .b),(8,.var Y_impl_Hunk .b),(17,.sub ⟨6,[],0,0⟩),(18,.val (.int .i64) .b),(19,.val .bool .b)]⟩]
noncomputable def b_S_l1Cur_hunks_6 (t0:PV Y_spec_l1Cur)(t2:PV S_string)(t6:PV S_impl_Hunk)(t7:PV (.int .i64))(t8:PV Y_impl_Hunk)(t9:PV (.int .i64))(t18:PV (.int .i64))(t19:PV .bool):Option ((PV Y_spec_l1Cur×PV S_string×PV S_impl_Hunk×PV (.int .i64)×PV Y_impl_Hunk×PV (.int .i64)×PV (.int .i64)×PV .bool×Unit)⊕((PV Y_spec_l1Cur×PV S_string×PV S_impl_Hunk×PV (.int .i64)×PV Y_impl_Hunk×PV (.int .i64)×PV .bool×Unit))):=bif (decide (t9>0)) then(f_S_l1Cur_line t0).bind fun r29=>bif decide (r29.1.1.length+[10].length≤1099511627776) then bif roomB (t8.2.2.1.length+[(r29.1.1++[10])].length) then some (.inl (r29.2.1,t2,t6,t7,(t8.1,(t8.2.1,((t8.2.2.1++[(r29.1.1++[10])]),t8.2.2.2))),(IntKind.wrap .i64 (t9 -1)),t18,t19,())) else none else none else some (.inr (t0,t2,t6,t7,t8,t18,t19,()))
noncomputable def w_S_l1Cur_hunks_6:PV Y_spec_l1Cur×PV S_string×PV S_impl_Hunk×PV (.int .i64)×PV Y_impl_Hunk×PV (.int .i64)×PV (.int .i64)×PV .bool×Unit→Option ((PV Y_spec_l1Cur×PV S_string×PV S_impl_Hunk×PV (.int .i64)×PV Y_impl_Hunk×PV (.int .i64)×PV .bool×Unit)):=fix fun d=>b_S_l1Cur_hunks_6 d.1 d.2.1 d.2.2.1 d.2.2.2.1 d.2.2.2.2.1 d.2.2.2.2.2.1 d.2.2.2.2.2.2.1 d.2.2.2.2.2.2.2.1
noncomputable def lp_S_l1Cur_hunks_6:Lp:=⟨⟨[],[0,1,5,6,7,8,16,17,18,52,53,54,55,56,57,58,59,60,61,62,63,64,65,66,67],[]⟩,sh_S_l1Cur_hunks_6,o_S_l1Cur_hunks_6,fun d=>b_S_l1Cur_hunks_6 d.1 d.2.1 d.2.2.1 d.2.2.2.1 d.2.2.2.2.1 d.2.2.2.2.2.1 d.2.2.2.2.2.2.1 d.2.2.2.2.2.2.2.1⟩
noncomputable def sh_S_l1Cur_hunks_3:List Sh:=mkSh 83 [(0,.var Y_spec_l1Cur .b),(1,.addr ⟨0,[],0,0⟩),(2,.val S_string .b),(6,.val S_impl_Hunk (.row .b)),(7,.val (.int .i64) .b)]
noncomputable def o_S_l1Cur_hunks_3:List Out:=[⟨.exit 0,⟨[],[5],[]⟩,mkSh 83 [(0,.var Y_spec_l1Cur .b),(6,.val S_impl_Hunk (.row .b))]⟩]
noncomputable def b_S_l1Cur_hunks_3 (t0:PV Y_spec_l1Cur)(t2:PV S_string)(t6:PV S_impl_Hunk)(t7:PV (.int .i64)):Option ((PV Y_spec_l1Cur×PV S_string×PV S_impl_Hunk×PV (.int .i64)×Unit)⊕((PV Y_spec_l1Cur×PV S_impl_Hunk×Unit))):=bif (decide (t7≤(t2.length:Int))) then bif (decide ((t6.length:Int)<6)) then(f_S_l1Least 3 (IntKind.wrap .i64 ((t2.length:Int) -t7))).bind fun r24=>(f_S_l1Cur_pick t0 (IntKind.wrap .i64 (r24.1.1+1))).bind fun r25=>(f_S_l1Cur_pick r25.2.1 3).bind fun r30=>(w_S_l1Cur_hunks_6 (r30.2.1,t2,t6,t7,(t7,(r25.1.1,(([]:PV S_string),()))),r30.1.1,(t6.length:Int),(decide ((t6.length:Int)<6)),())).bind fun l31=>((((bif (decide ((IntKind.wrap .i64 (l31.2.2.2.2.1.2.1+(l31.2.2.2.2.1.2.2.1.length:Int)))>0)) then bif (decide ((IntKind.wrap .i64 (l31.2.2.2.1+l31.2.2.2.2.1.2.1))<(l31.2.1.length:Int))) then some (l31.1,l31.2.1,l31.2.2.1,l31.2.2.2.1,l31.2.2.2.2.1,l31.2.2.2.2.2.1,l31.2.2.2.2.2.2.1,true,()) else(f_S_l1Whole l31.2.1).bind fun r32=>bif r32.1.1 then some (l31.1,l31.2.1,l31.2.2.1,l31.2.2.2.1,l31.2.2.2.2.1,l31.2.2.2.2.2.1,l31.2.2.2.2.2.2.1,true,()) else some (l31.1,l31.2.1,l31.2.2.1,l31.2.2.2.1,l31.2.2.2.2.1,l31.2.2.2.2.2.1,l31.2.2.2.2.2.2.1,(decide (l31.2.2.2.2.1.2.1>0)),()) else some (l31.1,l31.2.1,l31.2.2.1,l31.2.2.2.1,l31.2.2.2.2.1,l31.2.2.2.2.2.1,l31.2.2.2.2.2.2.1,false,()):Option ((PV Y_spec_l1Cur×PV S_string×PV S_impl_Hunk×PV (.int .i64)×PV Y_impl_Hunk×PV (.int .i64)×PV .bool×PV .bool×Unit)))).bind fun j33=>bif j33.2.2.2.2.2.2.2.1 then bif roomB (j33.2.2.1.length+[j33.2.2.2.2.1].length) then some (j33.1,j33.2.1,(j33.2.2.1++[j33.2.2.2.2.1]),j33.2.2.2.1,j33.2.2.2.2.1,j33.2.2.2.2.2.1,j33.2.2.2.2.2.2.1,()) else none else some (j33.1,j33.2.1,j33.2.2.1,j33.2.2.2.1,j33.2.2.2.2.1,j33.2.2.2.2.2.1,j33.2.2.2.2.2.2.1,()):Option ((PV Y_spec_l1Cur×PV S_string×PV S_impl_Hunk×PV (.int .i64)×PV Y_impl_Hunk×PV (.int .i64)×PV .bool×Unit)))).bind fun j34=>(f_S_l1Cur_pick j34.1 3).bind fun r35=>some (.inl (r35.2.1,j34.2.1,j34.2.2.1,(IntKind.wrap .i64 (j34.2.2.2.1+(IntKind.wrap .i64 ((IntKind.wrap .i64 (j34.2.2.2.2.1.2.1+1))+r35.1.1)))),())) else some (.inr (t0,t6,())) else some (.inr (t0,t6,()))
noncomputable def w_S_l1Cur_hunks_3:PV Y_spec_l1Cur×PV S_string×PV S_impl_Hunk×PV (.int .i64)×Unit→Option ((PV Y_spec_l1Cur×PV S_impl_Hunk×Unit)):=fix fun d=>b_S_l1Cur_hunks_3 d.1 d.2.1 d.2.2.1 d.2.2.2.1
noncomputable def lp_S_l1Cur_hunks_3:Lp:=⟨⟨[(5,(.row .b))],[0,1,5,6,16,52,53,54,55,56,57,58,59,60,61,62,63,64,65,66,67],[]⟩,sh_S_l1Cur_hunks_3,o_S_l1Cur_hunks_3,fun d=>b_S_l1Cur_hunks_3 d.1 d.2.1 d.2.2.1 d.2.2.2.1⟩
noncomputable def pl_S_l1Cur_hunks:Plan:=⟨[(10,o_S_l1Cur_hunks_10),(11,o_S_l1Cur_hunks_11)],[(6,lp_S_l1Cur_hunks_6),(3,lp_S_l1Cur_hunks_3)],0,1⟩
noncomputable def f_S_l1Cur_hunks (t0:PV Y_spec_l1Cur)(t1:PV S_string):Option (PVs [S_impl_Hunk]×PVs [Y_spec_l1Cur]):=(f_S_l1Cur_pick t0 3).bind fun r2=>(w_S_l1Cur_hunks_3 (r2.2.1,t1,[],r2.1.1,())).bind fun l37=>some ((l37.2.1,()),(l37.1,()))
noncomputable def ct_S_l1Cur_hunks:Ct:=⟨[(.ptr,Y_spec_l1Cur),(.bor,S_string)],[(S_impl_Hunk,.b)],fun x=>f_S_l1Cur_hunks x.1 x.2.1⟩
noncomputable def cx_S_l1Cur_hunks:Cx:=⟨tab,arrs,[(61,ct_S_l1Cur_pick),(120,ct_S_l1Cur_line),(121,ct_S_l1Least),(122,ct_S_l1Whole)],[],gl,[]⟩
theorem eb_S_l1Cur_hunks_3 (t0:PV Y_spec_l1Cur)(t2:PV S_string)(t6:PV S_impl_Hunk)(t7:PV (.int .i64)):denK cx_S_l1Cur_hunks (rcN cx_S_l1Cur_hunks 0) pl_S_l1Cur_hunks 1 ((loopsOf (bodyOf Tryz.f60)).getD 0 .skip) (fillS sh_S_l1Cur_hunks_3 (t0,t2,t6,t7,())) (roundK 1 lp_S_l1Cur_hunks_3)=b_S_l1Cur_hunks_3 t0 t2 t6 t7:=by kernel_rfl
theorem eb_S_l1Cur_hunks_6 (t0:PV Y_spec_l1Cur)(t2:PV S_string)(t6:PV S_impl_Hunk)(t7:PV (.int .i64))(t8:PV Y_impl_Hunk)(t9:PV (.int .i64))(t18:PV (.int .i64))(t19:PV .bool):denK cx_S_l1Cur_hunks (rcN cx_S_l1Cur_hunks 0) pl_S_l1Cur_hunks 1 ((loopsOf (bodyOf Tryz.f60)).getD 1 .skip) (fillS sh_S_l1Cur_hunks_6 (t0,t2,t6,t7,t8,t9,t18,t19,())) (roundK 1 lp_S_l1Cur_hunks_6)=b_S_l1Cur_hunks_6 t0 t2 t6 t7 t8 t9 t18 t19:=by kernel_rfl
theorem ef_S_l1Cur_hunks (t0:PV Y_spec_l1Cur)(t1:PV S_string):denF cx_S_l1Cur_hunks 0 pl_S_l1Cur_hunks Tryz.f60.ntmps (bodyOf Tryz.f60) Tryz.f60.results.toList [(.ptr,Y_spec_l1Cur),(.bor,S_string)] [(S_impl_Hunk,.b)] (t0,t1,())=f_S_l1Cur_hunks t0 t1:=by kernel_rfl
theorem ok_S_l1Cur_hunks:FnOk gl Tryz.prog 60 ct_S_l1Cur_hunks:=
 fnOk (cx:=cx_S_l1Cur_hunks) (pl:=pl_S_l1Cur_hunks) (dp:=0) (ok0_of tabOk (by unfold ArrOk;kernel_rfl) mix ⟨ok_S_l1Cur_pick,ok_S_l1Cur_line,ok_S_l1Least,ok_S_l1Whole,trivial⟩ trivial) Tryz.func60 (by kernel_rfl) (by kernel_rfl) (by kernel_rfl)
  (by rw[show loopsOf (bodyOf Tryz.f60)=[((loopsOf (bodyOf Tryz.f60)).getD 0 .skip),((loopsOf (bodyOf Tryz.f60)).getD 1 .skip)] from by kernel_rfl];exact⟨(by rw[show lookup pl_S_l1Cur_hunks.loops (firstId ((loopsOf (bodyOf Tryz.f60)).getD 0 .skip))=some lp_S_l1Cur_hunks_3 from by kernel_rfl];exact fun d z h=>(eb_S_l1Cur_hunks_3 d.1 d.2.1 d.2.2.1 d.2.2.2.1).trans h),(by rw[show lookup pl_S_l1Cur_hunks.loops (firstId ((loopsOf (bodyOf Tryz.f60)).getD 1 .skip))=some lp_S_l1Cur_hunks_6 from by kernel_rfl];exact fun d z h=>(eb_S_l1Cur_hunks_6 d.1 d.2.1 d.2.2.1 d.2.2.2.1 d.2.2.2.2.1 d.2.2.2.2.2.1 d.2.2.2.2.2.2.1 d.2.2.2.2.2.2.2.1).trans h),trivial⟩) (fun x=>ef_S_l1Cur_hunks x.1 x.2.1)
noncomputable def pl_S_l1Cur_among:Plan:=⟨[],[],0,1⟩
noncomputable def f_S_l1Cur_among (t0:PV Y_spec_l1Cur)(t1:PV S_int):Option (PVs [(.int .i64)]×PVs [Y_spec_l1Cur]):=(f_S_l1Cur_pick t0 (t1.length:Int)).bind fun r1=>bif inB r1.1.1 t1.length then some (((t1.getD r1.1.1.toNat (0:Int)),()),(r1.2.1,())) else none
noncomputable def ct_S_l1Cur_among:Ct:=⟨[(.ptr,Y_spec_l1Cur),(.bor,S_int)],[((.int .i64),.b)],fun x=>f_S_l1Cur_among x.1 x.2.1⟩
noncomputable def cx_S_l1Cur_among:Cx:=⟨tab,arrs,[(61,ct_S_l1Cur_pick)],[],gl,[]⟩
theorem ef_S_l1Cur_among (t0:PV Y_spec_l1Cur)(t1:PV S_int):denF cx_S_l1Cur_among 0 pl_S_l1Cur_among Tryz.f174.ntmps (bodyOf Tryz.f174) Tryz.f174.results.toList [(.ptr,Y_spec_l1Cur),(.bor,S_int)] [((.int .i64),.b)] (t0,t1,())=f_S_l1Cur_among t0 t1:=by kernel_rfl
theorem ok_S_l1Cur_among:FnOk gl Tryz.prog 174 ct_S_l1Cur_among:=
 fnOk (cx:=cx_S_l1Cur_among) (pl:=pl_S_l1Cur_among) (dp:=0) (ok0_of tabOk (by unfold ArrOk;kernel_rfl) mix ⟨ok_S_l1Cur_pick,trivial⟩ trivial) Tryz.func174 (by kernel_rfl) (by kernel_rfl) (by kernel_rfl)
  (by rw[show loopsOf (bodyOf Tryz.f174)=[] from by kernel_rfl];exact trivial) (fun x=>ef_S_l1Cur_among x.1 x.2.1)
noncomputable def sh_S_l1Line_2:List Sh:=mkSh 18 [(0,.val .str .b),(3,.val (.int .i64) .b)]
noncomputable def o_S_l1Line_2:List Out:=[⟨.exit 0,⟨[],[0],[]⟩,mkSh 18 [(0,.val .str .b)]⟩,⟨.ret,⟨[],[2],[]⟩,mkSh 18 [(2,.val .bool .b)]⟩]
noncomputable def b_S_l1Line_2 (t0:PV .str)(t3:PV (.int .i64)):Option ((PV .str×PV (.int .i64)×Unit)⊕((PV .str×Unit)⊕(PV .bool×Unit))):=bif (decide (t3<(IntKind.wrap .i64 ((t0.length:Int) -1)))) then bif inB t3 t0.length then bif (((t0.getD t3.toNat 0).toNat:Int)==10) then some (.inr (.inr (false,()))) else some (.inl (t0,(IntKind.wrap .i64 (t3+1)),())) else none else some (.inr (.inl (t0,())))
noncomputable def w_S_l1Line_2:PV .str×PV (.int .i64)×Unit→Option ((PV .str×Unit)⊕(PV .bool×Unit)):=fix fun d=>b_S_l1Line_2 d.1 d.2.1
noncomputable def lp_S_l1Line_2:Lp:=⟨⟨[],[0,3],[]⟩,sh_S_l1Line_2,o_S_l1Line_2,fun d=>b_S_l1Line_2 d.1 d.2.1⟩
noncomputable def pl_S_l1Line:Plan:=⟨[],[(2,lp_S_l1Line_2)],0,0⟩
noncomputable def f_S_l1Line (t0:PV .str):Option (PVs [.bool]×PVs []):=
 (w_S_l1Line_2 (t0,0,())).bind fun x6=>
   match x6 with
   | .inl l3=>
     (f_S_l1In (l3.1.length:Int) 1 30).bind fun r4=>
       some ((r4.1.1,()),())
   | .inr l5=>
     some ((l5.1,()),())
noncomputable def ct_S_l1Line:Ct:=⟨[(.bor,.str)],[(.bool,.b)],fun x=>f_S_l1Line x.1⟩
noncomputable def cx_S_l1Line:Cx:=⟨tab,arrs,[(114,ct_S_l1In)],[],gl,[]⟩
theorem eb_S_l1Line_2 (t0:PV .str)(t3:PV (.int .i64)):denK cx_S_l1Line (rcN cx_S_l1Line 0) pl_S_l1Line 0 ((loopsOf (bodyOf Tryz.f183)).getD 0 .skip) (fillS sh_S_l1Line_2 (t0,t3,())) (roundK 0 lp_S_l1Line_2)=b_S_l1Line_2 t0 t3:=by kernel_rfl
theorem ef_S_l1Line (t0:PV .str):denF cx_S_l1Line 0 pl_S_l1Line Tryz.f183.ntmps (bodyOf Tryz.f183) Tryz.f183.results.toList [(.bor,.str)] [(.bool,.b)] (t0,())=f_S_l1Line t0:=by kernel_rfl
theorem ok_S_l1Line:FnOk gl Tryz.prog 183 ct_S_l1Line:=
 fnOk (cx:=cx_S_l1Line) (pl:=pl_S_l1Line) (dp:=0) (ok0_of tabOk (by unfold ArrOk;kernel_rfl) mix ⟨ok_S_l1In,trivial⟩ trivial) Tryz.func183 (by kernel_rfl) (by kernel_rfl) (by kernel_rfl)
  (by rw[show loopsOf (bodyOf Tryz.f183)=[((loopsOf (bodyOf Tryz.f183)).getD 0 .skip)] from by kernel_rfl];exact⟨(by rw[show lookup pl_S_l1Line.loops (firstId ((loopsOf (bodyOf Tryz.f183)).getD 0 .skip))=some lp_S_l1Line_2 from by kernel_rfl];exact fun d z h=>(eb_S_l1Line_2 d.1 d.2.1).trans h),trivial⟩) (fun x=>ef_S_l1Line x.1)
noncomputable def o_S_l1Good_5:List Out:=[⟨.normal,⟨[],[0,5,6,7,26],[]⟩,mkSh 31 [(0,.val S_string .b),(5,.val S_string .b),(6,.val (.int .i64) .b),(7,.val (.int .i64) .b),(26,.val .bool .b)]⟩]
noncomputable def sh_S_l1Good_2:List Sh:=mkSh 31 [(0,.val S_string .b),(5,.val S_string .b),(6,.val (.int .i64) .b),(7,.val (.int .i64) .b)]
noncomputable def o_S_l1Good_2:List Out:=[⟨.exit 0,⟨[],[0],[]⟩,mkSh 31 [(0,.val S_string .b)]⟩,⟨.ret,⟨[],[2],[]⟩,mkSh 31 [(2,.val .bool .b)]⟩]
noncomputable def b_S_l1Good_2 (t0:PV S_string)(t5:PV S_string)(t6:PV (.int .i64))(t7:PV (.int .i64)):Option ((PV S_string×PV S_string×PV (.int .i64)×PV (.int .i64)×Unit)⊕((PV S_string×Unit)⊕(PV .bool×Unit))):=bif (decide (t7<t6)) then bif inB t7 t5.length then(((f_S_l1Line (t5.getD t7.toNat [])).bind fun r4=>bif (!r4.1.1) then some (t0,t5,t6,t7,true,()) else bif (decide (t7<(IntKind.wrap .i64 ((t0.length:Int) -1)))) then(f_S_l1Ends (t5.getD t7.toNat [])).bind fun r5=>some (t0,t5,t6,t7,(!r5.1.1),()) else some (t0,t5,t6,t7,false,()):Option ((PV S_string×PV S_string×PV (.int .i64)×PV (.int .i64)×PV .bool×Unit)))).bind fun j6=>bif j6.2.2.2.2.1 then some (.inr (.inr (false,()))) else some (.inl (j6.1,j6.2.1,j6.2.2.1,(IntKind.wrap .i64 (j6.2.2.2.1+1)),())) else none else some (.inr (.inl (t0,())))
noncomputable def w_S_l1Good_2:PV S_string×PV S_string×PV (.int .i64)×PV (.int .i64)×Unit→Option ((PV S_string×Unit)⊕(PV .bool×Unit)):=fix fun d=>b_S_l1Good_2 d.1 d.2.1 d.2.2.1 d.2.2.2.1
noncomputable def lp_S_l1Good_2:Lp:=⟨⟨[],[0,5,6,7,16,17,18,19,20,21,22,23,24,25],[]⟩,sh_S_l1Good_2,o_S_l1Good_2,fun d=>b_S_l1Good_2 d.1 d.2.1 d.2.2.1 d.2.2.2.1⟩
noncomputable def pl_S_l1Good:Plan:=⟨[(5,o_S_l1Good_5)],[(2,lp_S_l1Good_2)],0,0⟩
noncomputable def f_S_l1Good (t0:PV S_string):Option (PVs [.bool]×PVs []):=
 (w_S_l1Good_2 (t0,t0,(t0.length:Int),0,())).bind fun x11=>
   match x11 with
   | .inl l9=>
     some (((decide ((l9.1.length:Int)≤40)),()),())
   | .inr l10=>
     some ((l10.1,()),())
noncomputable def ct_S_l1Good:Ct:=⟨[(.bor,S_string)],[(.bool,.b)],fun x=>f_S_l1Good x.1⟩
noncomputable def cx_S_l1Good:Cx:=⟨tab,arrs,[(128,ct_S_l1Ends),(183,ct_S_l1Line)],[],gl,[]⟩
theorem eb_S_l1Good_2 (t0:PV S_string)(t5:PV S_string)(t6:PV (.int .i64))(t7:PV (.int .i64)):denK cx_S_l1Good (rcN cx_S_l1Good 0) pl_S_l1Good 0 ((loopsOf (bodyOf Tryz.f158)).getD 0 .skip) (fillS sh_S_l1Good_2 (t0,t5,t6,t7,())) (roundK 0 lp_S_l1Good_2)=b_S_l1Good_2 t0 t5 t6 t7:=by kernel_rfl
theorem ef_S_l1Good (t0:PV S_string):denF cx_S_l1Good 0 pl_S_l1Good Tryz.f158.ntmps (bodyOf Tryz.f158) Tryz.f158.results.toList [(.bor,S_string)] [(.bool,.b)] (t0,())=f_S_l1Good t0:=by kernel_rfl
theorem ok_S_l1Good:FnOk gl Tryz.prog 158 ct_S_l1Good:=
 fnOk (cx:=cx_S_l1Good) (pl:=pl_S_l1Good) (dp:=0) (ok0_of tabOk (by unfold ArrOk;kernel_rfl) mix ⟨ok_S_l1Ends,ok_S_l1Line,trivial⟩ trivial) Tryz.func158 (by kernel_rfl) (by kernel_rfl) (by kernel_rfl)
  (by rw[show loopsOf (bodyOf Tryz.f158)=[((loopsOf (bodyOf Tryz.f158)).getD 0 .skip)] from by kernel_rfl];exact⟨(by rw[show lookup pl_S_l1Good.loops (firstId ((loopsOf (bodyOf Tryz.f158)).getD 0 .skip))=some lp_S_l1Good_2 from by kernel_rfl];exact fun d z h=>(eb_S_l1Good_2 d.1 d.2.1 d.2.2.1 d.2.2.2.1).trans h),trivial⟩) (fun x=>ef_S_l1Good x.1)
noncomputable def o_S_l2Hunks_5:List Out:=[⟨.normal,⟨[],[0,1,6,9,10,11,75,92,93],[]⟩,mkSh 95 [(0,.val (.int .i64) .b),(1,.val S_impl_Hunk .b),(6,.var Y_impl_Hunk .b),(9,.val S_impl_Hunk .b),(10,.val (.int .i64) .b),(11,.val (.int .i64) .b),(75,.val .bool .b)]⟩]
noncomputable def sh_S_l2Hunks_7:List Sh:=mkSh 95 [(0,.val (.int .i64) .b),(1,.val S_impl_Hunk .b),(9,.val S_impl_Hunk .b),(10,.val (.int .i64) .b),(11,.val (.int .i64) .b),(77,.val S_string .b),(78,.val (.int .i64) .b),(79,.val (.int .i64) .b)]
noncomputable def o_S_l2Hunks_7:List Out:=[⟨.exit 2,⟨[],[0,1,9,10,11,20,21,22,25,26,27,28,31,32,33,34,35,36,37,40,41,42,43,44,45,46,49,50,51,52,55,56,57,58,59,60,61,62,63,64,65,66,67,68,69,70,71,72,73,74,92,93],[]⟩,mkSh 95 [(0,.val (.int .i64) .b),(1,.val S_impl_Hunk .b),(9,.val S_impl_Hunk .b),(10,.val (.int .i64) .b),(11,.val (.int .i64) .b)]⟩,⟨.ret,⟨[],[4],[]⟩,mkSh 95 [(4,.val .bool .b)]⟩]
noncomputable def b_S_l2Hunks_7 (t0:PV (.int .i64))(t1:PV S_impl_Hunk)(t9:PV S_impl_Hunk)(t10:PV (.int .i64))(t11:PV (.int .i64))(t77:PV S_string)(t78:PV (.int .i64))(t79:PV (.int .i64)):Option ((PV (.int .i64)×PV S_impl_Hunk×PV S_impl_Hunk×PV (.int .i64)×PV (.int .i64)×PV S_string×PV (.int .i64)×PV (.int .i64)×Unit)⊕((PV (.int .i64)×PV S_impl_Hunk×PV S_impl_Hunk×PV (.int .i64)×PV (.int .i64)×Unit)⊕(PV .bool×Unit))):=bif (decide (t79<t78)) then bif inB t79 t77.length then(f_S_l1Line (t77.getD t79.toNat [])).bind fun r6=>bif (!r6.1.1) then some (.inr (.inr (false,()))) else some (.inl (t0,t1,t9,t10,t11,t77,t78,(IntKind.wrap .i64 (t79+1)),())) else none else some (.inr (.inl (t0,t1,t9,t10,t11,())))
noncomputable def w_S_l2Hunks_7:PV (.int .i64)×PV S_impl_Hunk×PV S_impl_Hunk×PV (.int .i64)×PV (.int .i64)×PV S_string×PV (.int .i64)×PV (.int .i64)×Unit→Option ((PV (.int .i64)×PV S_impl_Hunk×PV S_impl_Hunk×PV (.int .i64)×PV (.int .i64)×Unit)⊕(PV .bool×Unit)):=fix fun d=>b_S_l2Hunks_7 d.1 d.2.1 d.2.2.1 d.2.2.2.1 d.2.2.2.2.1 d.2.2.2.2.2.1 d.2.2.2.2.2.2.1 d.2.2.2.2.2.2.2.1
noncomputable def lp_S_l2Hunks_7:Lp:=⟨⟨[],[0,1,9,10,11,20,21,22,25,26,27,28,31,32,33,34,35,36,37,40,41,42,43,44,45,46,49,50,51,52,55,56,57,58,59,60,61,62,63,64,65,66,67,68,69,70,71,72,73,74,77,78,79,92,93],[]⟩,sh_S_l2Hunks_7,o_S_l2Hunks_7,fun d=>b_S_l2Hunks_7 d.1 d.2.1 d.2.2.1 d.2.2.2.1 d.2.2.2.2.1 d.2.2.2.2.2.1 d.2.2.2.2.2.2.1 d.2.2.2.2.2.2.2.1⟩
noncomputable def sh_S_l2Hunks_2:List Sh:=mkSh 95 [(0,.val (.int .i64) .b),(1,.val S_impl_Hunk .b),(9,.val S_impl_Hunk .b),(10,.val (.int .i64) .b),(11,.val (.int .i64) .b)]
noncomputable def o_S_l2Hunks_2:List Out:=[⟨.exit 0,⟨[],[0,1,92,93],[]⟩,mkSh 95 [(0,.val (.int .i64) .b),(1,.val S_impl_Hunk .b)]⟩,⟨.ret,⟨[],[4],[]⟩,mkSh 95 [(4,.val .bool .b)]⟩]
noncomputable def b_S_l2Hunks_2 (t0:PV (.int .i64))(t1:PV S_impl_Hunk)(t9:PV S_impl_Hunk)(t10:PV (.int .i64))(t11:PV (.int .i64)):Option ((PV (.int .i64)×PV S_impl_Hunk×PV S_impl_Hunk×PV (.int .i64)×PV (.int .i64)×Unit)⊕((PV (.int .i64)×PV S_impl_Hunk×Unit)⊕(PV .bool×Unit))):=
 bif (decide (t11<t10)) then
  bif inB t11 t9.length then
   ((
     bif (decide (((t9.getD t11.toNat (dflt Y_impl_Hunk)).1)<0)) then
      some (t0,t1,(t9.getD t11.toNat (dflt Y_impl_Hunk)),t9,t10,t11,true,())
     else
      bif (decide ((((t9.getD t11.toNat (dflt Y_impl_Hunk)).2).1)<0)) then
       some (t0,t1,(t9.getD t11.toNat (dflt Y_impl_Hunk)),t9,t10,t11,true,())
      else
       bif (decide ((((t9.getD t11.toNat (dflt Y_impl_Hunk)).2).1)>t0)) then
        some (t0,t1,(t9.getD t11.toNat (dflt Y_impl_Hunk)),t9,t10,t11,true,())
       else
        bif (decide (((t9.getD t11.toNat (dflt Y_impl_Hunk)).1)>(IntKind.wrap .i64 (t0 -(((t9.getD t11.toNat (dflt Y_impl_Hunk)).2).1))))) then
         some (t0,t1,(t9.getD t11.toNat (dflt Y_impl_Hunk)),t9,t10,t11,true,())
        else
         bif ((IntKind.wrap .i64 ((((t9.getD t11.toNat (dflt Y_impl_Hunk)).2).1)+(((((t9.getD t11.toNat (dflt Y_impl_Hunk)).2).2).1).length:Int)))==0) then
          some (t0,t1,(t9.getD t11.toNat (dflt Y_impl_Hunk)),t9,t10,t11,true,())
         else
          bif (decide ((((((t9.getD t11.toNat (dflt Y_impl_Hunk)).2).2).1).length:Int)>40)) then
           some (t0,t1,(t9.getD t11.toNat (dflt Y_impl_Hunk)),t9,t10,t11,true,())
          else
           bif (decide (t11>0)) then
            bif inB (IntKind.wrap .i64 (t11 -1)) t1.length then
             bif inB (IntKind.wrap .i64 (t11 -1)) t1.length then
              some (t0,t1,(t9.getD t11.toNat (dflt Y_impl_Hunk)),t9,t10,t11,(decide (((t9.getD t11.toNat (dflt Y_impl_Hunk)).1)≤(IntKind.wrap .i64 (((t1.getD ((IntKind.wrap .i64 (t11 -1)).toNat) (dflt Y_impl_Hunk)).1)+(((t1.getD ((IntKind.wrap .i64 (t11 -1)).toNat) (dflt Y_impl_Hunk)).2).1))))),())
             else
              none
            else
             none
           else
            some (t0,t1,(t9.getD t11.toNat (dflt Y_impl_Hunk)),t9,t10,t11,false,()):Option ((PV (.int .i64)×PV S_impl_Hunk×PV Y_impl_Hunk×PV S_impl_Hunk×PV (.int .i64)×PV (.int .i64)×PV .bool×Unit)))).bind fun j6=>
     bif j6.2.2.2.2.2.2.1 then
      some (.inr (.inr (false,())))
     else
      (w_S_l2Hunks_7 (j6.1,j6.2.1,j6.2.2.2.1,j6.2.2.2.2.1,j6.2.2.2.2.2.1,j6.2.2.1.2.2.1,(j6.2.2.1.2.2.1.length:Int),0,())).bind fun x14=>
        match x14 with
        | .inl l7=>
          some (.inl (l7.1,l7.2.1,l7.2.2.1,l7.2.2.2.1,(IntKind.wrap .i64 (l7.2.2.2.2.1+1)),()))
        | .inr l8=>
          some (.inr (.inr (l8.1,())))
  else
   none
 else
  some (.inr (.inl (t0,t1,())))
noncomputable def w_S_l2Hunks_2:PV (.int .i64)×PV S_impl_Hunk×PV S_impl_Hunk×PV (.int .i64)×PV (.int .i64)×Unit→Option ((PV (.int .i64)×PV S_impl_Hunk×Unit)⊕(PV .bool×Unit)):=fix fun d=>b_S_l2Hunks_2 d.1 d.2.1 d.2.2.1 d.2.2.2.1 d.2.2.2.2.1
noncomputable def lp_S_l2Hunks_2:Lp:=⟨⟨[],[0,1,9,10,11,20,21,22,25,26,27,28,31,32,33,34,35,36,37,40,41,42,43,44,45,46,49,50,51,52,55,56,57,58,59,60,61,62,63,64,65,66,67,68,69,70,71,72,73,74,92,93],[]⟩,sh_S_l2Hunks_2,o_S_l2Hunks_2,fun d=>b_S_l2Hunks_2 d.1 d.2.1 d.2.2.1 d.2.2.2.1 d.2.2.2.2.1⟩
noncomputable def pl_S_l2Hunks:Plan:=⟨[(5,o_S_l2Hunks_5)],[(7,lp_S_l2Hunks_7),(2,lp_S_l2Hunks_2)],0,0⟩
noncomputable def f_S_l2Hunks (t0:PV (.int .i64))(t1:PV S_impl_Hunk):Option (PVs [.bool]×PVs []):=
 (w_S_l2Hunks_2 (t0,t1,t1,(t1.length:Int),0,())).bind fun x15=>
   match x15 with
   | .inl l11=>
     bif (decide ((l11.2.1.length:Int)≤20)) then
      (f_S_l1In l11.1 0 40).bind fun r12=>
        some ((r12.1.1,()),())
     else
      some ((false,()),())
   | .inr l13=>
     some ((l13.1,()),())
noncomputable def ct_S_l2Hunks:Ct:=⟨[(.bor,(.int .i64)),(.bor,S_impl_Hunk)],[(.bool,.b)],fun x=>f_S_l2Hunks x.1 x.2.1⟩
noncomputable def cx_S_l2Hunks:Cx:=⟨tab,arrs,[(114,ct_S_l1In),(183,ct_S_l1Line)],[],gl,[]⟩
theorem eb_S_l2Hunks_2 (t0:PV (.int .i64))(t1:PV S_impl_Hunk)(t9:PV S_impl_Hunk)(t10:PV (.int .i64))(t11:PV (.int .i64)):denK cx_S_l2Hunks (rcN cx_S_l2Hunks 0) pl_S_l2Hunks 0 ((loopsOf (bodyOf Tryz.f229)).getD 0 .skip) (fillS sh_S_l2Hunks_2 (t0,t1,t9,t10,t11,())) (roundK 0 lp_S_l2Hunks_2)=b_S_l2Hunks_2 t0 t1 t9 t10 t11:=by kernel_rfl
theorem eb_S_l2Hunks_7 (t0:PV (.int .i64))(t1:PV S_impl_Hunk)(t9:PV S_impl_Hunk)(t10:PV (.int .i64))(t11:PV (.int .i64))(t77:PV S_string)(t78:PV (.int .i64))(t79:PV (.int .i64)):denK cx_S_l2Hunks (rcN cx_S_l2Hunks 0) pl_S_l2Hunks 0 ((loopsOf (bodyOf Tryz.f229)).getD 1 .skip) (fillS sh_S_l2Hunks_7 (t0,t1,t9,t10,t11,t77,t78,t79,())) (roundK 0 lp_S_l2Hunks_7)=b_S_l2Hunks_7 t0 t1 t9 t10 t11 t77 t78 t79:=by kernel_rfl
theorem ef_S_l2Hunks (t0:PV (.int .i64))(t1:PV S_impl_Hunk):denF cx_S_l2Hunks 0 pl_S_l2Hunks Tryz.f229.ntmps (bodyOf Tryz.f229) Tryz.f229.results.toList [(.bor,(.int .i64)),(.bor,S_impl_Hunk)] [(.bool,.b)] (t0,t1,())=f_S_l2Hunks t0 t1:=by kernel_rfl
theorem ok_S_l2Hunks:FnOk gl Tryz.prog 229 ct_S_l2Hunks:=
 fnOk (cx:=cx_S_l2Hunks) (pl:=pl_S_l2Hunks) (dp:=0) (ok0_of tabOk (by unfold ArrOk;kernel_rfl) mix ⟨ok_S_l1In,ok_S_l1Line,trivial⟩ trivial) Tryz.func229 (by kernel_rfl) (by kernel_rfl) (by kernel_rfl)
  (by rw[show loopsOf (bodyOf Tryz.f229)=[((loopsOf (bodyOf Tryz.f229)).getD 0 .skip),((loopsOf (bodyOf Tryz.f229)).getD 1 .skip)] from by kernel_rfl];exact⟨(by rw[show lookup pl_S_l2Hunks.loops (firstId ((loopsOf (bodyOf Tryz.f229)).getD 0 .skip))=some lp_S_l2Hunks_2 from by kernel_rfl];exact fun d z h=>(eb_S_l2Hunks_2 d.1 d.2.1 d.2.2.1 d.2.2.2.1 d.2.2.2.2.1).trans h),(by rw[show lookup pl_S_l2Hunks.loops (firstId ((loopsOf (bodyOf Tryz.f229)).getD 1 .skip))=some lp_S_l2Hunks_7 from by kernel_rfl];exact fun d z h=>(eb_S_l2Hunks_7 d.1 d.2.1 d.2.2.1 d.2.2.2.1 d.2.2.2.2.1 d.2.2.2.2.2.1 d.2.2.2.2.2.2.1 d.2.2.2.2.2.2.2.1).trans h),trivial⟩) (fun x=>ef_S_l2Hunks x.1 x.2.1)
noncomputable def pl_S_l2Asked:Plan:=⟨[],[],0,0⟩
noncomputable def f_S_l2Asked (t0:PV S_string)(t1:PV S_impl_Hunk):Option (PVs [.bool]×PVs []):=(f_S_l1Good t0).bind fun r1=>bif r1.1.1 then(f_S_l2Hunks (t0.length:Int) t1).bind fun r2=>some ((r2.1.1,()),()) else some ((false,()),())
noncomputable def ct_S_l2Asked:Ct:=⟨[(.bor,S_string),(.bor,S_impl_Hunk)],[(.bool,.b)],fun x=>f_S_l2Asked x.1 x.2.1⟩
noncomputable def cx_S_l2Asked:Cx:=⟨tab,arrs,[(158,ct_S_l1Good),(229,ct_S_l2Hunks)],[],gl,[]⟩
theorem ef_S_l2Asked (t0:PV S_string)(t1:PV S_impl_Hunk):denF cx_S_l2Asked 0 pl_S_l2Asked Tryz.f160.ntmps (bodyOf Tryz.f160) Tryz.f160.results.toList [(.bor,S_string),(.bor,S_impl_Hunk)] [(.bool,.b)] (t0,t1,())=f_S_l2Asked t0 t1:=by kernel_rfl
theorem ok_S_l2Asked:FnOk gl Tryz.prog 160 ct_S_l2Asked:=
 fnOk (cx:=cx_S_l2Asked) (pl:=pl_S_l2Asked) (dp:=0) (ok0_of tabOk (by unfold ArrOk;kernel_rfl) mix ⟨ok_S_l1Good,ok_S_l2Hunks,trivial⟩ trivial) Tryz.func160 (by kernel_rfl) (by kernel_rfl) (by kernel_rfl)
  (by rw[show loopsOf (bodyOf Tryz.f160)=[] from by kernel_rfl];exact trivial) (fun x=>ef_S_l2Asked x.1 x.2.1)
noncomputable def sh_S_l2Patch_4:List Sh:=mkSh 37 [(0,.val S_string .b),(5,.val S_string (.row .b)),(6,.val (.int .i64) .b),(9,.val S_impl_Hunk .b),(10,.val (.int .i64) .b),(11,.val (.int .i64) .b)]
noncomputable def o_S_l2Patch_4:List Out:=[⟨.exit 0,⟨[],[0,5,6],[]⟩,mkSh 37 [(0,.val S_string .b),(5,.val S_string (.row .b)),(6,.val (.int .i64) .b)]⟩]
noncomputable def b_S_l2Patch_4 (t0:PV S_string)(t5:PV S_string)(t6:PV (.int .i64))(t9:PV S_impl_Hunk)(t10:PV (.int .i64))(t11:PV (.int .i64)):Option ((PV S_string×PV S_string×PV (.int .i64)×PV S_impl_Hunk×PV (.int .i64)×PV (.int .i64)×Unit)⊕((PV S_string×PV S_string×PV (.int .i64)×Unit))):=bif (decide (t11<t10)) then bif inB t11 t9.length then bif cutB t6 ((t9.getD t11.toNat (dflt Y_impl_Hunk)).1) t0.length then bif roomB (t5.length+(cutL t6 ((t9.getD t11.toNat (dflt Y_impl_Hunk)).1) t0).length) then bif roomB ((t5++(cutL t6 ((t9.getD t11.toNat (dflt Y_impl_Hunk)).1) t0)).length+((((t9.getD t11.toNat (dflt Y_impl_Hunk)).2).2).1).length) then some (.inl (t0,((t5++(cutL t6 ((t9.getD t11.toNat (dflt Y_impl_Hunk)).1) t0))++((((t9.getD t11.toNat (dflt Y_impl_Hunk)).2).2).1)),(IntKind.wrap .i64 (((t9.getD t11.toNat (dflt Y_impl_Hunk)).1)+(((t9.getD t11.toNat (dflt Y_impl_Hunk)).2).1))),t9,t10,(IntKind.wrap .i64 (t11+1)),())) else none else none else none else none else some (.inr (t0,t5,t6,()))
noncomputable def w_S_l2Patch_4:PV S_string×PV S_string×PV (.int .i64)×PV S_impl_Hunk×PV (.int .i64)×PV (.int .i64)×Unit→Option ((PV S_string×PV S_string×PV (.int .i64)×Unit)):=fix fun d=>b_S_l2Patch_4 d.1 d.2.1 d.2.2.1 d.2.2.2.1 d.2.2.2.2.1 d.2.2.2.2.2.1
noncomputable def lp_S_l2Patch_4:Lp:=⟨⟨[],[0,5,6,9,10,11],[]⟩,sh_S_l2Patch_4,o_S_l2Patch_4,fun d=>b_S_l2Patch_4 d.1 d.2.1 d.2.2.1 d.2.2.2.1 d.2.2.2.2.1 d.2.2.2.2.2.1⟩
noncomputable def pl_S_l2Patch:Plan:=⟨[],[(4,lp_S_l2Patch_4)],0,0⟩
noncomputable def f_S_l2Patch (t0:PV S_string)(t1:PV S_impl_Hunk):Option (PVs [S_string]×PVs []):=(w_S_l2Patch_4 (t0,[],0,t1,(t1.length:Int),0,())).bind fun l2=>bif cutB l2.2.2.1 (l2.1.length:Int) l2.1.length then bif roomB (l2.2.1.length+(cutL l2.2.2.1 (l2.1.length:Int) l2.1).length) then some (((l2.2.1++(cutL l2.2.2.1 (l2.1.length:Int) l2.1)),()),()) else none else none
noncomputable def ct_S_l2Patch:Ct:=⟨[(.bor,S_string),(.bor,S_impl_Hunk)],[(S_string,(.row .b))],fun x=>f_S_l2Patch x.1 x.2.1⟩
noncomputable def cx_S_l2Patch:Cx:=⟨tab,arrs,[],[],gl,[]⟩
theorem eb_S_l2Patch_4 (t0:PV S_string)(t5:PV S_string)(t6:PV (.int .i64))(t9:PV S_impl_Hunk)(t10:PV (.int .i64))(t11:PV (.int .i64)):denK cx_S_l2Patch (rcN cx_S_l2Patch 0) pl_S_l2Patch 0 ((loopsOf (bodyOf Tryz.f161)).getD 0 .skip) (fillS sh_S_l2Patch_4 (t0,t5,t6,t9,t10,t11,())) (roundK 0 lp_S_l2Patch_4)=b_S_l2Patch_4 t0 t5 t6 t9 t10 t11:=by kernel_rfl
theorem ef_S_l2Patch (t0:PV S_string)(t1:PV S_impl_Hunk):denF cx_S_l2Patch 0 pl_S_l2Patch Tryz.f161.ntmps (bodyOf Tryz.f161) Tryz.f161.results.toList [(.bor,S_string),(.bor,S_impl_Hunk)] [(S_string,(.row .b))] (t0,t1,())=f_S_l2Patch t0 t1:=by kernel_rfl
theorem ok_S_l2Patch:FnOk gl Tryz.prog 161 ct_S_l2Patch:=
 fnOk (cx:=cx_S_l2Patch) (pl:=pl_S_l2Patch) (dp:=0) (ok0_of tabOk (by unfold ArrOk;kernel_rfl) mix trivial trivial) Tryz.func161 (by kernel_rfl) (by kernel_rfl) (by kernel_rfl)
  (by rw[show loopsOf (bodyOf Tryz.f161)=[((loopsOf (bodyOf Tryz.f161)).getD 0 .skip)] from by kernel_rfl];exact⟨(by rw[show lookup pl_S_l2Patch.loops (firstId ((loopsOf (bodyOf Tryz.f161)).getD 0 .skip))=some lp_S_l2Patch_4 from by kernel_rfl];exact fun d z h=>(eb_S_l2Patch_4 d.1 d.2.1 d.2.2.1 d.2.2.2.1 d.2.2.2.2.1 d.2.2.2.2.2.1).trans h),trivial⟩) (fun x=>ef_S_l2Patch x.1 x.2.1)
noncomputable def pl_S_Patch:Plan:=⟨[],[],0,0⟩
noncomputable def f_S_Patch (t0:PV S_string)(t1:PV S_impl_Hunk):Option (PVs [S_string,.bool]×PVs []):=(f_S_l2Asked t0 t1).bind fun r4=>bif (!r4.1.1) then some (([],false,()),()) else(f_S_l2Patch t0 t1).bind fun r6=>(f_S_l1Good r6.1.1).bind fun r10=>bif (!r10.1.1) then some (([],false,()),()) else some ((r6.1.1,true,()),())
noncomputable def ct_S_Patch:Ct:=⟨[(.bor,S_string),(.bor,S_impl_Hunk)],[(S_string,(.row .b)),(.bool,.b)],fun x=>f_S_Patch x.1 x.2.1⟩
noncomputable def cx_S_Patch:Cx:=⟨tab,arrs,[(158,ct_S_l1Good),(160,ct_S_l2Asked),(161,ct_S_l2Patch)],[],gl,[]⟩
theorem ef_S_Patch (t0:PV S_string)(t1:PV S_impl_Hunk):denF cx_S_Patch 0 pl_S_Patch Tryz.f93.ntmps (bodyOf Tryz.f93) Tryz.f93.results.toList [(.bor,S_string),(.bor,S_impl_Hunk)] [(S_string,(.row .b)),(.bool,.b)] (t0,t1,())=f_S_Patch t0 t1:=by kernel_rfl
theorem ok_S_Patch:FnOk gl Tryz.prog 93 ct_S_Patch:=
 fnOk (cx:=cx_S_Patch) (pl:=pl_S_Patch) (dp:=0) (ok0_of tabOk (by unfold ArrOk;kernel_rfl) mix ⟨ok_S_l1Good,ok_S_l2Asked,ok_S_l2Patch,trivial⟩ trivial) Tryz.func93 (by kernel_rfl) (by kernel_rfl) (by kernel_rfl)
  (by rw[show loopsOf (bodyOf Tryz.f93)=[] from by kernel_rfl];exact trivial) (fun x=>ef_S_Patch x.1 x.2.1)
noncomputable def pl_S_l1Most:Plan:=⟨[],[],0,0⟩
noncomputable def f_S_l1Most (t0:PV (.int .i64))(t1:PV (.int .i64)):Option (PVs [(.int .i64)]×PVs []):=bif (decide (t0>t1)) then some ((t0,()),()) else some ((t1,()),())
noncomputable def ct_S_l1Most:Ct:=⟨[(.bor,(.int .i64)),(.bor,(.int .i64))],[((.int .i64),.b)],fun x=>f_S_l1Most x.1 x.2.1⟩
noncomputable def cx_S_l1Most:Cx:=⟨tab,arrs,[],[],gl,[]⟩
theorem ef_S_l1Most (t0:PV (.int .i64))(t1:PV (.int .i64)):denF cx_S_l1Most 0 pl_S_l1Most Tryz.f238.ntmps (bodyOf Tryz.f238) Tryz.f238.results.toList [(.bor,(.int .i64)),(.bor,(.int .i64))] [((.int .i64),.b)] (t0,t1,())=f_S_l1Most t0 t1:=by kernel_rfl
theorem ok_S_l1Most:FnOk gl Tryz.prog 238 ct_S_l1Most:=
 fnOk (cx:=cx_S_l1Most) (pl:=pl_S_l1Most) (dp:=0) (ok0_of tabOk (by unfold ArrOk;kernel_rfl) mix trivial trivial) Tryz.func238 (by kernel_rfl) (by kernel_rfl) (by kernel_rfl)
  (by rw[show loopsOf (bodyOf Tryz.f238)=[] from by kernel_rfl];exact trivial) (fun x=>ef_S_l1Most x.1 x.2.1)
noncomputable def sh_S_l6Rows_3:List Sh:=mkSh 22 [(0,.val (.int .i64) .b),(5,.val S_impl_Row (.row (.pr .b (.pr .b .b)))),(8,.val S_string .b),(9,.val (.int .i64) .b),(10,.val (.int .i64) .b)]
noncomputable def o_S_l6Rows_3:List Out:=[⟨.exit 0,⟨[],[5],[]⟩,mkSh 22 [(5,.val S_impl_Row (.row (.pr .b (.pr .b .b))))]⟩]
noncomputable def b_S_l6Rows_3 (t0:PV (.int .i64))(t5:PV S_impl_Row)(t8:PV S_string)(t9:PV (.int .i64))(t10:PV (.int .i64)):Option ((PV (.int .i64)×PV S_impl_Row×PV S_string×PV (.int .i64)×PV (.int .i64)×Unit)⊕((PV S_impl_Row×Unit))):=bif (decide (t10<t9)) then bif inB t10 t8.length then bif roomB (t5.length+[(t0,((t8.getD t10.toNat []),()))].length) then some (.inl (t0,(t5++[(t0,((t8.getD t10.toNat []),()))]),t8,t9,(IntKind.wrap .i64 (t10+1)),())) else none else none else some (.inr (t5,()))
noncomputable def w_S_l6Rows_3:PV (.int .i64)×PV S_impl_Row×PV S_string×PV (.int .i64)×PV (.int .i64)×Unit→Option ((PV S_impl_Row×Unit)):=fix fun d=>b_S_l6Rows_3 d.1 d.2.1 d.2.2.1 d.2.2.2.1 d.2.2.2.2.1
noncomputable def lp_S_l6Rows_3:Lp:=⟨⟨[],[0,5,8,9,10],[]⟩,sh_S_l6Rows_3,o_S_l6Rows_3,fun d=>b_S_l6Rows_3 d.1 d.2.1 d.2.2.1 d.2.2.2.1 d.2.2.2.2.1⟩
noncomputable def pl_S_l6Rows:Plan:=⟨[],[(3,lp_S_l6Rows_3)],0,0⟩
noncomputable def f_S_l6Rows (t0:PV (.int .i64))(t1:PV S_string):Option (PVs [S_impl_Row]×PVs []):=(w_S_l6Rows_3 (t0,[],t1,(t1.length:Int),0,())).bind fun l2=>some ((l2.1,()),())
noncomputable def ct_S_l6Rows:Ct:=⟨[(.bor,(.int .i64)),(.bor,S_string)],[(S_impl_Row,(.row (.pr .b (.pr .b .b))))],fun x=>f_S_l6Rows x.1 x.2.1⟩
noncomputable def cx_S_l6Rows:Cx:=⟨tab,arrs,[],[],gl,[]⟩
theorem eb_S_l6Rows_3 (t0:PV (.int .i64))(t5:PV S_impl_Row)(t8:PV S_string)(t9:PV (.int .i64))(t10:PV (.int .i64)):denK cx_S_l6Rows (rcN cx_S_l6Rows 0) pl_S_l6Rows 0 ((loopsOf (bodyOf Tryz.f239)).getD 0 .skip) (fillS sh_S_l6Rows_3 (t0,t5,t8,t9,t10,())) (roundK 0 lp_S_l6Rows_3)=b_S_l6Rows_3 t0 t5 t8 t9 t10:=by kernel_rfl
theorem ef_S_l6Rows (t0:PV (.int .i64))(t1:PV S_string):denF cx_S_l6Rows 0 pl_S_l6Rows Tryz.f239.ntmps (bodyOf Tryz.f239) Tryz.f239.results.toList [(.bor,(.int .i64)),(.bor,S_string)] [(S_impl_Row,(.row (.pr .b (.pr .b .b))))] (t0,t1,())=f_S_l6Rows t0 t1:=by kernel_rfl
theorem ok_S_l6Rows:FnOk gl Tryz.prog 239 ct_S_l6Rows:=
 fnOk (cx:=cx_S_l6Rows) (pl:=pl_S_l6Rows) (dp:=0) (ok0_of tabOk (by unfold ArrOk;kernel_rfl) mix trivial trivial) Tryz.func239 (by kernel_rfl) (by kernel_rfl) (by kernel_rfl)
  (by rw[show loopsOf (bodyOf Tryz.f239)=[((loopsOf (bodyOf Tryz.f239)).getD 0 .skip)] from by kernel_rfl];exact⟨(by rw[show lookup pl_S_l6Rows.loops (firstId ((loopsOf (bodyOf Tryz.f239)).getD 0 .skip))=some lp_S_l6Rows_3 from by kernel_rfl];exact fun d z h=>(eb_S_l6Rows_3 d.1 d.2.1 d.2.2.1 d.2.2.2.1 d.2.2.2.2.1).trans h),trivial⟩) (fun x=>ef_S_l6Rows x.1 x.2.1)
noncomputable def sh_S_l6One_6:List Sh:=mkSh 98 [(0,.val S_string .b),(2,.val (.int .i64) .b),(8,.var Y_impl_Group (.pr .b (.pr .b (.pr (.row (.pr .b (.pr .b .b))) .b)))),(10,.var Y_impl_Hunk .b),(11,.var Y_impl_Group (.pr .b (.pr .b (.pr (.row (.pr .b (.pr .b .b))) .b)))),(12,.val (.int .i64) .b),(35,.val S_impl_Hunk .b),(36,.val (.int .i64) .b),(37,.val (.int .i64) .b)]
noncomputable def o_S_l6One_6:List Out:=[⟨.exit 0,⟨[],[0,2,8,10,11,12],[]⟩,mkSh 98 [(0,.val S_string .b),(2,.val (.int .i64) .b),(8,.var Y_impl_Group (.pr .b (.pr .b (.pr (.row (.pr .b (.pr .b .b))) .b)))),(10,.var Y_impl_Hunk .b),(11,.var Y_impl_Group (.pr .b (.pr .b (.pr (.row (.pr .b (.pr .b .b))) .b)))),(12,.val (.int .i64) .b)]⟩]
noncomputable def b_S_l6One_6 (t0:PV S_string)(t2:PV (.int .i64))(t8:PV Y_impl_Group)(t10:PV Y_impl_Hunk)(t11:PV Y_impl_Group)(t12:PV (.int .i64))(t35:PV S_impl_Hunk)(t36:PV (.int .i64))(t37:PV (.int .i64)):Option ((PV S_string×PV (.int .i64)×PV Y_impl_Group×PV Y_impl_Hunk×PV Y_impl_Group×PV (.int .i64)×PV S_impl_Hunk×PV (.int .i64)×PV (.int .i64)×Unit)⊕((PV S_string×PV (.int .i64)×PV Y_impl_Group×PV Y_impl_Hunk×PV Y_impl_Group×PV (.int .i64)×Unit))):=bif (decide (t37<t36)) then bif inB t37 t35.length then bif cutB t12 ((t35.getD t37.toNat (dflt Y_impl_Hunk)).1) t0.length then(f_S_l6Rows 1 (cutL t12 ((t35.getD t37.toNat (dflt Y_impl_Hunk)).1) t0)).bind fun r10=>bif roomB (t11.2.2.1.length+r10.1.1.length) then bif cutB ((t35.getD t37.toNat (dflt Y_impl_Hunk)).1) (IntKind.wrap .i64 (((t35.getD t37.toNat (dflt Y_impl_Hunk)).1)+(((t35.getD t37.toNat (dflt Y_impl_Hunk)).2).1))) t0.length then(f_S_l6Rows 2 (cutL ((t35.getD t37.toNat (dflt Y_impl_Hunk)).1) (IntKind.wrap .i64 (((t35.getD t37.toNat (dflt Y_impl_Hunk)).1)+(((t35.getD t37.toNat (dflt Y_impl_Hunk)).2).1))) t0)).bind fun r12=>bif roomB ((t11.2.2.1++r10.1.1).length+r12.1.1.length) then(f_S_l6Rows 3 ((((t35.getD t37.toNat (dflt Y_impl_Hunk)).2).2).1)).bind fun r14=>bif roomB (((t11.2.2.1++r10.1.1)++r12.1.1).length+r14.1.1.length) then some (.inl (t0,t2,t8,t10,(t11.1,(t11.2.1,((((t11.2.2.1++r10.1.1)++r12.1.1)++r14.1.1),t11.2.2.2))),(IntKind.wrap .i64 (((t35.getD t37.toNat (dflt Y_impl_Hunk)).1)+(((t35.getD t37.toNat (dflt Y_impl_Hunk)).2).1))),t35,t36,(IntKind.wrap .i64 (t37+1)),())) else none else none else none else none else none else none else some (.inr (t0,t2,t8,t10,t11,t12,()))
noncomputable def w_S_l6One_6:PV S_string×PV (.int .i64)×PV Y_impl_Group×PV Y_impl_Hunk×PV Y_impl_Group×PV (.int .i64)×PV S_impl_Hunk×PV (.int .i64)×PV (.int .i64)×Unit→Option ((PV S_string×PV (.int .i64)×PV Y_impl_Group×PV Y_impl_Hunk×PV Y_impl_Group×PV (.int .i64)×Unit)):=fix fun d=>b_S_l6One_6 d.1 d.2.1 d.2.2.1 d.2.2.2.1 d.2.2.2.2.1 d.2.2.2.2.2.1 d.2.2.2.2.2.2.1 d.2.2.2.2.2.2.2.1 d.2.2.2.2.2.2.2.2.1
noncomputable def lp_S_l6One_6:Lp:=⟨⟨[],[0,2,8,10,11,12,35,36,37],[]⟩,sh_S_l6One_6,o_S_l6One_6,fun d=>b_S_l6One_6 d.1 d.2.1 d.2.2.1 d.2.2.2.1 d.2.2.2.2.1 d.2.2.2.2.2.1 d.2.2.2.2.2.2.1 d.2.2.2.2.2.2.2.1 d.2.2.2.2.2.2.2.2.1⟩
noncomputable def pl_S_l6One:Plan:=⟨[],[(6,lp_S_l6One_6)],0,0⟩
noncomputable def f_S_l6One (t0:PV S_string)(t1:PV S_impl_Hunk)(t2:PV (.int .i64))(t3:PV (.int .i64)):Option (PVs [Y_impl_Group]×PVs []):=bif inB 0 t1.length then(f_S_l1Most 0 (IntKind.wrap .i64 (((t1.getD ((0:Int).toNat) (dflt Y_impl_Hunk)).1) -t2))).bind fun r2=>bif inB (IntKind.wrap .i64 ((t1.length:Int) -1)) t1.length then(w_S_l6One_6 (t0,t2,(0,(0,(([]:PV S_impl_Row),()))),(t1.getD ((IntKind.wrap .i64 ((t1.length:Int) -1)).toNat) (dflt Y_impl_Hunk)),(r2.1.1,((IntKind.wrap .i64 (r2.1.1+t3)),(([]:PV S_impl_Row),()))),r2.1.1,t1,(t1.length:Int),0,())).bind fun l16=>(f_S_l1Least (l16.1.length:Int) (IntKind.wrap .i64 ((IntKind.wrap .i64 (l16.2.2.2.1.1+l16.2.2.2.1.2.1))+l16.2.1))).bind fun r18=>bif cutB l16.2.2.2.2.2.1 r18.1.1 l16.1.length then(f_S_l6Rows 1 (cutL l16.2.2.2.2.2.1 r18.1.1 l16.1)).bind fun r20=>bif roomB (l16.2.2.2.2.1.2.2.1.length+r20.1.1.length) then some (((l16.2.2.2.2.1.1,(l16.2.2.2.2.1.2.1,((l16.2.2.2.2.1.2.2.1++r20.1.1),l16.2.2.2.2.1.2.2.2))),()),()) else none else none else none else none
noncomputable def ct_S_l6One:Ct:=⟨[(.bor,S_string),(.bor,S_impl_Hunk),(.bor,(.int .i64)),(.bor,(.int .i64))],[(Y_impl_Group,(.pr .b (.pr .b (.pr (.row (.pr .b (.pr .b .b))) .b))))],fun x=>f_S_l6One x.1 x.2.1 x.2.2.1 x.2.2.2.1⟩
noncomputable def cx_S_l6One:Cx:=⟨tab,arrs,[(121,ct_S_l1Least),(238,ct_S_l1Most),(239,ct_S_l6Rows)],[],gl,[]⟩
theorem eb_S_l6One_6 (t0:PV S_string)(t2:PV (.int .i64))(t8:PV Y_impl_Group)(t10:PV Y_impl_Hunk)(t11:PV Y_impl_Group)(t12:PV (.int .i64))(t35:PV S_impl_Hunk)(t36:PV (.int .i64))(t37:PV (.int .i64)):denK cx_S_l6One (rcN cx_S_l6One 0) pl_S_l6One 0 ((loopsOf (bodyOf Tryz.f189)).getD 0 .skip) (fillS sh_S_l6One_6 (t0,t2,t8,t10,t11,t12,t35,t36,t37,())) (roundK 0 lp_S_l6One_6)=b_S_l6One_6 t0 t2 t8 t10 t11 t12 t35 t36 t37:=by kernel_rfl
theorem ef_S_l6One (t0:PV S_string)(t1:PV S_impl_Hunk)(t2:PV (.int .i64))(t3:PV (.int .i64)):denF cx_S_l6One 0 pl_S_l6One Tryz.f189.ntmps (bodyOf Tryz.f189) Tryz.f189.results.toList [(.bor,S_string),(.bor,S_impl_Hunk),(.bor,(.int .i64)),(.bor,(.int .i64))] [(Y_impl_Group,(.pr .b (.pr .b (.pr (.row (.pr .b (.pr .b .b))) .b))))] (t0,t1,t2,t3,())=f_S_l6One t0 t1 t2 t3:=by kernel_rfl
theorem ok_S_l6One:FnOk gl Tryz.prog 189 ct_S_l6One:=
 fnOk (cx:=cx_S_l6One) (pl:=pl_S_l6One) (dp:=0) (ok0_of tabOk (by unfold ArrOk;kernel_rfl) mix ⟨ok_S_l1Least,ok_S_l1Most,ok_S_l6Rows,trivial⟩ trivial) Tryz.func189 (by kernel_rfl) (by kernel_rfl) (by kernel_rfl)
  (by rw[show loopsOf (bodyOf Tryz.f189)=[((loopsOf (bodyOf Tryz.f189)).getD 0 .skip)] from by kernel_rfl];exact⟨(by rw[show lookup pl_S_l6One.loops (firstId ((loopsOf (bodyOf Tryz.f189)).getD 0 .skip))=some lp_S_l6One_6 from by kernel_rfl];exact fun d z h=>(eb_S_l6One_6 d.1 d.2.1 d.2.2.1 d.2.2.2.1 d.2.2.2.2.1 d.2.2.2.2.2.1 d.2.2.2.2.2.2.1 d.2.2.2.2.2.2.2.1 d.2.2.2.2.2.2.2.2.1).trans h),trivial⟩) (fun x=>ef_S_l6One x.1 x.2.1 x.2.2.1 x.2.2.2.1)
noncomputable def sh_S_l6Groups_6:List Sh:=mkSh 80 [(0,.val S_string .b),(1,.val S_impl_Hunk .b),(2,.val (.int .i64) .b),(7,.val S_impl_Group (.row (.pr .b (.pr .b (.pr (.row (.pr .b (.pr .b .b))) .b))))),(8,.val (.int .i64) .b),(9,.val (.int .i64) .b),(10,.val (.int .i64) .b)]
noncomputable def o_S_l6Groups_6:List Out:=[⟨.exit 2,⟨[],[0,1,2,7,8,9,10],[]⟩,mkSh 80 [(0,.val S_string .b),(1,.val S_impl_Hunk .b),(2,.val (.int .i64) .b),(7,.val S_impl_Group (.row (.pr .b (.pr .b (.pr (.row (.pr .b (.pr .b .b))) .b))))),(8,.val (.int .i64) .b),(9,.val (.int .i64) .b),(10,.val (.int .i64) .b)]⟩]
noncomputable def b_S_l6Groups_6 (t0:PV S_string)(t1:PV S_impl_Hunk)(t2:PV (.int .i64))(t7:PV S_impl_Group)(t8:PV (.int .i64))(t9:PV (.int .i64))(t10:PV (.int .i64)):Option ((PV S_string×PV S_impl_Hunk×PV (.int .i64)×PV S_impl_Group×PV (.int .i64)×PV (.int .i64)×PV (.int .i64)×Unit)⊕((PV S_string×PV S_impl_Hunk×PV (.int .i64)×PV S_impl_Group×PV (.int .i64)×PV (.int .i64)×PV (.int .i64)×Unit))):=bif (decide (t10<(t1.length:Int))) then bif inB t10 t1.length then bif inB (IntKind.wrap .i64 (t10 -1)) t1.length then bif inB (IntKind.wrap .i64 (t10 -1)) t1.length then bif (decide ((IntKind.wrap .i64 (((t1.getD t10.toNat (dflt Y_impl_Hunk)).1) -(IntKind.wrap .i64 (((t1.getD ((IntKind.wrap .i64 (t10 -1)).toNat) (dflt Y_impl_Hunk)).1)+(((t1.getD ((IntKind.wrap .i64 (t10 -1)).toNat) (dflt Y_impl_Hunk)).2).1)))))≤(IntKind.wrap .i64 (2*t2)))) then some (.inl (t0,t1,t2,t7,t8,t9,(IntKind.wrap .i64 (t10+1)),())) else some (.inr (t0,t1,t2,t7,t8,t9,t10,())) else none else none else none else some (.inr (t0,t1,t2,t7,t8,t9,t10,()))
noncomputable def w_S_l6Groups_6:PV S_string×PV S_impl_Hunk×PV (.int .i64)×PV S_impl_Group×PV (.int .i64)×PV (.int .i64)×PV (.int .i64)×Unit→Option ((PV S_string×PV S_impl_Hunk×PV (.int .i64)×PV S_impl_Group×PV (.int .i64)×PV (.int .i64)×PV (.int .i64)×Unit)):=fix fun d=>b_S_l6Groups_6 d.1 d.2.1 d.2.2.1 d.2.2.2.1 d.2.2.2.2.1 d.2.2.2.2.2.1 d.2.2.2.2.2.2.1
noncomputable def lp_S_l6Groups_6:Lp:=⟨⟨[],[0,1,2,7,8,9,10],[]⟩,sh_S_l6Groups_6,o_S_l6Groups_6,fun d=>b_S_l6Groups_6 d.1 d.2.1 d.2.2.1 d.2.2.2.1 d.2.2.2.2.1 d.2.2.2.2.2.1 d.2.2.2.2.2.2.1⟩
noncomputable def sh_S_l6Groups_10:List Sh:=mkSh 80 [(0,.val S_string .b),(1,.val S_impl_Hunk .b),(2,.val (.int .i64) .b),(7,.val S_impl_Group (.row (.pr .b (.pr .b (.pr (.row (.pr .b (.pr .b .b))) .b))))),(8,.val (.int .i64) .b),(10,.val (.int .i64) .b),(63,.val S_impl_Hunk .b),(64,.val (.int .i64) .b),(65,.val (.int .i64) .b)]
noncomputable def o_S_l6Groups_10:List Out:=[⟨.exit 4,⟨[],[0,1,2,7,8,10,24,25,26,27,28,29,30,31,32,33,34,35,36,37,38,39,40,41,42,43,44,45],[]⟩,mkSh 80 [(0,.val S_string .b),(1,.val S_impl_Hunk .b),(2,.val (.int .i64) .b),(7,.val S_impl_Group (.row (.pr .b (.pr .b (.pr (.row (.pr .b (.pr .b .b))) .b))))),(8,.val (.int .i64) .b),(10,.val (.int .i64) .b)]⟩]
noncomputable def b_S_l6Groups_10 (t0:PV S_string)(t1:PV S_impl_Hunk)(t2:PV (.int .i64))(t7:PV S_impl_Group)(t8:PV (.int .i64))(t10:PV (.int .i64))(t63:PV S_impl_Hunk)(t64:PV (.int .i64))(t65:PV (.int .i64)):Option ((PV S_string×PV S_impl_Hunk×PV (.int .i64)×PV S_impl_Group×PV (.int .i64)×PV (.int .i64)×PV S_impl_Hunk×PV (.int .i64)×PV (.int .i64)×Unit)⊕((PV S_string×PV S_impl_Hunk×PV (.int .i64)×PV S_impl_Group×PV (.int .i64)×PV (.int .i64)×Unit))):=bif (decide (t65<t64)) then bif inB t65 t63.length then some (.inl (t0,t1,t2,t7,(IntKind.wrap .i64 (t8+(IntKind.wrap .i64 ((((((t63.getD t65.toNat (dflt Y_impl_Hunk)).2).2).1).length:Int) -(((t63.getD t65.toNat (dflt Y_impl_Hunk)).2).1))))),t10,t63,t64,(IntKind.wrap .i64 (t65+1)),())) else none else some (.inr (t0,t1,t2,t7,t8,t10,()))
noncomputable def w_S_l6Groups_10:PV S_string×PV S_impl_Hunk×PV (.int .i64)×PV S_impl_Group×PV (.int .i64)×PV (.int .i64)×PV S_impl_Hunk×PV (.int .i64)×PV (.int .i64)×Unit→Option ((PV S_string×PV S_impl_Hunk×PV (.int .i64)×PV S_impl_Group×PV (.int .i64)×PV (.int .i64)×Unit)):=fix fun d=>b_S_l6Groups_10 d.1 d.2.1 d.2.2.1 d.2.2.2.1 d.2.2.2.2.1 d.2.2.2.2.2.1 d.2.2.2.2.2.2.1 d.2.2.2.2.2.2.2.1 d.2.2.2.2.2.2.2.2.1
noncomputable def lp_S_l6Groups_10:Lp:=⟨⟨[],[0,1,2,7,8,10,24,25,26,27,28,29,30,31,32,33,34,35,36,37,38,39,40,41,42,43,44,45,63,64,65],[]⟩,sh_S_l6Groups_10,o_S_l6Groups_10,fun d=>b_S_l6Groups_10 d.1 d.2.1 d.2.2.1 d.2.2.2.1 d.2.2.2.2.1 d.2.2.2.2.2.1 d.2.2.2.2.2.2.1 d.2.2.2.2.2.2.2.1 d.2.2.2.2.2.2.2.2.1⟩
noncomputable def sh_S_l6Groups_4:List Sh:=mkSh 80 [(0,.val S_string .b),(1,.val S_impl_Hunk .b),(2,.val (.int .i64) .b),(7,.val S_impl_Group (.row (.pr .b (.pr .b (.pr (.row (.pr .b (.pr .b .b))) .b))))),(8,.val (.int .i64) .b),(9,.val (.int .i64) .b)]
noncomputable def o_S_l6Groups_4:List Out:=[⟨.exit 0,⟨[],[7],[]⟩,mkSh 80 [(7,.val S_impl_Group (.row (.pr .b (.pr .b (.pr (.row (.pr .b (.pr .b .b))) .b)))))]⟩]
noncomputable def b_S_l6Groups_4 (t0:PV S_string)(t1:PV S_impl_Hunk)(t2:PV (.int .i64))(t7:PV S_impl_Group)(t8:PV (.int .i64))(t9:PV (.int .i64)):Option ((PV S_string×PV S_impl_Hunk×PV (.int .i64)×PV S_impl_Group×PV (.int .i64)×PV (.int .i64)×Unit)⊕((PV S_impl_Group×Unit))):=bif (decide (t9<(t1.length:Int))) then(w_S_l6Groups_6 (t0,t1,t2,t7,t8,t9,(IntKind.wrap .i64 (t9+1)),())).bind fun l2=>bif cutB l2.2.2.2.2.2.1 l2.2.2.2.2.2.2.1 l2.2.1.length then(f_S_l6One l2.1 (cutL l2.2.2.2.2.2.1 l2.2.2.2.2.2.2.1 l2.2.1) l2.2.2.1 l2.2.2.2.2.1).bind fun r4=>bif roomB (l2.2.2.2.1.length+[r4.1.1].length) then bif cutB l2.2.2.2.2.2.1 l2.2.2.2.2.2.2.1 l2.2.1.length then(w_S_l6Groups_10 (l2.1,l2.2.1,l2.2.2.1,(l2.2.2.2.1++[r4.1.1]),l2.2.2.2.2.1,l2.2.2.2.2.2.2.1,(cutL l2.2.2.2.2.2.1 l2.2.2.2.2.2.2.1 l2.2.1),((cutL l2.2.2.2.2.2.1 l2.2.2.2.2.2.2.1 l2.2.1).length:Int),0,())).bind fun l6=>some (.inl (l6.1,l6.2.1,l6.2.2.1,l6.2.2.2.1,l6.2.2.2.2.1,l6.2.2.2.2.2.1,())) else none else none else none else some (.inr (t7,()))
noncomputable def w_S_l6Groups_4:PV S_string×PV S_impl_Hunk×PV (.int .i64)×PV S_impl_Group×PV (.int .i64)×PV (.int .i64)×Unit→Option ((PV S_impl_Group×Unit)):=fix fun d=>b_S_l6Groups_4 d.1 d.2.1 d.2.2.1 d.2.2.2.1 d.2.2.2.2.1 d.2.2.2.2.2.1
noncomputable def lp_S_l6Groups_4:Lp:=⟨⟨[],[0,1,2,7,8,9,24,25,26,27,28,29,30,31,32,33,34,35,36,37,38,39,40,41,42,43,44,45],[]⟩,sh_S_l6Groups_4,o_S_l6Groups_4,fun d=>b_S_l6Groups_4 d.1 d.2.1 d.2.2.1 d.2.2.2.1 d.2.2.2.2.1 d.2.2.2.2.2.1⟩
noncomputable def pl_S_l6Groups:Plan:=⟨[],[(6,lp_S_l6Groups_6),(10,lp_S_l6Groups_10),(4,lp_S_l6Groups_4)],0,0⟩
noncomputable def f_S_l6Groups (t0:PV S_string)(t1:PV S_impl_Hunk)(t2:PV (.int .i64)):Option (PVs [S_impl_Group]×PVs []):=(w_S_l6Groups_4 (t0,t1,t2,[],0,0,())).bind fun l8=>some ((l8.1,()),())
noncomputable def ct_S_l6Groups:Ct:=⟨[(.bor,S_string),(.bor,S_impl_Hunk),(.bor,(.int .i64))],[(S_impl_Group,(.row (.pr .b (.pr .b (.pr (.row (.pr .b (.pr .b .b))) .b)))))],fun x=>f_S_l6Groups x.1 x.2.1 x.2.2.1⟩
noncomputable def cx_S_l6Groups:Cx:=⟨tab,arrs,[(189,ct_S_l6One)],[],gl,[]⟩
theorem eb_S_l6Groups_4 (t0:PV S_string)(t1:PV S_impl_Hunk)(t2:PV (.int .i64))(t7:PV S_impl_Group)(t8:PV (.int .i64))(t9:PV (.int .i64)):denK cx_S_l6Groups (rcN cx_S_l6Groups 0) pl_S_l6Groups 0 ((loopsOf (bodyOf Tryz.f115)).getD 0 .skip) (fillS sh_S_l6Groups_4 (t0,t1,t2,t7,t8,t9,())) (roundK 0 lp_S_l6Groups_4)=b_S_l6Groups_4 t0 t1 t2 t7 t8 t9:=by kernel_rfl
theorem eb_S_l6Groups_6 (t0:PV S_string)(t1:PV S_impl_Hunk)(t2:PV (.int .i64))(t7:PV S_impl_Group)(t8:PV (.int .i64))(t9:PV (.int .i64))(t10:PV (.int .i64)):denK cx_S_l6Groups (rcN cx_S_l6Groups 0) pl_S_l6Groups 0 ((loopsOf (bodyOf Tryz.f115)).getD 1 .skip) (fillS sh_S_l6Groups_6 (t0,t1,t2,t7,t8,t9,t10,())) (roundK 0 lp_S_l6Groups_6)=b_S_l6Groups_6 t0 t1 t2 t7 t8 t9 t10:=by kernel_rfl
theorem eb_S_l6Groups_10 (t0:PV S_string)(t1:PV S_impl_Hunk)(t2:PV (.int .i64))(t7:PV S_impl_Group)(t8:PV (.int .i64))(t10:PV (.int .i64))(t63:PV S_impl_Hunk)(t64:PV (.int .i64))(t65:PV (.int .i64)):denK cx_S_l6Groups (rcN cx_S_l6Groups 0) pl_S_l6Groups 0 ((loopsOf (bodyOf Tryz.f115)).getD 2 .skip) (fillS sh_S_l6Groups_10 (t0,t1,t2,t7,t8,t10,t63,t64,t65,())) (roundK 0 lp_S_l6Groups_10)=b_S_l6Groups_10 t0 t1 t2 t7 t8 t10 t63 t64 t65:=by kernel_rfl
theorem ef_S_l6Groups (t0:PV S_string)(t1:PV S_impl_Hunk)(t2:PV (.int .i64)):denF cx_S_l6Groups 0 pl_S_l6Groups Tryz.f115.ntmps (bodyOf Tryz.f115) Tryz.f115.results.toList [(.bor,S_string),(.bor,S_impl_Hunk),(.bor,(.int .i64))] [(S_impl_Group,(.row (.pr .b (.pr .b (.pr (.row (.pr .b (.pr .b .b))) .b)))))] (t0,t1,t2,())=f_S_l6Groups t0 t1 t2:=by kernel_rfl
theorem ok_S_l6Groups:FnOk gl Tryz.prog 115 ct_S_l6Groups:=
 fnOk (cx:=cx_S_l6Groups) (pl:=pl_S_l6Groups) (dp:=0) (ok0_of tabOk (by unfold ArrOk;kernel_rfl) mix ⟨ok_S_l6One,trivial⟩ trivial) Tryz.func115 (by kernel_rfl) (by kernel_rfl) (by kernel_rfl)
  (by rw[show loopsOf (bodyOf Tryz.f115)=[((loopsOf (bodyOf Tryz.f115)).getD 0 .skip),((loopsOf (bodyOf Tryz.f115)).getD 1 .skip),((loopsOf (bodyOf Tryz.f115)).getD 2 .skip)] from by kernel_rfl];exact⟨(by rw[show lookup pl_S_l6Groups.loops (firstId ((loopsOf (bodyOf Tryz.f115)).getD 0 .skip))=some lp_S_l6Groups_4 from by kernel_rfl];exact fun d z h=>(eb_S_l6Groups_4 d.1 d.2.1 d.2.2.1 d.2.2.2.1 d.2.2.2.2.1 d.2.2.2.2.2.1).trans h),(by rw[show lookup pl_S_l6Groups.loops (firstId ((loopsOf (bodyOf Tryz.f115)).getD 1 .skip))=some lp_S_l6Groups_6 from by kernel_rfl];exact fun d z h=>(eb_S_l6Groups_6 d.1 d.2.1 d.2.2.1 d.2.2.2.1 d.2.2.2.2.1 d.2.2.2.2.2.1 d.2.2.2.2.2.2.1).trans h),(by rw[show lookup pl_S_l6Groups.loops (firstId ((loopsOf (bodyOf Tryz.f115)).getD 2 .skip))=some lp_S_l6Groups_10 from by kernel_rfl];exact fun d z h=>(eb_S_l6Groups_10 d.1 d.2.1 d.2.2.1 d.2.2.2.1 d.2.2.2.2.1 d.2.2.2.2.2.1 d.2.2.2.2.2.2.1 d.2.2.2.2.2.2.2.1 d.2.2.2.2.2.2.2.2.1).trans h),trivial⟩) (fun x=>ef_S_l6Groups x.1 x.2.1 x.2.2.1)
noncomputable def o_S_GroupsOf_3:List Out:=[⟨.normal,⟨[],[0,1,2,22],[]⟩,mkSh 27 [(0,.val S_string .b),(1,.val S_impl_Hunk .b),(2,.val (.int .i64) .b),(22,.val .bool .b)]⟩]
noncomputable def pl_S_GroupsOf:Plan:=⟨[(3,o_S_GroupsOf_3)],[],0,0⟩
noncomputable def f_S_GroupsOf (t0:PV S_string)(t1:PV S_impl_Hunk)(t2:PV (.int .i64)):Option (PVs [S_impl_Group,.bool]×PVs []):=(f_S_Patch t0 t1).bind fun r7=>((bif (!r7.1.2.1) then some (t0,t1,t2,true,()) else(f_S_l1In t2 0 20).bind fun r8=>some (t0,t1,t2,(!r8.1.1),()):Option ((PV S_string×PV S_impl_Hunk×PV (.int .i64)×PV .bool×Unit)))).bind fun j9=>bif j9.2.2.2.1 then some (([],false,()),()) else(f_S_l6Groups j9.1 j9.2.1 j9.2.2.1).bind fun r10=>some ((r10.1.1,true,()),())
noncomputable def ct_S_GroupsOf:Ct:=⟨[(.bor,S_string),(.bor,S_impl_Hunk),(.bor,(.int .i64))],[(S_impl_Group,(.row (.pr .b (.pr .b (.pr (.row (.pr .b (.pr .b .b))) .b))))),(.bool,.b)],fun x=>f_S_GroupsOf x.1 x.2.1 x.2.2.1⟩
noncomputable def cx_S_GroupsOf:Cx:=⟨tab,arrs,[(93,ct_S_Patch),(114,ct_S_l1In),(115,ct_S_l6Groups)],[],gl,[]⟩
theorem ef_S_GroupsOf (t0:PV S_string)(t1:PV S_impl_Hunk)(t2:PV (.int .i64)):denF cx_S_GroupsOf 0 pl_S_GroupsOf Tryz.f56.ntmps (bodyOf Tryz.f56) Tryz.f56.results.toList [(.bor,S_string),(.bor,S_impl_Hunk),(.bor,(.int .i64))] [(S_impl_Group,(.row (.pr .b (.pr .b (.pr (.row (.pr .b (.pr .b .b))) .b))))),(.bool,.b)] (t0,t1,t2,())=f_S_GroupsOf t0 t1 t2:=by kernel_rfl
theorem ok_S_GroupsOf:FnOk gl Tryz.prog 56 ct_S_GroupsOf:=
 fnOk (cx:=cx_S_GroupsOf) (pl:=pl_S_GroupsOf) (dp:=0) (ok0_of tabOk (by unfold ArrOk;kernel_rfl) mix ⟨ok_S_Patch,ok_S_l1In,ok_S_l6Groups,trivial⟩ trivial) Tryz.func56 (by kernel_rfl) (by kernel_rfl) (by kernel_rfl)
  (by rw[show loopsOf (bodyOf Tryz.f56)=[] from by kernel_rfl];exact trivial) (fun x=>ef_S_GroupsOf x.1 x.2.1 x.2.2.1)
noncomputable def pl_S_l1Cur_of:Plan:=⟨[],[],0,1⟩
noncomputable def f_S_l1Cur_of (t0:PV Y_spec_l1Cur)(t1:PV S_string):Option (PVs [.str]×PVs [Y_spec_l1Cur]):=(f_S_l1Cur_pick t0 (t1.length:Int)).bind fun r1=>bif inB r1.1.1 t1.length then some (((t1.getD r1.1.1.toNat []),()),(r1.2.1,())) else none
noncomputable def ct_S_l1Cur_of:Ct:=⟨[(.ptr,Y_spec_l1Cur),(.bor,S_string)],[(.str,.b)],fun x=>f_S_l1Cur_of x.1 x.2.1⟩
noncomputable def cx_S_l1Cur_of:Cx:=⟨tab,arrs,[(61,ct_S_l1Cur_pick)],[],gl,[]⟩
theorem ef_S_l1Cur_of (t0:PV Y_spec_l1Cur)(t1:PV S_string):denF cx_S_l1Cur_of 0 pl_S_l1Cur_of Tryz.f78.ntmps (bodyOf Tryz.f78) Tryz.f78.results.toList [(.ptr,Y_spec_l1Cur),(.bor,S_string)] [(.str,.b)] (t0,t1,())=f_S_l1Cur_of t0 t1:=by kernel_rfl
theorem ok_S_l1Cur_of:FnOk gl Tryz.prog 78 ct_S_l1Cur_of:=
 fnOk (cx:=cx_S_l1Cur_of) (pl:=pl_S_l1Cur_of) (dp:=0) (ok0_of tabOk (by unfold ArrOk;kernel_rfl) mix ⟨ok_S_l1Cur_pick,trivial⟩ trivial) Tryz.func78 (by kernel_rfl) (by kernel_rfl) (by kernel_rfl)
  (by rw[show loopsOf (bodyOf Tryz.f78)=[] from by kernel_rfl];exact trivial) (fun x=>ef_S_l1Cur_of x.1 x.2.1)
noncomputable def pl_S_l1OwnT:Plan:=⟨[],[],0,0⟩
noncomputable def f_S_l1OwnT (t0:PV S_string):Option (PVs [S_string]×PVs []):=bif roomB (([]:PV S_string).length+t0.length) then some (((([]:PV S_string)++t0),()),()) else none
noncomputable def ct_S_l1OwnT:Ct:=⟨[(.bor,S_string)],[(S_string,(.row .b))],fun x=>f_S_l1OwnT x.1⟩
noncomputable def cx_S_l1OwnT:Cx:=⟨tab,arrs,[],[],gl,[]⟩
theorem ef_S_l1OwnT (t0:PV S_string):denF cx_S_l1OwnT 0 pl_S_l1OwnT Tryz.f83.ntmps (bodyOf Tryz.f83) Tryz.f83.results.toList [(.bor,S_string)] [(S_string,(.row .b))] (t0,())=f_S_l1OwnT t0:=by kernel_rfl
theorem ok_S_l1OwnT:FnOk gl Tryz.prog 83 ct_S_l1OwnT:=
 fnOk (cx:=cx_S_l1OwnT) (pl:=pl_S_l1OwnT) (dp:=0) (ok0_of tabOk (by unfold ArrOk;kernel_rfl) mix trivial trivial) Tryz.func83 (by kernel_rfl) (by kernel_rfl) (by kernel_rfl)
  (by rw[show loopsOf (bodyOf Tryz.f83)=[] from by kernel_rfl];exact trivial) (fun x=>ef_S_l1OwnT x.1)
noncomputable def pl_S_l1Plain:Plan:=⟨[],[],0,0⟩
noncomputable def f_S_l1Plain (t0:PV .str):Option (PVs [.str]×PVs []):=(f_S_l1Ends t0).bind fun r4=>bif r4.1.1 then bif cutB 0 (IntKind.wrap .i64 ((t0.length:Int) -1)) t0.length then some (((cutL 0 (IntKind.wrap .i64 ((t0.length:Int) -1)) t0),()),()) else none else some ((t0,()),())
noncomputable def ct_S_l1Plain:Ct:=⟨[(.bor,.str)],[(.str,.b)],fun x=>f_S_l1Plain x.1⟩
noncomputable def cx_S_l1Plain:Cx:=⟨tab,arrs,[(128,ct_S_l1Ends)],[],gl,[]⟩
theorem ef_S_l1Plain (t0:PV .str):denF cx_S_l1Plain 0 pl_S_l1Plain Tryz.f81.ntmps (bodyOf Tryz.f81) Tryz.f81.results.toList [(.bor,.str)] [(.str,.b)] (t0,())=f_S_l1Plain t0:=by kernel_rfl
theorem ok_S_l1Plain:FnOk gl Tryz.prog 81 ct_S_l1Plain:=
 fnOk (cx:=cx_S_l1Plain) (pl:=pl_S_l1Plain) (dp:=0) (ok0_of tabOk (by unfold ArrOk;kernel_rfl) mix ⟨ok_S_l1Ends,trivial⟩ trivial) Tryz.func81 (by kernel_rfl) (by kernel_rfl) (by kernel_rfl)
  (by rw[show loopsOf (bodyOf Tryz.f81)=[] from by kernel_rfl];exact trivial) (fun x=>ef_S_l1Plain x.1)
noncomputable def o_S_l1Cur_other_14:List Out:=[⟨.normal,⟨[],[0,5,6,7,29,30,72,83,84],[]⟩,mkSh 120 [(0,.var Y_spec_l1Cur .b),(1,.addr ⟨0,[],0,0⟩),(6,.val S_string (.row .b)),(7,.val (.int .i64) .b),(8,.val (.int .i64) .b),(73,.val .bool .b)]⟩]
noncomputable def o_S_l1Cur_other_8:List Out:=[⟨.normal,⟨[],[0,5,6,7,31,67,68,69,70,71,83,84],[]⟩,mkSh 120 [(0,.var Y_spec_l1Cur .b),(1,.addr ⟨0,[],0,0⟩),(6,.val S_string (.row .b)),(7,.val (.int .i64) .b),(8,.val (.int .i64) .b),(32,.val .bool .b)]⟩]
noncomputable def o_S_l1Cur_other_4:List Out:=[⟨.normal,⟨[],[0,5,6,29,30,67,68,69,70,71,83,84],[]⟩,mkSh 120 [(0,.var Y_spec_l1Cur .b),(1,.addr ⟨0,[],0,0⟩),(6,.val S_string (.row .b)),(7,.val (.int .i64) .b)]⟩]
noncomputable def o_S_l1Cur_other_16:List Out:=[⟨.normal,⟨[],[5,85],[]⟩,mkSh 120 [(0,.var Y_spec_l1Cur .b),(6,.val S_string (.row .b)),(86,.val .bool .b)]⟩]
noncomputable def o_S_l1Cur_other_21:List Out:=[⟨.normal,⟨[],[5],[]⟩,mkSh 120 [(0,.var Y_spec_l1Cur .b),(6,.val S_string (.row .b))]⟩]
noncomputable def sh_S_l1Cur_other_3:List Sh:=mkSh 120 [(0,.var Y_spec_l1Cur .b),(1,.addr ⟨0,[],0,0⟩),(6,.val S_string (.row .b)),(7,.val (.int .i64) .b)]
noncomputable def o_S_l1Cur_other_3:List Out:=[⟨.exit 0,⟨[],[0,5,83,84],[]⟩,mkSh 120 [(0,.var Y_spec_l1Cur .b),(1,.addr ⟨0,[],0,0⟩),(6,.val S_string (.row .b))]⟩]
noncomputable def b_S_l1Cur_other_3 (t0:PV Y_spec_l1Cur)(t6:PV S_string)(t7:PV (.int .i64)):Option ((PV Y_spec_l1Cur×PV S_string×PV (.int .i64)×Unit)⊕((PV Y_spec_l1Cur×PV S_string×Unit))):=bif (decide (t7>0)) then(((f_S_l1Cur_pick t0 (IntKind.wrap .i64 ((t6.length:Int)+1))).bind fun r6=>(f_S_l1Cur_pick r6.2.1 3).bind fun r8=>bif (r8.1.1==0) then bif (decide (r6.1.1<(t6.length:Int))) then bif cutB 0 r6.1.1 t6.length then(f_S_l1OwnT (cutL 0 r6.1.1 t6)).bind fun r9=>bif cutB (IntKind.wrap .i64 (r6.1.1+1)) (t6.length:Int) t6.length then bif roomB (r9.1.1.length+(cutL (IntKind.wrap .i64 (r6.1.1+1)) (t6.length:Int) t6).length) then some (r8.2.1,(r9.1.1++(cutL (IntKind.wrap .i64 (r6.1.1+1)) (t6.length:Int) t6)),t7,()) else none else none else none else some (r8.2.1,t6,t7,()) else bif (r8.1.1==1) then((bif (decide (r6.1.1<(t6.length:Int))) then bif inB r6.1.1 t6.length then(f_S_l1Ends (t6.getD r6.1.1.toNat [])).bind fun r10=>some (r8.2.1,t6,t7,r6.1.1,r10.1.1,()) else none else some (r8.2.1,t6,t7,r6.1.1,false,()):Option ((PV Y_spec_l1Cur×PV S_string×PV (.int .i64)×PV (.int .i64)×PV .bool×Unit)))).bind fun j11=>bif j11.2.2.2.2.1 then(f_S_l1Cur_line j11.1).bind fun r12=>bif decide (r12.1.1.length+[10].length≤1099511627776) then bif inB j11.2.2.2.1 j11.2.1.length then some (r12.2.1,(j11.2.1.set j11.2.2.2.1.toNat (r12.1.1++[10])),j11.2.2.1,()) else none else none else some (j11.1,j11.2.1,j11.2.2.1,()) else((bif (decide (r6.1.1<(t6.length:Int))) then some (r8.2.1,t6,t7,r6.1.1,true,()) else(f_S_l1Whole t6).bind fun r13=>some (r8.2.1,t6,t7,r6.1.1,r13.1.1,()):Option ((PV Y_spec_l1Cur×PV S_string×PV (.int .i64)×PV (.int .i64)×PV .bool×Unit)))).bind fun j14=>bif j14.2.2.2.2.1 then bif cutB 0 j14.2.2.2.1 j14.2.1.length then(f_S_l1OwnT (cutL 0 j14.2.2.2.1 j14.2.1)).bind fun r15=>(f_S_l1Cur_line j14.1).bind fun r16=>bif decide (r16.1.1.length+[10].length≤1099511627776) then bif roomB (r15.1.1.length+[(r16.1.1++[10])].length) then bif cutB j14.2.2.2.1 (j14.2.1.length:Int) j14.2.1.length then bif roomB ((r15.1.1++[(r16.1.1++[10])]).length+(cutL j14.2.2.2.1 (j14.2.1.length:Int) j14.2.1).length) then some (r16.2.1,((r15.1.1++[(r16.1.1++[10])])++(cutL j14.2.2.2.1 (j14.2.1.length:Int) j14.2.1)),j14.2.2.1,()) else none else none else none else none else none else some (j14.1,j14.2.1,j14.2.2.1,()):Option ((PV Y_spec_l1Cur×PV S_string×PV (.int .i64)×Unit)))).bind fun j17=>some (.inl (j17.1,j17.2.1,(IntKind.wrap .i64 (j17.2.2.1 -1)),())) else some (.inr (t0,t6,()))
noncomputable def w_S_l1Cur_other_3:PV Y_spec_l1Cur×PV S_string×PV (.int .i64)×Unit→Option ((PV Y_spec_l1Cur×PV S_string×Unit)):=fix fun d=>b_S_l1Cur_other_3 d.1 d.2.1 d.2.2.1
noncomputable def lp_S_l1Cur_other_3:Lp:=⟨⟨[],[0,5,6,29,30,67,68,69,70,71,83,84],[]⟩,sh_S_l1Cur_other_3,o_S_l1Cur_other_3,fun d=>b_S_l1Cur_other_3 d.1 d.2.1 d.2.2.1⟩
noncomputable def pl_S_l1Cur_other:Plan:=⟨[(14,o_S_l1Cur_other_14),(8,o_S_l1Cur_other_8),(4,o_S_l1Cur_other_4),(16,o_S_l1Cur_other_16),(21,o_S_l1Cur_other_21)],[(3,lp_S_l1Cur_other_3)],0,1⟩
noncomputable def f_S_l1Cur_other (t0:PV Y_spec_l1Cur)(t1:PV S_string):Option (PVs [S_string]×PVs [Y_spec_l1Cur]):=(f_S_l1OwnT t1).bind fun r2=>(f_S_l1Cur_pick t0 4).bind fun r20=>(w_S_l1Cur_other_3 (r20.2.1,r2.1.1,r20.1.1,())).bind fun l21=>((((bif (decide ((l21.2.1.length:Int)>0)) then(f_S_l1Cur_one l21.1 6).bind fun r29=>some (r29.2.1,l21.2.1,r29.1.1,()) else some (l21.1,l21.2.1,false,()):Option ((PV Y_spec_l1Cur×PV S_string×PV .bool×Unit)))).bind fun j30=>bif j30.2.2.1 then bif inB (IntKind.wrap .i64 ((j30.2.1.length:Int) -1)) j30.2.1.length then(f_S_l1Plain (j30.2.1.getD ((IntKind.wrap .i64 ((j30.2.1.length:Int) -1)).toNat) [])).bind fun r32=>bif inB (IntKind.wrap .i64 ((j30.2.1.length:Int) -1)) j30.2.1.length then(f_S_l1Ends (j30.2.1.getD ((IntKind.wrap .i64 ((j30.2.1.length:Int) -1)).toNat) [])).bind fun r34=>bif (!r34.1.1) then bif decide (r32.1.1.length+[10].length≤1099511627776) then bif inB (IntKind.wrap .i64 ((j30.2.1.length:Int) -1)) j30.2.1.length then some (j30.1,(j30.2.1.set ((IntKind.wrap .i64 ((j30.2.1.length:Int) -1)).toNat) (r32.1.1++[10])),()) else none else none else bif (!(r32.1.1==[])) then bif inB (IntKind.wrap .i64 ((j30.2.1.length:Int) -1)) j30.2.1.length then some (j30.1,(j30.2.1.set ((IntKind.wrap .i64 ((j30.2.1.length:Int) -1)).toNat) r32.1.1),()) else none else some (j30.1,j30.2.1,()) else none else none else some (j30.1,j30.2.1,()):Option ((PV Y_spec_l1Cur×PV S_string×Unit)))).bind fun j35=>some ((j35.2.1,()),(j35.1,()))
noncomputable def ct_S_l1Cur_other:Ct:=⟨[(.ptr,Y_spec_l1Cur),(.bor,S_string)],[(S_string,.b)],fun x=>f_S_l1Cur_other x.1 x.2.1⟩
noncomputable def cx_S_l1Cur_other:Cx:=⟨tab,arrs,[(61,ct_S_l1Cur_pick),(81,ct_S_l1Plain),(83,ct_S_l1OwnT),(105,ct_S_l1Cur_one),(120,ct_S_l1Cur_line),(122,ct_S_l1Whole),(128,ct_S_l1Ends)],[],gl,[]⟩
theorem eb_S_l1Cur_other_3 (t0:PV Y_spec_l1Cur)(t6:PV S_string)(t7:PV (.int .i64)):denK cx_S_l1Cur_other (rcN cx_S_l1Cur_other 0) pl_S_l1Cur_other 1 ((loopsOf (bodyOf Tryz.f147)).getD 0 .skip) (fillS sh_S_l1Cur_other_3 (t0,t6,t7,())) (roundK 1 lp_S_l1Cur_other_3)=b_S_l1Cur_other_3 t0 t6 t7:=by kernel_rfl
theorem ef_S_l1Cur_other (t0:PV Y_spec_l1Cur)(t1:PV S_string):denF cx_S_l1Cur_other 0 pl_S_l1Cur_other Tryz.f147.ntmps (bodyOf Tryz.f147) Tryz.f147.results.toList [(.ptr,Y_spec_l1Cur),(.bor,S_string)] [(S_string,.b)] (t0,t1,())=f_S_l1Cur_other t0 t1:=by kernel_rfl
theorem ok_S_l1Cur_other:FnOk gl Tryz.prog 147 ct_S_l1Cur_other:=
 fnOk (cx:=cx_S_l1Cur_other) (pl:=pl_S_l1Cur_other) (dp:=0) (ok0_of tabOk (by unfold ArrOk;kernel_rfl) mix ⟨ok_S_l1Cur_pick,ok_S_l1Plain,ok_S_l1OwnT,ok_S_l1Cur_one,ok_S_l1Cur_line,ok_S_l1Whole,ok_S_l1Ends,trivial⟩ trivial) Tryz.func147 (by kernel_rfl) (by kernel_rfl) (by kernel_rfl)
  (by rw[show loopsOf (bodyOf Tryz.f147)=[((loopsOf (bodyOf Tryz.f147)).getD 0 .skip)] from by kernel_rfl];exact⟨(by rw[show lookup pl_S_l1Cur_other.loops (firstId ((loopsOf (bodyOf Tryz.f147)).getD 0 .skip))=some lp_S_l1Cur_other_3 from by kernel_rfl];exact fun d z h=>(eb_S_l1Cur_other_3 d.1 d.2.1 d.2.2.1).trans h),trivial⟩) (fun x=>ef_S_l1Cur_other x.1 x.2.1)
end R
