/- The functions that L_FnExactWaysOf reach, as pure functions, and that the program computes them. -/
import Derived.Test.YtljgmcbpjakecaaGreatDoorL2
import Derived.Test.YtljgmcbpjakecaaGreatDoorL3
import Derived.Test.YtljgmcbpjakecaaGreatDoorChecked
import Derived.KernelRfl
set_option linter.unusedVariables false
open Go Go.Dn Go.Proofs
namespace R
noncomputable section
@[reducible] def zf:Ty:=(.slice 9 .str)
@[reducible] def ql:Ty:=(.slice 4 .bool)
@[reducible] def jbz:Ty:=(.slice 5 (.int .u8))
@[reducible] def qm:Ty:=(.slice 3 (.int .i64))
@[reducible] def xg:Ty:=(.pair (.int .u8) (.pair .str .unit))
@[reducible] def zo:Ty:=(.pair (.int .i64) (.pair .str .unit))
@[reducible] def qc:Ty:=(.slice 216 xg)
@[reducible] def zi:Ty:=(.slice 129 zo)
@[reducible] def qh:Ty:=(.pair (.int .i64) (.pair (.int .i64) (.pair (.int .i64) (.pair zf .unit))))
@[reducible] def qy7:Ty:=(.pair .str (.pair .str (.pair .str (.pair .str (.pair .str (.pair .str .unit))))))
@[reducible] def zn:Ty:=(.slice 184 qh)
@[reducible] def zh:Ty:=(.pair (.int .i64) (.pair (.int .i64) (.pair zi .unit)))
@[reducible] def zl:Ty:=(.slice 68 zh)
@[reducible] def zu:Ty:=(.pair (.int .i64) (.pair (.int .i64) (.pair zf (.pair (.int .i64) (.pair (.int .i64) (.pair zf .unit))))))
@[reducible] def zk:Ty:=(.slice 83 zu)
def tab:List (TypeId×Ty):=[(3,(.int .i64)),(4,.bool),(5,(.int .u8)),(9,.str),(22,jbz),(24,zf),(36,qm),(42,zk),(51,zl),(66,zi),(68,zh),(83,zu),(129,zo),(139,zn),(170,qc),(174,ql),(184,qh),(216,xg),(220,qy7)]
def arrs:List TypeId:=[220]
theorem zo4:jh Tryz.prog tab:=by unfold jh;kernel_rfl
theorem mix:Tryz.prog.follows .mixedOrders=true:=by kernel_rfl
def gs0:List (List UInt8):=[[],[97],[105],[99],[100],[115,47,46,47,47]]
def gl:Glob:=(Glob.both (zn7 Tryz.prog 2) (Glob.both (zsu 1) (Glob.both (zi5 Tryz.prog "strconv.ErrSyntax" 3) (Glob.both (zi5 Tryz.prog "strconv.ErrRange" 4) (zn8 0 gs0)))))
theorem qgq:∀w,gl.ok w->Lib.TabIs Tryz.prog w "internal/strconv.uint64pow10" .u64 Lib.pow10Tab:=λw h=>qyk w h.1
theorem jc1:∀w,gl.ok w->∃m,w.cell? ⟨1,0,none⟩=some (.int .i64 m):=λw h=>h.2.1
theorem jc2:∀w,gl.ok w->∃tp p,w.var? Tryz.prog "strconv.ErrSyntax"=some #[.iface tp p]:=λw h=>h.2.2.1.2
theorem jc3:∀w,gl.ok w->∃tp p,w.var? Tryz.prog "strconv.ErrRange"=some #[.iface tp p]:=λw h=>h.2.2.2.1.2
def lz (b:Code):Nat->Nat->List Code
 |0,_=>[]
 |n+1,i=>(zb4 b).getD i .skip::lz b n (i+1)
theorem ll {cx:Cx}{rc:Rc}{pl:Plan}{off:Nat}{b:Code}(n:Nat)(h:zb4 b=lz b n 0)(h2:LAll cx rc pl off (lz b n 0)):LAll cx rc pl off (zb4 b):=h▸h2
theorem lc {cx:Cx}{rc:Rc}{pl:Plan}{off:Nat}{c:Code}{l:List Code}(lp:Lp)(h1:lookup pl.loops (zcc c)=some lp)(h2:∀d,denK cx rc pl off c (zay lp.sh d) (zol off lp)=lp.B d)(h3:LAll cx rc pl off l):LAll cx rc pl off (c::l):=
 ⟨by rw[h1];exact λd z h=>(h2 d).trans h,h3⟩
theorem oz {c:List (FuncId×Ct)}{f:List (FuncId×Func×Plan)}{s:List (FuncId×FuncId×Func×Plan)}(h1:zox gl Tryz.prog c)(h2:zf9 Tryz.prog ⟨tab,arrs,c,f,gl,s⟩ f)(h3:zf9 Tryz.prog ⟨tab,arrs,c,f,gl,s⟩ (s.map (·.2)):=by exact trivial):Ok0 Tryz.prog ⟨tab,arrs,c,f,gl,s⟩:=
 ztd zo4 (by unfold zbl;kernel_rfl) mix h1 h2 h3
theorem fo {k:FuncId}{fn:Func}{ct:Ct}(cx:Cx)(pl:Plan)(dp:Nat)(hok:Ok0 Tryz.prog cx)(hf:Tryz.prog.funcs[k]? =some fn)(hb:fn.body.isSome=true)(hn:(fn.name== "runtime.NumGoroutine")=false)
 (hunit:(ct.rets.all λq=> !q.1.isUnit)=true)(hlo:LAll cx (rcN cx dp) pl (outN ct.pars) (zb4 (zcl fn)))
 (hF:∀xs,denF cx dp pl fn.ntmps (zcl fn) fn.results.toList ct.pars ct.rets xs=ct.F xs):FnOk cx.gl Tryz.prog k ct:=
 fnOk hok hf hb hn hunit hlo hF
open Go.Shelf
set_option maxRecDepth 20000
def qh2:Go.Shelf.Ren:=⟨λ|0=>0|1=>1|2=>2|99=>213|100=>226|101=>214|102=>206|103=>218|104=>219|109=>244|119=>250|129=>302|137=>221|138=>258|143=>259|144=>233|145=>211|152=>207|153=>142|156=>247|165=>273|166=>274|169=>275|171=>205|172=>254|193=>154|195=>280|197=>281|205=>309|206=>255|207=>265|208=>256|209=>249|210=>260|211=>261|217=>263|218=>282|219=>277|220=>253|221=>215|224=>251|225=>252|226=>208|227=>209|228=>210|240=>286|241=>287|243=>248|244=>278|245=>279|246=>276|247=>293|260=>298|266=>283|267=>292|268=>257|276=>299|277=>300|279=>294|280=>295|281=>296|282=>297|283=>288|284=>289|285=>290|286=>291|287=>307|314=>306|316=>308|317=>301|318=>303|319=>304|320=>305|321=>312|322=>313|337=>310|338=>311|347=>314|348=>315|349=>316|350=>317|351=>318|352=>319|353=>320|354=>321|355=>322|356=>323|357=>324|358=>325|359=>326|360=>327|361=>328|362=>330|363=>333|364=>331|365=>332|366=>334|367=>346|n=>n,λ|0=>0|1=>1|2=>2|3=>3|4=>4|5=>5|6=>6|7=>7|8=>8|9=>9|10=>10|11=>11|12=>12|13=>13|14=>14|15=>15|16=>16|17=>17|18=>18|19=>19|20=>20|21=>21|22=>50|23=>93|24=>28|25=>205|27=>145|28=>36|30=>40|31=>24|32=>219|34=>39|36=>168|37=>22|38=>23|40=>222|41=>198|43=>131|46=>180|47=>262|48=>182|51=>260|52=>274|53=>74|54=>245|55=>206|59=>199|60=>200|61=>150|64=>193|67=>221|68=>90|69=>97|70=>234|71=>235|72=>236|73=>237|74=>224|75=>225|76=>226|77=>227|80=>130|81=>123|83=>119|84=>238|85=>250|86=>251|101=>58|102=>100|103=>232|104=>41|105=>240|106=>241|108=>269|111=>81|112=>80|113=>203|114=>79|115=>194|116=>195|117=>196|118=>197|119=>270|124=>223|127=>243|128=>239|131=>201|137=>271|138=>272|139=>273|143=>276|144=>277|145=>278|146=>263|150=>228|151=>264|164=>255|165=>256|166=>257|167=>249|168=>252|169=>253|170=>254|171=>244|172=>246|173=>247|174=>248|175=>265|176=>266|209=>267|210=>268|211=>258|212=>259|213=>261|214=>275|232=>279|233=>280|238=>281|239=>282|240=>283|241=>284|242=>285|243=>286|244=>287|245=>288|246=>289|247=>290|248=>291|249=>292|n=>n,λ|1=>1|3=>5|4=>6|15=>3|16=>4|17=>2|18=>7|19=>8|n=>n⟩
theorem qin:Go.Proofs.Lays.n153 Tryz.prog qh2 where
 mixed:=by kernel_rfl
 f119:=Tryz.func250.trans (congrArg some (by kernel_rfl))
 f137:=Tryz.func221.trans (congrArg some (by kernel_rfl))
 f152:=Tryz.func207.trans (congrArg some (by kernel_rfl))
 f153:=Tryz.func142.trans (congrArg some (by kernel_rfl))
 f217:=Tryz.func263.trans (congrArg some (by kernel_rfl))
 f224:=Tryz.func251.trans (congrArg some (by kernel_rfl))
 f225:=Tryz.func252.trans (congrArg some (by kernel_rfl))
 f226:=Tryz.func208.trans (congrArg some (by kernel_rfl))
 f227:=Tryz.func209.trans (congrArg some (by kernel_rfl))
 f228:=Tryz.func210.trans (congrArg some (by kernel_rfl))
 f266:=Tryz.func283.trans (congrArg some (by kernel_rfl))
 t0:=Tryz.underlying0
 a0:=Tryz.isAgg0
 z0:=Tryz.sizeOf0
 v0:=Tryz.zeroValue0
 t3:=Tryz.underlying3
 a3:=Tryz.isAgg3
 z3:=Tryz.sizeOf3
 v3:=Tryz.zeroValue3
 t4:=Tryz.underlying4
 a4:=Tryz.isAgg4
 z4:=Tryz.sizeOf4
 v4:=Tryz.zeroValue4
 t5:=Tryz.underlying5
 a5:=Tryz.isAgg5
 z5:=Tryz.sizeOf5
 v5:=Tryz.zeroValue5
 t9:=Tryz.underlying9
 a9:=Tryz.isAgg9
 z9:=Tryz.sizeOf9
 v9:=Tryz.zeroValue9
 t21:=Tryz.underlying21
 a21:=Tryz.isAgg21
 z21:=Tryz.sizeOf21
 v21:=Tryz.zeroValue21
 t46:=Tryz.underlying180
 a46:=Tryz.isAgg180
 z46:=Tryz.sizeOf180
 v46:=Tryz.zeroValue180
 t116:=Tryz.underlying195
 a116:=Tryz.isAgg195
 z116:=Tryz.sizeOf195
 t117:=Tryz.underlying196
 a117:=Tryz.isAgg196
 z117:=Tryz.sizeOf196
 v117:=Tryz.zeroValue196
 t124:=Tryz.underlying223
 a124:=Tryz.isAgg223
 z124:=Tryz.sizeOf223
 v124:=Tryz.zeroValue223
def zhl (t0:PV .str)(t1:PV .str):Option (PVs [(.int .i64)]×PVs []):=Go.Dn.zni t0 t1
def zt9:Ct:=⟨[(.bor,.str),(.bor,.str)],[((.int .i64),.b)],λx=>zhl x.1 x.2.1⟩
theorem z0b:FnOk gl Tryz.prog 142 zt9:=Go.Dn.qyq (by kernel_rfl) qin
def qio:Go.Shelf.Ren:=⟨λ|0=>0|1=>1|2=>2|99=>213|100=>226|101=>214|102=>206|103=>218|104=>219|109=>244|119=>250|129=>302|137=>221|138=>258|143=>259|144=>233|145=>211|152=>207|153=>142|156=>247|165=>273|166=>274|169=>275|171=>205|172=>254|193=>154|195=>280|197=>281|205=>309|206=>255|207=>265|208=>256|209=>249|210=>260|211=>261|217=>263|218=>282|219=>277|220=>253|221=>215|224=>251|225=>252|226=>208|227=>209|228=>210|240=>286|241=>287|243=>248|244=>278|245=>279|246=>276|247=>293|260=>298|266=>283|267=>292|268=>257|276=>299|277=>300|279=>294|280=>295|281=>296|282=>297|283=>288|284=>289|285=>290|286=>291|287=>307|314=>306|316=>308|317=>301|318=>303|319=>304|320=>305|321=>312|322=>313|337=>310|338=>311|347=>314|348=>315|349=>316|350=>317|351=>318|352=>319|353=>320|354=>321|355=>322|356=>323|357=>324|358=>325|359=>326|360=>327|361=>328|362=>330|363=>333|364=>331|365=>332|366=>334|367=>346|n=>n,λ|0=>0|1=>1|2=>2|3=>3|4=>4|5=>5|6=>6|7=>7|8=>8|9=>9|10=>10|11=>11|12=>12|13=>13|14=>14|15=>15|16=>16|17=>17|18=>18|19=>19|20=>20|21=>21|22=>50|23=>93|24=>28|25=>205|27=>145|28=>36|30=>40|31=>24|32=>219|34=>39|36=>168|37=>22|38=>23|40=>222|41=>198|43=>131|46=>180|47=>262|48=>182|51=>260|52=>274|53=>74|54=>245|55=>206|59=>199|60=>200|61=>150|64=>193|67=>221|68=>90|69=>97|70=>234|71=>235|72=>236|73=>237|74=>224|75=>225|76=>226|77=>227|80=>130|81=>123|83=>119|84=>238|85=>250|86=>251|101=>58|102=>100|103=>232|104=>41|105=>240|106=>241|108=>269|111=>81|112=>80|113=>203|114=>79|115=>194|116=>195|117=>196|118=>197|119=>270|124=>223|127=>243|128=>239|131=>201|137=>271|138=>272|139=>273|143=>276|144=>277|145=>278|146=>263|150=>228|151=>264|164=>255|165=>256|166=>257|167=>249|168=>252|169=>253|170=>254|171=>244|172=>246|173=>247|174=>248|175=>265|176=>266|209=>267|210=>268|211=>258|212=>259|213=>261|214=>275|232=>279|233=>280|238=>281|239=>282|240=>283|241=>284|242=>285|243=>286|244=>287|245=>288|246=>289|247=>290|248=>291|249=>292|n=>n,λ|1=>1|3=>5|4=>6|15=>3|16=>4|17=>2|18=>7|19=>8|n=>n⟩
theorem qk2:Go.Proofs.LaysM.n171 Tryz.prog qio where
 mixed:=by kernel_rfl
 f129:=Tryz.func302.trans (congrArg some (by kernel_rfl))
 f171:=Tryz.func205.trans (congrArg some (by kernel_rfl))
 f243:=Tryz.func248.trans (congrArg some (by kernel_rfl))
 f246:=Tryz.func276.trans (congrArg some (by kernel_rfl))
 f283:=Tryz.func288.trans (congrArg some (by kernel_rfl))
 f284:=Tryz.func289.trans (congrArg some (by kernel_rfl))
 f285:=Tryz.func290.trans (congrArg some (by kernel_rfl))
 f286:=Tryz.func291.trans (congrArg some (by kernel_rfl))
 f317:=Tryz.func301.trans (congrArg some (by kernel_rfl))
 f318:=Tryz.func303.trans (congrArg some (by kernel_rfl))
 f319:=Tryz.func304.trans (congrArg some (by kernel_rfl))
 f320:=Tryz.func305.trans (congrArg some (by kernel_rfl))
 f337:=Tryz.func310.trans (congrArg some (by kernel_rfl))
 f338:=Tryz.func311.trans (congrArg some (by kernel_rfl))
 t0:=Tryz.underlying0
 a0:=Tryz.isAgg0
 z0:=Tryz.sizeOf0
 v0:=Tryz.zeroValue0
 t2:=Tryz.underlying2
 a2:=Tryz.isAgg2
 z2:=Tryz.sizeOf2
 v2:=Tryz.zeroValue2
 t3:=Tryz.underlying3
 a3:=Tryz.isAgg3
 z3:=Tryz.sizeOf3
 v3:=Tryz.zeroValue3
 t4:=Tryz.underlying4
 a4:=Tryz.isAgg4
 z4:=Tryz.sizeOf4
 v4:=Tryz.zeroValue4
 t5:=Tryz.underlying5
 a5:=Tryz.isAgg5
 z5:=Tryz.sizeOf5
 v5:=Tryz.zeroValue5
 t9:=Tryz.underlying9
 a9:=Tryz.isAgg9
 z9:=Tryz.sizeOf9
 v9:=Tryz.zeroValue9
 t20:=Tryz.underlying20
 a20:=Tryz.isAgg20
 z20:=Tryz.sizeOf20
 v20:=Tryz.zeroValue20
 t37:=Tryz.underlying22
 a37:=Tryz.isAgg22
 z37:=Tryz.sizeOf22
 v37:=Tryz.zeroValue22
 t46:=Tryz.underlying180
 a46:=Tryz.isAgg180
 z46:=Tryz.sizeOf180
 v46:=Tryz.zeroValue180
 t51:=Tryz.underlying260
 a51:=Tryz.isAgg260
 z51:=Tryz.sizeOf260
 v51:=Tryz.zeroValue260
 t53:=Tryz.underlying74
 a53:=Tryz.isAgg74
 z53:=Tryz.sizeOf74
 v53:=Tryz.zeroValue74
 t171:=Tryz.underlying244
 a171:=Tryz.isAgg244
 z171:=Tryz.sizeOf244
 v171:=Tryz.zeroValue244
 t173:=Tryz.underlying247
 a173:=Tryz.isAgg247
 z173:=Tryz.sizeOf247
 v173:=Tryz.zeroValue247
 t212:=Tryz.underlying259
 a212:=Tryz.isAgg259
 z212:=Tryz.sizeOf259
 v212:=Tryz.zeroValue259
 t213:=Tryz.underlying261
 a213:=Tryz.isAgg261
 z213:=Tryz.sizeOf261
 t232:=Tryz.underlying279
 a232:=Tryz.isAgg279
 z232:=Tryz.sizeOf279
 v232:=Tryz.zeroValue279
 t233:=Tryz.underlying280
 a233:=Tryz.isAgg280
 z233:=Tryz.sizeOf280
 v233:=Tryz.zeroValue280
 g17:=by kernel_rfl
 g18:=by kernel_rfl
 g19:=by kernel_rfl
 i0:=by kernel_rfl
 i2:=by kernel_rfl
 i3:=by kernel_rfl
 i4:=by kernel_rfl
 i5:=by kernel_rfl
 i9:=by kernel_rfl
 i20:=by kernel_rfl
 i37:=by kernel_rfl
 i46:=by kernel_rfl
 i51:=by kernel_rfl
 i53:=by kernel_rfl
 i171:=by kernel_rfl
 i173:=by kernel_rfl
 i212:=by kernel_rfl
 i232:=by kernel_rfl
 i233:=by kernel_rfl
 m17:=by kernel_rfl
 m18:=by kernel_rfl
 m19:=by kernel_rfl
def zjt (t0:PV (.int .i64)):Option (PVs [.str]×PVs []):=Go.Dn.ztq t0
def z2o:Ct:=⟨[(.bor,(.int .i64))],[(.str,.b)],λx=>zjt x.1⟩
theorem qoc:FnOk gl Tryz.prog 205 z2o:=Go.Dn.jaq qgq qk2
def qip:Go.Shelf.Ren:=⟨λ|0=>0|1=>1|2=>2|99=>213|100=>226|101=>214|102=>206|103=>218|104=>219|109=>244|119=>250|129=>302|137=>221|138=>258|143=>259|144=>233|145=>211|152=>207|153=>142|156=>247|165=>273|166=>274|169=>275|171=>205|172=>254|193=>154|195=>280|197=>281|205=>309|206=>255|207=>265|208=>256|209=>249|210=>260|211=>261|217=>263|218=>282|219=>277|220=>253|221=>215|224=>251|225=>252|226=>208|227=>209|228=>210|240=>286|241=>287|243=>248|244=>278|245=>279|246=>276|247=>293|260=>298|266=>283|267=>292|268=>257|276=>299|277=>300|279=>294|280=>295|281=>296|282=>297|283=>288|284=>289|285=>290|286=>291|287=>307|314=>306|316=>308|317=>301|318=>303|319=>304|320=>305|321=>312|322=>313|337=>310|338=>311|347=>314|348=>315|349=>316|350=>317|351=>318|352=>319|353=>320|354=>321|355=>322|356=>323|357=>324|358=>325|359=>326|360=>327|361=>328|362=>330|363=>333|364=>331|365=>332|366=>334|367=>346|n=>n,λ|0=>0|1=>1|2=>2|3=>3|4=>4|5=>5|6=>6|7=>7|8=>8|9=>9|10=>10|11=>11|12=>12|13=>13|14=>14|15=>15|16=>16|17=>17|18=>18|19=>19|20=>20|21=>21|22=>50|23=>93|24=>28|25=>205|27=>145|28=>36|30=>40|31=>24|32=>219|34=>39|36=>168|37=>22|38=>23|40=>222|41=>198|43=>131|46=>180|47=>262|48=>182|51=>260|52=>274|53=>74|54=>245|55=>206|59=>199|60=>200|61=>150|64=>193|67=>221|68=>90|69=>97|70=>234|71=>235|72=>236|73=>237|74=>224|75=>225|76=>226|77=>227|80=>130|81=>123|83=>119|84=>238|85=>250|86=>251|101=>58|102=>100|103=>232|104=>41|105=>240|106=>241|108=>269|111=>81|112=>80|113=>203|114=>79|115=>194|116=>195|117=>196|118=>197|119=>270|124=>223|127=>243|128=>239|131=>201|137=>271|138=>272|139=>273|143=>276|144=>277|145=>278|146=>263|150=>228|151=>264|164=>255|165=>256|166=>257|167=>249|168=>252|169=>253|170=>254|171=>244|172=>246|173=>247|174=>248|175=>265|176=>266|209=>267|210=>268|211=>258|212=>259|213=>261|214=>275|232=>279|233=>280|238=>281|239=>282|240=>283|241=>284|242=>285|243=>286|244=>287|245=>288|246=>289|247=>290|248=>291|249=>292|n=>n,λ|1=>1|3=>5|4=>6|15=>3|16=>4|17=>2|18=>7|19=>8|n=>n⟩
theorem zug:Go.Proofs.LaysC.n172 Tryz.prog qip where
 mixed:=by kernel_rfl
 f129:=Tryz.func302.trans (congrArg some (by kernel_rfl))
 f171:=Tryz.func205.trans (congrArg some (by kernel_rfl))
 f172:=Tryz.func254.trans (congrArg some (by kernel_rfl))
 f205:=Tryz.func309.trans (congrArg some (by kernel_rfl))
 f243:=Tryz.func248.trans (congrArg some (by kernel_rfl))
 f244:=Tryz.func278.trans (congrArg some (by kernel_rfl))
 f245:=Tryz.func279.trans (congrArg some (by kernel_rfl))
 f246:=Tryz.func276.trans (congrArg some (by kernel_rfl))
 f247:=Tryz.func293.trans (congrArg some (by kernel_rfl))
 f279:=Tryz.func294.trans (congrArg some (by kernel_rfl))
 f280:=Tryz.func295.trans (congrArg some (by kernel_rfl))
 f281:=Tryz.func296.trans (congrArg some (by kernel_rfl))
 f282:=Tryz.func297.trans (congrArg some (by kernel_rfl))
 f283:=Tryz.func288.trans (congrArg some (by kernel_rfl))
 f284:=Tryz.func289.trans (congrArg some (by kernel_rfl))
 f285:=Tryz.func290.trans (congrArg some (by kernel_rfl))
 f286:=Tryz.func291.trans (congrArg some (by kernel_rfl))
 f287:=Tryz.func307.trans (congrArg some (by kernel_rfl))
 f316:=Tryz.func308.trans (congrArg some (by kernel_rfl))
 f317:=Tryz.func301.trans (congrArg some (by kernel_rfl))
 f318:=Tryz.func303.trans (congrArg some (by kernel_rfl))
 f319:=Tryz.func304.trans (congrArg some (by kernel_rfl))
 f320:=Tryz.func305.trans (congrArg some (by kernel_rfl))
 f321:=Tryz.func312.trans (congrArg some (by kernel_rfl))
 f322:=Tryz.func313.trans (congrArg some (by kernel_rfl))
 f337:=Tryz.func310.trans (congrArg some (by kernel_rfl))
 f338:=Tryz.func311.trans (congrArg some (by kernel_rfl))
 t0:=Tryz.underlying0
 a0:=Tryz.isAgg0
 z0:=Tryz.sizeOf0
 v0:=Tryz.zeroValue0
 t2:=Tryz.underlying2
 a2:=Tryz.isAgg2
 z2:=Tryz.sizeOf2
 v2:=Tryz.zeroValue2
 t3:=Tryz.underlying3
 a3:=Tryz.isAgg3
 z3:=Tryz.sizeOf3
 v3:=Tryz.zeroValue3
 t4:=Tryz.underlying4
 a4:=Tryz.isAgg4
 z4:=Tryz.sizeOf4
 v4:=Tryz.zeroValue4
 t5:=Tryz.underlying5
 a5:=Tryz.isAgg5
 z5:=Tryz.sizeOf5
 v5:=Tryz.zeroValue5
 t9:=Tryz.underlying9
 a9:=Tryz.isAgg9
 z9:=Tryz.sizeOf9
 v9:=Tryz.zeroValue9
 t20:=Tryz.underlying20
 a20:=Tryz.isAgg20
 z20:=Tryz.sizeOf20
 v20:=Tryz.zeroValue20
 t21:=Tryz.underlying21
 a21:=Tryz.isAgg21
 z21:=Tryz.sizeOf21
 v21:=Tryz.zeroValue21
 t37:=Tryz.underlying22
 a37:=Tryz.isAgg22
 z37:=Tryz.sizeOf22
 v37:=Tryz.zeroValue22
 t46:=Tryz.underlying180
 a46:=Tryz.isAgg180
 z46:=Tryz.sizeOf180
 v46:=Tryz.zeroValue180
 t51:=Tryz.underlying260
 a51:=Tryz.isAgg260
 z51:=Tryz.sizeOf260
 v51:=Tryz.zeroValue260
 t53:=Tryz.underlying74
 a53:=Tryz.isAgg74
 z53:=Tryz.sizeOf74
 v53:=Tryz.zeroValue74
 t75:=Tryz.underlying225
 a75:=Tryz.isAgg225
 z75:=Tryz.sizeOf225
 v75:=Tryz.zeroValue225
 t76:=Tryz.underlying226
 a76:=Tryz.isAgg226
 z76:=Tryz.sizeOf226
 v76:=Tryz.zeroValue226
 t85:=Tryz.underlying250
 a85:=Tryz.isAgg250
 z85:=Tryz.sizeOf250
 v85:=Tryz.zeroValue250
 t127:=Tryz.underlying243
 a127:=Tryz.isAgg243
 z127:=Tryz.sizeOf243
 v127:=Tryz.zeroValue243
 t143:=Tryz.underlying276
 a143:=Tryz.isAgg276
 z143:=Tryz.sizeOf276
 v143:=Tryz.zeroValue276
 t145:=Tryz.underlying278
 a145:=Tryz.isAgg278
 z145:=Tryz.sizeOf278
 v145:=Tryz.zeroValue278
 t167:=Tryz.underlying249
 a167:=Tryz.isAgg249
 z167:=Tryz.sizeOf249
 v167:=Tryz.zeroValue249
 t168:=Tryz.underlying252
 a168:=Tryz.isAgg252
 z168:=Tryz.sizeOf252
 v168:=Tryz.zeroValue252
 t171:=Tryz.underlying244
 a171:=Tryz.isAgg244
 z171:=Tryz.sizeOf244
 v171:=Tryz.zeroValue244
 t173:=Tryz.underlying247
 a173:=Tryz.isAgg247
 z173:=Tryz.sizeOf247
 v173:=Tryz.zeroValue247
 t175:=Tryz.underlying265
 a175:=Tryz.isAgg265
 z175:=Tryz.sizeOf265
 v175:=Tryz.zeroValue265
 t210:=Tryz.underlying268
 a210:=Tryz.isAgg268
 z210:=Tryz.sizeOf268
 v210:=Tryz.zeroValue268
 t212:=Tryz.underlying259
 a212:=Tryz.isAgg259
 z212:=Tryz.sizeOf259
 v212:=Tryz.zeroValue259
 t213:=Tryz.underlying261
 a213:=Tryz.isAgg261
 z213:=Tryz.sizeOf261
 t232:=Tryz.underlying279
 a232:=Tryz.isAgg279
 z232:=Tryz.sizeOf279
 v232:=Tryz.zeroValue279
 t233:=Tryz.underlying280
 a233:=Tryz.isAgg280
 z233:=Tryz.sizeOf280
 v233:=Tryz.zeroValue280
 g15:=by kernel_rfl
 g16:=by kernel_rfl
 g17:=by kernel_rfl
 g18:=by kernel_rfl
 g19:=by kernel_rfl
 t80:=Tryz.underlying130
 a80:=Tryz.isAgg130
 z80:=Tryz.sizeOf130
 v80:=Tryz.zeroValue130
 i0:=by kernel_rfl
 i2:=by kernel_rfl
 i3:=by kernel_rfl
 i4:=by kernel_rfl
 i5:=by kernel_rfl
 i9:=by kernel_rfl
 i20:=by kernel_rfl
 i21:=by kernel_rfl
 i37:=by kernel_rfl
 i46:=by kernel_rfl
 i51:=by kernel_rfl
 i53:=by kernel_rfl
 i75:=by kernel_rfl
 i76:=by kernel_rfl
 i80:=by kernel_rfl
 i85:=by kernel_rfl
 i127:=by kernel_rfl
 i143:=by kernel_rfl
 i145:=by kernel_rfl
 i167:=by kernel_rfl
 i168:=by kernel_rfl
 i171:=by kernel_rfl
 i173:=by kernel_rfl
 i175:=by kernel_rfl
 i210:=by kernel_rfl
 i212:=by kernel_rfl
 i232:=by kernel_rfl
 i233:=by kernel_rfl
 m15:=by kernel_rfl
 m16:=by kernel_rfl
 m17:=by kernel_rfl
 m18:=by kernel_rfl
 m19:=by kernel_rfl
 c0:=by kernel_rfl
 c2:=by kernel_rfl
 c3:=by kernel_rfl
 c4:=by kernel_rfl
 c5:=by kernel_rfl
 c9:=by kernel_rfl
 c20:=by kernel_rfl
 c21:=by kernel_rfl
 c37:=by kernel_rfl
 c46:=by kernel_rfl
 c51:=by kernel_rfl
 c53:=by kernel_rfl
 c75:=by kernel_rfl
 c76:=by kernel_rfl
 c80:=by kernel_rfl
 c85:=by kernel_rfl
 c127:=by kernel_rfl
 c143:=by kernel_rfl
 c145:=by kernel_rfl
 c167:=by kernel_rfl
 c168:=by kernel_rfl
 c171:=by kernel_rfl
 c173:=by kernel_rfl
 c175:=by kernel_rfl
 c210:=by kernel_rfl
 c212:=by kernel_rfl
 c213:=by kernel_rfl
 c232:=by kernel_rfl
 c233:=by kernel_rfl
def qk3:Go.Shelf.Ren:=⟨λ|0=>0|1=>1|2=>2|99=>213|100=>226|101=>214|102=>206|103=>218|104=>219|109=>244|119=>250|129=>302|137=>221|138=>258|143=>259|144=>233|145=>211|152=>207|153=>142|156=>247|165=>273|166=>274|169=>275|171=>205|172=>254|193=>154|195=>280|197=>281|205=>309|206=>255|207=>265|208=>256|209=>249|210=>260|211=>261|217=>263|218=>282|219=>277|220=>253|221=>215|224=>251|225=>252|226=>208|227=>209|228=>210|240=>286|241=>287|243=>248|244=>278|245=>279|246=>276|247=>293|260=>298|266=>283|267=>292|268=>257|276=>299|277=>300|279=>294|280=>295|281=>296|282=>297|283=>288|284=>289|285=>290|286=>291|287=>307|314=>306|316=>308|317=>301|318=>303|319=>304|320=>305|321=>312|322=>313|337=>310|338=>311|347=>314|348=>315|349=>316|350=>317|351=>318|352=>319|353=>320|354=>321|355=>322|356=>323|357=>324|358=>325|359=>326|360=>327|361=>328|362=>330|363=>333|364=>331|365=>332|366=>334|367=>346|n=>n,λ|0=>0|1=>1|2=>2|3=>3|4=>4|5=>5|6=>6|7=>7|8=>8|9=>9|10=>10|11=>11|12=>12|13=>13|14=>14|15=>15|16=>16|17=>17|18=>18|19=>19|20=>20|21=>21|22=>50|23=>93|24=>28|25=>205|27=>145|28=>36|30=>40|31=>24|32=>219|34=>39|36=>168|37=>22|38=>23|40=>222|41=>198|43=>131|46=>180|47=>262|48=>182|51=>260|52=>274|53=>74|54=>245|55=>206|59=>199|60=>200|61=>150|64=>193|67=>221|68=>90|69=>97|70=>234|71=>235|72=>236|73=>237|74=>224|75=>225|76=>226|77=>227|80=>130|81=>123|83=>119|84=>238|85=>250|86=>251|101=>58|102=>100|103=>232|104=>41|105=>240|106=>241|108=>269|111=>81|112=>80|113=>203|114=>79|115=>194|116=>195|117=>196|118=>197|119=>270|124=>223|127=>243|128=>239|131=>201|137=>271|138=>272|139=>273|143=>276|144=>277|145=>278|146=>263|150=>228|151=>264|164=>255|165=>256|166=>257|167=>249|168=>252|169=>253|170=>254|171=>244|172=>246|173=>247|174=>248|175=>265|176=>266|209=>267|210=>268|211=>258|212=>259|213=>261|214=>275|232=>279|233=>280|238=>281|239=>282|240=>283|241=>284|242=>285|243=>286|244=>287|245=>288|246=>289|247=>290|248=>291|249=>292|n=>n,λ|1=>1|3=>5|4=>6|15=>3|16=>4|17=>2|18=>7|19=>8|n=>n⟩
theorem qsb:Go.Proofs.LaysM.n171 Tryz.prog qk3 where
 mixed:=by kernel_rfl
 f129:=Tryz.func302.trans (congrArg some (by kernel_rfl))
 f171:=Tryz.func205.trans (congrArg some (by kernel_rfl))
 f243:=Tryz.func248.trans (congrArg some (by kernel_rfl))
 f246:=Tryz.func276.trans (congrArg some (by kernel_rfl))
 f283:=Tryz.func288.trans (congrArg some (by kernel_rfl))
 f284:=Tryz.func289.trans (congrArg some (by kernel_rfl))
 f285:=Tryz.func290.trans (congrArg some (by kernel_rfl))
 f286:=Tryz.func291.trans (congrArg some (by kernel_rfl))
 f317:=Tryz.func301.trans (congrArg some (by kernel_rfl))
 f318:=Tryz.func303.trans (congrArg some (by kernel_rfl))
 f319:=Tryz.func304.trans (congrArg some (by kernel_rfl))
 f320:=Tryz.func305.trans (congrArg some (by kernel_rfl))
 f337:=Tryz.func310.trans (congrArg some (by kernel_rfl))
 f338:=Tryz.func311.trans (congrArg some (by kernel_rfl))
 t0:=Tryz.underlying0
 a0:=Tryz.isAgg0
 z0:=Tryz.sizeOf0
 v0:=Tryz.zeroValue0
 t2:=Tryz.underlying2
 a2:=Tryz.isAgg2
 z2:=Tryz.sizeOf2
 v2:=Tryz.zeroValue2
 t3:=Tryz.underlying3
 a3:=Tryz.isAgg3
 z3:=Tryz.sizeOf3
 v3:=Tryz.zeroValue3
 t4:=Tryz.underlying4
 a4:=Tryz.isAgg4
 z4:=Tryz.sizeOf4
 v4:=Tryz.zeroValue4
 t5:=Tryz.underlying5
 a5:=Tryz.isAgg5
 z5:=Tryz.sizeOf5
 v5:=Tryz.zeroValue5
 t9:=Tryz.underlying9
 a9:=Tryz.isAgg9
 z9:=Tryz.sizeOf9
 v9:=Tryz.zeroValue9
 t20:=Tryz.underlying20
 a20:=Tryz.isAgg20
 z20:=Tryz.sizeOf20
 v20:=Tryz.zeroValue20
 t37:=Tryz.underlying22
 a37:=Tryz.isAgg22
 z37:=Tryz.sizeOf22
 v37:=Tryz.zeroValue22
 t46:=Tryz.underlying180
 a46:=Tryz.isAgg180
 z46:=Tryz.sizeOf180
 v46:=Tryz.zeroValue180
 t51:=Tryz.underlying260
 a51:=Tryz.isAgg260
 z51:=Tryz.sizeOf260
 v51:=Tryz.zeroValue260
 t53:=Tryz.underlying74
 a53:=Tryz.isAgg74
 z53:=Tryz.sizeOf74
 v53:=Tryz.zeroValue74
 t171:=Tryz.underlying244
 a171:=Tryz.isAgg244
 z171:=Tryz.sizeOf244
 v171:=Tryz.zeroValue244
 t173:=Tryz.underlying247
 a173:=Tryz.isAgg247
 z173:=Tryz.sizeOf247
 v173:=Tryz.zeroValue247
 t212:=Tryz.underlying259
 a212:=Tryz.isAgg259
 z212:=Tryz.sizeOf259
 v212:=Tryz.zeroValue259
 t213:=Tryz.underlying261
 a213:=Tryz.isAgg261
 z213:=Tryz.sizeOf261
 t232:=Tryz.underlying279
 a232:=Tryz.isAgg279
 z232:=Tryz.sizeOf279
 v232:=Tryz.zeroValue279
 t233:=Tryz.underlying280
 a233:=Tryz.isAgg280
 z233:=Tryz.sizeOf280
 v233:=Tryz.zeroValue280
 g17:=by kernel_rfl
 g18:=by kernel_rfl
 g19:=by kernel_rfl
 i0:=by kernel_rfl
 i2:=by kernel_rfl
 i3:=by kernel_rfl
 i4:=by kernel_rfl
 i5:=by kernel_rfl
 i9:=by kernel_rfl
 i20:=by kernel_rfl
 i37:=by kernel_rfl
 i46:=by kernel_rfl
 i51:=by kernel_rfl
 i53:=by kernel_rfl
 i171:=by kernel_rfl
 i173:=by kernel_rfl
 i212:=by kernel_rfl
 i232:=by kernel_rfl
 i233:=by kernel_rfl
 m17:=by kernel_rfl
 m18:=by kernel_rfl
 m19:=by kernel_rfl
section
open Go.RowKit Go.Lib
theorem jae (n:Int)(h1: -9223372036854775808<=n)(h2:n<=9223372036854775807)(w:World)(hT:Lib.TabIs Tryz.prog w "internal/strconv.uint64pow10" .u64 Lib.pow10Tab):
 Calls Tryz.prog 205 #[.int .i64 n] w λe w'=>e=.returned (.string ⟨(Lib.itoa n).toArray⟩)/\Below w.heap.size w w':=
 (Any.strconv_Itoa qsb n h1 h2 w hT).mono λe w' ⟨e1,k,os,e2⟩=>⟨e1,by
   subst e2;exact⟨rfl,rfl,rfl,by show w.heap.size<=(w.heap++os).size;simp,λb hb=>by show(w.heap++os)[b]? =_;rw[Array.getElem?_append_left hb]⟩⟩
set_option maxHeartbeats 1000000 in
set_option maxRecDepth 100000 in
theorem jc4 (s:ByteArray)(v:Int)(h:Lib.atoiAll s.data.toList=.ok v)(hs:s.size<=1000000)(w:World)(hT:Lib.TabIs Tryz.prog w "internal/strconv.uint64pow10" .u64 Lib.pow10Tab):
 Calls Tryz.prog 212 #[.string s] w λe w'=>e=.returned (.tuple #[.int .i64 v,.bool (decide (0<=v)&&(decide (s.size<=4)&&(Lib.itoa v==s.data.toList)))])/\Below w.heap.size w w':=by
 obtain⟨b1,b2⟩:=Go.Dn.atoi_bound h
 have hA:Calls Tryz.prog 254 #[.string s] w λe w'=>e=.returned (.tuple #[.int .i64 v,.nilIface])/\Below w.heap.size w w':=
  (Any.strconv_Atoi_ok zug s (by omega) v h w).mono λe w' ⟨e1,e2⟩=>⟨e1,by
    rcases e2 with rfl|⟨t,rfl⟩
    ·exact Below.refl _ _
    ·exact Lib.bytesWorld_below _ _ _⟩
 by_cases h0:0<=v
 ·by_cases h4:s.size<=4
  ·rw[yc0 h0,yc0 h4]
   have h4':(s.size:Int)<=4:=by omega
   go_enter Tryz.func212,Tryz.ntmps212
   go_wp2_with (go_at_fn 254;go_fit hA;rintro e w' ⟨rfl,hb⟩)
   refine hA.mono ?_;rintro e w1 ⟨rfl,hb⟩
   go_wp2_with (go_at_fn 205;go_fit hA;rintro e w' ⟨rfl,hb⟩)
   refine(jae v b1 b2 w1 (Go.Dn.tab_below hT hb)).mono ?_;rintro e w2 ⟨rfl,hb2⟩
   go_wp2
   go_ret2
   refine⟨?_,hb.trans (hb2.mono hb.size)⟩;simp[Lib.toList_data]
  ·rw[yc0 h0,yi0 h4]
   have h4':¬(s.size:Int)<=4:=by omega
   go_enter Tryz.func212,Tryz.ntmps212
   go_wp2_with (go_at_fn 254;go_fit hA;rintro e w' ⟨rfl,hb⟩)
   refine hA.mono ?_;rintro e w1 ⟨rfl,hb⟩
   go_wp2
   go_ret2
   exact⟨rfl,hb⟩
 ·rw[yi0 h0]
  go_enter Tryz.func212,Tryz.ntmps212
  go_wp2_with (go_at_fn 254;go_fit hA;rintro e w' ⟨rfl,hb⟩)
  refine hA.mono ?_;rintro e w1 ⟨rfl,hb⟩
  go_wp2
  go_ret2
  exact⟨rfl,hb⟩
set_option maxHeartbeats 1000000 in
set_option maxRecDepth 100000 in
theorem qgr (s:ByteArray)(x:Int)(tp:TypeId)(w:World)(hA:Calls Tryz.prog 254 #[.string s] w λe w'=>∃N,e=.returned (.tuple #[.int .i64 x,.iface tp (.pointer (some ⟨N,0,none⟩))])/\Below w.heap.size w w'):
 Calls Tryz.prog 212 #[.string s] w λe w'=>e=.returned (.tuple #[.int .i64 x,.bool false])/\Below w.heap.size w w':=by
 go_enter Tryz.func212,Tryz.ntmps212
 go_wp2_with (go_at_fn 254;go_fit hA;rintro e w' ⟨rfl,hb⟩)
 refine hA.mono ?_;rintro e w1 ⟨N,rfl,hb⟩
 go_wp2
 go_ret2
 exact⟨rfl,hb⟩
theorem jb0 (s:ByteArray)(w:World)(hs:s.size<=1000000)(hT:Lib.TabIs Tryz.prog w "internal/strconv.uint64pow10" .u64 Lib.pow10Tab)(h1:∃tp p,w.var? Tryz.prog "strconv.ErrSyntax"=some #[.iface tp p])(h2:∃tp p,w.var? Tryz.prog "strconv.ErrRange"=some #[.iface tp p]):
 Calls Tryz.prog 212 #[.string s] w λe w'=>e=.returned (.tuple #[.int .i64 (Go.Dn.numV s.data.toList),.bool (Go.Dn.numB s.data.toList)])/\Below w.heap.size w w':=by
 unfold Go.Dn.numV Go.Dn.numB;rcases h:Lib.atoiAll s.data.toList with v|_|_
 ·exact jc4 s v h hs w hT
 ·obtain⟨tp,p,hv⟩:=h1
  exact qgr s 0 _ w ((Any.strconv_Atoi_syntax_var zug s (by omega) h tp p w hv).mono λe w' ⟨N,e1,_,_,hb⟩=>⟨N,e1,hb⟩)
 ·obtain⟨tp,p,hv⟩:=h2
  exact qgr s _ _ w ((Any.strconv_Atoi_range_var zug s (by omega) h tp p w hv).mono λe w' ⟨N,e1,_,_,hb⟩=>⟨N,e1,hb⟩)
end
def zme (t0:PV .str):Option (PVs [.int .i64,.bool]×PVs []):=Go.Dn.numF t0
def z2p:Ct:=⟨[(.bor,.str)],[(.int .i64,.b),(.bool,.b)],λx=>zme x.1⟩
theorem qod:FnOk gl Tryz.prog 212 z2p:=Go.Dn.qyn ⟨_,Tryz.func212,rfl,by kernel_rfl⟩ λs w hs hg=>jb0 s w hs (qgq w hg) (jc2 w hg) (jc3 w hg)
def qh3:Go.Shelf.Ren:=⟨λ|0=>0|1=>1|2=>2|99=>213|100=>226|101=>214|102=>206|103=>218|104=>219|109=>244|119=>250|129=>302|137=>221|138=>258|143=>259|144=>233|145=>211|152=>207|153=>142|156=>247|165=>273|166=>274|169=>275|171=>205|172=>254|193=>154|195=>280|197=>281|205=>309|206=>255|207=>265|208=>256|209=>249|210=>260|211=>261|217=>263|218=>282|219=>277|220=>253|221=>215|224=>251|225=>252|226=>208|227=>209|228=>210|240=>286|241=>287|243=>248|244=>278|245=>279|246=>276|247=>293|260=>298|266=>283|267=>292|268=>257|276=>299|277=>300|279=>294|280=>295|281=>296|282=>297|283=>288|284=>289|285=>290|286=>291|287=>307|314=>306|316=>308|317=>301|318=>303|319=>304|320=>305|321=>312|322=>313|337=>310|338=>311|347=>314|348=>315|349=>316|350=>317|351=>318|352=>319|353=>320|354=>321|355=>322|356=>323|357=>324|358=>325|359=>326|360=>327|361=>328|362=>330|363=>333|364=>331|365=>332|366=>334|367=>346|n=>n,λ|0=>0|1=>1|2=>2|3=>3|4=>4|5=>5|6=>6|7=>7|8=>8|9=>9|10=>10|11=>11|12=>12|13=>13|14=>14|15=>15|16=>16|17=>17|18=>18|19=>19|20=>20|21=>21|22=>50|23=>93|24=>28|25=>205|27=>145|28=>36|30=>40|31=>24|32=>219|34=>39|36=>168|37=>22|38=>23|40=>222|41=>198|43=>131|46=>180|47=>262|48=>182|51=>260|52=>274|53=>74|54=>245|55=>206|59=>199|60=>200|61=>150|64=>193|67=>221|68=>90|69=>97|70=>234|71=>235|72=>236|73=>237|74=>224|75=>225|76=>226|77=>227|80=>130|81=>123|83=>119|84=>238|85=>250|86=>251|101=>58|102=>100|103=>232|104=>41|105=>240|106=>241|108=>269|111=>81|112=>80|113=>203|114=>79|115=>194|116=>195|117=>196|118=>197|119=>270|124=>223|127=>243|128=>239|131=>201|137=>271|138=>272|139=>273|143=>276|144=>277|145=>278|146=>263|150=>228|151=>264|164=>255|165=>256|166=>257|167=>249|168=>252|169=>253|170=>254|171=>244|172=>246|173=>247|174=>248|175=>265|176=>266|209=>267|210=>268|211=>258|212=>259|213=>261|214=>275|232=>279|233=>280|238=>281|239=>282|240=>283|241=>284|242=>285|243=>286|244=>287|245=>288|246=>289|247=>290|248=>291|249=>292|n=>n,λ|1=>1|3=>5|4=>6|15=>3|16=>4|17=>2|18=>7|19=>8|n=>n⟩
theorem qiq:Go.Proofs.Lays.n221 Tryz.prog qh3 where
 mixed:=by kernel_rfl
 f138:=Tryz.func258.trans (congrArg some (by kernel_rfl))
 f143:=Tryz.func259.trans (congrArg some (by kernel_rfl))
 f195:=Tryz.func280.trans (congrArg some (by kernel_rfl))
 f197:=Tryz.func281.trans (congrArg some (by kernel_rfl))
 f217:=Tryz.func263.trans (congrArg some (by kernel_rfl))
 f218:=Tryz.func282.trans (congrArg some (by kernel_rfl))
 f219:=Tryz.func277.trans (congrArg some (by kernel_rfl))
 f221:=Tryz.func215.trans (congrArg some (by kernel_rfl))
 f224:=Tryz.func251.trans (congrArg some (by kernel_rfl))
 f225:=Tryz.func252.trans (congrArg some (by kernel_rfl))
 f260:=Tryz.func298.trans (congrArg some (by kernel_rfl))
 f266:=Tryz.func283.trans (congrArg some (by kernel_rfl))
 f267:=Tryz.func292.trans (congrArg some (by kernel_rfl))
 f268:=Tryz.func257.trans (congrArg some (by kernel_rfl))
 f314:=Tryz.func306.trans (congrArg some (by kernel_rfl))
 t0:=Tryz.underlying0
 a0:=Tryz.isAgg0
 z0:=Tryz.sizeOf0
 v0:=Tryz.zeroValue0
 t3:=Tryz.underlying3
 a3:=Tryz.isAgg3
 z3:=Tryz.sizeOf3
 v3:=Tryz.zeroValue3
 t4:=Tryz.underlying4
 a4:=Tryz.isAgg4
 z4:=Tryz.sizeOf4
 v4:=Tryz.zeroValue4
 t5:=Tryz.underlying5
 a5:=Tryz.isAgg5
 z5:=Tryz.sizeOf5
 v5:=Tryz.zeroValue5
 t9:=Tryz.underlying9
 a9:=Tryz.isAgg9
 z9:=Tryz.sizeOf9
 v9:=Tryz.zeroValue9
 t21:=Tryz.underlying21
 a21:=Tryz.isAgg21
 z21:=Tryz.sizeOf21
 v21:=Tryz.zeroValue21
 t31:=Tryz.underlying24
 a31:=Tryz.isAgg24
 z31:=Tryz.sizeOf24
 v31:=Tryz.zeroValue24
 t46:=Tryz.underlying180
 a46:=Tryz.isAgg180
 z46:=Tryz.sizeOf180
 v46:=Tryz.zeroValue180
 t51:=Tryz.underlying260
 a51:=Tryz.isAgg260
 z51:=Tryz.sizeOf260
 v51:=Tryz.zeroValue260
 t105:=Tryz.underlying240
 a105:=Tryz.isAgg240
 z105:=Tryz.sizeOf240
 v105:=Tryz.zeroValue240
 t119:=Tryz.underlying270
 a119:=Tryz.isAgg270
 z119:=Tryz.sizeOf270
 t138:=Tryz.underlying272
 a138:=Tryz.isAgg272
 z138:=Tryz.sizeOf272
 v138:=Tryz.zeroValue272
 t139:=Tryz.underlying273
 a139:=Tryz.isAgg273
 z139:=Tryz.sizeOf273
 v139:=Tryz.zeroValue273
 t146:=Tryz.underlying263
 a146:=Tryz.isAgg263
 z146:=Tryz.sizeOf263
 v146:=Tryz.zeroValue263
 g1:=by kernel_rfl
 g3:=by kernel_rfl
 g4:=by kernel_rfl
def zue (t0:PV .str)(t1:PV .str)(t2:PV (.int .i64))(t3:PV (.int .i64)):Option (PVs [zf]×PVs []):=Go.Dn.zte 9 t0 t1 t2 t3
def z0c:Ct:=⟨[(.bor,.str),(.bor,.str),(.bor,.int .i64),(.bor,.int .i64)],[(zf,.row .b)],λx=>zue x.1 x.2.1 x.2.2.1 x.2.2.2.1⟩
theorem qjr:FnOk gl Tryz.prog 215 z0c:=Go.Dn.split_ok rfl qiq (by kernel_rfl)
def qh4:Go.Shelf.Ren:=⟨λ|0=>0|1=>1|2=>2|99=>213|100=>226|101=>214|102=>206|103=>218|104=>219|109=>244|119=>250|129=>302|137=>221|138=>258|143=>259|144=>233|145=>211|152=>207|153=>142|156=>247|165=>273|166=>274|169=>275|171=>205|172=>254|193=>154|195=>280|197=>281|205=>309|206=>255|207=>265|208=>256|209=>249|210=>260|211=>261|217=>263|218=>282|219=>277|220=>253|221=>215|224=>251|225=>252|226=>208|227=>209|228=>210|240=>286|241=>287|243=>248|244=>278|245=>279|246=>276|247=>293|260=>298|266=>283|267=>292|268=>257|276=>299|277=>300|279=>294|280=>295|281=>296|282=>297|283=>288|284=>289|285=>290|286=>291|287=>307|314=>306|316=>308|317=>301|318=>303|319=>304|320=>305|321=>312|322=>313|337=>310|338=>311|347=>314|348=>315|349=>316|350=>317|351=>318|352=>319|353=>320|354=>321|355=>322|356=>323|357=>324|358=>325|359=>326|360=>327|361=>328|362=>330|363=>333|364=>331|365=>332|366=>334|367=>346|n=>n,λ|0=>0|1=>1|2=>2|3=>3|4=>4|5=>5|6=>6|7=>7|8=>8|9=>9|10=>10|11=>11|12=>12|13=>13|14=>14|15=>15|16=>16|17=>17|18=>18|19=>19|20=>20|21=>21|22=>50|23=>93|24=>28|25=>205|27=>145|28=>36|30=>40|31=>24|32=>219|34=>39|36=>168|37=>22|38=>23|40=>222|41=>198|43=>131|46=>180|47=>262|48=>182|51=>260|52=>274|53=>74|54=>245|55=>206|59=>199|60=>200|61=>150|64=>193|67=>221|68=>90|69=>97|70=>234|71=>235|72=>236|73=>237|74=>224|75=>225|76=>226|77=>227|80=>130|81=>123|83=>119|84=>238|85=>250|86=>251|101=>58|102=>100|103=>232|104=>41|105=>240|106=>241|108=>269|111=>81|112=>80|113=>203|114=>79|115=>194|116=>195|117=>196|118=>197|119=>270|124=>223|127=>243|128=>239|131=>201|137=>271|138=>272|139=>273|143=>276|144=>277|145=>278|146=>263|150=>228|151=>264|164=>255|165=>256|166=>257|167=>249|168=>252|169=>253|170=>254|171=>244|172=>246|173=>247|174=>248|175=>265|176=>266|209=>267|210=>268|211=>258|212=>259|213=>261|214=>275|232=>279|233=>280|238=>281|239=>282|240=>283|241=>284|242=>285|243=>286|244=>287|245=>288|246=>289|247=>290|248=>291|249=>292|n=>n,λ|1=>1|3=>5|4=>6|15=>3|16=>4|17=>2|18=>7|19=>8|n=>n⟩
theorem qir:Go.Proofs.Lays.n144 Tryz.prog qh4 where
 mixed:=by kernel_rfl
 f143:=Tryz.func259.trans (congrArg some (by kernel_rfl))
 f144:=Tryz.func233.trans (congrArg some (by kernel_rfl))
 f217:=Tryz.func263.trans (congrArg some (by kernel_rfl))
 f219:=Tryz.func277.trans (congrArg some (by kernel_rfl))
 f224:=Tryz.func251.trans (congrArg some (by kernel_rfl))
 f225:=Tryz.func252.trans (congrArg some (by kernel_rfl))
 f266:=Tryz.func283.trans (congrArg some (by kernel_rfl))
 f267:=Tryz.func292.trans (congrArg some (by kernel_rfl))
 f314:=Tryz.func306.trans (congrArg some (by kernel_rfl))
 t3:=Tryz.underlying3
 a3:=Tryz.isAgg3
 z3:=Tryz.sizeOf3
 v3:=Tryz.zeroValue3
 t4:=Tryz.underlying4
 a4:=Tryz.isAgg4
 z4:=Tryz.sizeOf4
 v4:=Tryz.zeroValue4
 t5:=Tryz.underlying5
 a5:=Tryz.isAgg5
 z5:=Tryz.sizeOf5
 v5:=Tryz.zeroValue5
 t9:=Tryz.underlying9
 a9:=Tryz.isAgg9
 z9:=Tryz.sizeOf9
 v9:=Tryz.zeroValue9
 t46:=Tryz.underlying180
 a46:=Tryz.isAgg180
 z46:=Tryz.sizeOf180
 v46:=Tryz.zeroValue180
 t51:=Tryz.underlying260
 a51:=Tryz.isAgg260
 z51:=Tryz.sizeOf260
 v51:=Tryz.zeroValue260
 t146:=Tryz.underlying263
 a146:=Tryz.isAgg263
 z146:=Tryz.sizeOf263
 v146:=Tryz.zeroValue263
 g1:=by kernel_rfl
def zl7 (t0:PV .str)(t1:PV .str):Option (PVs [.bool]×PVs []):=Go.Dn.zrp t0 t1
def zua:Ct:=⟨[(.bor,.str),(.bor,.str)],[(.bool,.b)],λx=>zl7 x.1 x.2.1⟩
theorem z0d:FnOk gl Tryz.prog 233 zua:=Go.Dn.qyi qir
def zt4 (t0:PV zf):Option (PVs [zf]×PVs []):=bif qw ((([]:PV zf)).length+t0.length) then some ((([]:PV zf)++t0,()),()) else none
def zzq:Ct:=⟨[(.bor,zf)],[(zf,(.row .b))],λx=>zt4 x.1⟩
def qif:Plan:=⟨[],[],0,0⟩
def qig:Cx:=⟨tab,arrs,[],[],gl,[]⟩
theorem qie:FnOk gl Tryz.prog 245 zzq:=
 qbx (cx:=qig) (pl:=qif) (dp:=0) (t3:=3) (te:=9) (T:=.str) (ztd zo4 (by unfold zbl;kernel_rfl) mix trivial trivial) Tryz.func245 (fn:=Tryz.f245) (rvs:=Tryz.f245.results.toList) rfl (by kernel_rfl) (by kernel_rfl) (by kernel_rfl) rfl rfl rfl rfl Tryz.underlying24 ⟨⟨⟨trivial,trivial⟩,trivial⟩,⟨trivial,trivial⟩⟩ (λx=>by kernel_rfl) (λx=>by kernel_rfl) (λx=>by kernel_rfl) (λx=>by kernel_rfl) (by kernel_rfl)
def qis:Go.Shelf.Ren:=⟨λ|0=>0|1=>1|2=>2|99=>213|100=>226|101=>214|102=>206|103=>218|104=>219|109=>244|119=>250|129=>302|137=>221|138=>258|143=>259|144=>233|145=>211|152=>207|153=>142|156=>247|165=>273|166=>274|169=>275|171=>205|172=>254|193=>154|195=>280|197=>281|205=>309|206=>255|207=>265|208=>256|209=>249|210=>260|211=>261|217=>263|218=>282|219=>277|220=>253|221=>215|224=>251|225=>252|226=>208|227=>209|228=>210|240=>286|241=>287|243=>248|244=>278|245=>279|246=>276|247=>293|260=>298|266=>283|267=>292|268=>257|276=>299|277=>300|279=>294|280=>295|281=>296|282=>297|283=>288|284=>289|285=>290|286=>291|287=>307|314=>306|316=>308|317=>301|318=>303|319=>304|320=>305|321=>312|322=>313|337=>310|338=>311|347=>314|348=>315|349=>316|350=>317|351=>318|352=>319|353=>320|354=>321|355=>322|356=>323|357=>324|358=>325|359=>326|360=>327|361=>328|362=>330|363=>333|364=>331|365=>332|366=>334|367=>346|n=>n,λ|0=>0|1=>1|2=>2|3=>3|4=>4|5=>5|6=>6|7=>7|8=>8|9=>9|10=>10|11=>11|12=>12|13=>13|14=>14|15=>15|16=>16|17=>17|18=>18|19=>19|20=>20|21=>21|22=>50|23=>93|24=>28|25=>205|27=>145|28=>36|30=>40|31=>24|32=>219|34=>39|36=>168|37=>22|38=>23|40=>222|41=>198|43=>131|46=>180|47=>262|48=>182|51=>260|52=>274|53=>74|54=>245|55=>206|59=>199|60=>200|61=>150|64=>193|67=>221|68=>90|69=>97|70=>234|71=>235|72=>236|73=>237|74=>224|75=>225|76=>226|77=>227|80=>130|81=>123|83=>119|84=>238|85=>250|86=>251|101=>58|102=>100|103=>232|104=>41|105=>240|106=>241|108=>269|111=>81|112=>80|113=>203|114=>79|115=>194|116=>195|117=>196|118=>197|119=>270|124=>223|127=>243|128=>239|131=>201|137=>271|138=>272|139=>273|143=>276|144=>277|145=>278|146=>263|150=>228|151=>264|164=>255|165=>256|166=>257|167=>249|168=>252|169=>253|170=>254|171=>244|172=>246|173=>247|174=>248|175=>265|176=>266|209=>267|210=>268|211=>258|212=>259|213=>261|214=>275|232=>279|233=>280|238=>281|239=>282|240=>283|241=>284|242=>285|243=>286|244=>287|245=>288|246=>289|247=>290|248=>291|249=>292|n=>n,λ|1=>1|3=>5|4=>6|15=>3|16=>4|17=>2|18=>7|19=>8|n=>n⟩
theorem qk4:Go.Proofs.Lays.n156 Tryz.prog qis where
 mixed:=by kernel_rfl
 f156:=Tryz.func247.trans (congrArg some (by kernel_rfl))
 f165:=Tryz.func273.trans (congrArg some (by kernel_rfl))
 f166:=Tryz.func274.trans (congrArg some (by kernel_rfl))
 f169:=Tryz.func275.trans (congrArg some (by kernel_rfl))
 f240:=Tryz.func286.trans (congrArg some (by kernel_rfl))
 f241:=Tryz.func287.trans (congrArg some (by kernel_rfl))
 f276:=Tryz.func299.trans (congrArg some (by kernel_rfl))
 f277:=Tryz.func300.trans (congrArg some (by kernel_rfl))
 t0:=Tryz.underlying0
 a0:=Tryz.isAgg0
 z0:=Tryz.sizeOf0
 v0:=Tryz.zeroValue0
 t3:=Tryz.underlying3
 a3:=Tryz.isAgg3
 z3:=Tryz.sizeOf3
 v3:=Tryz.zeroValue3
 t4:=Tryz.underlying4
 a4:=Tryz.isAgg4
 z4:=Tryz.sizeOf4
 v4:=Tryz.zeroValue4
 t9:=Tryz.underlying9
 a9:=Tryz.isAgg9
 z9:=Tryz.sizeOf9
 v9:=Tryz.zeroValue9
 t20:=Tryz.underlying20
 a20:=Tryz.isAgg20
 z20:=Tryz.sizeOf20
 v20:=Tryz.zeroValue20
 t31:=Tryz.underlying24
 a31:=Tryz.isAgg24
 z31:=Tryz.sizeOf24
 v31:=Tryz.zeroValue24
 t37:=Tryz.underlying22
 a37:=Tryz.isAgg22
 z37:=Tryz.sizeOf22
 v37:=Tryz.zeroValue22
 t70:=Tryz.underlying234
 a70:=Tryz.isAgg234
 z70:=Tryz.sizeOf234
 v70:=Tryz.zeroValue234
 t72:=Tryz.underlying236
 a72:=Tryz.isAgg236
 z72:=Tryz.sizeOf236
 v72:=Tryz.zeroValue236
 t75:=Tryz.underlying225
 a75:=Tryz.isAgg225
 z75:=Tryz.sizeOf225
 v75:=Tryz.zeroValue225
 t76:=Tryz.underlying226
 a76:=Tryz.isAgg226
 z76:=Tryz.sizeOf226
 v76:=Tryz.zeroValue226
 t127:=Tryz.underlying243
 a127:=Tryz.isAgg243
 z127:=Tryz.sizeOf243
 v127:=Tryz.zeroValue243
 t164:=Tryz.underlying255
 a164:=Tryz.isAgg255
 z164:=Tryz.sizeOf255
 v164:=Tryz.zeroValue255
def qih:Go.Shelf.Ren:=⟨λ|0=>0|1=>1|2=>2|99=>213|100=>226|101=>214|102=>206|103=>218|104=>219|109=>244|119=>250|129=>302|137=>221|138=>258|143=>259|144=>233|145=>211|152=>207|153=>142|156=>247|165=>273|166=>274|169=>275|171=>205|172=>254|193=>154|195=>280|197=>281|205=>309|206=>255|207=>265|208=>256|209=>249|210=>260|211=>261|217=>263|218=>282|219=>277|220=>253|221=>215|224=>251|225=>252|226=>208|227=>209|228=>210|240=>286|241=>287|243=>248|244=>278|245=>279|246=>276|247=>293|260=>298|266=>283|267=>292|268=>257|276=>299|277=>300|279=>294|280=>295|281=>296|282=>297|283=>288|284=>289|285=>290|286=>291|287=>307|314=>306|316=>308|317=>301|318=>303|319=>304|320=>305|321=>312|322=>313|337=>310|338=>311|347=>314|348=>315|349=>316|350=>317|351=>318|352=>319|353=>320|354=>321|355=>322|356=>323|357=>324|358=>325|359=>326|360=>327|361=>328|362=>330|363=>333|364=>331|365=>332|366=>334|367=>346|n=>n,λ|0=>0|1=>1|2=>2|3=>3|4=>4|5=>5|6=>6|7=>7|8=>8|9=>9|10=>10|11=>11|12=>12|13=>13|14=>14|15=>15|16=>16|17=>17|18=>18|19=>19|20=>20|21=>21|22=>50|23=>93|24=>28|25=>205|27=>145|28=>36|30=>40|31=>24|32=>219|34=>39|36=>168|37=>22|38=>23|40=>222|41=>198|43=>131|46=>180|47=>262|48=>182|51=>260|52=>274|53=>74|54=>245|55=>206|59=>199|60=>200|61=>150|64=>193|67=>221|68=>90|69=>97|70=>234|71=>235|72=>236|73=>237|74=>224|75=>225|76=>226|77=>227|80=>130|81=>123|83=>119|84=>238|85=>250|86=>251|101=>58|102=>100|103=>232|104=>41|105=>240|106=>241|108=>269|111=>81|112=>80|113=>203|114=>79|115=>194|116=>195|117=>196|118=>197|119=>270|124=>223|127=>243|128=>239|131=>201|137=>271|138=>272|139=>273|143=>276|144=>277|145=>278|146=>263|150=>228|151=>264|164=>255|165=>256|166=>257|167=>249|168=>252|169=>253|170=>254|171=>244|172=>246|173=>247|174=>248|175=>265|176=>266|209=>267|210=>268|211=>258|212=>259|213=>261|214=>275|232=>279|233=>280|238=>281|239=>282|240=>283|241=>284|242=>285|243=>286|244=>287|245=>288|246=>289|247=>290|248=>291|249=>292|n=>n,λ|1=>1|3=>5|4=>6|15=>3|16=>4|17=>2|18=>7|19=>8|n=>n⟩
theorem qj8:Go.Proofs.Builder.Extra Tryz.prog qih where
 sizeBuilder:=by kernel_rfl
 liesBuilder:=by kernel_rfl
 t5:=Tryz.underlying5
 a5:=Tryz.isAgg5
 z5:=Tryz.sizeOf5
 v5:=Tryz.zeroValue5
 infoByte:=by kernel_rfl
 cellsByte:=by kernel_rfl
 sizeByte:=by kernel_rfl
 neB5:=by decide+kernel
def zpj (t0:PV zf)(t1:PV .str):Option (PVs [.str]×PVs []):=Go.Dn.ztr t0 t1
def z2i:Ct:=⟨[(.bor,zf),(.bor,.str)],[(.str,.b)],λx=>zpj x.1 x.2.1⟩
theorem qn5:FnOk gl Tryz.prog 247 z2i:=Go.Dn.jar qk4 qj8
def qhc:Go.Shelf.Ren:=⟨λ|0=>0|1=>1|2=>2|99=>213|100=>226|101=>214|102=>206|103=>218|104=>219|109=>244|119=>250|129=>302|137=>221|138=>258|143=>259|144=>233|145=>211|152=>207|153=>142|156=>247|165=>273|166=>274|169=>275|171=>205|172=>254|193=>154|195=>280|197=>281|205=>309|206=>255|207=>265|208=>256|209=>249|210=>260|211=>261|217=>263|218=>282|219=>277|220=>253|221=>215|224=>251|225=>252|226=>208|227=>209|228=>210|240=>286|241=>287|243=>248|244=>278|245=>279|246=>276|247=>293|260=>298|266=>283|267=>292|268=>257|276=>299|277=>300|279=>294|280=>295|281=>296|282=>297|283=>288|284=>289|285=>290|286=>291|287=>307|314=>306|316=>308|317=>301|318=>303|319=>304|320=>305|321=>312|322=>313|337=>310|338=>311|347=>314|348=>315|349=>316|350=>317|351=>318|352=>319|353=>320|354=>321|355=>322|356=>323|357=>324|358=>325|359=>326|360=>327|361=>328|362=>330|363=>333|364=>331|365=>332|366=>334|367=>346|n=>n,λ|0=>0|1=>1|2=>2|3=>3|4=>4|5=>5|6=>6|7=>7|8=>8|9=>9|10=>10|11=>11|12=>12|13=>13|14=>14|15=>15|16=>16|17=>17|18=>18|19=>19|20=>20|21=>21|22=>50|23=>93|24=>28|25=>205|27=>145|28=>36|30=>40|31=>24|32=>219|34=>39|36=>168|37=>22|38=>23|40=>222|41=>198|43=>131|46=>180|47=>262|48=>182|51=>260|52=>274|53=>74|54=>245|55=>206|59=>199|60=>200|61=>150|64=>193|67=>221|68=>90|69=>97|70=>234|71=>235|72=>236|73=>237|74=>224|75=>225|76=>226|77=>227|80=>130|81=>123|83=>119|84=>238|85=>250|86=>251|101=>58|102=>100|103=>232|104=>41|105=>240|106=>241|108=>269|111=>81|112=>80|113=>203|114=>79|115=>194|116=>195|117=>196|118=>197|119=>270|124=>223|127=>243|128=>239|131=>201|137=>271|138=>272|139=>273|143=>276|144=>277|145=>278|146=>263|150=>228|151=>264|164=>255|165=>256|166=>257|167=>249|168=>252|169=>253|170=>254|171=>244|172=>246|173=>247|174=>248|175=>265|176=>266|209=>267|210=>268|211=>258|212=>259|213=>261|214=>275|232=>279|233=>280|238=>281|239=>282|240=>283|241=>284|242=>285|243=>286|244=>287|245=>288|246=>289|247=>290|248=>291|249=>292|n=>n,λ|1=>1|3=>5|4=>6|15=>3|16=>4|17=>2|18=>7|19=>8|n=>n⟩
theorem qhd:Go.Proofs.Lays.n217 Tryz.prog qhc where
 mixed:=by kernel_rfl
 f217:=Tryz.func263.trans (congrArg some (by kernel_rfl))
 f266:=Tryz.func283.trans (congrArg some (by kernel_rfl))
 t3:=Tryz.underlying3
 a3:=Tryz.isAgg3
 z3:=Tryz.sizeOf3
 v3:=Tryz.zeroValue3
 t5:=Tryz.underlying5
 a5:=Tryz.isAgg5
 z5:=Tryz.sizeOf5
 v5:=Tryz.zeroValue5
 t9:=Tryz.underlying9
 a9:=Tryz.isAgg9
 z9:=Tryz.sizeOf9
 v9:=Tryz.zeroValue9
def zt3 (t0:PV .str)(t1:PV (.int .u8)):Option (PVs [(.int .i64)]×PVs []):=Go.Dn.zqm t0 t1
def zzg:Ct:=⟨[(.bor,.str),(.bor,(.int .u8))],[((.int .i64),.b)],λx=>zt3 x.1 x.2.1⟩
theorem qhl:FnOk gl Tryz.prog 263 zzg:=Go.Dn.qu8 qhd
def qhe:Go.Shelf.Ren:=⟨λ|0=>0|1=>1|2=>2|99=>213|100=>226|101=>214|102=>206|103=>218|104=>219|109=>244|119=>250|129=>302|137=>221|138=>258|143=>259|144=>233|145=>211|152=>207|153=>142|156=>247|165=>273|166=>274|169=>275|171=>205|172=>254|193=>154|195=>280|197=>281|205=>309|206=>255|207=>265|208=>256|209=>249|210=>260|211=>261|217=>263|218=>282|219=>277|220=>253|221=>215|224=>251|225=>252|226=>208|227=>209|228=>210|240=>286|241=>287|243=>248|244=>278|245=>279|246=>276|247=>293|260=>298|266=>283|267=>292|268=>257|276=>299|277=>300|279=>294|280=>295|281=>296|282=>297|283=>288|284=>289|285=>290|286=>291|287=>307|314=>306|316=>308|317=>301|318=>303|319=>304|320=>305|321=>312|322=>313|337=>310|338=>311|347=>314|348=>315|349=>316|350=>317|351=>318|352=>319|353=>320|354=>321|355=>322|356=>323|357=>324|358=>325|359=>326|360=>327|361=>328|362=>330|363=>333|364=>331|365=>332|366=>334|367=>346|n=>n,λ|0=>0|1=>1|2=>2|3=>3|4=>4|5=>5|6=>6|7=>7|8=>8|9=>9|10=>10|11=>11|12=>12|13=>13|14=>14|15=>15|16=>16|17=>17|18=>18|19=>19|20=>20|21=>21|22=>50|23=>93|24=>28|25=>205|27=>145|28=>36|30=>40|31=>24|32=>219|34=>39|36=>168|37=>22|38=>23|40=>222|41=>198|43=>131|46=>180|47=>262|48=>182|51=>260|52=>274|53=>74|54=>245|55=>206|59=>199|60=>200|61=>150|64=>193|67=>221|68=>90|69=>97|70=>234|71=>235|72=>236|73=>237|74=>224|75=>225|76=>226|77=>227|80=>130|81=>123|83=>119|84=>238|85=>250|86=>251|101=>58|102=>100|103=>232|104=>41|105=>240|106=>241|108=>269|111=>81|112=>80|113=>203|114=>79|115=>194|116=>195|117=>196|118=>197|119=>270|124=>223|127=>243|128=>239|131=>201|137=>271|138=>272|139=>273|143=>276|144=>277|145=>278|146=>263|150=>228|151=>264|164=>255|165=>256|166=>257|167=>249|168=>252|169=>253|170=>254|171=>244|172=>246|173=>247|174=>248|175=>265|176=>266|209=>267|210=>268|211=>258|212=>259|213=>261|214=>275|232=>279|233=>280|238=>281|239=>282|240=>283|241=>284|242=>285|243=>286|244=>287|245=>288|246=>289|247=>290|248=>291|249=>292|n=>n,λ|1=>1|3=>5|4=>6|15=>3|16=>4|17=>2|18=>7|19=>8|n=>n⟩
theorem qhw:Go.Proofs.Lays.n219 Tryz.prog qhe where
 mixed:=by kernel_rfl
 f217:=Tryz.func263.trans (congrArg some (by kernel_rfl))
 f219:=Tryz.func277.trans (congrArg some (by kernel_rfl))
 f224:=Tryz.func251.trans (congrArg some (by kernel_rfl))
 f225:=Tryz.func252.trans (congrArg some (by kernel_rfl))
 f266:=Tryz.func283.trans (congrArg some (by kernel_rfl))
 f267:=Tryz.func292.trans (congrArg some (by kernel_rfl))
 f314:=Tryz.func306.trans (congrArg some (by kernel_rfl))
 t3:=Tryz.underlying3
 a3:=Tryz.isAgg3
 z3:=Tryz.sizeOf3
 v3:=Tryz.zeroValue3
 t4:=Tryz.underlying4
 a4:=Tryz.isAgg4
 z4:=Tryz.sizeOf4
 v4:=Tryz.zeroValue4
 t5:=Tryz.underlying5
 a5:=Tryz.isAgg5
 z5:=Tryz.sizeOf5
 v5:=Tryz.zeroValue5
 t9:=Tryz.underlying9
 a9:=Tryz.isAgg9
 z9:=Tryz.sizeOf9
 v9:=Tryz.zeroValue9
 t46:=Tryz.underlying180
 a46:=Tryz.isAgg180
 z46:=Tryz.sizeOf180
 v46:=Tryz.zeroValue180
 t51:=Tryz.underlying260
 a51:=Tryz.isAgg260
 z51:=Tryz.sizeOf260
 v51:=Tryz.zeroValue260
 t146:=Tryz.underlying263
 a146:=Tryz.isAgg263
 z146:=Tryz.sizeOf263
 v146:=Tryz.zeroValue263
 g1:=by kernel_rfl
def zgc (t0:PV .str)(t1:PV .str):Option (PVs [(.int .i64)]×PVs []):=Go.Dn.zll t0 t1
def zzj:Ct:=⟨[(.bor,.str),(.bor,.str)],[((.int .i64),.b)],λx=>zgc x.1 x.2.1⟩
theorem qhx:FnOk gl Tryz.prog 277 zzj:=Go.Dn.qu7 jc1 qhw
section
open Go.RowKit Go.Lib
set_option maxHeartbeats 1000000 in
set_option maxRecDepth 100000 in
theorem qcs (k:Int)(s:ByteArray)(w:World):Calls Tryz.prog 236 #[.agg #[.int .i64 k,.string s]] w λe w'=>e=.returned (.bool (k !=1))/\w'=w.alloc (.cells #[.int .i64 k,.string s] 129):=by
 go_enter Tryz.func236,Tryz.ntmps236
 go_wp2
 go_ret
 refine⟨?_,rfl⟩;congr 2
set_option maxHeartbeats 1000000 in
set_option maxRecDepth 100000 in
theorem q7s (A:Option Addr)(n c:Nat)(w:World)(K:Nat->Int)(S:Nat->ByteArray)(J:Nat->World->Prop)(hn:(n:Int)<=1099511627776)
 (h0:J 0 w)(hal:∀j w o,J j w->J j (w.alloc o))
 (hJ:∀j w,j<n->J j w->∃g,A=some ⟨g,0,none⟩/\w.cell? ⟨g,j*2,none⟩=some (.int .i64 (K j))/\w.cell? ⟨g,j*2+1,none⟩=some (.string (S j))/\(K j=1->J (j+1) w)):
 Calls Tryz.prog 266 #[.slice A n c,.func (.func 236) #[] #[]] w λe w'=>(∃i:Nat,i<n/\e=.returned (.int .i64 i)/\K i≠1/\J i w')\/(e=.returned (.int .i64 (-1))/\J n w'):=by
 go_enter Tryz.func266,Tryz.ntmps266
 go_wp2
 go_loopw [8] (λs8 wr=>∃i:Nat,i<=n/\s8=.int .i64 i/\J i wr) (λs8 _=>n -(Go.RowKit.intOf s8).toNat)
 case atStart=>exact⟨0,ye1 _,rfl,h0⟩
 case round=>
  obtain⟨i,hi,rfl,hr⟩:=hrel;by_cases hlt:i<n
  ·obtain⟨g,rfl,h1,h2,h3⟩:=hJ i _ hlt hr
   have hz:(i:Int)<(n:Int):=by omega
   have hD:=qcs (K i) (S i) wr;by_cases hk:K i=1
   ·rw[hk] at hD h1
    go_wp2_with (go_at_fn 236;go_fit hD;rintro e w' ⟨v',rfl,hw⟩)
    refine hD.mono ?_;rintro e w2 ⟨rfl,rfl⟩
    go_wp2
    exact⟨⟨i+1,hlt,by simp,hal _ _ _ (h3 hk)⟩,by simp[Go.RowKit.intOf];omega⟩
   ·have hkb:(K i !=1)=true:=by simp[hk]
    rw[hkb] at hD
    go_wp2_with (go_at_fn 236;go_fit hD;rintro e w' ⟨v',rfl,hw⟩)
    refine hD.mono ?_;rintro e w2 ⟨rfl,rfl⟩
    go_wp2
    go_ret
    exact .inl ⟨i,hlt,rfl,hk,hal _ _ _ hr⟩
  ·have hz:¬(i:Int)<(n:Int):=by omega
   obtain rfl:i=n:=by omega
   go_wp2
   go_ret
   exact .inr ⟨rfl,hr⟩
set_option maxHeartbeats 4000000 in
set_option maxRecDepth 100000 in
theorem q7t (A:Option Addr)(n c:Nat)(w:World)(K:Nat->Int)(S:Nat->ByteArray)(J E:Nat->World->Prop)(I:Nat->Nat->World->Prop)(hn:(n:Int)<=1099511627776)(hnc:n<=c)(hc:c<=9223372036854775807)
 (h0:J 0 w)(hal:∀j w o,J j w->J j (w.alloc o))(ial:∀i j w o,I i j w->I i j (w.alloc o))
 (hJ:∀j w,j<n->J j w->∃g,A=some ⟨g,0,none⟩/\w.cell? ⟨g,j*2,none⟩=some (.int .i64 (K j))/\w.cell? ⟨g,j*2+1,none⟩=some (.string (S j))/\(K j=1->J (j+1) w)/\(K j≠1->I j (j+1) w))
 (hI:∀i j w,i<j->j<=n->I i j w->∃g,A=some ⟨g,0,none⟩/\(∀t,t<n*2->(w.cell? ⟨g,t,none⟩).isSome=true)/\(∀t,t<n*2->w.frozen? ⟨g,t,none⟩=false)/\
   (j<n->w.cell? ⟨g,j*2,none⟩=some (.int .i64 (K j))/\w.cell? ⟨g,j*2+1,none⟩=some (.string (S j))/\(K j≠1->I i (j+1) w)/\
     (K j=1->I (i+1) (j+1) ((w.setCell ⟨g,i*2,none⟩ (.int .i64 (K j))).setCell ⟨g,i*2+1,none⟩ (.string (S j)))))/\
   (j=n->E i (w.setCells g (i*2) (Go.Dn.zRow (n -i)))))
 (hE:∀w,J n w->E n w):
 Calls Tryz.prog 234 #[.slice A n c,.func (.func 236) #[] #[]] w λe w'=>∃i:Nat,i<=n/\e=.returned (.slice A i c)/\E i w':=by
 have hidx:=q7s A n c w K S J hn h0 hal (λj w hj h=>by obtain⟨g,a1,a2,a3,a4,_⟩:=hJ j w hj h;exact⟨g,a1,a2,a3,a4⟩)
 go_enter Tryz.func234,Tryz.ntmps234
 go_wp2_with (go_at_fn 266;go_fit hidx;rintro e w' ⟨v',rfl,hw⟩)
 refine hidx.mono ?_;rintro e w1 (⟨i0,hi0,rfl,hk0,hj0⟩|⟨rfl,hj0⟩)
 ·obtain⟨g,rfl,b1,b2,_,b4⟩:=hJ i0 w1 hi0 hj0
  have hI0:=b4 hk0;have hz0:¬((i0:Int)= -1):=by omega
  have hw0:IntKind.wrap .i64 ((i0:Int)+1)=((i0+1:Nat):Int):=by rw[IntKind.wrap_i64];omega
  go_wp2
  go_loopw [5,6] (λs5 s6 wr=>∃i j:Nat,i<j/\j<=n/\s5=.int .i64 i/\s6=.int .i64 j/\I i j wr) (λ_ s6 _=>n -(Go.RowKit.intOf s6).toNat)
  case atStart=>exact⟨i0,i0+1,by omega,by omega,rfl,rfl,hI0⟩
  case round=>
   obtain⟨i,j,hij,hj,rfl,rfl,hr⟩:=hrel;obtain⟨g',hg,d1,d2,d3,d4⟩:=hI i j _ hij hj hr;obtain rfl:g=g':=by cases hg;rfl
   by_cases hlt:j<n
   ·obtain⟨c1,c2,c3,c4⟩:=d3 hlt
    have hz:(j:Int)<(n:Int):=by omega
    have hzi:(i:Int)<(n:Int):=by omega
    have e1:=d1 (i*2) (by omega);have e2:=d1 (i*2+1) (by omega);have f1:=d2 (i*2) (by omega);have f2:=d2 (i*2+1) (by omega);have hD:=qcs (K j) (S j) (wr.alloc (.cells #[.int .i64 (K j),.string (S j)] 129));by_cases hk:K j=1
    ·rw[hk] at hD c1
     have c4':=c4 hk;rw[hk] at c4'
     go_wp2_with (go_at_fn 236;go_fit hD;rintro e w' ⟨v',rfl,hw⟩)
     refine hD.mono ?_;rintro e w2 ⟨rfl,rfl⟩;obtain⟨x1,hx1⟩:=Option.isSome_iff_exists.1 e1;obtain⟨x2,hx2⟩:=Option.isSome_iff_exists.1 e2;obtain⟨W2,hW2⟩:∃W2,W2=(wr.alloc (.cells #[.int .i64 1,.string (S j)] 129)).alloc (.cells #[.int .i64 1,.string (S j)] 129):=⟨_,rfl⟩;have p1:W2.cell? ⟨g,i*2,none⟩=some x1:=by rw[hW2];exact Lib.cell?_alloc_some _ (Lib.cell?_alloc_some _ hx1)
     have p2:W2.cell? ⟨g,i*2+1,none⟩=some x2:=by rw[hW2];exact Lib.cell?_alloc_some _ (Lib.cell?_alloc_some _ hx2)
     have q1:W2.frozen? ⟨g,i*2,none⟩=false:=by rw[hW2];rw[frozen?_alloc_cells,frozen?_alloc_cells];exact f1
     have q2:W2.frozen? ⟨g,i*2+1,none⟩=false:=by rw[hW2];rw[frozen?_alloc_cells,frozen?_alloc_cells];exact f2
     have p0:W2.cell? ⟨wr.heap.size,0,none⟩=some (.int .i64 1):=by rw[hW2];exact Lib.cell?_alloc_some _ (by rw[World.cell?_alloc_new];rfl)
     have p3:W2.cell? ⟨wr.heap.size,1,none⟩=some (.string (S j)):=by rw[hW2];exact Lib.cell?_alloc_some _ (by rw[World.cell?_alloc_new];rfl)
     have hI2:=ial i j _ (.cells #[.int .i64 1,.string (S j)] 129) (ial i j _ (.cells #[.int .i64 1,.string (S j)] 129) hr);rw[<-hW2] at hI2;obtain⟨g2,hg2,_,_,r3,_⟩:=hI i j _ hij hj hI2;obtain rfl:g=g2:=by cases hg2;rfl
     have hfin:=(r3 hlt).2.2.2 hk;rw[hk] at hfin;have p4:(W2.setCell ⟨g,i*2,none⟩ (.int .i64 1)).cell? ⟨g,i*2+1,none⟩=some x2:=by rw[World.cell?_setCell_other _ _ _ _ (by simp)];exact p2
     have q4:(W2.setCell ⟨g,i*2,none⟩ (.int .i64 1)).frozen? ⟨g,i*2+1,none⟩=false:=by rw[World.frozen?_setCell];exact q2
     subst hW2
     go_wp2
     refine⟨?_,by simp[Go.RowKit.intOf];omega⟩;exact⟨_,_,_,_,_,_,_,_,_,_,_,_,_,_,_,_,_,_,_,_,_,_,_,⟨i+1,j+1,by omega,hlt,by simp,by simp,hfin⟩,rfl⟩
    ·have hkb:(K j !=1)=true:=by simp[hk]
     rw[hkb] at hD
     go_wp2_with (go_at_fn 236;go_fit hD;rintro e w' ⟨v',rfl,hw⟩)
     refine hD.mono ?_;rintro e w2 ⟨rfl,rfl⟩
     go_wp2
     refine⟨?_,by simp[Go.RowKit.intOf];omega⟩;exact⟨_,_,_,_,_,_,_,_,_,_,_,_,_,_,_,_,_,_,_,_,_,_,_,⟨i,j+1,by omega,hlt,rfl,by simp,ial _ _ _ _ (ial _ _ _ _ (c3 hk))⟩,rfl⟩
   ·have hz:¬(j:Int)<(n:Int):=by omega
    obtain rfl:j=n:=by omega
    have hcl:∀ty,(Builtin.clear_ #[66] ty #[.slice (some ⟨g,i*2,none⟩) (j -i) (c -i)]).run Tryz.prog wr=.ok (.tuple #[]) (wr.setCells g (i*2) (Go.Dn.zRow (j -i))):=
     λty=>Go.Dn.qrw wr 66 129 ty Tryz.underlying66 (λw=>by kernel_rfl) g (i*2) (j -i) (c -i) (by omega) (λt ht=>d1 _ (by omega)) (λt ht=>d2 _ (by omega))
    have hz1:(i:Int)<=(j:Int):=by omega
    have hz2:i<=j:=by omega
    have hz3:i<=c:=by omega
    have hz4:(i:Int)<=(c:Int):=by omega
    have hz5:¬c=i:=by omega
    go_wp2
    go_ret
    exact⟨i,by omega,rfl,d4 trivial⟩
 ·go_wp2
  go_ret
  exact⟨n,ym0 _,rfl,hE _ hj0⟩
set_option maxHeartbeats 1000000 in
set_option maxRecDepth 100000 in
theorem q4b (v:Value)(w:World)(n:Nat)(Q:Option Addr->Nat->World->Prop)(E:Option Addr->Nat->Nat->World->Prop)
 (hC:Calls Tryz.prog 235 #[v] w λe w'=>∃A cap,e=.returned (.slice A n cap)/\Q A cap w')
 (hD:∀A cap w1,Q A cap w1->Calls Tryz.prog 234 #[.slice A n cap,.func (.func 236) #[] #[]] w1 λe w'=>∃i:Nat,i<=n/\e=.returned (.slice A i cap)/\E A cap i w'):
 Calls Tryz.prog 172 #[v] w λe w'=>∃A cap i,i<=n/\e=.returned (.slice A i cap)/\E A cap i w':=by
 go_enter Tryz.func172,Tryz.ntmps172
 go_wp2_with (go_at_fn 235;go_fit hC;rintro e w' ⟨A,cap,rfl,hw⟩)
 refine hC.mono ?_;rintro e w1 ⟨A,cap,rfl,hw⟩;have hD':=hD A cap w1 hw
 go_wp2_with (go_at_fn 234;go_fit hD';rintro e w' ⟨A,cap,rfl,hw⟩)
 refine hD'.mono ?_;rintro e w2 ⟨i,hi,rfl,hE⟩
 go_wp2
 go_ret
 exact⟨A,cap,i,hi,rfl,hE⟩
end
def qj9 (t0:PV zi):Option (PVs [zi]×PVs []):=bif qw ((([]:PV zi)).length+t0.length) then some ((([]:PV zi)++t0,()),()) else none
def qjs:Ct:=⟨[(.bor,zi)],[(zi,(.row (.pr .b (.pr .b .b))))],λx=>qj9 x.1⟩
def qjt:Plan:=⟨[],[],0,0⟩
def qju:Cx:=⟨tab,arrs,[],[],gl,[]⟩
theorem qjv:FnOk gl Tryz.prog 235 qjs:=
 qbx (cx:=qju) (pl:=qjt) (dp:=0) (t3:=3) (te:=129) (T:=zo) (ztd zo4 (by unfold zbl;kernel_rfl) mix trivial trivial) Tryz.func235 (fn:=Tryz.f235) (rvs:=Tryz.f235.results.toList) rfl (by kernel_rfl) (by kernel_rfl) (by kernel_rfl) rfl rfl rfl rfl Tryz.underlying66 ⟨⟨⟨trivial,trivial⟩,trivial⟩,⟨trivial,trivial⟩⟩ (λx=>by kernel_rfl) (λx=>by kernel_rfl) (λx=>by kernel_rfl) (λx=>by kernel_rfl) (by kernel_rfl)
def znq (t0:PV zi):Option (PVs [zi]×PVs []):=Go.Dn.zoy 129 t0
def qaw:Ct:=⟨[(.bor,zi)],[(zi,(.row (.pr .b (.pr .b .b))))],λx=>znq x.1⟩
theorem q4c:FnOk gl Tryz.prog 172 qaw:=Go.Dn.jas (kC:=235) (kD:=234) (kF:=236) ⟨_,Tryz.func172,rfl,by kernel_rfl⟩ qjv q7t q4b
def qsc:List Out:=[⟨.normal,⟨[],[0,1,5,6,7],[]⟩,mkSh 34 [(0,.val .str .b),(1,.val (.int .u8) .b),(5,.val zf (.row .b)),(6,.val (.int .i64) .b),(7,.val (.int .i64) .b)]⟩]
def qp2:List Sh:=mkSh 34 [(0,.val .str .b),(1,.val (.int .u8) .b),(5,.val zf (.row .b)),(6,.val (.int .i64) .b),(7,.val (.int .i64) .b)]
def qsd:List Out:=[⟨.exit 0,⟨[],[0,5,6],[]⟩,mkSh 34 [(0,.val .str .b),(5,.val zf (.row .b)),(6,.val (.int .i64) .b)]⟩]
def zgj (t0:PV .str)(t1:PV (.int .u8))(t5:PV zf)(t6:PV (.int .i64))(t7:PV (.int .i64)):Option ((PV .str×PV (.int .u8)×PV zf×PV (.int .i64)×PV (.int .i64)×Unit)⊕((PV .str×PV zf×PV (.int .i64)×Unit))):=
 bif (decide (t7<(t0.length:Int))) then
  ((
    bif inB t7 t0.length then
     bif (((t0.getD t7.toNat 0).toNat:Int)==t1) then
      bif cutB t6 t7 t0.length then
       bif qw (t5.length+[(cutL t6 t7 t0)].length) then
        some (t0,t1,(t5++[(cutL t6 t7 t0)]),(IntKind.wrap .i64 (t7+1)),t7,())
       else
        none
      else
       none
     else
      some (t0,t1,t5,t6,t7,())
    else
     none:Option ((PV .str×PV (.int .u8)×PV zf×PV (.int .i64)×PV (.int .i64)×Unit)))).bind λj1=>
    some (.inl (j1.1,j1.2.1,j1.2.2.1,j1.2.2.2.1,(IntKind.wrap .i64 (j1.2.2.2.2.1+1)),()))
 else
  some (.inr (t0,t5,t6,()))
def zh1:PV .str×PV (.int .u8)×PV zf×PV (.int .i64)×PV (.int .i64)×Unit->Option ((PV .str×PV zf×PV (.int .i64)×Unit)):=fix λd=>zgj d.1 d.2.1 d.2.2.1 d.2.2.2.1 d.2.2.2.2.1
def z3i:Lp:=⟨⟨[],[0,1,5,6,7],[]⟩,qp2,qsd,λd=>zgj d.1 d.2.1 d.2.2.1 d.2.2.2.1 d.2.2.2.2.1⟩
def qvo:Plan:=⟨[(5,qsc)],[(4,z3i)],0,0⟩
def ziq (t0:PV .str)(t1:PV (.int .u8)):Option (PVs [zf]×PVs []):=
 (zh1 (t0,t1,[],0,0,())).bind λl3=>
   bif cutB l3.2.2.1 (l3.1.length:Int) l3.1.length then
    bif qw (l3.2.1.length+[(cutL l3.2.2.1 (l3.1.length:Int) l3.1)].length) then
     some (((l3.2.1++[(cutL l3.2.2.1 (l3.1.length:Int) l3.1)]),()),())
    else
     none
   else
    none
def zp1:Ct:=⟨[(.bor,.str),(.bor,(.int .u8))],[(zf,(.row .b))],λx=>ziq x.1 x.2.1⟩
def qvp:Cx:=⟨tab,arrs,[],[],gl,[]⟩
theorem zvg:FnOk gl Tryz.prog 193 zp1:=
 fo qvp qvo 0 (oz trivial trivial) Tryz.func193 (by kernel_rfl) (by kernel_rfl) (by kernel_rfl)
  (ll 1 (by kernel_rfl) (lc z3i (by kernel_rfl) (λd=>by kernel_rfl) trivial)) (λx=>by kernel_rfl)
def q7u:Plan:=⟨[],[],0,0⟩
def zb3 (t0:PV (.int .i64))(t1:PV (.int .i64))(t2:PV (.int .i64)):Option (PVs [.bool]×PVs []):=
 bif (decide (t0>=t1)) then
  some (((decide (t0<=t2)),()),())
 else
  some ((false,()),())
def zgx:Ct:=⟨[(.bor,(.int .i64)),(.bor,(.int .i64)),(.bor,(.int .i64))],[(.bool,.b)],λx=>zb3 x.1 x.2.1 x.2.2.1⟩
def q7v:Cx:=⟨tab,arrs,[],[],gl,[]⟩
theorem zi1:FnOk gl Tryz.prog 114 zgx:=
 fo q7v q7u 0 (oz trivial trivial) Tryz.func114 (by kernel_rfl) (by kernel_rfl) (by kernel_rfl)
  (ll 0 (by kernel_rfl) trivial) (λx=>by kernel_rfl)
def qvq:List Out:=[⟨.normal,⟨[],[0,18,30,31,32,33],[]⟩,mkSh 44 [(0,.val .str .b),(18,.val .bool .b)]⟩]
def qvr:List Out:=[⟨.normal,⟨[],[0,3,4,34],[]⟩,mkSh 44 [(0,.val .str .b),(3,.val (.int .i64) .b),(4,.val (.int .i64) .b),(34,.val .bool .b)]⟩]
def qse:List Sh:=mkSh 44 [(0,.val .str .b),(3,.val (.int .i64) .b),(4,.val (.int .i64) .b)]
def qvs:List Out:=[⟨.exit 0,⟨[],[3],[]⟩,mkSh 44 [(3,.val (.int .i64) .b)]⟩,⟨.ret,⟨[],[2],[]⟩,mkSh 44 [(2,.val (.int .i64) .b)]⟩]
def zfq (t0:PV .str)(t3:PV (.int .i64))(t4:PV (.int .i64)):Option ((PV .str×PV (.int .i64)×PV (.int .i64)×Unit)⊕((PV (.int .i64)×Unit)⊕(PV (.int .i64)×Unit))):=
 bif (decide (t4<(t0.length:Int))) then
  ((
    bif inB t4 t0.length then
     bif (decide (((t0.getD t4.toNat 0).toNat:Int)<48)) then
      some (t0,t3,t4,true,())
     else
      bif inB t4 t0.length then
       some (t0,t3,t4,(decide (((t0.getD t4.toNat 0).toNat:Int)>57)),())
      else
       none
    else
     none:Option ((PV .str×PV (.int .i64)×PV (.int .i64)×PV .bool×Unit)))).bind λj9=>
    bif j9.2.2.2.1 then
     some (.inr (.inr ((-1),())))
    else
     bif inB j9.2.2.1 j9.1.length then
      some (.inl (j9.1,(IntKind.wrap .i64 ((IntKind.wrap .i64 (10*j9.2.1))+(IntKind.wrap .i64 (IntKind.wrap .u8 (((j9.1.getD j9.2.2.1.toNat 0).toNat:Int) -48))))),(IntKind.wrap .i64 (j9.2.2.1+1)),()))
     else
      none
 else
  some (.inr (.inl (t3,())))
def zpv:PV .str×PV (.int .i64)×PV (.int .i64)×Unit->Option ((PV (.int .i64)×Unit)⊕(PV (.int .i64)×Unit)):=fix λd=>zfq d.1 d.2.1 d.2.2.1
def z4s:Lp:=⟨⟨[],[0,3,4,30,31,32,33],[]⟩,qse,qvs,λd=>zfq d.1 d.2.1 d.2.2.1⟩
def qy8:Plan:=⟨[(2,qvq),(8,qvr)],[(5,z4s)],0,0⟩
def ziu (t0:PV .str):Option (PVs [(.int .i64)]×PVs []):=
 ((
   (zb3 (t0.length:Int) 1 6).bind λr4=>
     bif (!r4.1.1) then
      some (t0,true,())
     else
      bif inB 0 t0.length then
       bif (((t0.getD (0:Int).toNat 0).toNat:Int)==48) then
        some (t0,(decide ((t0.length:Int)>1)),())
       else
        some (t0,false,())
      else
       none:Option ((PV .str×PV .bool×Unit)))).bind λj5=>
   bif j5.2.1 then
    some (((-1),()),())
   else
    (zpv (j5.1,0,0,())).bind λx14=>
      match x14 with
      | .inl l12=>
        some ((l12.1,()),())
      | .inr l13=>
        some ((l13.1,()),())
def z8h:Ct:=⟨[(.bor,.str)],[((.int .i64),.b)],λx=>ziu x.1⟩
def qy9:Cx:=⟨tab,arrs,[(114,zgx)],[],gl,[]⟩
theorem qza:FnOk gl Tryz.prog 268 z8h:=
 fo qy9 qy8 0 (oz ⟨zi1,trivial⟩ trivial) Tryz.func268 (by kernel_rfl) (by kernel_rfl) (by kernel_rfl)
  (ll 1 (by kernel_rfl) (lc z4s (by kernel_rfl) (λd=>by kernel_rfl) trivial)) (λx=>by kernel_rfl)
def ql9:List Out:=[⟨.normal,⟨[],[4,13],[]⟩,mkSh 15 [(4,.val (.int .i64) .b),(13,.val .bool .b)]⟩]
def qoe:Plan:=⟨[(3,ql9)],[],0,0⟩
def zgi (t0:PV .str):Option (PVs [(.int .i64),.bool]×PVs []):=
 (ziu t0).bind λr2=>
   ((
     bif (decide ((t0.length:Int)>4)) then
      some (r2.1.1,true,())
     else
      some (r2.1.1,(decide (r2.1.1<0)),()):Option ((PV (.int .i64)×PV .bool×Unit)))).bind λj4=>
     bif j4.2.1 then
      some ((0,false,()),())
     else
      some ((j4.1,true,()),())
def zum:Ct:=⟨[(.bor,.str)],[((.int .i64),.b),(.bool,.b)],λx=>zgi x.1⟩
def qof:Cx:=⟨tab,arrs,[(268,z8h)],[],gl,[]⟩
theorem z2q:FnOk gl Tryz.prog 240 zum:=
 fo qof qoe 0 (oz ⟨qza,trivial⟩ trivial) Tryz.func240 (by kernel_rfl) (by kernel_rfl) (by kernel_rfl)
  (ll 0 (by kernel_rfl) trivial) (λx=>by kernel_rfl)
def qzb:List Out:=[⟨.normal,⟨[],[5,6,29,45,46],[]⟩,mkSh 50 [(5,.val zf (.row .b)),(6,.val (.int .i64) .b),(29,.val .bool .b)]⟩]
def qzc:List Out:=[⟨.normal,⟨[],[6,8,47],[]⟩,mkSh 50 [(6,.val (.int .i64) .b),(8,.val (.int .i64) .b),(47,.val .bool .b)]⟩]
def q4d:Plan:=⟨[(4,qzb),(9,qzc)],[],0,0⟩
def znl (t0:PV .str):Option (PVs [(.int .i64),(.int .i64),.bool]×PVs []):=
 (ziq t0 44).bind λr2=>
   bif inB 0 r2.1.1.length then
    (zgi (r2.1.1.getD ((0:Int).toNat) [])).bind λr4=>
      ((
        bif (!r4.1.2.1) then
         some (r2.1.1,r4.1.1,true,())
        else
         bif (decide ((r2.1.1.length:Int)>2)) then
          some (r2.1.1,r4.1.1,true,())
         else
          some (r2.1.1,r4.1.1,(decide (r4.1.1>1000)),()):Option ((PV zf×PV (.int .i64)×PV .bool×Unit)))).bind λj6=>
        bif j6.2.2.1 then
         some ((0,0,false,()),())
        else
         bif ((j6.1.length:Int)==1) then
          some ((j6.2.1,j6.2.1,true,()),())
         else
          bif inB 1 j6.1.length then
           (zgi (j6.1.getD ((1:Int).toNat) [])).bind λr8=>
             ((
               bif (!r8.1.2.1) then
                some (j6.2.1,r8.1.1,true,())
               else
                some (j6.2.1,r8.1.1,(decide (r8.1.1>1000)),()):Option ((PV (.int .i64)×PV (.int .i64)×PV .bool×Unit)))).bind λj10=>
               bif j10.2.2.1 then
                some ((0,0,false,()),())
               else
                some ((j10.1,j10.2.1,true,()),())
          else
           none
   else
    none
def qax:Ct:=⟨[(.bor,.str)],[((.int .i64),.b),((.int .i64),.b),(.bool,.b)],λx=>znl x.1⟩
def q4e:Cx:=⟨tab,arrs,[(193,zp1),(240,zum)],[],gl,[]⟩
theorem q4f:FnOk gl Tryz.prog 217 qax:=
 fo q4e q4d 0 (oz ⟨zvg,z2q,trivial⟩ trivial) Tryz.func217 (by kernel_rfl) (by kernel_rfl) (by kernel_rfl)
  (ll 0 (by kernel_rfl) trivial) (λx=>by kernel_rfl)
def qp3:List Out:=[⟨.normal,⟨[],[5,6,20],[]⟩,mkSh 23 [(5,.val (.int .i64) .b),(6,.val (.int .i64) .b),(20,.val .bool .b)]⟩]
def qsf:Plan:=⟨[(3,qp3)],[],0,0⟩
def zgl (t0:PV .str):Option (PVs [(.int .i64),(.int .i64),.bool]×PVs []):=
 (znl t0).bind λr2=>
   ((
     bif (!r2.1.2.2.1) then
      some (r2.1.1,r2.1.2.1,true,())
     else
      some (r2.1.1,r2.1.2.1,(decide (r2.1.1>r2.1.2.1)),()):Option ((PV (.int .i64)×PV (.int .i64)×PV .bool×Unit)))).bind λj4=>
     bif j4.2.2.1 then
      some ((0,0,false,()),())
     else
      some ((j4.1,j4.2.1,true,()),())
def zuz:Ct:=⟨[(.bor,.str)],[((.int .i64),.b),((.int .i64),.b),(.bool,.b)],λx=>zgl x.1⟩
def qsg:Cx:=⟨tab,arrs,[(217,qax)],[],gl,[]⟩
theorem zu0:FnOk gl Tryz.prog 148 zuz:=
 fo qsg qsf 0 (oz ⟨q4f,trivial⟩ trivial) Tryz.func148 (by kernel_rfl) (by kernel_rfl) (by kernel_rfl)
  (ll 0 (by kernel_rfl) trivial) (λx=>by kernel_rfl)
def z6w:Plan:=⟨[],[],0,0⟩
def zqf:Option (PVs [zf]×PVs []):=
 some (([[],[97],[105],[99],[100],[115,47,46,47,47]],()),())
def z6x:Ct:=⟨[],[(zf,(.row .b))],λx=>zqf⟩
def z6y:Cx:=⟨tab,arrs,[],[],gl,[]⟩
theorem jdz:denF z6y 0 z6w Tryz.f242.ntmps (zcl Tryz.f242) Tryz.f242.results.toList [] [(zf,(.row .b))] ()=zqf:=by kernel_rfl
theorem z6z:FnOk gl Tryz.prog 242 z6x:=
 fo z6y z6w 0 (oz trivial trivial) Tryz.func242 (by kernel_rfl) (by kernel_rfl) (by kernel_rfl)
  (ll 0 (by kernel_rfl) trivial) (λx=>by kernel_rfl)
section
open Go.RowKit Go.Lib
set_option maxHeartbeats 4000000 in
set_option maxRecDepth 100000 in
theorem q7w (s:ByteArray)(w:World)(n m:Int)(b:Bool)(p:Nat)(W:Nat->ByteArray)(hs:s.size<=100000)(hp:p<=s.size)
 (hd:∀i (h:i<s.size),i<p->Go.Dn.hdB (s[i]'h)=true)(he:∀h:p<s.size,Go.Dn.hdB (s[p]'h)=false)
 (hR:∀w1,Below w.heap.size w w1->Calls Tryz.prog 148 #[.string (s.extract 0 p)] w1 λe w'=>e=.returned (.tuple #[.int .i64 n,.int .i64 m,.bool b])/\Below w1.heap.size w1 w')
 (hW:∀w1,Below w.heap.size w w1->Calls Tryz.prog 242 #[] w1 λe w'=>∃g c,e=.returned (.slice (some ⟨g,0,none⟩) 6 c)/\w1.heap.size<=g/\Below w1.heap.size w1 w'/\∀k,k<6->w'.cell? ⟨g,k,none⟩=some (.string (W k))):
 Calls Tryz.prog 199 #[.string s] w λe w'=>e=.returned (.tuple #[.agg #[.int .i64 (Go.Dn.kdW W (s.extract p s.size) 6),.int .i64 n,.int .i64 m,.slice none 0 0],.bool (b&&decide (0<Go.Dn.kdW W (s.extract p s.size) 6))])/\Below w.heap.size w w':=by
 go_enter Tryz.func199,Tryz.ntmps199
 go_wp2
 obtain⟨w0,hw0⟩:∃w0,w.alloc (.cells #[.int .i64 0,.int .i64 0,.int .i64 0,.slice none 0 0] 184)=w0:=⟨_,rfl⟩;rw[hw0];have hb0:Below w.heap.size w w0:=by rw[<-hw0];exact(Below.refl _ _).alloc (ym0 _) _
 go_loopg [4] p (λg s4 wx=>∃i:Nat,i+g=p/\s4=.int .i64 i/\wx=w0)
 case atStart=>exact⟨0,by omega,rfl,rfl⟩
 case round=>
  obtain⟨i,hig,rfl,rfl⟩:=hrel;cases gk with
  |zero=>
   obtain rfl:i=p:=by omega
   have hR0:=hR wr hb0
   have hcase:(¬(i:Int)<(s.size:Int))\/(∃hi:i<s.size,(i:Int)<(s.size:Int)/\∃x:UInt8,s[i]'hi=x/\((¬(48:Int)<=(x.toNat:Int))\/((48:Int)<=(x.toNat:Int)/\¬(x.toNat:Int)<=57))/\((x.toNat:Int)==44)=false):=by
    by_cases hi:i<s.size
    ·exact .inr ⟨hi,by omega,_,rfl,Go.Dn.jc8 (he hi)⟩
    ·exact .inl (by omega)
   rcases hcase with hiz|⟨hi,hiz,x,hxx,h1|⟨h1,h2⟩,h3⟩
   all_goals (
    clear he hd
    go_wp2_with (go_at_fn 148;go_fit hR0;rintro e w' ⟨rfl,hb⟩)
    refine hR0.mono ?_;rintro e w1 ⟨rfl,hb1⟩;have hbx:Below w.heap.size w (w1.alloc (.cells #[.int .i64 0,.int .i64 n,.int .i64 m,.slice none 0 0] 184)):=(hb0.trans (hb1.mono hb0.size)).alloc (yo1 hb0.size hb1.size) _;have hW0:=hW _ hbx
    go_wp2_with (go_at_fn 242;go_fit hW0;rintro e w' ⟨rfl,hb⟩)
    refine hW0.mono ?_;rintro e w2 ⟨g,c,rfl,hg,hb2,hwd⟩;have hH:Go.Dn.Hd4 w w2 w.heap.size w1.heap.size g 184 0 n m W:=Go.Dn.Hd4.start hw0 hb1 hbx hg hb2 hwd;have hiz2:(i:Int)<=(s.size:Int):=by omega
    clear hR hW hW0 hR0 hwd
    go_wp2
    go_loopg [48] 6 (λgh s48 wy=>∃k:Nat,k+gh=6/\s48=.int .i64 k/\Go.Dn.Hd4 w wy w.heap.size w1.heap.size g 184 (Go.Dn.kdW W (s.extract i s.size) k) n m W)
    case atStart=>exact⟨0,rfl,rfl,hH⟩
    case round=>
     obtain⟨k,hkg,rfl,hK⟩:=hrel;cases gk with
     |zero=>
      obtain rfl:k=6:=by omega
      have hx0:wr.cell? ⟨w1.heap.size,0,none⟩=some (.int .i64 (Go.Dn.kdW W (s.extract i s.size) 6)):=by rw[Go.Dn.cell_of_heap hK.x];rfl
      have hx1:wr.cell? ⟨w1.heap.size,1,none⟩=some (.int .i64 n):=by rw[Go.Dn.cell_of_heap hK.x];rfl
      have hx2:wr.cell? ⟨w1.heap.size,2,none⟩=some (.int .i64 m):=by rw[Go.Dn.cell_of_heap hK.x];rfl
      have hx3:wr.cell? ⟨w1.heap.size,3,none⟩=some (.slice none 0 0):=by rw[Go.Dn.cell_of_heap hK.x];rfl
      have hr0:wr.cell? ⟨w.heap.size,0,none⟩=some (.int .i64 0):=by rw[Go.Dn.cell_of_heap hK.r];rfl
      have hr1:wr.cell? ⟨w.heap.size,1,none⟩=some (.int .i64 0):=by rw[Go.Dn.cell_of_heap hK.r];rfl
      have hr2:wr.cell? ⟨w.heap.size,2,none⟩=some (.int .i64 0):=by rw[Go.Dn.cell_of_heap hK.r];rfl
      have hr3:wr.cell? ⟨w.heap.size,3,none⟩=some (.slice none 0 0):=by rw[Go.Dn.cell_of_heap hK.r];rfl
      have hf0:=(hK.fz 0).2;have hf1:=(hK.fz 1).2;have hf2:=(hK.fz 2).2;have hf3:=(hK.fz 3).2;have hbw:Aside (Below w.heap.size w wr):=hK.below;have hne1:¬w1.heap.size=w.heap.size:=by have:=hK.ne;omega
      have hne2:¬w.heap.size=w1.heap.size:=by have:=hK.ne;omega
      obtain⟨q,hq⟩:∃q,Go.Dn.kdW W (s.extract i s.size) 6=q:=⟨_,rfl⟩;rw[hq] at hx0;clear hK hH;cases b
      ·go_wp2
       go_region
       go_wp2
       (try simp only[Exit.inBlock,Exit.then])
       refine bodyPost_ret (v:=.tuple #[.agg #[.int .i64 q,.int .i64 n,.int .i64 m,.slice none 0 0],.bool false]) ?_ rfl ⟨by rw[hq];rfl,?_⟩
       ·rw[results_cell_tmp rfl]
        go_simp
       ·exact((((hbw.out.setCell (p:=⟨w.heap.size,0,none⟩) (ym0 _) _).setCell (p:=⟨w.heap.size,1,none⟩) (ym0 _) _).setCell (p:=⟨w.heap.size,2,none⟩) (ym0 _) _).setCell (p:=⟨w.heap.size,3,none⟩) (ym0 _) _).drew
      ·go_wp2
       go_region
       go_wp2
       (try simp only[Exit.inBlock,Exit.then])
       refine bodyPost_ret (v:=.tuple #[.agg #[.int .i64 q,.int .i64 n,.int .i64 m,.slice none 0 0],.bool (decide (0<q))]) ?_ rfl ⟨by rw[hq];rfl,?_⟩
       ·rw[results_cell_tmp rfl]
        go_simp
       ·exact((((hbw.out.setCell (p:=⟨w.heap.size,0,none⟩) (ym0 _) _).setCell (p:=⟨w.heap.size,1,none⟩) (ym0 _) _).setCell (p:=⟨w.heap.size,2,none⟩) (ym0 _) _).setCell (p:=⟨w.heap.size,3,none⟩) (ym0 _) _).drew
     |succ gh=>
      have hk6:(k:Int)<6:=by omega
      have hcell:=hK.wd k (by omega);have hc0:wr.cell? ⟨w1.heap.size,0,none⟩=some (.int .i64 (Go.Dn.kdW W (s.extract i s.size) k)):=by rw[Go.Dn.cell_of_heap hK.x];rfl
      have hf0:=(hK.fz 0).1;by_cases hk0:0<k
      ·have hk0z:(0:Int)<(k:Int):=by omega
       by_cases hm:W k=s.extract i s.size
       ·have hmb:((W k).toList==(s.extract i s.size).toList)=true:=by rw[hm];exact Go.Dn.ba_eq _
        have hkd:Go.Dn.kdW W (s.extract i s.size) (k+1)=(k:Int):=yx0 ⟨hk0,hm⟩
        have HK:Aside (Go.Dn.Hd4 w (wr.setCell ⟨w1.heap.size,0,none⟩ (.int .i64 (k:Int))) w.heap.size w1.heap.size g 184 (Go.Dn.kdW W (s.extract i s.size) (k+1)) n m W):=by
         rw[hkd];exact hK.set (k:Int)
        clear hK hm hH hkd
        go_wp2
        go_roundg gh
        case measure=>omega
        case rel=>exact⟨k+1,by omega,by first|rfl|simp,HK.out⟩
       ·have hmb:((W k).toList==(s.extract i s.size).toList)=false:=Go.Dn.jc7 hm
        have hkd:Go.Dn.kdW W (s.extract i s.size) (k+1)=Go.Dn.kdW W (s.extract i s.size) k:=yw0 λh=>hm h.2;rw[<-hkd] at hK;have HK:Aside (Go.Dn.Hd4 w wr w.heap.size w1.heap.size g 184 (Go.Dn.kdW W (s.extract i s.size) (k+1)) n m W):=hK;clear hK hm hH hkd
        go_wp2
        go_roundg gh
        case measure=>omega
        case rel=>exact⟨k+1,by omega,by first|rfl|simp,HK.out⟩
      ·have hk0z:¬(0:Int)<(k:Int):=by omega
       have hkd:Go.Dn.kdW W (s.extract i s.size) (k+1)=Go.Dn.kdW W (s.extract i s.size) k:=yw0 λh=>hk0 h.1;rw[<-hkd] at hK;have HK:Aside (Go.Dn.Hd4 w wr w.heap.size w1.heap.size g 184 (Go.Dn.kdW W (s.extract i s.size) (k+1)) n m W):=hK;clear hK hH hkd
       go_wp2
       go_roundg gh
       case measure=>omega
       case rel=>exact⟨k+1,by omega,by first|rfl|simp,HK.out⟩)
  |succ g=>
   have hi:i<s.size:=by omega
   have hx:=hd i hi (by omega);obtain⟨x,hxx⟩:∃x:UInt8,s[i]'hi=x:=⟨_,rfl⟩;rw[hxx] at hx;have hiz:(i:Int)<(s.size:Int):=by omega
   by_cases h1:(48:Int)<=(x.toNat:Int)
   ·by_cases h2:(x.toNat:Int)<=57
    ·clear hx
     go_wp2
     go_roundg g
     case measure=>omega
     case rel=>exact⟨i+1,by omega,by first|rfl|simp,rfl⟩
    ·have hx44:((x.toNat:Int)==44)=true:=Go.Dn.qgx hx (λ_=>h2)
     clear hx
     go_wp2
     go_roundg g
     case measure=>omega
     case rel=>exact⟨i+1,by omega,by first|rfl|simp,rfl⟩
   ·have hx44:((x.toNat:Int)==44)=true:=Go.Dn.qgx hx (λh=>absurd h h1)
    clear hx
    go_wp2
    go_roundg g
    case measure=>omega
    case rel=>exact⟨i+1,by omega,by first|rfl|simp,rfl⟩
end
def zq5 (t0:PV .str):Option (PVs [qh,.bool]×PVs []):=Go.Dn.zoz 9 zgl [[],[97],[105],[99],[100],[115,47,46,47,47]] t0
def z8i:Ct:=⟨[(.bor,.str)],[(qh,(.pr .b (.pr .b (.pr .b (.pr (.row .b) .b))))),(.bool,.b)],λx=>zq5 x.1⟩
theorem qzd:FnOk gl Tryz.prog 199 z8i:=Go.Dn.jat (e:=9) (RP:=zgl) (ws:=[[],[97],[105],[99],[100],[115,47,46,47,47]]) rfl ⟨_,Tryz.func199,rfl,by kernel_rfl⟩ zu0 z6z q7w
def qze:List Out:=[⟨.normal,⟨[],[0,3,4,5],[]⟩,mkSh 37 [(0,.val .str .b),(3,.val zf (.row .b)),(4,.val (.int .i64) .b),(5,.val (.int .i64) .b)]⟩]
def qvt:List Out:=[⟨.normal,⟨[],[3],[]⟩,mkSh 37 [(3,.val zf (.row .b))]⟩]
def qvu:List Sh:=mkSh 37 [(0,.val .str .b),(3,.val zf (.row .b)),(4,.val (.int .i64) .b),(5,.val (.int .i64) .b)]
def qzf:List Out:=[⟨.exit 0,⟨[],[0,3,4],[]⟩,mkSh 37 [(0,.val .str .b),(3,.val zf (.row .b)),(4,.val (.int .i64) .b)]⟩]
def zgn (t0:PV .str)(t3:PV zf)(t4:PV (.int .i64))(t5:PV (.int .i64)):Option ((PV .str×PV zf×PV (.int .i64)×PV (.int .i64)×Unit)⊕((PV .str×PV zf×PV (.int .i64)×Unit))):=
 bif (decide (t5<(t0.length:Int))) then
  ((
    bif inB t5 t0.length then
     bif (((t0.getD t5.toNat 0).toNat:Int)==10) then
      bif cutB t4 (IntKind.wrap .i64 (t5+1)) t0.length then
       bif qw (t3.length+[(cutL t4 (IntKind.wrap .i64 (t5+1)) t0)].length) then
        some (t0,(t3++[(cutL t4 (IntKind.wrap .i64 (t5+1)) t0)]),(IntKind.wrap .i64 (t5+1)),t5,())
       else
        none
      else
       none
     else
      some (t0,t3,t4,t5,())
    else
     none:Option ((PV .str×PV zf×PV (.int .i64)×PV (.int .i64)×Unit)))).bind λj1=>
    some (.inl (j1.1,j1.2.1,j1.2.2.1,(IntKind.wrap .i64 (j1.2.2.2.1+1)),()))
 else
  some (.inr (t0,t3,t4,()))
def zio:PV .str×PV zf×PV (.int .i64)×PV (.int .i64)×Unit->Option ((PV .str×PV zf×PV (.int .i64)×Unit)):=fix λd=>zgn d.1 d.2.1 d.2.2.1 d.2.2.2.1
def z7a:Lp:=⟨⟨[],[0,3,4,5],[]⟩,qvu,qzf,λd=>zgn d.1 d.2.1 d.2.2.1 d.2.2.2.1⟩
def q4g:Plan:=⟨[(5,qze),(11,qvt)],[(4,z7a)],0,0⟩
def ziy (t0:PV .str):Option (PVs [zf]×PVs []):=
 (zio (t0,[],0,0,())).bind λl3=>
   ((
     bif (decide (l3.2.2.1<(l3.1.length:Int))) then
      bif cutB l3.2.2.1 (l3.1.length:Int) l3.1.length then
       bif qw (l3.2.1.length+[(cutL l3.2.2.1 (l3.1.length:Int) l3.1)].length) then
        some ((l3.2.1++[(cutL l3.2.2.1 (l3.1.length:Int) l3.1)]),())
       else
        none
      else
       none
     else
      some (l3.2.1,()):Option ((PV zf×Unit)))).bind λj4=>
     some ((j4.1,()),())
def znf:Ct:=⟨[(.bor,.str)],[(zf,.b)],λx=>ziy x.1⟩
def q4h:Cx:=⟨tab,arrs,[],[],gl,[]⟩
theorem zrg:FnOk gl Tryz.prog 79 znf:=
 fo q4h q4g 0 (oz trivial trivial) Tryz.func79 (by kernel_rfl) (by kernel_rfl) (by kernel_rfl)
  (ll 1 (by kernel_rfl) (lc z7a (by kernel_rfl) (λd=>by kernel_rfl) trivial)) (λx=>by kernel_rfl)
def qzg:Plan:=⟨[],[],0,0⟩
def zei (t0:PV .str):Option (PVs [.bool]×PVs []):=
 bif inB (IntKind.wrap .i64 ((t0.length:Int) -1)) t0.length then
  some (((((t0.getD (IntKind.wrap .i64 ((t0.length:Int) -1)).toNat 0).toNat:Int)==10),()),())
 else
  none
def zkb:Ct:=⟨[(.bor,.str)],[(.bool,.b)],λx=>zei x.1⟩
def qzh:Cx:=⟨tab,arrs,[],[],gl,[]⟩
theorem zm1:FnOk gl Tryz.prog 128 zkb:=
 fo qzh qzg 0 (oz trivial trivial) Tryz.func128 (by kernel_rfl) (by kernel_rfl) (by kernel_rfl)
  (ll 0 (by kernel_rfl) trivial) (λx=>by kernel_rfl)
def qvv:Plan:=⟨[],[],0,0⟩
def zgo (t0:PV .str):Option (PVs [.str]×PVs []):=
 (zei t0).bind λr4=>
   bif r4.1.1 then
    bif cutB 0 (IntKind.wrap .i64 ((t0.length:Int) -1)) t0.length then
     some (((cutL 0 (IntKind.wrap .i64 ((t0.length:Int) -1)) t0),()),())
    else
     none
   else
    some ((t0,()),())
def zp2:Ct:=⟨[(.bor,.str)],[(.str,.b)],λx=>zgo x.1⟩
def qvw:Cx:=⟨tab,arrs,[(128,zkb)],[],gl,[]⟩
theorem zvh:FnOk gl Tryz.prog 81 zp2:=
 fo qvw qvv 0 (oz ⟨zm1,trivial⟩ trivial) Tryz.func81 (by kernel_rfl) (by kernel_rfl) (by kernel_rfl)
  (ll 0 (by kernel_rfl) trivial) (λx=>by kernel_rfl)
def qvx:List Out:=[⟨.normal,⟨[],[0,2,5,6,7,9,10,63],[]⟩,mkSh 73 [(0,.val .str .b),(2,.var zu (.pr .b (.pr .b (.pr (.row .b) (.pr .b (.pr .b (.pr (.row .b) .b))))))),(5,.val (.int .i64) .b),(6,.val (.int .i64) .b),(7,.val (.int .i64) .b),(9,.val (.int .i64) .b),(10,.val (.int .i64) .b),(63,.val .bool .b)]⟩]
def qsh:List Sh:=mkSh 73 [(0,.val .str .b),(2,.var zu (.pr .b (.pr .b (.pr (.row .b) (.pr .b (.pr .b (.pr (.row .b) .b))))))),(5,.val (.int .i64) .b)]
def qvy:List Out:=[⟨.exit 0,⟨[],[0,2,5,61,62],[]⟩,mkSh 73 [(0,.val .str .b),(2,.var zu (.pr .b (.pr .b (.pr (.row .b) (.pr .b (.pr .b (.pr (.row .b) .b))))))),(5,.val (.int .i64) .b)]⟩]
def zfu (t0:PV .str)(t2:PV zu)(t5:PV (.int .i64)):Option ((PV .str×PV zu×PV (.int .i64)×Unit)⊕((PV .str×PV zu×PV (.int .i64)×Unit))):=
 bif (decide (t5<(t0.length:Int))) then
  bif inB t5 t0.length then
   bif (!(((t0.getD t5.toNat 0).toNat:Int)==97)) then
    bif inB t5 t0.length then
     bif (!(((t0.getD t5.toNat 0).toNat:Int)==99)) then
      bif inB t5 t0.length then
       bif (!(((t0.getD t5.toNat 0).toNat:Int)==100)) then
        some (.inl (t0,t2,(IntKind.wrap .i64 (t5+1)),()))
       else
        some (.inr (t0,t2,t5,()))
      else
       none
     else
      some (.inr (t0,t2,t5,()))
    else
     none
   else
    some (.inr (t0,t2,t5,()))
  else
   none
 else
  some (.inr (t0,t2,t5,()))
def zvc:PV .str×PV zu×PV (.int .i64)×Unit->Option ((PV .str×PV zu×PV (.int .i64)×Unit)):=fix λd=>zfu d.1 d.2.1 d.2.2.1
def z4t:Lp:=⟨⟨[],[0,2,5,61,62],[]⟩,qsh,qvy,λd=>zfu d.1 d.2.1 d.2.2.1⟩
def qzi:Plan:=⟨[(9,qvx)],[(2,z4t)],0,0⟩
def zrb (t0:PV .str):Option (PVs [zu,(.int .u8),.bool]×PVs []):=
 (zvc (t0,(0,(0,(([]:PV zf),(0,(0,(([]:PV zf),())))))),0,())).bind λl2=>
   bif (l2.2.2.1==(l2.1.length:Int)) then
    some (((0,(0,(([]:PV zf),(0,(0,(([]:PV zf),())))))),0,false,()),())
   else
    bif cutB 0 l2.2.2.1 l2.1.length then
     (zgl (cutL 0 l2.2.2.1 l2.1)).bind λr4=>
       bif cutB (IntKind.wrap .i64 (l2.2.2.1+1)) (l2.1.length:Int) l2.1.length then
        (zgl (cutL (IntKind.wrap .i64 (l2.2.2.1+1)) (l2.1.length:Int) l2.1)).bind λr6=>
          ((
            bif (!r4.1.2.2.1) then
             some (l2.1,l2.2.1,l2.2.2.1,r4.1.1,r4.1.2.1,r6.1.1,r6.1.2.1,true,())
            else
             some (l2.1,l2.2.1,l2.2.2.1,r4.1.1,r4.1.2.1,r6.1.1,r6.1.2.1,(!r6.1.2.2.1),()):Option ((PV .str×PV zu×PV (.int .i64)×PV (.int .i64)×PV (.int .i64)×PV (.int .i64)×PV (.int .i64)×PV .bool×Unit)))).bind λj8=>
            bif j8.2.2.2.2.2.2.2.1 then
             some (((0,(0,(([]:PV zf),(0,(0,(([]:PV zf),())))))),0,false,()),())
            else
             bif inB j8.2.2.1 j8.1.length then
              some (((j8.2.2.2.1,(j8.2.2.2.2.1,(([]:PV zf),(j8.2.2.2.2.2.1,(j8.2.2.2.2.2.2.1,(([]:PV zf),())))))),((j8.1.getD j8.2.2.1.toNat 0).toNat:Int),true,()),())
             else
              none
       else
        none
    else
     none
def z8j:Ct:=⟨[(.bor,.str)],[(zu,(.pr .b (.pr .b (.pr (.row .b) (.pr .b (.pr .b (.pr (.row .b) .b))))))),((.int .u8),.b),(.bool,.b)],λx=>zrb x.1⟩
def qzj:Cx:=⟨tab,arrs,[(148,zuz)],[],gl,[]⟩
theorem qzk:FnOk gl Tryz.prog 80 z8j:=
 fo qzj qzi 0 (oz ⟨zu0,trivial⟩ trivial) Tryz.func80 (by kernel_rfl) (by kernel_rfl) (by kernel_rfl)
  (ll 1 (by kernel_rfl) (lc z4t (by kernel_rfl) (λd=>by kernel_rfl) trivial)) (λx=>by kernel_rfl)
def qvz:List Out:=[⟨.normal,⟨[],[0,1,6,7,8,23,24,25,26,27,28,46],[]⟩,mkSh 60 [(0,.val zf .b),(1,.val .str .b),(6,.val zf (.row .b)),(7,.val (.int .i64) .b),(8,.val .str .b),(23,.val .str .b),(24,.val .str .b),(25,.val (.int .i64) .b),(26,.val .str .b),(27,.val .str .b),(28,.val .bool .b),(46,.val .bool .b)]⟩]
def qsi:List Out:=[⟨.normal,⟨[],[0,1,6,7,8,23,24,25,26,27,28,41,42,43,44,45],[]⟩,mkSh 60 [(0,.val zf .b),(1,.val .str .b),(6,.val zf (.row .b)),(7,.val (.int .i64) .b),(8,.val .str .b),(23,.val .str .b),(24,.val .str .b),(25,.val (.int .i64) .b),(26,.val .str .b),(27,.val .str .b),(28,.val .bool .b)]⟩]
def qsj:List Sh:=mkSh 60 [(0,.val zf .b),(1,.val .str .b),(6,.val zf (.row .b)),(7,.val (.int .i64) .b)]
def qv0:List Out:=[⟨.exit 0,⟨[],[6,7],[]⟩,mkSh 60 [(6,.val zf (.row .b)),(7,.val (.int .i64) .b)]⟩]
def zft (t0:PV zf)(t1:PV .str)(t6:PV zf)(t7:PV (.int .i64)):Option ((PV zf×PV .str×PV zf×PV (.int .i64)×Unit)⊕((PV zf×PV (.int .i64)×Unit))):=
 bif (decide (t7<(t0.length:Int))) then
  bif inB t7 t0.length then
   bif (decide (((t0.getD t7.toNat []).length:Int)<=(t1.length:Int))) then
    some (.inr (t6,t7,()))
   else
    bif cutB 0 (t1.length:Int) (t0.getD t7.toNat []).length then
     bif (!((cutL 0 (t1.length:Int) (t0.getD t7.toNat []))==t1)) then
      some (.inr (t6,t7,()))
     else
      bif cutB (t1.length:Int) ((t0.getD t7.toNat []).length:Int) (t0.getD t7.toNat []).length then
       ((
         ((
           bif (decide ((IntKind.wrap .i64 (t7+1))<(t0.length:Int))) then
            bif inB (IntKind.wrap .i64 (t7+1)) t0.length then
             some (t0,t1,t6,(IntKind.wrap .i64 (t7+1)),(cutL (t1.length:Int) ((t0.getD t7.toNat []).length:Int) (t0.getD t7.toNat [])),(t0.getD t7.toNat []),t1,(t1.length:Int),(cutL 0 (t1.length:Int) (t0.getD t7.toNat [])),t1,(!((cutL 0 (t1.length:Int) (t0.getD t7.toNat []))==t1)),((t0.getD ((IntKind.wrap .i64 (t7+1)).toNat) [])==[92,32,110,111,110,101,10]),())
            else
             none
           else
            some (t0,t1,t6,(IntKind.wrap .i64 (t7+1)),(cutL (t1.length:Int) ((t0.getD t7.toNat []).length:Int) (t0.getD t7.toNat [])),(t0.getD t7.toNat []),t1,(t1.length:Int),(cutL 0 (t1.length:Int) (t0.getD t7.toNat [])),t1,(!((cutL 0 (t1.length:Int) (t0.getD t7.toNat []))==t1)),false,()):Option ((PV zf×PV .str×PV zf×PV (.int .i64)×PV .str×PV .str×PV .str×PV (.int .i64)×PV .str×PV .str×PV .bool×PV .bool×Unit)))).bind λj4=>
           bif j4.2.2.2.2.2.2.2.2.2.2.2.1 then
            bif cutB 0 (IntKind.wrap .i64 ((j4.2.2.2.2.1.length:Int) -1)) j4.2.2.2.2.1.length then
             some (j4.1,j4.2.1,j4.2.2.1,(IntKind.wrap .i64 (j4.2.2.2.1+1)),(cutL 0 (IntKind.wrap .i64 ((j4.2.2.2.2.1.length:Int) -1)) j4.2.2.2.2.1),j4.2.2.2.2.2.1,j4.2.2.2.2.2.2.1,j4.2.2.2.2.2.2.2.1,j4.2.2.2.2.2.2.2.2.1,j4.2.2.2.2.2.2.2.2.2.1,j4.2.2.2.2.2.2.2.2.2.2.1,())
            else
             none
           else
            some (j4.1,j4.2.1,j4.2.2.1,j4.2.2.2.1,j4.2.2.2.2.1,j4.2.2.2.2.2.1,j4.2.2.2.2.2.2.1,j4.2.2.2.2.2.2.2.1,j4.2.2.2.2.2.2.2.2.1,j4.2.2.2.2.2.2.2.2.2.1,j4.2.2.2.2.2.2.2.2.2.2.1,()):Option ((PV zf×PV .str×PV zf×PV (.int .i64)×PV .str×PV .str×PV .str×PV (.int .i64)×PV .str×PV .str×PV .bool×Unit)))).bind λj5=>
         bif qw (j5.2.2.1.length+[j5.2.2.2.2.1].length) then
          some (.inl (j5.1,j5.2.1,(j5.2.2.1++[j5.2.2.2.2.1]),j5.2.2.2.1,()))
         else
          none
      else
       none
    else
     none
  else
   none
 else
  some (.inr (t6,t7,()))
def zed:PV zf×PV .str×PV zf×PV (.int .i64)×Unit->Option ((PV zf×PV (.int .i64)×Unit)):=fix λd=>zft d.1 d.2.1 d.2.2.1 d.2.2.2.1
def z4u:Lp:=⟨⟨[],[0,1,6,7,41,42,43,44,45],[]⟩,qsj,qv0,λd=>zft d.1 d.2.1 d.2.2.1 d.2.2.2.1⟩
def qzl:Plan:=⟨[(9,qvz),(11,qsi)],[(3,z4u)],0,0⟩
def zb7 (t0:PV zf)(t1:PV .str):Option (PVs [zf,(.int .i64)]×PVs []):=
 (zed (t0,t1,[],0,())).bind λl7=>
   some ((l7.1,l7.2.1,()),())
def z8k:Ct:=⟨[(.bor,zf),(.bor,.str)],[(zf,(.row .b)),((.int .i64),.b)],λx=>zb7 x.1 x.2.1⟩
def qzm:Cx:=⟨tab,arrs,[],[],gl,[]⟩
theorem qzn:FnOk gl Tryz.prog 82 z8k:=
 fo qzm qzl 0 (oz trivial trivial) Tryz.func82 (by kernel_rfl) (by kernel_rfl) (by kernel_rfl)
  (ll 1 (by kernel_rfl) (lc z4u (by kernel_rfl) (λd=>by kernel_rfl) trivial)) (λx=>by kernel_rfl)
def qzo:Plan:=⟨[],[],0,0⟩
def zv8 (t0:PV zf):Option (PVs [zf]×PVs []):=
 bif qw (([]:PV zf).length+t0.length) then
  some (((([]:PV zf)++t0),()),())
 else
  none
def z8l:Ct:=⟨[(.bor,zf)],[(zf,(.row .b))],λx=>zv8 x.1⟩
def qzp:Cx:=⟨tab,arrs,[],[],gl,[]⟩
theorem qzq:FnOk gl Tryz.prog 83 z8l:=
 fo qzp qzo 0 (oz trivial trivial) Tryz.func83 (by kernel_rfl) (by kernel_rfl) (by kernel_rfl)
  (ll 0 (by kernel_rfl) trivial) (λx=>by kernel_rfl)
def qsk:List Sh:=mkSh 18 [(0,.val .str .b),(3,.val (.int .i64) .b)]
def qv1:List Out:=[⟨.exit 0,⟨[],[0],[]⟩,mkSh 18 [(0,.val .str .b)]⟩,⟨.ret,⟨[],[2],[]⟩,mkSh 18 [(2,.val .bool .b)]⟩]
def zfm (t0:PV .str)(t3:PV (.int .i64)):Option ((PV .str×PV (.int .i64)×Unit)⊕((PV .str×Unit)⊕(PV .bool×Unit))):=
 bif (decide (t3<(IntKind.wrap .i64 ((t0.length:Int) -1)))) then
  bif inB t3 t0.length then
   bif (((t0.getD t3.toNat 0).toNat:Int)==10) then
    some (.inr (.inr (false,())))
   else
    some (.inl (t0,(IntKind.wrap .i64 (t3+1)),()))
  else
   none
 else
  some (.inr (.inl (t0,())))
def z6j:PV .str×PV (.int .i64)×Unit->Option ((PV .str×Unit)⊕(PV .bool×Unit)):=fix λd=>zfm d.1 d.2.1
def z4v:Lp:=⟨⟨[],[0,3],[]⟩,qsk,qv1,λd=>zfm d.1 d.2.1⟩
def qzr:Plan:=⟨[],[(2,z4v)],0,0⟩
def zgq (t0:PV .str):Option (PVs [.bool]×PVs []):=
 (z6j (t0,0,())).bind λx6=>
   match x6 with
   | .inl l3=>
     (zb3 (l3.1.length:Int) 1 30).bind λr4=>
       some ((r4.1.1,()),())
   | .inr l5=>
     some ((l5.1,()),())
def zqj:Ct:=⟨[(.bor,.str)],[(.bool,.b)],λx=>zgq x.1⟩
def qzs:Cx:=⟨tab,arrs,[(114,zgx)],[],gl,[]⟩
theorem zvs:FnOk gl Tryz.prog 183 zqj:=
 fo qzs qzr 0 (oz ⟨zi1,trivial⟩ trivial) Tryz.func183 (by kernel_rfl) (by kernel_rfl) (by kernel_rfl)
  (ll 1 (by kernel_rfl) (lc z4v (by kernel_rfl) (λd=>by kernel_rfl) trivial)) (λx=>by kernel_rfl)
def qsl:List Out:=[⟨.normal,⟨[],[0,5,6,7,26],[]⟩,mkSh 31 [(0,.val zf .b),(5,.val zf .b),(6,.val (.int .i64) .b),(7,.val (.int .i64) .b),(26,.val .bool .b)]⟩]
def qp4:List Sh:=mkSh 31 [(0,.val zf .b),(5,.val zf .b),(6,.val (.int .i64) .b),(7,.val (.int .i64) .b)]
def qsm:List Out:=[⟨.exit 0,⟨[],[0],[]⟩,mkSh 31 [(0,.val zf .b)]⟩,⟨.ret,⟨[],[2],[]⟩,mkSh 31 [(2,.val .bool .b)]⟩]
def zfi (t0:PV zf)(t5:PV zf)(t6:PV (.int .i64))(t7:PV (.int .i64)):Option ((PV zf×PV zf×PV (.int .i64)×PV (.int .i64)×Unit)⊕((PV zf×Unit)⊕(PV .bool×Unit))):=
 bif (decide (t7<t6)) then
  bif inB t7 t5.length then
   ((
     (zgq (t5.getD t7.toNat [])).bind λr4=>
       bif (!r4.1.1) then
        some (t0,t5,t6,t7,true,())
       else
        bif (decide (t7<(IntKind.wrap .i64 ((t0.length:Int) -1)))) then
         (zei (t5.getD t7.toNat [])).bind λr5=>
           some (t0,t5,t6,t7,(!r5.1.1),())
        else
         some (t0,t5,t6,t7,false,()):Option ((PV zf×PV zf×PV (.int .i64)×PV (.int .i64)×PV .bool×Unit)))).bind λj6=>
     bif j6.2.2.2.2.1 then
      some (.inr (.inr (false,())))
     else
      some (.inl (j6.1,j6.2.1,j6.2.2.1,(IntKind.wrap .i64 (j6.2.2.2.1+1)),()))
  else
   none
 else
  some (.inr (.inl (t0,())))
def z4h:PV zf×PV zf×PV (.int .i64)×PV (.int .i64)×Unit->Option ((PV zf×Unit)⊕(PV .bool×Unit)):=fix λd=>zfi d.1 d.2.1 d.2.2.1 d.2.2.2.1
def z3j:Lp:=⟨⟨[],[0,5,6,7,16,17,18,19,20,21,22,23,24,25],[]⟩,qp4,qsm,λd=>zfi d.1 d.2.1 d.2.2.1 d.2.2.2.1⟩
def qv2:Plan:=⟨[(5,qsl)],[(2,z3j)],0,0⟩
def zj8 (t0:PV zf):Option (PVs [.bool]×PVs []):=
 (z4h (t0,t0,(t0.length:Int),0,())).bind λx11=>
   match x11 with
   | .inl l9=>
     some (((decide ((l9.1.length:Int)<=40)),()),())
   | .inr l10=>
     some ((l10.1,()),())
def zvi:Ct:=⟨[(.bor,zf)],[(.bool,.b)],λx=>zj8 x.1⟩
def qv3:Cx:=⟨tab,arrs,[(128,zkb),(183,zqj)],[],gl,[]⟩
theorem z7b:FnOk gl Tryz.prog 184 zvi:=
 fo qv3 qv2 0 (oz ⟨zm1,zvs,trivial⟩ trivial) Tryz.func184 (by kernel_rfl) (by kernel_rfl) (by kernel_rfl)
  (ll 1 (by kernel_rfl) (lc z3j (by kernel_rfl) (λd=>by kernel_rfl) trivial)) (λx=>by kernel_rfl)
def qv4:List Out:=[⟨.normal,⟨[],[0,1,2,19,29,30,31,32,33,34,35],[]⟩,mkSh 37 [(0,.val (.int .i64) .b),(1,.val (.int .i64) .b),(2,.val zf .b),(19,.val .bool .b)]⟩]
def qzt:Plan:=⟨[(2,qv4)],[],0,0⟩
def znb (t0:PV (.int .i64))(t1:PV (.int .i64))(t2:PV zf):Option (PVs [.bool]×PVs []):=
 ((
   (zb3 t0 0 1000).bind λr8=>
     bif (!r8.1.1) then
      some (t0,t1,t2,true,())
     else
      (zb3 t1 0 1000).bind λr9=>
        bif (!r9.1.1) then
         some (t0,t1,t2,true,())
        else
         (zj8 t2).bind λr10=>
           some (t0,t1,t2,(!r10.1.1),()):Option ((PV (.int .i64)×PV (.int .i64)×PV zf×PV .bool×Unit)))).bind λj11=>
   bif j11.2.2.2.1 then
    some ((false,()),())
   else
    bif ((j11.2.2.1.length:Int)==0) then
     some (((j11.2.1==j11.1),()),())
    else
     bif (decide (j11.1>=1)) then
      some ((((IntKind.wrap .i64 ((IntKind.wrap .i64 (j11.2.1 -j11.1))+1))==(j11.2.2.1.length:Int)),()),())
     else
      some ((false,()),())
def z8m:Ct:=⟨[(.bor,(.int .i64)),(.bor,(.int .i64)),(.bor,zf)],[(.bool,.b)],λx=>znb x.1 x.2.1 x.2.2.1⟩
def qzu:Cx:=⟨tab,arrs,[(114,zgx),(184,zvi)],[],gl,[]⟩
theorem qzv:FnOk gl Tryz.prog 140 z8m:=
 fo qzu qzt 0 (oz ⟨zi1,z7b,trivial⟩ trivial) Tryz.func140 (by kernel_rfl) (by kernel_rfl) (by kernel_rfl)
  (ll 0 (by kernel_rfl) trivial) (λx=>by kernel_rfl)
def qzw:Plan:=⟨[],[],0,0⟩
def zq9 (t0:PV zu):Option (PVs [.bool]×PVs []):=
 (znb t0.1 t0.2.1 t0.2.2.1).bind λr1=>
   bif r1.1.1 then
    (znb t0.2.2.2.1 t0.2.2.2.2.1 t0.2.2.2.2.2.1).bind λr2=>
      bif r2.1.1 then
       some (((decide ((IntKind.wrap .i64 ((t0.2.2.1.length:Int)+(t0.2.2.2.2.2.1.length:Int)))>0)),()),())
      else
       some ((false,()),())
   else
    some ((false,()),())
def z8n:Ct:=⟨[(.bor,zu)],[(.bool,.b)],λx=>zq9 x.1⟩
def qzx:Cx:=⟨tab,arrs,[(140,z8m)],[],gl,[]⟩
theorem qzy:FnOk gl Tryz.prog 73 z8n:=
 fo qzx qzw 0 (oz ⟨qzv,trivial⟩ trivial) Tryz.func73 (by kernel_rfl) (by kernel_rfl) (by kernel_rfl)
  (ll 0 (by kernel_rfl) trivial) (λx=>by kernel_rfl)
def qma:List Sh:=mkSh 18 [(0,.val zk .b),(5,.val zk .b),(6,.val (.int .i64) .b),(7,.val (.int .i64) .b)]
def qog:List Out:=[⟨.exit 0,⟨[],[0],[]⟩,mkSh 18 [(0,.val zk .b)]⟩,⟨.ret,⟨[],[2],[]⟩,mkSh 18 [(2,.val .bool .b)]⟩]
def zff (t0:PV zk)(t5:PV zk)(t6:PV (.int .i64))(t7:PV (.int .i64)):Option ((PV zk×PV zk×PV (.int .i64)×PV (.int .i64)×Unit)⊕((PV zk×Unit)⊕(PV .bool×Unit))):=
 bif (decide (t7<t6)) then
  bif inB t7 t5.length then
   (zq9 (t5.getD t7.toNat (dflt zu))).bind λr4=>
     bif (!r4.1.1) then
      some (.inr (.inr (false,())))
     else
      some (.inl (t0,t5,t6,(IntKind.wrap .i64 (t7+1)),()))
  else
   none
 else
  some (.inr (.inl (t0,())))
def z2c:PV zk×PV zk×PV (.int .i64)×PV (.int .i64)×Unit->Option ((PV zk×Unit)⊕(PV .bool×Unit)):=fix λd=>zff d.1 d.2.1 d.2.2.1 d.2.2.2.1
def z1i:Lp:=⟨⟨[],[0,5,6,7],[]⟩,qma,qog,λd=>zff d.1 d.2.1 d.2.2.1 d.2.2.2.1⟩
def qp5:Plan:=⟨[],[(2,z1i)],0,0⟩
def zpr (t0:PV zk):Option (PVs [.bool]×PVs []):=
 (z2c (t0,t0,(t0.length:Int),0,())).bind λx9=>
   match x9 with
   | .inl l7=>
     some (((decide ((l7.1.length:Int)<=20)),()),())
   | .inr l8=>
     some ((l8.1,()),())
def z3k:Ct:=⟨[(.bor,zk)],[(.bool,.b)],λx=>zpr x.1⟩
def qp6:Cx:=⟨tab,arrs,[(73,z8n)],[],gl,[]⟩
theorem qp7:FnOk gl Tryz.prog 29 z3k:=
 fo qp6 qp5 0 (oz ⟨qzy,trivial⟩ trivial) Tryz.func29 (by kernel_rfl) (by kernel_rfl) (by kernel_rfl)
  (ll 1 (by kernel_rfl) (lc z1i (by kernel_rfl) (λd=>by kernel_rfl) trivial)) (λx=>by kernel_rfl)
def zqo (ih:PV (.int .i64)->Option (PVs [.str]×PVs []))(t0:PV (.int .i64)):Option (PVs [.str]×PVs []):=
 bif (decide (t0<10)) then
  some (((zee [(IntKind.wrap .u8 (IntKind.wrap .i64 (48+t0)))]),()),())
 else
  bif 10==0 then
   none
  else
   (ih (IntKind.wrap .i64 (t0.tdiv 10))).bind λr1=>
     bif 10==0 then
      none
     else
      bif decide (r1.1.1.length+(zee [(IntKind.wrap .u8 (IntKind.wrap .i64 (48+(t0.tmod 10))))]).length<=1099511627776) then
       some (((r1.1.1++(zee [(IntKind.wrap .u8 (IntKind.wrap .i64 (48+(t0.tmod 10))))])),()),())
      else
       none
def zkf:Nat->PV (.int .i64)->Option (PVs [.str]×PVs []):=λn=>Nat.rec (motive:=λ_=>PV (.int .i64)->Option (PVs [.str]×PVs [])) (λ_=>none) (λ_ ih=>zqo ih) n
def zek (t0:PV (.int .i64)):Option (PVs [.str]×PVs []):=zkf (t0.toNat+1) t0
def zrh:Ct:=⟨[(.bor,(.int .i64))],[(.str,.b)],λx=>zek x.1⟩
def zvt (n:Nat):Ct:=⟨[(.bor,(.int .i64))],[(.str,.b)],λx=>zkf n x.1⟩
def z8o (n:Nat):Cx:=⟨tab,arrs,[(196,zvt n)],[],gl,[]⟩
def qay:Plan:=⟨[],[],0,0⟩
theorem qzz (n:Nat)(t0:PV (.int .i64)):denF (z8o n) 0 qay Tryz.f196.ntmps (zcl Tryz.f196) Tryz.f196.results.toList [(.bor,(.int .i64))] [(.str,.b)] (t0,())=zqo (zkf n) t0:=by kernel_rfl
theorem z8p:∀n,FnOk gl Tryz.prog 196 (zvt n)
 |0=>q6j (by kernel_rfl)
 |n+1=>fnOk (cx:=z8o n) (pl:=qay) (dp:=0) (ct:=zvt (n+1)) (ztd zo4 (by unfold zbl;kernel_rfl) mix ⟨z8p n,trivial⟩ trivial) Tryz.func196 (by kernel_rfl) (by kernel_rfl) (by kernel_rfl)
  (ll 0 (by kernel_rfl) trivial) (λx=>qzz n x.1)
theorem zwb:FnOk gl Tryz.prog 196 zrh:=q6i (pars:=[(.bor,(.int .i64))]) (rets:=[(.str,.b)]) (Fs:=λn x=>zkf n x.1) (N:=λx=>x.1.toNat+1) z8p
def qp8:Plan:=⟨[],[],0,0⟩
def zjz (t0:PV (.int .i64))(t1:PV (.int .i64)):Option (PVs [.str]×PVs []):=
 bif (t0==t1) then
  (zek t0).bind λr2=>
    some ((r2.1.1,()),())
 else
  (zek t0).bind λr3=>
    bif decide (r3.1.1.length+[44].length<=1099511627776) then
     (zek t1).bind λr4=>
       bif decide ((r3.1.1++[44]).length+r4.1.1.length<=1099511627776) then
        some ((((r3.1.1++[44])++r4.1.1),()),())
       else
        none
    else
     none
def zup:Ct:=⟨[(.bor,(.int .i64)),(.bor,(.int .i64))],[(.str,.b)],λx=>zjz x.1 x.2.1⟩
def qp9:Cx:=⟨tab,arrs,[(196,zrh)],[],gl,[]⟩
theorem z3l:FnOk gl Tryz.prog 138 zup:=
 fo qp9 qp8 0 (oz ⟨zwb,trivial⟩ trivial) Tryz.func138 (by kernel_rfl) (by kernel_rfl) (by kernel_rfl)
  (ll 0 (by kernel_rfl) trivial) (λx=>by kernel_rfl)
def qv5:Plan:=⟨[],[],0,0⟩
def zdw (t0:PV .str)(t1:PV .str):Option (PVs [.str]×PVs []):=
 (zei t1).bind λr4=>
   bif r4.1.1 then
    bif decide (t0.length+t1.length<=1099511627776) then
     some (((t0++t1),()),())
    else
     none
   else
    bif decide (t0.length+t1.length<=1099511627776) then
     bif decide ((t0++t1).length+[10,92,32,110,111,110,101,10].length<=1099511627776) then
      some ((((t0++t1)++[10,92,32,110,111,110,101,10]),()),())
     else
      none
    else
     none
def zp3:Ct:=⟨[(.bor,.str),(.bor,.str)],[(.str,.b)],λx=>zdw x.1 x.2.1⟩
def qv6:Cx:=⟨tab,arrs,[(128,zkb)],[],gl,[]⟩
theorem zvj:FnOk gl Tryz.prog 139 zp3:=
 fo qv6 qv5 0 (oz ⟨zm1,trivial⟩ trivial) Tryz.func139 (by kernel_rfl) (by kernel_rfl) (by kernel_rfl)
  (ll 0 (by kernel_rfl) trivial) (λx=>by kernel_rfl)
def qsn:List Out:=[⟨.normal,⟨[],[3,5,6,11,12,13],[]⟩,mkSh 73 [(3,.val .str .b),(5,.var zu .b),(6,.val .str .b),(11,.val zk .b),(12,.val (.int .i64) .b),(13,.val (.int .i64) .b)]⟩]
def qso:List Out:=[⟨.normal,⟨[],[3,5,11,12,13],[]⟩,mkSh 73 [(3,.val .str .b),(5,.var zu .b),(11,.val zk .b),(12,.val (.int .i64) .b),(13,.val (.int .i64) .b)]⟩]
def qqa:List Sh:=mkSh 73 [(3,.val .str .b),(5,.var zu .b),(6,.val .str .b),(11,.val zk .b),(12,.val (.int .i64) .b),(13,.val (.int .i64) .b),(44,.val zf .b),(45,.val (.int .i64) .b),(46,.val (.int .i64) .b)]
def qsp:List Out:=[⟨.exit 3,⟨[],[3,5,6,11,12,13],[]⟩,mkSh 73 [(3,.val .str .b),(5,.var zu .b),(6,.val .str .b),(11,.val zk .b),(12,.val (.int .i64) .b),(13,.val (.int .i64) .b)]⟩]
def zh3 (t3:PV .str)(t5:PV zu)(t6:PV .str)(t11:PV zk)(t12:PV (.int .i64))(t13:PV (.int .i64))(t44:PV zf)(t45:PV (.int .i64))(t46:PV (.int .i64)):Option ((PV .str×PV zu×PV .str×PV zk×PV (.int .i64)×PV (.int .i64)×PV zf×PV (.int .i64)×PV (.int .i64)×Unit)⊕((PV .str×PV zu×PV .str×PV zk×PV (.int .i64)×PV (.int .i64)×Unit))):=
 bif (decide (t46<t45)) then
  bif inB t46 t44.length then
   (zdw [60,32] (t44.getD t46.toNat [])).bind λr7=>
     bif decide (t3.length+r7.1.1.length<=1099511627776) then
      some (.inl ((t3++r7.1.1),t5,t6,t11,t12,t13,t44,t45,(IntKind.wrap .i64 (t46+1)),()))
     else
      none
  else
   none
 else
  some (.inr (t3,t5,t6,t11,t12,t13,()))
def zuw:PV .str×PV zu×PV .str×PV zk×PV (.int .i64)×PV (.int .i64)×PV zf×PV (.int .i64)×PV (.int .i64)×Unit->Option ((PV .str×PV zu×PV .str×PV zk×PV (.int .i64)×PV (.int .i64)×Unit)):=fix λd=>zh3 d.1 d.2.1 d.2.2.1 d.2.2.2.1 d.2.2.2.2.1 d.2.2.2.2.2.1 d.2.2.2.2.2.2.1 d.2.2.2.2.2.2.2.1 d.2.2.2.2.2.2.2.2.1
def z3m:Lp:=⟨⟨[],[3,5,6,11,12,13,44,45,46],[]⟩,qqa,qsp,λd=>zh3 d.1 d.2.1 d.2.2.1 d.2.2.2.1 d.2.2.2.2.1 d.2.2.2.2.2.1 d.2.2.2.2.2.2.1 d.2.2.2.2.2.2.2.1 d.2.2.2.2.2.2.2.2.1⟩
def qqb:List Sh:=mkSh 73 [(3,.val .str .b),(11,.val zk .b),(12,.val (.int .i64) .b),(13,.val (.int .i64) .b),(60,.val zf .b),(61,.val (.int .i64) .b),(62,.val (.int .i64) .b)]
def qsq:List Out:=[⟨.exit 5,⟨[],[3,11,12,13],[]⟩,mkSh 73 [(3,.val .str .b),(11,.val zk .b),(12,.val (.int .i64) .b),(13,.val (.int .i64) .b)]⟩]
def zh4 (t3:PV .str)(t11:PV zk)(t12:PV (.int .i64))(t13:PV (.int .i64))(t60:PV zf)(t61:PV (.int .i64))(t62:PV (.int .i64)):Option ((PV .str×PV zk×PV (.int .i64)×PV (.int .i64)×PV zf×PV (.int .i64)×PV (.int .i64)×Unit)⊕((PV .str×PV zk×PV (.int .i64)×PV (.int .i64)×Unit))):=
 bif (decide (t62<t61)) then
  bif inB t62 t60.length then
   (zdw [62,32] (t60.getD t62.toNat [])).bind λr12=>
     bif decide (t3.length+r12.1.1.length<=1099511627776) then
      some (.inl ((t3++r12.1.1),t11,t12,t13,t60,t61,(IntKind.wrap .i64 (t62+1)),()))
     else
      none
  else
   none
 else
  some (.inr (t3,t11,t12,t13,()))
def zux:PV .str×PV zk×PV (.int .i64)×PV (.int .i64)×PV zf×PV (.int .i64)×PV (.int .i64)×Unit->Option ((PV .str×PV zk×PV (.int .i64)×PV (.int .i64)×Unit)):=fix λd=>zh4 d.1 d.2.1 d.2.2.1 d.2.2.2.1 d.2.2.2.2.1 d.2.2.2.2.2.1 d.2.2.2.2.2.2.1
def z3n:Lp:=⟨⟨[],[3,11,12,13,60,61,62],[]⟩,qqb,qsq,λd=>zh4 d.1 d.2.1 d.2.2.1 d.2.2.2.1 d.2.2.2.2.1 d.2.2.2.2.2.1 d.2.2.2.2.2.2.1⟩
def qsr:List Sh:=mkSh 73 [(3,.val .str .b),(11,.val zk .b),(12,.val (.int .i64) .b),(13,.val (.int .i64) .b)]
def qv7:List Out:=[⟨.exit 0,⟨[],[3],[]⟩,mkSh 73 [(3,.val .str .b)]⟩]
def zif (t3:PV .str)(t11:PV zk)(t12:PV (.int .i64))(t13:PV (.int .i64)):Option ((PV .str×PV zk×PV (.int .i64)×PV (.int .i64)×Unit)⊕((PV .str×Unit))):=
 bif (decide (t13<t12)) then
  bif inB t13 t11.length then
   ((
     bif ((((((t11.getD t13.toNat (dflt zu)).2).2).1).length:Int)==0) then
      some (t3,(t11.getD t13.toNat (dflt zu)),[97],t11,t12,t13,())
     else
      bif (((((((((t11.getD t13.toNat (dflt zu)).2).2).2).2).2).1).length:Int)==0) then
       some (t3,(t11.getD t13.toNat (dflt zu)),[100],t11,t12,t13,())
      else
       some (t3,(t11.getD t13.toNat (dflt zu)),[99],t11,t12,t13,()):Option ((PV .str×PV zu×PV .str×PV zk×PV (.int .i64)×PV (.int .i64)×Unit)))).bind λj10=>
     (zjz j10.2.1.1 j10.2.1.2.1).bind λr13=>
       bif decide (r13.1.1.length+j10.2.2.1.length<=1099511627776) then
        (zjz j10.2.1.2.2.2.1 j10.2.1.2.2.2.2.1).bind λr14=>
          bif decide ((r13.1.1++j10.2.2.1).length+r14.1.1.length<=1099511627776) then
           bif decide (((r13.1.1++j10.2.2.1)++r14.1.1).length+[10].length<=1099511627776) then
            bif decide (j10.1.length+(((r13.1.1++j10.2.2.1)++r14.1.1)++[10]).length<=1099511627776) then
             (zuw ((j10.1++(((r13.1.1++j10.2.2.1)++r14.1.1)++[10])),j10.2.1,j10.2.2.1,j10.2.2.2.1,j10.2.2.2.2.1,j10.2.2.2.2.2.1,j10.2.1.2.2.1,(j10.2.1.2.2.1.length:Int),0,())).bind λl16=>
               ((
                 bif (l16.2.2.1==[99]) then
                  bif decide (l16.1.length+[45,45,45,10].length<=1099511627776) then
                   some ((l16.1++[45,45,45,10]),l16.2.1,l16.2.2.2.1,l16.2.2.2.2.1,l16.2.2.2.2.2.1,())
                  else
                   none
                 else
                  some (l16.1,l16.2.1,l16.2.2.2.1,l16.2.2.2.2.1,l16.2.2.2.2.2.1,()):Option ((PV .str×PV zu×PV zk×PV (.int .i64)×PV (.int .i64)×Unit)))).bind λj17=>
                 (zux (j17.1,j17.2.2.1,j17.2.2.2.1,j17.2.2.2.2.1,j17.2.1.2.2.2.2.2.1,(j17.2.1.2.2.2.2.2.1.length:Int),0,())).bind λl18=>
                   some (.inl (l18.1,l18.2.1,l18.2.2.1,(IntKind.wrap .i64 (l18.2.2.2.1+1)),()))
            else
             none
           else
            none
          else
           none
       else
        none
  else
   none
 else
  some (.inr (t3,()))
def zvb:PV .str×PV zk×PV (.int .i64)×PV (.int .i64)×Unit->Option ((PV .str×Unit)):=fix λd=>zif d.1 d.2.1 d.2.2.1 d.2.2.2.1
def z4w:Lp:=⟨⟨[],[3,11,12,13],[]⟩,qsr,qv7,λd=>zif d.1 d.2.1 d.2.2.1 d.2.2.2.1⟩
def qz0:Plan:=⟨[(10,qsn),(18,qso)],[(12,z3m),(19,z3n),(3,z4w)],0,0⟩
def zra (t0:PV zk):Option (PVs [.str]×PVs []):=
 (zvb ([],t0,(t0.length:Int),0,())).bind λl20=>
   some ((l20.1,()),())
def z8q:Ct:=⟨[(.bor,zk)],[(.str,.b)],λx=>zra x.1⟩
def qz1:Cx:=⟨tab,arrs,[(138,zup),(139,zp3)],[],gl,[]⟩
theorem qz2:FnOk gl Tryz.prog 72 z8q:=
 fo qz1 qz0 0 (oz ⟨z3l,zvj,trivial⟩ trivial) Tryz.func72 (by kernel_rfl) (by kernel_rfl) (by kernel_rfl)
  (ll 3 (by kernel_rfl) (lc z4w (by kernel_rfl) (λd=>by kernel_rfl) (lc z3m (by kernel_rfl) (λd=>by kernel_rfl) (lc z3n (by kernel_rfl) (λd=>by kernel_rfl) trivial)))) (λx=>by kernel_rfl)
def qk5:List Out:=[⟨.normal,⟨[],[0,5,6,7,8,54,55,56,101,102,103,104],[]⟩,mkSh 107 [(0,.val .str .b),(5,.val zf .b),(6,.val zk (.row (.pr .b (.pr .b (.pr (.row .b) (.pr .b (.pr .b (.pr (.row .b) .b)))))))),(7,.var zu (.pr .b (.pr .b (.pr (.row .b) (.pr .b (.pr .b (.pr (.row .b) .b))))))),(8,.val (.int .u8) .b)]⟩]
def qk6:List Out:=[⟨.normal,⟨[],[0,5,6,7,8,57,101,102,103,104],[]⟩,mkSh 107 [(0,.val .str .b),(5,.val zf .b),(6,.val zk (.row (.pr .b (.pr .b (.pr (.row .b) (.pr .b (.pr .b (.pr (.row .b) .b)))))))),(7,.var zu (.pr .b (.pr .b (.pr (.row .b) (.pr .b (.pr .b (.pr (.row .b) .b))))))),(8,.val (.int .u8) .b),(57,.val .bool .b)]⟩]
def qk7:List Out:=[⟨.normal,⟨[],[0,5,6,7,8,54,55,56,101,102,103,104],[]⟩,mkSh 107 [(0,.val .str .b),(5,.val zf .b),(6,.val zk (.row (.pr .b (.pr .b (.pr (.row .b) (.pr .b (.pr .b (.pr (.row .b) .b)))))))),(7,.var zu (.pr .b (.pr .b (.pr (.row .b) (.pr .b (.pr .b (.pr (.row .b) .b))))))),(8,.val (.int .u8) .b)]⟩]
def qk8:List Out:=[⟨.normal,⟨[],[0,5,6,7,54,55,56,101,102,103,104],[]⟩,mkSh 107 [(0,.val .str .b),(5,.val zf .b),(6,.val zk (.row (.pr .b (.pr .b (.pr (.row .b) (.pr .b (.pr .b (.pr (.row .b) .b)))))))),(7,.var zu (.pr .b (.pr .b (.pr (.row .b) (.pr .b (.pr .b (.pr (.row .b) .b)))))))]⟩]
def qk9:List Out:=[⟨.normal,⟨[],[6,105],[]⟩,mkSh 107 [(6,.val zk .b),(105,.val .bool .b)]⟩]
def qla:List Sh:=mkSh 107 [(0,.val .str .b),(5,.val zf .b),(6,.val zk (.row (.pr .b (.pr .b (.pr (.row .b) (.pr .b (.pr .b (.pr (.row .b) .b))))))))]
def qmb:List Out:=[⟨.exit 0,⟨[(6,.b)],[0,6,101,102,103,104],[]⟩,mkSh 107 [(0,.val .str .b),(6,.val zk .b)]⟩,⟨.ret,⟨[],[2,3,4],[]⟩,mkSh 107 [(2,.val zk (.row (.pr .b (.pr .b (.pr (.row .b) (.pr .b (.pr .b (.pr (.row .b) .b)))))))),(3,.val (.int .i64) .b),(4,.val .bool .b)]⟩]
def zgh (t0:PV .str)(t5:PV zf)(t6:PV zk):Option ((PV .str×PV zf×PV zk×Unit)⊕((PV .str×PV zk×Unit)⊕(PV zk×PV (.int .i64)×PV .bool×Unit))):=
 bif (decide ((t5.length:Int)>0)) then
  bif inB 0 t5.length then
   (zgo (t5.getD ((0:Int).toNat) [])).bind λr5=>
     (zrb r5.1.1).bind λr6=>
       bif (!r6.1.2.2.1) then
        some (.inr (.inr ([],1,false,())))
       else
        bif cutB 1 (t5.length:Int) t5.length then
         ((
           bif (!(r6.1.2.1==97)) then
            (zb7 (cutL 1 (t5.length:Int) t5) [60,32]).bind λr8=>
              bif cutB r8.1.2.1 ((cutL 1 (t5.length:Int) t5).length:Int) (cutL 1 (t5.length:Int) t5).length then
               some (t0,(cutL r8.1.2.1 ((cutL 1 (t5.length:Int) t5).length:Int) (cutL 1 (t5.length:Int) t5)),t6,(r6.1.1.1,(r6.1.1.2.1,(r8.1.1,r6.1.1.2.2.2))),r6.1.2.1,())
              else
               none
           else
            some (t0,(cutL 1 (t5.length:Int) t5),t6,r6.1.1,r6.1.2.1,()):Option ((PV .str×PV zf×PV zk×PV zu×PV (.int .u8)×Unit)))).bind λj9=>
           ((
             ((
               bif (j9.2.2.2.2.1==99) then
                some (j9.1,j9.2.1,j9.2.2.1,j9.2.2.2.1,j9.2.2.2.2.1,(decide ((j9.2.1.length:Int)>0)),())
               else
                some (j9.1,j9.2.1,j9.2.2.1,j9.2.2.2.1,j9.2.2.2.2.1,false,()):Option ((PV .str×PV zf×PV zk×PV zu×PV (.int .u8)×PV .bool×Unit)))).bind λj10=>
               bif j10.2.2.2.2.2.1 then
                bif cutB 1 (j10.2.1.length:Int) j10.2.1.length then
                 some (j10.1,(cutL 1 (j10.2.1.length:Int) j10.2.1),j10.2.2.1,j10.2.2.2.1,j10.2.2.2.2.1,())
                else
                 none
               else
                some (j10.1,j10.2.1,j10.2.2.1,j10.2.2.2.1,j10.2.2.2.2.1,()):Option ((PV .str×PV zf×PV zk×PV zu×PV (.int .u8)×Unit)))).bind λj11=>
             ((
               bif (!(j11.2.2.2.2.1==100)) then
                (zb7 j11.2.1 [62,32]).bind λr13=>
                  bif cutB r13.1.2.1 (j11.2.1.length:Int) j11.2.1.length then
                   some (j11.1,(cutL r13.1.2.1 (j11.2.1.length:Int) j11.2.1),j11.2.2.1,(j11.2.2.2.1.1,(j11.2.2.2.1.2.1,(j11.2.2.2.1.2.2.1,(j11.2.2.2.1.2.2.2.1,(j11.2.2.2.1.2.2.2.2.1,(r13.1.1,j11.2.2.2.1.2.2.2.2.2.2)))))),())
                  else
                   none
               else
                some (j11.1,j11.2.1,j11.2.2.1,j11.2.2.2.1,()):Option ((PV .str×PV zf×PV zk×PV zu×Unit)))).bind λj14=>
               bif qw (j14.2.2.1.length+[j14.2.2.2.1].length) then
                some (.inl (j14.1,j14.2.1,(j14.2.2.1++[j14.2.2.2.1]),()))
               else
                none
        else
         none
  else
   none
 else
  some (.inr (.inl (t0,t6,())))
def zfc:PV .str×PV zf×PV zk×Unit->Option ((PV .str×PV zk×Unit)⊕(PV zk×PV (.int .i64)×PV .bool×Unit)):=fix λd=>zgh d.1 d.2.1 d.2.2.1
def z0y:Lp:=⟨⟨[],[0,5,6,54,55,56,101,102,103,104],[]⟩,qla,qmb,λd=>zgh d.1 d.2.1 d.2.2.1⟩
def qka:List Sh:=mkSh 107 [(0,.val .str .b),(6,.val zk .b),(76,.val zk .b),(77,.val (.int .i64) .b),(78,.val (.int .i64) .b),(87,.val zf (.row .b)),(88,.val (.int .i64) .b),(89,.val (.int .i64) .b)]
def qlb:List Out:=[⟨.exit 4,⟨[],[0,6,76,77,78,101,102,103,104],[]⟩,mkSh 107 [(0,.val .str .b),(6,.val zk .b),(76,.val zk .b),(77,.val (.int .i64) .b),(78,.val (.int .i64) .b)]⟩,⟨.ret,⟨[],[2,3,4],[]⟩,mkSh 107 [(2,.val zk (.row (.pr .b (.pr .b (.pr (.row .b) (.pr .b (.pr .b (.pr (.row .b) .b)))))))),(3,.val (.int .i64) .b),(4,.val .bool .b)]⟩]
def ze7 (t0:PV .str)(t6:PV zk)(t76:PV zk)(t77:PV (.int .i64))(t78:PV (.int .i64))(t87:PV zf)(t88:PV (.int .i64))(t89:PV (.int .i64)):Option ((PV .str×PV zk×PV zk×PV (.int .i64)×PV (.int .i64)×PV zf×PV (.int .i64)×PV (.int .i64)×Unit)⊕((PV .str×PV zk×PV zk×PV (.int .i64)×PV (.int .i64)×Unit)⊕(PV zk×PV (.int .i64)×PV .bool×Unit))):=
 bif (decide (t89<t88)) then
  bif inB t89 t87.length then
   bif ((t87.getD t89.toNat [])==[]) then
    some (.inr (.inr ([],1,false,())))
   else
    some (.inl (t0,t6,t76,t77,t78,t87,t88,(IntKind.wrap .i64 (t89+1)),()))
  else
   none
 else
  some (.inr (.inl (t0,t6,t76,t77,t78,())))
def z0s:PV .str×PV zk×PV zk×PV (.int .i64)×PV (.int .i64)×PV zf×PV (.int .i64)×PV (.int .i64)×Unit->Option ((PV .str×PV zk×PV zk×PV (.int .i64)×PV (.int .i64)×Unit)⊕(PV zk×PV (.int .i64)×PV .bool×Unit)):=fix λd=>ze7 d.1 d.2.1 d.2.2.1 d.2.2.2.1 d.2.2.2.2.1 d.2.2.2.2.2.1 d.2.2.2.2.2.2.1 d.2.2.2.2.2.2.2.1
def z0i:Lp:=⟨⟨[],[0,6,76,77,78,87,88,89,101,102,103,104],[]⟩,qka,qlb,λd=>ze7 d.1 d.2.1 d.2.2.1 d.2.2.2.1 d.2.2.2.2.1 d.2.2.2.2.2.1 d.2.2.2.2.2.2.1 d.2.2.2.2.2.2.2.1⟩
def qkb:List Sh:=mkSh 107 [(0,.val .str .b),(6,.val zk .b),(76,.val zk .b),(77,.val (.int .i64) .b),(78,.val (.int .i64) .b)]
def qlc:List Out:=[⟨.exit 2,⟨[],[0,6,101,102,103,104],[]⟩,mkSh 107 [(0,.val .str .b),(6,.val zk .b)]⟩,⟨.ret,⟨[],[2,3,4],[]⟩,mkSh 107 [(2,.val zk (.row (.pr .b (.pr .b (.pr (.row .b) (.pr .b (.pr .b (.pr (.row .b) .b)))))))),(3,.val (.int .i64) .b),(4,.val .bool .b)]⟩]
def ze8 (t0:PV .str)(t6:PV zk)(t76:PV zk)(t77:PV (.int .i64))(t78:PV (.int .i64)):Option ((PV .str×PV zk×PV zk×PV (.int .i64)×PV (.int .i64)×Unit)⊕((PV .str×PV zk×Unit)⊕(PV zk×PV (.int .i64)×PV .bool×Unit))):=
 bif (decide (t78<t77)) then
  bif inB t78 t76.length then
   (zv8 ((((t76.getD t78.toNat (dflt zu)).2).2).1)).bind λr23=>
     bif qw (r23.1.1.length+(((((((t76.getD t78.toNat (dflt zu)).2).2).2).2).2).1).length) then
      (z0s (t0,t6,t76,t77,t78,(r23.1.1++(((((((t76.getD t78.toNat (dflt zu)).2).2).2).2).2).1)),((r23.1.1++(((((((t76.getD t78.toNat (dflt zu)).2).2).2).2).2).1)).length:Int),0,())).bind λx39=>
        match x39 with
        | .inl l24=>
          some (.inl (l24.1,l24.2.1,l24.2.2.1,l24.2.2.2.1,(IntKind.wrap .i64 (l24.2.2.2.2.1+1)),()))
        | .inr l25=>
          some (.inr (.inr (l25.1,l25.2.1,l25.2.2.1,())))
     else
      none
  else
   none
 else
  some (.inr (.inl (t0,t6,())))
def z0r:PV .str×PV zk×PV zk×PV (.int .i64)×PV (.int .i64)×Unit->Option ((PV .str×PV zk×Unit)⊕(PV zk×PV (.int .i64)×PV .bool×Unit)):=fix λd=>ze8 d.1 d.2.1 d.2.2.1 d.2.2.2.1 d.2.2.2.2.1
def z0j:Lp:=⟨⟨[],[0,6,76,77,78,101,102,103,104],[]⟩,qkb,qlc,λd=>ze8 d.1 d.2.1 d.2.2.1 d.2.2.2.1 d.2.2.2.2.1⟩
def qoh:Plan:=⟨[(14,qk5),(15,qk6),(16,qk7),(20,qk8),(32,qk9)],[(5,z0y),(25,z0i),(22,z0j)],0,0⟩
def zmi (t0:PV .str):Option (PVs [zk,(.int .i64),.bool]×PVs []):=
 bif (decide ((t0.length:Int)>3000)) then
  some (([],1,false,()),())
 else
  (ziy t0).bind λr2=>
    (zfc (t0,r2.1.1,[],())).bind λx40=>
      match x40 with
      | .inl l17=>
        (z0r (l17.1,l17.2.1,l17.2.1,(l17.2.1.length:Int),0,())).bind λx41=>
          match x41 with
          | .inl l28=>
            ((
              (zpr l28.2.1).bind λr34=>
                bif (!r34.1.1) then
                 some (l28.2.1,true,())
                else
                 (zra l28.2.1).bind λr35=>
                   some (l28.2.1,(!(r35.1.1==l28.1)),()):Option ((PV zk×PV .bool×Unit)))).bind λj36=>
              bif j36.2.1 then
               some (([],1,false,()),())
              else
               some ((j36.1,0,true,()),())
          | .inr l37=>
            some ((l37.1,l37.2.1,l37.2.2.1,()),())
      | .inr l38=>
        some ((l38.1,l38.2.1,l38.2.2.1,()),())
def z2r:Ct:=⟨[(.bor,.str)],[(zk,.b),((.int .i64),.b),(.bool,.b)],λx=>zmi x.1⟩
def qoi:Cx:=⟨tab,arrs,[(29,z3k),(72,z8q),(79,znf),(80,z8j),(81,zp2),(82,z8k),(83,z8l)],[],gl,[]⟩
theorem qoj:FnOk gl Tryz.prog 33 z2r:=
 fo qoi qoh 0 (oz ⟨qp7,qz2,zrg,qzk,zvh,qzn,qzq,trivial⟩ trivial) Tryz.func33 (by kernel_rfl) (by kernel_rfl) (by kernel_rfl)
  (ll 3 (by kernel_rfl) (lc z0y (by kernel_rfl) (λd=>by kernel_rfl) (lc z0j (by kernel_rfl) (λd=>by kernel_rfl) (lc z0i (by kernel_rfl) (λd=>by kernel_rfl) trivial)))) (λx=>by kernel_rfl)
def qv8:Plan:=⟨[],[],0,0⟩
def zqd (t0:PV (.int .i64))(t1:PV (.int .i64)):Option (PVs [.bool]×PVs []):=
 (zb3 t0 0 999).bind λr1=>
   bif r1.1.1 then
    (zb3 t1 0 999).bind λr2=>
      some ((r2.1.1,()),())
   else
    some ((false,()),())
def z7c:Ct:=⟨[(.bor,(.int .i64)),(.bor,(.int .i64))],[(.bool,.b)],λx=>zqd x.1 x.2.1⟩
def qv9:Cx:=⟨tab,arrs,[(114,zgx)],[],gl,[]⟩
theorem qwa:FnOk gl Tryz.prog 241 z7c:=
 fo qv9 qv8 0 (oz ⟨zi1,trivial⟩ trivial) Tryz.func241 (by kernel_rfl) (by kernel_rfl) (by kernel_rfl)
  (ll 0 (by kernel_rfl) trivial) (λx=>by kernel_rfl)
def qok:List Out:=[⟨.normal,⟨[],[5,6,7,8,44,45,46,49,50,51,52],[]⟩,mkSh 56 [(5,.val zf (.row .b)),(6,.val (.int .i64) .b),(7,.val .bool .b),(8,.val (.int .i64) .b)]⟩]
def qmc:List Out:=[⟨.normal,⟨[],[5,7,8,11,44,45,46,49,50,51,52],[]⟩,mkSh 56 [(5,.val zf (.row .b)),(7,.val .bool .b),(8,.val (.int .i64) .b),(11,.val (.int .i64) .b)]⟩]
def qmd:List Out:=[⟨.normal,⟨[],[8,11,53],[]⟩,mkSh 56 [(8,.val (.int .i64) .b),(11,.val (.int .i64) .b),(53,.val .bool .b)]⟩]
def qqc:Plan:=⟨[(8,qok),(11,qmc),(12,qmd)],[],0,0⟩
def zfk (t0:PV .str):Option (PVs [(.int .i64),(.int .i64),.bool]×PVs []):=
 (ziq t0 44).bind λr2=>
   bif inB 0 r2.1.1.length then
    (zgi (r2.1.1.getD ((0:Int).toNat) [])).bind λr4=>
      ((
        bif ((r2.1.1.length:Int)==2) then
         bif inB 1 r2.1.1.length then
          (zgi (r2.1.1.getD ((1:Int).toNat) [])).bind λr8=>
            bif r4.1.2.1 then
             some (r2.1.1,r4.1.1,r8.1.2.1,r8.1.1,())
            else
             some (r2.1.1,r4.1.1,false,r8.1.1,())
         else
          none
        else
         some (r2.1.1,r4.1.1,r4.1.2.1,1,()):Option ((PV zf×PV (.int .i64)×PV .bool×PV (.int .i64)×Unit)))).bind λj9=>
        ((
          bif (decide (j9.2.2.2.1>0)) then
           some (j9.1,j9.2.2.1,j9.2.2.2.1,(IntKind.wrap .i64 (j9.2.1 -1)),())
          else
           some (j9.1,j9.2.2.1,j9.2.2.2.1,j9.2.1,()):Option ((PV zf×PV .bool×PV (.int .i64)×PV (.int .i64)×Unit)))).bind λj10=>
          ((
            bif (!j10.2.1) then
             some (j10.2.2.1,j10.2.2.2.1,true,())
            else
             bif (decide ((j10.1.length:Int)>2)) then
              some (j10.2.2.1,j10.2.2.2.1,true,())
             else
              (zqd j10.2.2.2.1 j10.2.2.1).bind λr14=>
                some (j10.2.2.1,j10.2.2.2.1,(!r14.1.1),()):Option ((PV (.int .i64)×PV (.int .i64)×PV .bool×Unit)))).bind λj15=>
            bif j15.2.2.1 then
             some ((0,0,false,()),())
            else
             some ((j15.2.1,j15.1,true,()),())
   else
    none
def z3o:Ct:=⟨[(.bor,.str)],[((.int .i64),.b),((.int .i64),.b),(.bool,.b)],λx=>zfk x.1⟩
def qqd:Cx:=⟨tab,arrs,[(193,zp1),(240,zum),(241,z7c)],[],gl,[]⟩
theorem qqe:FnOk gl Tryz.prog 194 z3o:=
 fo qqd qqc 0 (oz ⟨zvg,z2q,qwa,trivial⟩ trivial) Tryz.func194 (by kernel_rfl) (by kernel_rfl) (by kernel_rfl)
  (ll 0 (by kernel_rfl) trivial) (λx=>by kernel_rfl)
def qwb:List Out:=[⟨.normal,⟨[],[2,6,57,84],[]⟩,mkSh 86 [(2,.var zh (.pr .b (.pr .b (.pr (.row (.pr .b (.pr .b .b))) .b)))),(6,.val zf (.row .b)),(57,.val .bool .b)]⟩]
def qz3:Plan:=⟨[(3,qwb)],[],0,0⟩
def zdy (t0:PV .str):Option (PVs [zh,(.int .i64),(.int .i64),.bool]×PVs []):=
 (ziq t0 32).bind λr2=>
   ((
     bif (!((r2.1.1.length:Int)==4)) then
      some ((0,(0,(([]:PV zi),()))),r2.1.1,true,())
     else
      bif inB 0 r2.1.1.length then
       bif (!((r2.1.1.getD ((0:Int).toNat) [])==[64,64])) then
        some ((0,(0,(([]:PV zi),()))),r2.1.1,true,())
       else
        bif inB 3 r2.1.1.length then
         bif (!((r2.1.1.getD ((3:Int).toNat) [])==[64,64])) then
          some ((0,(0,(([]:PV zi),()))),r2.1.1,true,())
         else
          bif inB 1 r2.1.1.length then
           bif (decide (((r2.1.1.getD ((1:Int).toNat) []).length:Int)<2)) then
            some ((0,(0,(([]:PV zi),()))),r2.1.1,true,())
           else
            bif inB 2 r2.1.1.length then
             bif (decide (((r2.1.1.getD ((2:Int).toNat) []).length:Int)<2)) then
              some ((0,(0,(([]:PV zi),()))),r2.1.1,true,())
             else
              bif inB 1 r2.1.1.length then
               bif inB 0 (r2.1.1.getD ((1:Int).toNat) []).length then
                bif (!((((r2.1.1.getD ((1:Int).toNat) []).getD (0:Int).toNat 0).toNat:Int)==45)) then
                 some ((0,(0,(([]:PV zi),()))),r2.1.1,true,())
                else
                 bif inB 2 r2.1.1.length then
                  bif inB 0 (r2.1.1.getD ((2:Int).toNat) []).length then
                   some ((0,(0,(([]:PV zi),()))),r2.1.1,(!((((r2.1.1.getD ((2:Int).toNat) []).getD (0:Int).toNat 0).toNat:Int)==43)),())
                  else
                   none
                 else
                  none
               else
                none
              else
               none
            else
             none
          else
           none
        else
         none
      else
       none:Option ((PV zh×PV zf×PV .bool×Unit)))).bind λj4=>
     bif j4.2.2.1 then
      some (((0,(0,(([]:PV zi),()))),0,0,false,()),())
     else
      bif inB 1 j4.2.1.length then
       bif cutB 1 ((j4.2.1.getD ((1:Int).toNat) []).length:Int) (j4.2.1.getD ((1:Int).toNat) []).length then
        (zfk (cutL 1 ((j4.2.1.getD ((1:Int).toNat) []).length:Int) (j4.2.1.getD ((1:Int).toNat) []))).bind λr6=>
          bif inB 2 j4.2.1.length then
           bif cutB 1 ((j4.2.1.getD ((2:Int).toNat) []).length:Int) (j4.2.1.getD ((2:Int).toNat) []).length then
            (zfk (cutL 1 ((j4.2.1.getD ((2:Int).toNat) []).length:Int) (j4.2.1.getD ((2:Int).toNat) []))).bind λr8=>
              bif r6.1.2.2.1 then
               some (((r6.1.1,(r8.1.1,(([]:PV zi),()))),r6.1.2.1,r8.1.2.1,r8.1.2.2.1,()),())
              else
               some (((r6.1.1,(r8.1.1,(([]:PV zi),()))),r6.1.2.1,r8.1.2.1,false,()),())
           else
            none
          else
           none
       else
        none
      else
       none
def z8r:Ct:=⟨[(.bor,.str)],[(zh,(.pr .b (.pr .b (.pr (.row (.pr .b (.pr .b .b))) .b)))),((.int .i64),.b),((.int .i64),.b),(.bool,.b)],λx=>zdy x.1⟩
def qz4:Cx:=⟨tab,arrs,[(193,zp1),(194,z3o)],[],gl,[]⟩
theorem qz5:FnOk gl Tryz.prog 124 z8r:=
 fo qz4 qz3 0 (oz ⟨zvg,qqe,trivial⟩ trivial) Tryz.func124 (by kernel_rfl) (by kernel_rfl) (by kernel_rfl)
  (ll 0 (by kernel_rfl) trivial) (λx=>by kernel_rfl)
def qz6:Plan:=⟨[],[],0,0⟩
def zq1 (t0:PV (.int .u8)):Option (PVs [(.int .i64)]×PVs []):=
 bif (t0==32) then
  some ((1,()),())
 else
  bif (t0==45) then
   some ((2,()),())
  else
   bif (t0==43) then
    some ((3,()),())
   else
    some ((0,()),())
def z8s:Ct:=⟨[(.bor,(.int .u8))],[((.int .i64),.b)],λx=>zq1 x.1⟩
def qz7:Cx:=⟨tab,arrs,[],[],gl,[]⟩
theorem qz8:FnOk gl Tryz.prog 195 z8s:=
 fo qz7 qz6 0 (oz trivial trivial) Tryz.func195 (by kernel_rfl) (by kernel_rfl) (by kernel_rfl)
  (ll 0 (by kernel_rfl) trivial) (λx=>by kernel_rfl)
end
end R
