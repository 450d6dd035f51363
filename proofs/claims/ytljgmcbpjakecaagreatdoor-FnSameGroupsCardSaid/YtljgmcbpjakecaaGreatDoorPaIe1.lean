/- The functions that L_FnSameGroups reach, as pure functions, and that the program computes them. -/
import Derived.Test.YtljgmcbpjakecaaGreatDoorL2
import Derived.Test.YtljgmcbpjakecaaGreatDoorL3
import Derived.Test.YtljgmcbpjakecaaGreatDoorChecked
import Derived.KernelRfl
set_option linter.unusedVariables false
open Go Go.Dn Go.Proofs
namespace R
noncomputable section
@[reducible] def zf:Ty:=(.slice 9 .str)
@[reducible] def qj:Ty:=(.slice 4 .bool)
@[reducible] def xu:Ty:=(.slice 5 (.int .u8))
@[reducible] def zxk:Ty:=(.slice 3 (.int .i64))
@[reducible] def jw:Ty:=(.pair (.int .u8) (.pair .str .unit))
@[reducible] def zo:Ty:=(.pair (.int .i64) (.pair .str .unit))
@[reducible] def zy:Ty:=(.slice 216 jw)
@[reducible] def zi:Ty:=(.slice 129 zo)
@[reducible] def zl:Ty:=(.pair (.int .i64) (.pair (.int .i64) (.pair zf .unit)))
@[reducible] def qh:Ty:=(.pair xu (.pair (.int .i64) (.pair (.int .u64) .unit)))
@[reducible] def zn:Ty:=(.slice 133 zl)
@[reducible] def qui:Ty:=(.pair (.int .i64) zl)
@[reducible] def zh:Ty:=(.pair (.int .i64) (.pair (.int .i64) (.pair zi .unit)))
@[reducible] def zk:Ty:=(.slice 68 zh)
def tab:List (TypeId×Ty):=[(3,(.int .i64)),(4,.bool),(5,(.int .u8)),(9,.str),(22,xu),(24,zf),(25,zn),(36,zxk),(51,zk),(66,zi),(68,zh),(74,(.int .u64)),(76,qh),(129,zo),(133,zl),(170,zy),(174,qj),(184,qui),(216,jw)]
def arrs:List TypeId:=[]
theorem zrr:ji Tryz.prog tab:=by unfold ji;kernel_rfl
theorem mix:Tryz.prog.follows .mixedOrders=true:=by kernel_rfl
def gl:Glob:=(Glob.both (znb Tryz.prog 2) (Glob.both (zq0 1) (Glob.both (zin Tryz.prog "strconv.ErrSyntax" 3) (zin Tryz.prog "strconv.ErrRange" 4))))
theorem qey:∀w,gl.ok w->Lib.TabIs Tryz.prog w "internal/strconv.uint64pow10" .u64 Lib.pow10Tab:=λw h=>qxc w h.1
theorem q9t:∀w,gl.ok w->∃m,w.cell? ⟨1,0,none⟩=some (.int .i64 m):=λw h=>h.2.1
theorem q9u:∀w,gl.ok w->∃tp p,w.var? Tryz.prog "strconv.ErrSyntax"=some #[.iface tp p]:=λw h=>h.2.2.1.2
theorem q9v:∀w,gl.ok w->∃tp p,w.var? Tryz.prog "strconv.ErrRange"=some #[.iface tp p]:=λw h=>h.2.2.2.2
def lz (b:Code):Nat->Nat->List Code
 |0,_=>[]
 |n+1,i=>(zbt b).getD i .skip::lz b n (i+1)
theorem ll {cx:Cx}{rc:Rc}{pl:Plan}{off:Nat}{b:Code}(n:Nat)(h:zbt b=lz b n 0)(h2:LAll cx rc pl off (lz b n 0)):LAll cx rc pl off (zbt b):=h▸h2
theorem lc {cx:Cx}{rc:Rc}{pl:Plan}{off:Nat}{c:Code}{l:List Code}(lp:Lp)(h1:lookup pl.loops (zb2 c)=some lp)(h2:∀d,denK cx rc pl off c (zav lp.sh d) (znk off lp)=lp.B d)(h3:LAll cx rc pl off l):LAll cx rc pl off (c::l):=
 ⟨by rw[h1];exact λd z h=>(h2 d).trans h,h3⟩
theorem oz {c:List (FuncId×Ct)}{f:List (FuncId×Func×Plan)}{s:List (FuncId×FuncId×Func×Plan)}(h1:znu gl Tryz.prog c)(h2:zfl Tryz.prog ⟨tab,arrs,c,f,gl,s⟩ f)(h3:zfl Tryz.prog ⟨tab,arrs,c,f,gl,s⟩ (s.map (·.2)):=by exact trivial):Ok0 Tryz.prog ⟨tab,arrs,c,f,gl,s⟩:=
 zw4 zrr (by unfold zbi;kernel_rfl) mix h1 h2 h3
theorem fo {k:FuncId}{fn:Func}{ct:Ct}(cx:Cx)(pl:Plan)(dp:Nat)(hok:Ok0 Tryz.prog cx)(hf:Tryz.prog.funcs[k]? =some fn)(hb:fn.body.isSome=true)(hn:(fn.name== "runtime.NumGoroutine")=false)
 (hunit:(ct.rets.all λq=> !q.1.isUnit)=true)(hlo:LAll cx (rcN cx dp) pl (outN ct.pars) (zbt (zcq fn)))
 (hF:∀xs,denF cx dp pl fn.ntmps (zcq fn) fn.results.toList ct.pars ct.rets xs=ct.F xs):FnOk cx.gl Tryz.prog k ct:=
 fnOk hok hf hb hn hunit hlo hF
open Go.Shelf
set_option maxRecDepth 20000
def qg2:Go.Shelf.Ren:=⟨λ|0=>0|1=>1|2=>2|99=>213|100=>226|101=>214|102=>206|103=>218|104=>219|109=>244|119=>250|129=>302|137=>221|138=>258|143=>259|144=>233|145=>211|152=>207|153=>142|156=>247|165=>273|166=>274|169=>275|171=>205|172=>254|193=>154|195=>280|197=>281|205=>309|206=>255|207=>265|208=>256|209=>249|210=>260|211=>261|217=>263|218=>282|219=>277|220=>253|221=>215|224=>251|225=>252|226=>208|227=>209|228=>210|240=>286|241=>287|243=>248|244=>278|245=>279|246=>276|247=>293|260=>298|266=>283|267=>292|268=>257|276=>299|277=>300|279=>294|280=>295|281=>296|282=>297|283=>288|284=>289|285=>290|286=>291|287=>307|314=>306|316=>308|317=>301|318=>303|319=>304|320=>305|321=>312|322=>313|337=>310|338=>311|347=>314|348=>315|349=>316|350=>317|351=>318|352=>319|353=>320|354=>321|355=>322|356=>323|357=>324|358=>325|359=>326|360=>327|361=>328|362=>330|363=>333|364=>331|365=>332|366=>334|367=>346|n=>n,λ|0=>0|1=>1|2=>2|3=>3|4=>4|5=>5|6=>6|7=>7|8=>8|9=>9|10=>10|11=>11|12=>12|13=>13|14=>14|15=>15|16=>16|17=>17|18=>18|19=>19|20=>20|21=>21|22=>50|23=>93|24=>28|25=>205|27=>145|28=>36|30=>40|31=>24|32=>219|34=>39|36=>168|37=>22|38=>23|40=>222|41=>198|43=>131|46=>180|47=>262|48=>182|51=>260|52=>274|53=>74|54=>245|55=>206|59=>199|60=>200|61=>150|64=>193|67=>221|68=>90|69=>97|70=>234|71=>235|72=>236|73=>237|74=>224|75=>225|76=>226|77=>227|80=>130|81=>123|83=>119|84=>238|85=>250|86=>251|101=>58|102=>100|103=>232|104=>41|105=>240|106=>241|108=>269|111=>81|112=>80|113=>203|114=>79|115=>194|116=>195|117=>196|118=>197|119=>270|124=>223|127=>243|128=>239|131=>201|137=>271|138=>272|139=>273|143=>276|144=>277|145=>278|146=>263|150=>228|151=>264|164=>255|165=>256|166=>257|167=>249|168=>252|169=>253|170=>254|171=>244|172=>246|173=>247|174=>248|175=>265|176=>266|209=>267|210=>268|211=>258|212=>259|213=>261|214=>275|232=>279|233=>280|238=>281|239=>282|240=>283|241=>284|242=>285|243=>286|244=>287|245=>288|246=>289|247=>290|248=>291|249=>292|n=>n,λ|1=>1|3=>5|4=>6|15=>3|16=>4|17=>2|18=>7|19=>8|n=>n⟩
theorem qju:Go.Proofs.LaysM.n171 Tryz.prog qg2 where
 mixed:=by kernel_rfl
 f129:=Tryz.func302.trans (congrArg some (by kernel_rfl))
 f171:=Tryz.func205.trans (congrArg some (by kernel_rfl))
 f243:=Tryz.func248.trans (congrArg some (by kernel_rfl))
 f246:=Tryz.func276.trans (congrArg some (by kernel_rfl))
 f283:=Tryz.func288.trans (congrArg some (by kernel_rfl))
 f284:=Tryz.func289.trans (congrArg some (by kernel_rfl))
 f285:=Tryz.func290.trans (congrArg some (by kernel_rfl))
 f286:=Tryz.func291.trans (congrArg some (by kernel_rfl))
 f317:=Tryz.func301.trans (congrArg some (by kernel_rfl))
 f318:=Tryz.func303.trans (congrArg some (by kernel_rfl))
 f319:=Tryz.func304.trans (congrArg some (by kernel_rfl))
 f320:=Tryz.func305.trans (congrArg some (by kernel_rfl))
 f337:=Tryz.func310.trans (congrArg some (by kernel_rfl))
 f338:=Tryz.func311.trans (congrArg some (by kernel_rfl))
 t0:=Tryz.underlying0
 a0:=Tryz.isAgg0
 z0:=Tryz.sizeOf0
 v0:=Tryz.zeroValue0
 t2:=Tryz.underlying2
 a2:=Tryz.isAgg2
 z2:=Tryz.sizeOf2
 v2:=Tryz.zeroValue2
 t3:=Tryz.underlying3
 a3:=Tryz.isAgg3
 z3:=Tryz.sizeOf3
 v3:=Tryz.zeroValue3
 t4:=Tryz.underlying4
 a4:=Tryz.isAgg4
 z4:=Tryz.sizeOf4
 v4:=Tryz.zeroValue4
 t5:=Tryz.underlying5
 a5:=Tryz.isAgg5
 z5:=Tryz.sizeOf5
 v5:=Tryz.zeroValue5
 t9:=Tryz.underlying9
 a9:=Tryz.isAgg9
 z9:=Tryz.sizeOf9
 v9:=Tryz.zeroValue9
 t20:=Tryz.underlying20
 a20:=Tryz.isAgg20
 z20:=Tryz.sizeOf20
 v20:=Tryz.zeroValue20
 t37:=Tryz.underlying22
 a37:=Tryz.isAgg22
 z37:=Tryz.sizeOf22
 v37:=Tryz.zeroValue22
 t46:=Tryz.underlying180
 a46:=Tryz.isAgg180
 z46:=Tryz.sizeOf180
 v46:=Tryz.zeroValue180
 t51:=Tryz.underlying260
 a51:=Tryz.isAgg260
 z51:=Tryz.sizeOf260
 v51:=Tryz.zeroValue260
 t53:=Tryz.underlying74
 a53:=Tryz.isAgg74
 z53:=Tryz.sizeOf74
 v53:=Tryz.zeroValue74
 t171:=Tryz.underlying244
 a171:=Tryz.isAgg244
 z171:=Tryz.sizeOf244
 v171:=Tryz.zeroValue244
 t173:=Tryz.underlying247
 a173:=Tryz.isAgg247
 z173:=Tryz.sizeOf247
 v173:=Tryz.zeroValue247
 t212:=Tryz.underlying259
 a212:=Tryz.isAgg259
 z212:=Tryz.sizeOf259
 v212:=Tryz.zeroValue259
 t213:=Tryz.underlying261
 a213:=Tryz.isAgg261
 z213:=Tryz.sizeOf261
 t232:=Tryz.underlying279
 a232:=Tryz.isAgg279
 z232:=Tryz.sizeOf279
 v232:=Tryz.zeroValue279
 t233:=Tryz.underlying280
 a233:=Tryz.isAgg280
 z233:=Tryz.sizeOf280
 v233:=Tryz.zeroValue280
 g17:=by kernel_rfl
 g18:=by kernel_rfl
 g19:=by kernel_rfl
 i0:=by kernel_rfl
 i2:=by kernel_rfl
 i3:=by kernel_rfl
 i4:=by kernel_rfl
 i5:=by kernel_rfl
 i9:=by kernel_rfl
 i20:=by kernel_rfl
 i37:=by kernel_rfl
 i46:=by kernel_rfl
 i51:=by kernel_rfl
 i53:=by kernel_rfl
 i171:=by kernel_rfl
 i173:=by kernel_rfl
 i212:=by kernel_rfl
 i232:=by kernel_rfl
 i233:=by kernel_rfl
 m17:=by kernel_rfl
 m18:=by kernel_rfl
 m19:=by kernel_rfl
def zfw (t0:PV (.int .i64)):Option (PVs [.str]×PVs []):=Go.Dn.zrq t0
def zsl:Ct:=⟨[(.bor,(.int .i64))],[(.str,.b)],λx=>zfw x.1⟩
theorem z0f:FnOk gl Tryz.prog 205 zsl:=Go.Dn.q7l qey qju
def qg3:Go.Shelf.Ren:=⟨λ|0=>0|1=>1|2=>2|99=>213|100=>226|101=>214|102=>206|103=>218|104=>219|109=>244|119=>250|129=>302|137=>221|138=>258|143=>259|144=>233|145=>211|152=>207|153=>142|156=>247|165=>273|166=>274|169=>275|171=>205|172=>254|193=>154|195=>280|197=>281|205=>309|206=>255|207=>265|208=>256|209=>249|210=>260|211=>261|217=>263|218=>282|219=>277|220=>253|221=>215|224=>251|225=>252|226=>208|227=>209|228=>210|240=>286|241=>287|243=>248|244=>278|245=>279|246=>276|247=>293|260=>298|266=>283|267=>292|268=>257|276=>299|277=>300|279=>294|280=>295|281=>296|282=>297|283=>288|284=>289|285=>290|286=>291|287=>307|314=>306|316=>308|317=>301|318=>303|319=>304|320=>305|321=>312|322=>313|337=>310|338=>311|347=>314|348=>315|349=>316|350=>317|351=>318|352=>319|353=>320|354=>321|355=>322|356=>323|357=>324|358=>325|359=>326|360=>327|361=>328|362=>330|363=>333|364=>331|365=>332|366=>334|367=>346|n=>n,λ|0=>0|1=>1|2=>2|3=>3|4=>4|5=>5|6=>6|7=>7|8=>8|9=>9|10=>10|11=>11|12=>12|13=>13|14=>14|15=>15|16=>16|17=>17|18=>18|19=>19|20=>20|21=>21|22=>50|23=>93|24=>28|25=>205|27=>145|28=>36|30=>40|31=>24|32=>219|34=>39|36=>168|37=>22|38=>23|40=>222|41=>198|43=>131|46=>180|47=>262|48=>182|51=>260|52=>274|53=>74|54=>245|55=>206|59=>199|60=>200|61=>150|64=>193|67=>221|68=>90|69=>97|70=>234|71=>235|72=>236|73=>237|74=>224|75=>225|76=>226|77=>227|80=>130|81=>123|83=>119|84=>238|85=>250|86=>251|101=>58|102=>100|103=>232|104=>41|105=>240|106=>241|108=>269|111=>81|112=>80|113=>203|114=>79|115=>194|116=>195|117=>196|118=>197|119=>270|124=>223|127=>243|128=>239|131=>201|137=>271|138=>272|139=>273|143=>276|144=>277|145=>278|146=>263|150=>228|151=>264|164=>255|165=>256|166=>257|167=>249|168=>252|169=>253|170=>254|171=>244|172=>246|173=>247|174=>248|175=>265|176=>266|209=>267|210=>268|211=>258|212=>259|213=>261|214=>275|232=>279|233=>280|238=>281|239=>282|240=>283|241=>284|242=>285|243=>286|244=>287|245=>288|246=>289|247=>290|248=>291|249=>292|n=>n,λ|1=>1|3=>5|4=>6|15=>3|16=>4|17=>2|18=>7|19=>8|n=>n⟩
theorem zsc:Go.Proofs.LaysC.n172 Tryz.prog qg3 where
 mixed:=by kernel_rfl
 f129:=Tryz.func302.trans (congrArg some (by kernel_rfl))
 f171:=Tryz.func205.trans (congrArg some (by kernel_rfl))
 f172:=Tryz.func254.trans (congrArg some (by kernel_rfl))
 f205:=Tryz.func309.trans (congrArg some (by kernel_rfl))
 f243:=Tryz.func248.trans (congrArg some (by kernel_rfl))
 f244:=Tryz.func278.trans (congrArg some (by kernel_rfl))
 f245:=Tryz.func279.trans (congrArg some (by kernel_rfl))
 f246:=Tryz.func276.trans (congrArg some (by kernel_rfl))
 f247:=Tryz.func293.trans (congrArg some (by kernel_rfl))
 f279:=Tryz.func294.trans (congrArg some (by kernel_rfl))
 f280:=Tryz.func295.trans (congrArg some (by kernel_rfl))
 f281:=Tryz.func296.trans (congrArg some (by kernel_rfl))
 f282:=Tryz.func297.trans (congrArg some (by kernel_rfl))
 f283:=Tryz.func288.trans (congrArg some (by kernel_rfl))
 f284:=Tryz.func289.trans (congrArg some (by kernel_rfl))
 f285:=Tryz.func290.trans (congrArg some (by kernel_rfl))
 f286:=Tryz.func291.trans (congrArg some (by kernel_rfl))
 f287:=Tryz.func307.trans (congrArg some (by kernel_rfl))
 f316:=Tryz.func308.trans (congrArg some (by kernel_rfl))
 f317:=Tryz.func301.trans (congrArg some (by kernel_rfl))
 f318:=Tryz.func303.trans (congrArg some (by kernel_rfl))
 f319:=Tryz.func304.trans (congrArg some (by kernel_rfl))
 f320:=Tryz.func305.trans (congrArg some (by kernel_rfl))
 f321:=Tryz.func312.trans (congrArg some (by kernel_rfl))
 f322:=Tryz.func313.trans (congrArg some (by kernel_rfl))
 f337:=Tryz.func310.trans (congrArg some (by kernel_rfl))
 f338:=Tryz.func311.trans (congrArg some (by kernel_rfl))
 t0:=Tryz.underlying0
 a0:=Tryz.isAgg0
 z0:=Tryz.sizeOf0
 v0:=Tryz.zeroValue0
 t2:=Tryz.underlying2
 a2:=Tryz.isAgg2
 z2:=Tryz.sizeOf2
 v2:=Tryz.zeroValue2
 t3:=Tryz.underlying3
 a3:=Tryz.isAgg3
 z3:=Tryz.sizeOf3
 v3:=Tryz.zeroValue3
 t4:=Tryz.underlying4
 a4:=Tryz.isAgg4
 z4:=Tryz.sizeOf4
 v4:=Tryz.zeroValue4
 t5:=Tryz.underlying5
 a5:=Tryz.isAgg5
 z5:=Tryz.sizeOf5
 v5:=Tryz.zeroValue5
 t9:=Tryz.underlying9
 a9:=Tryz.isAgg9
 z9:=Tryz.sizeOf9
 v9:=Tryz.zeroValue9
 t20:=Tryz.underlying20
 a20:=Tryz.isAgg20
 z20:=Tryz.sizeOf20
 v20:=Tryz.zeroValue20
 t21:=Tryz.underlying21
 a21:=Tryz.isAgg21
 z21:=Tryz.sizeOf21
 v21:=Tryz.zeroValue21
 t37:=Tryz.underlying22
 a37:=Tryz.isAgg22
 z37:=Tryz.sizeOf22
 v37:=Tryz.zeroValue22
 t46:=Tryz.underlying180
 a46:=Tryz.isAgg180
 z46:=Tryz.sizeOf180
 v46:=Tryz.zeroValue180
 t51:=Tryz.underlying260
 a51:=Tryz.isAgg260
 z51:=Tryz.sizeOf260
 v51:=Tryz.zeroValue260
 t53:=Tryz.underlying74
 a53:=Tryz.isAgg74
 z53:=Tryz.sizeOf74
 v53:=Tryz.zeroValue74
 t75:=Tryz.underlying225
 a75:=Tryz.isAgg225
 z75:=Tryz.sizeOf225
 v75:=Tryz.zeroValue225
 t76:=Tryz.underlying226
 a76:=Tryz.isAgg226
 z76:=Tryz.sizeOf226
 v76:=Tryz.zeroValue226
 t85:=Tryz.underlying250
 a85:=Tryz.isAgg250
 z85:=Tryz.sizeOf250
 v85:=Tryz.zeroValue250
 t127:=Tryz.underlying243
 a127:=Tryz.isAgg243
 z127:=Tryz.sizeOf243
 v127:=Tryz.zeroValue243
 t143:=Tryz.underlying276
 a143:=Tryz.isAgg276
 z143:=Tryz.sizeOf276
 v143:=Tryz.zeroValue276
 t145:=Tryz.underlying278
 a145:=Tryz.isAgg278
 z145:=Tryz.sizeOf278
 v145:=Tryz.zeroValue278
 t167:=Tryz.underlying249
 a167:=Tryz.isAgg249
 z167:=Tryz.sizeOf249
 v167:=Tryz.zeroValue249
 t168:=Tryz.underlying252
 a168:=Tryz.isAgg252
 z168:=Tryz.sizeOf252
 v168:=Tryz.zeroValue252
 t171:=Tryz.underlying244
 a171:=Tryz.isAgg244
 z171:=Tryz.sizeOf244
 v171:=Tryz.zeroValue244
 t173:=Tryz.underlying247
 a173:=Tryz.isAgg247
 z173:=Tryz.sizeOf247
 v173:=Tryz.zeroValue247
 t175:=Tryz.underlying265
 a175:=Tryz.isAgg265
 z175:=Tryz.sizeOf265
 v175:=Tryz.zeroValue265
 t210:=Tryz.underlying268
 a210:=Tryz.isAgg268
 z210:=Tryz.sizeOf268
 v210:=Tryz.zeroValue268
 t212:=Tryz.underlying259
 a212:=Tryz.isAgg259
 z212:=Tryz.sizeOf259
 v212:=Tryz.zeroValue259
 t213:=Tryz.underlying261
 a213:=Tryz.isAgg261
 z213:=Tryz.sizeOf261
 t232:=Tryz.underlying279
 a232:=Tryz.isAgg279
 z232:=Tryz.sizeOf279
 v232:=Tryz.zeroValue279
 t233:=Tryz.underlying280
 a233:=Tryz.isAgg280
 z233:=Tryz.sizeOf280
 v233:=Tryz.zeroValue280
 g15:=by kernel_rfl
 g16:=by kernel_rfl
 g17:=by kernel_rfl
 g18:=by kernel_rfl
 g19:=by kernel_rfl
 t80:=Tryz.underlying130
 a80:=Tryz.isAgg130
 z80:=Tryz.sizeOf130
 v80:=Tryz.zeroValue130
 i0:=by kernel_rfl
 i2:=by kernel_rfl
 i3:=by kernel_rfl
 i4:=by kernel_rfl
 i5:=by kernel_rfl
 i9:=by kernel_rfl
 i20:=by kernel_rfl
 i21:=by kernel_rfl
 i37:=by kernel_rfl
 i46:=by kernel_rfl
 i51:=by kernel_rfl
 i53:=by kernel_rfl
 i75:=by kernel_rfl
 i76:=by kernel_rfl
 i80:=by kernel_rfl
 i85:=by kernel_rfl
 i127:=by kernel_rfl
 i143:=by kernel_rfl
 i145:=by kernel_rfl
 i167:=by kernel_rfl
 i168:=by kernel_rfl
 i171:=by kernel_rfl
 i173:=by kernel_rfl
 i175:=by kernel_rfl
 i210:=by kernel_rfl
 i212:=by kernel_rfl
 i232:=by kernel_rfl
 i233:=by kernel_rfl
 m15:=by kernel_rfl
 m16:=by kernel_rfl
 m17:=by kernel_rfl
 m18:=by kernel_rfl
 m19:=by kernel_rfl
 c0:=by kernel_rfl
 c2:=by kernel_rfl
 c3:=by kernel_rfl
 c4:=by kernel_rfl
 c5:=by kernel_rfl
 c9:=by kernel_rfl
 c20:=by kernel_rfl
 c21:=by kernel_rfl
 c37:=by kernel_rfl
 c46:=by kernel_rfl
 c51:=by kernel_rfl
 c53:=by kernel_rfl
 c75:=by kernel_rfl
 c76:=by kernel_rfl
 c80:=by kernel_rfl
 c85:=by kernel_rfl
 c127:=by kernel_rfl
 c143:=by kernel_rfl
 c145:=by kernel_rfl
 c167:=by kernel_rfl
 c168:=by kernel_rfl
 c171:=by kernel_rfl
 c173:=by kernel_rfl
 c175:=by kernel_rfl
 c210:=by kernel_rfl
 c212:=by kernel_rfl
 c213:=by kernel_rfl
 c232:=by kernel_rfl
 c233:=by kernel_rfl
def qjv:Go.Shelf.Ren:=⟨λ|0=>0|1=>1|2=>2|99=>213|100=>226|101=>214|102=>206|103=>218|104=>219|109=>244|119=>250|129=>302|137=>221|138=>258|143=>259|144=>233|145=>211|152=>207|153=>142|156=>247|165=>273|166=>274|169=>275|171=>205|172=>254|193=>154|195=>280|197=>281|205=>309|206=>255|207=>265|208=>256|209=>249|210=>260|211=>261|217=>263|218=>282|219=>277|220=>253|221=>215|224=>251|225=>252|226=>208|227=>209|228=>210|240=>286|241=>287|243=>248|244=>278|245=>279|246=>276|247=>293|260=>298|266=>283|267=>292|268=>257|276=>299|277=>300|279=>294|280=>295|281=>296|282=>297|283=>288|284=>289|285=>290|286=>291|287=>307|314=>306|316=>308|317=>301|318=>303|319=>304|320=>305|321=>312|322=>313|337=>310|338=>311|347=>314|348=>315|349=>316|350=>317|351=>318|352=>319|353=>320|354=>321|355=>322|356=>323|357=>324|358=>325|359=>326|360=>327|361=>328|362=>330|363=>333|364=>331|365=>332|366=>334|367=>346|n=>n,λ|0=>0|1=>1|2=>2|3=>3|4=>4|5=>5|6=>6|7=>7|8=>8|9=>9|10=>10|11=>11|12=>12|13=>13|14=>14|15=>15|16=>16|17=>17|18=>18|19=>19|20=>20|21=>21|22=>50|23=>93|24=>28|25=>205|27=>145|28=>36|30=>40|31=>24|32=>219|34=>39|36=>168|37=>22|38=>23|40=>222|41=>198|43=>131|46=>180|47=>262|48=>182|51=>260|52=>274|53=>74|54=>245|55=>206|59=>199|60=>200|61=>150|64=>193|67=>221|68=>90|69=>97|70=>234|71=>235|72=>236|73=>237|74=>224|75=>225|76=>226|77=>227|80=>130|81=>123|83=>119|84=>238|85=>250|86=>251|101=>58|102=>100|103=>232|104=>41|105=>240|106=>241|108=>269|111=>81|112=>80|113=>203|114=>79|115=>194|116=>195|117=>196|118=>197|119=>270|124=>223|127=>243|128=>239|131=>201|137=>271|138=>272|139=>273|143=>276|144=>277|145=>278|146=>263|150=>228|151=>264|164=>255|165=>256|166=>257|167=>249|168=>252|169=>253|170=>254|171=>244|172=>246|173=>247|174=>248|175=>265|176=>266|209=>267|210=>268|211=>258|212=>259|213=>261|214=>275|232=>279|233=>280|238=>281|239=>282|240=>283|241=>284|242=>285|243=>286|244=>287|245=>288|246=>289|247=>290|248=>291|249=>292|n=>n,λ|1=>1|3=>5|4=>6|15=>3|16=>4|17=>2|18=>7|19=>8|n=>n⟩
theorem qri:Go.Proofs.LaysM.n171 Tryz.prog qjv where
 mixed:=by kernel_rfl
 f129:=Tryz.func302.trans (congrArg some (by kernel_rfl))
 f171:=Tryz.func205.trans (congrArg some (by kernel_rfl))
 f243:=Tryz.func248.trans (congrArg some (by kernel_rfl))
 f246:=Tryz.func276.trans (congrArg some (by kernel_rfl))
 f283:=Tryz.func288.trans (congrArg some (by kernel_rfl))
 f284:=Tryz.func289.trans (congrArg some (by kernel_rfl))
 f285:=Tryz.func290.trans (congrArg some (by kernel_rfl))
 f286:=Tryz.func291.trans (congrArg some (by kernel_rfl))
 f317:=Tryz.func301.trans (congrArg some (by kernel_rfl))
 f318:=Tryz.func303.trans (congrArg some (by kernel_rfl))
 f319:=Tryz.func304.trans (congrArg some (by kernel_rfl))
 f320:=Tryz.func305.trans (congrArg some (by kernel_rfl))
 f337:=Tryz.func310.trans (congrArg some (by kernel_rfl))
 f338:=Tryz.func311.trans (congrArg some (by kernel_rfl))
 t0:=Tryz.underlying0
 a0:=Tryz.isAgg0
 z0:=Tryz.sizeOf0
 v0:=Tryz.zeroValue0
 t2:=Tryz.underlying2
 a2:=Tryz.isAgg2
 z2:=Tryz.sizeOf2
 v2:=Tryz.zeroValue2
 t3:=Tryz.underlying3
 a3:=Tryz.isAgg3
 z3:=Tryz.sizeOf3
 v3:=Tryz.zeroValue3
 t4:=Tryz.underlying4
 a4:=Tryz.isAgg4
 z4:=Tryz.sizeOf4
 v4:=Tryz.zeroValue4
 t5:=Tryz.underlying5
 a5:=Tryz.isAgg5
 z5:=Tryz.sizeOf5
 v5:=Tryz.zeroValue5
 t9:=Tryz.underlying9
 a9:=Tryz.isAgg9
 z9:=Tryz.sizeOf9
 v9:=Tryz.zeroValue9
 t20:=Tryz.underlying20
 a20:=Tryz.isAgg20
 z20:=Tryz.sizeOf20
 v20:=Tryz.zeroValue20
 t37:=Tryz.underlying22
 a37:=Tryz.isAgg22
 z37:=Tryz.sizeOf22
 v37:=Tryz.zeroValue22
 t46:=Tryz.underlying180
 a46:=Tryz.isAgg180
 z46:=Tryz.sizeOf180
 v46:=Tryz.zeroValue180
 t51:=Tryz.underlying260
 a51:=Tryz.isAgg260
 z51:=Tryz.sizeOf260
 v51:=Tryz.zeroValue260
 t53:=Tryz.underlying74
 a53:=Tryz.isAgg74
 z53:=Tryz.sizeOf74
 v53:=Tryz.zeroValue74
 t171:=Tryz.underlying244
 a171:=Tryz.isAgg244
 z171:=Tryz.sizeOf244
 v171:=Tryz.zeroValue244
 t173:=Tryz.underlying247
 a173:=Tryz.isAgg247
 z173:=Tryz.sizeOf247
 v173:=Tryz.zeroValue247
 t212:=Tryz.underlying259
 a212:=Tryz.isAgg259
 z212:=Tryz.sizeOf259
 v212:=Tryz.zeroValue259
 t213:=Tryz.underlying261
 a213:=Tryz.isAgg261
 z213:=Tryz.sizeOf261
 t232:=Tryz.underlying279
 a232:=Tryz.isAgg279
 z232:=Tryz.sizeOf279
 v232:=Tryz.zeroValue279
 t233:=Tryz.underlying280
 a233:=Tryz.isAgg280
 z233:=Tryz.sizeOf280
 v233:=Tryz.zeroValue280
 g17:=by kernel_rfl
 g18:=by kernel_rfl
 g19:=by kernel_rfl
 i0:=by kernel_rfl
 i2:=by kernel_rfl
 i3:=by kernel_rfl
 i4:=by kernel_rfl
 i5:=by kernel_rfl
 i9:=by kernel_rfl
 i20:=by kernel_rfl
 i37:=by kernel_rfl
 i46:=by kernel_rfl
 i51:=by kernel_rfl
 i53:=by kernel_rfl
 i171:=by kernel_rfl
 i173:=by kernel_rfl
 i212:=by kernel_rfl
 i232:=by kernel_rfl
 i233:=by kernel_rfl
 m17:=by kernel_rfl
 m18:=by kernel_rfl
 m19:=by kernel_rfl
section
open Go.RowKit Go.Lib
theorem q5w (n:Int)(h1: -9223372036854775808<=n)(h2:n<=9223372036854775807)(w:World)(hT:Lib.TabIs Tryz.prog w "internal/strconv.uint64pow10" .u64 Lib.pow10Tab):
 Calls Tryz.prog 205 #[.int .i64 n] w λe w'=>e=.returned (.string ⟨(Lib.itoa n).toArray⟩)/\Below w.heap.size w w':=
 (Any.strconv_Itoa qri n h1 h2 w hT).mono λe w' ⟨e1,k,os,e2⟩=>⟨e1,by
   subst e2;exact⟨rfl,rfl,rfl,by show w.heap.size<=(w.heap++os).size;simp,λb hb=>by show(w.heap++os)[b]? =_;rw[Array.getElem?_append_left hb]⟩⟩
set_option maxHeartbeats 1000000 in
set_option maxRecDepth 100000 in
theorem q9w (s:ByteArray)(v:Int)(h:Lib.atoiAll s.data.toList=.ok v)(hs:s.size<=1000000)(w:World)(hT:Lib.TabIs Tryz.prog w "internal/strconv.uint64pow10" .u64 Lib.pow10Tab):
 Calls Tryz.prog 212 #[.string s] w λe w'=>e=.returned (.tuple #[.int .i64 v,.bool (decide (0<=v)&&(decide (s.size<=4)&&(Lib.itoa v==s.data.toList)))])/\Below w.heap.size w w':=by
 obtain⟨b1,b2⟩:=Go.Dn.atoi_bound h
 have hA:Calls Tryz.prog 254 #[.string s] w λe w'=>e=.returned (.tuple #[.int .i64 v,.nilIface])/\Below w.heap.size w w':=
  (Any.strconv_Atoi_ok zsc s (by omega) v h w).mono λe w' ⟨e1,e2⟩=>⟨e1,by
    rcases e2 with rfl|⟨t,rfl⟩
    ·exact Below.refl _ _
    ·exact Lib.bytesWorld_below _ _ _⟩
 by_cases h0:0<=v
 ·by_cases h4:s.size<=4
  ·rw[yc0 h0,yc0 h4]
   have h4':(s.size:Int)<=4:=by omega
   go_enter Tryz.func212,Tryz.ntmps212
   go_wp2_with (go_at_fn 254;go_fit hA;rintro e w' ⟨rfl,hb⟩)
   refine hA.mono ?_;rintro e w1 ⟨rfl,hb⟩
   go_wp2_with (go_at_fn 205;go_fit hA;rintro e w' ⟨rfl,hb⟩)
   refine(q5w v b1 b2 w1 (Go.Dn.tab_below hT hb)).mono ?_;rintro e w2 ⟨rfl,hb2⟩
   go_wp2
   go_ret2
   refine⟨?_,hb.trans (hb2.mono hb.size)⟩;simp[Lib.toList_data]
  ·rw[yc0 h0,yi0 h4]
   have h4':¬(s.size:Int)<=4:=by omega
   go_enter Tryz.func212,Tryz.ntmps212
   go_wp2_with (go_at_fn 254;go_fit hA;rintro e w' ⟨rfl,hb⟩)
   refine hA.mono ?_;rintro e w1 ⟨rfl,hb⟩
   go_wp2
   go_ret2
   exact⟨rfl,hb⟩
 ·rw[yi0 h0]
  go_enter Tryz.func212,Tryz.ntmps212
  go_wp2_with (go_at_fn 254;go_fit hA;rintro e w' ⟨rfl,hb⟩)
  refine hA.mono ?_;rintro e w1 ⟨rfl,hb⟩
  go_wp2
  go_ret2
  exact⟨rfl,hb⟩
set_option maxHeartbeats 1000000 in
set_option maxRecDepth 100000 in
theorem qez (s:ByteArray)(x:Int)(tp:TypeId)(w:World)(hA:Calls Tryz.prog 254 #[.string s] w λe w'=>∃N,e=.returned (.tuple #[.int .i64 x,.iface tp (.pointer (some ⟨N,0,none⟩))])/\Below w.heap.size w w'):
 Calls Tryz.prog 212 #[.string s] w λe w'=>e=.returned (.tuple #[.int .i64 x,.bool false])/\Below w.heap.size w w':=by
 go_enter Tryz.func212,Tryz.ntmps212
 go_wp2_with (go_at_fn 254;go_fit hA;rintro e w' ⟨rfl,hb⟩)
 refine hA.mono ?_;rintro e w1 ⟨N,rfl,hb⟩
 go_wp2
 go_ret2
 exact⟨rfl,hb⟩
theorem q7r (s:ByteArray)(w:World)(hs:s.size<=1000000)(hT:Lib.TabIs Tryz.prog w "internal/strconv.uint64pow10" .u64 Lib.pow10Tab)(h1:∃tp p,w.var? Tryz.prog "strconv.ErrSyntax"=some #[.iface tp p])(h2:∃tp p,w.var? Tryz.prog "strconv.ErrRange"=some #[.iface tp p]):
 Calls Tryz.prog 212 #[.string s] w λe w'=>e=.returned (.tuple #[.int .i64 (Go.Dn.numV s.data.toList),.bool (Go.Dn.numB s.data.toList)])/\Below w.heap.size w w':=by
 unfold Go.Dn.numV Go.Dn.numB;rcases h:Lib.atoiAll s.data.toList with v|_|_
 ·exact q9w s v h hs w hT
 ·obtain⟨tp,p,hv⟩:=h1
  exact qez s 0 _ w ((Any.strconv_Atoi_syntax_var zsc s (by omega) h tp p w hv).mono λe w' ⟨N,e1,_,_,hb⟩=>⟨N,e1,hb⟩)
 ·obtain⟨tp,p,hv⟩:=h2
  exact qez s _ _ w ((Any.strconv_Atoi_range_var zsc s (by omega) h tp p w hv).mono λe w' ⟨N,e1,_,_,hb⟩=>⟨N,e1,hb⟩)
end
def zll (t0:PV .str):Option (PVs [.int .i64,.bool]×PVs []):=Go.Dn.numF t0
def z0g:Ct:=⟨[(.bor,.str)],[(.int .i64,.b),(.bool,.b)],λx=>zll x.1⟩
theorem qmv:FnOk gl Tryz.prog 212 z0g:=Go.Dn.qxe ⟨_,Tryz.func212,rfl,by kernel_rfl⟩ λs w hs hg=>q7r s w hs (qey w hg) (q9u w hg) (q9v w hg)
def qgl:Go.Shelf.Ren:=⟨λ|0=>0|1=>1|2=>2|99=>213|100=>226|101=>214|102=>206|103=>218|104=>219|109=>244|119=>250|129=>302|137=>221|138=>258|143=>259|144=>233|145=>211|152=>207|153=>142|156=>247|165=>273|166=>274|169=>275|171=>205|172=>254|193=>154|195=>280|197=>281|205=>309|206=>255|207=>265|208=>256|209=>249|210=>260|211=>261|217=>263|218=>282|219=>277|220=>253|221=>215|224=>251|225=>252|226=>208|227=>209|228=>210|240=>286|241=>287|243=>248|244=>278|245=>279|246=>276|247=>293|260=>298|266=>283|267=>292|268=>257|276=>299|277=>300|279=>294|280=>295|281=>296|282=>297|283=>288|284=>289|285=>290|286=>291|287=>307|314=>306|316=>308|317=>301|318=>303|319=>304|320=>305|321=>312|322=>313|337=>310|338=>311|347=>314|348=>315|349=>316|350=>317|351=>318|352=>319|353=>320|354=>321|355=>322|356=>323|357=>324|358=>325|359=>326|360=>327|361=>328|362=>330|363=>333|364=>331|365=>332|366=>334|367=>346|n=>n,λ|0=>0|1=>1|2=>2|3=>3|4=>4|5=>5|6=>6|7=>7|8=>8|9=>9|10=>10|11=>11|12=>12|13=>13|14=>14|15=>15|16=>16|17=>17|18=>18|19=>19|20=>20|21=>21|22=>50|23=>93|24=>28|25=>205|27=>145|28=>36|30=>40|31=>24|32=>219|34=>39|36=>168|37=>22|38=>23|40=>222|41=>198|43=>131|46=>180|47=>262|48=>182|51=>260|52=>274|53=>74|54=>245|55=>206|59=>199|60=>200|61=>150|64=>193|67=>221|68=>90|69=>97|70=>234|71=>235|72=>236|73=>237|74=>224|75=>225|76=>226|77=>227|80=>130|81=>123|83=>119|84=>238|85=>250|86=>251|101=>58|102=>100|103=>232|104=>41|105=>240|106=>241|108=>269|111=>81|112=>80|113=>203|114=>79|115=>194|116=>195|117=>196|118=>197|119=>270|124=>223|127=>243|128=>239|131=>201|137=>271|138=>272|139=>273|143=>276|144=>277|145=>278|146=>263|150=>228|151=>264|164=>255|165=>256|166=>257|167=>249|168=>252|169=>253|170=>254|171=>244|172=>246|173=>247|174=>248|175=>265|176=>266|209=>267|210=>268|211=>258|212=>259|213=>261|214=>275|232=>279|233=>280|238=>281|239=>282|240=>283|241=>284|242=>285|243=>286|244=>287|245=>288|246=>289|247=>290|248=>291|249=>292|n=>n,λ|1=>1|3=>5|4=>6|15=>3|16=>4|17=>2|18=>7|19=>8|n=>n⟩
theorem qg4:Go.Proofs.Lays.n221 Tryz.prog qgl where
 mixed:=by kernel_rfl
 f138:=Tryz.func258.trans (congrArg some (by kernel_rfl))
 f143:=Tryz.func259.trans (congrArg some (by kernel_rfl))
 f195:=Tryz.func280.trans (congrArg some (by kernel_rfl))
 f197:=Tryz.func281.trans (congrArg some (by kernel_rfl))
 f217:=Tryz.func263.trans (congrArg some (by kernel_rfl))
 f218:=Tryz.func282.trans (congrArg some (by kernel_rfl))
 f219:=Tryz.func277.trans (congrArg some (by kernel_rfl))
 f221:=Tryz.func215.trans (congrArg some (by kernel_rfl))
 f224:=Tryz.func251.trans (congrArg some (by kernel_rfl))
 f225:=Tryz.func252.trans (congrArg some (by kernel_rfl))
 f260:=Tryz.func298.trans (congrArg some (by kernel_rfl))
 f266:=Tryz.func283.trans (congrArg some (by kernel_rfl))
 f267:=Tryz.func292.trans (congrArg some (by kernel_rfl))
 f268:=Tryz.func257.trans (congrArg some (by kernel_rfl))
 f314:=Tryz.func306.trans (congrArg some (by kernel_rfl))
 t0:=Tryz.underlying0
 a0:=Tryz.isAgg0
 z0:=Tryz.sizeOf0
 v0:=Tryz.zeroValue0
 t3:=Tryz.underlying3
 a3:=Tryz.isAgg3
 z3:=Tryz.sizeOf3
 v3:=Tryz.zeroValue3
 t4:=Tryz.underlying4
 a4:=Tryz.isAgg4
 z4:=Tryz.sizeOf4
 v4:=Tryz.zeroValue4
 t5:=Tryz.underlying5
 a5:=Tryz.isAgg5
 z5:=Tryz.sizeOf5
 v5:=Tryz.zeroValue5
 t9:=Tryz.underlying9
 a9:=Tryz.isAgg9
 z9:=Tryz.sizeOf9
 v9:=Tryz.zeroValue9
 t21:=Tryz.underlying21
 a21:=Tryz.isAgg21
 z21:=Tryz.sizeOf21
 v21:=Tryz.zeroValue21
 t31:=Tryz.underlying24
 a31:=Tryz.isAgg24
 z31:=Tryz.sizeOf24
 v31:=Tryz.zeroValue24
 t46:=Tryz.underlying180
 a46:=Tryz.isAgg180
 z46:=Tryz.sizeOf180
 v46:=Tryz.zeroValue180
 t51:=Tryz.underlying260
 a51:=Tryz.isAgg260
 z51:=Tryz.sizeOf260
 v51:=Tryz.zeroValue260
 t105:=Tryz.underlying240
 a105:=Tryz.isAgg240
 z105:=Tryz.sizeOf240
 v105:=Tryz.zeroValue240
 t119:=Tryz.underlying270
 a119:=Tryz.isAgg270
 z119:=Tryz.sizeOf270
 t138:=Tryz.underlying272
 a138:=Tryz.isAgg272
 z138:=Tryz.sizeOf272
 v138:=Tryz.zeroValue272
 t139:=Tryz.underlying273
 a139:=Tryz.isAgg273
 z139:=Tryz.sizeOf273
 v139:=Tryz.zeroValue273
 t146:=Tryz.underlying263
 a146:=Tryz.isAgg263
 z146:=Tryz.sizeOf263
 v146:=Tryz.zeroValue263
 g1:=by kernel_rfl
 g3:=by kernel_rfl
 g4:=by kernel_rfl
def zsa (t0:PV .str)(t1:PV .str)(t2:PV (.int .i64))(t3:PV (.int .i64)):Option (PVs [zf]×PVs []):=Go.Dn.zre 9 t0 t1 t2 t3
def zyo:Ct:=⟨[(.bor,.str),(.bor,.str),(.bor,.int .i64),(.bor,.int .i64)],[(zf,.row .b)],λx=>zsa x.1 x.2.1 x.2.2.1 x.2.2.2.1⟩
theorem qid:FnOk gl Tryz.prog 215 zyo:=Go.Dn.split_ok rfl qg4 (by kernel_rfl)
def qgm:Go.Shelf.Ren:=⟨λ|0=>0|1=>1|2=>2|99=>213|100=>226|101=>214|102=>206|103=>218|104=>219|109=>244|119=>250|129=>302|137=>221|138=>258|143=>259|144=>233|145=>211|152=>207|153=>142|156=>247|165=>273|166=>274|169=>275|171=>205|172=>254|193=>154|195=>280|197=>281|205=>309|206=>255|207=>265|208=>256|209=>249|210=>260|211=>261|217=>263|218=>282|219=>277|220=>253|221=>215|224=>251|225=>252|226=>208|227=>209|228=>210|240=>286|241=>287|243=>248|244=>278|245=>279|246=>276|247=>293|260=>298|266=>283|267=>292|268=>257|276=>299|277=>300|279=>294|280=>295|281=>296|282=>297|283=>288|284=>289|285=>290|286=>291|287=>307|314=>306|316=>308|317=>301|318=>303|319=>304|320=>305|321=>312|322=>313|337=>310|338=>311|347=>314|348=>315|349=>316|350=>317|351=>318|352=>319|353=>320|354=>321|355=>322|356=>323|357=>324|358=>325|359=>326|360=>327|361=>328|362=>330|363=>333|364=>331|365=>332|366=>334|367=>346|n=>n,λ|0=>0|1=>1|2=>2|3=>3|4=>4|5=>5|6=>6|7=>7|8=>8|9=>9|10=>10|11=>11|12=>12|13=>13|14=>14|15=>15|16=>16|17=>17|18=>18|19=>19|20=>20|21=>21|22=>50|23=>93|24=>28|25=>205|27=>145|28=>36|30=>40|31=>24|32=>219|34=>39|36=>168|37=>22|38=>23|40=>222|41=>198|43=>131|46=>180|47=>262|48=>182|51=>260|52=>274|53=>74|54=>245|55=>206|59=>199|60=>200|61=>150|64=>193|67=>221|68=>90|69=>97|70=>234|71=>235|72=>236|73=>237|74=>224|75=>225|76=>226|77=>227|80=>130|81=>123|83=>119|84=>238|85=>250|86=>251|101=>58|102=>100|103=>232|104=>41|105=>240|106=>241|108=>269|111=>81|112=>80|113=>203|114=>79|115=>194|116=>195|117=>196|118=>197|119=>270|124=>223|127=>243|128=>239|131=>201|137=>271|138=>272|139=>273|143=>276|144=>277|145=>278|146=>263|150=>228|151=>264|164=>255|165=>256|166=>257|167=>249|168=>252|169=>253|170=>254|171=>244|172=>246|173=>247|174=>248|175=>265|176=>266|209=>267|210=>268|211=>258|212=>259|213=>261|214=>275|232=>279|233=>280|238=>281|239=>282|240=>283|241=>284|242=>285|243=>286|244=>287|245=>288|246=>289|247=>290|248=>291|249=>292|n=>n,λ|1=>1|3=>5|4=>6|15=>3|16=>4|17=>2|18=>7|19=>8|n=>n⟩
theorem qg5:Go.Proofs.Lays.n144 Tryz.prog qgm where
 mixed:=by kernel_rfl
 f143:=Tryz.func259.trans (congrArg some (by kernel_rfl))
 f144:=Tryz.func233.trans (congrArg some (by kernel_rfl))
 f217:=Tryz.func263.trans (congrArg some (by kernel_rfl))
 f219:=Tryz.func277.trans (congrArg some (by kernel_rfl))
 f224:=Tryz.func251.trans (congrArg some (by kernel_rfl))
 f225:=Tryz.func252.trans (congrArg some (by kernel_rfl))
 f266:=Tryz.func283.trans (congrArg some (by kernel_rfl))
 f267:=Tryz.func292.trans (congrArg some (by kernel_rfl))
 f314:=Tryz.func306.trans (congrArg some (by kernel_rfl))
 t3:=Tryz.underlying3
 a3:=Tryz.isAgg3
 z3:=Tryz.sizeOf3
 v3:=Tryz.zeroValue3
 t4:=Tryz.underlying4
 a4:=Tryz.isAgg4
 z4:=Tryz.sizeOf4
 v4:=Tryz.zeroValue4
 t5:=Tryz.underlying5
 a5:=Tryz.isAgg5
 z5:=Tryz.sizeOf5
 v5:=Tryz.zeroValue5
 t9:=Tryz.underlying9
 a9:=Tryz.isAgg9
 z9:=Tryz.sizeOf9
 v9:=Tryz.zeroValue9
 t46:=Tryz.underlying180
 a46:=Tryz.isAgg180
 z46:=Tryz.sizeOf180
 v46:=Tryz.zeroValue180
 t51:=Tryz.underlying260
 a51:=Tryz.isAgg260
 z51:=Tryz.sizeOf260
 v51:=Tryz.zeroValue260
 t146:=Tryz.underlying263
 a146:=Tryz.isAgg263
 z146:=Tryz.sizeOf263
 v146:=Tryz.zeroValue263
 g1:=by kernel_rfl
def zlc (t0:PV .str)(t1:PV .str):Option (PVs [.bool]×PVs []):=Go.Dn.zp0 t0 t1
def zr8:Ct:=⟨[(.bor,.str),(.bor,.str)],[(.bool,.b)],λx=>zlc x.1 x.2.1⟩
theorem zyp:FnOk gl Tryz.prog 233 zr8:=Go.Dn.qxa qg5
def qfx:Go.Shelf.Ren:=⟨λ|0=>0|1=>1|2=>2|99=>213|100=>226|101=>214|102=>206|103=>218|104=>219|109=>244|119=>250|129=>302|137=>221|138=>258|143=>259|144=>233|145=>211|152=>207|153=>142|156=>247|165=>273|166=>274|169=>275|171=>205|172=>254|193=>154|195=>280|197=>281|205=>309|206=>255|207=>265|208=>256|209=>249|210=>260|211=>261|217=>263|218=>282|219=>277|220=>253|221=>215|224=>251|225=>252|226=>208|227=>209|228=>210|240=>286|241=>287|243=>248|244=>278|245=>279|246=>276|247=>293|260=>298|266=>283|267=>292|268=>257|276=>299|277=>300|279=>294|280=>295|281=>296|282=>297|283=>288|284=>289|285=>290|286=>291|287=>307|314=>306|316=>308|317=>301|318=>303|319=>304|320=>305|321=>312|322=>313|337=>310|338=>311|347=>314|348=>315|349=>316|350=>317|351=>318|352=>319|353=>320|354=>321|355=>322|356=>323|357=>324|358=>325|359=>326|360=>327|361=>328|362=>330|363=>333|364=>331|365=>332|366=>334|367=>346|n=>n,λ|0=>0|1=>1|2=>2|3=>3|4=>4|5=>5|6=>6|7=>7|8=>8|9=>9|10=>10|11=>11|12=>12|13=>13|14=>14|15=>15|16=>16|17=>17|18=>18|19=>19|20=>20|21=>21|22=>50|23=>93|24=>28|25=>205|27=>145|28=>36|30=>40|31=>24|32=>219|34=>39|36=>168|37=>22|38=>23|40=>222|41=>198|43=>131|46=>180|47=>262|48=>182|51=>260|52=>274|53=>74|54=>245|55=>206|59=>199|60=>200|61=>150|64=>193|67=>221|68=>90|69=>97|70=>234|71=>235|72=>236|73=>237|74=>224|75=>225|76=>226|77=>227|80=>130|81=>123|83=>119|84=>238|85=>250|86=>251|101=>58|102=>100|103=>232|104=>41|105=>240|106=>241|108=>269|111=>81|112=>80|113=>203|114=>79|115=>194|116=>195|117=>196|118=>197|119=>270|124=>223|127=>243|128=>239|131=>201|137=>271|138=>272|139=>273|143=>276|144=>277|145=>278|146=>263|150=>228|151=>264|164=>255|165=>256|166=>257|167=>249|168=>252|169=>253|170=>254|171=>244|172=>246|173=>247|174=>248|175=>265|176=>266|209=>267|210=>268|211=>258|212=>259|213=>261|214=>275|232=>279|233=>280|238=>281|239=>282|240=>283|241=>284|242=>285|243=>286|244=>287|245=>288|246=>289|247=>290|248=>291|249=>292|n=>n,λ|1=>1|3=>5|4=>6|15=>3|16=>4|17=>2|18=>7|19=>8|n=>n⟩
theorem qfy:Go.Proofs.Lays.n217 Tryz.prog qfx where
 mixed:=by kernel_rfl
 f217:=Tryz.func263.trans (congrArg some (by kernel_rfl))
 f266:=Tryz.func283.trans (congrArg some (by kernel_rfl))
 t3:=Tryz.underlying3
 a3:=Tryz.isAgg3
 z3:=Tryz.sizeOf3
 v3:=Tryz.zeroValue3
 t5:=Tryz.underlying5
 a5:=Tryz.isAgg5
 z5:=Tryz.sizeOf5
 v5:=Tryz.zeroValue5
 t9:=Tryz.underlying9
 a9:=Tryz.isAgg9
 z9:=Tryz.sizeOf9
 v9:=Tryz.zeroValue9
def zr2 (t0:PV .str)(t1:PV (.int .u8)):Option (PVs [(.int .i64)]×PVs []):=Go.Dn.zph t0 t1
def zxr:Ct:=⟨[(.bor,.str),(.bor,(.int .u8))],[((.int .i64),.b)],λx=>zr2 x.1 x.2.1⟩
theorem qf3:FnOk gl Tryz.prog 263 zxr:=Go.Dn.qtq qfy
def qfz:Go.Shelf.Ren:=⟨λ|0=>0|1=>1|2=>2|99=>213|100=>226|101=>214|102=>206|103=>218|104=>219|109=>244|119=>250|129=>302|137=>221|138=>258|143=>259|144=>233|145=>211|152=>207|153=>142|156=>247|165=>273|166=>274|169=>275|171=>205|172=>254|193=>154|195=>280|197=>281|205=>309|206=>255|207=>265|208=>256|209=>249|210=>260|211=>261|217=>263|218=>282|219=>277|220=>253|221=>215|224=>251|225=>252|226=>208|227=>209|228=>210|240=>286|241=>287|243=>248|244=>278|245=>279|246=>276|247=>293|260=>298|266=>283|267=>292|268=>257|276=>299|277=>300|279=>294|280=>295|281=>296|282=>297|283=>288|284=>289|285=>290|286=>291|287=>307|314=>306|316=>308|317=>301|318=>303|319=>304|320=>305|321=>312|322=>313|337=>310|338=>311|347=>314|348=>315|349=>316|350=>317|351=>318|352=>319|353=>320|354=>321|355=>322|356=>323|357=>324|358=>325|359=>326|360=>327|361=>328|362=>330|363=>333|364=>331|365=>332|366=>334|367=>346|n=>n,λ|0=>0|1=>1|2=>2|3=>3|4=>4|5=>5|6=>6|7=>7|8=>8|9=>9|10=>10|11=>11|12=>12|13=>13|14=>14|15=>15|16=>16|17=>17|18=>18|19=>19|20=>20|21=>21|22=>50|23=>93|24=>28|25=>205|27=>145|28=>36|30=>40|31=>24|32=>219|34=>39|36=>168|37=>22|38=>23|40=>222|41=>198|43=>131|46=>180|47=>262|48=>182|51=>260|52=>274|53=>74|54=>245|55=>206|59=>199|60=>200|61=>150|64=>193|67=>221|68=>90|69=>97|70=>234|71=>235|72=>236|73=>237|74=>224|75=>225|76=>226|77=>227|80=>130|81=>123|83=>119|84=>238|85=>250|86=>251|101=>58|102=>100|103=>232|104=>41|105=>240|106=>241|108=>269|111=>81|112=>80|113=>203|114=>79|115=>194|116=>195|117=>196|118=>197|119=>270|124=>223|127=>243|128=>239|131=>201|137=>271|138=>272|139=>273|143=>276|144=>277|145=>278|146=>263|150=>228|151=>264|164=>255|165=>256|166=>257|167=>249|168=>252|169=>253|170=>254|171=>244|172=>246|173=>247|174=>248|175=>265|176=>266|209=>267|210=>268|211=>258|212=>259|213=>261|214=>275|232=>279|233=>280|238=>281|239=>282|240=>283|241=>284|242=>285|243=>286|244=>287|245=>288|246=>289|247=>290|248=>291|249=>292|n=>n,λ|1=>1|3=>5|4=>6|15=>3|16=>4|17=>2|18=>7|19=>8|n=>n⟩
theorem qgf:Go.Proofs.Lays.n219 Tryz.prog qfz where
 mixed:=by kernel_rfl
 f217:=Tryz.func263.trans (congrArg some (by kernel_rfl))
 f219:=Tryz.func277.trans (congrArg some (by kernel_rfl))
 f224:=Tryz.func251.trans (congrArg some (by kernel_rfl))
 f225:=Tryz.func252.trans (congrArg some (by kernel_rfl))
 f266:=Tryz.func283.trans (congrArg some (by kernel_rfl))
 f267:=Tryz.func292.trans (congrArg some (by kernel_rfl))
 f314:=Tryz.func306.trans (congrArg some (by kernel_rfl))
 t3:=Tryz.underlying3
 a3:=Tryz.isAgg3
 z3:=Tryz.sizeOf3
 v3:=Tryz.zeroValue3
 t4:=Tryz.underlying4
 a4:=Tryz.isAgg4
 z4:=Tryz.sizeOf4
 v4:=Tryz.zeroValue4
 t5:=Tryz.underlying5
 a5:=Tryz.isAgg5
 z5:=Tryz.sizeOf5
 v5:=Tryz.zeroValue5
 t9:=Tryz.underlying9
 a9:=Tryz.isAgg9
 z9:=Tryz.sizeOf9
 v9:=Tryz.zeroValue9
 t46:=Tryz.underlying180
 a46:=Tryz.isAgg180
 z46:=Tryz.sizeOf180
 v46:=Tryz.zeroValue180
 t51:=Tryz.underlying260
 a51:=Tryz.isAgg260
 z51:=Tryz.sizeOf260
 v51:=Tryz.zeroValue260
 t146:=Tryz.underlying263
 a146:=Tryz.isAgg263
 z146:=Tryz.sizeOf263
 v146:=Tryz.zeroValue263
 g1:=by kernel_rfl
def zfn (t0:PV .str)(t1:PV .str):Option (PVs [(.int .i64)]×PVs []):=Go.Dn.zkx t0 t1
def zxv:Ct:=⟨[(.bor,.str),(.bor,.str)],[((.int .i64),.b)],λx=>zfn x.1 x.2.1⟩
theorem qgg:FnOk gl Tryz.prog 277 zxv:=Go.Dn.qtp q9t qgf
section
open Go.RowKit Go.Lib
set_option maxHeartbeats 1000000 in
set_option maxRecDepth 100000 in
theorem qar (k:Int)(s:ByteArray)(w:World):Calls Tryz.prog 236 #[.agg #[.int .i64 k,.string s]] w λe w'=>e=.returned (.bool (k !=1))/\w'=w.alloc (.cells #[.int .i64 k,.string s] 129):=by
 go_enter Tryz.func236,Tryz.ntmps236
 go_wp2
 go_ret
 refine⟨?_,rfl⟩;congr 2
set_option maxHeartbeats 1000000 in
set_option maxRecDepth 100000 in
theorem q3r (A:Option Addr)(n c:Nat)(w:World)(K:Nat->Int)(S:Nat->ByteArray)(J:Nat->World->Prop)(hn:(n:Int)<=1099511627776)
 (h0:J 0 w)(hal:∀j w o,J j w->J j (w.alloc o))
 (hJ:∀j w,j<n->J j w->∃g,A=some ⟨g,0,none⟩/\w.cell? ⟨g,j*2,none⟩=some (.int .i64 (K j))/\w.cell? ⟨g,j*2+1,none⟩=some (.string (S j))/\(K j=1->J (j+1) w)):
 Calls Tryz.prog 266 #[.slice A n c,.func (.func 236) #[] #[]] w λe w'=>(∃i:Nat,i<n/\e=.returned (.int .i64 i)/\K i≠1/\J i w')\/(e=.returned (.int .i64 (-1))/\J n w'):=by
 go_enter Tryz.func266,Tryz.ntmps266
 go_wp2
 go_loopw [8] (λs8 wr=>∃i:Nat,i<=n/\s8=.int .i64 i/\J i wr) (λs8 _=>n -(Go.RowKit.intOf s8).toNat)
 case atStart=>exact⟨0,ye1 _,rfl,h0⟩
 case round=>
  obtain⟨i,hi,rfl,hr⟩:=hrel;by_cases hlt:i<n
  ·obtain⟨g,rfl,h1,h2,h3⟩:=hJ i _ hlt hr
   have hz:(i:Int)<(n:Int):=by omega
   have hD:=qar (K i) (S i) wr;by_cases hk:K i=1
   ·rw[hk] at hD h1
    go_wp2_with (go_at_fn 236;go_fit hD;rintro e w' ⟨v',rfl,hw⟩)
    refine hD.mono ?_;rintro e w2 ⟨rfl,rfl⟩
    go_wp2
    exact⟨⟨i+1,hlt,by simp,hal _ _ _ (h3 hk)⟩,by simp[Go.RowKit.intOf];omega⟩
   ·have hkb:(K i !=1)=true:=by simp[hk]
    rw[hkb] at hD
    go_wp2_with (go_at_fn 236;go_fit hD;rintro e w' ⟨v',rfl,hw⟩)
    refine hD.mono ?_;rintro e w2 ⟨rfl,rfl⟩
    go_wp2
    go_ret
    exact .inl ⟨i,hlt,rfl,hk,hal _ _ _ hr⟩
  ·have hz:¬(i:Int)<(n:Int):=by omega
   obtain rfl:i=n:=by omega
   go_wp2
   go_ret
   exact .inr ⟨rfl,hr⟩
set_option maxHeartbeats 4000000 in
set_option maxRecDepth 100000 in
theorem q3s (A:Option Addr)(n c:Nat)(w:World)(K:Nat->Int)(S:Nat->ByteArray)(J E:Nat->World->Prop)(I:Nat->Nat->World->Prop)(hn:(n:Int)<=1099511627776)(hnc:n<=c)(hc:c<=9223372036854775807)
 (h0:J 0 w)(hal:∀j w o,J j w->J j (w.alloc o))(ial:∀i j w o,I i j w->I i j (w.alloc o))
 (hJ:∀j w,j<n->J j w->∃g,A=some ⟨g,0,none⟩/\w.cell? ⟨g,j*2,none⟩=some (.int .i64 (K j))/\w.cell? ⟨g,j*2+1,none⟩=some (.string (S j))/\(K j=1->J (j+1) w)/\(K j≠1->I j (j+1) w))
 (hI:∀i j w,i<j->j<=n->I i j w->∃g,A=some ⟨g,0,none⟩/\(∀t,t<n*2->(w.cell? ⟨g,t,none⟩).isSome=true)/\(∀t,t<n*2->w.frozen? ⟨g,t,none⟩=false)/\
   (j<n->w.cell? ⟨g,j*2,none⟩=some (.int .i64 (K j))/\w.cell? ⟨g,j*2+1,none⟩=some (.string (S j))/\(K j≠1->I i (j+1) w)/\
     (K j=1->I (i+1) (j+1) ((w.setCell ⟨g,i*2,none⟩ (.int .i64 (K j))).setCell ⟨g,i*2+1,none⟩ (.string (S j)))))/\
   (j=n->E i (w.setCells g (i*2) (Go.Dn.zRow (n -i)))))
 (hE:∀w,J n w->E n w):
 Calls Tryz.prog 234 #[.slice A n c,.func (.func 236) #[] #[]] w λe w'=>∃i:Nat,i<=n/\e=.returned (.slice A i c)/\E i w':=by
 have hidx:=q3r A n c w K S J hn h0 hal (λj w hj h=>by obtain⟨g,a1,a2,a3,a4,_⟩:=hJ j w hj h;exact⟨g,a1,a2,a3,a4⟩)
 go_enter Tryz.func234,Tryz.ntmps234
 go_wp2_with (go_at_fn 266;go_fit hidx;rintro e w' ⟨v',rfl,hw⟩)
 refine hidx.mono ?_;rintro e w1 (⟨i0,hi0,rfl,hk0,hj0⟩|⟨rfl,hj0⟩)
 ·obtain⟨g,rfl,b1,b2,_,b4⟩:=hJ i0 w1 hi0 hj0
  have hI0:=b4 hk0;have hz0:¬((i0:Int)= -1):=by omega
  have hw0:IntKind.wrap .i64 ((i0:Int)+1)=((i0+1:Nat):Int):=by rw[IntKind.wrap_i64];omega
  go_wp2
  go_loopw [5,6] (λs5 s6 wr=>∃i j:Nat,i<j/\j<=n/\s5=.int .i64 i/\s6=.int .i64 j/\I i j wr) (λ_ s6 _=>n -(Go.RowKit.intOf s6).toNat)
  case atStart=>exact⟨i0,i0+1,by omega,by omega,rfl,rfl,hI0⟩
  case round=>
   obtain⟨i,j,hij,hj,rfl,rfl,hr⟩:=hrel;obtain⟨g',hg,d1,d2,d3,d4⟩:=hI i j _ hij hj hr;obtain rfl:g=g':=by cases hg;rfl
   by_cases hlt:j<n
   ·obtain⟨c1,c2,c3,c4⟩:=d3 hlt
    have hz:(j:Int)<(n:Int):=by omega
    have hzi:(i:Int)<(n:Int):=by omega
    have e1:=d1 (i*2) (by omega);have e2:=d1 (i*2+1) (by omega);have f1:=d2 (i*2) (by omega);have f2:=d2 (i*2+1) (by omega);have hD:=qar (K j) (S j) (wr.alloc (.cells #[.int .i64 (K j),.string (S j)] 129));by_cases hk:K j=1
    ·rw[hk] at hD c1
     have c4':=c4 hk;rw[hk] at c4'
     go_wp2_with (go_at_fn 236;go_fit hD;rintro e w' ⟨v',rfl,hw⟩)
     refine hD.mono ?_;rintro e w2 ⟨rfl,rfl⟩;obtain⟨x1,hx1⟩:=Option.isSome_iff_exists.1 e1;obtain⟨x2,hx2⟩:=Option.isSome_iff_exists.1 e2;obtain⟨W2,hW2⟩:∃W2,W2=(wr.alloc (.cells #[.int .i64 1,.string (S j)] 129)).alloc (.cells #[.int .i64 1,.string (S j)] 129):=⟨_,rfl⟩;have p1:W2.cell? ⟨g,i*2,none⟩=some x1:=by rw[hW2];exact Lib.cell?_alloc_some _ (Lib.cell?_alloc_some _ hx1)
     have p2:W2.cell? ⟨g,i*2+1,none⟩=some x2:=by rw[hW2];exact Lib.cell?_alloc_some _ (Lib.cell?_alloc_some _ hx2)
     have q1:W2.frozen? ⟨g,i*2,none⟩=false:=by rw[hW2];rw[frozen?_alloc_cells,frozen?_alloc_cells];exact f1
     have q2:W2.frozen? ⟨g,i*2+1,none⟩=false:=by rw[hW2];rw[frozen?_alloc_cells,frozen?_alloc_cells];exact f2
     have p0:W2.cell? ⟨wr.heap.size,0,none⟩=some (.int .i64 1):=by rw[hW2];exact Lib.cell?_alloc_some _ (by rw[World.cell?_alloc_new];rfl)
     have p3:W2.cell? ⟨wr.heap.size,1,none⟩=some (.string (S j)):=by rw[hW2];exact Lib.cell?_alloc_some _ (by rw[World.cell?_alloc_new];rfl)
     have hI2:=ial i j _ (.cells #[.int .i64 1,.string (S j)] 129) (ial i j _ (.cells #[.int .i64 1,.string (S j)] 129) hr);rw[<-hW2] at hI2;obtain⟨g2,hg2,_,_,r3,_⟩:=hI i j _ hij hj hI2;obtain rfl:g=g2:=by cases hg2;rfl
     have hfin:=(r3 hlt).2.2.2 hk;rw[hk] at hfin;have p4:(W2.setCell ⟨g,i*2,none⟩ (.int .i64 1)).cell? ⟨g,i*2+1,none⟩=some x2:=by rw[World.cell?_setCell_other _ _ _ _ (by simp)];exact p2
     have q4:(W2.setCell ⟨g,i*2,none⟩ (.int .i64 1)).frozen? ⟨g,i*2+1,none⟩=false:=by rw[World.frozen?_setCell];exact q2
     subst hW2
     go_wp2
     refine⟨?_,by simp[Go.RowKit.intOf];omega⟩;exact⟨_,_,_,_,_,_,_,_,_,_,_,_,_,_,_,_,_,_,_,_,_,_,_,⟨i+1,j+1,by omega,hlt,by simp,by simp,hfin⟩,rfl⟩
    ·have hkb:(K j !=1)=true:=by simp[hk]
     rw[hkb] at hD
     go_wp2_with (go_at_fn 236;go_fit hD;rintro e w' ⟨v',rfl,hw⟩)
     refine hD.mono ?_;rintro e w2 ⟨rfl,rfl⟩
     go_wp2
     refine⟨?_,by simp[Go.RowKit.intOf];omega⟩;exact⟨_,_,_,_,_,_,_,_,_,_,_,_,_,_,_,_,_,_,_,_,_,_,_,⟨i,j+1,by omega,hlt,rfl,by simp,ial _ _ _ _ (ial _ _ _ _ (c3 hk))⟩,rfl⟩
   ·have hz:¬(j:Int)<(n:Int):=by omega
    obtain rfl:j=n:=by omega
    have hcl:∀ty,(Builtin.clear_ #[66] ty #[.slice (some ⟨g,i*2,none⟩) (j -i) (c -i)]).run Tryz.prog wr=.ok (.tuple #[]) (wr.setCells g (i*2) (Go.Dn.zRow (j -i))):=
     λty=>Go.Dn.qqr wr 66 129 ty Tryz.underlying66 (λw=>by kernel_rfl) g (i*2) (j -i) (c -i) (by omega) (λt ht=>d1 _ (by omega)) (λt ht=>d2 _ (by omega))
    have hz1:(i:Int)<=(j:Int):=by omega
    have hz2:i<=j:=by omega
    have hz3:i<=c:=by omega
    have hz4:(i:Int)<=(c:Int):=by omega
    have hz5:¬c=i:=by omega
    go_wp2
    go_ret
    exact⟨i,by omega,rfl,d4 trivial⟩
 ·go_wp2
  go_ret
  exact⟨n,ym0 _,rfl,hE _ hj0⟩
set_option maxHeartbeats 1000000 in
set_option maxRecDepth 100000 in
theorem q0f (v:Value)(w:World)(n:Nat)(Q:Option Addr->Nat->World->Prop)(E:Option Addr->Nat->Nat->World->Prop)
 (hC:Calls Tryz.prog 235 #[v] w λe w'=>∃A cap,e=.returned (.slice A n cap)/\Q A cap w')
 (hD:∀A cap w1,Q A cap w1->Calls Tryz.prog 234 #[.slice A n cap,.func (.func 236) #[] #[]] w1 λe w'=>∃i:Nat,i<=n/\e=.returned (.slice A i cap)/\E A cap i w'):
 Calls Tryz.prog 172 #[v] w λe w'=>∃A cap i,i<=n/\e=.returned (.slice A i cap)/\E A cap i w':=by
 go_enter Tryz.func172,Tryz.ntmps172
 go_wp2_with (go_at_fn 235;go_fit hC;rintro e w' ⟨A,cap,rfl,hw⟩)
 refine hC.mono ?_;rintro e w1 ⟨A,cap,rfl,hw⟩;have hD':=hD A cap w1 hw
 go_wp2_with (go_at_fn 234;go_fit hD';rintro e w' ⟨A,cap,rfl,hw⟩)
 refine hD'.mono ?_;rintro e w2 ⟨i,hi,rfl,hE⟩
 go_wp2
 go_ret
 exact⟨A,cap,i,hi,rfl,hE⟩
end
def qi5 (t0:PV zi):Option (PVs [zi]×PVs []):=bif qm ((([]:PV zi)).length+t0.length) then some ((([]:PV zi)++t0,()),()) else none
def qie:Ct:=⟨[(.bor,zi)],[(zi,(.row (.pr .b (.pr .b .b))))],λx=>qi5 x.1⟩
def qif:Plan:=⟨[],[],0,0⟩
def qig:Cx:=⟨tab,arrs,[],[],gl,[]⟩
theorem qih:FnOk gl Tryz.prog 235 qie:=
 q3h (cx:=qig) (pl:=qif) (dp:=0) (t3:=3) (te:=129) (T:=zo) (zw4 zrr (by unfold zbi;kernel_rfl) mix trivial trivial) Tryz.func235 (fn:=Tryz.f235) (rvs:=Tryz.f235.results.toList) rfl (by kernel_rfl) (by kernel_rfl) (by kernel_rfl) rfl rfl rfl rfl Tryz.underlying66 ⟨⟨⟨trivial,trivial⟩,trivial⟩,⟨trivial,trivial⟩⟩ (λx=>by kernel_rfl) (λx=>by kernel_rfl) (λx=>by kernel_rfl) (λx=>by kernel_rfl) (by kernel_rfl)
def zmo (t0:PV zi):Option (PVs [zi]×PVs []):=Go.Dn.znv 129 t0
def z8d:Ct:=⟨[(.bor,zi)],[(zi,(.row (.pr .b (.pr .b .b))))],λx=>zmo x.1⟩
theorem q0g:FnOk gl Tryz.prog 172 z8d:=Go.Dn.q7m (kC:=235) (kD:=234) (kF:=236) ⟨_,Tryz.func172,rfl,by kernel_rfl⟩ qih q3s q0f
def qrj:List Out:=[⟨.normal,⟨[],[0,1,5,6,7],[]⟩,mkSh 34 [(0,.val .str .b),(1,.val (.int .u8) .b),(5,.val zf (.row .b)),(6,.val (.int .i64) .b),(7,.val (.int .i64) .b)]⟩]
def qow:List Sh:=mkSh 34 [(0,.val .str .b),(1,.val (.int .u8) .b),(5,.val zf (.row .b)),(6,.val (.int .i64) .b),(7,.val (.int .i64) .b)]
def qrk:List Out:=[⟨.exit 0,⟨[],[0,5,6],[]⟩,mkSh 34 [(0,.val .str .b),(5,.val zf (.row .b)),(6,.val (.int .i64) .b)]⟩]
def zf1 (t0:PV .str)(t1:PV (.int .u8))(t5:PV zf)(t6:PV (.int .i64))(t7:PV (.int .i64)):Option ((PV .str×PV (.int .u8)×PV zf×PV (.int .i64)×PV (.int .i64)×Unit)⊕((PV .str×PV zf×PV (.int .i64)×Unit))):=
 bif (decide (t7<(t0.length:Int))) then
  ((
    bif inB t7 t0.length then
     bif (((t0.getD t7.toNat 0).toNat:Int)==t1) then
      bif cutB t6 t7 t0.length then
       bif qm (t5.length+[(cutL t6 t7 t0)].length) then
        some (t0,t1,(t5++[(cutL t6 t7 t0)]),(IntKind.wrap .i64 (t7+1)),t7,())
       else
        none
      else
       none
     else
      some (t0,t1,t5,t6,t7,())
    else
     none:Option ((PV .str×PV (.int .u8)×PV zf×PV (.int .i64)×PV (.int .i64)×Unit)))).bind λj1=>
    some (.inl (j1.1,j1.2.1,j1.2.2.1,j1.2.2.2.1,(IntKind.wrap .i64 (j1.2.2.2.2.1+1)),()))
 else
  some (.inr (t0,t5,t6,()))
def zhf:PV .str×PV (.int .u8)×PV zf×PV (.int .i64)×PV (.int .i64)×Unit->Option ((PV .str×PV zf×PV (.int .i64)×Unit)):=fix λd=>zf1 d.1 d.2.1 d.2.2.1 d.2.2.2.1 d.2.2.2.2.1
def z1g:Lp:=⟨⟨[],[0,1,5,6,7],[]⟩,qow,qrk,λd=>zf1 d.1 d.2.1 d.2.2.1 d.2.2.2.1 d.2.2.2.2.1⟩
def quj:Plan:=⟨[(5,qrj)],[(4,z1g)],0,0⟩
def zh0 (t0:PV .str)(t1:PV (.int .u8)):Option (PVs [zf]×PVs []):=
 (zhf (t0,t1,[],0,0,())).bind λl3=>
   bif cutB l3.2.2.1 (l3.1.length:Int) l3.1.length then
    bif qm (l3.2.1.length+[(cutL l3.2.2.1 (l3.1.length:Int) l3.1)].length) then
     some (((l3.2.1++[(cutL l3.2.2.1 (l3.1.length:Int) l3.1)]),()),())
    else
     none
   else
    none
def zow:Ct:=⟨[(.bor,.str),(.bor,(.int .u8))],[(zf,(.row .b))],λx=>zh0 x.1 x.2.1⟩
def quk:Cx:=⟨tab,arrs,[],[],gl,[]⟩
theorem zth:FnOk gl Tryz.prog 193 zow:=
 fo quk quj 0 (oz trivial trivial) Tryz.func193 (by kernel_rfl) (by kernel_rfl) (by kernel_rfl)
  (ll 1 (by kernel_rfl) (lc z1g (by kernel_rfl) (λd=>by kernel_rfl) trivial)) (λx=>by kernel_rfl)
def q3t:Plan:=⟨[],[],0,0⟩
def zck (t0:PV (.int .i64))(t1:PV (.int .i64))(t2:PV (.int .i64)):Option (PVs [.bool]×PVs []):=
 bif (decide (t0>=t1)) then
  some (((decide (t0<=t2)),()),())
 else
  some ((false,()),())
def zif:Ct:=⟨[(.bor,(.int .i64)),(.bor,(.int .i64)),(.bor,(.int .i64))],[(.bool,.b)],λx=>zck x.1 x.2.1 x.2.2.1⟩
def q3u:Cx:=⟨tab,arrs,[],[],gl,[]⟩
theorem zj5:FnOk gl Tryz.prog 114 zif:=
 fo q3u q3t 0 (oz trivial trivial) Tryz.func114 (by kernel_rfl) (by kernel_rfl) (by kernel_rfl)
  (ll 0 (by kernel_rfl) trivial) (λx=>by kernel_rfl)
def qul:List Out:=[⟨.normal,⟨[],[0,18,30,31,32,33],[]⟩,mkSh 44 [(0,.val .str .b),(18,.val .bool .b)]⟩]
def qum:List Out:=[⟨.normal,⟨[],[0,3,4,34],[]⟩,mkSh 44 [(0,.val .str .b),(3,.val (.int .i64) .b),(4,.val (.int .i64) .b),(34,.val .bool .b)]⟩]
def qrl:List Sh:=mkSh 44 [(0,.val .str .b),(3,.val (.int .i64) .b),(4,.val (.int .i64) .b)]
def qun:List Out:=[⟨.exit 0,⟨[],[3],[]⟩,mkSh 44 [(3,.val (.int .i64) .b)]⟩,⟨.ret,⟨[],[2],[]⟩,mkSh 44 [(2,.val (.int .i64) .b)]⟩]
def zex (t0:PV .str)(t3:PV (.int .i64))(t4:PV (.int .i64)):Option ((PV .str×PV (.int .i64)×PV (.int .i64)×Unit)⊕((PV (.int .i64)×Unit)⊕(PV (.int .i64)×Unit))):=
 bif (decide (t4<(t0.length:Int))) then
  ((
    bif inB t4 t0.length then
     bif (decide (((t0.getD t4.toNat 0).toNat:Int)<48)) then
      some (t0,t3,t4,true,())
     else
      bif inB t4 t0.length then
       some (t0,t3,t4,(decide (((t0.getD t4.toNat 0).toNat:Int)>57)),())
      else
       none
    else
     none:Option ((PV .str×PV (.int .i64)×PV (.int .i64)×PV .bool×Unit)))).bind λj9=>
    bif j9.2.2.2.1 then
     some (.inr (.inr ((-1),())))
    else
     bif inB j9.2.2.1 j9.1.length then
      some (.inl (j9.1,(IntKind.wrap .i64 ((IntKind.wrap .i64 (10*j9.2.1))+(IntKind.wrap .i64 (IntKind.wrap .u8 (((j9.1.getD j9.2.2.1.toNat 0).toNat:Int) -48))))),(IntKind.wrap .i64 (j9.2.2.1+1)),()))
     else
      none
 else
  some (.inr (.inl (t3,())))
def zox:PV .str×PV (.int .i64)×PV (.int .i64)×Unit->Option ((PV (.int .i64)×Unit)⊕(PV (.int .i64)×Unit)):=fix λd=>zex d.1 d.2.1 d.2.2.1
def z2u:Lp:=⟨⟨[],[0,3,4,30,31,32,33],[]⟩,qrl,qun,λd=>zex d.1 d.2.1 d.2.2.1⟩
def qx9:Plan:=⟨[(2,qul),(8,qum)],[(5,z2u)],0,0⟩
def zia (t0:PV .str):Option (PVs [(.int .i64)]×PVs []):=
 ((
   (zck (t0.length:Int) 1 6).bind λr4=>
     bif (!r4.1.1) then
      some (t0,true,())
     else
      bif inB 0 t0.length then
       bif (((t0.getD (0:Int).toNat 0).toNat:Int)==48) then
        some (t0,(decide ((t0.length:Int)>1)),())
       else
        some (t0,false,())
      else
       none:Option ((PV .str×PV .bool×Unit)))).bind λj5=>
   bif j5.2.1 then
    some (((-1),()),())
   else
    (zox (j5.1,0,0,())).bind λx14=>
      match x14 with
      | .inl l12=>
        some ((l12.1,()),())
      | .inr l13=>
        some ((l13.1,()),())
def z6n:Ct:=⟨[(.bor,.str)],[((.int .i64),.b)],λx=>zia x.1⟩
def qya:Cx:=⟨tab,arrs,[(114,zif)],[],gl,[]⟩
theorem qyb:FnOk gl Tryz.prog 268 z6n:=
 fo qya qx9 0 (oz ⟨zj5,trivial⟩ trivial) Tryz.func268 (by kernel_rfl) (by kernel_rfl) (by kernel_rfl)
  (ll 1 (by kernel_rfl) (lc z2u (by kernel_rfl) (λd=>by kernel_rfl) trivial)) (λx=>by kernel_rfl)
def qk4:List Out:=[⟨.normal,⟨[],[4,13],[]⟩,mkSh 15 [(4,.val (.int .i64) .b),(13,.val .bool .b)]⟩]
def qmw:Plan:=⟨[(3,qk4)],[],0,0⟩
def zfv (t0:PV .str):Option (PVs [(.int .i64),.bool]×PVs []):=
 (zia t0).bind λr2=>
   ((
     bif (decide ((t0.length:Int)>4)) then
      some (r2.1.1,true,())
     else
      some (r2.1.1,(decide (r2.1.1<0)),()):Option ((PV (.int .i64)×PV .bool×Unit)))).bind λj4=>
     bif j4.2.1 then
      some ((0,false,()),())
     else
      some ((j4.1,true,()),())
def zsk:Ct:=⟨[(.bor,.str)],[((.int .i64),.b),(.bool,.b)],λx=>zfv x.1⟩
def qmx:Cx:=⟨tab,arrs,[(268,z6n)],[],gl,[]⟩
theorem z0e:FnOk gl Tryz.prog 240 zsk:=
 fo qmx qmw 0 (oz ⟨qyb,trivial⟩ trivial) Tryz.func240 (by kernel_rfl) (by kernel_rfl) (by kernel_rfl)
  (ll 0 (by kernel_rfl) trivial) (λx=>by kernel_rfl)
def qyc:List Out:=[⟨.normal,⟨[],[5,6,29,45,46],[]⟩,mkSh 50 [(5,.val zf (.row .b)),(6,.val (.int .i64) .b),(29,.val .bool .b)]⟩]
def qyd:List Out:=[⟨.normal,⟨[],[6,8,47],[]⟩,mkSh 50 [(6,.val (.int .i64) .b),(8,.val (.int .i64) .b),(47,.val .bool .b)]⟩]
def q0h:Plan:=⟨[(4,qyc),(9,qyd)],[],0,0⟩
def zmp (t0:PV .str):Option (PVs [(.int .i64),(.int .i64),.bool]×PVs []):=
 (zh0 t0 44).bind λr2=>
   bif inB 0 r2.1.1.length then
    (zfv (r2.1.1.getD ((0:Int).toNat) [])).bind λr4=>
      ((
        bif (!r4.1.2.1) then
         some (r2.1.1,r4.1.1,true,())
        else
         bif (decide ((r2.1.1.length:Int)>2)) then
          some (r2.1.1,r4.1.1,true,())
         else
          some (r2.1.1,r4.1.1,(decide (r4.1.1>1000)),()):Option ((PV zf×PV (.int .i64)×PV .bool×Unit)))).bind λj6=>
        bif j6.2.2.1 then
         some ((0,0,false,()),())
        else
         bif ((j6.1.length:Int)==1) then
          some ((j6.2.1,j6.2.1,true,()),())
         else
          bif inB 1 j6.1.length then
           (zfv (j6.1.getD ((1:Int).toNat) [])).bind λr8=>
             ((
               bif (!r8.1.2.1) then
                some (j6.2.1,r8.1.1,true,())
               else
                some (j6.2.1,r8.1.1,(decide (r8.1.1>1000)),()):Option ((PV (.int .i64)×PV (.int .i64)×PV .bool×Unit)))).bind λj10=>
               bif j10.2.2.1 then
                some ((0,0,false,()),())
               else
                some ((j10.1,j10.2.1,true,()),())
          else
           none
   else
    none
def z8e:Ct:=⟨[(.bor,.str)],[((.int .i64),.b),((.int .i64),.b),(.bool,.b)],λx=>zmp x.1⟩
def q0i:Cx:=⟨tab,arrs,[(193,zow),(240,zsk)],[],gl,[]⟩
theorem q0j:FnOk gl Tryz.prog 217 z8e:=
 fo q0i q0h 0 (oz ⟨zth,z0e,trivial⟩ trivial) Tryz.func217 (by kernel_rfl) (by kernel_rfl) (by kernel_rfl)
  (ll 0 (by kernel_rfl) trivial) (λx=>by kernel_rfl)
def qox:List Out:=[⟨.normal,⟨[],[5,6,20],[]⟩,mkSh 23 [(5,.val (.int .i64) .b),(6,.val (.int .i64) .b),(20,.val .bool .b)]⟩]
def qrm:Plan:=⟨[(3,qox)],[],0,0⟩
def zov (t0:PV .str):Option (PVs [(.int .i64),(.int .i64),.bool]×PVs []):=
 (zmp t0).bind λr2=>
   ((
     bif (!r2.1.2.2.1) then
      some (r2.1.1,r2.1.2.1,true,())
     else
      some (r2.1.1,r2.1.2.1,(decide (r2.1.1>r2.1.2.1)),()):Option ((PV (.int .i64)×PV (.int .i64)×PV .bool×Unit)))).bind λj4=>
     bif j4.2.2.1 then
      some ((0,0,false,()),())
     else
      some ((j4.1,j4.2.1,true,()),())
def z2o:Ct:=⟨[(.bor,.str)],[((.int .i64),.b),((.int .i64),.b),(.bool,.b)],λx=>zov x.1⟩
def qrn:Cx:=⟨tab,arrs,[(217,z8e)],[],gl,[]⟩
theorem qqy:FnOk gl Tryz.prog 148 z2o:=
 fo qrn qrm 0 (oz ⟨q0j,trivial⟩ trivial) Tryz.func148 (by kernel_rfl) (by kernel_rfl) (by kernel_rfl)
  (ll 0 (by kernel_rfl) trivial) (λx=>by kernel_rfl)
section
open Go.RowKit Go.Lib
end
def q5x:Plan:=⟨[],[],0,0⟩
def zq1 (t0:PV xu)(t1:PV xu):Option (PVs [.bool]×PVs []):=
 bif (decide ((t0.length:Int)>1048576)) then
  some ((true,()),())
 else
  some (((decide ((t1.length:Int)>(IntKind.wrap .i64 (1048576 -(t0.length:Int))))),()),())
def qco:Ct:=⟨[(.bor,xu),(.bor,xu)],[(.bool,.b)],λx=>zq1 x.1 x.2.1⟩
def q5y:Cx:=⟨tab,arrs,[],[],gl,[]⟩
theorem q5v:FnOk gl Tryz.prog 10 qco:=
 fo q5y q5x 0 (oz trivial trivial) Tryz.func10 (by kernel_rfl) (by kernel_rfl) (by kernel_rfl)
  (ll 0 (by kernel_rfl) trivial) (λx=>by kernel_rfl)
def qk5:List Out:=[⟨.normal,⟨[],[0,3],[]⟩,mkSh 63 [(0,.var qh .b),(1,.addr ⟨0,[],0,0⟩),(4,.val (.int .i64) .b)]⟩]
def qmy:Plan:=⟨[(4,qk5)],[],0,1⟩
def zlm (t0:PV qh):Option (PVs [(.int .i64)]×PVs [qh]):=
 ((
   bif (decide (t0.2.1<(t0.1.length:Int))) then
    bif inB t0.2.1 t0.1.length then
     some (t0,(IntKind.wrap .i64 (t0.1.getD t0.2.1.toNat (0:Int))),())
    else
     none
   else
    some (t0,0,()):Option ((PV qh×PV (.int .i64)×Unit)))).bind λj1=>
   bif (decide ((IntKind.wrap .i64 (j1.1.2.1+1))<=(j1.1.1.length:Int))) then
    some ((j1.2.1,()),((j1.1.1,((IntKind.wrap .i64 (j1.1.2.1+1)),((IntKind.wrap .u64 ((IntKind.wrap .u64 ((IntKind.wrap .u64 (j1.1.2.2.1*6364136223846793005))+(IntKind.wrap .u64 j1.2.1)))+1442695040888963407)),j1.1.2.2.2))),()))
   else
    bif decide (0<=40) then
     some (((IntKind.wrap .i64 (IntKind.wrap .u64 ((BitVec.ofInt (IntKind.bits .u64) ((IntKind.wrap .u64 ((IntKind.wrap .u64 ((IntKind.wrap .u64 (j1.1.2.2.1*6364136223846793005))+(IntKind.wrap .u64 j1.2.1)))+1442695040888963407)).fdiv (2^(min (40:Int).toNat (IntKind.bits .u64))))&&&BitVec.ofInt (IntKind.bits .u64) 255).toNat:Int))),()),((j1.1.1,((IntKind.wrap .i64 (j1.1.2.1+1)),((IntKind.wrap .u64 ((IntKind.wrap .u64 ((IntKind.wrap .u64 (j1.1.2.2.1*6364136223846793005))+(IntKind.wrap .u64 j1.2.1)))+1442695040888963407)),j1.1.2.2.2))),()))
    else
     none
def z0h:Ct:=⟨[(.ptr,qh)],[((.int .i64),.b)],λx=>zlm x.1⟩
def qmz:Cx:=⟨tab,arrs,[],[],gl,[]⟩
theorem qm0:FnOk gl Tryz.prog 123 z0h:=
 fo qmz qmy 0 (oz trivial trivial) Tryz.func123 (by kernel_rfl) (by kernel_rfl) (by kernel_rfl)
  (ll 0 (by kernel_rfl) trivial) (λx=>by kernel_rfl)
def qk6:List Out:=[⟨.normal,⟨[],[1,5],[]⟩,mkSh 21 [(0,.var qh .b),(2,.val (.int .i64) .b),(6,.val (.int .i64) .b)]⟩]
def qm1:Plan:=⟨[(6,qk6)],[],0,1⟩
def zau (t0:PV qh)(t1:PV (.int .i64)):Option (PVs [(.int .i64)]×PVs [qh]):=
 bif (decide (t1<=1)) then
  some ((0,()),(t0,()))
 else
  (zlm t0).bind λr2=>
    ((
      bif (decide (t1>200)) then
       (zlm r2.2.1).bind λr4=>
         some (r4.2.1,t1,(IntKind.wrap .i64 ((IntKind.wrap .i64 (r2.1.1*256))+r4.1.1)),())
      else
       some (r2.2.1,t1,r2.1.1,()):Option ((PV qh×PV (.int .i64)×PV (.int .i64)×Unit)))).bind λj5=>
      bif j5.2.1==0 then
       none
      else
       some (((j5.2.2.1.tmod j5.2.1),()),(j5.1,()))
def zdq:Ct:=⟨[(.ptr,qh),(.bor,(.int .i64))],[((.int .i64),.b)],λx=>zau x.1 x.2.1⟩
def qm2:Cx:=⟨tab,arrs,[(123,z0h)],[],gl,[]⟩
theorem zel:FnOk gl Tryz.prog 61 zdq:=
 fo qm2 qm1 0 (oz ⟨qm0,trivial⟩ trivial) Tryz.func61 (by kernel_rfl) (by kernel_rfl) (by kernel_rfl)
  (ll 0 (by kernel_rfl) trivial) (λx=>by kernel_rfl)
def qi6:Plan:=⟨[],[],0,7⟩
def qm3:Plan:=⟨[],[],1,1⟩
def zjb (t0:PV qh):Option (PVs [.str]×PVs [qh]):=
 (zau t0 ([[97],[98],[99],[100],[],[46],[46,46],[111,110,101,32,116,119,111],[43,120],[45,121],[92,32,122],[64,64]].length:Int)).bind λr1=>
   bif inB r1.1.1 [[97],[98],[99],[100],[],[46],[46,46],[111,110,101,32,116,119,111],[43,120],[45,121],[92,32,122],[64,64]].length then
    some ((([[97],[98],[99],[100],[],[46],[46,46],[111,110,101,32,116,119,111],[43,120],[45,121],[92,32,122],[64,64]].getD r1.1.1.toNat []),()),(r1.2.1,()))
   else
    none
def zoc:Ct:=⟨[(.ptr,qh)],[(.str,.b)],λx=>zjb x.1⟩
def qm4:Cx:=⟨tab,arrs,[(61,zdq)],[(78,Tryz.f78,qi6)],gl,[]⟩
theorem zsj:FnOk gl Tryz.prog 120 zoc:=
 fo qm4 qm3 1 (oz ⟨zel,trivial⟩ ⟨⟨Tryz.func78,by kernel_rfl,(ll 0 (by kernel_rfl) trivial)⟩,trivial⟩) Tryz.func120 (by kernel_rfl) (by kernel_rfl) (by kernel_rfl)
  (ll 0 (by kernel_rfl) trivial) (λx=>by kernel_rfl)
def qoy:Plan:=⟨[],[],0,1⟩
def zlq (t0:PV qh)(t1:PV (.int .i64)):Option (PVs [.bool]×PVs [qh]):=
 (zau t0 t1).bind λr1=>
   some (((r1.1.1==0),()),(r1.2.1,()))
def zsp:Ct:=⟨[(.ptr,qh),(.bor,(.int .i64))],[(.bool,.b)],λx=>zlq x.1 x.2.1⟩
def qoz:Cx:=⟨tab,arrs,[(61,zdq)],[],gl,[]⟩
theorem z1a:FnOk gl Tryz.prog 105 zsp:=
 fo qoz qoy 0 (oz ⟨zel,trivial⟩ trivial) Tryz.func105 (by kernel_rfl) (by kernel_rfl) (by kernel_rfl)
  (ll 0 (by kernel_rfl) trivial) (λx=>by kernel_rfl)
def qgu:List Out:=[⟨.normal,⟨[],[3],[]⟩,mkSh 51 [(0,.var qh .b),(1,.addr ⟨0,[],0,0⟩),(3,.val zf (.row .b)),(5,.addr ⟨0,[],0,0⟩),(28,.val zf (.row .b))]⟩]
def qhr:List Out:=[⟨.normal,⟨[],[3],[]⟩,mkSh 25 [(0,.var qh .b),(4,.val zf (.row .b))]⟩]
def qgn:List Sh:=mkSh 51 [(0,.var qh .b),(1,.addr ⟨0,[],0,0⟩),(3,.val zf (.row .b)),(5,.addr ⟨0,[],0,0⟩),(25,.addr ⟨0,[],0,0⟩),(28,.val zf (.row .b)),(29,.val (.int .i64) .b)]
def qgv:List Out:=[⟨.exit 0,⟨[],[0,3],[]⟩,mkSh 51 [(0,.var qh .b),(1,.addr ⟨0,[],0,0⟩),(3,.val zf (.row .b)),(5,.addr ⟨0,[],0,0⟩),(25,.addr ⟨0,[],0,0⟩),(28,.val zf (.row .b))]⟩]
def zfo (t0:PV qh)(t3:PV zf)(t28:PV zf)(t29:PV (.int .i64)):Option ((PV qh×PV zf×PV zf×PV (.int .i64)×Unit)⊕((PV qh×PV zf×PV zf×Unit))):=
 bif (decide (t29>0)) then
  (zjb t0).bind λr4=>
    bif decide (r4.1.1.length+[10].length<=1099511627776) then
     bif qm (t28.length+[(r4.1.1++[10])].length) then
      some (.inl (r4.2.1,t3,(t28++[(r4.1.1++[10])]),(IntKind.wrap .i64 (t29 -1)),()))
     else
      none
    else
     none
 else
  some (.inr (t0,t3,t28,()))
def zx2:PV qh×PV zf×PV zf×PV (.int .i64)×Unit->Option ((PV qh×PV zf×PV zf×Unit)):=fix λd=>zfo d.1 d.2.1 d.2.2.1 d.2.2.2.1
def zxx:Lp:=⟨⟨[],[0,3,4],[]⟩,qgn,qgv,λd=>zfo d.1 d.2.1 d.2.2.1 d.2.2.2.1⟩
def qg6:Plan:=⟨[(8,qgu)],[(3,zxx)],1,25⟩
def qg7:Plan:=⟨[],[],0,51⟩
def qi7:Plan:=⟨[(10,qhr)],[],2,1⟩
def zn7 (t0:PV qh):Option (PVs [zf]×PVs [qh]):=
 (zau t0 9).bind λr20=>
   (zx2 (r20.2.1,[],[],r20.1.1,())).bind λl21=>
     ((
       (zlq l21.1 5).bind λr23=>
         bif r23.1.1 then
          (zau r23.2.1 ([[97],[101,110,100],[46]].length:Int)).bind λr24=>
            bif inB r24.1.1 [[97],[101,110,100],[46]].length then
             bif qm (l21.2.2.1.length+[([[97],[101,110,100],[46]].getD r24.1.1.toNat [])].length) then
              some (r24.2.1,l21.2.1,(l21.2.2.1++[([[97],[101,110,100],[46]].getD r24.1.1.toNat [])]),())
             else
              none
            else
             none
         else
          some (r23.2.1,l21.2.1,l21.2.2.1,()):Option ((PV qh×PV zf×PV zf×Unit)))).bind λj25=>
       ((
         bif (decide ((j25.2.2.1.length:Int)>1)) then
          (zau j25.1 25).bind λr29=>
            bif (r29.1.1==0) then
             bif inB 0 j25.2.2.1.length then
              some (r29.2.1,(j25.2.2.1.set ((0:Int).toNat) [120]),())
             else
              none
            else
             bif (r29.1.1==1) then
              bif inB 0 j25.2.2.1.length then
               some (r29.2.1,(j25.2.2.1.set ((0:Int).toNat) []),())
              else
               none
             else
              bif (r29.1.1==2) then
               bif inB 0 j25.2.2.1.length then
                some (r29.2.1,(j25.2.2.1.set ((0:Int).toNat) [97,10,98,10]),())
               else
                none
              else
               some (r29.2.1,j25.2.2.1,())
         else
          some (j25.1,j25.2.2.1,()):Option ((PV qh×PV zf×Unit)))).bind λj30=>
         some ((j30.2.1,()),(j30.1,()))
def zy0:Ct:=⟨[(.ptr,qh)],[(zf,.b)],λx=>zn7 x.1⟩
def qi8:Cx:=⟨tab,arrs,[(61,zdq),(105,zsp),(120,zoc)],[(59,Tryz.f59,qg6),(78,Tryz.f78,qg7)],gl,[]⟩
theorem qi9:FnOk gl Tryz.prog 186 zy0:=
 fo qi8 qi7 2 (oz ⟨zel,z1a,zsj,trivial⟩ ⟨⟨Tryz.func59,by kernel_rfl,(ll 1 (by kernel_rfl) (lc zxx (by kernel_rfl) (λd=>by kernel_rfl) trivial))⟩,⟨Tryz.func78,by kernel_rfl,(ll 0 (by kernel_rfl) trivial)⟩,trivial⟩) Tryz.func186 (by kernel_rfl) (by kernel_rfl) (by kernel_rfl)
  (ll 0 (by kernel_rfl) trivial) (λx=>by kernel_rfl)
def qup:Plan:=⟨[],[],0,0⟩
def zh1 (t0:PV (.int .i64))(t1:PV (.int .i64)):Option (PVs [(.int .i64)]×PVs []):=
 bif (decide (t0<t1)) then
  some ((t0,()),())
 else
  some ((t1,()),())
def zti:Ct:=⟨[(.bor,(.int .i64)),(.bor,(.int .i64))],[((.int .i64),.b)],λx=>zh1 x.1 x.2.1⟩
def quq:Cx:=⟨tab,arrs,[],[],gl,[]⟩
theorem z4q:FnOk gl Tryz.prog 121 zti:=
 fo quq qup 0 (oz trivial trivial) Tryz.func121 (by kernel_rfl) (by kernel_rfl) (by kernel_rfl)
  (ll 0 (by kernel_rfl) trivial) (λx=>by kernel_rfl)
def qye:Plan:=⟨[],[],0,0⟩
def zda (t0:PV .str):Option (PVs [.bool]×PVs []):=
 bif inB (IntKind.wrap .i64 ((t0.length:Int) -1)) t0.length then
  some (((((t0.getD (IntKind.wrap .i64 ((t0.length:Int) -1)).toNat 0).toNat:Int)==10),()),())
 else
  none
def zhz:Ct:=⟨[(.bor,.str)],[(.bool,.b)],λx=>zda x.1⟩
def qyf:Cx:=⟨tab,arrs,[],[],gl,[]⟩
theorem zjo:FnOk gl Tryz.prog 128 zhz:=
 fo qyf qye 0 (oz trivial trivial) Tryz.func128 (by kernel_rfl) (by kernel_rfl) (by kernel_rfl)
  (ll 0 (by kernel_rfl) trivial) (λx=>by kernel_rfl)
def qur:Plan:=⟨[],[],0,0⟩
def zh2 (t0:PV zf):Option (PVs [.bool]×PVs []):=
 bif ((t0.length:Int)==0) then
  some ((true,()),())
 else
  bif inB (IntKind.wrap .i64 ((t0.length:Int) -1)) t0.length then
   (zda (t0.getD ((IntKind.wrap .i64 ((t0.length:Int) -1)).toNat) [])).bind λr1=>
     some ((r1.1.1,()),())
  else
   none
def z4r:Ct:=⟨[(.bor,zf)],[(.bool,.b)],λx=>zh2 x.1⟩
def qus:Cx:=⟨tab,arrs,[(128,zhz)],[],gl,[]⟩
theorem qut:FnOk gl Tryz.prog 122 z4r:=
 fo qus qur 0 (oz ⟨zjo,trivial⟩ trivial) Tryz.func122 (by kernel_rfl) (by kernel_rfl) (by kernel_rfl)
  (ll 0 (by kernel_rfl) trivial) (λx=>by kernel_rfl)
def qja:List Out:=[⟨.normal,⟨[],[0,1,5,6,7,16,17,18,68],[]⟩,mkSh 83 [(0,.var qh .b),(1,.addr ⟨0,[],0,0⟩),(2,.val zf .b),(6,.val zn (.row (.pr .b (.pr .b (.pr (.row .b) .b))))),(7,.val (.int .i64) .b),(8,.var zl (.pr .b (.pr .b (.pr (.row .b) .b)))),(17,.sub ⟨6,[],0,0⟩),(18,.val (.int .i64) .b),(19,.val .bool .b),(69,.val .bool .b)]⟩]
def qjb:List Sh:=mkSh 83 [(0,.var qh .b),(1,.addr ⟨0,[],0,0⟩),(2,.val zf .b),(6,.val zn (.row (.pr .b (.pr .b (.pr (.row .b) .b))))),(7,.val (.int .i64) .b),(8,.var zl (.pr .b (.pr .b (.pr (.row .b) .b)))),(9,.val (.int .i64) .b),(17,.sub ⟨6,[],0,0⟩),(18,.val (.int .i64) .b),(19,.val .bool .b)]
def qjw:List Out:=[⟨.exit 2,⟨[],[0,1,5,6,7,16,17,18,52,53,54,55,56,57,58,59,60,61,62,63,64,65,66,67],[]⟩,mkSh 83 [(0,.var qh .b),(1,.addr ⟨0,[],0,0⟩),(2,.val zf .b),(6,.val zn (.row (.pr .b (.pr .b (.pr (.row .b) .b))))),(7,.val (.int .i64) .b),(8,.var zl (.pr .b (.pr .b (.pr (.row .b) .b)))),(17,.sub ⟨6,[],0,0⟩),(18,.val (.int .i64) .b),(19,.val .bool .b)]⟩]
def zfr (t0:PV qh)(t2:PV zf)(t6:PV zn)(t7:PV (.int .i64))(t8:PV zl)(t9:PV (.int .i64))(t18:PV (.int .i64))(t19:PV .bool):Option ((PV qh×PV zf×PV zn×PV (.int .i64)×PV zl×PV (.int .i64)×PV (.int .i64)×PV .bool×Unit)⊕((PV qh×PV zf×PV zn×PV (.int .i64)×PV zl×PV (.int .i64)×PV .bool×Unit))):=
 bif (decide (t9>0)) then
  (zjb t0).bind λr27=>
    bif decide (r27.1.1.length+[10].length<=1099511627776) then
     bif qm (t8.2.2.1.length+[(r27.1.1++[10])].length) then
      some (.inl (r27.2.1,t2,t6,t7,(t8.1,(t8.2.1,((t8.2.2.1++[(r27.1.1++[10])]),t8.2.2.2))),(IntKind.wrap .i64 (t9 -1)),t18,t19,()))
     else
      none
    else
     none
 else
  some (.inr (t0,t2,t6,t7,t8,t18,t19,()))
def zzb:PV qh×PV zf×PV zn×PV (.int .i64)×PV zl×PV (.int .i64)×PV (.int .i64)×PV .bool×Unit->Option ((PV qh×PV zf×PV zn×PV (.int .i64)×PV zl×PV (.int .i64)×PV .bool×Unit)):=fix λd=>zfr d.1 d.2.1 d.2.2.1 d.2.2.2.1 d.2.2.2.2.1 d.2.2.2.2.2.1 d.2.2.2.2.2.2.1 d.2.2.2.2.2.2.2.1
def zy1:Lp:=⟨⟨[],[0,1,5,6,7,8,16,17,18,52,53,54,55,56,57,58,59,60,61,62,63,64,65,66,67],[]⟩,qjb,qjw,λd=>zfr d.1 d.2.1 d.2.2.1 d.2.2.2.1 d.2.2.2.2.1 d.2.2.2.2.2.1 d.2.2.2.2.2.2.1 d.2.2.2.2.2.2.2.1⟩
def qjc:List Sh:=mkSh 83 [(0,.var qh .b),(1,.addr ⟨0,[],0,0⟩),(2,.val zf .b),(6,.val zn (.row (.pr .b (.pr .b (.pr (.row .b) .b))))),(7,.val (.int .i64) .b)]
def qjx:List Out:=[⟨.exit 0,⟨[],[5],[]⟩,mkSh 83 [(0,.var qh .b),(6,.val zn (.row (.pr .b (.pr .b (.pr (.row .b) .b)))))]⟩]
def zei (t0:PV qh)(t2:PV zf)(t6:PV zn)(t7:PV (.int .i64)):Option ((PV qh×PV zf×PV zn×PV (.int .i64)×Unit)⊕((PV qh×PV zn×Unit))):=
 bif (decide (t7<=(t2.length:Int))) then
  bif (decide ((t6.length:Int)<6)) then
   (zh1 3 (IntKind.wrap .i64 ((t2.length:Int) -t7))).bind λr22=>
     (zau t0 (IntKind.wrap .i64 (r22.1.1+1))).bind λr23=>
       (zau r23.2.1 3).bind λr28=>
         (zzb (r28.2.1,t2,t6,t7,(t7,(r23.1.1,(([]:PV zf),()))),r28.1.1,(t6.length:Int),(decide ((t6.length:Int)<6)),())).bind λl29=>
           ((
             bif (decide ((IntKind.wrap .i64 (l29.2.2.2.2.1.2.1+(l29.2.2.2.2.1.2.2.1.length:Int)))>0)) then
              bif (decide ((IntKind.wrap .i64 (l29.2.2.2.1+l29.2.2.2.2.1.2.1))<(l29.2.1.length:Int))) then
               some (l29.1,l29.2.1,l29.2.2.1,l29.2.2.2.1,l29.2.2.2.2.1,l29.2.2.2.2.2.1,l29.2.2.2.2.2.2.1,true,())
              else
               (zh2 l29.2.1).bind λr30=>
                 bif r30.1.1 then
                  some (l29.1,l29.2.1,l29.2.2.1,l29.2.2.2.1,l29.2.2.2.2.1,l29.2.2.2.2.2.1,l29.2.2.2.2.2.2.1,true,())
                 else
                  some (l29.1,l29.2.1,l29.2.2.1,l29.2.2.2.1,l29.2.2.2.2.1,l29.2.2.2.2.2.1,l29.2.2.2.2.2.2.1,(decide (l29.2.2.2.2.1.2.1>0)),())
             else
              some (l29.1,l29.2.1,l29.2.2.1,l29.2.2.2.1,l29.2.2.2.2.1,l29.2.2.2.2.2.1,l29.2.2.2.2.2.2.1,false,()):Option ((PV qh×PV zf×PV zn×PV (.int .i64)×PV zl×PV (.int .i64)×PV .bool×PV .bool×Unit)))).bind λj31=>
             bif j31.2.2.2.2.2.2.2.1 then
              bif qm (j31.2.2.1.length+[j31.2.2.2.2.1].length) then
               (zau j31.1 3).bind λr32=>
                 some (.inl (r32.2.1,j31.2.1,(j31.2.2.1++[j31.2.2.2.2.1]),(IntKind.wrap .i64 (j31.2.2.2.1+(IntKind.wrap .i64 ((IntKind.wrap .i64 (j31.2.2.2.2.1.2.1+1))+r32.1.1)))),()))
              else
               none
             else
              (zau j31.1 3).bind λr33=>
                some (.inl (r33.2.1,j31.2.1,j31.2.2.1,(IntKind.wrap .i64 (j31.2.2.2.1+(IntKind.wrap .i64 ((IntKind.wrap .i64 (j31.2.2.2.2.1.2.1+1))+r33.1.1)))),()))
  else
   some (.inr (t0,t6,()))
 else
  some (.inr (t0,t6,()))
def zg6:PV qh×PV zf×PV zn×PV (.int .i64)×Unit->Option ((PV qh×PV zn×Unit)):=fix λd=>zei d.1 d.2.1 d.2.2.1 d.2.2.2.1
def zy2:Lp:=⟨⟨[],[0,1,5,6,52,53,54,55,56,57,58,59,60,61,62,63,64,65,66,67],[]⟩,qjc,qjx,λd=>zei d.1 d.2.1 d.2.2.1 d.2.2.2.1⟩
def qk7:Plan:=⟨[(10,qja)],[(6,zy1),(3,zy2)],0,1⟩
def zlg (t0:PV qh)(t1:PV zf):Option (PVs [zn]×PVs [qh]):=
 (zau t0 3).bind λr2=>
   (zg6 (r2.2.1,t1,[],r2.1.1,())).bind λl35=>
     some ((l35.2.1,()),(l35.1,()))
def zse:Ct:=⟨[(.ptr,qh),(.bor,zf)],[(zn,(.row (.pr .b (.pr .b (.pr (.row .b) .b)))))],λx=>zlg x.1 x.2.1⟩
def qk8:Cx:=⟨tab,arrs,[(61,zdq),(120,zoc),(121,zti),(122,z4r)],[],gl,[]⟩
theorem zzn:FnOk gl Tryz.prog 60 zse:=
 fo qk8 qk7 0 (oz ⟨zel,zsj,z4q,qut,trivial⟩ trivial) Tryz.func60 (by kernel_rfl) (by kernel_rfl) (by kernel_rfl)
  (ll 2 (by kernel_rfl) (lc zy2 (by kernel_rfl) (λd=>by kernel_rfl) (lc zy1 (by kernel_rfl) (λd=>by kernel_rfl) trivial))) (λx=>by kernel_rfl)
def qk9:Plan:=⟨[],[],0,1⟩
def zlk (t0:PV qh)(t1:PV zxk):Option (PVs [(.int .i64)]×PVs [qh]):=
 (zau t0 (t1.length:Int)).bind λr1=>
   bif inB r1.1.1 t1.length then
    some (((t1.getD r1.1.1.toNat (0:Int)),()),(r1.2.1,()))
   else
    none
def zsg:Ct:=⟨[(.ptr,qh),(.bor,zxk)],[((.int .i64),.b)],λx=>zlk x.1 x.2.1⟩
def qla:Cx:=⟨tab,arrs,[(61,zdq)],[],gl,[]⟩
theorem zzs:FnOk gl Tryz.prog 174 zsg:=
 fo qla qk9 0 (oz ⟨zel,trivial⟩ trivial) Tryz.func174 (by kernel_rfl) (by kernel_rfl) (by kernel_rfl)
  (ll 0 (by kernel_rfl) trivial) (λx=>by kernel_rfl)
def qg8:List Out:=[⟨.normal,⟨[],[5],[]⟩,mkSh 60 [(0,.var qh .b),(6,.val zn (.row (.pr .b (.pr .b (.pr (.row .b) .b)))))]⟩]
def qii:Plan:=⟨[(13,qg8)],[],0,1⟩
def zn6 (t0:PV qh)(t1:PV zf):Option (PVs [zn]×PVs [qh]):=
 (zlg t0 t1).bind λr2=>
   ((
     bif (decide ((r2.1.1.length:Int)>0)) then
      (zau r2.2.1 (r2.1.1.length:Int)).bind λr9=>
        (zau r9.2.1 25).bind λr11=>
          bif (r11.1.1==0) then
           (zlk r11.2.1 [(-1),40,3]).bind λr12=>
             bif inB r9.1.1 r2.1.1.length then
              some (r12.2.1,(r2.1.1.set r9.1.1.toNat (r12.1.1,(r2.1.1.getD r9.1.1.toNat (dflt zl)).2)),())
             else
              none
          else
           bif (r11.1.1==1) then
            bif inB r9.1.1 r2.1.1.length then
             bif inB r9.1.1 r2.1.1.length then
              some (r11.2.1,(r2.1.1.set r9.1.1.toNat ((r2.1.1.getD r9.1.1.toNat (dflt zl)).1,((IntKind.wrap .i64 ((((r2.1.1.getD r9.1.1.toNat (dflt zl)).2).1)+3)),((r2.1.1.getD r9.1.1.toNat (dflt zl)).2).2))),())
             else
              none
            else
             none
           else
            bif (r11.1.1==2) then
             bif inB r9.1.1 r2.1.1.length then
              some (r11.2.1,(r2.1.1.set r9.1.1.toNat ((r2.1.1.getD r9.1.1.toNat (dflt zl)).1,(((r2.1.1.getD r9.1.1.toNat (dflt zl)).2).1,([[]],(((r2.1.1.getD r9.1.1.toNat (dflt zl)).2).2).2)))),())
             else
              none
            else
             bif (r11.1.1==3) then
              bif inB r9.1.1 r2.1.1.length then
               bif qm (((((r2.1.1.getD r9.1.1.toNat (dflt zl)).2).2).1).length+[[101,110,100]].length) then
                bif decide (0<=r9.1.1)&&(r9.1.1.toNat==r9.1.1.toNat) then
                 bif ((r9.1.1.toNat==r9.1.1.toNat)&&true) then
                  bif ((r9.1.1.toNat==r9.1.1.toNat)&&true) then
                   some (r11.2.1,(r2.1.1.set r9.1.1.toNat ((r2.1.1.getD r9.1.1.toNat (dflt zl)).1,(((r2.1.1.getD r9.1.1.toNat (dflt zl)).2).1,((((((r2.1.1.getD r9.1.1.toNat (dflt zl)).2).2).1)++[[101,110,100]]),(((r2.1.1.getD r9.1.1.toNat (dflt zl)).2).2).2)))),())
                  else
                   none
                 else
                  none
                else
                 none
               else
                none
              else
               none
             else
              some (r11.2.1,r2.1.1,())
     else
      some (r2.2.1,r2.1.1,()):Option ((PV qh×PV zn×Unit)))).bind λj13=>
     some ((j13.2.1,()),(j13.1,()))
def zyq:Ct:=⟨[(.ptr,qh),(.bor,zf)],[(zn,(.row (.pr .b (.pr .b (.pr (.row .b) .b)))))],λx=>zn6 x.1 x.2.1⟩
def qij:Cx:=⟨tab,arrs,[(60,zse),(61,zdq),(174,zsg)],[],gl,[]⟩
theorem qik:FnOk gl Tryz.prog 187 zyq:=
 fo qij qii 0 (oz ⟨zzn,zel,zzs,trivial⟩ trivial) Tryz.func187 (by kernel_rfl) (by kernel_rfl) (by kernel_rfl)
  (ll 0 (by kernel_rfl) trivial) (λx=>by kernel_rfl)
def qjy:Plan:=⟨[],[],0,1⟩
def zsh (t0:PV qh):Option (PVs [zf,zn]×PVs [qh]):=
 (zn7 t0).bind λr2=>
   (zn6 r2.2.1 r2.1.1).bind λr3=>
     some ((r2.1.1,r3.1.1,()),(r3.2.1,()))
def zzc:Ct:=⟨[(.ptr,qh)],[(zf,.b),(zn,(.row (.pr .b (.pr .b (.pr (.row .b) .b)))))],λx=>zsh x.1⟩
def qjz:Cx:=⟨tab,arrs,[(186,zy0),(187,zyq)],[],gl,[]⟩
theorem qj0:FnOk gl Tryz.prog 110 zzc:=
 fo qjz qjy 0 (oz ⟨qi9,qik,trivial⟩ trivial) Tryz.func110 (by kernel_rfl) (by kernel_rfl) (by kernel_rfl)
  (ll 0 (by kernel_rfl) trivial) (λx=>by kernel_rfl)
def qlb:Plan:=⟨[],[],0,1⟩
def zog (t0:PV qh):Option (PVs [(.int .i64)]×PVs [qh]):=
 (zlk t0 [0,1,2,3,3,20]).bind λr1=>
   (zau r1.2.1 30).bind λr2=>
     bif 29==0 then
      none
     else
      some (((IntKind.wrap .i64 (r1.1.1+(IntKind.wrap .i64 ((IntKind.wrap .i64 (r2.1.1.tdiv 29))*20)))),()),(r2.2.1,()))
def zzt:Ct:=⟨[(.ptr,qh)],[((.int .i64),.b)],λx=>zog x.1⟩
def qlc:Cx:=⟨tab,arrs,[(61,zdq),(174,zsg)],[],gl,[]⟩
theorem qld:FnOk gl Tryz.prog 111 zzt:=
 fo qlc qlb 0 (oz ⟨zel,zzs,trivial⟩ trivial) Tryz.func111 (by kernel_rfl) (by kernel_rfl) (by kernel_rfl)
  (ll 0 (by kernel_rfl) trivial) (λx=>by kernel_rfl)
def qj1:Plan:=⟨[],[],0,0⟩
def zsi (t0:PV xu):Option (PVs [zf,zn,(.int .i64)]×PVs []):=
 (zsh (t0,(0,(0,())))).bind λr2=>
   (zog r2.2.1).bind λr3=>
     some ((r2.1.1,r2.1.2.1,r3.1.1,()),())
def zzd:Ct:=⟨[(.bor,xu)],[(zf,.b),(zn,(.row (.pr .b (.pr .b (.pr (.row .b) .b))))),((.int .i64),.b)],λx=>zsi x.1⟩
def qj2:Cx:=⟨tab,arrs,[(110,zzc),(111,zzt)],[],gl,[]⟩
theorem qj3:FnOk gl Tryz.prog 54 zzd:=
 fo qj2 qj1 0 (oz ⟨qj0,qld,trivial⟩ trivial) Tryz.func54 (by kernel_rfl) (by kernel_rfl) (by kernel_rfl)
  (ll 0 (by kernel_rfl) trivial) (λx=>by kernel_rfl)
def qhs:Plan:=⟨[],[],0,0⟩
def zn4 (t0:PV xu):Option (PVs [zf,zn,(.int .i64)]×PVs []):=
 (zsi t0).bind λr1=>
   some ((r1.1.1,r1.1.2.1,r1.1.2.2.1,()),())
def zye:Ct:=⟨[(.bor,xu)],[(zf,.b),(zn,(.row (.pr .b (.pr .b (.pr (.row .b) .b))))),((.int .i64),.b)],λx=>zn4 x.1⟩
def qht:Cx:=⟨tab,arrs,[(54,zzd)],[],gl,[]⟩
theorem qhq:FnOk gl Tryz.prog 11 zye:=
 fo qht qhs 0 (oz ⟨qj3,trivial⟩ trivial) Tryz.func11 (by kernel_rfl) (by kernel_rfl) (by kernel_rfl)
  (ll 0 (by kernel_rfl) trivial) (λx=>by kernel_rfl)
def q7s:Plan:=⟨[],[],0,0⟩
def zcd (t0:PV (.int .i64))(t1:PV (.int .i64))(t2:PV (.int .i64)):Option (PVs [.bool]×PVs []):=
 bif (decide (t0>=t1)) then
  some (((decide (t0<=t2)),()),())
 else
  some ((false,()),())
def zkp:Ct:=⟨[(.bor,(.int .i64)),(.bor,(.int .i64)),(.bor,(.int .i64))],[(.bool,.b)],λx=>zcd x.1 x.2.1 x.2.2.1⟩
def q7t:Cx:=⟨tab,arrs,[],[],gl,[]⟩
theorem znf:FnOk gl Tryz.prog 131 zkp:=
 fo q7t q7s 0 (oz trivial trivial) Tryz.func131 (by kernel_rfl) (by kernel_rfl) (by kernel_rfl)
  (ll 0 (by kernel_rfl) trivial) (λx=>by kernel_rfl)
def qyg:Plan:=⟨[],[],0,0⟩
def zmg (t0:PV .str):Option (PVs [.bool]×PVs []):=
 (zcd (t0.length:Int) 1 30).bind λr1=>
   bif r1.1.1 then
    bif cutB 0 (IntKind.wrap .i64 ((t0.length:Int) -1)) t0.length then
     (zlc (cutL 0 (IntKind.wrap .i64 ((t0.length:Int) -1)) t0) [10]).bind λr2=>
       some (((!r2.1.1),()),())
    else
     none
   else
    some ((false,()),())
def zty:Ct:=⟨[(.bor,.str)],[(.bool,.b)],λx=>zmg x.1⟩
def qyh:Cx:=⟨tab,arrs,[(131,zkp),(233,zr8)],[],gl,[]⟩
theorem z6o:FnOk gl Tryz.prog 179 zty:=
 fo qyh qyg 0 (oz ⟨znf,zyp,trivial⟩ trivial) Tryz.func179 (by kernel_rfl) (by kernel_rfl) (by kernel_rfl)
  (ll 0 (by kernel_rfl) trivial) (λx=>by kernel_rfl)
def qm5:Plan:=⟨[],[],0,0⟩
def zok (t0:PV .str):Option (PVs [.bool]×PVs []):=
 (zmg t0).bind λr1=>
   some (((!r1.1.1),()),())
def z0i:Ct:=⟨[(.bor,.str)],[(.bool,.b)],λx=>zok x.1⟩
def qm6:Cx:=⟨tab,arrs,[(179,zty)],[],gl,[]⟩
theorem qm7:FnOk gl Tryz.prog 225 z0i:=
 fo qm6 qm5 0 (oz ⟨z6o,trivial⟩ trivial) Tryz.func225 (by kernel_rfl) (by kernel_rfl) (by kernel_rfl)
  (ll 0 (by kernel_rfl) trivial) (λx=>by kernel_rfl)
def qj4:Plan:=⟨[],[],1,11⟩
def qil:List Sh:=mkSh 39 [(0,.val zf .b),(2,.val .bool .b),(3,.val zf .b),(4,.val (.int .i64) .b),(5,.val .bool .b),(6,.val .bool .b),(7,.val zf .b),(11,.val zf .b),(12,.fn 225 []),(15,.val .bool .b),(16,.val zf .b),(17,.fn 225 []),(20,.val zf .b),(21,.fn 225 []),(27,.val (.int .i64) .b),(28,.val (.int .i64) .b)]
def qjd:List Out:=[⟨.exit 0,⟨[],[],[]⟩,mkSh 39 [(0,.val zf .b),(2,.val .bool .b),(3,.val zf .b),(4,.val (.int .i64) .b),(5,.val .bool .b),(6,.val .bool .b),(7,.val zf .b),(11,.val zf .b),(12,.fn 225 []),(15,.val .bool .b),(16,.val zf .b),(17,.fn 225 [])]⟩,⟨.ret,⟨[],[4],[]⟩,mkSh 39 [(0,.val zf .b),(2,.val .bool .b),(3,.val zf .b),(4,.val (.int .i64) .b),(5,.val .bool .b),(6,.val .bool .b),(7,.val zf .b),(11,.val zf .b),(12,.fn 225 []),(15,.val .bool .b),(16,.val zf .b),(17,.fn 225 []),(24,.val (.int .i64) .b)]⟩]
def zef (t0:PV zf)(t2:PV .bool)(t3:PV zf)(t4:PV (.int .i64))(t5:PV .bool)(t6:PV .bool)(t7:PV zf)(t11:PV zf)(t15:PV .bool)(t16:PV zf)(t20:PV zf)(t27:PV (.int .i64))(t28:PV (.int .i64)):Option ((PV zf×PV .bool×PV zf×PV (.int .i64)×PV .bool×PV .bool×PV zf×PV zf×PV .bool×PV zf×PV zf×PV (.int .i64)×PV (.int .i64)×Unit)⊕((PV zf×PV .bool×PV zf×PV (.int .i64)×PV .bool×PV .bool×PV zf×PV zf×PV .bool×PV zf×Unit)⊕(PV zf×PV .bool×PV zf×PV (.int .i64)×PV .bool×PV .bool×PV zf×PV zf×PV .bool×PV zf×PV (.int .i64)×Unit))):=
 bif (decide (t28<t27)) then
  bif inB t28 t20.length then
   (zok (t20.getD t28.toNat [])).bind λr4=>
     bif r4.1.1 then
      some (.inr (.inr (t0,t2,t3,t4,t5,t6,t7,t11,t15,t16,t28,())))
     else
      some (.inl (t0,t2,t3,t4,t5,t6,t7,t11,t15,t16,t20,t27,(IntKind.wrap .i64 (t28+1)),()))
  else
   none
 else
  some (.inr (.inl (t0,t2,t3,t4,t5,t6,t7,t11,t15,t16,())))
def zy3:PV zf×PV .bool×PV zf×PV (.int .i64)×PV .bool×PV .bool×PV zf×PV zf×PV .bool×PV zf×PV zf×PV (.int .i64)×PV (.int .i64)×Unit->Option ((PV zf×PV .bool×PV zf×PV (.int .i64)×PV .bool×PV .bool×PV zf×PV zf×PV .bool×PV zf×Unit)⊕(PV zf×PV .bool×PV zf×PV (.int .i64)×PV .bool×PV .bool×PV zf×PV zf×PV .bool×PV zf×PV (.int .i64)×Unit)):=fix λd=>zef d.1 d.2.1 d.2.2.1 d.2.2.2.1 d.2.2.2.2.1 d.2.2.2.2.2.1 d.2.2.2.2.2.2.1 d.2.2.2.2.2.2.2.1 d.2.2.2.2.2.2.2.2.1 d.2.2.2.2.2.2.2.2.2.1 d.2.2.2.2.2.2.2.2.2.2.1 d.2.2.2.2.2.2.2.2.2.2.2.1 d.2.2.2.2.2.2.2.2.2.2.2.2.1
def zyr:Lp:=⟨⟨[],[0,1,7,8],[]⟩,qil,qjd,λd=>zef d.1 d.2.1 d.2.2.1 d.2.2.2.1 d.2.2.2.2.1 d.2.2.2.2.2.1 d.2.2.2.2.2.2.1 d.2.2.2.2.2.2.2.1 d.2.2.2.2.2.2.2.2.1 d.2.2.2.2.2.2.2.2.2.1 d.2.2.2.2.2.2.2.2.2.2.1 d.2.2.2.2.2.2.2.2.2.2.2.1 d.2.2.2.2.2.2.2.2.2.2.2.2.1⟩
def qj5:Plan:=⟨[],[(2,zyr)],0,20⟩
def qro:Plan:=⟨[],[],2,0⟩
def zlx (t0:PV zf):Option (PVs [.bool]×PVs []):=
 bif (decide ((t0.length:Int)<=40)) then
  (zy3 (t0,false,t0,(t0.length:Int),(decide ((t0.length:Int)<=40)),true,t0,t0,false,t0,t0,(t0.length:Int),0,())).bind λx9=>
    match x9 with
    | .inl l7=>
      bif l7.2.2.2.2.2.1 then
       some (((!(decide ((-1)>=0))),()),())
      else
       some ((false,()),())
    | .inr l8=>
      bif l8.2.2.2.2.2.1 then
       some (((!(decide (l8.2.2.2.2.2.2.2.2.2.2.1>=0))),()),())
      else
       some ((false,()),())
 else
  some ((false,()),())
def zsy:Ct:=⟨[(.bor,zf)],[(.bool,.b)],λx=>zlx x.1⟩
def qrp:Cx:=⟨tab,arrs,[(225,z0i)],[(224,Tryz.f224,qj4),(264,Tryz.f264,qj5)],gl,[]⟩
theorem z2v:FnOk gl Tryz.prog 156 zsy:=
 fo qrp qro 2 (oz ⟨qm7,trivial⟩ ⟨⟨Tryz.func224,by kernel_rfl,(ll 0 (by kernel_rfl) trivial)⟩,⟨Tryz.func264,by kernel_rfl,(ll 1 (by kernel_rfl) (lc zyr (by kernel_rfl) (λd=>by kernel_rfl) trivial))⟩,trivial⟩) Tryz.func156 (by kernel_rfl) (by kernel_rfl) (by kernel_rfl)
  (ll 0 (by kernel_rfl) trivial) (λx=>by kernel_rfl)
def qf4:Plan:=⟨[],[],0,0⟩
def zg0 (t0:PV .str)(t1:PV .str):Option (PVs [.bool]×PVs []):=
 bif (decide ((t0.length:Int)>=(t1.length:Int))) then
  bif cutB (IntKind.wrap .i64 ((t0.length:Int) -(t1.length:Int))) (t0.length:Int) t0.length then
   some ((((cutL (IntKind.wrap .i64 ((t0.length:Int) -(t1.length:Int))) (t0.length:Int) t0)==t1),()),())
  else
   none
 else
  some ((false,()),())
def zn0:Ct:=⟨[(.bor,.str),(.bor,.str)],[(.bool,.b)],λx=>zg0 x.1 x.2.1⟩
def qf5:Cx:=⟨tab,arrs,[],[],gl,[]⟩
theorem zr0:FnOk gl Tryz.prog 265 zn0:=
 fo qf5 qf4 0 (oz trivial trivial) Tryz.func265 (by kernel_rfl) (by kernel_rfl) (by kernel_rfl)
  (ll 0 (by kernel_rfl) trivial) (λx=>by kernel_rfl)
def qhu:Plan:=⟨[],[],0,0⟩
def zr9 (t0:PV .str)(t1:PV .str):Option (PVs [.bool]×PVs []):=
 (zg0 t0 t1).bind λr1=>
   some ((r1.1.1,()),())
def zyf:Ct:=⟨[(.bor,.str),(.bor,.str)],[(.bool,.b)],λx=>zr9 x.1 x.2.1⟩
def qhv:Cx:=⟨tab,arrs,[(265,zn0)],[],gl,[]⟩
theorem qhw:FnOk gl Tryz.prog 226 zyf:=
 fo qhv qhu 0 (oz ⟨zr0,trivial⟩ trivial) Tryz.func226 (by kernel_rfl) (by kernel_rfl) (by kernel_rfl)
  (ll 0 (by kernel_rfl) trivial) (λx=>by kernel_rfl)
def quu:Plan:=⟨[],[],0,0⟩
def zjq (t0:PV .str):Option (PVs [.bool]×PVs []):=
 (zr9 t0 [10]).bind λr1=>
   some ((r1.1.1,()),())
def ztj:Ct:=⟨[(.bor,.str)],[(.bool,.b)],λx=>zjq x.1⟩
def quv:Cx:=⟨tab,arrs,[(226,zyf)],[],gl,[]⟩
theorem z4s:FnOk gl Tryz.prog 157 ztj:=
 fo quv quu 0 (oz ⟨qhw,trivial⟩ trivial) Tryz.func157 (by kernel_rfl) (by kernel_rfl) (by kernel_rfl)
  (ll 0 (by kernel_rfl) trivial) (λx=>by kernel_rfl)
def qm8:List Out:=[⟨.normal,⟨[],[0,8,9,10,24],[]⟩,mkSh 26 [(0,.val zf .b),(8,.val zf .b),(9,.val (.int .i64) .b),(10,.val (.int .i64) .b),(24,.val .bool .b)]⟩]
def qle:List Sh:=mkSh 26 [(0,.val zf .b),(8,.val zf .b),(9,.val (.int .i64) .b),(10,.val (.int .i64) .b)]
def qm9:List Out:=[⟨.exit 0,⟨[],[],[]⟩,mkSh 26 []⟩,⟨.ret,⟨[],[2],[]⟩,mkSh 26 [(2,.val .bool .b)]⟩]
def zem (t0:PV zf)(t8:PV zf)(t9:PV (.int .i64))(t10:PV (.int .i64)):Option ((PV zf×PV zf×PV (.int .i64)×PV (.int .i64)×Unit)⊕((Unit)⊕(PV .bool×Unit))):=
 bif (decide (t10<t9)) then
  bif inB t10 t8.length then
   ((
     bif (decide (t10<(IntKind.wrap .i64 ((t0.length:Int) -1)))) then
      (zjq (t8.getD t10.toNat [])).bind λr7=>
        some (t0,t8,t9,t10,(!r7.1.1),())
     else
      some (t0,t8,t9,t10,false,()):Option ((PV zf×PV zf×PV (.int .i64)×PV (.int .i64)×PV .bool×Unit)))).bind λj8=>
     bif j8.2.2.2.2.1 then
      some (.inr (.inr (false,())))
     else
      some (.inl (j8.1,j8.2.1,j8.2.2.1,(IntKind.wrap .i64 (j8.2.2.2.1+1)),()))
  else
   none
 else
  some (.inr (.inl ()))
def z0j:PV zf×PV zf×PV (.int .i64)×PV (.int .i64)×Unit->Option ((Unit)⊕(PV .bool×Unit)):=fix λd=>zem d.1 d.2.1 d.2.2.1 d.2.2.2.1
def zzu:Lp:=⟨⟨[],[0,8,9,10,21,22,23],[]⟩,qle,qm9,λd=>zem d.1 d.2.1 d.2.2.1 d.2.2.2.1⟩
def qo0:Plan:=⟨[(7,qm8)],[(4,zzu)],0,0⟩
def zhg (t0:PV zf):Option (PVs [.bool]×PVs []):=
 (zlx t0).bind λr4=>
   bif (!r4.1.1) then
    some ((false,()),())
   else
    (z0j (t0,t0,(t0.length:Int),0,())).bind λx13=>
      match x13 with
      | .inl l11=>
        some ((true,()),())
      | .inr l12=>
        some ((l12.1,()),())
def zsq:Ct:=⟨[(.bor,zf)],[(.bool,.b)],λx=>zhg x.1⟩
def qo1:Cx:=⟨tab,arrs,[(156,zsy),(157,ztj)],[],gl,[]⟩
theorem z1h:FnOk gl Tryz.prog 88 zsq:=
 fo qo1 qo0 0 (oz ⟨z2v,z4s,trivial⟩ trivial) Tryz.func88 (by kernel_rfl) (by kernel_rfl) (by kernel_rfl)
  (ll 1 (by kernel_rfl) (lc zzu (by kernel_rfl) (λd=>by kernel_rfl) trivial)) (λx=>by kernel_rfl)
def qna:List Out:=[⟨.normal,⟨[],[0,1,14,28,29,30,31,32,33,34,35,38,39,40,41,44,45,46,47,48,49,50,51,52,57,58,59,60,61,62,63,64,65,66,67,68,69,70,71,72],[]⟩,mkSh 75 [(0,.val (.int .i64) .b),(1,.val zn .b),(14,.val .bool .b)]⟩]
def qnb:List Out:=[⟨.normal,⟨[],[0,1,5,6,15,16,17,53,57,58,59,60,61,62,63,64,65,66,67,68,69,70,71,72],[]⟩,mkSh 75 [(0,.val (.int .i64) .b),(1,.val zn .b),(5,.val (.int .i64) .b),(6,.var zl .b),(15,.val zn .b),(16,.val (.int .i64) .b),(17,.val (.int .i64) .b),(53,.val .bool .b)]⟩]
def qnc:List Out:=[⟨.normal,⟨[],[0,1,6,15,16,17,28,29,30,31,32,33,34,35,38,39,40,41,44,45,46,47,48,49,50,51,52,73],[]⟩,mkSh 75 [(0,.val (.int .i64) .b),(1,.val zn .b),(6,.var zl .b),(15,.val zn .b),(16,.val (.int .i64) .b),(17,.val (.int .i64) .b),(73,.val .bool .b)]⟩]
def qlf:List Sh:=mkSh 75 [(0,.val (.int .i64) .b),(1,.val zn .b),(15,.val zn .b),(16,.val (.int .i64) .b),(17,.val (.int .i64) .b)]
def qnd:List Out:=[⟨.exit 0,⟨[],[],[]⟩,mkSh 75 []⟩,⟨.ret,⟨[],[4],[]⟩,mkSh 75 [(4,.val .bool .b)]⟩]
def zen (t0:PV (.int .i64))(t1:PV zn)(t15:PV zn)(t16:PV (.int .i64))(t17:PV (.int .i64)):Option ((PV (.int .i64)×PV zn×PV zn×PV (.int .i64)×PV (.int .i64)×Unit)⊕((Unit)⊕(PV .bool×Unit))):=
 bif (decide (t17<t16)) then
  bif inB t17 t15.length then
   ((
     (zcd ((t15.getD t17.toNat (dflt zl)).1) 0 t0).bind λr19=>
       bif (!r19.1.1) then
        some (t0,t1,t17,(t15.getD t17.toNat (dflt zl)),t15,t16,t17,true,())
       else
        (zcd (((t15.getD t17.toNat (dflt zl)).2).1) 0 (IntKind.wrap .i64 (t0 -((t15.getD t17.toNat (dflt zl)).1)))).bind λr20=>
          bif (!r20.1.1) then
           some (t0,t1,t17,(t15.getD t17.toNat (dflt zl)),t15,t16,t17,true,())
          else
           (zlx ((((t15.getD t17.toNat (dflt zl)).2).2).1)).bind λr21=>
             bif (!r21.1.1) then
              some (t0,t1,t17,(t15.getD t17.toNat (dflt zl)),t15,t16,t17,true,())
             else
              bif ((((t15.getD t17.toNat (dflt zl)).2).1)==0) then
               some (t0,t1,t17,(t15.getD t17.toNat (dflt zl)),t15,t16,t17,((((((t15.getD t17.toNat (dflt zl)).2).2).1).length:Int)==0),())
              else
               some (t0,t1,t17,(t15.getD t17.toNat (dflt zl)),t15,t16,t17,false,()):Option ((PV (.int .i64)×PV zn×PV (.int .i64)×PV zl×PV zn×PV (.int .i64)×PV (.int .i64)×PV .bool×Unit)))).bind λj22=>
     bif j22.2.2.2.2.2.2.2.1 then
      some (.inr (.inr (false,())))
     else
      ((
        bif (decide (j22.2.2.1>0)) then
         bif inB (IntKind.wrap .i64 (j22.2.2.1 -1)) j22.2.1.length then
          bif inB (IntKind.wrap .i64 (j22.2.2.1 -1)) j22.2.1.length then
           some (j22.1,j22.2.1,j22.2.2.2.1,j22.2.2.2.2.1,j22.2.2.2.2.2.1,j22.2.2.2.2.2.2.1,(decide (j22.2.2.2.1.1<=(IntKind.wrap .i64 (((j22.2.1.getD ((IntKind.wrap .i64 (j22.2.2.1 -1)).toNat) (dflt zl)).1)+(((j22.2.1.getD ((IntKind.wrap .i64 (j22.2.2.1 -1)).toNat) (dflt zl)).2).1))))),())
          else
           none
         else
          none
        else
         some (j22.1,j22.2.1,j22.2.2.2.1,j22.2.2.2.2.1,j22.2.2.2.2.2.1,j22.2.2.2.2.2.2.1,false,()):Option ((PV (.int .i64)×PV zn×PV zl×PV zn×PV (.int .i64)×PV (.int .i64)×PV .bool×Unit)))).bind λj23=>
        bif j23.2.2.2.2.2.2.1 then
         some (.inr (.inr (false,())))
        else
         some (.inl (j23.1,j23.2.1,j23.2.2.2.1,j23.2.2.2.2.1,(IntKind.wrap .i64 (j23.2.2.2.2.2.1+1)),()))
  else
   none
 else
  some (.inr (.inl ()))
def z0k:PV (.int .i64)×PV zn×PV zn×PV (.int .i64)×PV (.int .i64)×Unit->Option ((Unit)⊕(PV .bool×Unit)):=fix λd=>zen d.1 d.2.1 d.2.2.1 d.2.2.2.1 d.2.2.2.2.1
def zzv:Lp:=⟨⟨[],[0,1,15,16,17,28,29,30,31,32,33,34,35,38,39,40,41,44,45,46,47,48,49,50,51,52,57,58,59,60,61,62,63,64,65,66,67,68,69,70,71,72],[]⟩,qlf,qnd,λd=>zen d.1 d.2.1 d.2.2.1 d.2.2.2.1 d.2.2.2.2.1⟩
def qo2:Plan:=⟨[(2,qna),(7,qnb),(9,qnc)],[(4,zzv)],0,0⟩
def zor (t0:PV (.int .i64))(t1:PV zn):Option (PVs [.bool]×PVs []):=
 ((
   (zcd t0 0 40).bind λr4=>
     bif (!r4.1.1) then
      some (t0,t1,true,())
     else
      some (t0,t1,(decide ((t1.length:Int)>20)),()):Option ((PV (.int .i64)×PV zn×PV .bool×Unit)))).bind λj5=>
   bif j5.2.2.1 then
    some ((false,()),())
   else
    (z0k (j5.1,j5.2.1,j5.2.1,(j5.2.1.length:Int),0,())).bind λx28=>
      match x28 with
      | .inl l26=>
        some ((true,()),())
      | .inr l27=>
        some ((l27.1,()),())
def z1i:Ct:=⟨[(.bor,(.int .i64)),(.bor,zn)],[(.bool,.b)],λx=>zor x.1 x.2.1⟩
def qo3:Cx:=⟨tab,arrs,[(131,zkp),(156,zsy)],[],gl,[]⟩
theorem qo4:FnOk gl Tryz.prog 89 z1i:=
 fo qo3 qo2 0 (oz ⟨znf,z2v,trivial⟩ trivial) Tryz.func89 (by kernel_rfl) (by kernel_rfl) (by kernel_rfl)
  (ll 1 (by kernel_rfl) (lc zzv (by kernel_rfl) (λd=>by kernel_rfl) trivial)) (λx=>by kernel_rfl)
def qo5:List Sh:=mkSh 37 [(0,.val zf .b),(5,.val zf (.row .b)),(6,.val (.int .i64) .b),(10,.val zn .b),(11,.val (.int .i64) .b),(12,.val (.int .i64) .b)]
def qrq:List Out:=[⟨.exit 0,⟨[],[0,5,6],[]⟩,mkSh 37 [(0,.val zf .b),(5,.val zf (.row .b)),(6,.val (.int .i64) .b)]⟩]
def zhh (t0:PV zf)(t5:PV zf)(t6:PV (.int .i64))(t10:PV zn)(t11:PV (.int .i64))(t12:PV (.int .i64)):Option ((PV zf×PV zf×PV (.int .i64)×PV zn×PV (.int .i64)×PV (.int .i64)×Unit)⊕((PV zf×PV zf×PV (.int .i64)×Unit))):=
 bif (decide (t12<t11)) then
  bif inB t12 t10.length then
   bif cutB t6 ((t10.getD t12.toNat (dflt zl)).1) t0.length then
    bif qm (t5.length+(cutL t6 ((t10.getD t12.toNat (dflt zl)).1) t0).length) then
     bif qm ((t5++(cutL t6 ((t10.getD t12.toNat (dflt zl)).1) t0)).length+((((t10.getD t12.toNat (dflt zl)).2).2).1).length) then
      some (.inl (t0,((t5++(cutL t6 ((t10.getD t12.toNat (dflt zl)).1) t0))++((((t10.getD t12.toNat (dflt zl)).2).2).1)),(IntKind.wrap .i64 (((t10.getD t12.toNat (dflt zl)).1)+(((t10.getD t12.toNat (dflt zl)).2).1))),t10,t11,(IntKind.wrap .i64 (t12+1)),()))
     else
      none
    else
     none
   else
    none
  else
   none
 else
  some (.inr (t0,t5,t6,()))
def z2w:PV zf×PV zf×PV (.int .i64)×PV zn×PV (.int .i64)×PV (.int .i64)×Unit->Option ((PV zf×PV zf×PV (.int .i64)×Unit)):=fix λd=>zhh d.1 d.2.1 d.2.2.1 d.2.2.2.1 d.2.2.2.2.1 d.2.2.2.2.2.1
def z1j:Lp:=⟨⟨[],[0,5,6,10,11,12],[]⟩,qo5,qrq,λd=>zhh d.1 d.2.1 d.2.2.1 d.2.2.2.1 d.2.2.2.2.1 d.2.2.2.2.2.1⟩
def quw:Plan:=⟨[],[(3,z1j)],0,0⟩
def zo7 (t0:PV zf)(t1:PV zn):Option (PVs [zf]×PVs []):=
 (z2w (t0,([]:PV zf),0,t1,(t1.length:Int),0,())).bind λl2=>
   bif cutB l2.2.2.1 (l2.1.length:Int) l2.1.length then
    bif qm (l2.2.1.length+(cutL l2.2.2.1 (l2.1.length:Int) l2.1).length) then
     some (((l2.2.1++(cutL l2.2.2.1 (l2.1.length:Int) l2.1)),()),())
    else
     none
   else
    none
def z4t:Ct:=⟨[(.bor,zf),(.bor,zn)],[(zf,(.row .b))],λx=>zo7 x.1 x.2.1⟩
def quy:Cx:=⟨tab,arrs,[],[],gl,[]⟩
theorem quz:FnOk gl Tryz.prog 90 z4t:=
 fo quy quw 0 (oz trivial trivial) Tryz.func90 (by kernel_rfl) (by kernel_rfl) (by kernel_rfl)
  (ll 1 (by kernel_rfl) (lc z1j (by kernel_rfl) (λd=>by kernel_rfl) trivial)) (λx=>by kernel_rfl)
def qyi:List Out:=[⟨.normal,⟨[],[0,1,16],[]⟩,mkSh 24 [(0,.val zf .b),(1,.val zn .b),(16,.val .bool .b)]⟩]
def q0k:Plan:=⟨[(2,qyi)],[],0,0⟩
def zp4 (t0:PV zf)(t1:PV zn):Option (PVs [zf,.bool]×PVs []):=
 ((
   (zhg t0).bind λr6=>
     bif (!r6.1.1) then
      some (t0,t1,true,())
     else
      (zor (t0.length:Int) t1).bind λr7=>
        some (t0,t1,(!r7.1.1),()):Option ((PV zf×PV zn×PV .bool×Unit)))).bind λj8=>
   bif j8.2.2.1 then
    some (([],false,()),())
   else
    (zo7 j8.1 j8.2.1).bind λr10=>
      (zhg r10.1.1).bind λr14=>
        bif (!r14.1.1) then
         some (([],false,()),())
        else
         some ((r10.1.1,true,()),())
def z8f:Ct:=⟨[(.bor,zf),(.bor,zn)],[(zf,(.row .b)),(.bool,.b)],λx=>zp4 x.1 x.2.1⟩
def q0l:Cx:=⟨tab,arrs,[(88,zsq),(89,z1i),(90,z4t)],[],gl,[]⟩
theorem q0m:FnOk gl Tryz.prog 38 z8f:=
 fo q0l q0k 0 (oz ⟨z1h,qo4,quz,trivial⟩ trivial) Tryz.func38 (by kernel_rfl) (by kernel_rfl) (by kernel_rfl)
  (ll 0 (by kernel_rfl) trivial) (λx=>by kernel_rfl)
def qu0:Plan:=⟨[],[],0,0⟩
def ztz (t0:PV (.int .i64)):Option (PVs [.bool]×PVs []):=
 (zcd t0 0 20).bind λr1=>
   some ((r1.1.1,()),())
def z4u:Ct:=⟨[(.bor,(.int .i64))],[(.bool,.b)],λx=>ztz x.1⟩
def qu1:Cx:=⟨tab,arrs,[(131,zkp)],[],gl,[]⟩
theorem qu2:FnOk gl Tryz.prog 112 z4u:=
 fo qu1 qu0 0 (oz ⟨znf,trivial⟩ trivial) Tryz.func112 (by kernel_rfl) (by kernel_rfl) (by kernel_rfl)
  (ll 0 (by kernel_rfl) trivial) (λx=>by kernel_rfl)
end
end R
