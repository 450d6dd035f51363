/- The functions, part 2. -/
import Derived.Test.YtljgmcbpjakecaaGreatDoorPaIe1
set_option linter.unusedVariables false
open Go Go.Dn Go.Proofs
namespace R
set_option maxRecDepth 20000
open Go.Shelf
noncomputable section
def qgw:List Sh:=mkSh 159 [(0,.val zf .b),(1,.val zn .b),(2,.val (.int .i64) .b),(7,.val zk (.row (.pr .b (.pr .b (.pr (.row (.pr .b (.pr .b .b))) .b))))),(8,.val (.int .i64) .b),(9,.val (.int .i64) .b),(10,.val (.int .i64) .b),(11,.val (.int .i64) .b),(12,.val (.int .i64) .b),(13,.var zh (.pr .b (.pr .b (.pr (.row (.pr .b (.pr .b .b))) .b)))),(14,.fn 188 [⟨13,[],0,0⟩]),(15,.var zl .b),(82,.val (.int .i64) .b),(83,.val (.int .i64) .b),(84,.val .bool .b),(87,.val zn .b),(88,.val (.int .i64) .b),(89,.bad zl),(90,.val zl .b),(91,.fn 188 [⟨13,[],0,0⟩]),(92,.val zf .b),(93,.val (.int .i64) .b),(94,.addr ⟨15,[.l],0,0⟩),(95,.val (.int .i64) .b),(96,.val zf .b),(137,.val (.int .i64) .b),(139,.addr ⟨13,[],0,0⟩),(144,.val zf .b),(145,.val (.int .i64) .b),(146,.val (.int .i64) .b)]
def qg9:List Out:=[⟨.exit 0,⟨[],[],[]⟩,mkSh 159 [(0,.val zf .b),(1,.val zn .b),(2,.val (.int .i64) .b),(7,.val zk (.row (.pr .b (.pr .b (.pr (.row (.pr .b (.pr .b .b))) .b))))),(8,.val (.int .i64) .b),(9,.val (.int .i64) .b),(10,.val (.int .i64) .b),(11,.val (.int .i64) .b),(12,.val (.int .i64) .b),(13,.var zh (.pr .b (.pr .b (.pr (.row (.pr .b (.pr .b .b))) .b)))),(14,.fn 188 [⟨13,[],0,0⟩]),(15,.var zl .b),(82,.val (.int .i64) .b),(83,.val (.int .i64) .b),(84,.val .bool .b),(87,.val zn .b),(88,.val (.int .i64) .b),(89,.bad zl),(90,.val zl .b),(91,.fn 188 [⟨13,[],0,0⟩]),(92,.val zf .b),(93,.val (.int .i64) .b),(94,.addr ⟨15,[.l],0,0⟩),(95,.val (.int .i64) .b),(96,.val zf .b)]⟩]
def zg4 (t0:PV zf)(t1:PV zn)(t2:PV (.int .i64))(t7:PV zk)(t8:PV (.int .i64))(t9:PV (.int .i64))(t10:PV (.int .i64))(t11:PV (.int .i64))(t12:PV (.int .i64))(t13:PV zh)(t15:PV zl)(t82:PV (.int .i64))(t83:PV (.int .i64))(t84:PV .bool)(t87:PV zn)(t88:PV (.int .i64))(t89:PV zl)(t90:PV zl)(t92:PV zf)(t93:PV (.int .i64))(t95:PV (.int .i64))(t96:PV zf)(t137:PV (.int .i64))(t144:PV zf)(t145:PV (.int .i64))(t146:PV (.int .i64)):Option ((PV zf×PV zn×PV (.int .i64)×PV zk×PV (.int .i64)×PV (.int .i64)×PV (.int .i64)×PV (.int .i64)×PV (.int .i64)×PV zh×PV zl×PV (.int .i64)×PV (.int .i64)×PV .bool×PV zn×PV (.int .i64)×PV zl×PV zl×PV zf×PV (.int .i64)×PV (.int .i64)×PV zf×PV (.int .i64)×PV zf×PV (.int .i64)×PV (.int .i64)×Unit)⊕((PV zf×PV zn×PV (.int .i64)×PV zk×PV (.int .i64)×PV (.int .i64)×PV (.int .i64)×PV (.int .i64)×PV (.int .i64)×PV zh×PV zl×PV (.int .i64)×PV (.int .i64)×PV .bool×PV zn×PV (.int .i64)×PV zl×PV zl×PV zf×PV (.int .i64)×PV (.int .i64)×PV zf×Unit))):=
 bif (decide (t146<t145)) then
  bif inB t146 t144.length then
   bif qm (t13.2.2.1.length+[(t137,((t144.getD t146.toNat []),()))].length) then
    some (.inl (t0,t1,t2,t7,t8,t9,t10,t11,t12,(t13.1,(t13.2.1,((t13.2.2.1++[(t137,((t144.getD t146.toNat []),()))]),t13.2.2.2))),t15,t82,t83,t84,t87,t88,t89,t90,t92,t93,t95,t96,t137,t144,t145,(IntKind.wrap .i64 (t146+1)),()))
   else
    none
  else
   none
 else
  some (.inr (t0,t1,t2,t7,t8,t9,t10,t11,t12,t13,t15,t82,t83,t84,t87,t88,t89,t90,t92,t93,t95,t96,()))
def zx8:PV zf×PV zn×PV (.int .i64)×PV zk×PV (.int .i64)×PV (.int .i64)×PV (.int .i64)×PV (.int .i64)×PV (.int .i64)×PV zh×PV zl×PV (.int .i64)×PV (.int .i64)×PV .bool×PV zn×PV (.int .i64)×PV zl×PV zl×PV zf×PV (.int .i64)×PV (.int .i64)×PV zf×PV (.int .i64)×PV zf×PV (.int .i64)×PV (.int .i64)×Unit->Option ((PV zf×PV zn×PV (.int .i64)×PV zk×PV (.int .i64)×PV (.int .i64)×PV (.int .i64)×PV (.int .i64)×PV (.int .i64)×PV zh×PV zl×PV (.int .i64)×PV (.int .i64)×PV .bool×PV zn×PV (.int .i64)×PV zl×PV zl×PV zf×PV (.int .i64)×PV (.int .i64)×PV zf×Unit)):=fix λd=>zg4 d.1 d.2.1 d.2.2.1 d.2.2.2.1 d.2.2.2.2.1 d.2.2.2.2.2.1 d.2.2.2.2.2.2.1 d.2.2.2.2.2.2.2.1 d.2.2.2.2.2.2.2.2.1 d.2.2.2.2.2.2.2.2.2.1 d.2.2.2.2.2.2.2.2.2.2.1 d.2.2.2.2.2.2.2.2.2.2.2.1 d.2.2.2.2.2.2.2.2.2.2.2.2.1 d.2.2.2.2.2.2.2.2.2.2.2.2.2.1 d.2.2.2.2.2.2.2.2.2.2.2.2.2.2.1 d.2.2.2.2.2.2.2.2.2.2.2.2.2.2.2.1 d.2.2.2.2.2.2.2.2.2.2.2.2.2.2.2.2.1 d.2.2.2.2.2.2.2.2.2.2.2.2.2.2.2.2.2.1 d.2.2.2.2.2.2.2.2.2.2.2.2.2.2.2.2.2.2.1 d.2.2.2.2.2.2.2.2.2.2.2.2.2.2.2.2.2.2.2.1 d.2.2.2.2.2.2.2.2.2.2.2.2.2.2.2.2.2.2.2.2.1 d.2.2.2.2.2.2.2.2.2.2.2.2.2.2.2.2.2.2.2.2.2.1 d.2.2.2.2.2.2.2.2.2.2.2.2.2.2.2.2.2.2.2.2.2.2.1 d.2.2.2.2.2.2.2.2.2.2.2.2.2.2.2.2.2.2.2.2.2.2.2.1 d.2.2.2.2.2.2.2.2.2.2.2.2.2.2.2.2.2.2.2.2.2.2.2.2.1 d.2.2.2.2.2.2.2.2.2.2.2.2.2.2.2.2.2.2.2.2.2.2.2.2.2.1
def zx3:Lp:=⟨⟨[],[0,2,7,8,9],[]⟩,qgw,qg9,λd=>zg4 d.1 d.2.1 d.2.2.1 d.2.2.2.1 d.2.2.2.2.1 d.2.2.2.2.2.1 d.2.2.2.2.2.2.1 d.2.2.2.2.2.2.2.1 d.2.2.2.2.2.2.2.2.1 d.2.2.2.2.2.2.2.2.2.1 d.2.2.2.2.2.2.2.2.2.2.1 d.2.2.2.2.2.2.2.2.2.2.2.1 d.2.2.2.2.2.2.2.2.2.2.2.2.1 d.2.2.2.2.2.2.2.2.2.2.2.2.2.1 d.2.2.2.2.2.2.2.2.2.2.2.2.2.2.1 d.2.2.2.2.2.2.2.2.2.2.2.2.2.2.2.1 d.2.2.2.2.2.2.2.2.2.2.2.2.2.2.2.2.1 d.2.2.2.2.2.2.2.2.2.2.2.2.2.2.2.2.2.1 d.2.2.2.2.2.2.2.2.2.2.2.2.2.2.2.2.2.2.1 d.2.2.2.2.2.2.2.2.2.2.2.2.2.2.2.2.2.2.2.1 d.2.2.2.2.2.2.2.2.2.2.2.2.2.2.2.2.2.2.2.2.1 d.2.2.2.2.2.2.2.2.2.2.2.2.2.2.2.2.2.2.2.2.2.1 d.2.2.2.2.2.2.2.2.2.2.2.2.2.2.2.2.2.2.2.2.2.2.1 d.2.2.2.2.2.2.2.2.2.2.2.2.2.2.2.2.2.2.2.2.2.2.2.1 d.2.2.2.2.2.2.2.2.2.2.2.2.2.2.2.2.2.2.2.2.2.2.2.2.1 d.2.2.2.2.2.2.2.2.2.2.2.2.2.2.2.2.2.2.2.2.2.2.2.2.2.1⟩
def qhx:Plan:=⟨[],[(1,zx3)],0,137⟩
def qgo:List Sh:=mkSh 159 [(0,.val zf .b),(1,.val zn .b),(2,.val (.int .i64) .b),(7,.val zk (.row (.pr .b (.pr .b (.pr (.row (.pr .b (.pr .b .b))) .b))))),(8,.val (.int .i64) .b),(9,.val (.int .i64) .b),(10,.val (.int .i64) .b),(11,.val (.int .i64) .b),(12,.val (.int .i64) .b),(13,.var zh (.pr .b (.pr .b (.pr (.row (.pr .b (.pr .b .b))) .b)))),(14,.fn 188 [⟨13,[],0,0⟩]),(15,.var zl .b),(82,.val (.int .i64) .b),(83,.val (.int .i64) .b),(84,.val .bool .b),(87,.val zn .b),(88,.val (.int .i64) .b),(89,.bad zl),(90,.val zl .b),(91,.fn 188 [⟨13,[],0,0⟩]),(92,.val zf .b),(93,.val (.int .i64) .b),(94,.addr ⟨15,[.l],0,0⟩),(95,.val (.int .i64) .b),(96,.val zf .b),(97,.undef),(98,.fn 188 [⟨13,[],0,0⟩]),(99,.val zf .b),(100,.addr ⟨15,[.l],0,0⟩),(101,.val (.int .i64) .b),(102,.addr ⟨15,[.l],0,0⟩),(103,.val (.int .i64) .b),(104,.addr ⟨15,[.r,.l],0,0⟩),(105,.val (.int .i64) .b),(106,.val (.int .i64) .b),(107,.val zf .b),(137,.val (.int .i64) .b),(139,.addr ⟨13,[],0,0⟩),(144,.val zf .b),(145,.val (.int .i64) .b),(146,.val (.int .i64) .b)]
def qgx:List Out:=[⟨.exit 0,⟨[],[],[]⟩,mkSh 159 [(0,.val zf .b),(1,.val zn .b),(2,.val (.int .i64) .b),(7,.val zk (.row (.pr .b (.pr .b (.pr (.row (.pr .b (.pr .b .b))) .b))))),(8,.val (.int .i64) .b),(9,.val (.int .i64) .b),(10,.val (.int .i64) .b),(11,.val (.int .i64) .b),(12,.val (.int .i64) .b),(13,.var zh (.pr .b (.pr .b (.pr (.row (.pr .b (.pr .b .b))) .b)))),(14,.fn 188 [⟨13,[],0,0⟩]),(15,.var zl .b),(82,.val (.int .i64) .b),(83,.val (.int .i64) .b),(84,.val .bool .b),(87,.val zn .b),(88,.val (.int .i64) .b),(89,.bad zl),(90,.val zl .b),(91,.fn 188 [⟨13,[],0,0⟩]),(92,.val zf .b),(93,.val (.int .i64) .b),(94,.addr ⟨15,[.l],0,0⟩),(95,.val (.int .i64) .b),(96,.val zf .b),(97,.undef),(98,.fn 188 [⟨13,[],0,0⟩]),(99,.val zf .b),(100,.addr ⟨15,[.l],0,0⟩),(101,.val (.int .i64) .b),(102,.addr ⟨15,[.l],0,0⟩),(103,.val (.int .i64) .b),(104,.addr ⟨15,[.r,.l],0,0⟩),(105,.val (.int .i64) .b),(106,.val (.int .i64) .b),(107,.val zf .b)]⟩]
def zg1 (t0:PV zf)(t1:PV zn)(t2:PV (.int .i64))(t7:PV zk)(t8:PV (.int .i64))(t9:PV (.int .i64))(t10:PV (.int .i64))(t11:PV (.int .i64))(t12:PV (.int .i64))(t13:PV zh)(t15:PV zl)(t82:PV (.int .i64))(t83:PV (.int .i64))(t84:PV .bool)(t87:PV zn)(t88:PV (.int .i64))(t89:PV zl)(t90:PV zl)(t92:PV zf)(t93:PV (.int .i64))(t95:PV (.int .i64))(t96:PV zf)(t99:PV zf)(t101:PV (.int .i64))(t103:PV (.int .i64))(t105:PV (.int .i64))(t106:PV (.int .i64))(t107:PV zf)(t137:PV (.int .i64))(t144:PV zf)(t145:PV (.int .i64))(t146:PV (.int .i64)):Option ((PV zf×PV zn×PV (.int .i64)×PV zk×PV (.int .i64)×PV (.int .i64)×PV (.int .i64)×PV (.int .i64)×PV (.int .i64)×PV zh×PV zl×PV (.int .i64)×PV (.int .i64)×PV .bool×PV zn×PV (.int .i64)×PV zl×PV zl×PV zf×PV (.int .i64)×PV (.int .i64)×PV zf×PV zf×PV (.int .i64)×PV (.int .i64)×PV (.int .i64)×PV (.int .i64)×PV zf×PV (.int .i64)×PV zf×PV (.int .i64)×PV (.int .i64)×Unit)⊕((PV zf×PV zn×PV (.int .i64)×PV zk×PV (.int .i64)×PV (.int .i64)×PV (.int .i64)×PV (.int .i64)×PV (.int .i64)×PV zh×PV zl×PV (.int .i64)×PV (.int .i64)×PV .bool×PV zn×PV (.int .i64)×PV zl×PV zl×PV zf×PV (.int .i64)×PV (.int .i64)×PV zf×PV zf×PV (.int .i64)×PV (.int .i64)×PV (.int .i64)×PV (.int .i64)×PV zf×Unit))):=
 bif (decide (t146<t145)) then
  bif inB t146 t144.length then
   bif qm (t13.2.2.1.length+[(t137,((t144.getD t146.toNat []),()))].length) then
    some (.inl (t0,t1,t2,t7,t8,t9,t10,t11,t12,(t13.1,(t13.2.1,((t13.2.2.1++[(t137,((t144.getD t146.toNat []),()))]),t13.2.2.2))),t15,t82,t83,t84,t87,t88,t89,t90,t92,t93,t95,t96,t99,t101,t103,t105,t106,t107,t137,t144,t145,(IntKind.wrap .i64 (t146+1)),()))
   else
    none
  else
   none
 else
  some (.inr (t0,t1,t2,t7,t8,t9,t10,t11,t12,t13,t15,t82,t83,t84,t87,t88,t89,t90,t92,t93,t95,t96,t99,t101,t103,t105,t106,t107,()))
def zx4:PV zf×PV zn×PV (.int .i64)×PV zk×PV (.int .i64)×PV (.int .i64)×PV (.int .i64)×PV (.int .i64)×PV (.int .i64)×PV zh×PV zl×PV (.int .i64)×PV (.int .i64)×PV .bool×PV zn×PV (.int .i64)×PV zl×PV zl×PV zf×PV (.int .i64)×PV (.int .i64)×PV zf×PV zf×PV (.int .i64)×PV (.int .i64)×PV (.int .i64)×PV (.int .i64)×PV zf×PV (.int .i64)×PV zf×PV (.int .i64)×PV (.int .i64)×Unit->Option ((PV zf×PV zn×PV (.int .i64)×PV zk×PV (.int .i64)×PV (.int .i64)×PV (.int .i64)×PV (.int .i64)×PV (.int .i64)×PV zh×PV zl×PV (.int .i64)×PV (.int .i64)×PV .bool×PV zn×PV (.int .i64)×PV zl×PV zl×PV zf×PV (.int .i64)×PV (.int .i64)×PV zf×PV zf×PV (.int .i64)×PV (.int .i64)×PV (.int .i64)×PV (.int .i64)×PV zf×Unit)):=fix λd=>zg1 d.1 d.2.1 d.2.2.1 d.2.2.2.1 d.2.2.2.2.1 d.2.2.2.2.2.1 d.2.2.2.2.2.2.1 d.2.2.2.2.2.2.2.1 d.2.2.2.2.2.2.2.2.1 d.2.2.2.2.2.2.2.2.2.1 d.2.2.2.2.2.2.2.2.2.2.1 d.2.2.2.2.2.2.2.2.2.2.2.1 d.2.2.2.2.2.2.2.2.2.2.2.2.1 d.2.2.2.2.2.2.2.2.2.2.2.2.2.1 d.2.2.2.2.2.2.2.2.2.2.2.2.2.2.1 d.2.2.2.2.2.2.2.2.2.2.2.2.2.2.2.1 d.2.2.2.2.2.2.2.2.2.2.2.2.2.2.2.2.1 d.2.2.2.2.2.2.2.2.2.2.2.2.2.2.2.2.2.1 d.2.2.2.2.2.2.2.2.2.2.2.2.2.2.2.2.2.2.1 d.2.2.2.2.2.2.2.2.2.2.2.2.2.2.2.2.2.2.2.1 d.2.2.2.2.2.2.2.2.2.2.2.2.2.2.2.2.2.2.2.2.1 d.2.2.2.2.2.2.2.2.2.2.2.2.2.2.2.2.2.2.2.2.2.1 d.2.2.2.2.2.2.2.2.2.2.2.2.2.2.2.2.2.2.2.2.2.2.1 d.2.2.2.2.2.2.2.2.2.2.2.2.2.2.2.2.2.2.2.2.2.2.2.1 d.2.2.2.2.2.2.2.2.2.2.2.2.2.2.2.2.2.2.2.2.2.2.2.2.1 d.2.2.2.2.2.2.2.2.2.2.2.2.2.2.2.2.2.2.2.2.2.2.2.2.2.1 d.2.2.2.2.2.2.2.2.2.2.2.2.2.2.2.2.2.2.2.2.2.2.2.2.2.2.1 d.2.2.2.2.2.2.2.2.2.2.2.2.2.2.2.2.2.2.2.2.2.2.2.2.2.2.2.1 d.2.2.2.2.2.2.2.2.2.2.2.2.2.2.2.2.2.2.2.2.2.2.2.2.2.2.2.2.1 d.2.2.2.2.2.2.2.2.2.2.2.2.2.2.2.2.2.2.2.2.2.2.2.2.2.2.2.2.2.1 d.2.2.2.2.2.2.2.2.2.2.2.2.2.2.2.2.2.2.2.2.2.2.2.2.2.2.2.2.2.2.1 d.2.2.2.2.2.2.2.2.2.2.2.2.2.2.2.2.2.2.2.2.2.2.2.2.2.2.2.2.2.2.2.1
def zxy:Lp:=⟨⟨[],[0,2,7,8,9],[]⟩,qgo,qgx,λd=>zg1 d.1 d.2.1 d.2.2.1 d.2.2.2.1 d.2.2.2.2.1 d.2.2.2.2.2.1 d.2.2.2.2.2.2.1 d.2.2.2.2.2.2.2.1 d.2.2.2.2.2.2.2.2.1 d.2.2.2.2.2.2.2.2.2.1 d.2.2.2.2.2.2.2.2.2.2.1 d.2.2.2.2.2.2.2.2.2.2.2.1 d.2.2.2.2.2.2.2.2.2.2.2.2.1 d.2.2.2.2.2.2.2.2.2.2.2.2.2.1 d.2.2.2.2.2.2.2.2.2.2.2.2.2.2.1 d.2.2.2.2.2.2.2.2.2.2.2.2.2.2.2.1 d.2.2.2.2.2.2.2.2.2.2.2.2.2.2.2.2.1 d.2.2.2.2.2.2.2.2.2.2.2.2.2.2.2.2.2.1 d.2.2.2.2.2.2.2.2.2.2.2.2.2.2.2.2.2.2.1 d.2.2.2.2.2.2.2.2.2.2.2.2.2.2.2.2.2.2.2.1 d.2.2.2.2.2.2.2.2.2.2.2.2.2.2.2.2.2.2.2.2.1 d.2.2.2.2.2.2.2.2.2.2.2.2.2.2.2.2.2.2.2.2.2.1 d.2.2.2.2.2.2.2.2.2.2.2.2.2.2.2.2.2.2.2.2.2.2.1 d.2.2.2.2.2.2.2.2.2.2.2.2.2.2.2.2.2.2.2.2.2.2.2.1 d.2.2.2.2.2.2.2.2.2.2.2.2.2.2.2.2.2.2.2.2.2.2.2.2.1 d.2.2.2.2.2.2.2.2.2.2.2.2.2.2.2.2.2.2.2.2.2.2.2.2.2.1 d.2.2.2.2.2.2.2.2.2.2.2.2.2.2.2.2.2.2.2.2.2.2.2.2.2.2.1 d.2.2.2.2.2.2.2.2.2.2.2.2.2.2.2.2.2.2.2.2.2.2.2.2.2.2.2.1 d.2.2.2.2.2.2.2.2.2.2.2.2.2.2.2.2.2.2.2.2.2.2.2.2.2.2.2.2.1 d.2.2.2.2.2.2.2.2.2.2.2.2.2.2.2.2.2.2.2.2.2.2.2.2.2.2.2.2.2.1 d.2.2.2.2.2.2.2.2.2.2.2.2.2.2.2.2.2.2.2.2.2.2.2.2.2.2.2.2.2.2.1 d.2.2.2.2.2.2.2.2.2.2.2.2.2.2.2.2.2.2.2.2.2.2.2.2.2.2.2.2.2.2.2.1⟩
def qha:Plan:=⟨[],[(1,zxy)],0,137⟩
def qgp:List Sh:=mkSh 159 [(0,.val zf .b),(1,.val zn .b),(2,.val (.int .i64) .b),(7,.val zk (.row (.pr .b (.pr .b (.pr (.row (.pr .b (.pr .b .b))) .b))))),(8,.val (.int .i64) .b),(9,.val (.int .i64) .b),(10,.val (.int .i64) .b),(11,.val (.int .i64) .b),(12,.val (.int .i64) .b),(13,.var zh (.pr .b (.pr .b (.pr (.row (.pr .b (.pr .b .b))) .b)))),(14,.fn 188 [⟨13,[],0,0⟩]),(15,.var zl .b),(82,.val (.int .i64) .b),(83,.val (.int .i64) .b),(84,.val .bool .b),(87,.val zn .b),(88,.val (.int .i64) .b),(89,.bad zl),(90,.val zl .b),(91,.fn 188 [⟨13,[],0,0⟩]),(92,.val zf .b),(93,.val (.int .i64) .b),(94,.addr ⟨15,[.l],0,0⟩),(95,.val (.int .i64) .b),(96,.val zf .b),(97,.undef),(98,.fn 188 [⟨13,[],0,0⟩]),(99,.val zf .b),(100,.addr ⟨15,[.l],0,0⟩),(101,.val (.int .i64) .b),(102,.addr ⟨15,[.l],0,0⟩),(103,.val (.int .i64) .b),(104,.addr ⟨15,[.r,.l],0,0⟩),(105,.val (.int .i64) .b),(106,.val (.int .i64) .b),(107,.val zf .b),(108,.undef),(109,.fn 188 [⟨13,[],0,0⟩]),(110,.addr ⟨15,[.r,.r,.l],0,0⟩),(111,.val zf .b),(137,.val (.int .i64) .b),(139,.addr ⟨13,[],0,0⟩),(144,.val zf .b),(145,.val (.int .i64) .b),(146,.val (.int .i64) .b)]
def qgy:List Out:=[⟨.exit 0,⟨[],[],[]⟩,mkSh 159 [(0,.val zf .b),(1,.val zn .b),(2,.val (.int .i64) .b),(7,.val zk (.row (.pr .b (.pr .b (.pr (.row (.pr .b (.pr .b .b))) .b))))),(8,.val (.int .i64) .b),(9,.val (.int .i64) .b),(10,.val (.int .i64) .b),(11,.val (.int .i64) .b),(12,.val (.int .i64) .b),(13,.var zh (.pr .b (.pr .b (.pr (.row (.pr .b (.pr .b .b))) .b)))),(14,.fn 188 [⟨13,[],0,0⟩]),(15,.var zl .b),(82,.val (.int .i64) .b),(83,.val (.int .i64) .b),(84,.val .bool .b),(87,.val zn .b),(88,.val (.int .i64) .b),(89,.bad zl),(90,.val zl .b),(91,.fn 188 [⟨13,[],0,0⟩]),(92,.val zf .b),(93,.val (.int .i64) .b),(94,.addr ⟨15,[.l],0,0⟩),(95,.val (.int .i64) .b),(96,.val zf .b),(97,.undef),(98,.fn 188 [⟨13,[],0,0⟩]),(99,.val zf .b),(100,.addr ⟨15,[.l],0,0⟩),(101,.val (.int .i64) .b),(102,.addr ⟨15,[.l],0,0⟩),(103,.val (.int .i64) .b),(104,.addr ⟨15,[.r,.l],0,0⟩),(105,.val (.int .i64) .b),(106,.val (.int .i64) .b),(107,.val zf .b),(108,.undef),(109,.fn 188 [⟨13,[],0,0⟩]),(110,.addr ⟨15,[.r,.r,.l],0,0⟩),(111,.val zf .b)]⟩]
def zg2 (t0:PV zf)(t1:PV zn)(t2:PV (.int .i64))(t7:PV zk)(t8:PV (.int .i64))(t9:PV (.int .i64))(t10:PV (.int .i64))(t11:PV (.int .i64))(t12:PV (.int .i64))(t13:PV zh)(t15:PV zl)(t82:PV (.int .i64))(t83:PV (.int .i64))(t84:PV .bool)(t87:PV zn)(t88:PV (.int .i64))(t89:PV zl)(t90:PV zl)(t92:PV zf)(t93:PV (.int .i64))(t95:PV (.int .i64))(t96:PV zf)(t99:PV zf)(t101:PV (.int .i64))(t103:PV (.int .i64))(t105:PV (.int .i64))(t106:PV (.int .i64))(t107:PV zf)(t111:PV zf)(t137:PV (.int .i64))(t144:PV zf)(t145:PV (.int .i64))(t146:PV (.int .i64)):Option ((PV zf×PV zn×PV (.int .i64)×PV zk×PV (.int .i64)×PV (.int .i64)×PV (.int .i64)×PV (.int .i64)×PV (.int .i64)×PV zh×PV zl×PV (.int .i64)×PV (.int .i64)×PV .bool×PV zn×PV (.int .i64)×PV zl×PV zl×PV zf×PV (.int .i64)×PV (.int .i64)×PV zf×PV zf×PV (.int .i64)×PV (.int .i64)×PV (.int .i64)×PV (.int .i64)×PV zf×PV zf×PV (.int .i64)×PV zf×PV (.int .i64)×PV (.int .i64)×Unit)⊕((PV zf×PV zn×PV (.int .i64)×PV zk×PV (.int .i64)×PV (.int .i64)×PV (.int .i64)×PV (.int .i64)×PV (.int .i64)×PV zh×PV zl×PV (.int .i64)×PV (.int .i64)×PV .bool×PV zn×PV (.int .i64)×PV zl×PV zl×PV zf×PV (.int .i64)×PV (.int .i64)×PV zf×PV zf×PV (.int .i64)×PV (.int .i64)×PV (.int .i64)×PV (.int .i64)×PV zf×PV zf×Unit))):=
 bif (decide (t146<t145)) then
  bif inB t146 t144.length then
   bif qm (t13.2.2.1.length+[(t137,((t144.getD t146.toNat []),()))].length) then
    some (.inl (t0,t1,t2,t7,t8,t9,t10,t11,t12,(t13.1,(t13.2.1,((t13.2.2.1++[(t137,((t144.getD t146.toNat []),()))]),t13.2.2.2))),t15,t82,t83,t84,t87,t88,t89,t90,t92,t93,t95,t96,t99,t101,t103,t105,t106,t107,t111,t137,t144,t145,(IntKind.wrap .i64 (t146+1)),()))
   else
    none
  else
   none
 else
  some (.inr (t0,t1,t2,t7,t8,t9,t10,t11,t12,t13,t15,t82,t83,t84,t87,t88,t89,t90,t92,t93,t95,t96,t99,t101,t103,t105,t106,t107,t111,()))
def zx5:PV zf×PV zn×PV (.int .i64)×PV zk×PV (.int .i64)×PV (.int .i64)×PV (.int .i64)×PV (.int .i64)×PV (.int .i64)×PV zh×PV zl×PV (.int .i64)×PV (.int .i64)×PV .bool×PV zn×PV (.int .i64)×PV zl×PV zl×PV zf×PV (.int .i64)×PV (.int .i64)×PV zf×PV zf×PV (.int .i64)×PV (.int .i64)×PV (.int .i64)×PV (.int .i64)×PV zf×PV zf×PV (.int .i64)×PV zf×PV (.int .i64)×PV (.int .i64)×Unit->Option ((PV zf×PV zn×PV (.int .i64)×PV zk×PV (.int .i64)×PV (.int .i64)×PV (.int .i64)×PV (.int .i64)×PV (.int .i64)×PV zh×PV zl×PV (.int .i64)×PV (.int .i64)×PV .bool×PV zn×PV (.int .i64)×PV zl×PV zl×PV zf×PV (.int .i64)×PV (.int .i64)×PV zf×PV zf×PV (.int .i64)×PV (.int .i64)×PV (.int .i64)×PV (.int .i64)×PV zf×PV zf×Unit)):=fix λd=>zg2 d.1 d.2.1 d.2.2.1 d.2.2.2.1 d.2.2.2.2.1 d.2.2.2.2.2.1 d.2.2.2.2.2.2.1 d.2.2.2.2.2.2.2.1 d.2.2.2.2.2.2.2.2.1 d.2.2.2.2.2.2.2.2.2.1 d.2.2.2.2.2.2.2.2.2.2.1 d.2.2.2.2.2.2.2.2.2.2.2.1 d.2.2.2.2.2.2.2.2.2.2.2.2.1 d.2.2.2.2.2.2.2.2.2.2.2.2.2.1 d.2.2.2.2.2.2.2.2.2.2.2.2.2.2.1 d.2.2.2.2.2.2.2.2.2.2.2.2.2.2.2.1 d.2.2.2.2.2.2.2.2.2.2.2.2.2.2.2.2.1 d.2.2.2.2.2.2.2.2.2.2.2.2.2.2.2.2.2.1 d.2.2.2.2.2.2.2.2.2.2.2.2.2.2.2.2.2.2.1 d.2.2.2.2.2.2.2.2.2.2.2.2.2.2.2.2.2.2.2.1 d.2.2.2.2.2.2.2.2.2.2.2.2.2.2.2.2.2.2.2.2.1 d.2.2.2.2.2.2.2.2.2.2.2.2.2.2.2.2.2.2.2.2.2.1 d.2.2.2.2.2.2.2.2.2.2.2.2.2.2.2.2.2.2.2.2.2.2.1 d.2.2.2.2.2.2.2.2.2.2.2.2.2.2.2.2.2.2.2.2.2.2.2.1 d.2.2.2.2.2.2.2.2.2.2.2.2.2.2.2.2.2.2.2.2.2.2.2.2.1 d.2.2.2.2.2.2.2.2.2.2.2.2.2.2.2.2.2.2.2.2.2.2.2.2.2.1 d.2.2.2.2.2.2.2.2.2.2.2.2.2.2.2.2.2.2.2.2.2.2.2.2.2.2.1 d.2.2.2.2.2.2.2.2.2.2.2.2.2.2.2.2.2.2.2.2.2.2.2.2.2.2.2.1 d.2.2.2.2.2.2.2.2.2.2.2.2.2.2.2.2.2.2.2.2.2.2.2.2.2.2.2.2.1 d.2.2.2.2.2.2.2.2.2.2.2.2.2.2.2.2.2.2.2.2.2.2.2.2.2.2.2.2.2.1 d.2.2.2.2.2.2.2.2.2.2.2.2.2.2.2.2.2.2.2.2.2.2.2.2.2.2.2.2.2.2.1 d.2.2.2.2.2.2.2.2.2.2.2.2.2.2.2.2.2.2.2.2.2.2.2.2.2.2.2.2.2.2.2.1 d.2.2.2.2.2.2.2.2.2.2.2.2.2.2.2.2.2.2.2.2.2.2.2.2.2.2.2.2.2.2.2.2.1
def zxz:Lp:=⟨⟨[],[0,2,7,8,9],[]⟩,qgp,qgy,λd=>zg2 d.1 d.2.1 d.2.2.1 d.2.2.2.1 d.2.2.2.2.1 d.2.2.2.2.2.1 d.2.2.2.2.2.2.1 d.2.2.2.2.2.2.2.1 d.2.2.2.2.2.2.2.2.1 d.2.2.2.2.2.2.2.2.2.1 d.2.2.2.2.2.2.2.2.2.2.1 d.2.2.2.2.2.2.2.2.2.2.2.1 d.2.2.2.2.2.2.2.2.2.2.2.2.1 d.2.2.2.2.2.2.2.2.2.2.2.2.2.1 d.2.2.2.2.2.2.2.2.2.2.2.2.2.2.1 d.2.2.2.2.2.2.2.2.2.2.2.2.2.2.2.1 d.2.2.2.2.2.2.2.2.2.2.2.2.2.2.2.2.1 d.2.2.2.2.2.2.2.2.2.2.2.2.2.2.2.2.2.1 d.2.2.2.2.2.2.2.2.2.2.2.2.2.2.2.2.2.2.1 d.2.2.2.2.2.2.2.2.2.2.2.2.2.2.2.2.2.2.2.1 d.2.2.2.2.2.2.2.2.2.2.2.2.2.2.2.2.2.2.2.2.1 d.2.2.2.2.2.2.2.2.2.2.2.2.2.2.2.2.2.2.2.2.2.1 d.2.2.2.2.2.2.2.2.2.2.2.2.2.2.2.2.2.2.2.2.2.2.1 d.2.2.2.2.2.2.2.2.2.2.2.2.2.2.2.2.2.2.2.2.2.2.2.1 d.2.2.2.2.2.2.2.2.2.2.2.2.2.2.2.2.2.2.2.2.2.2.2.2.1 d.2.2.2.2.2.2.2.2.2.2.2.2.2.2.2.2.2.2.2.2.2.2.2.2.2.1 d.2.2.2.2.2.2.2.2.2.2.2.2.2.2.2.2.2.2.2.2.2.2.2.2.2.2.1 d.2.2.2.2.2.2.2.2.2.2.2.2.2.2.2.2.2.2.2.2.2.2.2.2.2.2.2.1 d.2.2.2.2.2.2.2.2.2.2.2.2.2.2.2.2.2.2.2.2.2.2.2.2.2.2.2.2.1 d.2.2.2.2.2.2.2.2.2.2.2.2.2.2.2.2.2.2.2.2.2.2.2.2.2.2.2.2.2.1 d.2.2.2.2.2.2.2.2.2.2.2.2.2.2.2.2.2.2.2.2.2.2.2.2.2.2.2.2.2.2.1 d.2.2.2.2.2.2.2.2.2.2.2.2.2.2.2.2.2.2.2.2.2.2.2.2.2.2.2.2.2.2.2.1 d.2.2.2.2.2.2.2.2.2.2.2.2.2.2.2.2.2.2.2.2.2.2.2.2.2.2.2.2.2.2.2.2.1⟩
def qhb:Plan:=⟨[],[(1,zxz)],0,137⟩
def qgq:List Sh:=mkSh 159 [(0,.val zf .b),(1,.val zn .b),(2,.val (.int .i64) .b),(7,.val zk (.row (.pr .b (.pr .b (.pr (.row (.pr .b (.pr .b .b))) .b))))),(8,.val (.int .i64) .b),(9,.val (.int .i64) .b),(11,.val (.int .i64) .b),(12,.val (.int .i64) .b),(13,.var zh (.pr .b (.pr .b (.pr (.row (.pr .b (.pr .b .b))) .b)))),(14,.fn 188 [⟨13,[],0,0⟩]),(126,.fn 188 [⟨13,[],0,0⟩]),(127,.val zf .b),(128,.val (.int .i64) .b),(129,.val (.int .i64) .b),(130,.val zf .b),(137,.val (.int .i64) .b),(139,.addr ⟨13,[],0,0⟩),(144,.val zf .b),(145,.val (.int .i64) .b),(146,.val (.int .i64) .b)]
def qgz:List Out:=[⟨.exit 0,⟨[],[],[]⟩,mkSh 159 [(0,.val zf .b),(1,.val zn .b),(2,.val (.int .i64) .b),(7,.val zk (.row (.pr .b (.pr .b (.pr (.row (.pr .b (.pr .b .b))) .b))))),(8,.val (.int .i64) .b),(9,.val (.int .i64) .b),(11,.val (.int .i64) .b),(12,.val (.int .i64) .b),(13,.var zh (.pr .b (.pr .b (.pr (.row (.pr .b (.pr .b .b))) .b)))),(14,.fn 188 [⟨13,[],0,0⟩]),(126,.fn 188 [⟨13,[],0,0⟩]),(127,.val zf .b),(128,.val (.int .i64) .b),(129,.val (.int .i64) .b),(130,.val zf .b)]⟩]
def zg3 (t0:PV zf)(t1:PV zn)(t2:PV (.int .i64))(t7:PV zk)(t8:PV (.int .i64))(t9:PV (.int .i64))(t11:PV (.int .i64))(t12:PV (.int .i64))(t13:PV zh)(t127:PV zf)(t128:PV (.int .i64))(t129:PV (.int .i64))(t130:PV zf)(t137:PV (.int .i64))(t144:PV zf)(t145:PV (.int .i64))(t146:PV (.int .i64)):Option ((PV zf×PV zn×PV (.int .i64)×PV zk×PV (.int .i64)×PV (.int .i64)×PV (.int .i64)×PV (.int .i64)×PV zh×PV zf×PV (.int .i64)×PV (.int .i64)×PV zf×PV (.int .i64)×PV zf×PV (.int .i64)×PV (.int .i64)×Unit)⊕((PV zf×PV zn×PV (.int .i64)×PV zk×PV (.int .i64)×PV (.int .i64)×PV (.int .i64)×PV (.int .i64)×PV zh×PV zf×PV (.int .i64)×PV (.int .i64)×PV zf×Unit))):=
 bif (decide (t146<t145)) then
  bif inB t146 t144.length then
   bif qm (t13.2.2.1.length+[(t137,((t144.getD t146.toNat []),()))].length) then
    some (.inl (t0,t1,t2,t7,t8,t9,t11,t12,(t13.1,(t13.2.1,((t13.2.2.1++[(t137,((t144.getD t146.toNat []),()))]),t13.2.2.2))),t127,t128,t129,t130,t137,t144,t145,(IntKind.wrap .i64 (t146+1)),()))
   else
    none
  else
   none
 else
  some (.inr (t0,t1,t2,t7,t8,t9,t11,t12,t13,t127,t128,t129,t130,()))
def zx6:PV zf×PV zn×PV (.int .i64)×PV zk×PV (.int .i64)×PV (.int .i64)×PV (.int .i64)×PV (.int .i64)×PV zh×PV zf×PV (.int .i64)×PV (.int .i64)×PV zf×PV (.int .i64)×PV zf×PV (.int .i64)×PV (.int .i64)×Unit->Option ((PV zf×PV zn×PV (.int .i64)×PV zk×PV (.int .i64)×PV (.int .i64)×PV (.int .i64)×PV (.int .i64)×PV zh×PV zf×PV (.int .i64)×PV (.int .i64)×PV zf×Unit)):=fix λd=>zg3 d.1 d.2.1 d.2.2.1 d.2.2.2.1 d.2.2.2.2.1 d.2.2.2.2.2.1 d.2.2.2.2.2.2.1 d.2.2.2.2.2.2.2.1 d.2.2.2.2.2.2.2.2.1 d.2.2.2.2.2.2.2.2.2.1 d.2.2.2.2.2.2.2.2.2.2.1 d.2.2.2.2.2.2.2.2.2.2.2.1 d.2.2.2.2.2.2.2.2.2.2.2.2.1 d.2.2.2.2.2.2.2.2.2.2.2.2.2.1 d.2.2.2.2.2.2.2.2.2.2.2.2.2.2.1 d.2.2.2.2.2.2.2.2.2.2.2.2.2.2.2.1 d.2.2.2.2.2.2.2.2.2.2.2.2.2.2.2.2.1
def zx0:Lp:=⟨⟨[],[0,2,7,8,9],[]⟩,qgq,qgz,λd=>zg3 d.1 d.2.1 d.2.2.1 d.2.2.2.1 d.2.2.2.2.1 d.2.2.2.2.2.1 d.2.2.2.2.2.2.1 d.2.2.2.2.2.2.2.1 d.2.2.2.2.2.2.2.2.1 d.2.2.2.2.2.2.2.2.2.1 d.2.2.2.2.2.2.2.2.2.2.1 d.2.2.2.2.2.2.2.2.2.2.2.1 d.2.2.2.2.2.2.2.2.2.2.2.2.1 d.2.2.2.2.2.2.2.2.2.2.2.2.2.1 d.2.2.2.2.2.2.2.2.2.2.2.2.2.2.1 d.2.2.2.2.2.2.2.2.2.2.2.2.2.2.2.1 d.2.2.2.2.2.2.2.2.2.2.2.2.2.2.2.2.1⟩
def qhc:Plan:=⟨[],[(1,zx0)],0,137⟩
def qne:List Sh:=mkSh 137 [(0,.val zf .b),(1,.val zn .b),(2,.val (.int .i64) .b),(7,.val zk (.row (.pr .b (.pr .b (.pr (.row (.pr .b (.pr .b .b))) .b))))),(8,.val (.int .i64) .b),(9,.val (.int .i64) .b),(10,.val (.int .i64) .b)]
def qo6:List Out:=[⟨.exit 2,⟨[],[0,1,2,7,8,9,10],[]⟩,mkSh 137 [(0,.val zf .b),(1,.val zn .b),(2,.val (.int .i64) .b),(7,.val zk (.row (.pr .b (.pr .b (.pr (.row (.pr .b (.pr .b .b))) .b))))),(8,.val (.int .i64) .b),(9,.val (.int .i64) .b),(10,.val (.int .i64) .b)]⟩]
def zb7 (t0:PV zf)(t1:PV zn)(t2:PV (.int .i64))(t7:PV zk)(t8:PV (.int .i64))(t9:PV (.int .i64))(t10:PV (.int .i64)):Option ((PV zf×PV zn×PV (.int .i64)×PV zk×PV (.int .i64)×PV (.int .i64)×PV (.int .i64)×Unit)⊕((PV zf×PV zn×PV (.int .i64)×PV zk×PV (.int .i64)×PV (.int .i64)×PV (.int .i64)×Unit))):=
 bif (decide ((IntKind.wrap .i64 (t10+1))<(t1.length:Int))) then
  bif inB (IntKind.wrap .i64 (t10+1)) t1.length then
   bif inB t10 t1.length then
    bif inB t10 t1.length then
     bif (decide ((IntKind.wrap .i64 (((t1.getD ((IntKind.wrap .i64 (t10+1)).toNat) (dflt zl)).1) -(IntKind.wrap .i64 (((t1.getD t10.toNat (dflt zl)).1)+(((t1.getD t10.toNat (dflt zl)).2).1)))))<=(IntKind.wrap .i64 (2*t2)))) then
      some (.inl (t0,t1,t2,t7,t8,t9,(IntKind.wrap .i64 (t10+1)),()))
     else
      some (.inr (t0,t1,t2,t7,t8,t9,t10,()))
    else
     none
   else
    none
  else
   none
 else
  some (.inr (t0,t1,t2,t7,t8,t9,t10,()))
def z1k:PV zf×PV zn×PV (.int .i64)×PV zk×PV (.int .i64)×PV (.int .i64)×PV (.int .i64)×Unit->Option ((PV zf×PV zn×PV (.int .i64)×PV zk×PV (.int .i64)×PV (.int .i64)×PV (.int .i64)×Unit)):=fix λd=>zb7 d.1 d.2.1 d.2.2.1 d.2.2.2.1 d.2.2.2.2.1 d.2.2.2.2.2.1 d.2.2.2.2.2.2.1
def z0l:Lp:=⟨⟨[],[0,1,2,7,8,9,10],[]⟩,qne,qo6,λd=>zb7 d.1 d.2.1 d.2.2.1 d.2.2.2.1 d.2.2.2.2.1 d.2.2.2.2.2.1 d.2.2.2.2.2.2.1⟩
def qlg:List Sh:=mkSh 137 [(0,.val zf .b),(1,.val zn .b),(2,.val (.int .i64) .b),(7,.val zk (.row (.pr .b (.pr .b (.pr (.row (.pr .b (.pr .b .b))) .b))))),(8,.val (.int .i64) .b),(9,.val (.int .i64) .b),(10,.val (.int .i64) .b),(11,.val (.int .i64) .b),(12,.val (.int .i64) .b),(13,.var zh (.pr .b (.pr .b (.pr (.row (.pr .b (.pr .b .b))) .b)))),(14,.fn 188 [⟨13,[],0,0⟩])]
def qnf:List Out:=[⟨.exit 4,⟨[],[0,1,2,7,8,9,11,12,13,14,28,29,30,31,32,33,34,35,36,37,38,39,40,41,42,43,44,45,46,47,48],[]⟩,mkSh 137 [(0,.val zf .b),(1,.val zn .b),(2,.val (.int .i64) .b),(7,.val zk (.row (.pr .b (.pr .b (.pr (.row (.pr .b (.pr .b .b))) .b))))),(8,.val (.int .i64) .b),(9,.val (.int .i64) .b),(11,.val (.int .i64) .b),(12,.val (.int .i64) .b),(13,.var zh (.pr .b (.pr .b (.pr (.row (.pr .b (.pr .b .b))) .b)))),(14,.fn 188 [⟨13,[],0,0⟩])]⟩]
def zg9 (t0:PV zf)(t1:PV zn)(t2:PV (.int .i64))(t7:PV zk)(t8:PV (.int .i64))(t9:PV (.int .i64))(t10:PV (.int .i64))(t11:PV (.int .i64))(t12:PV (.int .i64))(t13:PV zh):Option ((PV zf×PV zn×PV (.int .i64)×PV zk×PV (.int .i64)×PV (.int .i64)×PV (.int .i64)×PV (.int .i64)×PV (.int .i64)×PV zh×Unit)⊕((PV zf×PV zn×PV (.int .i64)×PV zk×PV (.int .i64)×PV (.int .i64)×PV (.int .i64)×PV (.int .i64)×PV zh×Unit))):=
 bif (decide (t9<=t10)) then
  bif inB t9 t1.length then
   bif cutB t11 ((t1.getD t9.toNat (dflt zl)).1) t0.length then
    (zx8 (t0,t1,t2,t7,t8,t9,t10,t11,t12,t13,(t1.getD t9.toNat (dflt zl)),t9,t10,(decide (t9<=t10)),t1,t9,(t1.getD t9.toNat (dflt zl)),(t1.getD t9.toNat (dflt zl)),t0,t11,(t1.getD t9.toNat (dflt zl)).1,(cutL t11 ((t1.getD t9.toNat (dflt zl)).1) t0),1,(cutL t11 ((t1.getD t9.toNat (dflt zl)).1) t0),((cutL t11 ((t1.getD t9.toNat (dflt zl)).1) t0).length:Int),0,())).bind λl10=>
      bif cutB l10.2.2.2.2.2.2.2.2.2.2.1.1 (IntKind.wrap .i64 (l10.2.2.2.2.2.2.2.2.2.2.1.1+l10.2.2.2.2.2.2.2.2.2.2.1.2.1)) l10.1.length then
       (zx4 (l10.1,l10.2.1,l10.2.2.1,l10.2.2.2.1,l10.2.2.2.2.1,l10.2.2.2.2.2.1,l10.2.2.2.2.2.2.1,l10.2.2.2.2.2.2.2.1,l10.2.2.2.2.2.2.2.2.1,l10.2.2.2.2.2.2.2.2.2.1,l10.2.2.2.2.2.2.2.2.2.2.1,l10.2.2.2.2.2.2.2.2.2.2.2.1,l10.2.2.2.2.2.2.2.2.2.2.2.2.1,l10.2.2.2.2.2.2.2.2.2.2.2.2.2.1,l10.2.2.2.2.2.2.2.2.2.2.2.2.2.2.1,l10.2.2.2.2.2.2.2.2.2.2.2.2.2.2.2.1,l10.2.2.2.2.2.2.2.2.2.2.2.2.2.2.2.2.1,l10.2.2.2.2.2.2.2.2.2.2.2.2.2.2.2.2.2.1,l10.2.2.2.2.2.2.2.2.2.2.2.2.2.2.2.2.2.2.1,l10.2.2.2.2.2.2.2.2.2.2.2.2.2.2.2.2.2.2.2.1,l10.2.2.2.2.2.2.2.2.2.2.2.2.2.2.2.2.2.2.2.2.1,l10.2.2.2.2.2.2.2.2.2.2.2.2.2.2.2.2.2.2.2.2.2.1,l10.1,l10.2.2.2.2.2.2.2.2.2.2.1.1,l10.2.2.2.2.2.2.2.2.2.2.1.1,l10.2.2.2.2.2.2.2.2.2.2.1.2.1,(IntKind.wrap .i64 (l10.2.2.2.2.2.2.2.2.2.2.1.1+l10.2.2.2.2.2.2.2.2.2.2.1.2.1)),(cutL l10.2.2.2.2.2.2.2.2.2.2.1.1 (IntKind.wrap .i64 (l10.2.2.2.2.2.2.2.2.2.2.1.1+l10.2.2.2.2.2.2.2.2.2.2.1.2.1)) l10.1),2,(cutL l10.2.2.2.2.2.2.2.2.2.2.1.1 (IntKind.wrap .i64 (l10.2.2.2.2.2.2.2.2.2.2.1.1+l10.2.2.2.2.2.2.2.2.2.2.1.2.1)) l10.1),((cutL l10.2.2.2.2.2.2.2.2.2.2.1.1 (IntKind.wrap .i64 (l10.2.2.2.2.2.2.2.2.2.2.1.1+l10.2.2.2.2.2.2.2.2.2.2.1.2.1)) l10.1).length:Int),0,())).bind λl12=>
         (zx5 (l12.1,l12.2.1,l12.2.2.1,l12.2.2.2.1,l12.2.2.2.2.1,l12.2.2.2.2.2.1,l12.2.2.2.2.2.2.1,l12.2.2.2.2.2.2.2.1,l12.2.2.2.2.2.2.2.2.1,l12.2.2.2.2.2.2.2.2.2.1,l12.2.2.2.2.2.2.2.2.2.2.1,l12.2.2.2.2.2.2.2.2.2.2.2.1,l12.2.2.2.2.2.2.2.2.2.2.2.2.1,l12.2.2.2.2.2.2.2.2.2.2.2.2.2.1,l12.2.2.2.2.2.2.2.2.2.2.2.2.2.2.1,l12.2.2.2.2.2.2.2.2.2.2.2.2.2.2.2.1,l12.2.2.2.2.2.2.2.2.2.2.2.2.2.2.2.2.1,l12.2.2.2.2.2.2.2.2.2.2.2.2.2.2.2.2.2.1,l12.2.2.2.2.2.2.2.2.2.2.2.2.2.2.2.2.2.2.1,l12.2.2.2.2.2.2.2.2.2.2.2.2.2.2.2.2.2.2.2.1,l12.2.2.2.2.2.2.2.2.2.2.2.2.2.2.2.2.2.2.2.2.1,l12.2.2.2.2.2.2.2.2.2.2.2.2.2.2.2.2.2.2.2.2.2.1,l12.2.2.2.2.2.2.2.2.2.2.2.2.2.2.2.2.2.2.2.2.2.2.1,l12.2.2.2.2.2.2.2.2.2.2.2.2.2.2.2.2.2.2.2.2.2.2.2.1,l12.2.2.2.2.2.2.2.2.2.2.2.2.2.2.2.2.2.2.2.2.2.2.2.2.1,l12.2.2.2.2.2.2.2.2.2.2.2.2.2.2.2.2.2.2.2.2.2.2.2.2.2.1,l12.2.2.2.2.2.2.2.2.2.2.2.2.2.2.2.2.2.2.2.2.2.2.2.2.2.2.1,l12.2.2.2.2.2.2.2.2.2.2.2.2.2.2.2.2.2.2.2.2.2.2.2.2.2.2.2.1,l12.2.2.2.2.2.2.2.2.2.2.1.2.2.1,3,l12.2.2.2.2.2.2.2.2.2.2.1.2.2.1,(l12.2.2.2.2.2.2.2.2.2.2.1.2.2.1.length:Int),0,())).bind λl14=>
           some (.inl (l14.1,l14.2.1,l14.2.2.1,l14.2.2.2.1,(IntKind.wrap .i64 (l14.2.2.2.2.1+(IntKind.wrap .i64 ((l14.2.2.2.2.2.2.2.2.2.2.1.2.2.1.length:Int) -l14.2.2.2.2.2.2.2.2.2.2.1.2.1)))),(IntKind.wrap .i64 (l14.2.2.2.2.2.1+1)),l14.2.2.2.2.2.2.1,(IntKind.wrap .i64 (l14.2.2.2.2.2.2.2.2.2.2.1.1+l14.2.2.2.2.2.2.2.2.2.2.1.2.1)),l14.2.2.2.2.2.2.2.2.1,l14.2.2.2.2.2.2.2.2.2.1,()))
      else
       none
   else
    none
  else
   none
 else
  some (.inr (t0,t1,t2,t7,t8,t9,t11,t12,t13,()))
def z0m:PV zf×PV zn×PV (.int .i64)×PV zk×PV (.int .i64)×PV (.int .i64)×PV (.int .i64)×PV (.int .i64)×PV (.int .i64)×PV zh×Unit->Option ((PV zf×PV zn×PV (.int .i64)×PV zk×PV (.int .i64)×PV (.int .i64)×PV (.int .i64)×PV (.int .i64)×PV zh×Unit)):=fix λd=>zg9 d.1 d.2.1 d.2.2.1 d.2.2.2.1 d.2.2.2.2.1 d.2.2.2.2.2.1 d.2.2.2.2.2.2.1 d.2.2.2.2.2.2.2.1 d.2.2.2.2.2.2.2.2.1 d.2.2.2.2.2.2.2.2.2.1
def zzw:Lp:=⟨⟨[],[0,1,2,7,8,9,10,11,12,13,14,28,29,30,31,32,33,34,35,36,37,38,39,40,41,42,43,44,45,46,47,48],[]⟩,qlg,qnf,λd=>zg9 d.1 d.2.1 d.2.2.1 d.2.2.2.1 d.2.2.2.2.1 d.2.2.2.2.2.1 d.2.2.2.2.2.2.1 d.2.2.2.2.2.2.2.1 d.2.2.2.2.2.2.2.2.1 d.2.2.2.2.2.2.2.2.2.1⟩
def qng:List Sh:=mkSh 137 [(0,.val zf .b),(1,.val zn .b),(2,.val (.int .i64) .b),(7,.val zk (.row (.pr .b (.pr .b (.pr (.row (.pr .b (.pr .b .b))) .b))))),(8,.val (.int .i64) .b),(9,.val (.int .i64) .b)]
def qo7:List Out:=[⟨.exit 0,⟨[],[7],[]⟩,mkSh 137 [(7,.val zk (.row (.pr .b (.pr .b (.pr (.row (.pr .b (.pr .b .b))) .b)))))]⟩]
def zfx (t0:PV zf)(t1:PV zn)(t2:PV (.int .i64))(t7:PV zk)(t8:PV (.int .i64))(t9:PV (.int .i64)):Option ((PV zf×PV zn×PV (.int .i64)×PV zk×PV (.int .i64)×PV (.int .i64)×Unit)⊕((PV zk×Unit))):=
 bif (decide (t9<(t1.length:Int))) then
  (z1k (t0,t1,t2,t7,t8,t9,t9,())).bind λl2=>
    bif inB l2.2.2.2.2.2.1 l2.2.1.length then
     bif inB l2.2.2.2.2.2.2.1 l2.2.1.length then
      bif inB l2.2.2.2.2.2.2.1 l2.2.1.length then
       (z0m (l2.1,l2.2.1,l2.2.2.1,l2.2.2.2.1,l2.2.2.2.2.1,l2.2.2.2.2.2.1,l2.2.2.2.2.2.2.1,(bif decide (0>(IntKind.wrap .i64 (((l2.2.1.getD l2.2.2.2.2.2.1.toNat (dflt zl)).1) -l2.2.2.1))) then 0 else(IntKind.wrap .i64 (((l2.2.1.getD l2.2.2.2.2.2.1.toNat (dflt zl)).1) -l2.2.2.1))),(bif decide ((l2.1.length:Int)<(IntKind.wrap .i64 ((IntKind.wrap .i64 (((l2.2.1.getD l2.2.2.2.2.2.2.1.toNat (dflt zl)).1)+(((l2.2.1.getD l2.2.2.2.2.2.2.1.toNat (dflt zl)).2).1)))+l2.2.2.1))) then(l2.1.length:Int) else(IntKind.wrap .i64 ((IntKind.wrap .i64 (((l2.2.1.getD l2.2.2.2.2.2.2.1.toNat (dflt zl)).1)+(((l2.2.1.getD l2.2.2.2.2.2.2.1.toNat (dflt zl)).2).1)))+l2.2.2.1))),((bif decide (0>(IntKind.wrap .i64 (((l2.2.1.getD l2.2.2.2.2.2.1.toNat (dflt zl)).1) -l2.2.2.1))) then 0 else(IntKind.wrap .i64 (((l2.2.1.getD l2.2.2.2.2.2.1.toNat (dflt zl)).1) -l2.2.2.1))),((IntKind.wrap .i64 ((bif decide (0>(IntKind.wrap .i64 (((l2.2.1.getD l2.2.2.2.2.2.1.toNat (dflt zl)).1) -l2.2.2.1))) then 0 else(IntKind.wrap .i64 (((l2.2.1.getD l2.2.2.2.2.2.1.toNat (dflt zl)).1) -l2.2.2.1)))+l2.2.2.2.2.1)),(([]:PV zi),()))),())).bind λl4=>
         bif cutB l4.2.2.2.2.2.2.1 l4.2.2.2.2.2.2.2.1 l4.1.length then
          (zx6 (l4.1,l4.2.1,l4.2.2.1,l4.2.2.2.1,l4.2.2.2.2.1,l4.2.2.2.2.2.1,l4.2.2.2.2.2.2.1,l4.2.2.2.2.2.2.2.1,l4.2.2.2.2.2.2.2.2.1,l4.1,l4.2.2.2.2.2.2.1,l4.2.2.2.2.2.2.2.1,(cutL l4.2.2.2.2.2.2.1 l4.2.2.2.2.2.2.2.1 l4.1),1,(cutL l4.2.2.2.2.2.2.1 l4.2.2.2.2.2.2.2.1 l4.1),((cutL l4.2.2.2.2.2.2.1 l4.2.2.2.2.2.2.2.1 l4.1).length:Int),0,())).bind λl6=>
            bif qm (l6.2.2.2.1.length+[l6.2.2.2.2.2.2.2.2.1].length) then
             some (.inl (l6.1,l6.2.1,l6.2.2.1,(l6.2.2.2.1++[l6.2.2.2.2.2.2.2.2.1]),l6.2.2.2.2.1,l6.2.2.2.2.2.1,()))
            else
             none
         else
          none
      else
       none
     else
      none
    else
     none
 else
  some (.inr (t7,()))
def zol:PV zf×PV zn×PV (.int .i64)×PV zk×PV (.int .i64)×PV (.int .i64)×Unit->Option ((PV zk×Unit)):=fix λd=>zfx d.1 d.2.1 d.2.2.1 d.2.2.2.1 d.2.2.2.2.1 d.2.2.2.2.2.1
def z0n:Lp:=⟨⟨[],[0,1,2,7,8,9,28,29,30,31,32,33,34,35,36,37,38,39,40,41,42,43,44,45,46,47,48],[]⟩,qng,qo7,λd=>zfx d.1 d.2.1 d.2.2.1 d.2.2.2.1 d.2.2.2.2.1 d.2.2.2.2.2.1⟩
def qrr:Plan:=⟨[],[(5,z0l),(11,zzw),(3,z0n)],1,0⟩
def ztk (t0:PV zf)(t1:PV zn)(t2:PV (.int .i64)):Option (PVs [zk]×PVs []):=
 (zol (t0,t1,t2,([]:PV zk),0,0,())).bind λl8=>
   some ((l8.1,()),())
def z2x:Ct:=⟨[(.bor,zf),(.bor,zn),(.bor,(.int .i64))],[(zk,(.row (.pr .b (.pr .b (.pr (.row (.pr .b (.pr .b .b))) .b)))))],λx=>ztk x.1 x.2.1 x.2.2.1⟩
def qrs:Cx:=⟨tab,arrs,[],[],gl,[(97,188,Tryz.f188,qhx),(108,188,Tryz.f188,qha),(112,188,Tryz.f188,qhb),(131,188,Tryz.f188,qhc)]⟩
theorem qrt:FnOk gl Tryz.prog 113 z2x:=
 fo qrs qrr 1 (oz trivial trivial (h3:=⟨⟨Tryz.func188,by kernel_rfl,(ll 1 (by kernel_rfl) (lc zx3 (by kernel_rfl) (λd=>by kernel_rfl) trivial))⟩,⟨Tryz.func188,by kernel_rfl,(ll 1 (by kernel_rfl) (lc zxy (by kernel_rfl) (λd=>by kernel_rfl) trivial))⟩,⟨Tryz.func188,by kernel_rfl,(ll 1 (by kernel_rfl) (lc zxz (by kernel_rfl) (λd=>by kernel_rfl) trivial))⟩,⟨Tryz.func188,by kernel_rfl,(ll 1 (by kernel_rfl) (lc zx0 (by kernel_rfl) (λd=>by kernel_rfl) trivial))⟩,trivial⟩)) Tryz.func113 (by kernel_rfl) (by kernel_rfl) (by kernel_rfl)
  (ll 3 (by kernel_rfl) (lc z0n (by kernel_rfl) (λd=>by kernel_rfl) (lc z0l (by kernel_rfl) (λd=>by kernel_rfl) (lc zzw (by kernel_rfl) (λd=>by kernel_rfl) trivial)))) (λx=>by kernel_rfl)
def qo8:List Out:=[⟨.normal,⟨[],[0,1,2,22],[]⟩,mkSh 27 [(0,.val zf .b),(1,.val zn .b),(2,.val (.int .i64) .b),(22,.val .bool .b)]⟩]
def qru:Plan:=⟨[(3,qo8)],[],0,0⟩
def zly (t0:PV zf)(t1:PV zn)(t2:PV (.int .i64)):Option (PVs [zk,.bool]×PVs []):=
 (zp4 t0 t1).bind λr7=>
   ((
     bif (!r7.1.2.1) then
      some (t0,t1,t2,true,())
     else
      (ztz t2).bind λr8=>
        some (t0,t1,t2,(!r8.1.1),()):Option ((PV zf×PV zn×PV (.int .i64)×PV .bool×Unit)))).bind λj9=>
     bif j9.2.2.2.1 then
      some (([],false,()),())
     else
      (ztk j9.1 j9.2.1 j9.2.2.1).bind λr10=>
        some ((r10.1.1,true,()),())
def zsz:Ct:=⟨[(.bor,zf),(.bor,zn),(.bor,(.int .i64))],[(zk,(.row (.pr .b (.pr .b (.pr (.row (.pr .b (.pr .b .b))) .b))))),(.bool,.b)],λx=>zly x.1 x.2.1 x.2.2.1⟩
def qrv:Cx:=⟨tab,arrs,[(38,z8f),(112,z4u),(113,z2x)],[],gl,[]⟩
theorem z2y:FnOk gl Tryz.prog 55 zsz:=
 fo qrv qru 0 (oz ⟨q0m,qu2,qrt,trivial⟩ trivial) Tryz.func55 (by kernel_rfl) (by kernel_rfl) (by kernel_rfl)
  (ll 0 (by kernel_rfl) trivial) (λx=>by kernel_rfl)
def qu3:List Out:=[⟨.normal,⟨[],[1,5,9,10,11],[]⟩,mkSh 26 [(1,.val (.int .i64) .b),(5,.val zf (.row .b)),(9,.val zi .b),(10,.val (.int .i64) .b),(11,.val (.int .i64) .b)]⟩]
def qrw:List Sh:=mkSh 26 [(1,.val (.int .i64) .b),(5,.val zf (.row .b)),(9,.val zi .b),(10,.val (.int .i64) .b),(11,.val (.int .i64) .b)]
def qu4:List Out:=[⟨.exit 0,⟨[],[5],[]⟩,mkSh 26 [(5,.val zf (.row .b))]⟩]
def zhq (t1:PV (.int .i64))(t5:PV zf)(t9:PV zi)(t10:PV (.int .i64))(t11:PV (.int .i64)):Option ((PV (.int .i64)×PV zf×PV zi×PV (.int .i64)×PV (.int .i64)×Unit)⊕((PV zf×Unit))):=
 bif (decide (t11<t10)) then
  ((
    bif inB t11 t9.length then
     bif (!(((t9.getD t11.toNat (dflt zo)).1)==t1)) then
      bif qm (t5.length+[((t9.getD t11.toNat (dflt zo)).2).1].length) then
       some (t1,(t5++[((t9.getD t11.toNat (dflt zo)).2).1]),t9,t10,t11,())
      else
       none
     else
      some (t1,t5,t9,t10,t11,())
    else
     none:Option ((PV (.int .i64)×PV zf×PV zi×PV (.int .i64)×PV (.int .i64)×Unit)))).bind λj1=>
    some (.inl (j1.1,j1.2.1,j1.2.2.1,j1.2.2.2.1,(IntKind.wrap .i64 (j1.2.2.2.2.1+1)),()))
 else
  some (.inr (t5,()))
def z4v:PV (.int .i64)×PV zf×PV zi×PV (.int .i64)×PV (.int .i64)×Unit->Option ((PV zf×Unit)):=fix λd=>zhq d.1 d.2.1 d.2.2.1 d.2.2.2.1 d.2.2.2.2.1
def z2z:Lp:=⟨⟨[],[1,5,9,10,11],[]⟩,qrw,qu4,λd=>zhq d.1 d.2.1 d.2.2.1 d.2.2.2.1 d.2.2.2.2.1⟩
def qyj:Plan:=⟨[(7,qu3)],[(3,z2z)],0,0⟩
def zmh (t0:PV zi)(t1:PV (.int .i64)):Option (PVs [zf]×PVs []):=
 (z4v (t1,([]:PV zf),t0,(t0.length:Int),0,())).bind λl3=>
   some ((l3.1,()),())
def zt0:Ct:=⟨[(.bor,zi),(.bor,(.int .i64))],[(zf,(.row .b))],λx=>zmh x.1 x.2.1⟩
def qyk:Cx:=⟨tab,arrs,[],[],gl,[]⟩
theorem z6p:FnOk gl Tryz.prog 222 zt0:=
 fo qyk qyj 0 (oz trivial trivial) Tryz.func222 (by kernel_rfl) (by kernel_rfl) (by kernel_rfl)
  (ll 1 (by kernel_rfl) (lc z2z (by kernel_rfl) (λd=>by kernel_rfl) trivial)) (λx=>by kernel_rfl)
def qo9:Plan:=⟨[],[],0,0⟩
def zer (t0:PV zh):Option (PVs [zf]×PVs []):=
 (zmh t0.2.2.1 3).bind λr1=>
   some ((r1.1.1,()),())
def zln:Ct:=⟨[(.bor,zh)],[(zf,(.row .b))],λx=>zer x.1⟩
def qpa:Cx:=⟨tab,arrs,[(222,zt0)],[],gl,[]⟩
theorem zom:FnOk gl Tryz.prog 150 zln:=
 fo qpa qo9 0 (oz ⟨z6p,trivial⟩ trivial) Tryz.func150 (by kernel_rfl) (by kernel_rfl) (by kernel_rfl)
  (ll 0 (by kernel_rfl) trivial) (λx=>by kernel_rfl)
def qlh:Plan:=⟨[],[],0,0⟩
def zeo (t0:PV zh):Option (PVs [zf]×PVs []):=
 (zmh t0.2.2.1 2).bind λr1=>
   some ((r1.1.1,()),())
def zlf:Ct:=⟨[(.bor,zh)],[(zf,(.row .b))],λx=>zeo x.1⟩
def qli:Cx:=⟨tab,arrs,[(222,zt0)],[],gl,[]⟩
theorem zn9:FnOk gl Tryz.prog 151 zlf:=
 fo qli qlh 0 (oz ⟨z6p,trivial⟩ trivial) Tryz.func151 (by kernel_rfl) (by kernel_rfl) (by kernel_rfl)
  (ll 0 (by kernel_rfl) trivial) (λx=>by kernel_rfl)
def qnh:List Out:=[⟨.normal,⟨[],[1,24,38,39,40,41,44,45,46,47,48,49,50,51,52,53,54,55,56,57,58,59,60,64,65,66,75,76,79,80,83,84,85,86,87,88,91,92,93,94,95,96],[]⟩,mkSh 98 [(1,.var zh .b),(24,.val .bool .b)]⟩]
def qni:List Out:=[⟨.normal,⟨[],[1,3,5,26,27,28,61,64,65,66,75,76,79,80,83,84,85,86,87,88,91,92,93,94,95,96],[]⟩,mkSh 98 [(1,.var zh .b),(3,.val .bool .b),(5,.var zo .b),(26,.val zi .b),(27,.val (.int .i64) .b),(28,.val (.int .i64) .b),(61,.val .bool .b)]⟩]
def qlj:List Out:=[⟨.normal,⟨[],[1,3,5,26,27,28,38,39,40,41,44,45,46,47,48,49,50,51,52,53,54,55,56,57,58,59,60,75,76,79,80,83,84,85,86,87,88,91,92,93,94,95,96],[]⟩,mkSh 98 [(1,.var zh .b),(3,.val .bool .b),(5,.var zo .b),(26,.val zi .b),(27,.val (.int .i64) .b),(28,.val (.int .i64) .b)]⟩,⟨.ret,⟨[],[2],[]⟩,mkSh 98 [(2,.val .bool .b)]⟩]
def qlk:List Sh:=mkSh 98 [(1,.var zh .b),(3,.val .bool .b),(26,.val zi .b),(27,.val (.int .i64) .b),(28,.val (.int .i64) .b)]
def qnj:List Out:=[⟨.exit 0,⟨[],[1,3,75,76,79,80,83,84,85,86,87,88,91,92,93,94,95,96],[]⟩,mkSh 98 [(1,.var zh .b),(3,.val .bool .b)]⟩,⟨.ret,⟨[],[2],[]⟩,mkSh 98 [(2,.val .bool .b)]⟩]
def zep (t1:PV zh)(t3:PV .bool)(t26:PV zi)(t27:PV (.int .i64))(t28:PV (.int .i64)):Option ((PV zh×PV .bool×PV zi×PV (.int .i64)×PV (.int .i64)×Unit)⊕((PV zh×PV .bool×Unit)⊕(PV .bool×Unit))):=
 bif (decide (t28<t27)) then
  ((
    bif inB t28 t26.length then
     ((
       (zcd ((t26.getD t28.toNat (dflt zo)).1) 1 3).bind λr15=>
         bif (!r15.1.1) then
          some (t1,t3,(t26.getD t28.toNat (dflt zo)),t26,t27,t28,true,())
         else
          (zmg (((t26.getD t28.toNat (dflt zo)).2).1)).bind λr16=>
            bif (!r16.1.1) then
             some (t1,t3,(t26.getD t28.toNat (dflt zo)),t26,t27,t28,true,())
            else
             bif (decide (t28>0)) then
              bif (((t26.getD t28.toNat (dflt zo)).1)==2) then
               bif inB (IntKind.wrap .i64 (t28 -1)) t1.2.2.1.length then
                some (t1,t3,(t26.getD t28.toNat (dflt zo)),t26,t27,t28,(((t1.2.2.1.getD ((IntKind.wrap .i64 (t28 -1)).toNat) (dflt zo)).1)==3),())
               else
                none
              else
               some (t1,t3,(t26.getD t28.toNat (dflt zo)),t26,t27,t28,false,())
             else
              some (t1,t3,(t26.getD t28.toNat (dflt zo)),t26,t27,t28,false,()):Option ((PV zh×PV .bool×PV zo×PV zi×PV (.int .i64)×PV (.int .i64)×PV .bool×Unit)))).bind λj17=>
       bif j17.2.2.2.2.2.2.1 then
        some (.inr (false,()))
       else
        bif j17.2.1 then
         some (.inl (j17.1,true,j17.2.2.1,j17.2.2.2.1,j17.2.2.2.2.1,j17.2.2.2.2.2.1,()))
        else
         some (.inl (j17.1,(!(j17.2.2.1.1==1)),j17.2.2.1,j17.2.2.2.1,j17.2.2.2.2.1,j17.2.2.2.2.2.1,()))
    else
     none:Option ((PV zh×PV .bool×PV zo×PV zi×PV (.int .i64)×PV (.int .i64)×Unit)⊕(PV .bool×Unit)))).bind λx30=>
    match x30 with
    | .inl j18=>
      some (.inl (j18.1,j18.2.1,j18.2.2.2.1,j18.2.2.2.2.1,(IntKind.wrap .i64 (j18.2.2.2.2.2.1+1)),()))
    | .inr j19=>
      some (.inr (.inr (j19.1,())))
 else
  some (.inr (.inl (t1,t3,())))
def z0o:PV zh×PV .bool×PV zi×PV (.int .i64)×PV (.int .i64)×Unit->Option ((PV zh×PV .bool×Unit)⊕(PV .bool×Unit)):=fix λd=>zep d.1 d.2.1 d.2.2.1 d.2.2.2.1 d.2.2.2.2.1
def zzx:Lp:=⟨⟨[],[1,3,26,27,28,38,39,40,41,44,45,46,47,48,49,50,51,52,53,54,55,56,57,58,59,60,64,65,66,75,76,79,80,83,84,85,86,87,88,91,92,93,94,95,96],[]⟩,qlk,qnj,λd=>zep d.1 d.2.1 d.2.2.1 d.2.2.2.1 d.2.2.2.2.1⟩
def qpb:Plan:=⟨[(2,qnh),(8,qni),(10,qlj)],[(5,zzx)],0,0⟩
def zos (t0:PV zh):Option (PVs [.bool]×PVs []):=
 ((
   (zcd t0.1 0 999).bind λr8=>
     bif (!r8.1.1) then
      some (t0,true,())
     else
      (zcd t0.2.1 0 999).bind λr9=>
        bif (!r9.1.1) then
         some (t0,true,())
        else
         (zcd (t0.2.2.1.length:Int) 1 80).bind λr10=>
           some (t0,(!r10.1.1),()):Option ((PV zh×PV .bool×Unit)))).bind λj11=>
   bif j11.2.1 then
    some ((false,()),())
   else
    (z0o (j11.1,false,j11.1.2.2.1,(j11.1.2.2.1.length:Int),0,())).bind λx31=>
      match x31 with
      | .inl l22=>
        (zer l22.1).bind λr25=>
          (zeo l22.1).bind λr26=>
            bif l22.2.1 then
             (zhg r25.1.1).bind λr27=>
               bif r27.1.1 then
                (zhg r26.1.1).bind λr28=>
                  bif r28.1.1 then
                   bif (decide ((IntKind.wrap .i64 (l22.1.1+(r25.1.1.length:Int)))<=1000)) then
                    some (((decide ((IntKind.wrap .i64 (l22.1.2.1+(r26.1.1.length:Int)))<=1000)),()),())
                   else
                    some ((false,()),())
                  else
                   some ((false,()),())
               else
                some ((false,()),())
            else
             some ((false,()),())
      | .inr l29=>
        some ((l29.1,()),())
def z1l:Ct:=⟨[(.bor,zh)],[(.bool,.b)],λx=>zos x.1⟩
def qpc:Cx:=⟨tab,arrs,[(88,zsq),(131,zkp),(150,zln),(151,zlf),(179,zty)],[],gl,[]⟩
theorem qpd:FnOk gl Tryz.prog 106 z1l:=
 fo qpc qpb 0 (oz ⟨z1h,znf,zom,zn9,z6o,trivial⟩ trivial) Tryz.func106 (by kernel_rfl) (by kernel_rfl) (by kernel_rfl)
  (ll 1 (by kernel_rfl) (lc zzx (by kernel_rfl) (λd=>by kernel_rfl) trivial)) (λx=>by kernel_rfl)
def qll:List Out:=[⟨.normal,⟨[],[0,4,8,9,10,57],[]⟩,mkSh 59 [(0,.val zk .b),(4,.var zh .b),(8,.val zk .b),(9,.val (.int .i64) .b),(10,.val (.int .i64) .b),(57,.val .bool .b)]⟩]
def qj6:List Sh:=mkSh 59 [(0,.val zk .b),(8,.val zk .b),(9,.val (.int .i64) .b),(10,.val (.int .i64) .b)]
def qlm:List Out:=[⟨.exit 0,⟨[],[],[]⟩,mkSh 59 []⟩,⟨.ret,⟨[],[2],[]⟩,mkSh 59 [(2,.val .bool .b)]⟩]
def zej (t0:PV zk)(t8:PV zk)(t9:PV (.int .i64))(t10:PV (.int .i64)):Option ((PV zk×PV zk×PV (.int .i64)×PV (.int .i64)×Unit)⊕((Unit)⊕(PV .bool×Unit))):=
 bif (decide (t10<t9)) then
  bif inB t10 t8.length then
   (zos (t8.getD t10.toNat (dflt zh))).bind λr11=>
     bif (!r11.1.1) then
      some (.inr (.inr (false,())))
     else
      ((
        bif (decide (t10>0)) then
         bif inB (IntKind.wrap .i64 (t10 -1)) t0.length then
          bif inB (IntKind.wrap .i64 (t10 -1)) t0.length then
           (zer (t0.getD ((IntKind.wrap .i64 (t10 -1)).toNat) (dflt zh))).bind λr12=>
             bif (decide (((t8.getD t10.toNat (dflt zh)).1)<(IntKind.wrap .i64 (((t0.getD ((IntKind.wrap .i64 (t10 -1)).toNat) (dflt zh)).1)+(r12.1.1.length:Int))))) then
              some (t0,(t8.getD t10.toNat (dflt zh)),t8,t9,t10,true,())
             else
              bif inB (IntKind.wrap .i64 (t10 -1)) t0.length then
               bif inB (IntKind.wrap .i64 (t10 -1)) t0.length then
                (zeo (t0.getD ((IntKind.wrap .i64 (t10 -1)).toNat) (dflt zh))).bind λr13=>
                  some (t0,(t8.getD t10.toNat (dflt zh)),t8,t9,t10,(decide ((((t8.getD t10.toNat (dflt zh)).2).1)<(IntKind.wrap .i64 ((((t0.getD ((IntKind.wrap .i64 (t10 -1)).toNat) (dflt zh)).2).1)+(r13.1.1.length:Int))))),())
               else
                none
              else
               none
          else
           none
         else
          none
        else
         some (t0,(t8.getD t10.toNat (dflt zh)),t8,t9,t10,false,()):Option ((PV zk×PV zh×PV zk×PV (.int .i64)×PV (.int .i64)×PV .bool×Unit)))).bind λj14=>
        bif j14.2.2.2.2.2.1 then
         some (.inr (.inr (false,())))
        else
         some (.inl (j14.1,j14.2.2.1,j14.2.2.2.1,(IntKind.wrap .i64 (j14.2.2.2.2.1+1)),()))
  else
   none
 else
  some (.inr (.inl ()))
def zzy:PV zk×PV zk×PV (.int .i64)×PV (.int .i64)×Unit->Option ((Unit)⊕(PV .bool×Unit)):=fix λd=>zej d.1 d.2.1 d.2.2.1 d.2.2.2.1
def zze:Lp:=⟨⟨[],[0,8,9,10,21,22,23,24,25,26,27,28,29,30,31,32,33,34,35,36,37,38,39,40,41,42,43,44,45,46,47,48,49,50,51,52,53,54,55,56],[]⟩,qj6,qlm,λd=>zej d.1 d.2.1 d.2.2.1 d.2.2.2.1⟩
def qnk:Plan:=⟨[(9,qll)],[(4,zze)],0,0⟩
def zjc (t0:PV zk):Option (PVs [.bool]×PVs []):=
 bif (decide ((t0.length:Int)>20)) then
  some ((false,()),())
 else
  (zzy (t0,t0,(t0.length:Int),0,())).bind λx19=>
    match x19 with
    | .inl l17=>
      some ((true,()),())
    | .inr l18=>
      some ((l18.1,()),())
def zoh:Ct:=⟨[(.bor,zk)],[(.bool,.b)],λx=>zjc x.1⟩
def qnl:Cx:=⟨tab,arrs,[(106,z1l),(150,zln),(151,zlf)],[],gl,[]⟩
theorem zsm:FnOk gl Tryz.prog 86 zoh:=
 fo qnl qnk 0 (oz ⟨qpd,zom,zn9,trivial⟩ trivial) Tryz.func86 (by kernel_rfl) (by kernel_rfl) (by kernel_rfl)
  (ll 1 (by kernel_rfl) (lc zze (by kernel_rfl) (λd=>by kernel_rfl) trivial)) (λx=>by kernel_rfl)
def qrx:Plan:=⟨[],[],0,0⟩
def zhr (t0:PV (.int .i64))(t1:PV (.int .i64)):Option (PVs [(.int .i64)]×PVs []):=
 bif (decide (t1>0)) then
  some (((IntKind.wrap .i64 (t0+1)),()),())
 else
  some ((t0,()),())
def zs3:Ct:=⟨[(.bor,(.int .i64)),(.bor,(.int .i64))],[((.int .i64),.b)],λx=>zhr x.1 x.2.1⟩
def qry:Cx:=⟨tab,arrs,[],[],gl,[]⟩
theorem z3a:FnOk gl Tryz.prog 165 zs3:=
 fo qry qrx 0 (oz trivial trivial) Tryz.func165 (by kernel_rfl) (by kernel_rfl) (by kernel_rfl)
  (ll 0 (by kernel_rfl) trivial) (λx=>by kernel_rfl)
def q0o:Plan:=⟨[],[],0,0⟩
def zj6 (t0:PV (.int .i64))(t1:PV (.int .i64)):Option (PVs [(.int .i64)]×PVs []):=
 some (((IntKind.wrap .i64 (t0+t1)),()),())
def z8g:Ct:=⟨[(.bor,(.int .i64)),(.bor,(.int .i64))],[((.int .i64),.b)],λx=>zj6 x.1 x.2.1⟩
def q0p:Cx:=⟨tab,arrs,[],[],gl,[]⟩
theorem q0q:FnOk gl Tryz.prog 166 z8g:=
 fo q0p q0o 0 (oz trivial trivial) Tryz.func166 (by kernel_rfl) (by kernel_rfl) (by kernel_rfl)
  (ll 0 (by kernel_rfl) trivial) (λx=>by kernel_rfl)
def qyl:Plan:=⟨[],[],0,0⟩
def zjx (t0:PV (.int .i64))(t1:PV (.int .i64)):Option (PVs [.str]×PVs []):=
 bif (t0==t1) then
  (zfw t0).bind λr2=>
    some ((r2.1.1,()),())
 else
  (zfw t0).bind λr3=>
    bif decide (r3.1.1.length+[44].length<=1099511627776) then
     (zfw t1).bind λr4=>
       bif decide ((r3.1.1++[44]).length+r4.1.1.length<=1099511627776) then
        some ((((r3.1.1++[44])++r4.1.1),()),())
       else
        none
    else
     none
def z6q:Ct:=⟨[(.bor,(.int .i64)),(.bor,(.int .i64))],[(.str,.b)],λx=>zjx x.1 x.2.1⟩
def qym:Cx:=⟨tab,arrs,[(205,zsl)],[],gl,[]⟩
theorem qyn:FnOk gl Tryz.prog 136 z6q:=
 fo qym qyl 0 (oz ⟨z0f,trivial⟩ trivial) Tryz.func136 (by kernel_rfl) (by kernel_rfl) (by kernel_rfl)
  (ll 0 (by kernel_rfl) trivial) (λx=>by kernel_rfl)
def qje:Plan:=⟨[],[],2,9⟩
def qhy:List Sh:=mkSh 37 [(0,.val zh .b),(1,.val (.int .i64) .b),(2,.var zh .b),(3,.var (.int .i64) .b),(4,.val .bool .b),(5,.addr ⟨2,[.r,.r,.l],0,0⟩),(6,.val zi .b),(7,.fn 231 [⟨3,[],0,0⟩]),(9,.val zi .b),(10,.fn 231 [⟨3,[],0,0⟩]),(13,.val .bool .b),(14,.val zi .b),(15,.fn 231 [⟨3,[],0,0⟩]),(18,.val zi .b),(19,.fn 231 [⟨3,[],0,0⟩]),(25,.val (.int .i64) .b),(26,.val (.int .i64) .b)]
def qim:List Out:=[⟨.exit 0,⟨[],[],[]⟩,mkSh 37 [(0,.val zh .b),(1,.val (.int .i64) .b),(2,.var zh .b),(3,.var (.int .i64) .b),(4,.val .bool .b),(5,.addr ⟨2,[.r,.r,.l],0,0⟩),(6,.val zi .b),(7,.fn 231 [⟨3,[],0,0⟩]),(9,.val zi .b),(10,.fn 231 [⟨3,[],0,0⟩]),(13,.val .bool .b),(14,.val zi .b),(15,.fn 231 [⟨3,[],0,0⟩])]⟩,⟨.ret,⟨[],[4],[]⟩,mkSh 37 [(0,.val zh .b),(1,.val (.int .i64) .b),(2,.var zh .b),(3,.var (.int .i64) .b),(4,.val .bool .b),(5,.addr ⟨2,[.r,.r,.l],0,0⟩),(6,.val zi .b),(7,.fn 231 [⟨3,[],0,0⟩]),(9,.val zi .b),(10,.fn 231 [⟨3,[],0,0⟩]),(13,.val .bool .b),(14,.val zi .b),(15,.fn 231 [⟨3,[],0,0⟩]),(22,.val (.int .i64) .b)]⟩]
def zed (t0:PV zh)(t1:PV (.int .i64))(t2:PV zh)(t3:PV (.int .i64))(t4:PV .bool)(t6:PV zi)(t9:PV zi)(t13:PV .bool)(t14:PV zi)(t18:PV zi)(t25:PV (.int .i64))(t26:PV (.int .i64)):Option ((PV zh×PV (.int .i64)×PV zh×PV (.int .i64)×PV .bool×PV zi×PV zi×PV .bool×PV zi×PV zi×PV (.int .i64)×PV (.int .i64)×Unit)⊕((PV zh×PV (.int .i64)×PV zh×PV (.int .i64)×PV .bool×PV zi×PV zi×PV .bool×PV zi×Unit)⊕(PV zh×PV (.int .i64)×PV zh×PV (.int .i64)×PV .bool×PV zi×PV zi×PV .bool×PV zi×PV (.int .i64)×Unit))):=
 bif (decide (t26<t25)) then
  bif inB t26 t18.length then
   bif (((t18.getD t26.toNat (dflt zo)).1)==t3) then
    some (.inr (.inr (t0,t1,t2,t3,t4,t6,t9,t13,t14,t26,())))
   else
    some (.inl (t0,t1,t2,t3,t4,t6,t9,t13,t14,t18,t25,(IntKind.wrap .i64 (t26+1)),()))
  else
   none
 else
  some (.inr (.inl (t0,t1,t2,t3,t4,t6,t9,t13,t14,())))
def zys:PV zh×PV (.int .i64)×PV zh×PV (.int .i64)×PV .bool×PV zi×PV zi×PV .bool×PV zi×PV zi×PV (.int .i64)×PV (.int .i64)×Unit->Option ((PV zh×PV (.int .i64)×PV zh×PV (.int .i64)×PV .bool×PV zi×PV zi×PV .bool×PV zi×Unit)⊕(PV zh×PV (.int .i64)×PV zh×PV (.int .i64)×PV .bool×PV zi×PV zi×PV .bool×PV zi×PV (.int .i64)×Unit)):=fix λd=>zed d.1 d.2.1 d.2.2.1 d.2.2.2.1 d.2.2.2.2.1 d.2.2.2.2.2.1 d.2.2.2.2.2.2.1 d.2.2.2.2.2.2.2.1 d.2.2.2.2.2.2.2.2.1 d.2.2.2.2.2.2.2.2.2.1 d.2.2.2.2.2.2.2.2.2.2.1 d.2.2.2.2.2.2.2.2.2.2.2.1
def zyg:Lp:=⟨⟨[],[0,1,7,8],[]⟩,qhy,qim,λd=>zed d.1 d.2.1 d.2.2.1 d.2.2.2.1 d.2.2.2.2.1 d.2.2.2.2.2.1 d.2.2.2.2.2.2.1 d.2.2.2.2.2.2.2.1 d.2.2.2.2.2.2.2.2.1 d.2.2.2.2.2.2.2.2.2.1 d.2.2.2.2.2.2.2.2.2.2.1 d.2.2.2.2.2.2.2.2.2.2.2.1⟩
def qjf:Plan:=⟨[],[(2,zyg)],1,18⟩
def qjg:Plan:=⟨[],[],0,37⟩
def qpe:Plan:=⟨[],[],3,0⟩
def zjf (t0:PV zh)(t1:PV (.int .i64)):Option (PVs [.bool]×PVs []):=
 (zys (t0,t1,t0,t1,false,t0.2.2.1,t0.2.2.1,false,t0.2.2.1,t0.2.2.1,(t0.2.2.1.length:Int),0,())).bind λx5=>
   match x5 with
   | .inl l3=>
     some (((decide ((-1)>=0)),()),())
   | .inr l4=>
     some (((decide (l4.2.2.2.2.2.2.2.2.2.1>=0)),()),())
def z1m:Ct:=⟨[(.bor,zh),(.bor,(.int .i64))],[(.bool,.b)],λx=>zjf x.1 x.2.1⟩
def qpf:Cx:=⟨tab,arrs,[],[(230,Tryz.f230,qje),(266,Tryz.f266,qjf),(231,Tryz.f231,qjg)],gl,[]⟩
theorem qpg:FnOk gl Tryz.prog 167 z1m:=
 fo qpf qpe 3 (oz trivial ⟨⟨Tryz.func230,by kernel_rfl,(ll 0 (by kernel_rfl) trivial)⟩,⟨Tryz.func266,by kernel_rfl,(ll 1 (by kernel_rfl) (lc zyg (by kernel_rfl) (λd=>by kernel_rfl) trivial))⟩,⟨Tryz.func231,by kernel_rfl,(ll 0 (by kernel_rfl) trivial)⟩,trivial⟩) Tryz.func167 (by kernel_rfl) (by kernel_rfl) (by kernel_rfl)
  (ll 0 (by kernel_rfl) trivial) (λx=>by kernel_rfl)
def qhd:Plan:=⟨[],[],2,48⟩
def qgr:List Sh:=mkSh 76 [(3,.var zh .b),(5,.var (.int .i64) .b),(7,.val (.int .i64) .b),(8,.val (.int .i64) .b),(41,.addr ⟨3,[.r,.r,.l],0,0⟩),(42,.val zi .b),(43,.val (.int .i64) .b),(44,.val (.int .i64) .b),(45,.val zi .b),(46,.fn 237 [⟨5,[],0,0⟩]),(48,.val zi .b),(49,.fn 237 [⟨5,[],0,0⟩]),(52,.val .bool .b),(53,.val zi .b),(54,.fn 237 [⟨5,[],0,0⟩]),(57,.val zi .b),(58,.fn 237 [⟨5,[],0,0⟩]),(64,.val (.int .i64) .b),(65,.val (.int .i64) .b)]
def qg0:List Out:=[⟨.exit 0,⟨[],[],[]⟩,mkSh 76 [(3,.var zh .b),(5,.var (.int .i64) .b),(7,.val (.int .i64) .b),(8,.val (.int .i64) .b),(41,.addr ⟨3,[.r,.r,.l],0,0⟩),(42,.val zi .b),(43,.val (.int .i64) .b),(44,.val (.int .i64) .b),(45,.val zi .b),(46,.fn 237 [⟨5,[],0,0⟩]),(48,.val zi .b),(49,.fn 237 [⟨5,[],0,0⟩]),(52,.val .bool .b),(53,.val zi .b),(54,.fn 237 [⟨5,[],0,0⟩])]⟩,⟨.ret,⟨[],[4],[]⟩,mkSh 76 [(3,.var zh .b),(5,.var (.int .i64) .b),(7,.val (.int .i64) .b),(8,.val (.int .i64) .b),(41,.addr ⟨3,[.r,.r,.l],0,0⟩),(42,.val zi .b),(43,.val (.int .i64) .b),(44,.val (.int .i64) .b),(45,.val zi .b),(46,.fn 237 [⟨5,[],0,0⟩]),(48,.val zi .b),(49,.fn 237 [⟨5,[],0,0⟩]),(52,.val .bool .b),(53,.val zi .b),(54,.fn 237 [⟨5,[],0,0⟩]),(61,.val (.int .i64) .b)]⟩]
def zd9 (t3:PV zh)(t5:PV (.int .i64))(t7:PV (.int .i64))(t8:PV (.int .i64))(t42:PV zi)(t43:PV (.int .i64))(t44:PV (.int .i64))(t45:PV zi)(t48:PV zi)(t52:PV .bool)(t53:PV zi)(t57:PV zi)(t64:PV (.int .i64))(t65:PV (.int .i64)):Option ((PV zh×PV (.int .i64)×PV (.int .i64)×PV (.int .i64)×PV zi×PV (.int .i64)×PV (.int .i64)×PV zi×PV zi×PV .bool×PV zi×PV zi×PV (.int .i64)×PV (.int .i64)×Unit)⊕((PV zh×PV (.int .i64)×PV (.int .i64)×PV (.int .i64)×PV zi×PV (.int .i64)×PV (.int .i64)×PV zi×PV zi×PV .bool×PV zi×Unit)⊕(PV zh×PV (.int .i64)×PV (.int .i64)×PV (.int .i64)×PV zi×PV (.int .i64)×PV (.int .i64)×PV zi×PV zi×PV .bool×PV zi×PV (.int .i64)×Unit))):=
 bif (decide (t65<t64)) then
  bif inB t65 t57.length then
   bif (((t57.getD t65.toNat (dflt zo)).1)==t5) then
    some (.inr (.inr (t3,t5,t7,t8,t42,t43,t44,t45,t48,t52,t53,t65,())))
   else
    some (.inl (t3,t5,t7,t8,t42,t43,t44,t45,t48,t52,t53,t57,t64,(IntKind.wrap .i64 (t65+1)),()))
  else
   none
 else
  some (.inr (.inl (t3,t5,t7,t8,t42,t43,t44,t45,t48,t52,t53,())))
def zx7:PV zh×PV (.int .i64)×PV (.int .i64)×PV (.int .i64)×PV zi×PV (.int .i64)×PV (.int .i64)×PV zi×PV zi×PV .bool×PV zi×PV zi×PV (.int .i64)×PV (.int .i64)×Unit->Option ((PV zh×PV (.int .i64)×PV (.int .i64)×PV (.int .i64)×PV zi×PV (.int .i64)×PV (.int .i64)×PV zi×PV zi×PV .bool×PV zi×Unit)⊕(PV zh×PV (.int .i64)×PV (.int .i64)×PV (.int .i64)×PV zi×PV (.int .i64)×PV (.int .i64)×PV zi×PV zi×PV .bool×PV zi×PV (.int .i64)×Unit)):=fix λd=>zd9 d.1 d.2.1 d.2.2.1 d.2.2.2.1 d.2.2.2.2.1 d.2.2.2.2.2.1 d.2.2.2.2.2.2.1 d.2.2.2.2.2.2.2.1 d.2.2.2.2.2.2.2.2.1 d.2.2.2.2.2.2.2.2.2.1 d.2.2.2.2.2.2.2.2.2.2.1 d.2.2.2.2.2.2.2.2.2.2.2.1 d.2.2.2.2.2.2.2.2.2.2.2.2.1 d.2.2.2.2.2.2.2.2.2.2.2.2.2.1
def zx1:Lp:=⟨⟨[],[0,1,7,8],[]⟩,qgr,qg0,λd=>zd9 d.1 d.2.1 d.2.2.1 d.2.2.2.1 d.2.2.2.2.1 d.2.2.2.2.2.1 d.2.2.2.2.2.2.1 d.2.2.2.2.2.2.2.1 d.2.2.2.2.2.2.2.2.1 d.2.2.2.2.2.2.2.2.2.1 d.2.2.2.2.2.2.2.2.2.2.1 d.2.2.2.2.2.2.2.2.2.2.2.1 d.2.2.2.2.2.2.2.2.2.2.2.2.1 d.2.2.2.2.2.2.2.2.2.2.2.2.2.1⟩
def qhe:Plan:=⟨[],[(2,zx1)],1,57⟩
def qhf:Plan:=⟨[],[],0,76⟩
def qin:List Sh:=mkSh 48 [(3,.var zh .b),(5,.var (.int .i64) .b),(7,.val (.int .i64) .b),(8,.val (.int .i64) .b)]
def qjh:List Out:=[⟨.exit 0,⟨[],[3,5,7,8,31,32,33,34,35,36,37],[]⟩,mkSh 48 [(3,.var zh .b),(5,.var (.int .i64) .b),(7,.val (.int .i64) .b),(8,.val (.int .i64) .b)]⟩]
def zeg (t3:PV zh)(t5:PV (.int .i64))(t7:PV (.int .i64))(t8:PV (.int .i64)):Option ((PV zh×PV (.int .i64)×PV (.int .i64)×PV (.int .i64)×Unit)⊕((PV zh×PV (.int .i64)×PV (.int .i64)×PV (.int .i64)×Unit))):=
 bif (decide (t7>0)) then
  bif inB (IntKind.wrap .i64 (t7 -1)) t3.2.2.1.length then
   bif (!(((t3.2.2.1.getD ((IntKind.wrap .i64 (t7 -1)).toNat) (dflt zo)).1)==1)) then
    some (.inl (t3,t5,(IntKind.wrap .i64 (t7 -1)),t8,()))
   else
    some (.inr (t3,t5,t7,t8,()))
  else
   none
 else
  some (.inr (t3,t5,t7,t8,()))
def zy4:PV zh×PV (.int .i64)×PV (.int .i64)×PV (.int .i64)×Unit->Option ((PV zh×PV (.int .i64)×PV (.int .i64)×PV (.int .i64)×Unit)):=fix λd=>zeg d.1 d.2.1 d.2.2.1 d.2.2.2.1
def zyt:Lp:=⟨⟨[],[3,5,7,8,31,32,33,34,35,36,37],[]⟩,qin,qjh,λd=>zeg d.1 d.2.1 d.2.2.1 d.2.2.2.1⟩
def qio:List Sh:=mkSh 48 [(3,.var zh .b),(5,.var (.int .i64) .b),(7,.val (.int .i64) .b),(8,.val (.int .i64) .b)]
def qji:List Out:=[⟨.exit 2,⟨[],[3,5,7,8],[]⟩,mkSh 48 [(3,.var zh .b),(5,.var (.int .i64) .b),(7,.val (.int .i64) .b),(8,.val (.int .i64) .b)]⟩]
def zeh (t3:PV zh)(t5:PV (.int .i64))(t7:PV (.int .i64))(t8:PV (.int .i64)):Option ((PV zh×PV (.int .i64)×PV (.int .i64)×PV (.int .i64)×Unit)⊕((PV zh×PV (.int .i64)×PV (.int .i64)×PV (.int .i64)×Unit))):=
 bif (decide (t8<(t3.2.2.1.length:Int))) then
  bif inB t8 t3.2.2.1.length then
   bif (!(((t3.2.2.1.getD t8.toNat (dflt zo)).1)==1)) then
    some (.inl (t3,t5,t7,(IntKind.wrap .i64 (t8+1)),()))
   else
    some (.inr (t3,t5,t7,t8,()))
  else
   none
 else
  some (.inr (t3,t5,t7,t8,()))
def zy5:PV zh×PV (.int .i64)×PV (.int .i64)×PV (.int .i64)×Unit->Option ((PV zh×PV (.int .i64)×PV (.int .i64)×PV (.int .i64)×Unit)):=fix λd=>zeh d.1 d.2.1 d.2.2.1 d.2.2.2.1
def zyu:Lp:=⟨⟨[],[3,5,7,8],[]⟩,qio,qji,λd=>zeh d.1 d.2.1 d.2.2.1 d.2.2.2.1⟩
def qj7:Plan:=⟨[],[(2,zyt),(4,zyu)],3,0⟩
def zoa (t0:PV zh)(t1:PV (.int .i64))(t2:PV (.int .i64)):Option (PVs [.bool]×PVs []):=
 (zy4 (t0,t2,t1,t1,())).bind λl2=>
   (zy5 (l2.1,l2.2.1,l2.2.2.1,l2.2.2.2.1,())).bind λl4=>
     bif cutB l4.2.2.1 l4.2.2.2.1 l4.1.2.2.1.length then
      (zx7 (l4.1,l4.2.1,l4.2.2.1,l4.2.2.2.1,l4.1.2.2.1,l4.2.2.1,l4.2.2.2.1,(cutL l4.2.2.1 l4.2.2.2.1 l4.1.2.2.1),(cutL l4.2.2.1 l4.2.2.2.1 l4.1.2.2.1),false,(cutL l4.2.2.1 l4.2.2.2.1 l4.1.2.2.1),(cutL l4.2.2.1 l4.2.2.2.1 l4.1.2.2.1),((cutL l4.2.2.1 l4.2.2.2.1 l4.1.2.2.1).length:Int),0,())).bind λx9=>
        match x9 with
        | .inl l7=>
          some (((decide ((-1)>=0)),()),())
        | .inr l8=>
          some (((decide (l8.2.2.2.2.2.2.2.2.2.2.2.1>=0)),()),())
     else
      none
def zzf:Ct:=⟨[(.bor,zh),(.bor,(.int .i64)),(.bor,(.int .i64))],[(.bool,.b)],λx=>zoa x.1 x.2.1 x.2.2.1⟩
def qj8:Cx:=⟨tab,arrs,[],[(230,Tryz.f230,qhd),(266,Tryz.f266,qhe),(237,Tryz.f237,qhf)],gl,[]⟩
theorem qj9:FnOk gl Tryz.prog 180 zzf:=
 fo qj8 qj7 3 (oz trivial ⟨⟨Tryz.func230,by kernel_rfl,(ll 0 (by kernel_rfl) trivial)⟩,⟨Tryz.func266,by kernel_rfl,(ll 1 (by kernel_rfl) (lc zx1 (by kernel_rfl) (λd=>by kernel_rfl) trivial))⟩,⟨Tryz.func237,by kernel_rfl,(ll 0 (by kernel_rfl) trivial)⟩,trivial⟩) Tryz.func180 (by kernel_rfl) (by kernel_rfl) (by kernel_rfl)
  (ll 2 (by kernel_rfl) (lc zyt (by kernel_rfl) (λd=>by kernel_rfl) (lc zyu (by kernel_rfl) (λd=>by kernel_rfl) trivial))) (λx=>by kernel_rfl)
def q0r:Plan:=⟨[],[],0,0⟩
def zdz (t0:PV .str)(t1:PV .str):Option (PVs [.str]×PVs []):=
 (zjq t1).bind λr4=>
   bif r4.1.1 then
    bif decide (t0.length+t1.length<=1099511627776) then
     some (((t0++t1),()),())
    else
     none
   else
    bif decide (t0.length+t1.length<=1099511627776) then
     bif decide ((t0++t1).length+[10].length<=1099511627776) then
      bif decide (((t0++t1)++[10]).length+[92,32,110,111,110,101,10].length<=1099511627776) then
       some (((((t0++t1)++[10])++[92,32,110,111,110,101,10]),()),())
      else
       none
     else
      none
    else
     none
def zuh:Ct:=⟨[(.bor,.str),(.bor,.str)],[(.str,.b)],λx=>zdz x.1 x.2.1⟩
def q0s:Cx:=⟨tab,arrs,[(157,ztj)],[],gl,[]⟩
theorem z8h:FnOk gl Tryz.prog 181 zuh:=
 fo q0s q0r 0 (oz ⟨z4s,trivial⟩ trivial) Tryz.func181 (by kernel_rfl) (by kernel_rfl) (by kernel_rfl)
  (ll 0 (by kernel_rfl) trivial) (λx=>by kernel_rfl)
def qrz:Plan:=⟨[],[],0,0⟩
def zhs (t0:PV zo):Option (PVs [.str]×PVs []):=
 bif cutB t0.1 (IntKind.wrap .i64 (t0.1+1)) [63,32,45,43].length then
  some (((cutL t0.1 (IntKind.wrap .i64 (t0.1+1)) [63,32,45,43]),()),())
 else
  none
def zs4:Ct:=⟨[(.bor,zo)],[(.str,.b)],λx=>zhs x.1⟩
def qr0:Cx:=⟨tab,arrs,[],[],gl,[]⟩
theorem z3b:FnOk gl Tryz.prog 182 zs4:=
 fo qr0 qrz 0 (oz trivial trivial) Tryz.func182 (by kernel_rfl) (by kernel_rfl) (by kernel_rfl)
  (ll 0 (by kernel_rfl) trivial) (λx=>by kernel_rfl)
def qln:List Out:=[⟨.normal,⟨[],[1,2,5,7,9,10,11,29],[]⟩,mkSh 46 [(1,.val (.int .i64) .b),(2,.var zh .b),(5,.val .str .b),(7,.var zo .b),(9,.val zi .b),(10,.val (.int .i64) .b),(11,.val (.int .i64) .b),(29,.val .bool .b)]⟩]
def qlo:List Out:=[⟨.normal,⟨[],[1,2,5,9,10,11,34,35,36,37],[]⟩,mkSh 46 [(1,.val (.int .i64) .b),(2,.var zh .b),(5,.val .str .b),(9,.val zi .b),(10,.val (.int .i64) .b),(11,.val (.int .i64) .b)]⟩]
def qka:List Sh:=mkSh 46 [(1,.val (.int .i64) .b),(2,.var zh .b),(5,.val .str .b),(9,.val zi .b),(10,.val (.int .i64) .b),(11,.val (.int .i64) .b)]
def qlp:List Out:=[⟨.exit 0,⟨[],[5],[]⟩,mkSh 46 [(5,.val .str .b)]⟩]
def zg7 (t1:PV (.int .i64))(t2:PV zh)(t5:PV .str)(t9:PV zi)(t10:PV (.int .i64))(t11:PV (.int .i64)):Option ((PV (.int .i64)×PV zh×PV .str×PV zi×PV (.int .i64)×PV (.int .i64)×Unit)⊕((PV .str×Unit))):=
 bif (decide (t11<t10)) then
  ((
    bif inB t11 t9.length then
     bif (((t9.getD t11.toNat (dflt zo)).1)==t1) then
      some (t1,t2,t5,t9,t10,t11,())
     else
      ((
        bif (!(((t9.getD t11.toNat (dflt zo)).1)==1)) then
         (zoa t2 t11 t1).bind λr1=>
           some (t1,t2,t5,(t9.getD t11.toNat (dflt zo)),t9,t10,t11,r1.1.1,())
        else
         some (t1,t2,t5,(t9.getD t11.toNat (dflt zo)),t9,t10,t11,false,()):Option ((PV (.int .i64)×PV zh×PV .str×PV zo×PV zi×PV (.int .i64)×PV (.int .i64)×PV .bool×Unit)))).bind λj2=>
        bif j2.2.2.2.2.2.2.2.1 then
         (zdz [33,32] j2.2.2.2.1.2.1).bind λr3=>
           bif decide (j2.2.2.1.length+r3.1.1.length<=1099511627776) then
            some (j2.1,j2.2.1,(j2.2.2.1++r3.1.1),j2.2.2.2.2.1,j2.2.2.2.2.2.1,j2.2.2.2.2.2.2.1,())
           else
            none
        else
         (zhs j2.2.2.2.1).bind λr4=>
           bif decide (r4.1.1.length+[32].length<=1099511627776) then
            (zdz (r4.1.1++[32]) j2.2.2.2.1.2.1).bind λr5=>
              bif decide (j2.2.2.1.length+r5.1.1.length<=1099511627776) then
               some (j2.1,j2.2.1,(j2.2.2.1++r5.1.1),j2.2.2.2.2.1,j2.2.2.2.2.2.1,j2.2.2.2.2.2.2.1,())
              else
               none
           else
            none
    else
     none:Option ((PV (.int .i64)×PV zh×PV .str×PV zi×PV (.int .i64)×PV (.int .i64)×Unit)))).bind λj6=>
    some (.inl (j6.1,j6.2.1,j6.2.2.1,j6.2.2.2.1,j6.2.2.2.2.1,(IntKind.wrap .i64 (j6.2.2.2.2.2.1+1)),()))
 else
  some (.inr (t5,()))
def zz0:PV (.int .i64)×PV zh×PV .str×PV zi×PV (.int .i64)×PV (.int .i64)×Unit->Option ((PV .str×Unit)):=fix λd=>zg7 d.1 d.2.1 d.2.2.1 d.2.2.2.1 d.2.2.2.2.1 d.2.2.2.2.2.1
def zzg:Lp:=⟨⟨[],[1,2,5,9,10,11,34,35,36,37],[]⟩,qka,qlp,λd=>zg7 d.1 d.2.1 d.2.2.1 d.2.2.2.1 d.2.2.2.2.1 d.2.2.2.2.2.1⟩
def qnm:Plan:=⟨[(8,qln),(9,qlo)],[(3,zzg)],0,0⟩
def zjd (t0:PV zh)(t1:PV (.int .i64)):Option (PVs [.str]×PVs []):=
 (zz0 (t1,t0,[],t0.2.2.1,(t0.2.2.1.length:Int),0,())).bind λl8=>
   some ((l8.1,()),())
def z0p:Ct:=⟨[(.bor,zh),(.bor,(.int .i64))],[(.str,.b)],λx=>zjd x.1 x.2.1⟩
def qnn:Cx:=⟨tab,arrs,[(180,zzf),(181,zuh),(182,zs4)],[],gl,[]⟩
theorem qnp:FnOk gl Tryz.prog 107 z0p:=
 fo qnn qnm 0 (oz ⟨qj9,z8h,z3b,trivial⟩ trivial) Tryz.func107 (by kernel_rfl) (by kernel_rfl) (by kernel_rfl)
  (ll 1 (by kernel_rfl) (lc zzg (by kernel_rfl) (λd=>by kernel_rfl) trivial)) (λx=>by kernel_rfl)
def qnq:List Out:=[⟨.normal,⟨[],[3,5,7,8,9,10],[]⟩,mkSh 60 [(3,.val .str .b),(5,.var zh .b),(7,.val (.int .i64) .b),(8,.val zk .b),(9,.val (.int .i64) .b),(10,.val (.int .i64) .b)]⟩]
def qlq:List Out:=[⟨.normal,⟨[],[3,8,9,10],[]⟩,mkSh 60 [(3,.val .str .b),(8,.val zk .b),(9,.val (.int .i64) .b),(10,.val (.int .i64) .b)]⟩]
def qlr:List Sh:=mkSh 60 [(3,.val .str .b),(8,.val zk .b),(9,.val (.int .i64) .b),(10,.val (.int .i64) .b)]
def qnr:List Out:=[⟨.exit 0,⟨[],[3],[]⟩,mkSh 60 [(3,.val .str .b)]⟩]
def zha (t3:PV .str)(t8:PV zk)(t9:PV (.int .i64))(t10:PV (.int .i64)):Option ((PV .str×PV zk×PV (.int .i64)×PV (.int .i64)×Unit)⊕((PV .str×Unit))):=
 bif (decide (t10<t9)) then
  ((
    bif inB t10 t8.length then
     (zer (t8.getD t10.toNat (dflt zh))).bind λr3=>
       (zeo (t8.getD t10.toNat (dflt zh))).bind λr4=>
         (zhr ((t8.getD t10.toNat (dflt zh)).1) (r3.1.1.length:Int)).bind λr8=>
           (zj6 ((t8.getD t10.toNat (dflt zh)).1) (r3.1.1.length:Int)).bind λr9=>
             (zjx r8.1.1 r9.1.1).bind λr10=>
               bif decide ([42,42,42,42,42,42,42,42,42,42,42,42,42,42,42,10,42,42,42,32].length+r10.1.1.length<=1099511627776) then
                bif decide (([42,42,42,42,42,42,42,42,42,42,42,42,42,42,42,10,42,42,42,32]++r10.1.1).length+[32,42,42,42,42,10].length<=1099511627776) then
                 bif decide (t3.length+(([42,42,42,42,42,42,42,42,42,42,42,42,42,42,42,10,42,42,42,32]++r10.1.1)++[32,42,42,42,42,10]).length<=1099511627776) then
                  ((
                    (zjf (t8.getD t10.toNat (dflt zh)) 2).bind λr12=>
                      bif r12.1.1 then
                       (zjd (t8.getD t10.toNat (dflt zh)) 3).bind λr13=>
                         bif decide ((t3++(([42,42,42,42,42,42,42,42,42,42,42,42,42,42,42,10,42,42,42,32]++r10.1.1)++[32,42,42,42,42,10])).length+r13.1.1.length<=1099511627776) then
                          some (((t3++(([42,42,42,42,42,42,42,42,42,42,42,42,42,42,42,10,42,42,42,32]++r10.1.1)++[32,42,42,42,42,10]))++r13.1.1),(t8.getD t10.toNat (dflt zh)),(r4.1.1.length:Int),t8,t9,t10,())
                         else
                          none
                      else
                       some ((t3++(([42,42,42,42,42,42,42,42,42,42,42,42,42,42,42,10,42,42,42,32]++r10.1.1)++[32,42,42,42,42,10])),(t8.getD t10.toNat (dflt zh)),(r4.1.1.length:Int),t8,t9,t10,()):Option ((PV .str×PV zh×PV (.int .i64)×PV zk×PV (.int .i64)×PV (.int .i64)×Unit)))).bind λj14=>
                    (zhr j14.2.1.2.1 j14.2.2.1).bind λr18=>
                      (zj6 j14.2.1.2.1 j14.2.2.1).bind λr19=>
                        (zjx r18.1.1 r19.1.1).bind λr20=>
                          bif decide ([45,45,45,32].length+r20.1.1.length<=1099511627776) then
                           bif decide (([45,45,45,32]++r20.1.1).length+[32,45,45,45,45,10].length<=1099511627776) then
                            bif decide (j14.1.length+(([45,45,45,32]++r20.1.1)++[32,45,45,45,45,10]).length<=1099511627776) then
                             (zjf j14.2.1 3).bind λr22=>
                               bif r22.1.1 then
                                (zjd j14.2.1 2).bind λr23=>
                                  bif decide ((j14.1++(([45,45,45,32]++r20.1.1)++[32,45,45,45,45,10])).length+r23.1.1.length<=1099511627776) then
                                   some (((j14.1++(([45,45,45,32]++r20.1.1)++[32,45,45,45,45,10]))++r23.1.1),j14.2.2.2.1,j14.2.2.2.2.1,j14.2.2.2.2.2.1,())
                                  else
                                   none
                               else
                                some ((j14.1++(([45,45,45,32]++r20.1.1)++[32,45,45,45,45,10])),j14.2.2.2.1,j14.2.2.2.2.1,j14.2.2.2.2.2.1,())
                            else
                             none
                           else
                            none
                          else
                           none
                 else
                  none
                else
                 none
               else
                none
    else
     none:Option ((PV .str×PV zk×PV (.int .i64)×PV (.int .i64)×Unit)))).bind λj24=>
    some (.inl (j24.1,j24.2.1,j24.2.2.1,(IntKind.wrap .i64 (j24.2.2.2.1+1)),()))
 else
  some (.inr (t3,()))
def z0q:PV .str×PV zk×PV (.int .i64)×PV (.int .i64)×Unit->Option ((PV .str×Unit)):=fix λd=>zha d.1 d.2.1 d.2.2.1 d.2.2.2.1
def zz1:Lp:=⟨⟨[],[3,8,9,10],[]⟩,qlr,qnr,λd=>zha d.1 d.2.1 d.2.2.1 d.2.2.2.1⟩
def qph:Plan:=⟨[(9,qnq),(12,qlq)],[(3,zz1)],0,0⟩
def zot (t0:PV zk):Option (PVs [.str]×PVs []):=
 (z0q ([],t0,(t0.length:Int),0,())).bind λl26=>
   some ((l26.1,()),())
def z1o:Ct:=⟨[(.bor,zk)],[(.str,.b)],λx=>zot x.1⟩
def qpi:Cx:=⟨tab,arrs,[(107,z0p),(136,z6q),(150,zln),(151,zlf),(165,zs3),(166,z8g),(167,z1m)],[],gl,[]⟩
theorem qpj:FnOk gl Tryz.prog 99 z1o:=
 fo qpi qph 0 (oz ⟨qnp,qyn,zom,zn9,z3a,q0q,qpg,trivial⟩ trivial) Tryz.func99 (by kernel_rfl) (by kernel_rfl) (by kernel_rfl)
  (ll 1 (by kernel_rfl) (lc zz1 (by kernel_rfl) (λd=>by kernel_rfl) trivial)) (λx=>by kernel_rfl)
def q0t:Plan:=⟨[],[],0,0⟩
def zmq (t0:PV .str):Option (PVs [.str,.bool]×PVs []):=
 bif (decide ((t0.length:Int)>3000)) then
  some (([],false,()),())
 else
  some ((t0,true,()),())
def zui:Ct:=⟨[(.bor,.str)],[(.str,.b),(.bool,.b)],λx=>zmq x.1⟩
def q0u:Cx:=⟨tab,arrs,[],[],gl,[]⟩
theorem z8i:FnOk gl Tryz.prog 71 zui:=
 fo q0u q0t 0 (oz trivial trivial) Tryz.func71 (by kernel_rfl) (by kernel_rfl) (by kernel_rfl)
  (ll 0 (by kernel_rfl) trivial) (λx=>by kernel_rfl)
def qpk:Plan:=⟨[],[],0,0⟩
def zls (t0:PV zk):Option (PVs [.str,.bool]×PVs []):=
 (zjc t0).bind λr4=>
   bif (!r4.1.1) then
    some (([],false,()),())
   else
    (zot t0).bind λr5=>
      (zmq r5.1.1).bind λr6=>
        some ((r6.1.1,r6.1.2.1,()),())
def zsr:Ct:=⟨[(.bor,zk)],[(.str,.b),(.bool,.b)],λx=>zls x.1⟩
def qpl:Cx:=⟨tab,arrs,[(71,zui),(86,zoh),(99,z1o)],[],gl,[]⟩
theorem z1p:FnOk gl Tryz.prog 46 zsr:=
 fo qpl qpk 0 (oz ⟨z8i,zsm,qpj,trivial⟩ trivial) Tryz.func46 (by kernel_rfl) (by kernel_rfl) (by kernel_rfl)
  (ll 0 (by kernel_rfl) trivial) (λx=>by kernel_rfl)
def qls:Plan:=⟨[],[],0,0⟩
def zoe (t0:PV zf)(t1:PV zn)(t2:PV (.int .i64)):Option (PVs [.str,.bool]×PVs []):=
 (zly t0 t1 t2).bind λr2=>
   bif (!r2.1.2.1) then
    some (([],false,()),())
   else
    (zls r2.1.1).bind λr3=>
      some ((r3.1.1,r3.1.2.1,()),())
def zzq:Ct:=⟨[(.bor,zf),(.bor,zn),(.bor,(.int .i64))],[(.str,.b),(.bool,.b)],λx=>zoe x.1 x.2.1 x.2.2.1⟩
def qlt:Cx:=⟨tab,arrs,[(46,zsr),(55,zsz)],[],gl,[]⟩
theorem qk2:FnOk gl Tryz.prog 12 zzq:=
 fo qlt qls 0 (oz ⟨z1p,z2y,trivial⟩ trivial) Tryz.func12 (by kernel_rfl) (by kernel_rfl) (by kernel_rfl)
  (ll 0 (by kernel_rfl) trivial) (λx=>by kernel_rfl)
def qr1:List Sh:=mkSh 18 [(0,.val .str .b),(3,.val (.int .i64) .b)]
def qu5:List Out:=[⟨.exit 0,⟨[],[0],[]⟩,mkSh 18 [(0,.val .str .b)]⟩,⟨.ret,⟨[],[2],[]⟩,mkSh 18 [(2,.val .bool .b)]⟩]
def zey (t0:PV .str)(t3:PV (.int .i64)):Option ((PV .str×PV (.int .i64)×Unit)⊕((PV .str×Unit)⊕(PV .bool×Unit))):=
 bif (decide (t3<(IntKind.wrap .i64 ((t0.length:Int) -1)))) then
  bif inB t3 t0.length then
   bif (((t0.getD t3.toNat 0).toNat:Int)==10) then
    some (.inr (.inr (false,())))
   else
    some (.inl (t0,(IntKind.wrap .i64 (t3+1)),()))
  else
   none
 else
  some (.inr (.inl (t0,())))
def z4w:PV .str×PV (.int .i64)×Unit->Option ((PV .str×Unit)⊕(PV .bool×Unit)):=fix λd=>zey d.1 d.2.1
def z3c:Lp:=⟨⟨[],[0,3],[]⟩,qr1,qu5,λd=>zey d.1 d.2.1⟩
def qyo:Plan:=⟨[],[(2,z3c)],0,0⟩
def ze6 (t0:PV .str):Option (PVs [.bool]×PVs []):=
 (z4w (t0,0,())).bind λx6=>
   match x6 with
   | .inl l3=>
     (zck (l3.1.length:Int) 1 30).bind λr4=>
       some ((r4.1.1,()),())
   | .inr l5=>
     some ((l5.1,()),())
def zl3:Ct:=⟨[(.bor,.str)],[(.bool,.b)],λx=>ze6 x.1⟩
def qyp:Cx:=⟨tab,arrs,[(114,zif)],[],gl,[]⟩
theorem zo8:FnOk gl Tryz.prog 183 zl3:=
 fo qyp qyo 0 (oz ⟨zj5,trivial⟩ trivial) Tryz.func183 (by kernel_rfl) (by kernel_rfl) (by kernel_rfl)
  (ll 1 (by kernel_rfl) (lc z3c (by kernel_rfl) (λd=>by kernel_rfl) trivial)) (λx=>by kernel_rfl)
def qu6:List Out:=[⟨.normal,⟨[],[0,5,6,7,26],[]⟩,mkSh 31 [(0,.val zf .b),(5,.val zf .b),(6,.val (.int .i64) .b),(7,.val (.int .i64) .b),(26,.val .bool .b)]⟩]
def qr2:List Sh:=mkSh 31 [(0,.val zf .b),(5,.val zf .b),(6,.val (.int .i64) .b),(7,.val (.int .i64) .b)]
def qu7:List Out:=[⟨.exit 0,⟨[],[0],[]⟩,mkSh 31 [(0,.val zf .b)]⟩,⟨.ret,⟨[],[2],[]⟩,mkSh 31 [(2,.val .bool .b)]⟩]
def zez (t0:PV zf)(t5:PV zf)(t6:PV (.int .i64))(t7:PV (.int .i64)):Option ((PV zf×PV zf×PV (.int .i64)×PV (.int .i64)×Unit)⊕((PV zf×Unit)⊕(PV .bool×Unit))):=
 bif (decide (t7<t6)) then
  bif inB t7 t5.length then
   ((
     (ze6 (t5.getD t7.toNat [])).bind λr4=>
       bif (!r4.1.1) then
        some (t0,t5,t6,t7,true,())
       else
        bif (decide (t7<(IntKind.wrap .i64 ((t0.length:Int) -1)))) then
         (zda (t5.getD t7.toNat [])).bind λr5=>
           some (t0,t5,t6,t7,(!r5.1.1),())
        else
         some (t0,t5,t6,t7,false,()):Option ((PV zf×PV zf×PV (.int .i64)×PV (.int .i64)×PV .bool×Unit)))).bind λj6=>
     bif j6.2.2.2.2.1 then
      some (.inr (.inr (false,())))
     else
      some (.inl (j6.1,j6.2.1,j6.2.2.1,(IntKind.wrap .i64 (j6.2.2.2.1+1)),()))
  else
   none
 else
  some (.inr (.inl (t0,())))
def z4x:PV zf×PV zf×PV (.int .i64)×PV (.int .i64)×Unit->Option ((PV zf×Unit)⊕(PV .bool×Unit)):=fix λd=>zez d.1 d.2.1 d.2.2.1 d.2.2.2.1
def z3d:Lp:=⟨⟨[],[0,5,6,7,16,17,18,19,20,21,22,23,24,25],[]⟩,qr2,qu7,λd=>zez d.1 d.2.1 d.2.2.1 d.2.2.2.1⟩
def qyq:Plan:=⟨[(5,qu6)],[(2,z3d)],0,0⟩
def zmi (t0:PV zf):Option (PVs [.bool]×PVs []):=
 (z4x (t0,t0,(t0.length:Int),0,())).bind λx11=>
   match x11 with
   | .inl l9=>
     some (((decide ((l9.1.length:Int)<=40)),()),())
   | .inr l10=>
     some ((l10.1,()),())
def zt1:Ct:=⟨[(.bor,zf)],[(.bool,.b)],λx=>zmi x.1⟩
def qyr:Cx:=⟨tab,arrs,[(128,zhz),(183,zl3)],[],gl,[]⟩
theorem z6r:FnOk gl Tryz.prog 158 zt1:=
 fo qyr qyq 0 (oz ⟨zjo,zo8,trivial⟩ trivial) Tryz.func158 (by kernel_rfl) (by kernel_rfl) (by kernel_rfl)
  (ll 1 (by kernel_rfl) (lc z3d (by kernel_rfl) (λd=>by kernel_rfl) trivial)) (λx=>by kernel_rfl)
def qr3:List Out:=[⟨.normal,⟨[],[0,1,6,9,10,11,75,92,93],[]⟩,mkSh 95 [(0,.val (.int .i64) .b),(1,.val zn .b),(6,.var zl .b),(9,.val zn .b),(10,.val (.int .i64) .b),(11,.val (.int .i64) .b),(75,.val .bool .b)]⟩]
def qpm:List Sh:=mkSh 95 [(0,.val (.int .i64) .b),(1,.val zn .b),(9,.val zn .b),(10,.val (.int .i64) .b),(11,.val (.int .i64) .b),(77,.val zf .b),(78,.val (.int .i64) .b),(79,.val (.int .i64) .b)]
def qr4:List Out:=[⟨.exit 2,⟨[],[0,1,9,10,11,20,21,22,25,26,27,28,31,32,33,34,35,36,37,40,41,42,43,44,45,46,49,50,51,52,55,56,57,58,59,60,61,62,63,64,65,66,67,68,69,70,71,72,73,74,92,93],[]⟩,mkSh 95 [(0,.val (.int .i64) .b),(1,.val zn .b),(9,.val zn .b),(10,.val (.int .i64) .b),(11,.val (.int .i64) .b)]⟩,⟨.ret,⟨[],[4],[]⟩,mkSh 95 [(4,.val .bool .b)]⟩]
def zes (t0:PV (.int .i64))(t1:PV zn)(t9:PV zn)(t10:PV (.int .i64))(t11:PV (.int .i64))(t77:PV zf)(t78:PV (.int .i64))(t79:PV (.int .i64)):Option ((PV (.int .i64)×PV zn×PV zn×PV (.int .i64)×PV (.int .i64)×PV zf×PV (.int .i64)×PV (.int .i64)×Unit)⊕((PV (.int .i64)×PV zn×PV zn×PV (.int .i64)×PV (.int .i64)×Unit)⊕(PV .bool×Unit))):=
 bif (decide (t79<t78)) then
  bif inB t79 t77.length then
   (ze6 (t77.getD t79.toNat [])).bind λr6=>
     bif (!r6.1.1) then
      some (.inr (.inr (false,())))
     else
      some (.inl (t0,t1,t9,t10,t11,t77,t78,(IntKind.wrap .i64 (t79+1)),()))
  else
   none
 else
  some (.inr (.inl (t0,t1,t9,t10,t11,())))
def zs5:PV (.int .i64)×PV zn×PV zn×PV (.int .i64)×PV (.int .i64)×PV zf×PV (.int .i64)×PV (.int .i64)×Unit->Option ((PV (.int .i64)×PV zn×PV zn×PV (.int .i64)×PV (.int .i64)×Unit)⊕(PV .bool×Unit)):=fix λd=>zes d.1 d.2.1 d.2.2.1 d.2.2.2.1 d.2.2.2.2.1 d.2.2.2.2.2.1 d.2.2.2.2.2.2.1 d.2.2.2.2.2.2.2.1
def z1q:Lp:=⟨⟨[],[0,1,9,10,11,20,21,22,25,26,27,28,31,32,33,34,35,36,37,40,41,42,43,44,45,46,49,50,51,52,55,56,57,58,59,60,61,62,63,64,65,66,67,68,69,70,71,72,73,74,77,78,79,92,93],[]⟩,qpm,qr4,λd=>zes d.1 d.2.1 d.2.2.1 d.2.2.2.1 d.2.2.2.2.1 d.2.2.2.2.2.1 d.2.2.2.2.2.2.1 d.2.2.2.2.2.2.2.1⟩
def qpn:List Sh:=mkSh 95 [(0,.val (.int .i64) .b),(1,.val zn .b),(9,.val zn .b),(10,.val (.int .i64) .b),(11,.val (.int .i64) .b)]
def qr5:List Out:=[⟨.exit 0,⟨[],[0,1,92,93],[]⟩,mkSh 95 [(0,.val (.int .i64) .b),(1,.val zn .b)]⟩,⟨.ret,⟨[],[4],[]⟩,mkSh 95 [(4,.val .bool .b)]⟩]
def zet (t0:PV (.int .i64))(t1:PV zn)(t9:PV zn)(t10:PV (.int .i64))(t11:PV (.int .i64)):Option ((PV (.int .i64)×PV zn×PV zn×PV (.int .i64)×PV (.int .i64)×Unit)⊕((PV (.int .i64)×PV zn×Unit)⊕(PV .bool×Unit))):=
 bif (decide (t11<t10)) then
  bif inB t11 t9.length then
   ((
     bif (decide (((t9.getD t11.toNat (dflt zl)).1)<0)) then
      some (t0,t1,(t9.getD t11.toNat (dflt zl)),t9,t10,t11,true,())
     else
      bif (decide ((((t9.getD t11.toNat (dflt zl)).2).1)<0)) then
       some (t0,t1,(t9.getD t11.toNat (dflt zl)),t9,t10,t11,true,())
      else
       bif (decide ((((t9.getD t11.toNat (dflt zl)).2).1)>t0)) then
        some (t0,t1,(t9.getD t11.toNat (dflt zl)),t9,t10,t11,true,())
       else
        bif (decide (((t9.getD t11.toNat (dflt zl)).1)>(IntKind.wrap .i64 (t0 -(((t9.getD t11.toNat (dflt zl)).2).1))))) then
         some (t0,t1,(t9.getD t11.toNat (dflt zl)),t9,t10,t11,true,())
        else
         bif ((IntKind.wrap .i64 ((((t9.getD t11.toNat (dflt zl)).2).1)+(((((t9.getD t11.toNat (dflt zl)).2).2).1).length:Int)))==0) then
          some (t0,t1,(t9.getD t11.toNat (dflt zl)),t9,t10,t11,true,())
         else
          bif (decide ((((((t9.getD t11.toNat (dflt zl)).2).2).1).length:Int)>40)) then
           some (t0,t1,(t9.getD t11.toNat (dflt zl)),t9,t10,t11,true,())
          else
           bif (decide (t11>0)) then
            bif inB (IntKind.wrap .i64 (t11 -1)) t1.length then
             bif inB (IntKind.wrap .i64 (t11 -1)) t1.length then
              some (t0,t1,(t9.getD t11.toNat (dflt zl)),t9,t10,t11,(decide (((t9.getD t11.toNat (dflt zl)).1)<=(IntKind.wrap .i64 (((t1.getD ((IntKind.wrap .i64 (t11 -1)).toNat) (dflt zl)).1)+(((t1.getD ((IntKind.wrap .i64 (t11 -1)).toNat) (dflt zl)).2).1))))),())
             else
              none
            else
             none
           else
            some (t0,t1,(t9.getD t11.toNat (dflt zl)),t9,t10,t11,false,()):Option ((PV (.int .i64)×PV zn×PV zl×PV zn×PV (.int .i64)×PV (.int .i64)×PV .bool×Unit)))).bind λj6=>
     bif j6.2.2.2.2.2.2.1 then
      some (.inr (.inr (false,())))
     else
      (zs5 (j6.1,j6.2.1,j6.2.2.2.1,j6.2.2.2.2.1,j6.2.2.2.2.2.1,j6.2.2.1.2.2.1,(j6.2.2.1.2.2.1.length:Int),0,())).bind λx14=>
        match x14 with
        | .inl l7=>
          some (.inl (l7.1,l7.2.1,l7.2.2.1,l7.2.2.2.1,(IntKind.wrap .i64 (l7.2.2.2.2.1+1)),()))
        | .inr l8=>
          some (.inr (.inr (l8.1,())))
  else
   none
 else
  some (.inr (.inl (t0,t1,())))
def z3e:PV (.int .i64)×PV zn×PV zn×PV (.int .i64)×PV (.int .i64)×Unit->Option ((PV (.int .i64)×PV zn×Unit)⊕(PV .bool×Unit)):=fix λd=>zet d.1 d.2.1 d.2.2.1 d.2.2.2.1 d.2.2.2.2.1
def z1r:Lp:=⟨⟨[],[0,1,9,10,11,20,21,22,25,26,27,28,31,32,33,34,35,36,37,40,41,42,43,44,45,46,49,50,51,52,55,56,57,58,59,60,61,62,63,64,65,66,67,68,69,70,71,72,73,74,92,93],[]⟩,qpn,qr5,λd=>zet d.1 d.2.1 d.2.2.1 d.2.2.2.1 d.2.2.2.2.1⟩
def qu8:Plan:=⟨[(5,qr3)],[(7,z1q),(2,z1r)],0,0⟩
def zo9 (t0:PV (.int .i64))(t1:PV zn):Option (PVs [.bool]×PVs []):=
 (z3e (t0,t1,t1,(t1.length:Int),0,())).bind λx15=>
   match x15 with
   | .inl l11=>
     bif (decide ((l11.2.1.length:Int)<=20)) then
      (zck l11.1 0 40).bind λr12=>
        some ((r12.1.1,()),())
     else
      some ((false,()),())
   | .inr l13=>
     some ((l13.1,()),())
def z4y:Ct:=⟨[(.bor,(.int .i64)),(.bor,zn)],[(.bool,.b)],λx=>zo9 x.1 x.2.1⟩
def qu9:Cx:=⟨tab,arrs,[(114,zif),(183,zl3)],[],gl,[]⟩
theorem qva:FnOk gl Tryz.prog 229 z4y:=
 fo qu9 qu8 0 (oz ⟨zj5,zo8,trivial⟩ trivial) Tryz.func229 (by kernel_rfl) (by kernel_rfl) (by kernel_rfl)
  (ll 2 (by kernel_rfl) (lc z1r (by kernel_rfl) (λd=>by kernel_rfl) (lc z1q (by kernel_rfl) (λd=>by kernel_rfl) trivial))) (λx=>by kernel_rfl)
def qvb:Plan:=⟨[],[],0,0⟩
def zt2 (t0:PV zf)(t1:PV zn):Option (PVs [.bool]×PVs []):=
 (zmi t0).bind λr1=>
   bif r1.1.1 then
    (zo9 (t0.length:Int) t1).bind λr2=>
      some ((r2.1.1,()),())
   else
    some ((false,()),())
def z4z:Ct:=⟨[(.bor,zf),(.bor,zn)],[(.bool,.b)],λx=>zt2 x.1 x.2.1⟩
def qvc:Cx:=⟨tab,arrs,[(158,zt1),(229,z4y)],[],gl,[]⟩
theorem qvd:FnOk gl Tryz.prog 160 z4z:=
 fo qvc qvb 0 (oz ⟨z6r,qva,trivial⟩ trivial) Tryz.func160 (by kernel_rfl) (by kernel_rfl) (by kernel_rfl)
  (ll 0 (by kernel_rfl) trivial) (λx=>by kernel_rfl)
def qpo:List Sh:=mkSh 37 [(0,.val zf .b),(5,.val zf (.row .b)),(6,.val (.int .i64) .b),(9,.val zn .b),(10,.val (.int .i64) .b),(11,.val (.int .i64) .b)]
def qr6:List Out:=[⟨.exit 0,⟨[],[0,5,6],[]⟩,mkSh 37 [(0,.val zf .b),(5,.val zf (.row .b)),(6,.val (.int .i64) .b)]⟩]
def zhi (t0:PV zf)(t5:PV zf)(t6:PV (.int .i64))(t9:PV zn)(t10:PV (.int .i64))(t11:PV (.int .i64)):Option ((PV zf×PV zf×PV (.int .i64)×PV zn×PV (.int .i64)×PV (.int .i64)×Unit)⊕((PV zf×PV zf×PV (.int .i64)×Unit))):=
 bif (decide (t11<t10)) then
  bif inB t11 t9.length then
   bif cutB t6 ((t9.getD t11.toNat (dflt zl)).1) t0.length then
    bif qm (t5.length+(cutL t6 ((t9.getD t11.toNat (dflt zl)).1) t0).length) then
     bif qm ((t5++(cutL t6 ((t9.getD t11.toNat (dflt zl)).1) t0)).length+((((t9.getD t11.toNat (dflt zl)).2).2).1).length) then
      some (.inl (t0,((t5++(cutL t6 ((t9.getD t11.toNat (dflt zl)).1) t0))++((((t9.getD t11.toNat (dflt zl)).2).2).1)),(IntKind.wrap .i64 (((t9.getD t11.toNat (dflt zl)).1)+(((t9.getD t11.toNat (dflt zl)).2).1))),t9,t10,(IntKind.wrap .i64 (t11+1)),()))
     else
      none
    else
     none
   else
    none
  else
   none
 else
  some (.inr (t0,t5,t6,()))
def zs6:PV zf×PV zf×PV (.int .i64)×PV zn×PV (.int .i64)×PV (.int .i64)×Unit->Option ((PV zf×PV zf×PV (.int .i64)×Unit)):=fix λd=>zhi d.1 d.2.1 d.2.2.1 d.2.2.2.1 d.2.2.2.2.1 d.2.2.2.2.2.1
def z1s:Lp:=⟨⟨[],[0,5,6,9,10,11],[]⟩,qpo,qr6,λd=>zhi d.1 d.2.1 d.2.2.1 d.2.2.2.1 d.2.2.2.2.1 d.2.2.2.2.2.1⟩
def qve:Plan:=⟨[],[(4,z1s)],0,0⟩
def zpa (t0:PV zf)(t1:PV zn):Option (PVs [zf]×PVs []):=
 (zs6 (t0,[],0,t1,(t1.length:Int),0,())).bind λl2=>
   bif cutB l2.2.2.1 (l2.1.length:Int) l2.1.length then
    bif qm (l2.2.1.length+(cutL l2.2.2.1 (l2.1.length:Int) l2.1).length) then
     some (((l2.2.1++(cutL l2.2.2.1 (l2.1.length:Int) l2.1)),()),())
    else
     none
   else
    none
def z5a:Ct:=⟨[(.bor,zf),(.bor,zn)],[(zf,(.row .b))],λx=>zpa x.1 x.2.1⟩
def qvf:Cx:=⟨tab,arrs,[],[],gl,[]⟩
theorem qvg:FnOk gl Tryz.prog 161 z5a:=
 fo qvf qve 0 (oz trivial trivial) Tryz.func161 (by kernel_rfl) (by kernel_rfl) (by kernel_rfl)
  (ll 1 (by kernel_rfl) (lc z1s (by kernel_rfl) (λd=>by kernel_rfl) trivial)) (λx=>by kernel_rfl)
def q0v:Plan:=⟨[],[],0,0⟩
def zp5 (t0:PV zf)(t1:PV zn):Option (PVs [zf,.bool]×PVs []):=
 (zt2 t0 t1).bind λr4=>
   bif (!r4.1.1) then
    some (([],false,()),())
   else
    (zpa t0 t1).bind λr6=>
      (zmi r6.1.1).bind λr10=>
        bif (!r10.1.1) then
         some (([],false,()),())
        else
         some ((r6.1.1,true,()),())
def z8j:Ct:=⟨[(.bor,zf),(.bor,zn)],[(zf,(.row .b)),(.bool,.b)],λx=>zp5 x.1 x.2.1⟩
def q0w:Cx:=⟨tab,arrs,[(158,zt1),(160,z4z),(161,z5a)],[],gl,[]⟩
theorem q0x:FnOk gl Tryz.prog 93 z8j:=
 fo q0w q0v 0 (oz ⟨z6r,qvd,qvg,trivial⟩ trivial) Tryz.func93 (by kernel_rfl) (by kernel_rfl) (by kernel_rfl)
  (ll 0 (by kernel_rfl) trivial) (λx=>by kernel_rfl)
def qys:Plan:=⟨[],[],0,0⟩
def zib (t0:PV (.int .i64))(t1:PV (.int .i64)):Option (PVs [(.int .i64)]×PVs []):=
 bif (decide (t0>t1)) then
  some ((t0,()),())
 else
  some ((t1,()),())
def zt3:Ct:=⟨[(.bor,(.int .i64)),(.bor,(.int .i64))],[((.int .i64),.b)],λx=>zib x.1 x.2.1⟩
def qyt:Cx:=⟨tab,arrs,[],[],gl,[]⟩
theorem z6s:FnOk gl Tryz.prog 238 zt3:=
 fo qyt qys 0 (oz trivial trivial) Tryz.func238 (by kernel_rfl) (by kernel_rfl) (by kernel_rfl)
  (ll 0 (by kernel_rfl) trivial) (λx=>by kernel_rfl)
def qr7:List Sh:=mkSh 22 [(0,.val (.int .i64) .b),(5,.val zi (.row (.pr .b (.pr .b .b)))),(8,.val zf .b),(9,.val (.int .i64) .b),(10,.val (.int .i64) .b)]
def qvh:List Out:=[⟨.exit 0,⟨[],[5],[]⟩,mkSh 22 [(5,.val zi (.row (.pr .b (.pr .b .b))))]⟩]
def zht (t0:PV (.int .i64))(t5:PV zi)(t8:PV zf)(t9:PV (.int .i64))(t10:PV (.int .i64)):Option ((PV (.int .i64)×PV zi×PV zf×PV (.int .i64)×PV (.int .i64)×Unit)⊕((PV zi×Unit))):=
 bif (decide (t10<t9)) then
  bif inB t10 t8.length then
   bif qm (t5.length+[(t0,((t8.getD t10.toNat []),()))].length) then
    some (.inl (t0,(t5++[(t0,((t8.getD t10.toNat []),()))]),t8,t9,(IntKind.wrap .i64 (t10+1)),()))
   else
    none
  else
   none
 else
  some (.inr (t5,()))
def z5b:PV (.int .i64)×PV zi×PV zf×PV (.int .i64)×PV (.int .i64)×Unit->Option ((PV zi×Unit)):=fix λd=>zht d.1 d.2.1 d.2.2.1 d.2.2.2.1 d.2.2.2.2.1
def z3f:Lp:=⟨⟨[],[0,5,8,9,10],[]⟩,qr7,qvh,λd=>zht d.1 d.2.1 d.2.2.1 d.2.2.2.1 d.2.2.2.2.1⟩
def qyu:Plan:=⟨[],[(3,z3f)],0,0⟩
def zic (t0:PV (.int .i64))(t1:PV zf):Option (PVs [zi]×PVs []):=
 (z5b (t0,[],t1,(t1.length:Int),0,())).bind λl2=>
   some ((l2.1,()),())
def z6t:Ct:=⟨[(.bor,(.int .i64)),(.bor,zf)],[(zi,(.row (.pr .b (.pr .b .b))))],λx=>zic x.1 x.2.1⟩
def qyv:Cx:=⟨tab,arrs,[],[],gl,[]⟩
theorem qyw:FnOk gl Tryz.prog 239 z6t:=
 fo qyv qyu 0 (oz trivial trivial) Tryz.func239 (by kernel_rfl) (by kernel_rfl) (by kernel_rfl)
  (ll 1 (by kernel_rfl) (lc z3f (by kernel_rfl) (λd=>by kernel_rfl) trivial)) (λx=>by kernel_rfl)
def qvi:List Sh:=mkSh 98 [(0,.val zf .b),(2,.val (.int .i64) .b),(8,.var zh (.pr .b (.pr .b (.pr (.row (.pr .b (.pr .b .b))) .b)))),(10,.var zl .b),(11,.var zh (.pr .b (.pr .b (.pr (.row (.pr .b (.pr .b .b))) .b)))),(12,.val (.int .i64) .b),(35,.val zn .b),(36,.val (.int .i64) .b),(37,.val (.int .i64) .b)]
def qyx:List Out:=[⟨.exit 0,⟨[],[0,2,8,10,11,12],[]⟩,mkSh 98 [(0,.val zf .b),(2,.val (.int .i64) .b),(8,.var zh (.pr .b (.pr .b (.pr (.row (.pr .b (.pr .b .b))) .b)))),(10,.var zl .b),(11,.var zh (.pr .b (.pr .b (.pr (.row (.pr .b (.pr .b .b))) .b)))),(12,.val (.int .i64) .b)]⟩]
def zh3 (t0:PV zf)(t2:PV (.int .i64))(t8:PV zh)(t10:PV zl)(t11:PV zh)(t12:PV (.int .i64))(t35:PV zn)(t36:PV (.int .i64))(t37:PV (.int .i64)):Option ((PV zf×PV (.int .i64)×PV zh×PV zl×PV zh×PV (.int .i64)×PV zn×PV (.int .i64)×PV (.int .i64)×Unit)⊕((PV zf×PV (.int .i64)×PV zh×PV zl×PV zh×PV (.int .i64)×Unit))):=
 bif (decide (t37<t36)) then
  bif inB t37 t35.length then
   bif cutB t12 ((t35.getD t37.toNat (dflt zl)).1) t0.length then
    (zic 1 (cutL t12 ((t35.getD t37.toNat (dflt zl)).1) t0)).bind λr10=>
      bif qm (t11.2.2.1.length+r10.1.1.length) then
       bif cutB ((t35.getD t37.toNat (dflt zl)).1) (IntKind.wrap .i64 (((t35.getD t37.toNat (dflt zl)).1)+(((t35.getD t37.toNat (dflt zl)).2).1))) t0.length then
        (zic 2 (cutL ((t35.getD t37.toNat (dflt zl)).1) (IntKind.wrap .i64 (((t35.getD t37.toNat (dflt zl)).1)+(((t35.getD t37.toNat (dflt zl)).2).1))) t0)).bind λr12=>
          bif qm ((t11.2.2.1++r10.1.1).length+r12.1.1.length) then
           (zic 3 ((((t35.getD t37.toNat (dflt zl)).2).2).1)).bind λr14=>
             bif qm (((t11.2.2.1++r10.1.1)++r12.1.1).length+r14.1.1.length) then
              some (.inl (t0,t2,t8,t10,(t11.1,(t11.2.1,((((t11.2.2.1++r10.1.1)++r12.1.1)++r14.1.1),t11.2.2.2))),(IntKind.wrap .i64 (((t35.getD t37.toNat (dflt zl)).1)+(((t35.getD t37.toNat (dflt zl)).2).1))),t35,t36,(IntKind.wrap .i64 (t37+1)),()))
             else
              none
          else
           none
       else
        none
      else
       none
   else
    none
  else
   none
 else
  some (.inr (t0,t2,t8,t10,t11,t12,()))
def z6u:PV zf×PV (.int .i64)×PV zh×PV zl×PV zh×PV (.int .i64)×PV zn×PV (.int .i64)×PV (.int .i64)×Unit->Option ((PV zf×PV (.int .i64)×PV zh×PV zl×PV zh×PV (.int .i64)×Unit)):=fix λd=>zh3 d.1 d.2.1 d.2.2.1 d.2.2.2.1 d.2.2.2.2.1 d.2.2.2.2.2.1 d.2.2.2.2.2.2.1 d.2.2.2.2.2.2.2.1 d.2.2.2.2.2.2.2.2.1
def z5c:Lp:=⟨⟨[],[0,2,8,10,11,12,35,36,37],[]⟩,qvi,qyx,λd=>zh3 d.1 d.2.1 d.2.2.1 d.2.2.2.1 d.2.2.2.2.1 d.2.2.2.2.2.1 d.2.2.2.2.2.2.1 d.2.2.2.2.2.2.2.1 d.2.2.2.2.2.2.2.2.1⟩
def q0y:Plan:=⟨[],[(6,z5c)],0,0⟩
def zp6 (t0:PV zf)(t1:PV zn)(t2:PV (.int .i64))(t3:PV (.int .i64)):Option (PVs [zh]×PVs []):=
 bif inB 0 t1.length then
  (zib 0 (IntKind.wrap .i64 (((t1.getD ((0:Int).toNat) (dflt zl)).1) -t2))).bind λr2=>
    bif inB (IntKind.wrap .i64 ((t1.length:Int) -1)) t1.length then
     (z6u (t0,t2,(0,(0,(([]:PV zi),()))),(t1.getD ((IntKind.wrap .i64 ((t1.length:Int) -1)).toNat) (dflt zl)),(r2.1.1,((IntKind.wrap .i64 (r2.1.1+t3)),(([]:PV zi),()))),r2.1.1,t1,(t1.length:Int),0,())).bind λl16=>
       (zh1 (l16.1.length:Int) (IntKind.wrap .i64 ((IntKind.wrap .i64 (l16.2.2.2.1.1+l16.2.2.2.1.2.1))+l16.2.1))).bind λr18=>
         bif cutB l16.2.2.2.2.2.1 r18.1.1 l16.1.length then
          (zic 1 (cutL l16.2.2.2.2.2.1 r18.1.1 l16.1)).bind λr20=>
            bif qm (l16.2.2.2.2.1.2.2.1.length+r20.1.1.length) then
             some (((l16.2.2.2.2.1.1,(l16.2.2.2.2.1.2.1,((l16.2.2.2.2.1.2.2.1++r20.1.1),l16.2.2.2.2.1.2.2.2))),()),())
            else
             none
         else
          none
    else
     none
 else
  none
def z8k:Ct:=⟨[(.bor,zf),(.bor,zn),(.bor,(.int .i64)),(.bor,(.int .i64))],[(zh,(.pr .b (.pr .b (.pr (.row (.pr .b (.pr .b .b))) .b))))],λx=>zp6 x.1 x.2.1 x.2.2.1 x.2.2.2.1⟩
def q1a:Cx:=⟨tab,arrs,[(121,zti),(238,zt3),(239,z6t)],[],gl,[]⟩
theorem q1b:FnOk gl Tryz.prog 189 z8k:=
 fo q1a q0y 0 (oz ⟨z4q,z6s,qyw,trivial⟩ trivial) Tryz.func189 (by kernel_rfl) (by kernel_rfl) (by kernel_rfl)
  (ll 1 (by kernel_rfl) (lc z5c (by kernel_rfl) (λd=>by kernel_rfl) trivial)) (λx=>by kernel_rfl)
def qns:List Sh:=mkSh 80 [(0,.val zf .b),(1,.val zn .b),(2,.val (.int .i64) .b),(7,.val zk (.row (.pr .b (.pr .b (.pr (.row (.pr .b (.pr .b .b))) .b))))),(8,.val (.int .i64) .b),(9,.val (.int .i64) .b),(10,.val (.int .i64) .b)]
def qpp:List Out:=[⟨.exit 2,⟨[],[0,1,2,7,8,9,10],[]⟩,mkSh 80 [(0,.val zf .b),(1,.val zn .b),(2,.val (.int .i64) .b),(7,.val zk (.row (.pr .b (.pr .b (.pr (.row (.pr .b (.pr .b .b))) .b))))),(8,.val (.int .i64) .b),(9,.val (.int .i64) .b),(10,.val (.int .i64) .b)]⟩]
def zb8 (t0:PV zf)(t1:PV zn)(t2:PV (.int .i64))(t7:PV zk)(t8:PV (.int .i64))(t9:PV (.int .i64))(t10:PV (.int .i64)):Option ((PV zf×PV zn×PV (.int .i64)×PV zk×PV (.int .i64)×PV (.int .i64)×PV (.int .i64)×Unit)⊕((PV zf×PV zn×PV (.int .i64)×PV zk×PV (.int .i64)×PV (.int .i64)×PV (.int .i64)×Unit))):=
 bif (decide (t10<(t1.length:Int))) then
  bif inB t10 t1.length then
   bif inB (IntKind.wrap .i64 (t10 -1)) t1.length then
    bif inB (IntKind.wrap .i64 (t10 -1)) t1.length then
     bif (decide ((IntKind.wrap .i64 (((t1.getD t10.toNat (dflt zl)).1) -(IntKind.wrap .i64 (((t1.getD ((IntKind.wrap .i64 (t10 -1)).toNat) (dflt zl)).1)+(((t1.getD ((IntKind.wrap .i64 (t10 -1)).toNat) (dflt zl)).2).1)))))<=(IntKind.wrap .i64 (2*t2)))) then
      some (.inl (t0,t1,t2,t7,t8,t9,(IntKind.wrap .i64 (t10+1)),()))
     else
      some (.inr (t0,t1,t2,t7,t8,t9,t10,()))
    else
     none
   else
    none
  else
   none
 else
  some (.inr (t0,t1,t2,t7,t8,t9,t10,()))
def z1t:PV zf×PV zn×PV (.int .i64)×PV zk×PV (.int .i64)×PV (.int .i64)×PV (.int .i64)×Unit->Option ((PV zf×PV zn×PV (.int .i64)×PV zk×PV (.int .i64)×PV (.int .i64)×PV (.int .i64)×Unit)):=fix λd=>zb8 d.1 d.2.1 d.2.2.1 d.2.2.2.1 d.2.2.2.2.1 d.2.2.2.2.2.1 d.2.2.2.2.2.2.1
def z0r:Lp:=⟨⟨[],[0,1,2,7,8,9,10],[]⟩,qns,qpp,λd=>zb8 d.1 d.2.1 d.2.2.1 d.2.2.2.1 d.2.2.2.2.1 d.2.2.2.2.2.1 d.2.2.2.2.2.2.1⟩
def qlu:List Sh:=mkSh 80 [(0,.val zf .b),(1,.val zn .b),(2,.val (.int .i64) .b),(7,.val zk (.row (.pr .b (.pr .b (.pr (.row (.pr .b (.pr .b .b))) .b))))),(8,.val (.int .i64) .b),(10,.val (.int .i64) .b),(63,.val zn .b),(64,.val (.int .i64) .b),(65,.val (.int .i64) .b)]
def qnt:List Out:=[⟨.exit 4,⟨[],[0,1,2,7,8,10,24,25,26,27,28,29,30,31,32,33,34,35,36,37,38,39,40,41,42,43,44,45],[]⟩,mkSh 80 [(0,.val zf .b),(1,.val zn .b),(2,.val (.int .i64) .b),(7,.val zk (.row (.pr .b (.pr .b (.pr (.row (.pr .b (.pr .b .b))) .b))))),(8,.val (.int .i64) .b),(10,.val (.int .i64) .b)]⟩]
def zhb (t0:PV zf)(t1:PV zn)(t2:PV (.int .i64))(t7:PV zk)(t8:PV (.int .i64))(t10:PV (.int .i64))(t63:PV zn)(t64:PV (.int .i64))(t65:PV (.int .i64)):Option ((PV zf×PV zn×PV (.int .i64)×PV zk×PV (.int .i64)×PV (.int .i64)×PV zn×PV (.int .i64)×PV (.int .i64)×Unit)⊕((PV zf×PV zn×PV (.int .i64)×PV zk×PV (.int .i64)×PV (.int .i64)×Unit))):=
 bif (decide (t65<t64)) then
  bif inB t65 t63.length then
   some (.inl (t0,t1,t2,t7,(IntKind.wrap .i64 (t8+(IntKind.wrap .i64 ((((((t63.getD t65.toNat (dflt zl)).2).2).1).length:Int) -(((t63.getD t65.toNat (dflt zl)).2).1))))),t10,t63,t64,(IntKind.wrap .i64 (t65+1)),()))
  else
   none
 else
  some (.inr (t0,t1,t2,t7,t8,t10,()))
def z0s:PV zf×PV zn×PV (.int .i64)×PV zk×PV (.int .i64)×PV (.int .i64)×PV zn×PV (.int .i64)×PV (.int .i64)×Unit->Option ((PV zf×PV zn×PV (.int .i64)×PV zk×PV (.int .i64)×PV (.int .i64)×Unit)):=fix λd=>zhb d.1 d.2.1 d.2.2.1 d.2.2.2.1 d.2.2.2.2.1 d.2.2.2.2.2.1 d.2.2.2.2.2.2.1 d.2.2.2.2.2.2.2.1 d.2.2.2.2.2.2.2.2.1
def zz2:Lp:=⟨⟨[],[0,1,2,7,8,10,24,25,26,27,28,29,30,31,32,33,34,35,36,37,38,39,40,41,42,43,44,45,63,64,65],[]⟩,qlu,qnt,λd=>zhb d.1 d.2.1 d.2.2.1 d.2.2.2.1 d.2.2.2.2.1 d.2.2.2.2.2.1 d.2.2.2.2.2.2.1 d.2.2.2.2.2.2.2.1 d.2.2.2.2.2.2.2.2.1⟩
def qnu:List Sh:=mkSh 80 [(0,.val zf .b),(1,.val zn .b),(2,.val (.int .i64) .b),(7,.val zk (.row (.pr .b (.pr .b (.pr (.row (.pr .b (.pr .b .b))) .b))))),(8,.val (.int .i64) .b),(9,.val (.int .i64) .b)]
def qpq:List Out:=[⟨.exit 0,⟨[],[7],[]⟩,mkSh 80 [(7,.val zk (.row (.pr .b (.pr .b (.pr (.row (.pr .b (.pr .b .b))) .b)))))]⟩]
def zfy (t0:PV zf)(t1:PV zn)(t2:PV (.int .i64))(t7:PV zk)(t8:PV (.int .i64))(t9:PV (.int .i64)):Option ((PV zf×PV zn×PV (.int .i64)×PV zk×PV (.int .i64)×PV (.int .i64)×Unit)⊕((PV zk×Unit))):=
 bif (decide (t9<(t1.length:Int))) then
  (z1t (t0,t1,t2,t7,t8,t9,(IntKind.wrap .i64 (t9+1)),())).bind λl2=>
    bif cutB l2.2.2.2.2.2.1 l2.2.2.2.2.2.2.1 l2.2.1.length then
     (zp6 l2.1 (cutL l2.2.2.2.2.2.1 l2.2.2.2.2.2.2.1 l2.2.1) l2.2.2.1 l2.2.2.2.2.1).bind λr4=>
       bif qm (l2.2.2.2.1.length+[r4.1.1].length) then
        bif cutB l2.2.2.2.2.2.1 l2.2.2.2.2.2.2.1 l2.2.1.length then
         (z0s (l2.1,l2.2.1,l2.2.2.1,(l2.2.2.2.1++[r4.1.1]),l2.2.2.2.2.1,l2.2.2.2.2.2.2.1,(cutL l2.2.2.2.2.2.1 l2.2.2.2.2.2.2.1 l2.2.1),((cutL l2.2.2.2.2.2.1 l2.2.2.2.2.2.2.1 l2.2.1).length:Int),0,())).bind λl6=>
           some (.inl (l6.1,l6.2.1,l6.2.2.1,l6.2.2.2.1,l6.2.2.2.2.1,l6.2.2.2.2.2.1,()))
        else
         none
       else
        none
    else
     none
 else
  some (.inr (t7,()))
def zon:PV zf×PV zn×PV (.int .i64)×PV zk×PV (.int .i64)×PV (.int .i64)×Unit->Option ((PV zk×Unit)):=fix λd=>zfy d.1 d.2.1 d.2.2.1 d.2.2.2.1 d.2.2.2.2.1 d.2.2.2.2.2.1
def z0t:Lp:=⟨⟨[],[0,1,2,7,8,9,24,25,26,27,28,29,30,31,32,33,34,35,36,37,38,39,40,41,42,43,44,45],[]⟩,qnu,qpq,λd=>zfy d.1 d.2.1 d.2.2.1 d.2.2.2.1 d.2.2.2.2.1 d.2.2.2.2.2.1⟩
def qr8:Plan:=⟨[],[(6,z0r),(10,zz2),(4,z0t)],0,0⟩
def ztl (t0:PV zf)(t1:PV zn)(t2:PV (.int .i64)):Option (PVs [zk]×PVs []):=
 (zon (t0,t1,t2,[],0,0,())).bind λl8=>
   some ((l8.1,()),())
def z3g:Ct:=⟨[(.bor,zf),(.bor,zn),(.bor,(.int .i64))],[(zk,(.row (.pr .b (.pr .b (.pr (.row (.pr .b (.pr .b .b))) .b)))))],λx=>ztl x.1 x.2.1 x.2.2.1⟩
def qr9:Cx:=⟨tab,arrs,[(189,z8k)],[],gl,[]⟩
theorem qsa:FnOk gl Tryz.prog 115 z3g:=
 fo qr9 qr8 0 (oz ⟨q1b,trivial⟩ trivial) Tryz.func115 (by kernel_rfl) (by kernel_rfl) (by kernel_rfl)
  (ll 3 (by kernel_rfl) (lc z0t (by kernel_rfl) (λd=>by kernel_rfl) (lc z0r (by kernel_rfl) (λd=>by kernel_rfl) (lc zz2 (by kernel_rfl) (λd=>by kernel_rfl) trivial)))) (λx=>by kernel_rfl)
def qpr:List Out:=[⟨.normal,⟨[],[0,1,2,22],[]⟩,mkSh 27 [(0,.val zf .b),(1,.val zn .b),(2,.val (.int .i64) .b),(22,.val .bool .b)]⟩]
def qsb:Plan:=⟨[(3,qpr)],[],0,0⟩
def zlv (t0:PV zf)(t1:PV zn)(t2:PV (.int .i64)):Option (PVs [zk,.bool]×PVs []):=
 (zp5 t0 t1).bind λr7=>
   ((
     bif (!r7.1.2.1) then
      some (t0,t1,t2,true,())
     else
      (zck t2 0 20).bind λr8=>
        some (t0,t1,t2,(!r8.1.1),()):Option ((PV zf×PV zn×PV (.int .i64)×PV .bool×Unit)))).bind λj9=>
     bif j9.2.2.2.1 then
      some (([],false,()),())
     else
      (ztl j9.1 j9.2.1 j9.2.2.1).bind λr10=>
        some ((r10.1.1,true,()),())
def zsw:Ct:=⟨[(.bor,zf),(.bor,zn),(.bor,(.int .i64))],[(zk,(.row (.pr .b (.pr .b (.pr (.row (.pr .b (.pr .b .b))) .b))))),(.bool,.b)],λx=>zlv x.1 x.2.1 x.2.2.1⟩
def qsc:Cx:=⟨tab,arrs,[(93,z8j),(114,zif),(115,z3g)],[],gl,[]⟩
theorem z2m:FnOk gl Tryz.prog 56 zsw:=
 fo qsc qsb 0 (oz ⟨q0x,zj5,qsa,trivial⟩ trivial) Tryz.func56 (by kernel_rfl) (by kernel_rfl) (by kernel_rfl)
  (ll 0 (by kernel_rfl) trivial) (λx=>by kernel_rfl)
def qyy:List Out:=[⟨.normal,⟨[],[3,7,8,9],[]⟩,mkSh 23 [(3,.val zf (.row .b)),(7,.val zi .b),(8,.val (.int .i64) .b),(9,.val (.int .i64) .b)]⟩]
def qvj:List Sh:=mkSh 23 [(3,.val zf (.row .b)),(7,.val zi .b),(8,.val (.int .i64) .b),(9,.val (.int .i64) .b)]
def qyz:List Out:=[⟨.exit 0,⟨[],[3],[]⟩,mkSh 23 [(3,.val zf (.row .b))]⟩]
def zh4 (t3:PV zf)(t7:PV zi)(t8:PV (.int .i64))(t9:PV (.int .i64)):Option ((PV zf×PV zi×PV (.int .i64)×PV (.int .i64)×Unit)⊕((PV zf×Unit))):=
 bif (decide (t9<t8)) then
  ((
    bif inB t9 t7.length then
     bif (!(((t7.getD t9.toNat (dflt zo)).1)==3)) then
      bif qm (t3.length+[((t7.getD t9.toNat (dflt zo)).2).1].length) then
       some ((t3++[((t7.getD t9.toNat (dflt zo)).2).1]),t7,t8,t9,())
      else
       none
     else
      some (t3,t7,t8,t9,())
    else
     none:Option ((PV zf×PV zi×PV (.int .i64)×PV (.int .i64)×Unit)))).bind λj1=>
    some (.inl (j1.1,j1.2.1,j1.2.2.1,(IntKind.wrap .i64 (j1.2.2.2.1+1)),()))
 else
  some (.inr (t3,()))
def z6v:PV zf×PV zi×PV (.int .i64)×PV (.int .i64)×Unit->Option ((PV zf×Unit)):=fix λd=>zh4 d.1 d.2.1 d.2.2.1 d.2.2.2.1
def z5d:Lp:=⟨⟨[],[3,7,8,9],[]⟩,qvj,qyz,λd=>zh4 d.1 d.2.1 d.2.2.1 d.2.2.2.1⟩
def q1c:Plan:=⟨[(7,qyy)],[(3,z5d)],0,0⟩
def ze9 (t0:PV zh):Option (PVs [zf]×PVs []):=
 (z6v ([],t0.2.2.1,(t0.2.2.1.length:Int),0,())).bind λl3=>
   some ((l3.1,()),())
def zju:Ct:=⟨[(.bor,zh)],[(zf,(.row .b))],λx=>ze9 x.1⟩
def q1d:Cx:=⟨tab,arrs,[],[],gl,[]⟩
theorem zmd:FnOk gl Tryz.prog 163 zju:=
 fo q1d q1c 0 (oz trivial trivial) Tryz.func163 (by kernel_rfl) (by kernel_rfl) (by kernel_rfl)
  (ll 1 (by kernel_rfl) (lc z5d (by kernel_rfl) (λd=>by kernel_rfl) trivial)) (λx=>by kernel_rfl)
end
end R
