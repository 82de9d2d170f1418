import Derived.Test.YtchocpffjnodfaaGreatTypes
import Derived.Test.YtchocpffjnodfaaGreatF3
namespace Go.Proofs.YtchocpffjnodfaaGreat
open Go Go.Bur Go.RowKit
set_option linter.unusedVariables false
set_option linter.unusedSimpArgs false
set_option maxRecDepth 100000
noncomputable section
def ref08_copied(n:Nat)(p0:Queue):Option Queue:=
 (app 16 ([]:List Hold) p0.holders).bind λl1=>
 (app 24 ([]:List Wait) p0.waiters).bind λl2=>
 some (Queue.mk p0.res l1 l2)
@[reducible] def ref08_copied_ct:Ct tab:=⟨15,[.st 3],[],[.st 3],[],Queue,λy=>(y,()),λy=>y.1,λ_=>rfl,λn x=>ref08_copied n x.1⟩
theorem ref08_copied_ok:OkC Tryz.prog tab ref08_copied_ct:=fn_ok (W:=⟨Tryz.prog,tab,tyOf,[],addO,dpO,false⟩) ⟨tabOk,trivial,addOk⟩ (by kernel_rfl) 14 Tryz.f15 (.n) Tryz.func15 Tryz.call15 rfl (by kernel_rfl) (by kernel_rfl) (by kernel_rfl) λn x=>by kernel_rfl
def ref08_Copy_l1(n:Nat):Nat→(List Queue)×Int×Int×Locks×(List Queue)×Unit→Option Locks:=loopF λr1 ⟨v1,v2,v3,v4,v5,_⟩=>
 cond (decide (v3<v2))
 ((idx v1 v3).bind λx6=>
 (ref08_copied n x6).bind λy7=>
 (app 64 v5 ([y7]:List Queue)).bind λl8=>
 r1 (v1,v2,(IntKind.wrap .i64 (v3+1)),v4,l8,()))
 (some (Locks.mk v5))
def ref08_Copy(n:Nat)(p0:Locks):Option Locks:=
 ref08_Copy_l1 n n (p0.queues,(p0.queues.length:Int),0,(Locks.mk ([]:List Queue)),([]:List Queue),())
@[reducible] def ref08_Copy_ct:Ct tab:=⟨6,[.st 4],[],[.st 4],[],Locks,λy=>(y,()),λy=>y.1,λ_=>rfl,λn x=>ref08_Copy n x.1⟩
theorem ref08_Copy_ok:OkC Tryz.prog tab ref08_Copy_ct:=fn_ok (W:=⟨Tryz.prog,tab,tyOf,[ref08_copied_ct],addO,dpO,false⟩) ⟨tabOk,⟨ref08_copied_ok,trivial⟩,addOk⟩ (by kernel_rfl) 22 Tryz.f6 (.sq (.n) (.sq (.n) (.sq (.sq (.n) (.bk none (.lp ⟨[(2,.one (.box 0 0)),(3,.one (.box 1 0)),(7,.one (.d (.sl (.st 3)))),(8,.one (.d (.int .i64))),(9,.one (.d (.int .i64)))],[.bst 4,.box [.own 2],.row 43 (.st 3)],[]⟩ (.n)))) (.n)))) Tryz.func6 Tryz.call6 rfl (by kernel_rfl) (by kernel_rfl) (by kernel_rfl) λn x=>by kernel_rfl
def locks_Leave_1(n:Nat)(q1:List Queue)(q2:Int)(q3:List Int):Option (Int×Int×(List Int)×(List Queue)):=
 (locks_waits n (Locks.mk q1) q2).bind λy1=>
 cond (!y1.2.2)
 (some (4,q2,q3,q1))
 ((locks_without n q2 false q1).bind λy2=>
 some (0,q2,y2.2,y2.1))
@[reducible] def locks_Leave_1_ct:Ct tab:=⟨43,[.one (.box 0 0),.one (.box 2 0),.one (.box 3 0)],[.box [.own 1],.deep 43 (.st 3) [none,none,none,some 45,some 47],.box [.d (.int .i64)],.box [.d (.sl (.int .i64))]],[.one (.d (.int .i64))],[(some 0,.box [.own 3]),(some 2,.box [.d (.int .i64)]),(some 3,.box [.d (.sl (.int .i64))]),(none,.scr (.st 3) true)],(Int×Int×(List Int)×(List Queue)),λy=>(y.1,y.2.1,y.2.2.1,y.2.2.2,()),λy=>(y.1,y.2.1,y.2.2.1,y.2.2.2.1),λ_=>rfl,λn x=>locks_Leave_1 n x.1 x.2.1 x.2.2.1⟩
theorem locks_Leave_1_ok:OkC Tryz.prog tab locks_Leave_1_ct:=fn_ok (W:=⟨Tryz.prog,tab,tyOf,[locks_waits_ct,locks_without_ct],addO,dpO,false⟩) ⟨tabOk,⟨locks_waits_ok,locks_without_ok,trivial⟩,addOk⟩ (by kernel_rfl) 22 Tryz.f43 (.sq (.n) (.sq (.sq (.n) (.sq (.n) (.cd none (.sq (.gs [.dsc 1] (.n)) (.n)) (.n)))) (.n))) Tryz.func43 Tryz.call43 rfl (by kernel_rfl) (by kernel_rfl) (by kernel_rfl) λn x=>by kernel_rfl
def ref08_RightRes(n:Nat)(p0:Res):Option Bool:=
 jn (fun(b1:Bool)=>
 jn (fun(b3:Bool)=>
 some b3) λk4=>
 cond b1
 (jn (fun(b5:Bool)=>
 k4 b5) λk6=>
 cond p0.isKey
 (k6 true)
 (k6 (p0.id==0)))
 (k4 false)) λk2=>
 cond (decide (p0.table≥0))
 (k2 (decide (p0.table<3)))
 (k2 false)
@[reducible] def ref08_RightRes_ct:Ct tab:=⟨49,[.st 0],[],[.one (.d .bool)],[],Bool,λy=>(y,()),λy=>y.1,λ_=>rfl,λn x=>ref08_RightRes n x.1⟩
theorem ref08_RightRes_ok:OkC Tryz.prog tab ref08_RightRes_ct:=fn_ok (W:=⟨Tryz.prog,tab,tyOf,[],addO,dpO,false⟩) ⟨tabOk,trivial,addOk⟩ (by kernel_rfl) 20 Tryz.f49 (.n) Tryz.func49 Tryz.call49 rfl (by kernel_rfl) (by kernel_rfl) (by kernel_rfl) λn x=>by kernel_rfl
def ref08_txn(n:Nat)(p0:Int):Option Bool:=
 jn (fun(b1:Bool)=>
 some b1) λk2=>
 cond (decide (p0≥1))
 (k2 (decide (p0≤1073741824)))
 (k2 false)
@[reducible] def ref08_txn_ct:Ct tab:=⟨46,[.one (.d (.int .i64))],[],[.one (.d .bool)],[],Bool,λy=>(y,()),λy=>y.1,λ_=>rfl,λn x=>ref08_txn n x.1⟩
theorem ref08_txn_ok:OkC Tryz.prog tab ref08_txn_ct:=fn_ok (W:=⟨Tryz.prog,tab,tyOf,[],addO,dpO,false⟩) ⟨tabOk,trivial,addOk⟩ (by kernel_rfl) 9 Tryz.f46 (.n) Tryz.func46 Tryz.call46 rfl (by kernel_rfl) (by kernel_rfl) (by kernel_rfl) λn x=>by kernel_rfl
def ref07_Is(n:Nat)(p0:Int):Option Bool:=
 jn (fun(b1:Bool)=>
 some b1) λk2=>
 cond (decide (p0≥0))
 (k2 (decide (p0≤6)))
 (k2 false)
@[reducible] def ref07_Is_ct:Ct tab:=⟨100,[.one (.d (.int .i64))],[],[.one (.d .bool)],[],Bool,λy=>(y,()),λy=>y.1,λ_=>rfl,λn x=>ref07_Is n x.1⟩
theorem ref07_Is_ok:OkC Tryz.prog tab ref07_Is_ct:=fn_ok (W:=⟨Tryz.prog,tab,tyOf,[],addO,dpO,false⟩) ⟨tabOk,trivial,addOk⟩ (by kernel_rfl) 9 Tryz.f100 (.n) Tryz.func100 Tryz.call100 rfl (by kernel_rfl) (by kernel_rfl) (by kernel_rfl) λn x=>by kernel_rfl
def ref07_pair(n:Nat)(p0:Int)(p1:Int)(p2:Int)(p3:Int):Option Bool:=
 jn (fun(b1:Bool)=>
 jn (fun(b3:Bool)=>
 some b3) λk4=>
 cond b1
 (k4 true)
 (jn (fun(b5:Bool)=>
 k4 b5) λk6=>
 cond (p0==p3)
 (k6 (p1==p2))
 (k6 false))) λk2=>
 cond (p0==p2)
 (k2 (p1==p3))
 (k2 false)
@[reducible] def ref07_pair_ct:Ct tab:=⟨122,[.one (.d (.int .i64)),.one (.d (.int .i64)),.one (.d (.int .i64)),.one (.d (.int .i64))],[],[.one (.d .bool)],[],Bool,λy=>(y,()),λy=>y.1,λ_=>rfl,λn x=>ref07_pair n x.1 x.2.1 x.2.2.1 x.2.2.2.1⟩
theorem ref07_pair_ok:OkC Tryz.prog tab ref07_pair_ct:=fn_ok (W:=⟨Tryz.prog,tab,tyOf,[],addO,dpO,false⟩) ⟨tabOk,trivial,addOk⟩ (by kernel_rfl) 27 Tryz.f122 (.n) Tryz.func122 Tryz.call122 rfl (by kernel_rfl) (by kernel_rfl) (by kernel_rfl) λn x=>by kernel_rfl
def ref07_Goes(n:Nat)(p0:Int)(p1:Int):Option Bool:=
 (ref07_Is n p0).bind λy1=>
 jn (fun(b2:Bool)=>
 cond b2
 (some false)
 (jn (fun(b4:Bool)=>
 cond b4
 (some true)
 ((ref07_pair n p0 p1 1 1).bind λy6=>
 jn (fun(b7:Bool)=>
 jn (fun(b9:Bool)=>
 jn (fun(b11:Bool)=>
 jn (fun(b13:Bool)=>
 jn (fun(b15:Bool)=>
 jn (fun(b17:Bool)=>
 some b17) λk18=>
 cond b15
 (k18 true)
 ((ref07_pair n p0 p1 6 6).bind λy19=>
 k18 y19)) λk16=>
 cond b13
 (k16 true)
 ((ref07_pair n p0 p1 3 3).bind λy20=>
 k16 y20)) λk14=>
 cond b11
 (k14 true)
 ((ref07_pair n p0 p1 2 2).bind λy21=>
 k14 y21)) λk12=>
 cond b9
 (k12 true)
 ((ref07_pair n p0 p1 1 4).bind λy22=>
 k12 y22)) λk10=>
 cond b7
 (k10 true)
 ((ref07_pair n p0 p1 1 3).bind λy23=>
 k10 y23)) λk8=>
 cond y6
 (k8 true)
 ((ref07_pair n p0 p1 1 2).bind λy24=>
 k8 y24))) λk5=>
 cond (p0==0)
 (k5 true)
 (k5 (p1==0)))) λk3=>
 cond (!y1)
 (k3 true)
 ((ref07_Is n p1).bind λy25=>
 k3 (!y25))
@[reducible] def ref07_Goes_ct:Ct tab:=⟨101,[.one (.d (.int .i64)),.one (.d (.int .i64))],[],[.one (.d .bool)],[],Bool,λy=>(y,()),λy=>y.1,λ_=>rfl,λn x=>ref07_Goes n x.1 x.2.1⟩
theorem ref07_Goes_ok:OkC Tryz.prog tab ref07_Goes_ct:=fn_ok (W:=⟨Tryz.prog,tab,tyOf,[ref07_Is_ct,ref07_pair_ct],addO,dpO,false⟩) ⟨tabOk,⟨ref07_Is_ok,ref07_pair_ok,trivial⟩,addOk⟩ (by kernel_rfl) 52 Tryz.f101 (.n) Tryz.func101 Tryz.call101 rfl (by kernel_rfl) (by kernel_rfl) (by kernel_rfl) λn x=>by kernel_rfl
def ref08_goes_l1(n:Nat):Nat→Int×Int×(List Hold)×Int×Int×Unit→Option Bool:=loopF λr1 ⟨v1,v2,v3,v4,v5,_⟩=>
 cond (decide (v5<v4))
 ((idx v3 v5).bind λx6=>
 jn (fun(b7:Bool)=>
 cond b7
 (some false)
 (r1 (v1,v2,v3,v4,(IntKind.wrap .i64 (v5+1)),()))) λk8=>
 cond (x6.txn !=v1)
 ((ref07_Goes n x6.mode v2).bind λy9=>
 k8 (!y9))
 (k8 false))
 (some true)
def ref08_goes(n:Nat)(p0:Queue)(p1:Int)(p2:Int):Option Bool:=
 ref08_goes_l1 n n (p1,p2,p0.holders,(p0.holders.length:Int),0,())
@[reducible] def ref08_goes_ct:Ct tab:=⟨54,[.st 3,.one (.d (.int .i64)),.one (.d (.int .i64))],[],[.one (.d .bool)],[],Bool,λy=>(y,()),λy=>y.1,λ_=>rfl,λn x=>ref08_goes n x.1 x.2.1 x.2.2.1⟩
theorem ref08_goes_ok:OkC Tryz.prog tab ref08_goes_ct:=fn_ok (W:=⟨Tryz.prog,tab,tyOf,[ref07_Goes_ct],addO,dpO,false⟩) ⟨tabOk,⟨ref07_Goes_ok,trivial⟩,addOk⟩ (by kernel_rfl) 28 Tryz.f54 (.sq (.n) (.sq (.sq (.n) (.bk none (.lp ⟨[(1,.one (.d (.int .i64))),(2,.one (.d (.int .i64))),(10,.one (.d (.sl (.st 1)))),(11,.one (.d (.int .i64))),(12,.one (.d (.int .i64)))],[],[]⟩ (.n)))) (.n))) Tryz.func54 Tryz.call54 rfl (by kernel_rfl) (by kernel_rfl) (by kernel_rfl) λn x=>by kernel_rfl
def ref07_Keys(n:Nat)(p0:Int):Option Bool:=
 jn (fun(b1:Bool)=>
 jn (fun(b3:Bool)=>
 jn (fun(b5:Bool)=>
 some b5) λk6=>
 cond b3
 (k6 true)
 (k6 (p0==6))) λk4=>
 cond b1
 (k4 true)
 (k4 (p0==5))) λk2=>
 cond (p0==0)
 (k2 true)
 (k2 (p0==3))
@[reducible] def ref07_Keys_ct:Ct tab:=⟨98,[.one (.d (.int .i64))],[],[.one (.d .bool)],[],Bool,λy=>(y,()),λy=>y.1,λ_=>rfl,λn x=>ref07_Keys n x.1⟩
theorem ref07_Keys_ok:OkC Tryz.prog tab ref07_Keys_ct:=fn_ok (W:=⟨Tryz.prog,tab,tyOf,[],addO,dpO,false⟩) ⟨tabOk,trivial,addOk⟩ (by kernel_rfl) 17 Tryz.f98 (.n) Tryz.func98 Tryz.call98 rfl (by kernel_rfl) (by kernel_rfl) (by kernel_rfl) λn x=>by kernel_rfl
def ref07_Tables(n:Nat)(p0:Int):Option Bool:=
 (ref07_Is n p0).bind λy1=>
 jn (fun(b2:Bool)=>
 some b2) λk3=>
 cond y1
 (k3 (p0 !=6))
 (k3 false)
@[reducible] def ref07_Tables_ct:Ct tab:=⟨99,[.one (.d (.int .i64))],[],[.one (.d .bool)],[],Bool,λy=>(y,()),λy=>y.1,λ_=>rfl,λn x=>ref07_Tables n x.1⟩
theorem ref07_Tables_ok:OkC Tryz.prog tab ref07_Tables_ct:=fn_ok (W:=⟨Tryz.prog,tab,tyOf,[ref07_Is_ct],addO,dpO,false⟩) ⟨tabOk,⟨ref07_Is_ok,trivial⟩,addOk⟩ (by kernel_rfl) 9 Tryz.f99 (.n) Tryz.func99 Tryz.call99 rfl (by kernel_rfl) (by kernel_rfl) (by kernel_rfl) λn x=>by kernel_rfl
def ref08_RightMode(n:Nat)(p0:Res)(p1:Int):Option Bool:=
 cond (p1==0)
 (some false)
 (cond p0.isKey
 ((ref07_Keys n p1).bind λy1=>
 some y1)
 ((ref07_Tables n p1).bind λy2=>
 some y2))
@[reducible] def ref08_RightMode_ct:Ct tab:=⟨50,[.st 0,.one (.d (.int .i64))],[],[.one (.d .bool)],[],Bool,λy=>(y,()),λy=>y.1,λ_=>rfl,λn x=>ref08_RightMode n x.1 x.2.1⟩
theorem ref08_RightMode_ok:OkC Tryz.prog tab ref08_RightMode_ct:=fn_ok (W:=⟨Tryz.prog,tab,tyOf,[ref07_Keys_ct,ref07_Tables_ct],addO,dpO,false⟩) ⟨tabOk,⟨ref07_Keys_ok,ref07_Tables_ok,trivial⟩,addOk⟩ (by kernel_rfl) 13 Tryz.f50 (.n) Tryz.func50 Tryz.call50 rfl (by kernel_rfl) (by kernel_rfl) (by kernel_rfl) λn x=>by kernel_rfl
def ref07_Covers(n:Nat)(p0:Int)(p1:Int):Option Bool:=
 (ref07_Is n p0).bind λy1=>
 jn (fun(b2:Bool)=>
 cond b2
 (some false)
 (jn (fun(b4:Bool)=>
 jn (fun(b6:Bool)=>
 cond b6
 (some true)
 (jn (fun(b8:Bool)=>
 jn (fun(b10:Bool)=>
 some b10) λk11=>
 cond b8
 (k11 true)
 (jn (fun(b12:Bool)=>
 k11 b12) λk13=>
 cond (p0==4)
 (jn (fun(b14:Bool)=>
 k13 b14) λk15=>
 cond (p1==2)
 (k15 true)
 (k15 (p1==3)))
 (k13 false))) λk9=>
 cond (p1==1)
 (jn (fun(b16:Bool)=>
 jn (fun(b18:Bool)=>
 k9 b18) λk19=>
 cond b16
 (k19 true)
 (k19 (p0==4))) λk17=>
 cond (p0==2)
 (k17 true)
 (k17 (p0==3)))
 (k9 false))) λk7=>
 cond b4
 (k7 true)
 (k7 (p0==5))) λk5=>
 cond (p0==p1)
 (k5 true)
 (k5 (p1==0)))) λk3=>
 cond (!y1)
 (k3 true)
 ((ref07_Is n p1).bind λy20=>
 k3 (!y20))
@[reducible] def ref07_Covers_ct:Ct tab:=⟨52,[.one (.d (.int .i64)),.one (.d (.int .i64))],[],[.one (.d .bool)],[],Bool,λy=>(y,()),λy=>y.1,λ_=>rfl,λn x=>ref07_Covers n x.1 x.2.1⟩
theorem ref07_Covers_ok:OkC Tryz.prog tab ref07_Covers_ct:=fn_ok (W:=⟨Tryz.prog,tab,tyOf,[ref07_Is_ct],addO,dpO,false⟩) ⟨tabOk,⟨ref07_Is_ok,trivial⟩,addOk⟩ (by kernel_rfl) 50 Tryz.f52 (.n) Tryz.func52 Tryz.call52 rfl (by kernel_rfl) (by kernel_rfl) (by kernel_rfl) λn x=>by kernel_rfl
def ref08_held_l1(n:Nat):Nat→Int×(List Hold)×Int×Int×Unit→Option Int:=loopF λr1 ⟨v1,v2,v3,v4,_⟩=>
 cond (decide (v4<v3))
 ((idx v2 v4).bind λx5=>
 cond (x5.txn==v1)
 (some x5.mode)
 (r1 (v1,v2,v3,(IntKind.wrap .i64 (v4+1)),())))
 (some 0)
def ref08_held(n:Nat)(p0:Queue)(p1:Int):Option Int:=
 ref08_held_l1 n n (p1,p0.holders,(p0.holders.length:Int),0,())
@[reducible] def ref08_held_ct:Ct tab:=⟨51,[.st 3,.one (.d (.int .i64))],[],[.one (.d (.int .i64))],[],Int,λy=>(y,()),λy=>y.1,λ_=>rfl,λn x=>ref08_held n x.1 x.2.1⟩
theorem ref08_held_ok:OkC Tryz.prog tab ref08_held_ct:=fn_ok (W:=⟨Tryz.prog,tab,tyOf,[],addO,dpO,false⟩) ⟨tabOk,trivial,addOk⟩ (by kernel_rfl) 21 Tryz.f51 (.sq (.n) (.sq (.sq (.n) (.bk none (.lp ⟨[(1,.one (.d (.int .i64))),(8,.one (.d (.sl (.st 1)))),(9,.one (.d (.int .i64))),(10,.one (.d (.int .i64)))],[],[]⟩ (.n)))) (.n))) Tryz.func51 Tryz.call51 rfl (by kernel_rfl) (by kernel_rfl) (by kernel_rfl) λn x=>by kernel_rfl
def ref08_RightQueue_l3(n:Nat)(r2:(List Wait)×Int×Int×Queue×Unit→Option Bool):Nat→(List Wait)×Int×Int×(List Wait)×Int×Int×Queue×Wait×Unit→Option Bool:=loopF λr3 ⟨v40,v41,v42,v43,v44,v45,v46,v47,_⟩=>
 cond (decide (v45<v44))
 ((idx v43 v45).bind λx48=>
 cond (x48.txn==v47.txn)
 (some false)
 (r3 (v40,v41,v42,v43,v44,(IntKind.wrap .i64 (v45+1)),v46,v47,())))
 (r2 (v40,v41,(IntKind.wrap .i64 (v42+1)),v46,()))
def ref08_RightQueue_l2(n:Nat):Nat→(List Wait)×Int×Int×Queue×Unit→Option Bool:=loopF λr2 ⟨v21,v22,v23,v24,_⟩=>
 cond (decide (v23<v22))
 ((idx v21 v23).bind λx25=>
 (ref08_txn n x25.txn).bind λy26=>
 jn (fun(b27:Bool)=>
 jn (fun(b29:Bool)=>
 jn (fun(b31:Bool)=>
 jn (fun(b33:Bool)=>
 cond b33
 (some false)
 (jn (fun(b35:Bool)=>
 jn (fun(b37:Bool)=>
 cond b37
 (some false)
 ((sub v24.waiters 0 v23).bind λl39=>
 ref08_RightQueue_l3 n r2 n (v21,v22,v23,l39,(l39.length:Int),0,v24,x25,()))) λk38=>
 cond b35
 ((idx v24.waiters (IntKind.wrap .i64 (v23-1))).bind λx49=>
 k38 (x49.held==0))
 (k38 false)) λk36=>
 cond (decide (v23>0))
 (k36 (x25.held !=0))
 (k36 false))) λk34=>
 cond b31
 (k34 true)
 ((ref07_Covers n x25.mode x25.held).bind λy50=>
 k34 (!y50))) λk32=>
 cond b29
 (k32 true)
 ((ref07_Covers n x25.held x25.mode).bind λy51=>
 k32 y51)) λk30=>
 cond b27
 (k30 true)
 ((ref08_held n v24 x25.txn).bind λy52=>
 k30 (x25.held !=y52))) λk28=>
 cond (!y26)
 (k28 true)
 ((ref08_RightMode n v24.res x25.mode).bind λy53=>
 k28 (!y53)))
 (jn (fun(b54:Bool)=>
 some b54) λk55=>
 cond ((v24.waiters.length:Int)==0)
 (k55 true)
 ((idx v24.waiters 0).bind λx56=>
 (idx v24.waiters 0).bind λx57=>
 (ref08_goes n v24 x56.txn x57.mode).bind λy58=>
 k55 (!y58)))
def ref08_RightQueue_l1(n:Nat):Nat→(List Hold)×Int×Int×Queue×Unit→Option Bool:=loopF λr1 ⟨v4,v5,v6,v7,_⟩=>
 cond (decide (v6<v5))
 ((idx v4 v6).bind λx8=>
 (ref08_txn n x8.txn).bind λy9=>
 jn (fun(b10:Bool)=>
 jn (fun(b12:Bool)=>
 jn (fun(b14:Bool)=>
 cond b14
 (some false)
 (r1 (v4,v5,(IntKind.wrap .i64 (v6+1)),v7,()))) λk15=>
 cond b12
 (k15 true)
 ((ref08_goes n v7 x8.txn x8.mode).bind λy16=>
 k15 (!y16))) λk13=>
 cond b10
 (k13 true)
 ((ref08_RightMode n v7.res x8.mode).bind λy17=>
 k13 (!y17))) λk11=>
 cond (!y9)
 (k11 true)
 (jn (fun(b18:Bool)=>
 k11 b18) λk19=>
 cond (decide (v6>0))
 ((idx v7.holders (IntKind.wrap .i64 (v6-1))).bind λx20=>
 k19 (decide (x20.txn≥x8.txn)))
 (k19 false)))
 (ref08_RightQueue_l2 n n (v7.waiters,(v7.waiters.length:Int),0,v7,()))
def ref08_RightQueue(n:Nat)(p0:Queue):Option Bool:=
 (ref08_RightRes n p0.res).bind λy1=>
 jn (fun(b2:Bool)=>
 cond b2
 (some false)
 (ref08_RightQueue_l1 n n (p0.holders,(p0.holders.length:Int),0,p0,()))) λk3=>
 cond (!y1)
 (k3 true)
 (k3 ((p0.holders.length:Int)==0))
@[reducible] def ref08_RightQueue_ct:Ct tab:=⟨44,[.st 3],[],[.one (.d .bool)],[],Bool,λy=>(y,()),λy=>y.1,λ_=>rfl,λn x=>ref08_RightQueue n x.1⟩
theorem ref08_RightQueue_ok:OkC Tryz.prog tab ref08_RightQueue_ct:=fn_ok (W:=⟨Tryz.prog,tab,tyOf,[ref08_RightRes_ct,ref08_txn_ct,ref08_goes_ct,ref08_RightMode_ct,ref07_Covers_ct,ref08_held_ct],addO,dpO,false⟩) ⟨tabOk,⟨ref08_RightRes_ok,ref08_txn_ok,ref08_goes_ok,ref08_RightMode_ok,ref07_Covers_ok,ref08_held_ok,trivial⟩,addOk⟩ (by kernel_rfl) 161 Tryz.f44 (.sq (.n) (.sq (.n) (.sq (.sq (.n) (.bk none (.lp ⟨[(1,.one (.box 0 0)),(20,.one (.d (.sl (.st 1)))),(21,.one (.d (.int .i64))),(22,.one (.d (.int .i64)))],[.bst 3],[]⟩ (.n)))) (.sq (.sq (.n) (.bk none (.lp ⟨[(1,.one (.box 0 0)),(66,.one (.d (.sl (.st 2)))),(67,.one (.d (.int .i64))),(68,.one (.d (.int .i64)))],[.bst 3],[]⟩ (.sq (.n) (.sq (.n) (.sq (.bk none (.sq (.n) (.sq (.n) (.sq (.n) (.sq (.n) (.bk none (.lp ⟨[(1,.one (.box 0 0)),(6,.one (.box 1 0)),(66,.one (.d (.sl (.st 2)))),(67,.one (.d (.int .i64))),(68,.one (.d (.int .i64))),(129,.one (.d (.sl (.st 2)))),(130,.one (.d (.int .i64))),(131,.one (.d (.int .i64)))],[.bst 3,.bst 2],[]⟩ (.n)))))))) (.n))))))) (.n))))) Tryz.func44 Tryz.call44 rfl (by kernel_rfl) (by kernel_rfl) (by kernel_rfl) λn x=>by kernel_rfl
def ref08_order_j1(n:Nat):Int×Unit→Option Int:=fun⟨v1,_⟩=>
 some v1
def ref08_order(n:Nat)(p0:Res):Option Int:=
 jn (ref08_order_j1 n) λj1=>
 cond p0.isKey
 (j1 ((IntKind.wrap .i64 ((IntKind.wrap .i64 (p0.table*100000))+(IntKind.wrap .i64 (1+(IntKind.wrap .i64 p0.id))))),()))
 (j1 ((IntKind.wrap .i64 (p0.table*100000)),()))
@[reducible] def ref08_order_ct:Ct tab:=⟨45,[.st 0],[],[.one (.d (.int .i64))],[],Int,λy=>(y,()),λy=>y.1,λ_=>rfl,λn x=>ref08_order n x.1⟩
theorem ref08_order_ok:OkC Tryz.prog tab ref08_order_ct:=fn_ok (W:=⟨Tryz.prog,tab,tyOf,[],addO,dpO,false⟩) ⟨tabOk,trivial,addOk⟩ (by kernel_rfl) 16 Tryz.f45 (.sq (.n) (.sq (.n) (.sq (.sq (.n) (.cd (some ⟨[(3,.one (.d (.int .i64)))],[],[]⟩) (.n) (.n))) (.n)))) Tryz.func45 Tryz.call45 rfl (by kernel_rfl) (by kernel_rfl) (by kernel_rfl) λn x=>by kernel_rfl
def ref08_Right_l2(n:Nat)(r1:(List Queue)×Int×Int×Locks×(List (Int×Bool))×Unit→Option Bool):Nat→(List Queue)×Int×Int×(List Wait)×Int×Int×Locks×(List (Int×Bool))×Unit→Option Bool:=loopF λr2 ⟨v10,v11,v12,v13,v14,v15,v16,v17,_⟩=>
 cond (decide (v15<v14))
 ((idx v13 v15).bind λx18=>
 (mlook .i64 false v17 x18.txn).bind λw19=>
 cond w19
 (some false)
 ((mput .i64 v17 x18.txn true).bind λl20=>
 r2 (v10,v11,v12,v13,v14,(IntKind.wrap .i64 (v15+1)),v16,l20,())))
 (r1 (v10,v11,(IntKind.wrap .i64 (v12+1)),v16,v17,()))
def ref08_Right_l1(n:Nat):Nat→(List Queue)×Int×Int×Locks×(List (Int×Bool))×Unit→Option Bool:=loopF λr1 ⟨v1,v2,v3,v4,v5,_⟩=>
 cond (decide (v3<v2))
 ((idx v1 v3).bind λx6=>
 (ref08_RightQueue n x6).bind λy7=>
 jn (fun(b8:Bool)=>
 cond b8
 (some false)
 (ref08_Right_l2 n r1 n (v1,v2,v3,x6.waiters,(x6.waiters.length:Int),0,v4,v5,()))) λk9=>
 cond (!y7)
 (k9 true)
 (jn (fun(b21:Bool)=>
 k9 b21) λk22=>
 cond (decide (v3>0))
 ((idx v4.queues (IntKind.wrap .i64 (v3-1))).bind λx23=>
 (ref08_order n x23.res).bind λy24=>
 (ref08_order n x6.res).bind λy25=>
 k22 (decide (y24≥y25)))
 (k22 false)))
 (some true)
def ref08_Right(n:Nat)(p0:Locks):Option Bool:=
 cond (decide ((p0.queues.length:Int)>500))
 (some false)
 (ref08_Right_l1 n n (p0.queues,(p0.queues.length:Int),0,p0,([]:List (Int×Bool)),()))
@[reducible] def ref08_Right_ct:Ct tab:=⟨17,[.st 4],[],[.one (.d .bool)],[],Bool,λy=>(y,()),λy=>y.1,λ_=>rfl,λn x=>ref08_Right n x.1⟩
theorem ref08_Right_ok:OkC Tryz.prog tab ref08_Right_ct:=fn_ok (W:=⟨Tryz.prog,tab,tyOf,[ref08_RightQueue_ct,ref08_order_ct],addO,dpO,false⟩) ⟨tabOk,⟨ref08_RightQueue_ok,ref08_order_ok,trivial⟩,addOk⟩ (by kernel_rfl) 58 Tryz.f17 (.sq (.n) (.sq (.n) (.sq (.n) (.sq (.sq (.n) (.bk none (.lp ⟨[(1,.one (.box 0 0)),(3,.one (.map 1)),(14,.one (.d (.sl (.st 3)))),(15,.one (.d (.int .i64))),(16,.one (.d (.int .i64)))],[.bst 4,.map .i64 3 4 .bool],[]⟩ (.sq (.n) (.sq (.n) (.sq (.bk none (.sq (.n) (.sq (.n) (.sq (.n) (.bk none (.lp ⟨[(1,.one (.box 0 0)),(3,.one (.map 1)),(14,.one (.d (.sl (.st 3)))),(15,.one (.d (.int .i64))),(16,.one (.d (.int .i64))),(43,.one (.d (.sl (.st 2)))),(44,.one (.d (.int .i64))),(45,.one (.d (.int .i64)))],[.bst 4,.map .i64 3 4 .bool],[]⟩ (.n))))))) (.n))))))) (.n))))) Tryz.func17 Tryz.call17 rfl (by kernel_rfl) (by kernel_rfl) (by kernel_rfl) λn x=>by kernel_rfl
def ref08_holds_j3(n:Nat)(r1:Int×Int×Bool×(List Hold)×Int×Int×Queue×Queue×(List Hold)×Unit→Option Queue):Int×Int×Bool×(List Hold)×Int×Int×Queue×Queue×(List Hold)×Unit→Option Queue:=fun⟨v25,v26,v27,v28,v29,v30,v31,v32,v33,_⟩=>
 r1 (v25,v26,v27,v28,v29,(IntKind.wrap .i64 (v30+1)),v31,v32,v33,())
def ref08_holds_j2(n:Nat)(r1:Int×Int×Bool×(List Hold)×Int×Int×Queue×Queue×(List Hold)×Unit→Option Queue):Int×Int×Bool×(List Hold)×Int×Int×Queue×Queue×(List Hold)×Hold×Unit→Option Queue:=fun⟨v14,v15,v16,v17,v18,v19,v20,v21,v22,v23,_⟩=>
 jn (ref08_holds_j3 n r1) λj3=>
 cond (v23.txn !=v14)
 ((app 16 v22 ([v23]:List Hold)).bind λl34=>
 j3 (v14,v15,v16,v17,v18,v19,v20,v21,l34,()))
 (j3 (v14,v15,v16,v17,v18,v19,v20,v21,v22,()))
def ref08_holds_j4(n:Nat):Queue×Queue×(List Hold)×Unit→Option Queue:=fun⟨v37,v38,v39,_⟩=>
 some (Queue.mk v37.res v39 v37.waiters)
def ref08_holds_l1(n:Nat):Nat→Int×Int×Bool×(List Hold)×Int×Int×Queue×Queue×(List Hold)×Unit→Option Queue:=loopF λr1 ⟨v1,v2,v3,v4,v5,v6,v7,v8,v9,_⟩=>
 cond (decide (v6<v5))
 ((idx v4 v6).bind λx10=>
 jn (fun(b11:Bool)=>
 jn (ref08_holds_j2 n r1) λj2=>
 cond b11
 ((app 16 v9 ([(Hold.mk v1 v2)]:List Hold)).bind λl35=>
 j2 (v1,v2,true,v4,v5,v6,v7,v8,l35,x10,()))
 (j2 (v1,v2,v3,v4,v5,v6,v7,v8,v9,x10,()))) λk12=>
 cond (!v3)
 (k12 (decide (x10.txn≥v1)))
 (k12 false))
 (jn (ref08_holds_j4 n) λj4=>
 cond (!v3)
 ((app 16 v9 ([(Hold.mk v1 v2)]:List Hold)).bind λl40=>
 j4 (v7,v8,l40,()))
 (j4 (v7,v8,v9,())))
def ref08_holds(n:Nat)(p0:Queue)(p1:Int)(p2:Int):Option Queue:=
 ref08_holds_l1 n n (p1,p2,false,p0.holders,(p0.holders.length:Int),0,p0,(Queue.mk (Res.mk 0 false 0) ([]:List Hold) ([]:List Wait)),([]:List Hold),())
@[reducible] def ref08_holds_ct:Ct tab:=⟨55,[.st 3,.one (.d (.int .i64)),.one (.d (.int .i64))],[],[.st 3],[],Queue,λy=>(y,()),λy=>y.1,λ_=>rfl,λn x=>ref08_holds n x.1 x.2.1 x.2.2.1⟩
theorem ref08_holds_ok:OkC Tryz.prog tab ref08_holds_ct:=fn_ok (W:=⟨Tryz.prog,tab,tyOf,[],addO,dpO,false⟩) ⟨tabOk,trivial,addOk⟩ (by kernel_rfl) 52 Tryz.f55 (.sq (.n) (.sq (.n) (.sq (.n) (.sq (.sq (.n) (.bk none (.lp ⟨[(1,.one (.d (.int .i64))),(2,.one (.d (.int .i64))),(3,.one (.box 0 0)),(6,.one (.box 1 0)),(7,.one (.own 2)),(8,.one (.d .bool)),(12,.one (.d (.sl (.st 1)))),(13,.one (.d (.int .i64))),(14,.one (.d (.int .i64)))],[.bst 3,.bst 3,.row 45 (.st 1)],[]⟩ (.sq (.n) (.sq (.n) (.sq (.bk none (.sq (.n) (.sq (.sq (.n) (.cd (some ⟨[(1,.one (.d (.int .i64))),(2,.one (.d (.int .i64))),(3,.one (.box 0 0)),(6,.one (.box 1 0)),(7,.one (.own 2)),(8,.one (.d .bool)),(10,.one (.box 3 0)),(12,.one (.d (.sl (.st 1)))),(13,.one (.d (.int .i64))),(14,.one (.d (.int .i64)))],[.bst 3,.bst 3,.row 45 (.st 1),.bst 1],[]⟩) (.n) (.n))) (.sq (.n) (.cd (some ⟨[(1,.one (.d (.int .i64))),(2,.one (.d (.int .i64))),(3,.one (.box 0 0)),(6,.one (.box 1 0)),(7,.one (.own 2)),(8,.one (.d .bool)),(12,.one (.d (.sl (.st 1)))),(13,.one (.d (.int .i64))),(14,.one (.d (.int .i64)))],[.bst 3,.bst 3,.row 45 (.st 1)],[]⟩) (.n) (.n)))))) (.n))))))) (.sq (.sq (.n) (.cd (some ⟨[(3,.one (.box 0 0)),(6,.one (.box 1 0)),(7,.one (.own 2))],[.bst 3,.bst 3,.row 45 (.st 1)],[]⟩) (.n) (.n))) (.n)))))) Tryz.func55 Tryz.call55 rfl (by kernel_rfl) (by kernel_rfl) (by kernel_rfl) λn x=>by kernel_rfl
def ref08_pumped_l1(n:Nat):Nat→Queue×Queue×(List Int)×Unit→Option (Queue×(List Int)):=loopF λr1 ⟨v1,v2,v3,_⟩=>
 jn (fun(b4:Bool)=>
 cond b4
 ((idx v1.waiters 0).bind λx6=>
 (ref08_holds n v1 x6.txn x6.mode).bind λy7=>
 (sub y7.waiters 1 (y7.waiters.length:Int)).bind λl8=>
 (app 8 v3 ([x6.txn]:List Int)).bind λl9=>
 r1 ((Queue.mk y7.res y7.holders l8),v2,l9,()))
 (some (v1,v3))) λk5=>
 cond (decide ((v1.waiters.length:Int)>0))
 ((idx v1.waiters 0).bind λx10=>
 (idx v1.waiters 0).bind λx11=>
 (ref08_goes n v1 x10.txn x11.mode).bind λy12=>
 k5 y12)
 (k5 false)
def ref08_pumped(n:Nat)(p0:Queue):Option (Queue×(List Int)):=
 ref08_pumped_l1 n n (p0,(Queue.mk (Res.mk 0 false 0) ([]:List Hold) ([]:List Wait)),([]:List Int),())
@[reducible] def ref08_pumped_ct:Ct tab:=⟨97,[.st 3],[],[.st 3,.one (.own 0)],[(none,.row 3 (.int .i64))],(Queue×(List Int)),λy=>(y.1,y.2,()),λy=>(y.1,y.2.1),λ_=>rfl,λn x=>ref08_pumped n x.1⟩
theorem ref08_pumped_ok:OkC Tryz.prog tab ref08_pumped_ct:=fn_ok (W:=⟨Tryz.prog,tab,tyOf,[ref08_holds_ct,ref08_goes_ct],addO,dpO,false⟩) ⟨tabOk,⟨ref08_holds_ok,ref08_goes_ok,trivial⟩,addOk⟩ (by kernel_rfl) 45 Tryz.f97 (.sq (.n) (.sq (.n) (.sq (.bk none (.lp ⟨[(1,.one (.box 0 0)),(2,.one (.box 1 0)),(4,.one (.own 2))],[.bst 3,.bst 3,.row 3 (.int .i64)],[]⟩ (.n))) (.n)))) Tryz.func97 Tryz.call97 rfl (by kernel_rfl) (by kernel_rfl) (by kernel_rfl) λn x=>by kernel_rfl
def ref08_without_j3(n:Nat)(r2:Int×Bool×(List Queue)×Int×Int×(List Hold)×Int×Int×Locks×(List Int)×Queue×Int×Bool×Int×(List Queue)×(List Hold)×(List Wait)×Unit→Option (Locks×(List Int))):Int×Bool×(List Queue)×Int×Int×(List Hold)×Int×Int×Locks×(List Int)×Queue×Int×Bool×Int×(List Queue)×(List Hold)×(List Wait)×Unit→Option (Locks×(List Int)):=fun⟨v31,v32,v33,v34,v35,v36,v37,v38,v39,v40,v41,v42,v43,v44,v45,v46,v47,_⟩=>
 r2 (v31,v32,v33,v34,v35,v36,v37,(IntKind.wrap .i64 (v38+1)),v39,v40,v41,v42,v43,v44,v45,v46,v47,())
def ref08_without_j5(n:Nat)(r4:Int×Bool×(List Queue)×Int×Int×(List Wait)×Int×Int×Locks×(List Int)×Int×Bool×Int×(List Queue)×(List Hold)×(List Wait)×Unit→Option (Locks×(List Int))):Int×Bool×(List Queue)×Int×Int×(List Wait)×Int×Int×Locks×(List Int)×Int×Bool×Int×(List Queue)×(List Hold)×(List Wait)×Unit→Option (Locks×(List Int)):=fun⟨v67,v68,v69,v70,v71,v72,v73,v74,v75,v76,v77,v78,v79,v80,v81,v82,_⟩=>
 r4 (v67,v68,v69,v70,v71,v72,v73,(IntKind.wrap .i64 (v74+1)),v75,v76,v77,v78,v79,v80,v81,v82,())
def ref08_without_j6(n:Nat)(r1:Int×Bool×(List Queue)×Int×Int×Locks×(List Int)×(List Queue)×Unit→Option (Locks×(List Int))):Int×Bool×(List Queue)×Int×Int×Locks×(List Int)×(List Queue)×Unit→Option (Locks×(List Int)):=fun⟨v87,v88,v89,v90,v91,v92,v93,v94,_⟩=>
 r1 (v87,v88,v89,v90,(IntKind.wrap .i64 (v91+1)),v92,v93,v94,())
def ref08_without_l4(n:Nat)(r1:Int×Bool×(List Queue)×Int×Int×Locks×(List Int)×(List Queue)×Unit→Option (Locks×(List Int))):Nat→Int×Bool×(List Queue)×Int×Int×(List Wait)×Int×Int×Locks×(List Int)×Int×Bool×Int×(List Queue)×(List Hold)×(List Wait)×Unit→Option (Locks×(List Int)):=loopF λr4 ⟨v49,v50,v51,v52,v53,v54,v55,v56,v57,v58,v59,v60,v61,v62,v63,v64,_⟩=>
 cond (decide (v56<v55))
 ((idx v54 v56).bind λx65=>
 jn (ref08_without_j5 n r4) λj5=>
 cond (x65.txn !=v49)
 ((app 24 v64 ([x65]:List Wait)).bind λl83=>
 j5 (v49,v50,v51,v52,v53,v54,v55,v56,v57,v58,v59,v60,v61,v62,v63,l83,()))
 (j5 (v49,v50,v51,v52,v53,v54,v55,v56,v57,v58,v59,v60,v61,v62,v63,v64,())))
 ((ref08_pumped n (Queue.mk (Res.mk v59 v60 v61) v63 v64)).bind λy84=>
 (app 8 v58 y84.2).bind λl85=>
 jn (ref08_without_j6 n r1) λj6=>
 cond (decide ((y84.1.holders.length:Int)>0))
 ((app 64 v62 ([y84.1]:List Queue)).bind λl95=>
 j6 (v49,v50,v51,v52,v53,v57,l85,l95,()))
 (j6 (v49,v50,v51,v52,v53,v57,l85,v62,())))
def ref08_without_l2(n:Nat)(r1:Int×Bool×(List Queue)×Int×Int×Locks×(List Int)×(List Queue)×Unit→Option (Locks×(List Int))):Nat→Int×Bool×(List Queue)×Int×Int×(List Hold)×Int×Int×Locks×(List Int)×Queue×Int×Bool×Int×(List Queue)×(List Hold)×(List Wait)×Unit→Option (Locks×(List Int)):=loopF λr2 ⟨v10,v11,v12,v13,v14,v15,v16,v17,v18,v19,v20,v21,v22,v23,v24,v25,v26,_⟩=>
 cond (decide (v17<v16))
 ((idx v15 v17).bind λx27=>
 jn (fun(b28:Bool)=>
 jn (ref08_without_j3 n r2) λj3=>
 cond b28
 ((app 16 v25 ([x27]:List Hold)).bind λl48=>
 j3 (v10,v11,v12,v13,v14,v15,v16,v17,v18,v19,v20,v21,v22,v23,v24,l48,v26,()))
 (j3 (v10,v11,v12,v13,v14,v15,v16,v17,v18,v19,v20,v21,v22,v23,v24,v25,v26,()))) λk29=>
 cond (x27.txn !=v10)
 (k29 true)
 (k29 (!v11)))
 (ref08_without_l4 n r1 n (v10,v11,v12,v13,v14,v20.waiters,(v20.waiters.length:Int),0,v18,v19,v21,v22,v23,v24,v25,v26,()))
def ref08_without_l1(n:Nat):Nat→Int×Bool×(List Queue)×Int×Int×Locks×(List Int)×(List Queue)×Unit→Option (Locks×(List Int)):=loopF λr1 ⟨v1,v2,v3,v4,v5,v6,v7,v8,_⟩=>
 cond (decide (v5<v4))
 ((idx v3 v5).bind λx9=>
 ref08_without_l2 n r1 n (v1,v2,v3,v4,v5,x9.holders,(x9.holders.length:Int),0,v6,v7,x9,x9.res.table,x9.res.isKey,x9.res.id,v8,([]:List Hold),([]:List Wait),()))
 (some ((Locks.mk v8),v7))
def ref08_without(n:Nat)(p0:Locks)(p1:Int)(p2:Bool):Option (Locks×(List Int)):=
 ref08_without_l1 n n (p1,p2,p0.queues,(p0.queues.length:Int),0,(Locks.mk ([]:List Queue)),([]:List Int),([]:List Queue),())
@[reducible] def ref08_without_ct:Ct tab:=⟨47,[.st 4,.one (.d (.int .i64)),.one (.d .bool)],[],[.st 4,.one (.own 0)],[(none,.row 3 (.int .i64))],(Locks×(List Int)),λy=>(y.1,y.2,()),λy=>(y.1,y.2.1),λ_=>rfl,λn x=>ref08_without n x.1 x.2.1 x.2.2.1⟩
theorem ref08_without_ok:OkC Tryz.prog tab ref08_without_ct:=fn_ok (W:=⟨Tryz.prog,tab,tyOf,[ref08_pumped_ct],addO,dpO,false⟩) ⟨tabOk,⟨ref08_pumped_ok,trivial⟩,addOk⟩ (by kernel_rfl) 89 Tryz.f47 (.sq (.n) (.sq (.n) (.sq (.n) (.sq (.sq (.n) (.bk none (.lp ⟨[(1,.one (.d (.int .i64))),(2,.one (.d .bool)),(6,.one (.box 0 0)),(8,.one (.box 1 0)),(9,.one (.own 2)),(19,.one (.d (.sl (.st 3)))),(20,.one (.d (.int .i64))),(21,.one (.d (.int .i64)))],[.bst 4,.box [.own 3],.row 3 (.int .i64),.row 43 (.st 3)],[]⟩ (.sq (.n) (.sq (.n) (.sq (.bk none (.sq (.n) (.sq (.n) (.sq (.sq (.n) (.bk none (.lp ⟨[(1,.one (.d (.int .i64))),(2,.one (.d .bool)),(6,.one (.box 0 0)),(8,.one (.box 1 0)),(9,.one (.own 2)),(11,.one (.box 3 0)),(12,.one (.box 4 0)),(19,.one (.d (.sl (.st 3)))),(20,.one (.d (.int .i64))),(21,.one (.d (.int .i64))),(29,.one (.d (.sl (.st 1)))),(30,.one (.d (.int .i64))),(31,.one (.d (.int .i64)))],[.bst 4,.box [.own 5],.row 3 (.int .i64),.bst 3,.box [.d (.int .i64),.d .bool,.d (.int .u16),.own 6,.own 7],.row 43 (.st 3),.row 45 (.st 1),.row 47 (.st 2)],[]⟩ (.sq (.n) (.sq (.n) (.sq (.bk none (.sq (.n) (.sq (.n) (.cd (some ⟨[(1,.one (.d (.int .i64))),(2,.one (.d .bool)),(6,.one (.box 0 0)),(8,.one (.box 1 0)),(9,.one (.own 2)),(11,.one (.box 3 0)),(12,.one (.box 4 0)),(19,.one (.d (.sl (.st 3)))),(20,.one (.d (.int .i64))),(21,.one (.d (.int .i64))),(29,.one (.d (.sl (.st 1)))),(30,.one (.d (.int .i64))),(31,.one (.d (.int .i64)))],[.bst 4,.box [.own 5],.row 3 (.int .i64),.bst 3,.box [.d (.int .i64),.d .bool,.d (.int .u16),.own 6,.own 7],.row 43 (.st 3),.row 45 (.st 1),.row 47 (.st 2)],[]⟩) (.n) (.n))))) (.n))))))) (.sq (.sq (.n) (.bk none (.lp ⟨[(1,.one (.d (.int .i64))),(2,.one (.d .bool)),(6,.one (.box 0 0)),(8,.one (.box 1 0)),(9,.one (.own 2)),(12,.one (.box 3 0)),(19,.one (.d (.sl (.st 3)))),(20,.one (.d (.int .i64))),(21,.one (.d (.int .i64))),(51,.one (.d (.sl (.st 2)))),(52,.one (.d (.int .i64))),(53,.one (.d (.int .i64)))],[.bst 4,.box [.own 4],.row 3 (.int .i64),.box [.d (.int .i64),.d .bool,.d (.int .u16),.own 5,.own 6],.row 43 (.st 3),.row 45 (.st 1),.row 47 (.st 2)],[]⟩ (.sq (.n) (.sq (.n) (.sq (.bk none (.sq (.n) (.sq (.n) (.cd (some ⟨[(1,.one (.d (.int .i64))),(2,.one (.d .bool)),(6,.one (.box 0 0)),(8,.one (.box 1 0)),(9,.one (.own 2)),(12,.one (.box 3 0)),(19,.one (.d (.sl (.st 3)))),(20,.one (.d (.int .i64))),(21,.one (.d (.int .i64))),(51,.one (.d (.sl (.st 2)))),(52,.one (.d (.int .i64))),(53,.one (.d (.int .i64)))],[.bst 4,.box [.own 4],.row 3 (.int .i64),.box [.d (.int .i64),.d .bool,.d (.int .u16),.own 5,.own 6],.row 43 (.st 3),.row 45 (.st 1),.row 47 (.st 2)],[]⟩) (.n) (.n))))) (.n))))))) (.sq (.n) (.sq (.n) (.sq (.n) (.cd (some ⟨[(1,.one (.d (.int .i64))),(2,.one (.d .bool)),(6,.one (.box 0 0)),(8,.one (.box 1 0)),(9,.one (.own 2)),(19,.one (.d (.sl (.st 3)))),(20,.one (.d (.int .i64))),(21,.one (.d (.int .i64)))],[.bst 4,.box [.own 3],.row 3 (.int .i64),.row 43 (.st 3)],[]⟩) (.n) (.n)))))))))) (.n))))))) (.n))))) Tryz.func47 Tryz.call47 rfl (by kernel_rfl) (by kernel_rfl) (by kernel_rfl) λn x=>by kernel_rfl
def ref08_Release(n:Nat)(p0:Locks)(p1:Int):Option (Locks×Int×(List Int)):=
 (ref08_txn n p1).bind λy1=>
 cond (!y1)
 (some ((Locks.mk ([]:List Queue)),2,([]:List Int)))
 ((ref08_without n p0 p1 true).bind λy2=>
 some (y2.1,0,y2.2))
@[reducible] def ref08_Release_ct:Ct tab:=⟨18,[.st 4,.one (.d (.int .i64))],[],[.st 4,.one (.own 0),.one (.d (.int .i64))],[(none,.row 3 (.int .i64))],(Locks×Int×(List Int)),λy=>(y.1,y.2.1,y.2.2,()),λy=>(y.1,y.2.1,y.2.2.1),λ_=>rfl,λn x=>ref08_Release n x.1 x.2.1⟩
theorem ref08_Release_ok:OkC Tryz.prog tab ref08_Release_ct:=fn_ok (W:=⟨Tryz.prog,tab,tyOf,[ref08_txn_ct,ref08_without_ct],addO,dpO,false⟩) ⟨tabOk,⟨ref08_txn_ok,ref08_without_ok,trivial⟩,addOk⟩ (by kernel_rfl) 21 Tryz.f18 (.n) Tryz.func18 Tryz.call18 rfl (by kernel_rfl) (by kernel_rfl) (by kernel_rfl) λn x=>by kernel_rfl
def ref08_Waits_l2(n:Nat)(r1:Int×(List Queue)×Int×Int×Res×Unit→Option (Res×Int×Bool)):Nat→Int×(List Queue)×Int×Int×(List Wait)×Int×Int×Res×Queue×Unit→Option (Res×Int×Bool):=loopF λr2 ⟨v7,v8,v9,v10,v11,v12,v13,v14,v15,_⟩=>
 cond (decide (v13<v12))
 ((idx v11 v13).bind λx16=>
 cond (x16.txn==v7)
 (some (v15.res,x16.mode,true))
 (r2 (v7,v8,v9,v10,v11,v12,(IntKind.wrap .i64 (v13+1)),v14,v15,())))
 (r1 (v7,v8,v9,(IntKind.wrap .i64 (v10+1)),v14,()))
def ref08_Waits_l1(n:Nat):Nat→Int×(List Queue)×Int×Int×Res×Unit→Option (Res×Int×Bool):=loopF λr1 ⟨v1,v2,v3,v4,v5,_⟩=>
 cond (decide (v4<v3))
 ((idx v2 v4).bind λx6=>
 ref08_Waits_l2 n r1 n (v1,v2,v3,v4,x6.waiters,(x6.waiters.length:Int),0,v5,x6,()))
 (some ((Res.mk 0 false 0),0,false))
def ref08_Waits(n:Nat)(p0:Locks)(p1:Int):Option (Res×Int×Bool):=
 ref08_Waits_l1 n n (p1,p0.queues,(p0.queues.length:Int),0,(Res.mk 0 false 0),())
@[reducible] def ref08_Waits_ct:Ct tab:=⟨48,[.st 4,.one (.d (.int .i64))],[],[.st 0,.one (.d (.int .i64)),.one (.d .bool)],[],(Res×Int×Bool),λy=>(y.1,y.2.1,y.2.2,()),λy=>(y.1,y.2.1,y.2.2.1),λ_=>rfl,λn x=>ref08_Waits n x.1 x.2.1⟩
theorem ref08_Waits_ok:OkC Tryz.prog tab ref08_Waits_ct:=fn_ok (W:=⟨Tryz.prog,tab,tyOf,[],addO,dpO,false⟩) ⟨tabOk,trivial,addOk⟩ (by kernel_rfl) 36 Tryz.f48 (.sq (.n) (.sq (.sq (.n) (.bk none (.lp ⟨[(1,.one (.d (.int .i64))),(4,.one (.box 0 0)),(12,.one (.d (.sl (.st 3)))),(13,.one (.d (.int .i64))),(14,.one (.d (.int .i64)))],[.bst 0],[]⟩ (.sq (.n) (.sq (.n) (.sq (.bk none (.sq (.n) (.sq (.n) (.bk none (.lp ⟨[(1,.one (.d (.int .i64))),(4,.one (.box 0 0)),(8,.one (.box 1 0)),(12,.one (.d (.sl (.st 3)))),(13,.one (.d (.int .i64))),(14,.one (.d (.int .i64))),(19,.one (.d (.sl (.st 2)))),(20,.one (.d (.int .i64))),(21,.one (.d (.int .i64)))],[.bst 0,.bst 3],[]⟩ (.n)))))) (.n))))))) (.n))) Tryz.func48 Tryz.call48 rfl (by kernel_rfl) (by kernel_rfl) (by kernel_rfl) λn x=>by kernel_rfl
def ref08_Leave(n:Nat)(p0:Locks)(p1:Int):Option (Locks×Int×(List Int)):=
 (ref08_txn n p1).bind λy1=>
 cond (!y1)
 (some ((Locks.mk ([]:List Queue)),2,([]:List Int)))
 ((ref08_Waits n p0 p1).bind λy2=>
 cond (!y2.2.2)
 (some ((Locks.mk ([]:List Queue)),4,([]:List Int)))
 ((ref08_without n p0 p1 false).bind λy3=>
 some (y3.1,0,y3.2)))
@[reducible] def ref08_Leave_ct:Ct tab:=⟨19,[.st 4,.one (.d (.int .i64))],[],[.st 4,.one (.own 0),.one (.d (.int .i64))],[(none,.row 3 (.int .i64))],(Locks×Int×(List Int)),λy=>(y.1,y.2.1,y.2.2,()),λy=>(y.1,y.2.1,y.2.2.1),λ_=>rfl,λn x=>ref08_Leave n x.1 x.2.1⟩
theorem ref08_Leave_ok:OkC Tryz.prog tab ref08_Leave_ct:=fn_ok (W:=⟨Tryz.prog,tab,tyOf,[ref08_txn_ct,ref08_Waits_ct,ref08_without_ct],addO,dpO,false⟩) ⟨tabOk,⟨ref08_txn_ok,ref08_Waits_ok,ref08_without_ok,trivial⟩,addOk⟩ (by kernel_rfl) 34 Tryz.f19 (.n) Tryz.func19 Tryz.call19 rfl (by kernel_rfl) (by kernel_rfl) (by kernel_rfl) λn x=>by kernel_rfl
def ref07_Sup_j3(n:Nat)(r2:Int×Int×Int×Bool×Int×Unit→Option Int):Int×Int×Int×Bool×Int×Unit→Option Int:=fun⟨v17,v18,v19,v20,v21,_⟩=>
 r2 (v17,v18,v19,v20,(IntKind.wrap .i64 (v21+1)),())
def ref07_Sup_l2(n:Nat)(r1:Int×Int×Int×Unit→Option Int):Nat→Int×Int×Int×Bool×Int×Unit→Option Int:=loopF λr2 ⟨v7,v8,v9,v10,v11,_⟩=>
 cond (decide (v11≤6))
 ((ref07_Covers n v11 v7).bind λy12=>
 jn (fun(b13:Bool)=>
 jn (fun(b15:Bool)=>
 jn (ref07_Sup_j3 n r2) λj3=>
 cond b15
 (j3 (v7,v8,v9,false,v11,()))
 (j3 (v7,v8,v9,v10,v11,()))) λk16=>
 cond b13
 ((ref07_Covers n v11 v9).bind λy22=>
 k16 (!y22))
 (k16 false)) λk14=>
 cond y12
 ((ref07_Covers n v11 v8).bind λy23=>
 k14 y23)
 (k14 false))
 (cond v10
 (some v9)
 (r1 (v7,v8,(IntKind.wrap .i64 (v9+1)),())))
def ref07_Sup_l1(n:Nat):Nat→Int×Int×Int×Unit→Option Int:=loopF λr1 ⟨v1,v2,v3,_⟩=>
 cond (decide (v3≤6))
 ((ref07_Covers n v3 v1).bind λy4=>
 jn (fun(b5:Bool)=>
 ref07_Sup_l2 n r1 n (v1,v2,v3,b5,0,())) λk6=>
 cond y4
 ((ref07_Covers n v3 v2).bind λy24=>
 k6 y24)
 (k6 false))
 (some 5)
def ref07_Sup(n:Nat)(p0:Int)(p1:Int):Option Int:=
 ref07_Sup_l1 n n (p0,p1,0,())
@[reducible] def ref07_Sup_ct:Ct tab:=⟨53,[.one (.d (.int .i64)),.one (.d (.int .i64))],[],[.one (.d (.int .i64))],[],Int,λy=>(y,()),λy=>y.1,λ_=>rfl,λn x=>ref07_Sup n x.1 x.2.1⟩
theorem ref07_Sup_ok:OkC Tryz.prog tab ref07_Sup_ct:=fn_ok (W:=⟨Tryz.prog,tab,tyOf,[ref07_Covers_ct],addO,dpO,false⟩) ⟨tabOk,⟨ref07_Covers_ok,trivial⟩,addOk⟩ (by kernel_rfl) 40 Tryz.f53 (.sq (.n) (.sq (.sq (.n) (.bk none (.lp ⟨[(0,.one (.d (.int .i64))),(1,.one (.d (.int .i64))),(5,.one (.d (.int .i64)))],[],[]⟩ (.sq (.n) (.sq (.bk none (.sq (.n) (.sq (.sq (.n) (.bk none (.lp ⟨[(0,.one (.d (.int .i64))),(1,.one (.d (.int .i64))),(5,.one (.d (.int .i64))),(6,.one (.d .bool)),(7,.one (.d (.int .i64)))],[],[]⟩ (.sq (.n) (.sq (.bk none (.sq (.n) (.cd (some ⟨[(0,.one (.d (.int .i64))),(1,.one (.d (.int .i64))),(5,.one (.d (.int .i64))),(6,.one (.d .bool)),(7,.one (.d (.int .i64)))],[],[]⟩) (.n) (.n)))) (.n)))))) (.n)))) (.n)))))) (.n))) Tryz.func53 Tryz.call53 rfl (by kernel_rfl) (by kernel_rfl) (by kernel_rfl) λn x=>by kernel_rfl
def ref08_waits_j2(n:Nat)(r1:Bool×(List Wait)×Int×Int×Queue×Wait×Queue×(List Wait)×Unit→Option Queue):Bool×(List Wait)×Int×Int×Queue×Wait×Queue×(List Wait)×Wait×Unit→Option Queue:=fun⟨v15,v16,v17,v18,v19,v20,v21,v22,v23,_⟩=>
 (app 24 v22 ([v23]:List Wait)).bind λl24=>
 r1 (v15,v16,v17,(IntKind.wrap .i64 (v18+1)),v19,v20,v21,l24,())
def ref08_waits_j3(n:Nat):Queue×Queue×(List Wait)×Unit→Option Queue:=fun⟨v27,v28,v29,_⟩=>
 some (Queue.mk v27.res v27.holders v29)
def ref08_waits_l1(n:Nat):Nat→Bool×(List Wait)×Int×Int×Queue×Wait×Queue×(List Wait)×Unit→Option Queue:=loopF λr1 ⟨v1,v2,v3,v4,v5,v6,v7,v8,_⟩=>
 cond (decide (v4<v3))
 ((idx v2 v4).bind λx9=>
 jn (fun(b10:Bool)=>
 jn (fun(b12:Bool)=>
 jn (ref08_waits_j2 n r1) λj2=>
 cond b12
 ((app 24 v8 ([v6]:List Wait)).bind λl25=>
 j2 (true,v2,v3,v4,v5,v6,v7,l25,x9,()))
 (j2 (v1,v2,v3,v4,v5,v6,v7,v8,x9,()))) λk13=>
 cond b10
 (k13 (x9.held==0))
 (k13 false)) λk11=>
 cond (!v1)
 (k11 (v6.held !=0))
 (k11 false))
 (jn (ref08_waits_j3 n) λj3=>
 cond (!v1)
 ((app 24 v8 ([v6]:List Wait)).bind λl30=>
 j3 (v5,v7,l30,()))
 (j3 (v5,v7,v8,())))
def ref08_waits(n:Nat)(p0:Queue)(p1:Wait):Option Queue:=
 ref08_waits_l1 n n (false,p0.waiters,(p0.waiters.length:Int),0,p0,p1,(Queue.mk (Res.mk 0 false 0) ([]:List Hold) ([]:List Wait)),([]:List Wait),())
@[reducible] def ref08_waits_ct:Ct tab:=⟨56,[.st 3,.st 2],[],[.st 3],[],Queue,λy=>(y,()),λy=>y.1,λ_=>rfl,λn x=>ref08_waits n x.1 x.2.1⟩
theorem ref08_waits_ok:OkC Tryz.prog tab ref08_waits_ct:=fn_ok (W:=⟨Tryz.prog,tab,tyOf,[],addO,dpO,false⟩) ⟨tabOk,trivial,addOk⟩ (by kernel_rfl) 46 Tryz.f56 (.sq (.n) (.sq (.n) (.sq (.n) (.sq (.sq (.n) (.bk none (.lp ⟨[(2,.one (.box 0 0)),(3,.one (.box 1 0)),(4,.one (.box 2 0)),(5,.one (.own 3)),(6,.one (.d .bool)),(10,.one (.d (.sl (.st 2)))),(11,.one (.d (.int .i64))),(12,.one (.d (.int .i64)))],[.bst 3,.bst 2,.bst 3,.row 47 (.st 2)],[]⟩ (.sq (.n) (.sq (.n) (.sq (.bk none (.sq (.n) (.sq (.sq (.n) (.cd (some ⟨[(2,.one (.box 0 0)),(3,.one (.box 1 0)),(4,.one (.box 2 0)),(5,.one (.own 3)),(6,.one (.d .bool)),(8,.one (.box 4 0)),(10,.one (.d (.sl (.st 2)))),(11,.one (.d (.int .i64))),(12,.one (.d (.int .i64)))],[.bst 3,.bst 2,.bst 3,.row 47 (.st 2),.bst 2],[]⟩) (.n) (.n))) (.n)))) (.n))))))) (.sq (.sq (.n) (.cd (some ⟨[(2,.one (.box 0 0)),(4,.one (.box 1 0)),(5,.one (.own 2))],[.bst 3,.bst 3,.row 47 (.st 2)],[]⟩) (.n) (.n))) (.n)))))) Tryz.func56 Tryz.call56 rfl (by kernel_rfl) (by kernel_rfl) (by kernel_rfl) λn x=>by kernel_rfl
def ref08_Ask_j2(n:Nat)(r1:Int×Int×Int×(List Queue)×Int×Int×Locks×Res×Locks×Queue×Unit→Option (Locks×Int×Int)):Int×Int×Int×(List Queue)×Int×Int×Locks×Res×Locks×Queue×Unit→Option (Locks×Int×Int):=fun⟨v19,v20,v21,v22,v23,v24,v25,v26,v27,v28,_⟩=>
 r1 (v19,v20,v21,v22,v23,(IntKind.wrap .i64 (v24+1)),v25,v26,v27,v28,())
def ref08_Ask_j6(n:Nat)(r4:Int×Bool×(List Queue)×Int×Int×Res×Locks×Queue×(List Queue)×Unit→Option (Locks×Int×Int)):Int×Bool×(List Queue)×Int×Int×Res×Locks×Queue×(List Queue)×Unit→Option (Locks×Int×Int):=fun⟨v69,v70,v71,v72,v73,v74,v75,v76,v77,_⟩=>
 r4 (v69,v70,v71,v72,(IntKind.wrap .i64 (v73+1)),v74,v75,v76,v77,())
def ref08_Ask_j5(n:Nat)(r4:Int×Bool×(List Queue)×Int×Int×Res×Locks×Queue×(List Queue)×Unit→Option (Locks×Int×Int)):Int×Bool×(List Queue)×Int×Int×Res×Locks×Queue×Queue×(List Queue)×Unit→Option (Locks×Int×Int):=fun⟨v58,v59,v60,v61,v62,v63,v64,v65,v66,v67,_⟩=>
 jn (ref08_Ask_j6 n r4) λj6=>
 cond (!(Res.eqb v66.res v63))
 ((app 64 v67 ([v66]:List Queue)).bind λl78=>
 j6 (v58,v59,v60,v61,v62,v63,v64,v65,l78,()))
 (j6 (v58,v59,v60,v61,v62,v63,v64,v65,v67,()))
def ref08_Ask_j7(n:Nat):Int×Locks×(List Queue)×Unit→Option (Locks×Int×Int):=fun⟨v83,v84,v85,_⟩=>
 some ((Locks.mk v85),v83,0)
def ref08_Ask_l4(n:Nat):Nat→Int×Bool×(List Queue)×Int×Int×Res×Locks×Queue×(List Queue)×Unit→Option (Locks×Int×Int):=loopF λr4 ⟨v45,v46,v47,v48,v49,v50,v51,v52,v53,_⟩=>
 cond (decide (v49<v48))
 ((idx v47 v49).bind λx54=>
 jn (fun(b55:Bool)=>
 jn (ref08_Ask_j5 n r4) λj5=>
 cond b55
 ((app 64 v53 ([v52]:List Queue)).bind λl79=>
 j5 (v45,true,v47,v48,v49,v50,v51,v52,x54,l79,()))
 (j5 (v45,v46,v47,v48,v49,v50,v51,v52,x54,v53,()))) λk56=>
 cond (!v46)
 ((ref08_order n x54.res).bind λy80=>
 (ref08_order n v50).bind λy81=>
 k56 (decide (y80≥y81)))
 (k56 false))
 (jn (ref08_Ask_j7 n) λj7=>
 cond (!v46)
 ((app 64 v53 ([v52]:List Queue)).bind λl86=>
 j7 (v45,v51,l86,()))
 (j7 (v45,v51,v53,())))
def ref08_Ask_j3(n:Nat):Int×Locks×Res×Locks×Queue×Unit→Option (Locks×Int×Int):=fun⟨v40,v41,v42,v43,v44,_⟩=>
 ref08_Ask_l4 n n (v40,false,v41.queues,(v41.queues.length:Int),0,v42,v43,v44,([]:List Queue),())
def ref08_Ask_l1(n:Nat):Nat→Int×Int×Int×(List Queue)×Int×Int×Locks×Res×Locks×Queue×Unit→Option (Locks×Int×Int):=loopF λr1 ⟨v7,v8,v9,v10,v11,v12,v13,v14,v15,v16,_⟩=>
 cond (decide (v12<v11))
 ((idx v10 v12).bind λx17=>
 jn (ref08_Ask_j2 n r1) λj2=>
 cond (Res.eqb x17.res v14)
 ((ref08_copied n x17).bind λy29=>
 j2 (v7,v8,v12,v10,v11,v12,v13,v14,v15,y29,()))
 (j2 (v7,v8,v9,v10,v11,v12,v13,v14,v15,v16,())))
 ((ref08_held n v16 v7).bind λy30=>
 (ref07_Covers n y30 v8).bind λy31=>
 cond y31
 (some (v13,1,0))
 ((ref07_Sup n y30 v8).bind λy32=>
 jn (fun(b33:Bool)=>
 cond b33
 (some ((Locks.mk ([]:List Queue)),0,6))
 ((ref08_goes n v16 v7 y32).bind λy35=>
 jn (fun(b36:Bool)=>
 jn (ref08_Ask_j3 n) λj3=>
 cond b36
 ((ref08_holds n v16 v7 y32).bind λy87=>
 j3 (2,v13,v14,v15,y87,()))
 ((ref08_waits n v16 (Wait.mk v7 y32 y30)).bind λy88=>
 j3 (3,v13,v14,v15,y88,()))) λk37=>
 cond y35
 (jn (fun(b89:Bool)=>
 k37 b89) λk90=>
 cond (y30 !=0)
 (k90 true)
 (k90 ((v16.waiters.length:Int)==0)))
 (k37 false))) λk34=>
 cond (decide (v9<0))
 (k34 (decide ((v13.queues.length:Int)≥500)))
 (k34 false)))
def ref08_Ask(n:Nat)(p0:Locks)(p1:Int)(p2:Res)(p3:Int):Option (Locks×Int×Int):=
 (ref08_txn n p1).bind λy1=>
 jn (fun(b2:Bool)=>
 jn (fun(b4:Bool)=>
 cond b4
 (some ((Locks.mk ([]:List Queue)),0,2))
 ((ref08_Waits n p0 p1).bind λy6=>
 cond y6.2.2
 (some ((Locks.mk ([]:List Queue)),0,181))
 (ref08_Ask_l1 n n (p1,p3,(-1),p0.queues,(p0.queues.length:Int),0,p0,p2,(Locks.mk ([]:List Queue)),(Queue.mk p2 ([]:List Hold) ([]:List Wait)),())))) λk5=>
 cond b2
 (k5 true)
 ((ref08_RightMode n p2 p3).bind λy91=>
 k5 (!y91))) λk3=>
 cond (!y1)
 (k3 true)
 ((ref08_RightRes n p2).bind λy92=>
 k3 (!y92))
@[reducible] def ref08_Ask_ct:Ct tab:=⟨20,[.st 4,.one (.d (.int .i64)),.st 0,.one (.d (.int .i64))],[],[.st 4,.one (.d (.int .i64)),.one (.d (.int .i64))],[],(Locks×Int×Int),λy=>(y.1,y.2.1,y.2.2,()),λy=>(y.1,y.2.1,y.2.2.1),λ_=>rfl,λn x=>ref08_Ask n x.1 x.2.1 x.2.2.1 x.2.2.2.1⟩
theorem ref08_Ask_ok:OkC Tryz.prog tab ref08_Ask_ct:=fn_ok (W:=⟨Tryz.prog,tab,tyOf,[ref08_txn_ct,ref08_Waits_ct,ref08_copied_ct,ref08_held_ct,ref07_Covers_ct,ref07_Sup_ct,ref08_goes_ct,ref08_order_ct,ref08_holds_ct,ref08_waits_ct,ref08_RightMode_ct,ref08_RightRes_ct],addO,dpO,false⟩) ⟨tabOk,⟨ref08_txn_ok,ref08_Waits_ok,ref08_copied_ok,ref08_held_ok,ref07_Covers_ok,ref07_Sup_ok,ref08_goes_ok,ref08_order_ok,ref08_holds_ok,ref08_waits_ok,ref08_RightMode_ok,ref08_RightRes_ok,trivial⟩,addOk⟩ (by kernel_rfl) 154 Tryz.f20 (.sq (.n) (.sq (.n) (.sq (.n) (.sq (.n) (.sq (.n) (.sq (.sq (.n) (.bk none (.lp ⟨[(1,.one (.d (.int .i64))),(3,.one (.d (.int .i64))),(4,.one (.box 0 0)),(6,.one (.box 1 0)),(8,.one (.box 2 0)),(14,.one (.d (.int .i64))),(15,.one (.box 3 0)),(52,.one (.d (.sl (.st 3)))),(53,.one (.d (.int .i64))),(54,.one (.d (.int .i64)))],[.bst 4,.bst 0,.bst 4,.bst 3],[]⟩ (.sq (.n) (.sq (.n) (.sq (.bk none (.sq (.n) (.sq (.n) (.cd (some ⟨[(1,.one (.d (.int .i64))),(3,.one (.d (.int .i64))),(4,.one (.box 0 0)),(6,.one (.box 1 0)),(8,.one (.box 2 0)),(14,.one (.d (.int .i64))),(15,.one (.box 3 0)),(52,.one (.d (.sl (.st 3)))),(53,.one (.d (.int .i64))),(54,.one (.d (.int .i64)))],[.bst 4,.bst 0,.bst 4,.bst 3],[]⟩) (.n) (.n))))) (.n))))))) (.sq (.n) (.sq (.n) (.sq (.n) (.sq (.n) (.sq (.n) (.sq (.sq (.n) (.cd (some ⟨[(4,.one (.box 0 0)),(6,.one (.box 1 0)),(8,.one (.box 2 0)),(15,.one (.box 3 0)),(20,.one (.d (.int .i64)))],[.bst 4,.bst 0,.bst 4,.bst 3],[]⟩) (.n) (.n))) (.sq (.n) (.sq (.n) (.sq (.sq (.n) (.bk none (.lp ⟨[(6,.one (.box 0 0)),(8,.one (.box 1 0)),(15,.one (.box 2 0)),(20,.one (.d (.int .i64))),(21,.one (.box 3 0)),(22,.one (.d .bool)),(111,.one (.d (.sl (.st 3)))),(112,.one (.d (.int .i64))),(113,.one (.d (.int .i64)))],[.bst 0,.bst 4,.bst 3,.box [.own 4],.row 43 (.st 3)],[]⟩ (.sq (.n) (.sq (.n) (.sq (.bk none (.sq (.n) (.sq (.sq (.n) (.cd (some ⟨[(6,.one (.box 0 0)),(8,.one (.box 1 0)),(15,.one (.box 2 0)),(20,.one (.d (.int .i64))),(21,.one (.box 3 0)),(22,.one (.d .bool)),(24,.one (.box 4 0)),(111,.one (.d (.sl (.st 3)))),(112,.one (.d (.int .i64))),(113,.one (.d (.int .i64)))],[.bst 0,.bst 4,.bst 3,.box [.own 5],.bst 3,.row 43 (.st 3)],[]⟩) (.n) (.n))) (.sq (.n) (.cd (some ⟨[(6,.one (.box 0 0)),(8,.one (.box 1 0)),(15,.one (.box 2 0)),(20,.one (.d (.int .i64))),(21,.one (.box 3 0)),(22,.one (.d .bool)),(111,.one (.d (.sl (.st 3)))),(112,.one (.d (.int .i64))),(113,.one (.d (.int .i64)))],[.bst 0,.bst 4,.bst 3,.box [.own 4],.row 43 (.st 3)],[]⟩) (.n) (.n)))))) (.n))))))) (.sq (.sq (.n) (.cd (some ⟨[(8,.one (.box 0 0)),(20,.one (.d (.int .i64))),(21,.one (.box 1 0))],[.bst 4,.box [.own 2],.row 43 (.st 3)],[]⟩) (.n) (.n))) (.n))))))))))))))))) Tryz.func20 Tryz.call20 rfl (by kernel_rfl) (by kernel_rfl) (by kernel_rfl) λn x=>by kernel_rfl
def law08_Op_wants_j1(n:Nat):(List Queue)×Int×Int×(List Int)×Unit→Option law08_told:=fun⟨v12,v13,v14,v15,_⟩=>
 some (law08_told.mk (Locks.mk v12) v13 v15 v14)
def law08_Op_wants_j2(n:Nat)(j1:(List Queue)×Int×Int×(List Int)×Unit→Option law08_told):(List Queue)×Int×Int×(List Int)×Unit→Option law08_told:=fun⟨v19,v20,v21,v22,_⟩=>
 j1 (v19,v20,v21,v22,())
def law08_Op_wants(n:Nat)(p0:law08_Op)(p1:Locks):Option law08_told:=
 (ref08_Right n p1).bind λy1=>
 cond (!y1)
 (some (law08_told.mk (Locks.mk ([]:List Queue)) 0 ([]:List Int) 180))
 ((remP (IntKind.wrap .u64 p0.kind) 7).bind λz2=>
 jn (law08_Op_wants_j1 n) λj1=>
 cond (z2==5)
 ((ref08_Release n p1 p0.txn).bind λy16=>
 j1 (y16.1.queues,0,y16.2.1,y16.2.2,()))
 (jn (law08_Op_wants_j2 n j1) λj2=>
 cond (z2==6)
 ((ref08_Leave n p1 p0.txn).bind λy23=>
 j2 (y23.1.queues,0,y23.2.1,y23.2.2,()))
 ((ref08_Ask n p1 p0.txn p0.res p0.mode).bind λy24=>
 j2 (y24.1.queues,y24.2.1,y24.2.2,([]:List Int),()))))
@[reducible] def law08_Op_wants_ct:Ct tab:=⟨8,[.st 5,.st 4],[],[.st 7],[],law08_told,λy=>(y,()),λy=>y.1,λ_=>rfl,λn x=>law08_Op_wants n x.1 x.2.1⟩
theorem law08_Op_wants_ok:OkC Tryz.prog tab law08_Op_wants_ct:=fn_ok (W:=⟨Tryz.prog,tab,tyOf,[ref08_Right_ct,ref08_Release_ct,ref08_Leave_ct,ref08_Ask_ct],addO,dpO,false⟩) ⟨tabOk,⟨ref08_Right_ok,ref08_Release_ok,ref08_Leave_ok,ref08_Ask_ok,trivial⟩,addOk⟩ (by kernel_rfl) 56 Tryz.f8 (.sq (.n) (.sq (.n) (.sq (.sq (.n) (.bk none (.sq (.n) (.cd (some ⟨[(4,.one (.box 0 0))],[.box [.d (.sl (.st 3)),.d (.int .i64),.own 1,.d (.int .i64)],.row 3 (.int .i64)],[]⟩) (.n) (.sq (.n) (.cd (some ⟨[(4,.one (.box 0 0))],[.box [.d (.sl (.st 3)),.d (.int .i64),.own 1,.d (.int .i64)],.row 3 (.int .i64)],[]⟩) (.n) (.n))))))) (.n)))) Tryz.func8 Tryz.call8 rfl (by kernel_rfl) (by kernel_rfl) (by kernel_rfl) λn x=>by kernel_rfl
def locks_with_f40_l1(n:Nat):Nat→Int×Int×Int×(List Int)×Locks×Nat×(List Queue)×Unit→Option (Int×Int×(List Int)×(List Queue)):=loopF λr1 ⟨v4,v5,v6,v7,v8,v9,v10,_⟩=>
 cond (decide (v5<v4))
 ((idxM v10 v5 v9).bind λx11=>
 (sameI v5 v5).bind λu12=>
 (slices_Clone_Hold n x11.holders).bind λy13=>
 (slices_Clone_Wait n x11.waiters).bind λy14=>
 r1 (v4,(IntKind.wrap .i64 (v5+1)),v6,v7,v8,(v9+1),(List.set v10 (Int.toNat v5) (Queue.mk x11.res y13 y14)),()))
 ((sameN v9 (v10).length).bind λu15=>
 (locks_Release_1 n v10 v6 v7).bind λy16=>
 cond (y16.1 !=0)
 (some (y16.1,y16.2.1,y16.2.2.1,([]:List Queue)))
 (some (0,y16.2.1,y16.2.2.1,y16.2.2.2)))
def locks_with_f40(n:Nat)(p0:Locks)(p1:Int)(q0:Int)(q1:List Int):Option (Int×Int×(List Int)×(List Queue)):=
 (locks_Check n p0).bind λy1=>
 cond (y1 !=0)
 (some (y1,q0,q1,([]:List Queue)))
 ((locks_txn n p1).bind λy2=>
 cond (!y2)
 (some (2,q0,q1,([]:List Queue)))
 ((slices_Clone_Queue n p0.queues).bind λy3=>
 locks_with_f40_l1 n n ((y3.length:Int),0,q0,q1,(Locks.mk ([]:List Queue)),0,y3,())))
@[reducible] def locks_with_f40_ct:Ct tab:=⟨21,[.st 4,.one (.d (.int .i64)),.one (.fn 40 [.bx 0,.bx 1])],[.box [.d (.int .i64)],.box [.d (.sl (.int .i64))]],[.agg [.own 2],.one (.d (.int .i64))],[(some 0,.box [.d (.int .i64)]),(some 1,.box [.d (.sl (.int .i64))]),(none,.scr (.st 3) true)],(Int×Int×(List Int)×(List Queue)),λy=>(y.1,y.2.1,y.2.2.1,y.2.2.2,()),λy=>(y.1,y.2.1,y.2.2.1,y.2.2.2.1),λ_=>rfl,λn x=>locks_with_f40 n x.1 x.2.1 x.2.2.1 x.2.2.2.1⟩
theorem locks_with_f40_ok:OkC Tryz.prog tab locks_with_f40_ct:=fn_ok (W:=⟨Tryz.prog,tab,tyOf,[locks_Check_ct,locks_txn_ct,slices_Clone_Queue_ct,slices_Clone_Hold_ct,slices_Clone_Wait_ct,locks_Release_1_ct],addO,dpO,false⟩) ⟨tabOk,⟨locks_Check_ok,locks_txn_ok,slices_Clone_Queue_ok,slices_Clone_Hold_ok,slices_Clone_Wait_ok,locks_Release_1_ok,trivial⟩,addOk⟩ (by kernel_rfl) 61 Tryz.f21 (.sq (.n) (.sq (.n) (.sq (.n) (.sq (.n) (.sq (.sq (.gs [.dpn 4 [none,none,none,some 45,some 47]] (.n)) (.bk none (.lp ⟨[(2,.one (.fn 40 [.bx 0,.bx 1])),(6,.one (.box 2 0)),(9,.one (.box 3 0)),(29,.one (.d (.int .i64))),(30,.one (.d (.int .i64)))],[.box [.d (.int .i64)],.box [.d (.sl (.int .i64))],.bst 4,.box [.own 4],.pdeep 43 (.st 3) [none,none,none,some 45,some 47]],[(0,0),(1,1)]⟩ (.sq (.n) (.sq (.n) (.sq (.bk none (.sq (.n) (.sq (.gs [.foc 4 10] (.n)) (.n)))) (.n))))))) (.sq (.sq (.gs [.fin 4] (.n)) (.n)) (.n))))))) Tryz.func21 Tryz.call21 rfl (by kernel_rfl) (by kernel_rfl) (by kernel_rfl) λn x=>by kernel_rfl
end
end Go.Proofs.YtchocpffjnodfaaGreat
