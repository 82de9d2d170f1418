import Derived.Test.YtchocpffjnodfaaGreatTypes
import Derived.Test.YtchocpffjnodfaaGreatF1
namespace Go.Proofs.YtchocpffjnodfaaGreat
open Go Go.Bur Go.RowKit
set_option linter.unusedVariables false
set_option linter.unusedSimpArgs false
set_option maxRecDepth 100000
noncomputable section
def locks_stands_j1(n:Nat):Int×Int×Bool×Int×Wait×(List Hold)×(List Wait)×Unit→Option (Int×Bool×Int×(List Hold)×(List Wait)):=fun⟨v10,v11,v12,v13,v14,v15,v16,_⟩=>
 (slices_Insert_Wait n v10 v16 ([v14]:List Wait)).bind λy17=>
 some (v11,v12,v13,v15,y17)
def locks_stands_j2(n:Nat)(j1:Int×Int×Bool×Int×Wait×(List Hold)×(List Wait)×Unit→Option (Int×Bool×Int×(List Hold)×(List Wait))):Int×Int×Bool×Int×Wait×(List Hold)×(List Wait)×Unit→Option (Int×Bool×Int×(List Hold)×(List Wait)):=fun⟨v19,v20,v21,v22,v23,v24,v25,_⟩=>
 j1 (v19,v20,v21,v22,v23,v24,v25,())
def locks_stands(n:Nat)(p1:Wait)(q0_0:Int)(q0_1:Bool)(q0_2:Int)(q1:List Hold)(q2:List Wait):Option (Int×Bool×Int×(List Hold)×(List Wait)):=
 (locks_conversion n p1).bind λy1=>
 jn (locks_stands_j1 n) λj1=>
 cond y1
 ((slices_IndexFunc_Wait_f82 n q2).bind λy18=>
 jn (locks_stands_j2 n j1) λj2=>
 cond (decide (y18≥0))
 (j2 (y18,q0_0,q0_1,q0_2,p1,q1,q2,()))
 (j2 ((q2.length:Int),q0_0,q0_1,q0_2,p1,q1,q2,())))
 (j1 ((q2.length:Int),q0_0,q0_1,q0_2,p1,q1,q2,()))
@[reducible] def locks_stands_ct:Ct tab:=⟨35,[.one (.box 0 0),.st 2],[.box [.d (.int .i64),.d .bool,.d (.int .u16),.own 1,.own 2],.row 45 (.st 1),.row 47 (.st 2)],[],[(some 0,.box [.d (.int .i64),.d .bool,.d (.int .u16),.own 1,.own 2]),(none,.row 45 (.st 1)),(none,.row 47 (.st 2))],(Int×Bool×Int×(List Hold)×(List Wait)),λy=>(y.1,y.2.1,y.2.2.1,y.2.2.2.1,y.2.2.2.2,()),λy=>(y.1,y.2.1,y.2.2.1,y.2.2.2.1,y.2.2.2.2.1),λ_=>rfl,λn x=>locks_stands n x.1 x.2.1 x.2.2.1 x.2.2.2.1 x.2.2.2.2.1 x.2.2.2.2.2.1⟩
theorem locks_stands_ok:OkC Tryz.prog tab locks_stands_ct:=fn_ok (W:=⟨Tryz.prog,tab,tyOf,[locks_conversion_ct,slices_Insert_Wait_ct,slices_IndexFunc_Wait_f82_ct],addO,dpO,false⟩) ⟨tabOk,⟨locks_conversion_ok,slices_Insert_Wait_ok,slices_IndexFunc_Wait_f82_ok,trivial⟩,addOk⟩ (by kernel_rfl) 32 Tryz.f35 (.sq (.n) (.sq (.n) (.sq (.sq (.n) (.cd (some ⟨[(0,.one (.box 0 0)),(3,.one (.box 1 0)),(4,.one (.d (.int .i64)))],[.box [.d (.int .i64),.d .bool,.d (.int .u16),.own 2,.own 3],.bst 2,.row 45 (.st 1),.row 47 (.st 2)],[(0,0)]⟩) (.sq (.n) (.sq (.n) (.cd (some ⟨[(0,.one (.box 0 0)),(3,.one (.box 1 0)),(4,.one (.d (.int .i64)))],[.box [.d (.int .i64),.d .bool,.d (.int .u16),.own 2,.own 3],.bst 2,.row 45 (.st 1),.row 47 (.st 2)],[(0,0)]⟩) (.n) (.n)))) (.n))) (.n)))) Tryz.func35 Tryz.call35 rfl (by kernel_rfl) (by kernel_rfl) (by kernel_rfl) λn x=>by kernel_rfl
def locks_of(n:Nat)(p0:Res)(p1:Int):Option Bool:=
 cond p0.isKey
 (jn (fun(b1:Bool)=>
 some b1) λk2=>
 cond (p1 !=0)
 ((mode_OfKeys n p1).bind λy3=>
 k2 y3)
 (k2 false))
 (jn (fun(b4:Bool)=>
 some b4) λk5=>
 cond (p1 !=0)
 ((mode_OfTables n p1).bind λy6=>
 k5 y6)
 (k5 false))
@[reducible] def locks_of_ct:Ct tab:=⟨24,[.st 0,.one (.d (.int .i64))],[],[.one (.d .bool)],[],Bool,λy=>(y,()),λy=>y.1,λ_=>rfl,λn x=>locks_of n x.1 x.2.1⟩
theorem locks_of_ok:OkC Tryz.prog tab locks_of_ct:=fn_ok (W:=⟨Tryz.prog,tab,tyOf,[mode_OfKeys_ct,mode_OfTables_ct],addO,dpO,false⟩) ⟨tabOk,⟨mode_OfKeys_ok,mode_OfTables_ok,trivial⟩,addOk⟩ (by kernel_rfl) 19 Tryz.f24 (.n) Tryz.func24 Tryz.call24 rfl (by kernel_rfl) (by kernel_rfl) (by kernel_rfl) λn x=>by kernel_rfl
def locks_txn(n:Nat)(p0:Int):Option Bool:=
 jn (fun(b1:Bool)=>
 some b1) λk2=>
 cond (decide (p0≥1))
 (k2 (decide (p0≤1073741824)))
 (k2 false)
@[reducible] def locks_txn_ct:Ct tab:=⟨57,[.one (.d (.int .i64))],[],[.one (.d .bool)],[],Bool,λy=>(y,()),λy=>y.1,λ_=>rfl,λn x=>locks_txn n x.1⟩
theorem locks_txn_ok:OkC Tryz.prog tab locks_txn_ct:=fn_ok (W:=⟨Tryz.prog,tab,tyOf,[],addO,dpO,false⟩) ⟨tabOk,trivial,addOk⟩ (by kernel_rfl) 9 Tryz.f57 (.n) Tryz.func57 Tryz.call57 rfl (by kernel_rfl) (by kernel_rfl) (by kernel_rfl) λn x=>by kernel_rfl
def locks_waiters_l1(n:Nat):Nat→Bool×(List Wait)×Int×Int×(List (Int×Bool))×Queue×Unit→Option (Bool×(List (Int×Bool))):=loopF λr1 ⟨v1,v2,v3,v4,v5,v6,_⟩=>
 cond (decide (v4<v3))
 ((idx v2 v4).bind λx7=>
 (locks_txn n x7.txn).bind λy8=>
 jn (fun(b9:Bool)=>
 jn (fun(b11:Bool)=>
 jn (fun(b13:Bool)=>
 jn (fun(b15:Bool)=>
 jn (fun(b17:Bool)=>
 jn (fun(b19:Bool)=>
 jn (fun(b21:Bool)=>
 cond b21
 (some (false,v5))
 ((mput .i64 v5 x7.txn true).bind λl23=>
 jn (fun(b24:Bool)=>
 r1 (b24,v2,v3,(IntKind.wrap .i64 (v4+1)),l23,v6,())) λk25=>
 cond v1
 (k25 true)
 ((locks_conversion n x7).bind λy26=>
 k25 (!y26)))) λk22=>
 cond (!b19)
 (k22 true)
 (jn (fun(b27:Bool)=>
 k22 b27) λk28=>
 cond (v4==0)
 ((locks_goes n v6 x7.txn x7.mode).bind λy29=>
 k28 y29)
 (k28 false))) λk20=>
 cond b17
 (jn (fun(b30:Bool)=>
 k20 (!b30)) λk31=>
 cond v1
 ((locks_conversion n x7).bind λy32=>
 k31 y32)
 (k31 false))
 (k20 false)) λk18=>
 cond b15
 ((mode_Covers n x7.mode x7.held).bind λy33=>
 k18 y33)
 (k18 false)) λk16=>
 cond b13
 ((mode_Covers n x7.held x7.mode).bind λy34=>
 k16 (!y34))
 (k16 false)) λk14=>
 cond b11
 ((locks_held n v6 x7.txn).bind λy35=>
 k14 (x7.held==y35))
 (k14 false)) λk12=>
 cond b9
 ((locks_of n v6.res x7.mode).bind λy36=>
 k12 y36)
 (k12 false)) λk10=>
 cond y8
 ((mlook .i64 false v5 x7.txn).bind λw37=>
 k10 (!w37))
 (k10 false))
 (some (true,v5))
def locks_waiters(n:Nat)(p0:Queue)(q0:List (Int×Bool)):Option (Bool×(List (Int×Bool))):=
 locks_waiters_l1 n n (false,p0.waiters,(p0.waiters.length:Int),0,q0,p0,())
@[reducible] def locks_waiters_ct:Ct tab:=⟨85,[.st 3,.one (.map 0)],[.map .i64 3 4 .bool],[.one (.d .bool)],[(some 0,.map .i64 3 4 .bool)],(Bool×(List (Int×Bool))),λy=>(y.1,y.2,()),λy=>(y.1,y.2.1),λ_=>rfl,λn x=>locks_waiters n x.1 x.2.1⟩
theorem locks_waiters_ok:OkC Tryz.prog tab locks_waiters_ct:=fn_ok (W:=⟨Tryz.prog,tab,tyOf,[locks_txn_ct,locks_conversion_ct,locks_goes_ct,mode_Covers_ct,locks_held_ct,locks_of_ct],addO,dpO,false⟩) ⟨tabOk,⟨locks_txn_ok,locks_conversion_ok,locks_goes_ok,mode_Covers_ok,locks_held_ok,locks_of_ok,trivial⟩,addOk⟩ (by kernel_rfl) 91 Tryz.f85 (.sq (.n) (.sq (.n) (.sq (.sq (.n) (.bk none (.lp ⟨[(1,.one (.map 0)),(2,.one (.box 1 0)),(5,.one (.d .bool)),(10,.one (.d (.sl (.st 2)))),(11,.one (.d (.int .i64))),(12,.one (.d (.int .i64)))],[.map .i64 3 4 .bool,.bst 3],[(0,0)]⟩ (.n)))) (.n)))) Tryz.func85 Tryz.call85 rfl (by kernel_rfl) (by kernel_rfl) (by kernel_rfl) λn x=>by kernel_rfl
def locks_holders_l1(n:Nat):Nat→Int×(List Hold)×Int×Int×Queue×Unit→Option Bool:=loopF λr1 ⟨v1,v2,v3,v4,v5,_⟩=>
 cond (decide (v4<v3))
 ((idx v2 v4).bind λx6=>
 (locks_txn n x6.txn).bind λy7=>
 jn (fun(b8:Bool)=>
 jn (fun(b10:Bool)=>
 jn (fun(b12:Bool)=>
 cond b12
 (some false)
 (r1 (x6.txn,v2,v3,(IntKind.wrap .i64 (v4+1)),v5,()))) λk13=>
 cond b10
 (k13 true)
 ((locks_goes n v5 x6.txn x6.mode).bind λy14=>
 k13 (!y14))) λk11=>
 cond b8
 (k11 true)
 ((locks_of n v5.res x6.mode).bind λy15=>
 k11 (!y15))) λk9=>
 cond (!y7)
 (k9 true)
 (k9 (decide (x6.txn≤v1))))
 (some (decide (v1>0)))
def locks_holders(n:Nat)(p0:Queue):Option Bool:=
 locks_holders_l1 n n (0,p0.holders,(p0.holders.length:Int),0,p0,())
@[reducible] def locks_holders_ct:Ct tab:=⟨84,[.st 3],[],[.one (.d .bool)],[],Bool,λy=>(y,()),λy=>y.1,λ_=>rfl,λn x=>locks_holders n x.1⟩
theorem locks_holders_ok:OkC Tryz.prog tab locks_holders_ct:=fn_ok (W:=⟨Tryz.prog,tab,tyOf,[locks_txn_ct,locks_goes_ct,locks_of_ct],addO,dpO,false⟩) ⟨tabOk,⟨locks_txn_ok,locks_goes_ok,locks_of_ok,trivial⟩,addOk⟩ (by kernel_rfl) 45 Tryz.f84 (.sq (.n) (.sq (.n) (.sq (.sq (.n) (.bk none (.lp ⟨[(1,.one (.box 0 0)),(3,.one (.d (.int .i64))),(7,.one (.d (.sl (.st 1)))),(8,.one (.d (.int .i64))),(9,.one (.d (.int .i64)))],[.bst 3],[]⟩ (.n)))) (.n)))) Tryz.func84 Tryz.call84 rfl (by kernel_rfl) (by kernel_rfl) (by kernel_rfl) λn x=>by kernel_rfl
def locks_Check_l1(n:Nat):Nat→(List Queue)×Int×Int×Locks×(List (Int×Bool))×Unit→Option Int:=loopF λr1 ⟨v1,v2,v3,v4,v5,_⟩=>
 cond (decide (v3<v2))
 ((idx v1 v3).bind λx6=>
 (locks_locked n x6.res).bind λy7=>
 cond (!y7)
 (cond true
 (cond true
 (cond true
 (some 180)
 (r1 (v1,v2,(IntKind.wrap .i64 (v3+1)),v4,v5,())))
 ((locks_waiters n x6 v5).bind λy8=>
 cond (!y8.1)
 (some 180)
 (r1 (v1,v2,(IntKind.wrap .i64 (v3+1)),v4,y8.2,()))))
 ((locks_holders n x6).bind λy9=>
 cond (!y9)
 (cond true
 (some 180)
 (r1 (v1,v2,(IntKind.wrap .i64 (v3+1)),v4,v5,())))
 ((locks_waiters n x6 v5).bind λy10=>
 cond (!y10.1)
 (some 180)
 (r1 (v1,v2,(IntKind.wrap .i64 (v3+1)),v4,y10.2,())))))
 (cond (decide (v3>0))
 ((idx v4.queues (IntKind.wrap .i64 (v3-1))).bind λx11=>
 (locks_compare n x11.res x6.res).bind λy12=>
 cond (decide (y12≥0))
 (cond true
 (cond true
 (some 180)
 (r1 (v1,v2,(IntKind.wrap .i64 (v3+1)),v4,v5,())))
 ((locks_waiters n x6 v5).bind λy13=>
 cond (!y13.1)
 (some 180)
 (r1 (v1,v2,(IntKind.wrap .i64 (v3+1)),v4,y13.2,()))))
 ((locks_holders n x6).bind λy14=>
 cond (!y14)
 (cond true
 (some 180)
 (r1 (v1,v2,(IntKind.wrap .i64 (v3+1)),v4,v5,())))
 ((locks_waiters n x6 v5).bind λy15=>
 cond (!y15.1)
 (some 180)
 (r1 (v1,v2,(IntKind.wrap .i64 (v3+1)),v4,y15.2,())))))
 (cond false
 (cond true
 (cond true
 (some 180)
 (r1 (v1,v2,(IntKind.wrap .i64 (v3+1)),v4,v5,())))
 ((locks_waiters n x6 v5).bind λy16=>
 cond (!y16.1)
 (some 180)
 (r1 (v1,v2,(IntKind.wrap .i64 (v3+1)),v4,y16.2,()))))
 ((locks_holders n x6).bind λy17=>
 cond (!y17)
 (cond true
 (some 180)
 (r1 (v1,v2,(IntKind.wrap .i64 (v3+1)),v4,v5,())))
 ((locks_waiters n x6 v5).bind λy18=>
 cond (!y18.1)
 (some 180)
 (r1 (v1,v2,(IntKind.wrap .i64 (v3+1)),v4,y18.2,())))))))
 (some 0)
def locks_Check(n:Nat)(p0:Locks):Option Int:=
 cond (decide ((p0.queues.length:Int)>500))
 (some 180)
 (locks_Check_l1 n n (p0.queues,(p0.queues.length:Int),0,p0,([]:List (Int×Bool)),()))
@[reducible] def locks_Check_ct:Ct tab:=⟨36,[.st 4],[],[.one (.d (.int .i64))],[],Int,λy=>(y,()),λy=>y.1,λ_=>rfl,λn x=>locks_Check n x.1⟩
theorem locks_Check_ok:OkC Tryz.prog tab locks_Check_ct:=fn_ok (W:=⟨Tryz.prog,tab,tyOf,[locks_locked_ct,locks_waiters_ct,locks_holders_ct,locks_compare_ct],addO,dpO,false⟩) ⟨tabOk,⟨locks_locked_ok,locks_waiters_ok,locks_holders_ok,locks_compare_ok,trivial⟩,addOk⟩ (by kernel_rfl) 52 Tryz.f36 (.sq (.n) (.sq (.n) (.sq (.n) (.sq (.sq (.n) (.bk none (.lp ⟨[(1,.one (.box 0 0)),(3,.one (.map 1)),(12,.one (.d (.sl (.st 3)))),(13,.one (.d (.int .i64))),(14,.one (.d (.int .i64)))],[.bst 4,.map .i64 3 4 .bool],[]⟩ (.sq (.n) (.sq (.n) (.sq (.bk none (.sq (.n) (.sq (.rg [1000000]) (.n)))) (.n))))))) (.n))))) Tryz.func36 Tryz.call36 rfl (by kernel_rfl) (by kernel_rfl) (by kernel_rfl) λn x=>by kernel_rfl
def slices_Clone_Queue(n:Nat)(p0:List Queue):Option ((List Queue)):=
 nilC p0.isEmpty
 (some ([]:List Queue))
 ((app 64 ([]:List Queue) p0).bind λl1=>
 some l1)
@[reducible] def slices_Clone_Queue_ct:Ct tab:=⟨58,[.one (.d (.sl (.st 3)))],[],[.one (.own 0)],[(none,.row 43 (.st 3))],((List Queue)),λy=>(y,()),λy=>y.1,λ_=>rfl,λn x=>slices_Clone_Queue n x.1⟩
theorem slices_Clone_Queue_ok:OkC Tryz.prog tab slices_Clone_Queue_ct:=fn_ok (W:=⟨Tryz.prog,tab,tyOf,[],addO,dpO,false⟩) ⟨tabOk,trivial,addOk⟩ (by kernel_rfl) 8 Tryz.f58 (.n) Tryz.func58 Tryz.call58 rfl (by kernel_rfl) (by kernel_rfl) (by kernel_rfl) λn x=>by kernel_rfl
def slices_Clone_Hold(n:Nat)(p0:List Hold):Option ((List Hold)):=
 nilC p0.isEmpty
 (some ([]:List Hold))
 ((app 16 ([]:List Hold) p0).bind λl1=>
 some l1)
@[reducible] def slices_Clone_Hold_ct:Ct tab:=⟨59,[.one (.d (.sl (.st 1)))],[],[.one (.own 0)],[(none,.row 45 (.st 1))],((List Hold)),λy=>(y,()),λy=>y.1,λ_=>rfl,λn x=>slices_Clone_Hold n x.1⟩
theorem slices_Clone_Hold_ok:OkC Tryz.prog tab slices_Clone_Hold_ct:=fn_ok (W:=⟨Tryz.prog,tab,tyOf,[],addO,dpO,false⟩) ⟨tabOk,trivial,addOk⟩ (by kernel_rfl) 8 Tryz.f59 (.n) Tryz.func59 Tryz.call59 rfl (by kernel_rfl) (by kernel_rfl) (by kernel_rfl) λn x=>by kernel_rfl
def slices_Clone_Wait(n:Nat)(p0:List Wait):Option ((List Wait)):=
 nilC p0.isEmpty
 (some ([]:List Wait))
 ((app 24 ([]:List Wait) p0).bind λl1=>
 some l1)
@[reducible] def slices_Clone_Wait_ct:Ct tab:=⟨60,[.one (.d (.sl (.st 2)))],[],[.one (.own 0)],[(none,.row 47 (.st 2))],((List Wait)),λy=>(y,()),λy=>y.1,λ_=>rfl,λn x=>slices_Clone_Wait n x.1⟩
theorem slices_Clone_Wait_ok:OkC Tryz.prog tab slices_Clone_Wait_ct:=fn_ok (W:=⟨Tryz.prog,tab,tyOf,[],addO,dpO,false⟩) ⟨tabOk,trivial,addOk⟩ (by kernel_rfl) 8 Tryz.f60 (.n) Tryz.func60 Tryz.call60 rfl (by kernel_rfl) (by kernel_rfl) (by kernel_rfl) λn x=>by kernel_rfl
def locks_Ask_1_j1(n:Nat):Int×Res×Int×Int×Int×(List Queue)×Unit→Option (Int×Res×Int×Int×Int×(List Queue)):=fun⟨v7,v8,v9,v10,v11,v12,_⟩=>
 (idx v12 v7).bind λx13=>
 (sameI v7 v7).bind λu14=>
 (locks_held n x13 v10).bind λy15=>
 (mode_Covers n y15 v9).bind λy16=>
 cond y16
 (some (0,v8,v9,v10,1,(List.set v12 (Int.toNat v7) x13)))
 ((mode_Sup n y15 v9).bind λy17=>
 cond (y17.2 !=0)
 (some (2,v8,v9,v10,1,(List.set v12 (Int.toNat v7) x13)))
 ((locks_goes n x13 v10 y17.1).bind λy18=>
 jn (fun(b19:Bool)=>
 cond b19
 ((locks_holds n v10 y17.1 x13.res.table x13.res.isKey x13.res.id x13.holders x13.waiters).bind λy21=>
 some (0,v8,v9,v10,2,(List.set v12 (Int.toNat v7) (Queue.mk (Res.mk y21.1 y21.2.1 y21.2.2.1) y21.2.2.2.1 y21.2.2.2.2))))
 ((locks_stands n (Wait.mk v10 y17.1 y15) x13.res.table x13.res.isKey x13.res.id x13.holders x13.waiters).bind λy22=>
 some (0,v8,v9,v10,3,(List.set v12 (Int.toNat v7) (Queue.mk (Res.mk y22.1 y22.2.1 y22.2.2.1) y22.2.2.2.1 y22.2.2.2.2))))) λk20=>
 cond y18
 (jn (fun(b23:Bool)=>
 k20 b23) λk24=>
 cond (y15 !=0)
 (k24 true)
 (k24 ((x13.waiters.length:Int)==0)))
 (k20 false)))
def locks_Ask_1(n:Nat)(q1:List Queue)(q2:Res)(q3:Int)(q4:Int)(q5:Int):Option (Int×Res×Int×Int×Int×(List Queue)):=
 (locks_locked n q2).bind λy1=>
 jn (fun(b2:Bool)=>
 cond b2
 (some (2,q2,q3,q4,q5,q1))
 ((locks_waits n (Locks.mk q1) q4).bind λy4=>
 cond y4.2.2
 (some (181,q2,q3,q4,q5,q1))
 ((slices_BinarySearchFunc_Res_f27 n q1 q2).bind λy5=>
 jn (locks_Ask_1_j1 n) λj1=>
 cond (!y5.2)
 (cond (decide ((q1.length:Int)≥500))
 (some (6,q2,q3,q4,q5,q1))
 ((slices_Insert_Queue n y5.1 q1 ([(Queue.mk q2 ([]:List Hold) ([]:List Wait))]:List Queue)).bind λy25=>
 j1 (y5.1,q2,q3,q4,q5,y25,())))
 (j1 (y5.1,q2,q3,q4,q5,q1,()))))) λk3=>
 cond (!y1)
 (k3 true)
 ((locks_of n q2 q3).bind λy26=>
 k3 (!y26))
@[reducible] def locks_Ask_1_ct:Ct tab:=⟨22,[.one (.box 0 0),.one (.box 2 0),.one (.box 3 0),.one (.box 4 0),.one (.box 5 0)],[.box [.own 1],.deep 43 (.st 3) [none,none,none,some 45,some 47],.bst 0,.box [.d (.int .i64)],.box [.d (.int .i64)],.box [.d (.int .i64)]],[.one (.d (.int .i64))],[(some 0,.box [.own 5]),(some 2,.bst 0),(some 3,.box [.d (.int .i64)]),(some 4,.box [.d (.int .i64)]),(some 5,.box [.d (.int .i64)]),(none,.deep 43 (.st 3) [none,none,none,some 45,some 47])],(Int×Res×Int×Int×Int×(List Queue)),λy=>(y.1,y.2.1,y.2.2.1,y.2.2.2.1,y.2.2.2.2.1,y.2.2.2.2.2,()),λy=>(y.1,y.2.1,y.2.2.1,y.2.2.2.1,y.2.2.2.2.1,y.2.2.2.2.2.1),λ_=>rfl,λn x=>locks_Ask_1 n x.1 x.2.1 x.2.2.1 x.2.2.2.1 x.2.2.2.2.1⟩
theorem locks_Ask_1_ok:OkC Tryz.prog tab locks_Ask_1_ct:=fn_ok (W:=⟨Tryz.prog,tab,tyOf,[locks_locked_ct,locks_waits_ct,slices_BinarySearchFunc_Res_f27_ct,locks_held_ct,mode_Covers_ct,mode_Sup_ct,locks_goes_ct,locks_holds_ct,locks_stands_ct,slices_Insert_Queue_ct,locks_of_ct],addO,dpO,false⟩) ⟨tabOk,⟨locks_locked_ok,locks_waits_ok,slices_BinarySearchFunc_Res_f27_ok,locks_held_ok,mode_Covers_ok,mode_Sup_ok,locks_goes_ok,locks_holds_ok,locks_stands_ok,slices_Insert_Queue_ok,locks_of_ok,trivial⟩,addOk⟩ (by kernel_rfl) 114 Tryz.f22 (.sq (.n) (.sq (.n) (.sq (.n) (.sq (.n) (.sq (.sq (.n) (.cd (some ⟨[(0,.one (.box 0 0)),(1,.one (.box 1 0)),(2,.one (.box 2 0)),(3,.one (.box 3 0)),(4,.one (.box 4 0)),(10,.one (.d (.int .i64)))],[.box [.own 5],.bst 0,.box [.d (.int .i64)],.box [.d (.int .i64)],.box [.d (.int .i64)],.deep 43 (.st 3) [none,none,none,some 45,some 47]],[(0,0),(2,1),(3,2),(4,3),(5,4)]⟩) (.n) (.n))) (.sq (.gs [.foc 5 10] (.n)) (.n))))))) Tryz.func22 Tryz.call22 rfl (by kernel_rfl) (by kernel_rfl) (by kernel_rfl) λn x=>by kernel_rfl
def bits_Len32_j2(n:Nat):Int×Int×Unit→Option Int:=fun⟨v5,v6,_⟩=>
 (sIdx (ByteArray.mk #[0,1,2,2,3,3,3,3,4,4,4,4,4,4,4,4,5,5,5,5,5,5,5,5,5,5,5,5,5,5,5,5,6,6,6,6,6,6,6,6,6,6,6,6,6,6,6,6,6,6,6,6,6,6,6,6,6,6,6,6,6,6,6,6,7,7,7,7,7,7,7,7,7,7,7,7,7,7,7,7,7,7,7,7,7,7,7,7,7,7,7,7,7,7,7,7,7,7,7,7,7,7,7,7,7,7,7,7,7,7,7,7,7,7,7,7,7,7,7,7,7,7,7,7,7,7,7,7,8,8,8,8,8,8,8,8,8,8,8,8,8,8,8,8,8,8,8,8,8,8,8,8,8,8,8,8,8,8,8,8,8,8,8,8,8,8,8,8,8,8,8,8,8,8,8,8,8,8,8,8,8,8,8,8,8,8,8,8,8,8,8,8,8,8,8,8,8,8,8,8,8,8,8,8,8,8,8,8,8,8,8,8,8,8,8,8,8,8,8,8,8,8,8,8,8,8,8,8,8,8,8,8,8,8,8,8,8,8,8,8,8,8,8,8,8,8,8,8,8,8,8,8,8,8,8,8]) (IntKind.wrap .u8 v5)).bind λc7=>
 some (IntKind.wrap .i64 (v6+(IntKind.wrap .i64 c7)))
def bits_Len32_j1(n:Nat):Int×Int×Unit→Option Int:=fun⟨v2,v3,_⟩=>
 jn (bits_Len32_j2 n) λj2=>
 cond (decide (v2≥256))
 ((shrP .u32 v2 8).bind λz8=>
 j2 (z8,(IntKind.wrap .i64 (v3+8)),()))
 (j2 (v2,v3,()))
def bits_Len32(n:Nat)(p0:Int):Option Int:=
 jn (bits_Len32_j1 n) λj1=>
 cond (decide (p0≥65536))
 ((shrP .u32 p0 16).bind λz9=>
 j1 (z9,16,()))
 (j1 (p0,0,()))
@[reducible] def bits_Len32_ct:Ct tab:=⟨119,[.one (.d (.int .u32))],[],[.one (.d (.int .i64))],[],Int,λy=>(y,()),λy=>y.1,λ_=>rfl,λn x=>bits_Len32 n x.1⟩
theorem bits_Len32_ok:OkC Tryz.prog tab bits_Len32_ct:=fn_ok (W:=⟨Tryz.prog,tab,tyOf,[],addO,dpO,false⟩) ⟨tabOk,trivial,addOk⟩ (by kernel_rfl) 19 Tryz.f119 (.sq (.n) (.sq (.sq (.n) (.cd (some ⟨[(0,.one (.d (.int .u32))),(2,.one (.d (.int .i64)))],[],[]⟩) (.n) (.n))) (.sq (.sq (.n) (.cd (some ⟨[(0,.one (.d (.int .u32))),(2,.one (.d (.int .i64)))],[],[]⟩) (.n) (.n))) (.n)))) Tryz.func119 Tryz.call119 rfl (by kernel_rfl) (by kernel_rfl) (by kernel_rfl) λn x=>by kernel_rfl
def bits_Len64_j3(n:Nat):Int×Int×Unit→Option Int:=fun⟨v8,v9,_⟩=>
 (sIdx (ByteArray.mk #[0,1,2,2,3,3,3,3,4,4,4,4,4,4,4,4,5,5,5,5,5,5,5,5,5,5,5,5,5,5,5,5,6,6,6,6,6,6,6,6,6,6,6,6,6,6,6,6,6,6,6,6,6,6,6,6,6,6,6,6,6,6,6,6,7,7,7,7,7,7,7,7,7,7,7,7,7,7,7,7,7,7,7,7,7,7,7,7,7,7,7,7,7,7,7,7,7,7,7,7,7,7,7,7,7,7,7,7,7,7,7,7,7,7,7,7,7,7,7,7,7,7,7,7,7,7,7,7,8,8,8,8,8,8,8,8,8,8,8,8,8,8,8,8,8,8,8,8,8,8,8,8,8,8,8,8,8,8,8,8,8,8,8,8,8,8,8,8,8,8,8,8,8,8,8,8,8,8,8,8,8,8,8,8,8,8,8,8,8,8,8,8,8,8,8,8,8,8,8,8,8,8,8,8,8,8,8,8,8,8,8,8,8,8,8,8,8,8,8,8,8,8,8,8,8,8,8,8,8,8,8,8,8,8,8,8,8,8,8,8,8,8,8,8,8,8,8,8,8,8,8,8,8,8,8,8]) (IntKind.wrap .u8 v8)).bind λc10=>
 some (IntKind.wrap .i64 (v9+(IntKind.wrap .i64 c10)))
def bits_Len64_j2(n:Nat):Int×Int×Unit→Option Int:=fun⟨v5,v6,_⟩=>
 jn (bits_Len64_j3 n) λj3=>
 cond (decide (v5≥256))
 ((shrP .u64 v5 8).bind λz11=>
 j3 (z11,(IntKind.wrap .i64 (v6+8)),()))
 (j3 (v5,v6,()))
def bits_Len64_j1(n:Nat):Int×Int×Unit→Option Int:=fun⟨v2,v3,_⟩=>
 jn (bits_Len64_j2 n) λj2=>
 cond (decide (v2≥65536))
 ((shrP .u64 v2 16).bind λz12=>
 j2 (z12,(IntKind.wrap .i64 (v3+16)),()))
 (j2 (v2,v3,()))
def bits_Len64(n:Nat)(p0:Int):Option Int:=
 jn (bits_Len64_j1 n) λj1=>
 cond (decide (p0≥4294967296))
 ((shrP .u64 p0 32).bind λz13=>
 j1 (z13,32,()))
 (j1 (p0,0,()))
@[reducible] def bits_Len64_ct:Ct tab:=⟨120,[.one (.d (.int .u64))],[],[.one (.d (.int .i64))],[],Int,λy=>(y,()),λy=>y.1,λ_=>rfl,λn x=>bits_Len64 n x.1⟩
theorem bits_Len64_ok:OkC Tryz.prog tab bits_Len64_ct:=fn_ok (W:=⟨Tryz.prog,tab,tyOf,[],addO,dpO,false⟩) ⟨tabOk,trivial,addOk⟩ (by kernel_rfl) 25 Tryz.f120 (.sq (.n) (.sq (.sq (.n) (.cd (some ⟨[(0,.one (.d (.int .u64))),(2,.one (.d (.int .i64)))],[],[]⟩) (.n) (.n))) (.sq (.sq (.n) (.cd (some ⟨[(0,.one (.d (.int .u64))),(2,.one (.d (.int .i64)))],[],[]⟩) (.n) (.n))) (.sq (.sq (.n) (.cd (some ⟨[(0,.one (.d (.int .u64))),(2,.one (.d (.int .i64)))],[],[]⟩) (.n) (.n))) (.n))))) Tryz.func120 Tryz.call120 rfl (by kernel_rfl) (by kernel_rfl) (by kernel_rfl) λn x=>by kernel_rfl
def bits_Len(n:Nat)(p0:Int):Option Int:=
 cond false
 ((bits_Len32 n (IntKind.wrap .u32 p0)).bind λy1=>
 some y1)
 ((bits_Len64 n p0).bind λy2=>
 some y2)
@[reducible] def bits_Len_ct:Ct tab:=⟨88,[.one (.d (.int .u64))],[],[.one (.d (.int .i64))],[],Int,λy=>(y,()),λy=>y.1,λ_=>rfl,λn x=>bits_Len n x.1⟩
theorem bits_Len_ok:OkC Tryz.prog tab bits_Len_ct:=fn_ok (W:=⟨Tryz.prog,tab,tyOf,[bits_Len32_ct,bits_Len64_ct],addO,dpO,false⟩) ⟨tabOk,⟨bits_Len32_ok,bits_Len64_ok,trivial⟩,addOk⟩ (by kernel_rfl) 8 Tryz.f88 (.n) Tryz.func88 Tryz.call88 rfl (by kernel_rfl) (by kernel_rfl) (by kernel_rfl) λn x=>by kernel_rfl
def cmp_Less_int(n:Nat)(p0:Int)(p1:Int):Option Bool:=
 (cmp_isNaN_int n p0).bind λy1=>
 jn (fun(b2:Bool)=>
 jn (fun(b4:Bool)=>
 some b4) λk5=>
 cond b2
 (k5 true)
 (k5 (decide (p0<p1)))) λk3=>
 cond y1
 ((cmp_isNaN_int n p1).bind λy6=>
 k3 (!y6))
 (k3 false)
@[reducible] def cmp_Less_int_ct:Ct tab:=⟨116,[.one (.d (.int .i64)),.one (.d (.int .i64))],[],[.one (.d .bool)],[],Bool,λy=>(y,()),λy=>y.1,λ_=>rfl,λn x=>cmp_Less_int n x.1 x.2.1⟩
theorem cmp_Less_int_ok:OkC Tryz.prog tab cmp_Less_int_ct:=fn_ok (W:=⟨Tryz.prog,tab,tyOf,[cmp_isNaN_int_ct],addO,dpO,false⟩) ⟨tabOk,⟨cmp_isNaN_int_ok,trivial⟩,addOk⟩ (by kernel_rfl) 17 Tryz.f116 (.n) Tryz.func116 Tryz.call116 rfl (by kernel_rfl) (by kernel_rfl) (by kernel_rfl) λn x=>by kernel_rfl
def slices_insertionSortOrdered_int_l2(n:Nat)(r1:Int×Int×Int×(List Int)×Unit→Option ((List Int))):Nat→Int×Int×Int×Int×(List Int)×Unit→Option ((List Int)):=loopF λr2 ⟨v5,v6,v7,v8,v9,_⟩=>
 jn (fun(b10:Bool)=>
 cond b10
 ((idx v9 (IntKind.wrap .i64 (v8-1))).bind λx12=>
 (idx v9 (IntKind.wrap .i64 (v8-1))).bind λx13=>
 (idx v9 v8).bind λx14=>
 (idx v9 v8).bind λx15=>
 (idx v9 v8).bind λx16=>
 (put v9 v8 x13).bind λl17=>
 (idx l17 (IntKind.wrap .i64 (v8-1))).bind λx18=>
 (put l17 (IntKind.wrap .i64 (v8-1)) x15).bind λl19=>
 r2 (v5,v6,v7,(IntKind.wrap .i64 (v8-1)),l19,()))
 (r1 (v5,v6,(IntKind.wrap .i64 (v7+1)),v9,()))) λk11=>
 cond (decide (v8>v5))
 ((idx v9 v8).bind λx20=>
 (idx v9 v8).bind λx21=>
 (idx v9 (IntKind.wrap .i64 (v8-1))).bind λx22=>
 (idx v9 (IntKind.wrap .i64 (v8-1))).bind λx23=>
 (cmp_Less_int n x21 x23).bind λy24=>
 k11 y24)
 (k11 false)
def slices_insertionSortOrdered_int_l1(n:Nat):Nat→Int×Int×Int×(List Int)×Unit→Option ((List Int)):=loopF λr1 ⟨v1,v2,v3,v4,_⟩=>
 cond (decide (v3<v2))
 (slices_insertionSortOrdered_int_l2 n r1 n (v1,v2,v3,v3,v4,()))
 (some v4)
def slices_insertionSortOrdered_int(n:Nat)(p1:Int)(p2:Int)(q0:List Int):Option ((List Int)):=
 slices_insertionSortOrdered_int_l1 n n (p1,p2,(IntKind.wrap .i64 (p1+1)),q0,())
@[reducible] def slices_insertionSortOrdered_int_ct:Ct tab:=⟨110,[.one (.own 0),.one (.d (.int .i64)),.one (.d (.int .i64))],[.row 3 (.int .i64)],[],[(some 0,.row 3 (.int .i64))],((List Int)),λy=>(y,()),λy=>y.1,λ_=>rfl,λn x=>slices_insertionSortOrdered_int n x.1 x.2.1 x.2.2.1⟩
theorem slices_insertionSortOrdered_int_ok:OkC Tryz.prog tab slices_insertionSortOrdered_int_ct:=fn_ok (W:=⟨Tryz.prog,tab,tyOf,[cmp_Less_int_ct],addO,dpO,false⟩) ⟨tabOk,⟨cmp_Less_int_ok,trivial⟩,addOk⟩ (by kernel_rfl) 49 Tryz.f110 (.sq (.n) (.bk none (.lp ⟨[(0,.one (.own 0)),(1,.one (.d (.int .i64))),(2,.one (.d (.int .i64))),(6,.one (.d (.int .i64)))],[.row 3 (.int .i64)],[(0,0)]⟩ (.sq (.n) (.sq (.bk none (.sq (.n) (.bk none (.lp ⟨[(0,.one (.own 0)),(1,.one (.d (.int .i64))),(2,.one (.d (.int .i64))),(6,.one (.d (.int .i64))),(7,.one (.d (.int .i64)))],[.row 3 (.int .i64)],[(0,0)]⟩ (.n))))) (.n)))))) Tryz.func110 Tryz.call110 rfl (by kernel_rfl) (by kernel_rfl) (by kernel_rfl) λn x=>by kernel_rfl
def slices_pdqsortOrdered_int_j2(n:Nat):Int×Int×Int×Bool×Bool×Int×(List Int)×Unit→Option ((List Int)):=fun⟨v16,v17,v18,v19,v20,v21,v22,_⟩=>
 none
def slices_pdqsortOrdered_int_l1(n:Nat):Nat→Int×Int×Int×Bool×Bool×(List Int)×Unit→Option ((List Int)):=loopF λr1 ⟨v1,v2,v3,v4,v5,v6,_⟩=>
 cond (decide ((IntKind.wrap .i64 (v2-v1))≤12))
 ((slices_insertionSortOrdered_int n v1 v2 v6).bind λy15=>
 some y15)
 (cond (v3==0)
 (none)
 (jn (slices_pdqsortOrdered_int_j2 n) λj2=>
 cond (!v4)
 (none)
 (j2 (v1,v2,v3,v4,v5,(IntKind.wrap .i64 (v2-v1)),v6,()))))
def slices_pdqsortOrdered_int(n:Nat)(p1:Int)(p2:Int)(p3:Int)(q0:List Int):Option ((List Int)):=
 slices_pdqsortOrdered_int_l1 n n (p1,p2,p3,true,true,q0,())
@[reducible] def slices_pdqsortOrdered_int_ct:Ct tab:=⟨87,[.one (.own 0),.one (.d (.int .i64)),.one (.d (.int .i64)),.one (.d (.int .i64))],[.row 3 (.int .i64)],[],[(some 0,.row 3 (.int .i64))],((List Int)),λy=>(y,()),λy=>y.1,λ_=>rfl,λn x=>slices_pdqsortOrdered_int n x.1 x.2.1 x.2.2.1 x.2.2.2.1⟩
theorem slices_pdqsortOrdered_int_ok:OkC Tryz.prog tab slices_pdqsortOrdered_int_ct:=fn_ok (W:=⟨Tryz.prog,tab,tyOf,[slices_insertionSortOrdered_int_ct],addO,dpO,false⟩) ⟨tabOk,⟨slices_insertionSortOrdered_int_ok,trivial⟩,addOk⟩ (by kernel_rfl) 134 Tryz.f87 (.sq (.n) (.sq (.n) (.bk none (.lp ⟨[(0,.one (.own 0)),(1,.one (.d (.int .i64))),(2,.one (.d (.int .i64))),(3,.one (.d (.int .i64))),(8,.one (.d .bool)),(9,.one (.d .bool))],[.row 3 (.int .i64)],[(0,0)]⟩ (.bk (some ⟨[],[],[]⟩) (.sq (.n) (.sq (.n) (.sq (.n) (.sq (.sq (.n) (.cd (some ⟨[(0,.one (.own 0)),(1,.one (.d (.int .i64))),(2,.one (.d (.int .i64))),(3,.one (.d (.int .i64))),(8,.one (.d .bool)),(9,.one (.d .bool)),(10,.one (.d (.int .i64)))],[.row 3 (.int .i64)],[(0,0)]⟩) (.n) (.n))) (.n)))))))))) Tryz.func87 Tryz.call87 rfl (by kernel_rfl) (by kernel_rfl) (by kernel_rfl) λn x=>by kernel_rfl
def slices_Sort_int(n:Nat)(q0:List Int):Option ((List Int)):=
 (bits_Len n (IntKind.wrap .u64 (q0.length:Int))).bind λy1=>
 (slices_pdqsortOrdered_int n 0 (q0.length:Int) y1 q0).bind λy2=>
 some y2
@[reducible] def slices_Sort_int_ct:Ct tab:=⟨38,[.one (.own 0)],[.row 3 (.int .i64)],[],[(some 0,.row 3 (.int .i64))],((List Int)),λy=>(y,()),λy=>y.1,λ_=>rfl,λn x=>slices_Sort_int n x.1⟩
theorem slices_Sort_int_ok:OkC Tryz.prog tab slices_Sort_int_ct:=fn_ok (W:=⟨Tryz.prog,tab,tyOf,[bits_Len_ct,slices_pdqsortOrdered_int_ct],addO,dpO,false⟩) ⟨tabOk,⟨bits_Len_ok,slices_pdqsortOrdered_int_ok,trivial⟩,addOk⟩ (by kernel_rfl) 11 Tryz.f38 (.n) Tryz.func38 Tryz.call38 rfl (by kernel_rfl) (by kernel_rfl) (by kernel_rfl) λn x=>by kernel_rfl
def slices_Compact_int_j3(n:Nat)(r2:Int×Int×Int×(List Int)×Unit→Option ((List Int))):Int×Int×Int×(List Int)×Unit→Option ((List Int)):=fun⟨v23,v24,v25,v26,_⟩=>
 r2 (v23,v24,(IntKind.wrap .i64 (v25+1)),v26,())
def slices_Compact_int_l2(n:Nat):Nat→Int×Int×Int×(List Int)×Unit→Option ((List Int)):=loopF λr2 ⟨v8,v9,v10,v11,_⟩=>
 cond (decide (v10<((v11.length-v9.toNat:Nat):Int)))
 ((vwI v9 v10).bind λi12=>
 (idx v11 i12).bind λx13=>
 (idx v11 i12).bind λx14=>
 (vwI v9 (IntKind.wrap .i64 (v10-1))).bind λi15=>
 (idx v11 i15).bind λx16=>
 (idx v11 i15).bind λx17=>
 jn (slices_Compact_int_j3 n r2) λj3=>
 cond (x14 !=x17)
 ((vwI v9 v10).bind λi27=>
 (idx v11 i27).bind λx28=>
 (idx v11 i27).bind λx29=>
 (idx v11 v8).bind λx30=>
 (put v11 v8 x29).bind λl31=>
 j3 ((IntKind.wrap .i64 (v8+1)),v9,v10,l31,()))
 (j3 (v8,v9,v10,v11,())))
 ((sub v11 v8 (v11.length:Int)).bind λl32=>
 (sub (v11.take v8.toNat++List.replicate (v11.length-v8.toNat) 0) 0 v8).bind λl33=>
 some l33)
def slices_Compact_int_l1(n:Nat):Nat→Int×(List Int)×Unit→Option ((List Int)):=loopF λr1 ⟨v1,v2,_⟩=>
 cond (decide (v1<(v2.length:Int)))
 ((idx v2 v1).bind λx3=>
 (idx v2 v1).bind λx4=>
 (idx v2 (IntKind.wrap .i64 (v1-1))).bind λx5=>
 (idx v2 (IntKind.wrap .i64 (v1-1))).bind λx6=>
 cond (x4==x6)
 ((sub v2 v1 (v2.length:Int)).bind λl7=>
 slices_Compact_int_l2 n n (v1,v1,1,v2,()))
 (r1 ((IntKind.wrap .i64 (v1+1)),v2,())))
 (some v2)
def slices_Compact_int(n:Nat)(q0:List Int):Option ((List Int)):=
 cond (decide ((q0.length:Int)<2))
 (some q0)
 (slices_Compact_int_l1 n n (1,q0,()))
@[reducible] def slices_Compact_int_ct:Ct tab:=⟨39,[.one (.own 0)],[.row 3 (.int .i64)],[.one (.d (.sl (.int .i64)))],[],((List Int)),λy=>(y,()),λy=>y.1,λ_=>rfl,λn x=>slices_Compact_int n x.1⟩
theorem slices_Compact_int_ok:OkC Tryz.prog tab slices_Compact_int_ct:=fn_ok (W:=⟨Tryz.prog,tab,tyOf,[],addO,dpO,true⟩) ⟨tabOk,trivial,addOk⟩ (by kernel_rfl) 61 Tryz.f39 (.sq (.n) (.sq (.n) (.sq (.sq (.n) (.bk none (.lp ⟨[(0,.one (.own 0)),(3,.one (.d (.int .i64)))],[.row 3 (.int .i64)],[]⟩ (.sq (.n) (.sq (.bk none (.sq (.n) (.cd none (.sq (.n) (.sq (.sq (.n) (.bk none (.lp ⟨[(0,.one (.own 0)),(3,.one (.d (.int .i64))),(4,.one (.vw 0 1)),(5,.one (.d (.int .i64)))],[.row 3 (.int .i64)],[]⟩ (.sq (.n) (.sq (.bk none (.sq (.n) (.cd (some ⟨[(0,.one (.own 0)),(3,.one (.d (.int .i64))),(4,.one (.vw 0 1)),(5,.one (.d (.int .i64)))],[.row 3 (.int .i64)],[]⟩) (.n) (.n)))) (.n)))))) (.n))) (.n)))) (.n)))))) (.n)))) Tryz.func39 Tryz.call39 rfl (by kernel_rfl) (by kernel_rfl) (by kernel_rfl) λn x=>by kernel_rfl
def locks_Blockers_j2(n:Nat)(r1:Int×Int×(List Hold)×Int×Int×Queue×(List Int)×Unit→Option ((List Int))):Int×Int×(List Hold)×Int×Int×Queue×(List Int)×Unit→Option ((List Int)):=fun⟨v16,v17,v18,v19,v20,v21,v22,_⟩=>
 r1 (v16,v17,v18,v19,(IntKind.wrap .i64 (v20+1)),v21,v22,())
def locks_Blockers_l3(n:Nat):Nat→(List Wait)×Int×Int×(List Int)×Unit→Option ((List Int)):=loopF λr3 ⟨v27,v28,v29,v30,_⟩=>
 cond (decide (v29<v28))
 ((idx v27 v29).bind λx31=>
 (app 8 v30 ([x31.txn]:List Int)).bind λl32=>
 r3 (v27,v28,(IntKind.wrap .i64 (v29+1)),l32,()))
 ((slices_Sort_int n v30).bind λy33=>
 (slices_Compact_int n y33).bind λy34=>
 some y34)
def locks_Blockers_l1(n:Nat):Nat→Int×Int×(List Hold)×Int×Int×Queue×(List Int)×Unit→Option ((List Int)):=loopF λr1 ⟨v5,v6,v7,v8,v9,v10,v11,_⟩=>
 cond (decide (v9<v8))
 ((idx v7 v9).bind λx12=>
 jn (fun(b13:Bool)=>
 jn (locks_Blockers_j2 n r1) λj2=>
 cond b13
 ((app 8 v11 ([x12.txn]:List Int)).bind λl23=>
 j2 (v5,v6,v7,v8,v9,v10,l23,()))
 (j2 (v5,v6,v7,v8,v9,v10,v11,()))) λk14=>
 cond (x12.txn !=v5)
 ((idx v10.waiters v6).bind λx24=>
 (mode_Goes n x12.mode x24.mode).bind λy25=>
 k14 (!y25))
 (k14 false))
 ((sub v10.waiters 0 v6).bind λl26=>
 locks_Blockers_l3 n n (l26,(l26.length:Int),0,v11,()))
def locks_Blockers(n:Nat)(p0:Locks)(p1:Int):Option ((List Int)):=
 (locks_waits n p0 p1).bind λy1=>
 jn (fun(b2:Bool)=>
 cond b2
 (some ([]:List Int))
 ((idx p0.queues y1.1).bind λx4=>
 locks_Blockers_l1 n n (p1,y1.2.1,x4.holders,(x4.holders.length:Int),0,x4,([]:List Int),()))) λk3=>
 cond (!y1.2.2)
 (k3 true)
 ((locks_Check n p0).bind λy35=>
 k3 (y35 !=0))
@[reducible] def locks_Blockers_ct:Ct tab:=⟨12,[.st 4,.one (.d (.int .i64))],[],[.one (.d (.sl (.int .i64)))],[],((List Int)),λy=>(y,()),λy=>y.1,λ_=>rfl,λn x=>locks_Blockers n x.1 x.2.1⟩
theorem locks_Blockers_ok:OkC Tryz.prog tab locks_Blockers_ct:=fn_ok (W:=⟨Tryz.prog,tab,tyOf,[locks_waits_ct,mode_Goes_ct,slices_Sort_int_ct,slices_Compact_int_ct,locks_Check_ct],addO,dpO,false⟩) ⟨tabOk,⟨locks_waits_ok,mode_Goes_ok,slices_Sort_int_ok,slices_Compact_int_ok,locks_Check_ok,trivial⟩,addOk⟩ (by kernel_rfl) 81 Tryz.f12 (.sq (.n) (.sq (.n) (.sq (.n) (.sq (.n) (.sq (.n) (.sq (.sq (.n) (.bk none (.lp ⟨[(1,.one (.d (.int .i64))),(6,.one (.d (.int .i64))),(8,.one (.box 0 0)),(9,.one (.own 1)),(34,.one (.d (.sl (.st 1)))),(35,.one (.d (.int .i64))),(36,.one (.d (.int .i64)))],[.bst 3,.row 3 (.int .i64)],[]⟩ (.sq (.n) (.sq (.n) (.sq (.bk none (.sq (.n) (.sq (.n) (.cd (some ⟨[(1,.one (.d (.int .i64))),(6,.one (.d (.int .i64))),(8,.one (.box 0 0)),(9,.one (.own 1)),(34,.one (.d (.sl (.st 1)))),(35,.one (.d (.int .i64))),(36,.one (.d (.int .i64)))],[.bst 3,.row 3 (.int .i64)],[]⟩) (.n) (.n))))) (.n))))))) (.sq (.sq (.n) (.bk none (.lp ⟨[(9,.one (.own 0)),(65,.one (.d (.sl (.st 2)))),(66,.one (.d (.int .i64))),(67,.one (.d (.int .i64)))],[.row 3 (.int .i64)],[]⟩ (.n)))) (.n)))))))) Tryz.func12 Tryz.call12 rfl (by kernel_rfl) (by kernel_rfl) (by kernel_rfl) λn x=>by kernel_rfl
def locks_without_1(n:Nat)(p0:Wait)(p1:Int):Option Bool:=
 some (p0.txn==p1)
@[reducible] def locks_without_1_ct:Ct tab:=⟨90,[.st 2,.one (.ro (.int .i64))],[],[.one (.d .bool)],[],Bool,λy=>(y,()),λy=>y.1,λ_=>rfl,λn x=>locks_without_1 n x.1 x.2.1⟩
theorem locks_without_1_ok:OkC Tryz.prog tab locks_without_1_ct:=fn_ok (W:=⟨Tryz.prog,tab,tyOf,[],addO,dpO,false⟩) ⟨tabOk,trivial,addOk⟩ (by kernel_rfl) 8 Tryz.f90 (.n) Tryz.func90 Tryz.call90 rfl (by kernel_rfl) (by kernel_rfl) (by kernel_rfl) λn x=>by kernel_rfl
def slices_IndexFunc_Wait_f90_l1(n:Nat):Nat→(List Wait)×Int×Int×Int×Unit→Option Int:=loopF λr1 ⟨v1,v2,v3,v4,_⟩=>
 cond (decide (v4<v3))
 ((idx v1 v4).bind λx5=>
 (locks_without_1 n x5 v2).bind λy6=>
 cond y6
 (some v4)
 (r1 (v1,v2,v3,(IntKind.wrap .i64 (v4+1)),())))
 (some (-1))
def slices_IndexFunc_Wait_f90(n:Nat)(p0:List Wait)(p1:Int):Option Int:=
 slices_IndexFunc_Wait_f90_l1 n n (p0,p1,(p0.length:Int),0,())
@[reducible] def slices_IndexFunc_Wait_f90_ct:Ct tab:=⟨63,[.one (.d (.sl (.st 2))),.one (.fn 90 [.ro (.int .i64)])],[],[.one (.d (.int .i64))],[],Int,λy=>(y,()),λy=>y.1,λ_=>rfl,λn x=>slices_IndexFunc_Wait_f90 n x.1 x.2.1⟩
theorem slices_IndexFunc_Wait_f90_ok:OkC Tryz.prog tab slices_IndexFunc_Wait_f90_ct:=fn_ok (W:=⟨Tryz.prog,tab,tyOf,[locks_without_1_ct],addO,dpO,false⟩) ⟨tabOk,⟨locks_without_1_ok,trivial⟩,addOk⟩ (by kernel_rfl) 19 Tryz.f63 (.sq (.n) (.sq (.sq (.n) (.bk none (.lp ⟨[(0,.one (.d (.sl (.st 2)))),(1,.one (.fn 90 [.ro (.int .i64)])),(7,.one (.d (.int .i64))),(8,.one (.d (.int .i64)))],[],[]⟩ (.n)))) (.n))) Tryz.func63 Tryz.call63 rfl (by kernel_rfl) (by kernel_rfl) (by kernel_rfl) λn x=>by kernel_rfl
theorem slices_DeleteFunc_Wait_raw{a0:Option Addr}{c0 gd:Nat}{cv:List Value}{Pf PI:List (World→Prop)}(p0:List (Raw 3))(bs:List Bool)(hbl:bs.length=p0.length)(ix:Int)
  (hI:Meets Tryz.prog 63 #[.slice a0 p0.length c0,.func (.func gd) #[] cv.toArray] [] PI λv A P=>v= .int .i64 ix∧A=[]∧P=[])
  (hPI:∀(F:List Nat)(w:World),AllB F w Pf→Bx F w (λw=>(rowF (rawF 3) 47 a0 c0 p0).holds w)→AllB F w PI)
  (hix:(ix= -1∧∀y∈bs,y=false)∨∃k:Nat,ix=(k:Int)∧bs[k]? =some true∧∀y∈bs.take k,y=false)
  (hD:∀(j:Nat)(x:(Raw 3))(y:Bool),p0[j]? =some x→bs[j]? =some y→Meets Tryz.prog gd (([Value.agg x.1.toArray]++cv).toArray) [] Pf λv A P=>v= .bool y∧A=[]∧P=[]) (hsm:p0.length<4611686018427387904):
  Meets Tryz.prog 89 #[.slice a0 p0.length c0,.func (.func gd) #[] cv.toArray] [rowF (rawF 3) 47 a0 c0 p0] Pf λv A P=>∃(a:Option Addr) (c:Nat),v= .slice a (keepF p0 bs).length c∧A=[rowF (rawF 3) 47 a c (keepF p0 bs)]∧P=[]:=by
 have len:∀x:(Raw 3),∃v0 v1 v2,x.1=[v0,v1,v2]:=λx=>by
  have h:=x.2.1
  generalize x.1=l at h⊢
  match l,h with
  |[v0,v1,v2],_=>exact⟨v0,v1,v2,rfl⟩
 refine meets_enter 42 Tryz.func89 Tryz.call89 rfl (by kernel_rfl) (by simp) λC a w hS=> ?_
 have hc:p0.length≤c0:=(row_len (hS.st.own _ (List.mem_cons_self ..))).2.1
 have hfs:∀{F:List Nat} {a:Act} {w:World} {L:Env} {As:List Asn},Sy C 42 a w L As Pf→Up C As w F→AllB F w Pf:=λ{F a w L As} hS up=>by
  have key:∀l:List (World→Prop),(∀p∈l,Bx F w p)→AllB F w l:=λl=>by
   induction l with
   |nil=>intro _;trivial
   |cons p r ih=>intro h;exact⟨h p (by simp),ih λq hq=>h q (by simp[hq])⟩
  exact key _ λp hp=>up (hS.st.per p hp)
 refine k_seq (by kernel_rfl) λK1 hK1=> ?_
 refine k_reg 1 (by kernel_rfl) ?_
 refine r_run 0 1 [0,1] [] hS rfl (L':=[(0,.slice a0 p0.length c0),(1,.func (.func gd) #[] cv.toArray)]) (As':=[rowF (rawF 3) 47 a0 c0 p0]) (ob:=[]) (by kernel_rfl) trivial λa w hS=> ?_
 refine wl_end ?_
 refine hK1 _ _ ?_
 refine k_seq (by kernel_rfl) λK2 hK2=> ?_
 refine k_reg 4 (by kernel_rfl) ?_
 refine r_run 0 2 [0,1,8,9] [] hS rfl (L':=[(0,.slice a0 p0.length c0),(1,.func (.func gd) #[] cv.toArray),(8,.slice a0 p0.length c0),(9,.func (.func gd) #[] cv.toArray)]) (As':=[rowF (rawF 3) 47 a0 c0 p0]) (ob:=[]) (by kernel_rfl) trivial λa w hS=> ?_
 refine r_callX 2 rfl (d:=some 10) (g:=63) (args:= #[.slice a0 p0.length c0,.func (.func gd) #[] cv.toArray]) [] [0] hS (by kernel_rfl) rfl rfl hI (λF up le=>hPI F _ (hfs hS up) (le 0 rfl _ λ_ h=>h)) ?_
 rintro v A' P' a w ⟨rfl,rfl,rfl⟩ hS
 refine r_run 3 1 [0,1,5] [] hS rfl (L':=[(0,.slice a0 p0.length c0),(1,.func (.func gd) #[] cv.toArray),(5,.int .i64 ix)]) (As':=[rowF (rawF 3) 47 a0 c0 p0]) (ob:=[]) (by kernel_rfl) trivial λa w hS=> ?_
 refine wl_end ?_
 refine hK2 _ _ ?_
 refine k_seq (by kernel_rfl) λK3 hK3=> ?_
 refine k_seq (by kernel_rfl) λK4 hK4=> ?_
 refine k_reg 2 (by kernel_rfl) ?_
 refine r_run 0 2 [0,1,5,12] [] hS rfl (L':=[(0,.slice a0 p0.length c0),(1,.func (.func gd) #[] cv.toArray),(5,.int .i64 ix),(12,.bool (ix==(-1:Int)))]) (As':=[rowF (rawF 3) 47 a0 c0 p0]) (ob:=[]) (by kernel_rfl) trivial λa w hS=> ?_
 refine wl_end ?_
 refine hK4 _ _ ?_
 refine k_cond (ix==(-1:Int)) hS.has (by kernel_rfl) (by kernel_rfl) (by kernel_rfl) (λhq=> ?_) (λhq=> ?_)
 ·have hall:keepF p0 bs=p0:=by
   have hq:ix= -1:=of_decide_eq_true (p:=ix=(-1:Int)) (by simpa using hq)
   rcases hix with⟨_,h⟩|⟨k,h,_⟩
   ·exact keepF_all hbl h
   ·omega
  rw[hall]
  refine k_seq (by kernel_rfl) λK5 hK5=> ?_
  refine k_reg 2 (by kernel_rfl) ?_
  refine r_run 0 2 [4] [] hS rfl (L':=[(4,.slice a0 p0.length c0)]) (As':=[rowF (rawF 3) 47 a0 c0 p0]) (ob:=[]) (by kernel_rfl) trivial λa w hS=> ?_
  refine wl_end ?_
  refine hK5 _ _ ?_
  refine k_ret (by kernel_rfl) ?_
  try simp only[Exit.then,Exit.inBlock]
  refine r_ret hS [.tmp 4] [] (xs:=[.slice a0 p0.length c0]) (ps:=[]) [0] [] rfl (by kernel_rfl) (λhA=>trivial) rfl (λF up=>trivial) ?_
  exact⟨a0,c0,rfl,rfl,rfl⟩
 ·have hne:ix≠-1:=λe=>by rw[e] at hq;simp at hq
  obtain⟨k0,rfl,hb0,htk⟩:∃k:Nat,ix=(k:Int)∧bs[k]? =some true∧∀y∈bs.take k,y=false:=hix.resolve_left λh=>hne h.1
  obtain⟨hk0,_⟩:=List.getElem?_eq_some_iff.1 hb0
  rw[hbl] at hk0
  obtain⟨g,rfl⟩:=row_block (hS.st.own _ (List.mem_cons_self ..)) (by omega)
  refine k_skip (by kernel_rfl) ?_
  refine hK3 _ _ ?_
  refine k_seq (by kernel_rfl) λK5 hK5=> ?_
  refine k_seq (by kernel_rfl) λK6 hK6=> ?_
  refine k_reg 3 (by kernel_rfl) ?_
  refine r_run 0 3 [0,1,5,6] [.as 15 (.int .i64 ((k0+1:Nat):Int))] hS rfl (L':=[(0,.slice (some ⟨g,0,none⟩) p0.length c0),(1,.func (.func gd) #[] cv.toArray),(5,.int .i64 (k0:Int)),(6,.int .i64 ((k0+1:Nat):Int))]) (As':=[rowF (rawF 3) 47 (some ⟨g,0,none⟩) c0 p0]) (ob:=[λ_=>Value.int .i64 (IntKind.wrap .i64 ((k0:Int)+1))= .int .i64 ((k0+1:Nat):Int)]) (by kernel_rfl) ⟨Bx.c (congrArg (Value.int .i64) (wrap_s (by omega))),trivial⟩ λa w hS=> ?_
  refine wl_end ?_
  refine hK6 _ _ ?_
  refine k_blk (by kernel_rfl) ?_
  refine k_loop (by kernel_rfl) (λq a w=>∃(i j:Nat) (cur:List (Raw 3)),q+j=p0.length∧i<j∧cur.length=p0.length∧cur.take i=keepF (p0.take j) (bs.take j)∧cur.drop j=p0.drop j∧Sy C 42 a w [(0,.slice (some ⟨g,0,none⟩) p0.length c0),(1,.func (.func gd) #[] cv.toArray),(5,.int .i64 (i:Int)),(6,.int .i64 (j:Int))] [rowF (rawF 3) 47 (some ⟨g,0,none⟩) c0 cur] Pf)
   (p0.length-(k0+1)) ⟨k0,k0+1,p0,by omega,by omega,rfl, ?_,rfl,hS⟩ ?_
  ·obtain⟨x0,hx0⟩:∃x,p0[k0]? =some x:=⟨_,List.getElem?_eq_getElem hk0⟩
   rw[List.take_add_one,List.take_add_one,hx0,hb0]
   simp only[Option.toList_some]
   rw[keepF_snoc (by rw[List.length_take,List.length_take,hbl]),keepF_all (by rw[List.length_take,List.length_take,hbl]) htk]
   simp
  ·rintro q a w ⟨i,j,cur,hqj,hij,hcl,htake,hdrop,hS⟩ K hK
   have hil:i≤p0.length:=by omega
   refine k_seq (by kernel_rfl) λK7 hK7=> ?_
   refine k_seq (by kernel_rfl) λK8 hK8=> ?_
   refine k_reg 4 (by kernel_rfl) ?_
   refine r_run 0 4 [0,1,5,6,19] [] hS rfl (L':=[(0,.slice (some ⟨g,0,none⟩) p0.length c0),(1,.func (.func gd) #[] cv.toArray),(5,.int .i64 (i:Int)),(6,.int .i64 (j:Int)),(19,.bool (decide ((j:Int)<(p0.length:Int))))]) (As':=[rowF (rawF 3) 47 (some ⟨g,0,none⟩) c0 cur]) (ob:=[]) (by kernel_rfl) trivial λa w hS=> ?_
   refine wl_end ?_
   refine hK8 _ _ ?_
   refine k_cond (decide ((j:Int)<(p0.length:Int))) hS.has (by kernel_rfl) (by kernel_rfl) (by kernel_rfl) (λhq=> ?_) (λhq=> ?_)
   ·have hjl:j<p0.length:=by have:=of_decide_eq_true hq;omega
    obtain⟨x,hxj⟩:∃x,cur[j]? =some x:=⟨_,List.getElem?_eq_getElem (by omega)⟩
    have hxp:p0[j]? =some x:=by
     have h1:(cur.drop j)[0]? =some x:=by rw[List.getElem?_drop];simpa using hxj
     rw[hdrop,List.getElem?_drop] at h1
     simpa using h1
    obtain⟨yb,hyb⟩:∃y,bs[j]? =some y:=⟨_,List.getElem?_eq_getElem (by omega)⟩
    have hd:=hD j x yb hxp hyb
    have hidx:idx cur (j:Int)=some x:=by unfold idx;rw[if_pos (by omega)];simpa using hxj
    obtain⟨v0,v1,v2,hxv⟩:=len x
    rw[hxv] at hd
    have hone:∀u∈[v0,v1,v2],u.oneCell'=true:=λu hu=>x.2.2 u (by rw[hxv];exact hu)
    refine k_skip (by kernel_rfl) ?_
    refine hK7 _ _ ?_
    refine k_seq (by kernel_rfl) λK9 hK9=> ?_
    refine k_blk (by kernel_rfl) ?_
    refine k_seq (by kernel_rfl) λK10 hK10=> ?_
    refine k_reg 6 (by kernel_rfl) ?_
    refine r_run1 0 6 [0,1,5,6,7] [.row 0 [v0,v1,v2],.own 0 0] hS rfl (L':=λu0=>[(0,.slice (some ⟨g,0,none⟩) p0.length c0),(1,.func (.func gd) #[] cv.toArray),(5,.int .i64 (i:Int)),(6,.int .i64 (j:Int)),(7,newVal u0 none)]) (As':=λu0=>[.box u0 [v0,v1,v2],rowF (rawF 3) 47 (some ⟨g,0,none⟩) c0 cur])
     (ob:=λu0=>[λ_=>Inb (some ⟨g,0,none⟩) p0.length (j:Int),λ_=>LoadOk (rowF (rawF 3) 47 (some ⟨g,0,none⟩) c0 cur) ((baseOf (some ⟨g,0,none⟩)).add ((j:Int).toNat*3)) [v0,v1,v2],λ_=>(⟨u0,0,none⟩:Addr)=(⟨u0,0,none⟩:Addr).add 0,λ_=>∀u∈[v0,v1,v2],u.oneCell'=true]) (λu0=>by kernel_rfl) (λu0=>⟨Bx.c ⟨by omega,by omega,by simp⟩,Bx.c (by have:=loadRow (F:=(rawF 3)) (e:=47) (a:=some ⟨g,0,none⟩) (c:=c0) hidx;rw[←hxv];exact this),Bx.c (add_zero' _).symm,Bx.c hone,trivial⟩) λu0 a w hS=> ?_
    refine wl_end ?_
    refine hK10 _ _ ?_
    refine k_seq (by kernel_rfl) λK11 hK11=> ?_
    refine k_reg 4 (by kernel_rfl) ?_
    refine r_run 0 2 [0,1,5,6,7,26,27] [.own 0 0] hS rfl (L':=[(0,.slice (some ⟨g,0,none⟩) p0.length c0),(1,.func (.func gd) #[] cv.toArray),(5,.int .i64 (i:Int)),(6,.int .i64 (j:Int)),(7,newVal u0 none),(26,.func (.func gd) #[] cv.toArray),(27,.agg #[v0,v1,v2])]) (As':=[.box u0 [v0,v1,v2],rowF (rawF 3) 47 (some ⟨g,0,none⟩) c0 cur]) (ob:=[λ_=>(⟨u0,0,none⟩:Addr)=(⟨u0,0,none⟩:Addr).add 0]) (by kernel_rfl) ⟨Bx.c (add_zero' _).symm,trivial⟩ λa w hS=> ?_
    refine r_call 2 rfl (d:=some 28) (g:=gd) (args:=([Value.agg #[v0,v1,v2]]++cv).toArray) [] hS (by kernel_rfl) rfl hd (λF up=>hfs hS up) ?_
    rintro v A' P' a w ⟨rfl,rfl,rfl⟩ hS
    refine r_run 3 1 [0,1,5,6,7,29] [] hS rfl (L':=[(0,.slice (some ⟨g,0,none⟩) p0.length c0),(1,.func (.func gd) #[] cv.toArray),(5,.int .i64 (i:Int)),(6,.int .i64 (j:Int)),(7,newVal u0 none),(29,.bool (!yb))]) (As':=[.box u0 [v0,v1,v2],rowF (rawF 3) 47 (some ⟨g,0,none⟩) c0 cur]) (ob:=[]) (by kernel_rfl) trivial λa w hS=> ?_
    refine wl_end ?_
    refine hK11 _ _ ?_
    have hnext:∀(i':Nat)(cur':List (Raw 3))(a:Act)(w:World),i'<j+1→cur'.length=p0.length→cur'.take i'=keepF (p0.take (j+1)) (bs.take (j+1))→cur'.drop (j+1)=p0.drop (j+1)→
      Sy C 42 a w [(0,.slice (some ⟨g,0,none⟩) p0.length c0),(1,.func (.func gd) #[] cv.toArray),(5,.int .i64 (i':Int)),(6,.int .i64 (j:Int))] [rowF (rawF 3) 47 (some ⟨g,0,none⟩) c0 cur'] Pf→K9 a w:=λi' cur' a w h1 h2 h3 h4 hS=>by
     refine hK9 _ _ ?_
     refine k_reg 3 (by kernel_rfl) ?_
     refine r_run 0 3 [0,1,5,6] [.as 21 (.int .i64 ((j+1:Nat):Int))] hS rfl (L':=[(0,.slice (some ⟨g,0,none⟩) p0.length c0),(1,.func (.func gd) #[] cv.toArray),(5,.int .i64 (i':Int)),(6,.int .i64 ((j+1:Nat):Int))]) (As':=[rowF (rawF 3) 47 (some ⟨g,0,none⟩) c0 cur']) (ob:=[λ_=>Value.int .i64 (IntKind.wrap .i64 ((j:Int)+1))= .int .i64 ((j+1:Nat):Int)]) (by kernel_rfl) ⟨Bx.c (congrArg (Value.int .i64) (wrap_s (by omega))),trivial⟩ λa w hS=> ?_
     refine wl_end ?_
     exact hK (q-1) _ _ (by omega) ⟨i',j+1,cur',by omega,h1,h2,h3,h4,hS⟩
    have hpt:keepF (p0.take (j+1)) (bs.take (j+1))=keepF (p0.take j) (bs.take j)++cond yb [] [x]:=by
     rw[List.take_add_one,List.take_add_one,hxp,hyb]
     exact keepF_snoc (by rw[List.length_take,List.length_take,hbl])
    have hdr:∀cur':List (Raw 3),cur'.drop j=x::p0.drop (j+1)→cur'.drop (j+1)=p0.drop (j+1):=λcur' h=>by
     rw[←List.drop_drop,h];rfl
    have hpd:p0.drop j=x::p0.drop (j+1):=by
     rw[List.drop_eq_getElem_cons hjl]
     obtain⟨_,he⟩:=List.getElem?_eq_some_iff.1 hxp
     rw[he]
    refine k_cond (!yb) hS.has (by kernel_rfl) (by kernel_rfl) (by kernel_rfl) (λhbx=> ?_) (λhbx=> ?_)
    ·have hput:put cur (i:Int) x=some (cur.set i x):=by unfold put;rw[if_pos (by omega)];rfl
     obtain⟨y,hyi⟩:∃y,idx cur (i:Int)=some y:=⟨cur[i]'(by omega),by unfold idx;rw[if_pos (by omega)];simp⟩
     refine k_seq (by kernel_rfl) λK12 hK12=> ?_
     refine k_reg 5 (by kernel_rfl) ?_
     refine r_run 0 5 [0,1,5,6] [.own 0 0,.put 1 (rowF (rawF 3) 47 (some ⟨g,0,none⟩) c0 (cur.set i x))] hS rfl (L':=[(0,.slice (some ⟨g,0,none⟩) p0.length c0),(1,.func (.func gd) #[] cv.toArray),(5,.int .i64 (i:Int)),(6,.int .i64 (j:Int))]) (As':=[.box u0 [v0,v1,v2],rowF (rawF 3) 47 (some ⟨g,0,none⟩) c0 (cur.set i x)])
      (ob:=[λ_=>(⟨u0,0,none⟩:Addr)=(⟨u0,0,none⟩:Addr).add 0,λ_=>Inb (some ⟨g,0,none⟩) p0.length (i:Int),λ_=>PutOk (rowF (rawF 3) 47 (some ⟨g,0,none⟩) c0 cur) (rowF (rawF 3) 47 (some ⟨g,0,none⟩) c0 (cur.set i x)) ((baseOf (some ⟨g,0,none⟩)).add ((i:Int).toNat*3)) [v0,v1,v2]]) (by kernel_rfl) ⟨Bx.c (add_zero' _).symm,Bx.c ⟨by omega,by omega,by simp⟩,Bx.c (by have:=putRow (F:=(rawF 3)) (e:=47) (a:=some ⟨g,0,none⟩) (c:=c0) hyi hput (sl:=(cur.set i x).length) (by simp);rw[←hxv];exact this),trivial⟩ λa w hS=> ?_
     refine wl_end ?_
     refine hK12 _ _ ?_
     refine k_reg 3 (by kernel_rfl) ?_
     refine r_run 0 3 [0,1,5,6] [.as 35 (.int .i64 ((i+1:Nat):Int))] hS rfl (L':=[(0,.slice (some ⟨g,0,none⟩) p0.length c0),(1,.func (.func gd) #[] cv.toArray),(5,.int .i64 ((i+1:Nat):Int)),(6,.int .i64 (j:Int))]) (As':=[.box u0 [v0,v1,v2],rowF (rawF 3) 47 (some ⟨g,0,none⟩) c0 (cur.set i x)]) (ob:=[λ_=>Value.int .i64 (IntKind.wrap .i64 ((i:Int)+1))= .int .i64 ((i+1:Nat):Int)]) (by kernel_rfl) ⟨Bx.c (congrArg (Value.int .i64) (wrap_s (by omega))),trivial⟩ λa w hS=> ?_
     refine wl_end ?_
     refine hnext (i+1) (cur.set i x) _ _ (by omega) (by simp[hcl]) ?_ ?_ ((hS.perm (List.Perm.swap _ _ _)).sub (As:=[_]) (Bs:=[_]) λ_ h=>h)
     ·have hyf:yb=false:=by simpa using hbx
      rw[hpt,←htake,hyf,List.take_add_one,List.take_set_of_le (Nat.le_refl _),List.getElem?_set_self (by omega)];rfl
     ·exact hdr _ (by rw[List.drop_set_of_lt hij,hdrop,hpd])
    ·refine k_skip (by kernel_rfl) ?_
     have hyt:yb=true:=by simpa using hbx
     refine hnext i cur _ _ (by omega) hcl ?_ (hdr _ (by rw[hdrop,hpd])) (((hS.perm (List.Perm.swap _ _ _)).sub (As:=[_]) (Bs:=[_]) λ_ h=>h).env4)
     rw[hpt,←htake,hyt]
     simp
   ·have hjl:j=p0.length:=by have:=of_decide_eq_false hq;omega
    subst hjl
    rw[List.take_length,show bs.take p0.length=bs from by rw[←hbl];exact List.take_length] at htake
    refine k_exit 0 (by kernel_rfl) ?_
    try simp only[Exit.then,Exit.inBlock,if_true]
    refine hK5 _ _ ?_
    have hil2:i=(keepF p0 bs).length:=by rw[←htake,List.length_take];omega
    have hs0:slA (some (⟨g,0,none⟩:Addr)) i c0 ((rawF 3)).sz=some ⟨g,i*((rawF 3)).sz,none⟩:=by
     unfold slA;rw[if_neg (by omega)];simp only[Option.map_some,addr_add0]
    have hs1:slA (some (⟨g,0,none⟩:Addr)) 0 c0 ((rawF 3)).sz=some ⟨g,0,none⟩:=by
     unfold slA;rw[if_neg (by omega)];simp only[Option.map_some,Nat.zero_mul,addr_add0]
    refine k_seq (by kernel_rfl) λK7 hK7=> ?_
    refine k_reg 4 (by kernel_rfl) ?_
    refine r_run 0 3 [0,5,38] [.as 38 (.slice (some ⟨g,i*((rawF 3)).sz,none⟩) (p0.length-i) (c0-i))] hS rfl (L':=[(0,.slice (some ⟨g,0,none⟩) p0.length c0),(5,.int .i64 (i:Int)),(38,.slice (some ⟨g,i*((rawF 3)).sz,none⟩) (p0.length-i) (c0-i))]) (As':=[rowF (rawF 3) 47 (some ⟨g,0,none⟩) c0 cur]) (ob:=[λ_=>0≤(i:Int)∧(i:Int)≤(p0.length:Int)∧(p0.length:Int)≤(c0:Int),λ_=>Value.slice (slA (some ⟨g,0,none⟩) i c0 ((rawF 3)).sz) (p0.length-i) (c0-i)= .slice (some ⟨g,i*((rawF 3)).sz,none⟩) (p0.length-i) (c0-i)]) (by kernel_rfl) ⟨Bx.c ⟨by omega,by omega,by omega⟩,Bx.c (by rw[hs0]),trivial⟩ λa w hS=> ?_
    obtain⟨ds,hd1,hd2,hd3,hd4⟩:=row_full (hS.st.own _ (List.mem_cons_self ..))
    replace hS:=hS.same (B:= .row (some ⟨g,0,none⟩) c0 47 ((rawF 3)).sz c0 ds) 0 rfl (λ_=>hd4) rfl (by simp[Asn.fp])
    refine r_bltS 3 rfl 0 (.row (some ⟨g,0,none⟩) c0 47 ((rawF 3)).sz c0 (spl ds (i*((rawF 3)).sz) (Builtin.zeroCells ((Tryz.t47.zero).getD undef).cells (p0.length-i)).toList)) (d:=none) (b:= .clear) (ts:= #[41]) (ty:=0) (vs:= #[.slice (some ⟨g,i*((rawF 3)).sz,none⟩) (p0.length-i) (c0-i)]) hS (by kernel_rfl) rfl (λhA=>run_clear_row (t:=41) (ty:=0) (inf:=Tryz.t47) (by kernel_rfl) (by kernel_rfl) (by kernel_rfl) (by kernel_rfl) (oneAll (by kernel_rfl)) hA (by rw[←Nat.add_mul];exact Nat.mul_le_mul_right _ (by omega))) rfl (by simp[Asn.fp]) λa w hS=> ?_
    have hcut:(spl ds (i*((rawF 3)).sz) (Builtin.zeroCells ((Tryz.t47.zero).getD undef).cells (p0.length-i)).toList).take (i*((rawF 3)).sz)=(keepF p0 bs).flatMap ((rawF 3)).enc:=by
     have hle:i*((rawF 3)).sz≤ds.length:=by rw[hd2];exact Nat.mul_le_mul_right _ (by omega)
     have hle2:i*((rawF 3)).sz≤cur.length*((rawF 3)).sz:=Nat.mul_le_mul_right _ (by omega)
     unfold spl
     rw[List.append_assoc,List.take_left' (by rw[List.length_take];omega),←htake,flat_take,←hd1,List.take_take,Nat.min_eq_left hle2]
    have hlen:(keepF p0 bs).length=i:=by rw[←htake,List.length_take];omega
    replace hS:=hS.same (B:=rowF (rawF 3) 47 (some ⟨g,0,none⟩) c0 (keepF p0 bs)) 0 rfl (λhA=>by
     have:=row_cut hA i (by omega)
     rw[hcut] at this
     unfold rowF
     rw[hlen]
     exact this) rfl (by simp[Asn.fp])
    refine wl_end ?_
    refine hK7 _ _ ?_
    refine k_seq (by kernel_rfl) λK8 hK8=> ?_
    refine k_reg 4 (by kernel_rfl) ?_
    refine r_run 0 4 [4] [.as 41 (.slice (some ⟨g,0,none⟩) i c0)] hS rfl (L':=[(4,.slice (some ⟨g,0,none⟩) i c0)]) (As':=[rowF (rawF 3) 47 (some ⟨g,0,none⟩) c0 (keepF p0 bs)]) (ob:=[λ_=>(0:Int)≤0∧(0:Int)≤(i:Int)∧(i:Int)≤(c0:Int),λ_=>Value.slice (slA (some ⟨g,0,none⟩) 0 c0 ((rawF 3)).sz) (i-0) (c0-0)= .slice (some ⟨g,0,none⟩) i c0]) (by kernel_rfl) ⟨Bx.c ⟨by omega,by omega,by omega⟩,Bx.c (by rw[hs1];rfl),trivial⟩ λa w hS=> ?_
    refine wl_end ?_
    refine hK8 _ _ ?_
    refine k_ret (by kernel_rfl) ?_
    try simp only[Exit.then,Exit.inBlock]
    refine r_ret hS [.tmp 4] [] (xs:=[.slice (some ⟨g,0,none⟩) i c0]) (ps:=[]) [0] [] rfl (by kernel_rfl) (λhA=>trivial) rfl (λF up=>trivial) ?_
    exact⟨some ⟨g,0,none⟩,c0,by rw[hlen];rfl,rfl,rfl⟩
def slices_DeleteFunc_Wait_f90(n:Nat)(p1_0:Int)(q0:List Wait):Option (List Wait):=(slices_IndexFunc_Wait_f90 n q0 p1_0).bind λz=>delF (λy=>locks_without_1 n y p1_0) z q0
@[reducible] def slices_DeleteFunc_Wait_f90_ct:Ct tab:=⟨89,[.one (.own 0),.one (.fn 90 [.ro (.int .i64)])],[.row 47 (.st 2)],[.one (.own 0)],[(none,.row 47 (.st 2))],List Wait,λy=>(y,()),λy=>y.1,λ_=>rfl,λn x=>slices_DeleteFunc_Wait_f90 n x.1 x.2.1⟩
theorem slices_DeleteFunc_Wait_f90_ok:OkC Tryz.prog tab slices_DeleteFunc_Wait_f90_ct:=dlf_ok (i:=2) (cs:=[.ro (.int .i64)]) (fI:=λn x=>slices_IndexFunc_Wait_f90 n x.2.1 x.1) (fD:=λn x y=>locks_without_1 n y x.1) (m:=3) tabOk rfl rfl Tryz.call89 Tryz.call63 Tryz.call90
 (λn x z hz R w Ps v cv hst hv hcv=>Calls.mono (slices_IndexFunc_Wait_f90_ok.2 n (x.2.1,x.1,()) z hz R w rho0 [] Ps [v,.func (.func 90) #[] cv.toArray] hst (λj g h=>by cases h) ⟨hv,⟨cv,rfl,hcv⟩,trivial⟩ trivial) λe w' h=>by
  obtain⟨v1,ρ1,As1,Ps1,h1,h2,h3,_⟩:=h
  exact⟨h1.trans (congrArg Ending.returned (show v1= .int .i64 z from h2.1)),h3⟩)
 (λn x y b hb R w Ps v cv hst hv hcv=>Calls.mono (locks_without_1_ok.2 n (y,x.1,()) b hb R w rho0 [] Ps (v::cv) hst (λj g h=>by cases h) ⟨hv,capLs_rel hcv⟩ trivial) λe w' h=>by
  obtain⟨v1,ρ1,As1,Ps1,h1,h2,h3,_⟩:=h
  exact⟨h1.trans (congrArg Ending.returned (show v1= .bool b from h2.1)),h3⟩) slices_DeleteFunc_Wait_raw
end
end Go.Proofs.YtchocpffjnodfaaGreat
