import Derived.Test.YtchocpffjnodfaaGreatTypes
import Derived.Test.YtchocpffjnodfaaGreatF4
namespace Go.Proofs.YtchocpffjnodfaaGreat
open Go Go.Bur Go.RowKit
set_option linter.unusedVariables false
set_option linter.unusedSimpArgs false
set_option maxRecDepth 100000
noncomputable section
def locks_Release(n:Nat)(p0:Locks)(p1:Int):Option ((List Int)×Int×(List Queue)):=
 (locks_with_f40 n p0 p1 p1 ([]:List Int)).bind λy1=>
 some (y1.2.2.1,y1.1,y1.2.2.2)
@[reducible] def locks_Release_ct:Ct tab:=⟨13,[.st 4,.one (.d (.int .i64))],[],[.agg [.own 0],.one (.d (.sl (.int .i64))),.one (.d (.int .i64))],[(none,.scr (.st 3) true)],((List Int)×Int×(List Queue)),λy=>(y.1,y.2.1,y.2.2,()),λy=>(y.1,y.2.1,y.2.2.1),λ_=>rfl,λn x=>locks_Release n x.1 x.2.1⟩
theorem locks_Release_ok:OkC Tryz.prog tab locks_Release_ct:=fn_ok (W:=⟨Tryz.prog,tab,tyOf,[locks_with_f40_ct],addO,dpO,false⟩) ⟨tabOk,⟨locks_with_f40_ok,trivial⟩,addOk⟩ (by kernel_rfl) 20 Tryz.f13 (.n) Tryz.func13 Tryz.call13 rfl (by kernel_rfl) (by kernel_rfl) (by kernel_rfl) λn x=>by kernel_rfl
def locks_with_f43_l1(n:Nat):Nat→Int×Int×Int×(List Int)×Locks×Nat×(List Queue)×Unit→Option (Int×Int×(List Int)×(List Queue)):=loopF λr1 ⟨v4,v5,v6,v7,v8,v9,v10,_⟩=>
 cond (decide (v5<v4))
 ((idxM v10 v5 v9).bind λx11=>
 (sameI v5 v5).bind λu12=>
 (slices_Clone_Hold n x11.holders).bind λy13=>
 (slices_Clone_Wait n x11.waiters).bind λy14=>
 r1 (v4,(IntKind.wrap .i64 (v5+1)),v6,v7,v8,(v9+1),(List.set v10 (Int.toNat v5) (Queue.mk x11.res y13 y14)),()))
 ((sameN v9 (v10).length).bind λu15=>
 (locks_Leave_1 n v10 v6 v7).bind λy16=>
 cond (y16.1 !=0)
 (some (y16.1,y16.2.1,y16.2.2.1,([]:List Queue)))
 (some (0,y16.2.1,y16.2.2.1,y16.2.2.2)))
def locks_with_f43(n:Nat)(p0:Locks)(p1:Int)(q0:Int)(q1:List Int):Option (Int×Int×(List Int)×(List Queue)):=
 (locks_Check n p0).bind λy1=>
 cond (y1 !=0)
 (some (y1,q0,q1,([]:List Queue)))
 ((locks_txn n p1).bind λy2=>
 cond (!y2)
 (some (2,q0,q1,([]:List Queue)))
 ((slices_Clone_Queue n p0.queues).bind λy3=>
 locks_with_f43_l1 n n ((y3.length:Int),0,q0,q1,(Locks.mk ([]:List Queue)),0,y3,())))
@[reducible] def locks_with_f43_ct:Ct tab:=⟨21,[.st 4,.one (.d (.int .i64)),.one (.fn 43 [.bx 0,.bx 1])],[.box [.d (.int .i64)],.box [.d (.sl (.int .i64))]],[.agg [.own 2],.one (.d (.int .i64))],[(some 0,.box [.d (.int .i64)]),(some 1,.box [.d (.sl (.int .i64))]),(none,.scr (.st 3) true)],(Int×Int×(List Int)×(List Queue)),λy=>(y.1,y.2.1,y.2.2.1,y.2.2.2,()),λy=>(y.1,y.2.1,y.2.2.1,y.2.2.2.1),λ_=>rfl,λn x=>locks_with_f43 n x.1 x.2.1 x.2.2.1 x.2.2.2.1⟩
theorem locks_with_f43_ok:OkC Tryz.prog tab locks_with_f43_ct:=fn_ok (W:=⟨Tryz.prog,tab,tyOf,[locks_Check_ct,locks_txn_ct,slices_Clone_Queue_ct,slices_Clone_Hold_ct,slices_Clone_Wait_ct,locks_Leave_1_ct],addO,dpO,false⟩) ⟨tabOk,⟨locks_Check_ok,locks_txn_ok,slices_Clone_Queue_ok,slices_Clone_Hold_ok,slices_Clone_Wait_ok,locks_Leave_1_ok,trivial⟩,addOk⟩ (by kernel_rfl) 61 Tryz.f21 (.sq (.n) (.sq (.n) (.sq (.n) (.sq (.n) (.sq (.sq (.gs [.dpn 4 [none,none,none,some 45,some 47]] (.n)) (.bk none (.lp ⟨[(2,.one (.fn 43 [.bx 0,.bx 1])),(6,.one (.box 2 0)),(9,.one (.box 3 0)),(29,.one (.d (.int .i64))),(30,.one (.d (.int .i64)))],[.box [.d (.int .i64)],.box [.d (.sl (.int .i64))],.bst 4,.box [.own 4],.pdeep 43 (.st 3) [none,none,none,some 45,some 47]],[(0,0),(1,1)]⟩ (.sq (.n) (.sq (.n) (.sq (.bk none (.sq (.n) (.sq (.gs [.foc 4 10] (.n)) (.n)))) (.n))))))) (.sq (.sq (.gs [.fin 4] (.n)) (.n)) (.n))))))) Tryz.func21 Tryz.call21 rfl (by kernel_rfl) (by kernel_rfl) (by kernel_rfl) λn x=>by kernel_rfl
def locks_with_f22_l1(n:Nat):Nat→Int×Int×Res×Int×Int×Int×Locks×Nat×(List Queue)×Unit→Option (Int×Res×Int×Int×Int×(List Queue)):=loopF λr1 ⟨v4,v5,v6,v7,v8,v9,v10,v11,v12,_⟩=>
 cond (decide (v5<v4))
 ((idxM v12 v5 v11).bind λx13=>
 (sameI v5 v5).bind λu14=>
 (slices_Clone_Hold n x13.holders).bind λy15=>
 (slices_Clone_Wait n x13.waiters).bind λy16=>
 r1 (v4,(IntKind.wrap .i64 (v5+1)),v6,v7,v8,v9,v10,(v11+1),(List.set v12 (Int.toNat v5) (Queue.mk x13.res y15 y16)),()))
 ((sameN v11 (v12).length).bind λu17=>
 (locks_Ask_1 n v12 v6 v7 v8 v9).bind λy18=>
 cond (y18.1 !=0)
 (some (y18.1,y18.2.1,y18.2.2.1,y18.2.2.2.1,y18.2.2.2.2.1,([]:List Queue)))
 (some (0,y18.2.1,y18.2.2.1,y18.2.2.2.1,y18.2.2.2.2.1,y18.2.2.2.2.2)))
def locks_with_f22(n:Nat)(p0:Locks)(p1:Int)(q0:Res)(q1:Int)(q2:Int)(q3:Int):Option (Int×Res×Int×Int×Int×(List Queue)):=
 (locks_Check n p0).bind λy1=>
 cond (y1 !=0)
 (some (y1,q0,q1,q2,q3,([]:List Queue)))
 ((locks_txn n p1).bind λy2=>
 cond (!y2)
 (some (2,q0,q1,q2,q3,([]:List Queue)))
 ((slices_Clone_Queue n p0.queues).bind λy3=>
 locks_with_f22_l1 n n ((y3.length:Int),0,q0,q1,q2,q3,(Locks.mk ([]:List Queue)),0,y3,())))
@[reducible] def locks_with_f22_ct:Ct tab:=⟨21,[.st 4,.one (.d (.int .i64)),.one (.fn 22 [.bx 0,.bx 1,.bx 2,.bx 3])],[.bst 0,.box [.d (.int .i64)],.box [.d (.int .i64)],.box [.d (.int .i64)]],[.agg [.own 4],.one (.d (.int .i64))],[(some 0,.bst 0),(some 1,.box [.d (.int .i64)]),(some 2,.box [.d (.int .i64)]),(some 3,.box [.d (.int .i64)]),(none,.deep 43 (.st 3) [none,none,none,some 45,some 47])],(Int×Res×Int×Int×Int×(List Queue)),λy=>(y.1,y.2.1,y.2.2.1,y.2.2.2.1,y.2.2.2.2.1,y.2.2.2.2.2,()),λy=>(y.1,y.2.1,y.2.2.1,y.2.2.2.1,y.2.2.2.2.1,y.2.2.2.2.2.1),λ_=>rfl,λn x=>locks_with_f22 n x.1 x.2.1 x.2.2.1 x.2.2.2.1 x.2.2.2.2.1 x.2.2.2.2.2.1⟩
theorem locks_with_f22_ok:OkC Tryz.prog tab locks_with_f22_ct:=fn_ok (W:=⟨Tryz.prog,tab,tyOf,[locks_Check_ct,locks_txn_ct,slices_Clone_Queue_ct,slices_Clone_Hold_ct,slices_Clone_Wait_ct,locks_Ask_1_ct],addO,dpO,false⟩) ⟨tabOk,⟨locks_Check_ok,locks_txn_ok,slices_Clone_Queue_ok,slices_Clone_Hold_ok,slices_Clone_Wait_ok,locks_Ask_1_ok,trivial⟩,addOk⟩ (by kernel_rfl) 61 Tryz.f21 (.sq (.n) (.sq (.n) (.sq (.n) (.sq (.n) (.sq (.sq (.gs [.dpn 6 [none,none,none,some 45,some 47]] (.n)) (.bk none (.lp ⟨[(2,.one (.fn 22 [.bx 0,.bx 1,.bx 2,.bx 3])),(6,.one (.box 4 0)),(9,.one (.box 5 0)),(29,.one (.d (.int .i64))),(30,.one (.d (.int .i64)))],[.bst 0,.box [.d (.int .i64)],.box [.d (.int .i64)],.box [.d (.int .i64)],.bst 4,.box [.own 6],.pdeep 43 (.st 3) [none,none,none,some 45,some 47]],[(0,0),(1,1),(2,2),(3,3)]⟩ (.sq (.n) (.sq (.n) (.sq (.bk none (.sq (.n) (.sq (.gs [.foc 6 10] (.n)) (.n)))) (.n))))))) (.sq (.sq (.gs [.fin 6] (.n)) (.n)) (.n))))))) Tryz.func21 Tryz.call21 rfl (by kernel_rfl) (by kernel_rfl) (by kernel_rfl) λn x=>by kernel_rfl
def locks_Leave(n:Nat)(p0:Locks)(p1:Int):Option ((List Int)×Int×(List Queue)):=
 (locks_with_f43 n p0 p1 p1 ([]:List Int)).bind λy1=>
 some (y1.2.2.1,y1.1,y1.2.2.2)
@[reducible] def locks_Leave_ct:Ct tab:=⟨16,[.st 4,.one (.d (.int .i64))],[],[.agg [.own 0],.one (.d (.sl (.int .i64))),.one (.d (.int .i64))],[(none,.scr (.st 3) true)],((List Int)×Int×(List Queue)),λy=>(y.1,y.2.1,y.2.2,()),λy=>(y.1,y.2.1,y.2.2.1),λ_=>rfl,λn x=>locks_Leave n x.1 x.2.1⟩
theorem locks_Leave_ok:OkC Tryz.prog tab locks_Leave_ct:=fn_ok (W:=⟨Tryz.prog,tab,tyOf,[locks_with_f43_ct],addO,dpO,false⟩) ⟨tabOk,⟨locks_with_f43_ok,trivial⟩,addOk⟩ (by kernel_rfl) 20 Tryz.f16 (.n) Tryz.func16 Tryz.call16 rfl (by kernel_rfl) (by kernel_rfl) (by kernel_rfl) λn x=>by kernel_rfl
def locks_Ask_j1(n:Nat):Int×Locks×Int×(List Queue)×Unit→Option (Int×Int×(List Queue)):=fun⟨v2,v3,v4,v5,_⟩=>
 some (v4,v2,v5)
def locks_Ask(n:Nat)(p0:Locks)(p1:Int)(p2:Res)(p3:Int):Option (Int×Int×(List Queue)):=
 (locks_with_f22 n p0 p1 p2 p3 p1 0).bind λy1=>
 jn (locks_Ask_j1 n) λj1=>
 cond (y1.1 !=0)
 (j1 (y1.1,(Locks.mk ([]:List Queue)),0,y1.2.2.2.2.2,()))
 (j1 (y1.1,(Locks.mk ([]:List Queue)),y1.2.2.2.2.1,y1.2.2.2.2.2,()))
@[reducible] def locks_Ask_ct:Ct tab:=⟨11,[.st 4,.one (.d (.int .i64)),.st 0,.one (.d (.int .i64))],[],[.agg [.own 0],.one (.d (.int .i64)),.one (.d (.int .i64))],[(none,.scr (.st 3) true)],(Int×Int×(List Queue)),λy=>(y.1,y.2.1,y.2.2,()),λy=>(y.1,y.2.1,y.2.2.1),λ_=>rfl,λn x=>locks_Ask n x.1 x.2.1 x.2.2.1 x.2.2.2.1⟩
theorem locks_Ask_ok:OkC Tryz.prog tab locks_Ask_ct:=fn_ok (W:=⟨Tryz.prog,tab,tyOf,[locks_with_f22_ct],addO,dpO,false⟩) ⟨tabOk,⟨locks_with_f22_ok,trivial⟩,addOk⟩ (by kernel_rfl) 26 Tryz.f11 (.sq (.n) (.sq (.n) (.sq (.n) (.sq (.sq (.n) (.cd (some ⟨[(8,.one (.box 0 0)),(11,.one (.box 1 0)),(12,.one (.box 2 0)),(13,.one (.d (.int .i64)))],[.bst 4,.box [.d (.int .i64)],.box [.own 3],.deep 43 (.st 3) [none,none,none,some 45,some 47]],[]⟩) (.n) (.n))) (.sq (.gs [.dsc 3] (.n)) (.n)))))) Tryz.func11 Tryz.call11 rfl (by kernel_rfl) (by kernel_rfl) (by kernel_rfl) λn x=>by kernel_rfl
def law08_Op_run_j1(n:Nat):Int×(List Int)×Int×(List Queue)×Unit→Option (Int×(List Int)×Int×(List Queue)):=fun⟨v11,v12,v13,v14,_⟩=>
 some (v11,v12,v13,v14)
def law08_Op_run_j2(n:Nat)(j1:Int×(List Int)×Int×(List Queue)×Unit→Option (Int×(List Int)×Int×(List Queue))):Int×(List Int)×Int×(List Queue)×Unit→Option (Int×(List Int)×Int×(List Queue)):=fun⟨v18,v19,v20,v21,_⟩=>
 j1 (v18,v19,v20,v21,())
def law08_Op_run(n:Nat)(p0:law08_Op)(p1:Locks):Option (Int×(List Int)×Int×(List Queue)):=
 (remP (IntKind.wrap .u64 p0.kind) 7).bind λz1=>
 jn (law08_Op_run_j1 n) λj1=>
 cond (z1==5)
 ((locks_Release n p1 p0.txn).bind λy15=>
 j1 (0,y15.1,y15.2.1,y15.2.2,()))
 (jn (law08_Op_run_j2 n j1) λj2=>
 cond (z1==6)
 ((locks_Leave n p1 p0.txn).bind λy22=>
 j2 (0,y22.1,y22.2.1,y22.2.2,()))
 ((locks_Ask n p1 p0.txn p0.res p0.mode).bind λy23=>
 j2 (y23.1,([]:List Int),y23.2.1,y23.2.2,())))
@[reducible] def law08_Op_run_ct:Ct tab:=⟨7,[.st 5,.st 4],[],[.agg [.own 0,.d (.int .i64),.d (.sl (.int .i64)),.d (.int .i64)]],[(none,.scr (.st 3) true)],(Int×(List Int)×Int×(List Queue)),λy=>(y.1,y.2.1,y.2.2.1,y.2.2.2,()),λy=>(y.1,y.2.1,y.2.2.1,y.2.2.2.1),λ_=>rfl,λn x=>law08_Op_run n x.1 x.2.1⟩
theorem law08_Op_run_ok:OkC Tryz.prog tab law08_Op_run_ct:=fn_ok (W:=⟨Tryz.prog,tab,tyOf,[locks_Release_ct,locks_Leave_ct,locks_Ask_ct],addO,dpO,false⟩) ⟨tabOk,⟨locks_Release_ok,locks_Leave_ok,locks_Ask_ok,trivial⟩,addOk⟩ (by kernel_rfl) 51 Tryz.f7 (.sq (.n) (.sq (.sq (.n) (.bk none (.sq (.n) (.cd (some ⟨[(4,.one (.box 0 0))],[.box [.own 1,.d (.int .i64),.d (.sl (.int .i64)),.d (.int .i64)],.scr (.st 3) true],[]⟩) (.n) (.sq (.n) (.cd (some ⟨[(4,.one (.box 0 0))],[.box [.own 1,.d (.int .i64),.d (.sl (.int .i64)),.d (.int .i64)],.scr (.st 3) true],[]⟩) (.n) (.n))))))) (.n))) Tryz.func7 Tryz.call7 rfl (by kernel_rfl) (by kernel_rfl) (by kernel_rfl) λn x=>by kernel_rfl
def ref08_Same_l3(n:Nat)(r1:(List Queue)×Int×Int×Locks×Unit→Option Bool):Nat→(List Queue)×Int×Int×Int×Int×Locks×Queue×Queue×Unit→Option Bool:=loopF λr3 ⟨v21,v22,v23,v24,v25,v26,v27,v28,_⟩=>
 cond (decide (v25<v24))
 ((idx v27.waiters v25).bind λx29=>
 (idx v28.waiters v25).bind λx30=>
 cond (!(Wait.eqb x29 x30))
 (some false)
 (r3 (v21,v22,v23,v24,(IntKind.wrap .i64 (v25+1)),v26,v27,v28,())))
 (r1 (v21,v22,(IntKind.wrap .i64 (v23+1)),v26,()))
def ref08_Same_l2(n:Nat)(r1:(List Queue)×Int×Int×Locks×Unit→Option Bool):Nat→(List Queue)×Int×Int×Int×Int×Locks×Queue×Queue×Unit→Option Bool:=loopF λr2 ⟨v11,v12,v13,v14,v15,v16,v17,v18,_⟩=>
 cond (decide (v15<v14))
 ((idx v17.holders v15).bind λx19=>
 (idx v18.holders v15).bind λx20=>
 cond (!(Hold.eqb x19 x20))
 (some false)
 (r2 (v11,v12,v13,v14,(IntKind.wrap .i64 (v15+1)),v16,v17,v18,())))
 (ref08_Same_l3 n r1 n (v11,v12,v13,(v17.waiters.length:Int),0,v16,v17,v18,()))
def ref08_Same_l1(n:Nat):Nat→(List Queue)×Int×Int×Locks×Unit→Option Bool:=loopF λr1 ⟨v1,v2,v3,v4,_⟩=>
 cond (decide (v3<v2))
 ((idx v1 v3).bind λx5=>
 (idx v4.queues v3).bind λx6=>
 jn (fun(b7:Bool)=>
 jn (fun(b9:Bool)=>
 cond b9
 (some false)
 (ref08_Same_l2 n r1 n (v1,v2,v3,(x5.holders.length:Int),0,v4,x5,x6,()))) λk10=>
 cond b7
 (k10 true)
 (k10 ((x5.waiters.length:Int) !=(x6.waiters.length:Int)))) λk8=>
 cond (!(Res.eqb x5.res x6.res))
 (k8 true)
 (k8 ((x5.holders.length:Int) !=(x6.holders.length:Int))))
 (some true)
def ref08_Same(n:Nat)(p0:Locks)(p1:Locks):Option Bool:=
 cond ((p0.queues.length:Int) !=(p1.queues.length:Int))
 (some false)
 (ref08_Same_l1 n n (p0.queues,(p0.queues.length:Int),0,p1,()))
@[reducible] def ref08_Same_ct:Ct tab:=⟨10,[.st 4,.st 4],[],[.one (.d .bool)],[],Bool,λy=>(y,()),λy=>y.1,λ_=>rfl,λn x=>ref08_Same n x.1 x.2.1⟩
theorem ref08_Same_ok:OkC Tryz.prog tab ref08_Same_ct:=fn_ok (W:=⟨Tryz.prog,tab,tyOf,[],addO,dpO,false⟩) ⟨tabOk,trivial,addOk⟩ (by kernel_rfl) 90 Tryz.f10 (.sq (.n) (.sq (.n) (.sq (.sq (.n) (.bk none (.lp ⟨[(3,.one (.box 0 0)),(18,.one (.d (.sl (.st 3)))),(19,.one (.d (.int .i64))),(20,.one (.d (.int .i64)))],[.bst 4],[]⟩ (.sq (.n) (.sq (.n) (.sq (.bk none (.sq (.n) (.sq (.n) (.sq (.n) (.sq (.sq (.n) (.bk none (.lp ⟨[(3,.one (.box 0 0)),(6,.one (.box 1 0)),(7,.one (.box 2 0)),(18,.one (.d (.sl (.st 3)))),(19,.one (.d (.int .i64))),(20,.one (.d (.int .i64))),(55,.one (.d (.int .i64))),(56,.one (.d (.int .i64)))],[.bst 4,.bst 3,.bst 3],[]⟩ (.n)))) (.sq (.n) (.bk none (.lp ⟨[(3,.one (.box 0 0)),(6,.one (.box 1 0)),(7,.one (.box 2 0)),(18,.one (.d (.sl (.st 3)))),(19,.one (.d (.int .i64))),(20,.one (.d (.int .i64))),(73,.one (.d (.int .i64))),(74,.one (.d (.int .i64)))],[.bst 4,.bst 3,.bst 3],[]⟩ (.n))))))))) (.n))))))) (.n)))) Tryz.func10 Tryz.call10 rfl (by kernel_rfl) (by kernel_rfl) (by kernel_rfl) λn x=>by kernel_rfl
def ref08_SameInts_l1(n:Nat):Nat→(List Int)×(List Int)×Int×Int×Unit→Option Bool:=loopF λr1 ⟨v1,v2,v3,v4,_⟩=>
 cond (decide (v4<v3))
 ((idx v1 v4).bind λx5=>
 (idx v2 v4).bind λx6=>
 cond (x5 !=x6)
 (some false)
 (r1 (v1,v2,v3,(IntKind.wrap .i64 (v4+1)),())))
 (some true)
def ref08_SameInts(n:Nat)(p0:List Int)(p1:List Int):Option Bool:=
 cond ((p0.length:Int) !=(p1.length:Int))
 (some false)
 (ref08_SameInts_l1 n n (p0,p1,(p0.length:Int),0,()))
@[reducible] def ref08_SameInts_ct:Ct tab:=⟨9,[.one (.d (.sl (.int .i64))),.one (.d (.sl (.int .i64)))],[],[.one (.d .bool)],[],Bool,λy=>(y,()),λy=>y.1,λ_=>rfl,λn x=>ref08_SameInts n x.1 x.2.1⟩
theorem ref08_SameInts_ok:OkC Tryz.prog tab ref08_SameInts_ct:=fn_ok (W:=⟨Tryz.prog,tab,tyOf,[],addO,dpO,false⟩) ⟨tabOk,trivial,addOk⟩ (by kernel_rfl) 26 Tryz.f9 (.sq (.n) (.sq (.n) (.sq (.sq (.n) (.bk none (.lp ⟨[(0,.one (.d (.sl (.int .i64)))),(1,.one (.d (.sl (.int .i64)))),(12,.one (.d (.int .i64))),(13,.one (.d (.int .i64)))],[],[]⟩ (.n)))) (.n)))) Tryz.func9 Tryz.call9 rfl (by kernel_rfl) (by kernel_rfl) (by kernel_rfl) λn x=>by kernel_rfl
def law08_wakes(n:Nat):Option Bool:=
 (locks_Ask n (Locks.mk ([]:List Queue)) 1 (Res.mk 0 true 7) 3).bind λy1=>
 (locks_Ask n (Locks.mk y1.2.2) 2 (Res.mk 0 true 7) 3).bind λy2=>
 (locks_Ask n (Locks.mk y2.2.2) 1 (Res.mk 0 true 7) 6).bind λy3=>
 (locks_Blockers n (Locks.mk y3.2.2) 1).bind λy4=>
 (locks_Release n (Locks.mk y3.2.2) 2).bind λy5=>
 jn (fun(b6:Bool)=>
 jn (fun(b8:Bool)=>
 jn (fun(b10:Bool)=>
 jn (fun(b12:Bool)=>
 jn (fun(b14:Bool)=>
 jn (fun(b16:Bool)=>
 jn (fun(b18:Bool)=>
 jn (fun(b20:Bool)=>
 jn (fun(b22:Bool)=>
 jn (fun(b24:Bool)=>
 jn (fun(b26:Bool)=>
 some b26) λk27=>
 cond b24
 ((locks_Mode n (Locks.mk y5.2.2) 1 (Res.mk 0 true 7)).bind λy28=>
 k27 (y28==5))
 (k27 false)) λk25=>
 cond b22
 ((idx y5.1 0).bind λx29=>
 k25 (x29==1))
 (k25 false)) λk23=>
 cond b20
 (k23 ((y5.1.length:Int)==1))
 (k23 false)) λk21=>
 cond b18
 ((idx y4 0).bind λx30=>
 k21 (x30==2))
 (k21 false)) λk19=>
 cond b16
 (k19 ((y4.length:Int)==1))
 (k19 false)) λk17=>
 cond b14
 (k17 (y3.1==3))
 (k17 false)) λk15=>
 cond b12
 (k15 (y2.1==2))
 (k15 false)) λk13=>
 cond b10
 (k13 (y1.1==2))
 (k13 false)) λk11=>
 cond b8
 (k11 (y5.2.1==0))
 (k11 false)) λk9=>
 cond b6
 (k9 (y3.2.1==0))
 (k9 false)) λk7=>
 cond (y1.2.1==0)
 (k7 (y2.2.1==0))
 (k7 false)
@[reducible] def law08_wakes_ct:Ct tab:=⟨4,[],[],[.one (.d .bool)],[],Bool,λy=>(y,()),λy=>y.1,λ_=>rfl,λn x=>law08_wakes n⟩
theorem law08_wakes_ok:OkC Tryz.prog tab law08_wakes_ct:=fn_ok (W:=⟨Tryz.prog,tab,tyOf,[locks_Ask_ct,locks_Blockers_ct,locks_Release_ct,locks_Mode_ct],addO,dpO,false⟩) ⟨tabOk,⟨locks_Ask_ok,locks_Blockers_ok,locks_Release_ok,locks_Mode_ok,trivial⟩,addOk⟩ (by kernel_rfl) 96 Tryz.f4 (.n) Tryz.func4 Tryz.call4 rfl (by kernel_rfl) (by kernel_rfl) (by kernel_rfl) λn x=>by kernel_rfl
def law08_LocksDoes_j1(n:Nat):Unit→Option Bool:=λ_=>
 some true
def law08_LocksDoes_j4(n:Nat)(r2:(List law08_Op)×Int×Int×Locks×Unit→Option Bool):(List law08_Op)×Int×Int×Locks×Unit→Option Bool:=fun⟨v223,v224,v225,v226,_⟩=>
 r2 (v223,v224,(IntKind.wrap .i64 (v225+1)),v226,())
def law08_LocksDoes_j3(n:Nat)(r2:(List law08_Op)×Int×Int×Locks×Unit→Option Bool):(List law08_Op)×Int×Int×Locks×Int×(List Int)×Int×Locks×(List Queue)×Unit→Option Bool:=fun⟨v214,v215,v216,v217,v218,v219,v220,v221,v222,_⟩=>
 jn (law08_LocksDoes_j4 n r2) λj4=>
 cond (v220==0)
 (j4 (v214,v215,v216,v221,()))
 (j4 (v214,v215,v216,v217,()))
def law08_LocksDoes_l7(n:Nat)(r5:(List law08_Op)×Int×Int×Int×Int×Locks×Locks×Int×(List Int)×Int×Locks×(List Queue)×Unit→Option Bool):Nat→Int×(List law08_Op)×Int×Int×Int×Int×Int×Int×Locks×Locks×Int×(List Int)×Int×Locks×(List Queue)×Unit→Option Bool:=loopF λr7 ⟨v261,v262,v263,v264,v265,v266,v267,v268,v269,v270,v271,v272,v273,v274,v275,_⟩=>
 cond (decide (v268<v267))
 ((idx v275 v261).bind λx276=>
 (idx v275 v261).bind λx277=>
 (idx x277.waiters v268).bind λx278=>
 r7 (v261,v262,v263,v264,v265,v266,v267,(IntKind.wrap .i64 (v268+1)),v269,v270,v271,v272,v273,v274,v275,()))
 (r5 (v262,v263,v264,v265,(IntKind.wrap .i64 (v266+1)),v269,v270,v271,v272,v273,v274,v275,()))
def law08_LocksDoes_l6(n:Nat)(r5:(List law08_Op)×Int×Int×Int×Int×Locks×Locks×Int×(List Int)×Int×Locks×(List Queue)×Unit→Option Bool):Nat→Int×(List law08_Op)×Int×Int×Int×Int×Int×Int×Locks×Locks×Int×(List Int)×Int×Locks×(List Queue)×Unit→Option Bool:=loopF λr6 ⟨v241,v242,v243,v244,v245,v246,v247,v248,v249,v250,v251,v252,v253,v254,v255,_⟩=>
 cond (decide (v248<v247))
 ((idx v255 v241).bind λx256=>
 (idx v255 v241).bind λx257=>
 (idx x257.holders v248).bind λx258=>
 r6 (v241,v242,v243,v244,v245,v246,v247,(IntKind.wrap .i64 (v248+1)),v249,v250,v251,v252,v253,v254,v255,()))
 ((idx v255 v241).bind λx259=>
 (idx v255 v241).bind λx260=>
 law08_LocksDoes_l7 n r5 n (v241,v242,v243,v244,v245,v246,(x260.waiters.length:Int),0,v249,v250,v251,v252,v253,v254,v255,()))
def law08_LocksDoes_l5(n:Nat)(j3:(List law08_Op)×Int×Int×Locks×Int×(List Int)×Int×Locks×(List Queue)×Unit→Option Bool):Nat→(List law08_Op)×Int×Int×Int×Int×Locks×Locks×Int×(List Int)×Int×Locks×(List Queue)×Unit→Option Bool:=loopF λr5 ⟨v227,v228,v229,v230,v231,v232,v233,v234,v235,v236,v237,v238,_⟩=>
 cond (decide (v231<v230))
 ((idx v238 v231).bind λx239=>
 (idx v238 v231).bind λx240=>
 law08_LocksDoes_l6 n r5 n (v231,v227,v228,v229,v230,v231,(x240.holders.length:Int),0,v232,v233,v234,v235,v236,v237,v238,()))
 ((ref08_Same n v232 v233).bind λy279=>
 cond (!y279)
 (some false)
 (j3 (v227,v228,v229,v232,v234,v235,v236,v237,v238,())))
def law08_LocksDoes_l2(n:Nat)(j1:Unit→Option Bool):Nat→(List law08_Op)×Int×Int×Locks×Unit→Option Bool:=loopF λr2 ⟨v143,v144,v145,v146,_⟩=>
 cond (decide (v145<v144))
 ((idx v143 v145).bind λx147=>
 cond (v145==40)
 (j1 (()))
 ((ref08_Copy n v146).bind λy148=>
 (law08_Op_run n x147 v146).bind λy149=>
 (ref08_Copy n y148).bind λy150=>
 (law08_Op_wants n x147 y150).bind λy151=>
 jn (fun(b152:Bool)=>
 jn (fun(b154:Bool)=>
 jn (fun(b156:Bool)=>
 jn (fun(b158:Bool)=>
 cond b158
 (some false)
 ((ref08_Copy n y151.l).bind λy160=>
 jn (law08_LocksDoes_j3 n r2) λj3=>
 cond (y149.1 !=1)
 (law08_LocksDoes_l5 n j3 n (v143,v144,v145,(y149.2.2.2.length:Int),0,v146,y148,y149.1,y149.2.1,y149.2.2.1,y160,y149.2.2.2,()))
 (j3 (v143,v144,v145,v146,y149.1,y149.2.1,y149.2.2.1,y160,y149.2.2.2,())))) λk159=>
 cond b156
 (k159 true)
 ((ref08_Same n v146 y148).bind λy280=>
 k159 (!y280))) λk157=>
 cond b154
 (k157 true)
 ((ref08_Same n (Locks.mk y149.2.2.2) y151.l).bind λy281=>
 k157 (!y281))) λk155=>
 cond b152
 (k155 true)
 ((ref08_SameInts n y149.2.1 y151.granted).bind λy282=>
 k155 (!y282))) λk153=>
 cond (y149.2.2.1 !=y151.e)
 (k153 true)
 (k153 (y149.1 !=y151.what))))
 (j1 (()))
def law08_LocksDoes(n:Nat)(p0:Locks)(p1:List law08_Op):Option Bool:=
 (law08_wakes n).bind λy1=>
 cond (!y1)
 (some false)
 ((law08_few n p0).bind λy2=>
 jn (law08_LocksDoes_j1 n) λj1=>
 law08_LocksDoes_l2 n j1 n (p1,(p1.length:Int),0,y2,()))
@[reducible] def law08_LocksDoes_ct:Ct tab:=⟨3,[.st 4,.one (.d (.sl (.st 5)))],[],[.one (.d .bool)],[],Bool,λy=>(y,()),λy=>y.1,λ_=>rfl,λn x=>law08_LocksDoes n x.1 x.2.1⟩
theorem law08_LocksDoes_ok:OkC Tryz.prog tab law08_LocksDoes_ct:=fn_ok (W:=⟨Tryz.prog,tab,tyOf,[law08_wakes_ct,law08_few_ct,ref08_Copy_ct,law08_Op_run_ct,law08_Op_wants_ct,ref08_Same_ct,ref08_SameInts_ct],addO,dpO,false⟩) ⟨tabOk,⟨law08_wakes_ok,law08_few_ok,ref08_Copy_ok,law08_Op_run_ok,law08_Op_wants_ok,ref08_Same_ok,ref08_SameInts_ok,trivial⟩,addOk⟩ (by kernel_rfl) 138 Tryz.f3 (.sq (.n) (.sq (.n) (.sq (.n) (.sq (.sq (.n) (.bk (some ⟨[],[],[]⟩) (.lp ⟨[(5,.one (.box 0 0)),(19,.one (.d (.sl (.st 5)))),(20,.one (.d (.int .i64))),(21,.one (.d (.int .i64)))],[.bst 4],[]⟩ (.sq (.n) (.sq (.n) (.sq (.bk none (.sq (.n) (.sq (.n) (.sq (.n) (.sq (.n) (.sq (.n) (.sq (.n) (.sq (.sq (.n) (.cd (some ⟨[(5,.one (.box 0 0)),(9,.one (.box 1 0)),(11,.one (.box 2 0)),(19,.one (.d (.sl (.st 5)))),(20,.one (.d (.int .i64))),(21,.one (.d (.int .i64)))],[.bst 4,.box [.own 3,.d (.int .i64),.d (.sl (.int .i64)),.d (.int .i64)],.bst 4,.scr (.st 3) false],[]⟩) (.sq (.sq (.n) (.bk none (.lp ⟨[(5,.one (.box 0 0)),(8,.one (.box 1 0)),(9,.one (.box 2 0)),(11,.one (.box 3 0)),(19,.one (.d (.sl (.st 5)))),(20,.one (.d (.int .i64))),(21,.one (.d (.int .i64))),(80,.one (.d (.int .i64))),(81,.one (.d (.int .i64)))],[.bst 4,.bst 4,.box [.own 4,.d (.int .i64),.d (.sl (.int .i64)),.d (.int .i64)],.bst 4,.scr (.st 3) false],[]⟩ (.sq (.n) (.sq (.n) (.sq (.bk none (.sq (.n) (.sq (.sq (.n) (.bk none (.lp ⟨[(5,.one (.box 0 0)),(8,.one (.box 1 0)),(9,.one (.box 2 0)),(11,.one (.box 3 0)),(12,.one (.d (.int .i64))),(19,.one (.d (.sl (.st 5)))),(20,.one (.d (.int .i64))),(21,.one (.d (.int .i64))),(80,.one (.d (.int .i64))),(81,.one (.d (.int .i64))),(91,.one (.d (.int .i64))),(92,.one (.d (.int .i64)))],[.bst 4,.bst 4,.box [.own 4,.d (.int .i64),.d (.sl (.int .i64)),.d (.int .i64)],.bst 4,.scr (.st 3) false],[]⟩ (.n)))) (.sq (.n) (.bk none (.lp ⟨[(5,.one (.box 0 0)),(8,.one (.box 1 0)),(9,.one (.box 2 0)),(11,.one (.box 3 0)),(12,.one (.d (.int .i64))),(19,.one (.d (.sl (.st 5)))),(20,.one (.d (.int .i64))),(21,.one (.d (.int .i64))),(80,.one (.d (.int .i64))),(81,.one (.d (.int .i64))),(113,.one (.d (.int .i64))),(114,.one (.d (.int .i64)))],[.bst 4,.bst 4,.box [.own 4,.d (.int .i64),.d (.sl (.int .i64)),.d (.int .i64)],.bst 4,.scr (.st 3) false],[]⟩ (.n))))))) (.n))))))) (.n)) (.n))) (.sq (.n) (.cd (some ⟨[(5,.one (.box 0 0)),(19,.one (.d (.sl (.st 5)))),(20,.one (.d (.int .i64))),(21,.one (.d (.int .i64)))],[.bst 4],[]⟩) (.n) (.n))))))))))) (.n))))))) (.n))))) Tryz.func3 Tryz.call3 rfl (by kernel_rfl) (by kernel_rfl) (by kernel_rfl) λn x=>by kernel_rfl
end
end Go.Proofs.YtchocpffjnodfaaGreat
