import Derived.Test.YtlcmdgpjiendmaaGreatTypes
import Derived.Test.YtlcmdgpjiendmaaGreatF2
namespace Go.Proofs.YtlcmdgpjiendmaaGreat
open Go Go.Bur Go.RowKit
set_option linter.unusedVariables false
set_option linter.unusedSimpArgs false
set_option maxRecDepth 100000
noncomputable section
def ref11_Level_j1(n:Nat):Int×Content×Content×Key×Content×Content×Key×Unit→Option (Content×Content×Key×Bool):=fun⟨v9,v10,v11,v12,v13,v14,v15,_⟩=>
 (ref11_Both n v10 v11 v12).bind λy16=>
 (ref11_Cut n y16 v9).bind λy17=>
 (ref11_Size n y17.2.1).bind λy18=>
 jn (fun(b19:Bool)=>
 jn (fun(b21:Bool)=>
 jn (fun(b23:Bool)=>
 cond b23
 (some ((Content.mk 0 ([]:List Row) ([]:List Kid)),(Content.mk 0 ([]:List Row) ([]:List Kid)),(Key.mk 0 0),false))
 (some (y17.1,y17.2.1,y17.2.2,true))) λk24=>
 cond b21
 (k24 true)
 ((ref06_Right n y17.2.1).bind λy25=>
 k24 (!y25))) λk22=>
 cond b19
 (k22 true)
 ((ref06_Right n y17.1).bind λy26=>
 k22 (!y26))) λk20=>
 cond (y18==0)
 (k20 true)
 ((ref11_Rises n y16).bind λy27=>
 k20 (!y27))
def ref11_Level(n:Nat)(p0:Content)(p1:Content)(p2:Key):Option (Content×Content×Key×Bool):=
 jn (fun(b1:Bool)=>
 jn (fun(b3:Bool)=>
 cond b3
 (some ((Content.mk 0 ([]:List Row) ([]:List Kid)),(Content.mk 0 ([]:List Row) ([]:List Kid)),(Key.mk 0 0),false))
 ((ref11_Size n p0).bind λy5=>
 (ref11_Size n p0).bind λy6=>
 (ref11_Size n p1).bind λy7=>
 jn (ref11_Level_j1 n) λj1=>
 cond (decide (y6>y7))
 ((ref11_Size n p0).bind λy28=>
 j1 ((IntKind.wrap .i64 (y28-1)),p0,p1,p2,(Content.mk 0 ([]:List Row) ([]:List Kid)),(Content.mk 0 ([]:List Row) ([]:List Kid)),(Key.mk 0 0),()))
 (j1 ((IntKind.wrap .i64 (y5+1)),p0,p1,p2,(Content.mk 0 ([]:List Row) ([]:List Kid)),(Content.mk 0 ([]:List Row) ([]:List Kid)),(Key.mk 0 0),())))) λk4=>
 cond b1
 (k4 true)
 ((ref11_Size n p0).bind λy29=>
 (ref11_Size n p1).bind λy30=>
 k4 (y29==y30))) λk2=>
 cond (p0.kind !=p1.kind)
 (k2 true)
 (k2 (p0.kind==0))
@[reducible] def ref11_Level_ct:Ct tab:=⟨123,[.st 4,.st 4,.st 1],[],[.st 4,.st 4,.st 1,.one (.d .bool)],[],(Content×Content×Key×Bool),λy=>(y.1,y.2.1,y.2.2.1,y.2.2.2,()),λy=>(y.1,y.2.1,y.2.2.1,y.2.2.2.1),λ_=>rfl,λn x=>ref11_Level n x.1 x.2.1 x.2.2.1⟩
theorem ref11_Level_ok:OkC Tryz.prog tab ref11_Level_ct:=fn_ok (W:=⟨Tryz.prog,tab,tyOf,[ref11_Size_ct,ref11_Both_ct,ref11_Cut_ct,ref06_Right_ct,ref11_Rises_ct],addO,dpO,false⟩) ⟨tabOk,⟨ref11_Size_ok,ref11_Both_ok,ref11_Cut_ok,ref06_Right_ok,ref11_Rises_ok,trivial⟩,addOk⟩ (by kernel_rfl) 81 Tryz.f123 (.sq (.n) (.sq (.n) (.sq (.n) (.sq (.sq (.n) (.cd (some ⟨[(3,.one (.box 0 0)),(4,.one (.box 1 0)),(5,.one (.box 2 0)),(6,.one (.box 3 0)),(7,.one (.box 4 0)),(8,.one (.box 5 0)),(10,.one (.d (.int .i64)))],[.bst 4,.bst 4,.bst 1,.bst 4,.bst 4,.bst 1],[]⟩) (.n) (.n))) (.n))))) Tryz.func123 Tryz.call123 rfl (by kernel_rfl) (by kernel_rfl) (by kernel_rfl) λn x=>by kernel_rfl
def ref11_Step_j2(n:Nat)(r1:Int×Int×Content×Key×Content×(List Kid)×Unit→Option Content):Int×Int×Content×Key×Content×(List Kid)×Kid×Unit→Option Content:=fun⟨v8,v9,v10,v11,v12,v13,v14,_⟩=>
 (app 24 v13 ([v14]:List Kid)).bind λl15=>
 r1 (v8,(IntKind.wrap .i64 (v9+1)),v10,v11,v12,l15,())
def ref11_Step_l1(n:Nat):Nat→Int×Int×Content×Key×Content×(List Kid)×Unit→Option Content:=loopF λr1 ⟨v1,v2,v3,v4,v5,v6,_⟩=>
 cond (decide (v2<(v3.kids.length:Int)))
 ((idx v3.kids v2).bind λx7=>
 jn (ref11_Step_j2 n r1) λj2=>
 cond (v2==v1)
 (j2 (v1,v2,v3,v4,v5,v6,(Kid.mk v4 x7.page),()))
 (j2 (v1,v2,v3,v4,v5,v6,x7,())))
 ((ref11_Inner n v6).bind λy16=>
 some y16)
def ref11_Step(n:Nat)(p0:Content)(p1:Int)(p2:Key):Option Content:=
 ref11_Step_l1 n n (p1,0,p0,p2,(Content.mk 0 ([]:List Row) ([]:List Kid)),([]:List Kid),())
@[reducible] def ref11_Step_ct:Ct tab:=⟨124,[.st 4,.one (.d (.int .i64)),.st 1],[],[.st 4],[],Content,λy=>(y,()),λy=>y.1,λ_=>rfl,λn x=>ref11_Step n x.1 x.2.1 x.2.2.1⟩
theorem ref11_Step_ok:OkC Tryz.prog tab ref11_Step_ct:=fn_ok (W:=⟨Tryz.prog,tab,tyOf,[ref11_Inner_ct],addO,dpO,false⟩) ⟨tabOk,⟨ref11_Inner_ok,trivial⟩,addOk⟩ (by kernel_rfl) 33 Tryz.f124 (.sq (.n) (.sq (.n) (.sq (.sq (.n) (.bk none (.lp ⟨[(1,.one (.d (.int .i64))),(3,.one (.box 0 0)),(5,.one (.box 1 0)),(6,.one (.box 2 0)),(7,.one (.own 3)),(8,.one (.d (.int .i64)))],[.bst 4,.bst 1,.bst 4,.row 100 (.st 3)],[]⟩ (.sq (.n) (.sq (.bk none (.sq (.n) (.sq (.sq (.n) (.cd (some ⟨[(1,.one (.d (.int .i64))),(3,.one (.box 0 0)),(5,.one (.box 1 0)),(6,.one (.box 2 0)),(7,.one (.own 3)),(8,.one (.d (.int .i64))),(9,.one (.box 4 0))],[.bst 4,.bst 1,.bst 4,.row 100 (.st 3),.bst 3],[]⟩) (.n) (.n))) (.n)))) (.n)))))) (.n)))) Tryz.func124 Tryz.call124 rfl (by kernel_rfl) (by kernel_rfl) (by kernel_rfl) λn x=>by kernel_rfl
def ref13_food_j1(n:Nat):Int×Int×Forest×Content×Unit→Option (Bool×(List Sheet)):=fun⟨v6,v7,v8,v9,_⟩=>
 (idx v9.kids (IntKind.wrap .i64 (v7-1))).bind λx10=>
 (idx v9.kids v7).bind λx11=>
 (idx v9.kids v7).bind λx12=>
 (idx v8.pages x10.page).bind λx13=>
 (idx v8.pages x11.page).bind λx14=>
 (ref11_Both n x13 x14 x12.least).bind λy15=>
 (ref11_Size n y15).bind λy16=>
 jn (fun(b17:Bool)=>
 jn (fun(b19:Bool)=>
 cond b19
 ((ref13_sorted n ([(Sheet.mk 0 y15),(Sheet.mk x10.page (Content.mk 0 ([]:List Row) ([]:List Kid))),(Sheet.mk x11.page (Content.mk 0 ([]:List Row) ([]:List Kid)))]:List Sheet)).bind λy21=>
 some (true,y21))
 ((ref11_Size n y15).bind λy22=>
 cond (decide (y22≤4))
 ((ref11_Disown n v9 v7).bind λy23=>
 (ref13_sorted n ([(Sheet.mk v6 y23),(Sheet.mk x10.page y15),(Sheet.mk x11.page (Content.mk 0 ([]:List Row) ([]:List Kid)))]:List Sheet)).bind λy24=>
 some (false,y24))
 ((idx v8.pages x10.page).bind λx25=>
 (idx v8.pages x11.page).bind λx26=>
 (ref11_Level n x25 x26 x12.least).bind λy27=>
 (ref11_Step n v9 v7 y27.2.2.1).bind λy28=>
 (ref13_sorted n ([(Sheet.mk v6 y28),(Sheet.mk x10.page y27.1),(Sheet.mk x11.page y27.2.1)]:List Sheet)).bind λy29=>
 some (false,y29)))) λk20=>
 cond b17
 (k20 ((v9.kids.length:Int)==2))
 (k20 false)) λk18=>
 cond (decide (y16≤4))
 (k18 (v6==0))
 (k18 false)
def ref13_food(n:Nat)(p0:Forest)(p1:Int)(p2:Key):Option (Bool×(List Sheet)):=
 (idx p0.pages p1).bind λx1=>
 (ref11_Kid n x1 p2).bind λy2=>
 (idx x1.kids y2).bind λx3=>
 (idx p0.pages x3.page).bind λx4=>
 (ref11_Size n x4).bind λy5=>
 cond (decide (y5>2))
 (some (false,([]:List Sheet)))
 (jn (ref13_food_j1 n) λj1=>
 cond ((IntKind.wrap .i64 (y2+1))==(x1.kids.length:Int))
 (j1 (p1,y2,p0,x1,()))
 (j1 (p1,(IntKind.wrap .i64 (y2+1)),p0,x1,())))
@[reducible] def ref13_food_ct:Ct tab:=⟨74,[.st 5,.one (.d (.int .i64)),.st 1],[],[.one (.own 0),.one (.d .bool)],[(none,.row 76 (.st 6))],(Bool×(List Sheet)),λy=>(y.1,y.2,()),λy=>(y.1,y.2.1),λ_=>rfl,λn x=>ref13_food n x.1 x.2.1 x.2.2.1⟩
theorem ref13_food_ok:OkC Tryz.prog tab ref13_food_ct:=fn_ok (W:=⟨Tryz.prog,tab,tyOf,[ref11_Kid_ct,ref11_Size_ct,ref11_Both_ct,ref13_sorted_ct,ref11_Disown_ct,ref11_Level_ct,ref11_Step_ct],addO,dpO,false⟩) ⟨tabOk,⟨ref11_Kid_ok,ref11_Size_ok,ref11_Both_ok,ref13_sorted_ok,ref11_Disown_ok,ref11_Level_ok,ref11_Step_ok,trivial⟩,addOk⟩ (by kernel_rfl) 145 Tryz.f74 (.sq (.n) (.sq (.n) (.sq (.n) (.sq (.n) (.sq (.n) (.sq (.sq (.n) (.cd (some ⟨[(1,.one (.d (.int .i64))),(3,.one (.box 0 0)),(8,.one (.box 1 0)),(10,.one (.d (.int .i64)))],[.bst 5,.bst 4],[]⟩) (.n) (.n))) (.n))))))) Tryz.func74 Tryz.call74 rfl (by kernel_rfl) (by kernel_rfl) (by kernel_rfl) λn x=>by kernel_rfl
def ref13_With_l1(n:Nat):Nat→(List Sheet)×Int×Forest×(List Content)×Unit→Option Forest:=loopF λr1 ⟨v2,v3,v4,v5,_⟩=>
 cond (decide (v3<(v2.length:Int)))
 ((idx v2 v3).bind λx6=>
 (idx v2 v3).bind λx7=>
 (idx v5 x6.page).bind λx8=>
 (put v5 x6.page x7.content).bind λl9=>
 r1 (v2,(IntKind.wrap .i64 (v3+1)),v4,l9,()))
 (some (Forest.mk v5))
def ref13_With(n:Nat)(p0:Forest)(p1:List Sheet):Option Forest:=
 (app 56 ([]:List Content) p0.pages).bind λl1=>
 ref13_With_l1 n n (p1,0,(Forest.mk ([]:List Content)),l1,())
@[reducible] def ref13_With_ct:Ct tab:=⟨19,[.st 5,.one (.d (.sl (.st 6)))],[],[.st 5],[],Forest,λy=>(y,()),λy=>y.1,λ_=>rfl,λn x=>ref13_With n x.1 x.2.1⟩
theorem ref13_With_ok:OkC Tryz.prog tab ref13_With_ct:=fn_ok (W:=⟨Tryz.prog,tab,tyOf,[],addO,dpO,false⟩) ⟨tabOk,trivial,addOk⟩ (by kernel_rfl) 32 Tryz.f19 (.sq (.n) (.sq (.n) (.sq (.sq (.n) (.bk none (.lp ⟨[(1,.one (.d (.sl (.st 6)))),(4,.one (.box 0 0)),(5,.one (.box 1 0)),(6,.one (.d (.int .i64)))],[.bst 5,.box [.own 2],.row 47 (.st 4)],[]⟩ (.n)))) (.n)))) Tryz.func19 Tryz.call19 rfl (by kernel_rfl) (by kernel_rfl) (by kernel_rfl) λn x=>by kernel_rfl
def ref05_Without_j2(n:Nat)(r1:(List Row)×Int×Key×(List Row)×Unit→Option ((List Row))):(List Row)×Int×Key×(List Row)×Unit→Option ((List Row)):=fun⟨v8,v9,v10,v11,_⟩=>
 r1 (v8,(IntKind.wrap .i64 (v9+1)),v10,v11,())
def ref05_Without_l1(n:Nat):Nat→(List Row)×Int×Key×(List Row)×Unit→Option ((List Row)):=loopF λr1 ⟨v1,v2,v3,v4,_⟩=>
 cond (decide (v2<(v1.length:Int)))
 ((idx v1 v2).bind λx5=>
 jn (ref05_Without_j2 n r1) λj2=>
 cond (!(Key.eqb x5.key v3))
 ((idx v1 v2).bind λx12=>
 (app 40 v4 ([x12]:List Row)).bind λl13=>
 j2 (v1,v2,v3,l13,()))
 (j2 (v1,v2,v3,v4,())))
 (some v4)
def ref05_Without(n:Nat)(p0:List Row)(p1:Key):Option ((List Row)):=
 ref05_Without_l1 n n (p0,0,p1,([]:List Row),())
@[reducible] def ref05_Without_ct:Ct tab:=⟨44,[.one (.d (.sl (.st 2))),.st 1],[],[.one (.own 0)],[(none,.row 40 (.st 2))],((List Row)),λy=>(y,()),λy=>y.1,λ_=>rfl,λn x=>ref05_Without n x.1 x.2.1⟩
theorem ref05_Without_ok:OkC Tryz.prog tab ref05_Without_ct:=fn_ok (W:=⟨Tryz.prog,tab,tyOf,[],addO,dpO,false⟩) ⟨tabOk,trivial,addOk⟩ (by kernel_rfl) 28 Tryz.f44 (.sq (.n) (.sq (.n) (.sq (.sq (.n) (.bk none (.lp ⟨[(0,.one (.d (.sl (.st 2)))),(3,.one (.box 0 0)),(5,.one (.own 1)),(6,.one (.d (.int .i64)))],[.bst 1,.row 40 (.st 2)],[]⟩ (.sq (.n) (.sq (.bk none (.sq (.n) (.cd (some ⟨[(0,.one (.d (.sl (.st 2)))),(3,.one (.box 0 0)),(5,.one (.own 1)),(6,.one (.d (.int .i64)))],[.bst 1,.row 40 (.st 2)],[]⟩) (.n) (.n)))) (.n)))))) (.n)))) Tryz.func44 Tryz.call44 rfl (by kernel_rfl) (by kernel_rfl) (by kernel_rfl) λn x=>by kernel_rfl
def ref13_Take_j1(n:Nat):Int×Forest×Key×(List Group)×Unit→Option ((List Group)):=fun⟨v31,v32,v33,v34,_⟩=>
 (idx v32.pages v31).bind λx35=>
 (ref05_Without n x35.rows v33).bind λy36=>
 (ref11_Leaf n y36).bind λy37=>
 (app 24 v34 ([(Group.mk ([(Sheet.mk v31 y37)]:List Sheet))]:List Group)).bind λl38=>
 some l38
def ref13_Take_j4(n:Nat)(r2:Int×Int×Forest×Key×(List Group)×Unit→Option ((List Group))):Int×Int×Forest×Key×(List Group)×Unit→Option ((List Group)):=fun⟨v58,v59,v60,v61,v62,_⟩=>
 r2 (v58,(IntKind.wrap .i64 (v59+1)),v60,v61,v62,())
def ref13_Take_j3(n:Nat)(r2:Int×Int×Forest×Key×(List Group)×Unit→Option ((List Group))):Int×Int×Bool×Forest×Key×(List Group)×Unit→Option ((List Group)):=fun⟨v48,v49,v50,v51,v52,v53,_⟩=>
 jn (ref13_Take_j4 n r2) λj4=>
 cond (!v50)
 ((idx v51.pages v48).bind λx63=>
 (idx v51.pages v48).bind λx64=>
 (ref11_Kid n x64 v52).bind λy65=>
 (idx x63.kids y65).bind λx66=>
 j4 (x66.page,v49,v51,v52,v53,()))
 (j4 (v48,v49,v51,v52,v53,()))
def ref13_Take_l2(n:Nat)(j1:Int×Forest×Key×(List Group)×Unit→Option ((List Group))):Nat→Int×Int×Forest×Key×(List Group)×Unit→Option ((List Group)):=loopF λr2 ⟨v39,v40,v41,v42,v43,_⟩=>
 cond (decide (v40<40))
 ((idx v41.pages v39).bind λx44=>
 cond (x44.kind==1)
 (j1 (v39,v41,v42,v43,()))
 ((ref13_food n v41 v39 v42).bind λy45=>
 jn (ref13_Take_j3 n r2) λj3=>
 cond (decide ((y45.2.length:Int)>0))
 ((app 24 v43 ([(Group.mk y45.2)]:List Group)).bind λl67=>
 (ref13_With n v41 y45.2).bind λy68=>
 j3 (v39,v40,y45.1,y68,v42,l67,()))
 (j3 (v39,v40,y45.1,v41,v42,v43,()))))
 (j1 (v39,v41,v42,v43,()))
def ref13_Take(n:Nat)(p0:Forest)(p1:Key):Option ((List Group)):=
 jn (ref13_Take_j1 n) λj1=>
 ref13_Take_l2 n j1 n (0,0,p0,p1,([]:List Group),())
@[reducible] def ref13_Take_ct:Ct tab:=⟨37,[.st 5,.st 1],[],[.one (.own 0)],[(none,.row 74 (.st 7))],((List Group)),λy=>(y,()),λy=>y.1,λ_=>rfl,λn x=>ref13_Take n x.1 x.2.1⟩
theorem ref13_Take_ok:OkC Tryz.prog tab ref13_Take_ct:=fn_ok (W:=⟨Tryz.prog,tab,tyOf,[ref05_Without_ct,ref11_Leaf_ct,ref13_food_ct,ref11_Kid_ct,ref13_With_ct],addO,dpO,false⟩) ⟨tabOk,⟨ref05_Without_ok,ref11_Leaf_ok,ref13_food_ok,ref11_Kid_ok,ref13_With_ok,trivial⟩,addOk⟩ (by kernel_rfl) 75 Tryz.f37 (.sq (.n) (.sq (.n) (.sq (.n) (.sq (.sq (.n) (.bk (some ⟨[(2,.one (.box 0 0)),(3,.one (.box 1 0)),(5,.one (.own 2)),(6,.one (.d (.int .i64)))],[.bst 5,.bst 1,.row 74 (.st 7)],[]⟩) (.lp ⟨[(2,.one (.box 0 0)),(3,.one (.box 1 0)),(5,.one (.own 2)),(6,.one (.d (.int .i64))),(7,.one (.d (.int .i64)))],[.bst 5,.bst 1,.row 74 (.st 7)],[]⟩ (.sq (.n) (.sq (.bk none (.sq (.n) (.sq (.n) (.sq (.sq (.n) (.cd (some ⟨[(2,.one (.box 0 0)),(3,.one (.box 1 0)),(5,.one (.own 2)),(6,.one (.d (.int .i64))),(7,.one (.d (.int .i64))),(9,.one (.d .bool))],[.bst 5,.bst 1,.row 74 (.st 7)],[]⟩) (.n) (.n))) (.sq (.n) (.cd (some ⟨[(2,.one (.box 0 0)),(3,.one (.box 1 0)),(5,.one (.own 2)),(6,.one (.d (.int .i64))),(7,.one (.d (.int .i64)))],[.bst 5,.bst 1,.row 74 (.st 7)],[]⟩) (.n) (.n))))))) (.n)))))) (.n))))) Tryz.func37 Tryz.call37 rfl (by kernel_rfl) (by kernel_rfl) (by kernel_rfl) λn x=>by kernel_rfl
def ref13_Net_j3(n:Nat)(r2:(List Group)×Int×Int×(List Sheet)×Unit→Option ((List Sheet))):(List Group)×Int×Int×(List Sheet)×Unit→Option ((List Sheet)):=fun⟨v29,v30,v31,v32,_⟩=>
 r2 (v29,v30,(IntKind.wrap .i64 (v31-1)),v32,())
def ref13_Net_l4(n:Nat)(j3:(List Group)×Int×Int×(List Sheet)×Unit→Option ((List Sheet))):Nat→(List Group)×Int×Int×Int×(List Sheet)×Sheet×Unit→Option ((List Sheet)):=loopF λr4 ⟨v35,v36,v37,v38,v39,v40,_⟩=>
 jn (fun(b41:Bool)=>
 cond b41
 (r4 (v35,v36,v37,(IntKind.wrap .i64 (v38+1)),v39,v40,()))
 (jn (fun(b43:Bool)=>
 cond b43
 (j3 (v35,v36,v37,v39,()))
 ((sub3 v39 v38 v38).bind λl45=>
 (sub v39 v38 (v39.length:Int)).bind λl46=>
 (app 64 ([v40]:List Sheet) l46).bind λl47=>
 neL l47
 ((app 64 l45 l47).bind λl48=>
 j3 (v35,v36,v37,l48,())))) λk44=>
 cond (decide (v38<(v39.length:Int)))
 ((idx v39 v38).bind λx49=>
 (idx v39 v38).bind λx50=>
 k44 (x50.page==v40.page))
 (k44 false))) λk42=>
 cond (decide (v38<(v39.length:Int)))
 ((idx v39 v38).bind λx51=>
 (idx v39 v38).bind λx52=>
 k42 (decide (x52.page<v40.page)))
 (k42 false)
def ref13_Net_l2(n:Nat)(r1:(List Group)×Int×(List Sheet)×Unit→Option ((List Sheet))):Nat→(List Group)×Int×Int×(List Sheet)×Unit→Option ((List Sheet)):=loopF λr2 ⟨v5,v6,v7,v8,_⟩=>
 cond (decide (v7≥0))
 (jn (ref13_Net_j3 n r2) λj3=>
 (idx v5 v6).bind λx33=>
 (idx x33.sheets v7).bind λx34=>
 ref13_Net_l4 n j3 n (v5,v6,v7,0,v8,x34,()))
 (r1 (v5,(IntKind.wrap .i64 (v6-1)),v8,()))
def ref13_Net_l1(n:Nat):Nat→(List Group)×Int×(List Sheet)×Unit→Option ((List Sheet)):=loopF λr1 ⟨v1,v2,v3,_⟩=>
 cond (decide (v2≥0))
 ((idx v1 v2).bind λx4=>
 ref13_Net_l2 n r1 n (v1,v2,(IntKind.wrap .i64 ((x4.sheets.length:Int)-1)),v3,()))
 (some v3)
def ref13_Net(n:Nat)(p0:List Group):Option ((List Sheet)):=
 ref13_Net_l1 n n (p0,(IntKind.wrap .i64 ((p0.length:Int)-1)),([]:List Sheet),())
@[reducible] def ref13_Net_ct:Ct tab:=⟨42,[.one (.d (.sl (.st 7)))],[],[.one (.own 0)],[(none,.row 76 (.st 6))],((List Sheet)),λy=>(y,()),λy=>y.1,λ_=>rfl,λn x=>ref13_Net n x.1⟩
theorem ref13_Net_ok:OkC Tryz.prog tab ref13_Net_ct:=fn_ok (W:=⟨Tryz.prog,tab,tyOf,[],addO,dpO,false⟩) ⟨tabOk,trivial,addOk⟩ (by kernel_rfl) 76 Tryz.f42 (.sq (.n) (.sq (.n) (.sq (.sq (.n) (.bk none (.lp ⟨[(0,.one (.d (.sl (.st 7)))),(3,.one (.own 0)),(4,.one (.d (.int .i64)))],[.row 76 (.st 6)],[]⟩ (.sq (.n) (.sq (.bk none (.sq (.n) (.bk none (.lp ⟨[(0,.one (.d (.sl (.st 7)))),(3,.one (.own 0)),(4,.one (.d (.int .i64))),(5,.one (.d (.int .i64)))],[.row 76 (.st 6)],[]⟩ (.sq (.n) (.sq (.bk (some ⟨[(0,.one (.d (.sl (.st 7)))),(3,.one (.own 0)),(4,.one (.d (.int .i64))),(5,.one (.d (.int .i64)))],[.row 76 (.st 6)],[]⟩) (.sq (.n) (.sq (.n) (.sq (.bk none (.lp ⟨[(0,.one (.d (.sl (.st 7)))),(3,.one (.own 0)),(4,.one (.d (.int .i64))),(5,.one (.d (.int .i64))),(6,.one (.box 1 0)),(7,.one (.d (.int .i64)))],[.row 76 (.st 6),.bst 6],[]⟩ (.n))) (.sq (.n) (.rg [3])))))) (.n))))))) (.n)))))) (.n)))) Tryz.func42 Tryz.call42 rfl (by kernel_rfl) (by kernel_rfl) (by kernel_rfl) λn x=>by kernel_rfl
def ref13_free_j2(n:Nat)(r1:Int×Forest×(List Int)×Unit→Option ((List Int))):Int×Forest×(List Int)×Unit→Option ((List Int)):=fun⟨v6,v7,v8,_⟩=>
 r1 ((IntKind.wrap .i64 (v6+1)),v7,v8,())
def ref13_free_l1(n:Nat):Nat→Int×Forest×(List Int)×Unit→Option ((List Int)):=loopF λr1 ⟨v1,v2,v3,_⟩=>
 cond (decide (v1<64))
 ((idx v2.pages v1).bind λx4=>
 jn (ref13_free_j2 n r1) λj2=>
 cond (x4.kind==0)
 ((app 8 v3 ([v1]:List Int)).bind λl9=>
 j2 (v1,v2,l9,()))
 (j2 (v1,v2,v3,())))
 (some v3)
def ref13_free(n:Nat)(p0:Forest):Option ((List Int)):=
 ref13_free_l1 n n (1,p0,([]:List Int),())
@[reducible] def ref13_free_ct:Ct tab:=⟨57,[.st 5],[],[.one (.own 0)],[(none,.row 3 (.int .i64))],((List Int)),λy=>(y,()),λy=>y.1,λ_=>rfl,λn x=>ref13_free n x.1⟩
theorem ref13_free_ok:OkC Tryz.prog tab ref13_free_ct:=fn_ok (W:=⟨Tryz.prog,tab,tyOf,[],addO,dpO,false⟩) ⟨tabOk,trivial,addOk⟩ (by kernel_rfl) 21 Tryz.f57 (.sq (.n) (.sq (.n) (.sq (.sq (.n) (.bk none (.lp ⟨[(1,.one (.box 0 0)),(3,.one (.own 1)),(4,.one (.d (.int .i64)))],[.bst 5,.row 3 (.int .i64)],[]⟩ (.sq (.n) (.sq (.bk none (.sq (.n) (.cd (some ⟨[(1,.one (.box 0 0)),(3,.one (.own 1)),(4,.one (.d (.int .i64)))],[.bst 5,.row 3 (.int .i64)],[]⟩) (.n) (.n)))) (.n)))))) (.n)))) Tryz.func57 Tryz.call57 rfl (by kernel_rfl) (by kernel_rfl) (by kernel_rfl) λn x=>by kernel_rfl
def ref11_Full(n:Nat)(p0:Content):Option Bool:=
 jn (fun(b1:Bool)=>
 some b1) λk2=>
 cond (p0.kind !=0)
 ((ref11_Size n p0).bind λy3=>
 k2 (y3==4))
 (k2 false)
@[reducible] def ref11_Full_ct:Ct tab:=⟨116,[.st 4],[],[.one (.d .bool)],[],Bool,λy=>(y,()),λy=>y.1,λ_=>rfl,λn x=>ref11_Full n x.1⟩
theorem ref11_Full_ok:OkC Tryz.prog tab ref11_Full_ct:=fn_ok (W:=⟨Tryz.prog,tab,tyOf,[ref11_Size_ct],addO,dpO,false⟩) ⟨tabOk,⟨ref11_Size_ok,trivial⟩,addOk⟩ (by kernel_rfl) 11 Tryz.f116 (.n) Tryz.func116 Tryz.call116 rfl (by kernel_rfl) (by kernel_rfl) (by kernel_rfl) λn x=>by kernel_rfl
def ref11_Adopt_j2(n:Nat)(r1:Int×Int×Int×Content×Key×Content×(List Kid)×Unit→Option Content):Int×Int×Int×Content×Key×Content×(List Kid)×Unit→Option Content:=fun⟨v11,v12,v13,v14,v15,v16,v17,_⟩=>
 r1 (v11,v12,(IntKind.wrap .i64 (v13+1)),v14,v15,v16,v17,())
def ref11_Adopt_l1(n:Nat):Nat→Int×Int×Int×Content×Key×Content×(List Kid)×Unit→Option Content:=loopF λr1 ⟨v1,v2,v3,v4,v5,v6,v7,_⟩=>
 cond (decide (v3<(v4.kids.length:Int)))
 ((idx v4.kids v3).bind λx8=>
 (app 24 v7 ([x8]:List Kid)).bind λl9=>
 jn (ref11_Adopt_j2 n r1) λj2=>
 cond (v3==v1)
 ((app 24 l9 ([(Kid.mk v5 v2)]:List Kid)).bind λl18=>
 j2 (v1,v2,v3,v4,v5,v6,l18,()))
 (j2 (v1,v2,v3,v4,v5,v6,l9,())))
 ((ref11_Inner n v7).bind λy19=>
 some y19)
def ref11_Adopt(n:Nat)(p0:Content)(p1:Int)(p2:Int)(p3:Key):Option Content:=
 ref11_Adopt_l1 n n (p1,p2,0,p0,p3,(Content.mk 0 ([]:List Row) ([]:List Kid)),([]:List Kid),())
@[reducible] def ref11_Adopt_ct:Ct tab:=⟨120,[.st 4,.one (.d (.int .i64)),.one (.d (.int .i64)),.st 1],[],[.st 4],[],Content,λy=>(y,()),λy=>y.1,λ_=>rfl,λn x=>ref11_Adopt n x.1 x.2.1 x.2.2.1 x.2.2.2.1⟩
theorem ref11_Adopt_ok:OkC Tryz.prog tab ref11_Adopt_ct:=fn_ok (W:=⟨Tryz.prog,tab,tyOf,[ref11_Inner_ct],addO,dpO,false⟩) ⟨tabOk,⟨ref11_Inner_ok,trivial⟩,addOk⟩ (by kernel_rfl) 37 Tryz.f120 (.sq (.n) (.sq (.n) (.sq (.sq (.n) (.bk none (.lp ⟨[(1,.one (.d (.int .i64))),(2,.one (.d (.int .i64))),(4,.one (.box 0 0)),(7,.one (.box 1 0)),(8,.one (.box 2 0)),(9,.one (.own 3)),(10,.one (.d (.int .i64)))],[.bst 4,.bst 1,.bst 4,.row 100 (.st 3)],[]⟩ (.sq (.n) (.sq (.bk none (.sq (.n) (.sq (.n) (.cd (some ⟨[(1,.one (.d (.int .i64))),(2,.one (.d (.int .i64))),(4,.one (.box 0 0)),(7,.one (.box 1 0)),(8,.one (.box 2 0)),(9,.one (.own 3)),(10,.one (.d (.int .i64)))],[.bst 4,.bst 1,.bst 4,.row 100 (.st 3)],[]⟩) (.n) (.n))))) (.n)))))) (.n)))) Tryz.func120 Tryz.call120 rfl (by kernel_rfl) (by kernel_rfl) (by kernel_rfl) λn x=>by kernel_rfl
def ref13_room(n:Nat)(p0:Forest)(p1:Int)(p2:Key):Option (Bool×(List Sheet)):=
 (idx p0.pages p1).bind λx1=>
 (ref13_free n p0).bind λy2=>
 jn (fun(b3:Bool)=>
 cond b3
 (cond (decide ((y2.length:Int)<2))
 (some (false,([]:List Sheet)))
 ((ref11_Cut n x1 2).bind λy5=>
 (idx y2 0).bind λx6=>
 (idx y2 0).bind λx7=>
 (idx y2 1).bind λx8=>
 (idx y2 1).bind λx9=>
 (ref11_Inner n ([(Kid.mk (Key.mk 0 0) x7),(Kid.mk y5.2.2 x9)]:List Kid)).bind λy10=>
 (idx y2 0).bind λx11=>
 (idx y2 0).bind λx12=>
 (idx y2 1).bind λx13=>
 (idx y2 1).bind λx14=>
 some (true,([(Sheet.mk 0 y10),(Sheet.mk x12 y5.1),(Sheet.mk x14 y5.2.1)]:List Sheet))))
 (cond (x1.kind !=2)
 (some (true,([]:List Sheet)))
 ((ref11_Kid n x1 p2).bind λy15=>
 (idx x1.kids y15).bind λx16=>
 (idx p0.pages x16.page).bind λx17=>
 (ref11_Full n x17).bind λy18=>
 cond (!y18)
 (some (true,([]:List Sheet)))
 (cond ((y2.length:Int)==0)
 (some (false,([]:List Sheet)))
 ((idx p0.pages x16.page).bind λx19=>
 (ref11_Cut n x19 2).bind λy20=>
 (idx y2 0).bind λx21=>
 (idx y2 0).bind λx22=>
 (ref11_Adopt n x1 y15 x22 y20.2.2).bind λy23=>
 (idx y2 0).bind λx24=>
 (idx y2 0).bind λx25=>
 (ref13_sorted n ([(Sheet.mk p1 y23),(Sheet.mk x16.page y20.1),(Sheet.mk x25 y20.2.1)]:List Sheet)).bind λy26=>
 some (true,y26)))))) λk4=>
 cond (p1==0)
 ((ref11_Full n x1).bind λy27=>
 k4 y27)
 (k4 false)
@[reducible] def ref13_room_ct:Ct tab:=⟨71,[.st 5,.one (.d (.int .i64)),.st 1],[],[.one (.own 0),.one (.d .bool)],[(none,.row 76 (.st 6))],(Bool×(List Sheet)),λy=>(y.1,y.2,()),λy=>(y.1,y.2.1),λ_=>rfl,λn x=>ref13_room n x.1 x.2.1 x.2.2.1⟩
theorem ref13_room_ok:OkC Tryz.prog tab ref13_room_ct:=fn_ok (W:=⟨Tryz.prog,tab,tyOf,[ref13_free_ct,ref11_Cut_ct,ref11_Inner_ct,ref11_Kid_ct,ref11_Full_ct,ref11_Adopt_ct,ref13_sorted_ct],addO,dpO,false⟩) ⟨tabOk,⟨ref13_free_ok,ref11_Cut_ok,ref11_Inner_ok,ref11_Kid_ok,ref11_Full_ok,ref11_Adopt_ok,ref13_sorted_ok,trivial⟩,addOk⟩ (by kernel_rfl) 116 Tryz.f71 (.n) Tryz.func71 Tryz.call71 rfl (by kernel_rfl) (by kernel_rfl) (by kernel_rfl) λn x=>by kernel_rfl
def ref05_With_j2(n:Nat)(r1:Bool×Int×Row×(List Row)×(List Row)×Unit→Option ((List Row))):Bool×Int×Row×(List Row)×(List Row)×Unit→Option ((List Row)):=fun⟨v10,v11,v12,v13,v14,_⟩=>
 (idx v14 v11).bind λx15=>
 (idx v14 v11).bind λx16=>
 (app 40 v13 ([x16]:List Row)).bind λl17=>
 r1 (v10,(IntKind.wrap .i64 (v11+1)),v12,l17,v14,())
def ref05_With_j3(n:Nat):(List Row)×Unit→Option ((List Row)):=fun⟨v23,_⟩=>
 some v23
def ref05_With_l1(n:Nat):Nat→Bool×Int×Row×(List Row)×(List Row)×Unit→Option ((List Row)):=loopF λr1 ⟨v2,v3,v4,v5,v6,_⟩=>
 cond (decide (v3<(v6.length:Int)))
 (jn (fun(b7:Bool)=>
 jn (ref05_With_j2 n r1) λj2=>
 cond b7
 ((app 40 v5 ([v4]:List Row)).bind λl18=>
 j2 (true,v3,v4,l18,v6,()))
 (j2 (v2,v3,v4,v5,v6,()))) λk8=>
 cond (!v2)
 ((idx v6 v3).bind λx19=>
 (idx v6 v3).bind λx20=>
 (ref05_Compare n v4.key x20.key).bind λy21=>
 k8 (decide (y21<0)))
 (k8 false))
 (jn (ref05_With_j3 n) λj3=>
 cond (!v2)
 ((app 40 v5 ([v4]:List Row)).bind λl24=>
 j3 (l24,()))
 (j3 (v5,())))
def ref05_With(n:Nat)(p0:List Row)(p1:Row):Option ((List Row)):=
 (ref05_Without n p0 p1.key).bind λy1=>
 ref05_With_l1 n n (false,0,p1,([]:List Row),y1,())
@[reducible] def ref05_With_ct:Ct tab:=⟨43,[.one (.d (.sl (.st 2))),.st 2],[],[.one (.own 0)],[(none,.row 40 (.st 2))],((List Row)),λy=>(y,()),λy=>y.1,λ_=>rfl,λn x=>ref05_With n x.1 x.2.1⟩
theorem ref05_With_ok:OkC Tryz.prog tab ref05_With_ct:=fn_ok (W:=⟨Tryz.prog,tab,tyOf,[ref05_Without_ct,ref05_Compare_ct],addO,dpO,false⟩) ⟨tabOk,⟨ref05_Without_ok,ref05_Compare_ok,trivial⟩,addOk⟩ (by kernel_rfl) 50 Tryz.f43 (.sq (.n) (.sq (.n) (.sq (.n) (.sq (.n) (.sq (.sq (.n) (.bk none (.lp ⟨[(3,.one (.box 0 0)),(5,.one (.own 1)),(6,.one (.d .bool)),(7,.one (.own 2)),(8,.one (.d (.int .i64)))],[.bst 2,.row 40 (.st 2),.row 40 (.st 2)],[]⟩ (.sq (.n) (.sq (.bk none (.sq (.sq (.n) (.cd (some ⟨[(3,.one (.box 0 0)),(5,.one (.own 1)),(6,.one (.d .bool)),(7,.one (.own 2)),(8,.one (.d (.int .i64)))],[.bst 2,.row 40 (.st 2),.row 40 (.st 2)],[]⟩) (.n) (.n))) (.n))) (.n)))))) (.sq (.sq (.n) (.cd (some ⟨[(5,.one (.own 0))],[.row 40 (.st 2)],[]⟩) (.n) (.n))) (.n))))))) Tryz.func43 Tryz.call43 rfl (by kernel_rfl) (by kernel_rfl) (by kernel_rfl) λn x=>by kernel_rfl
def ref11_Put(n:Nat)(p0:Content)(p1:Row):Option (Content×Int):=
 (ref05_Find n p0.rows p1.key).bind λy1=>
 jn (fun(b2:Bool)=>
 cond b2
 (some ((Content.mk 0 ([]:List Row) ([]:List Kid)),6))
 ((ref05_With n p0.rows p1).bind λy4=>
 (ref11_Leaf n y4).bind λy5=>
 some (y5,0))) λk3=>
 cond (decide (y1<0))
 (k3 ((p0.rows.length:Int)==4))
 (k3 false)
@[reducible] def ref11_Put_ct:Ct tab:=⟨73,[.st 4,.st 2],[],[.st 4,.one (.d (.int .i64))],[],(Content×Int),λy=>(y.1,y.2,()),λy=>(y.1,y.2.1),λ_=>rfl,λn x=>ref11_Put n x.1 x.2.1⟩
theorem ref11_Put_ok:OkC Tryz.prog tab ref11_Put_ct:=fn_ok (W:=⟨Tryz.prog,tab,tyOf,[ref05_Find_ct,ref05_With_ct,ref11_Leaf_ct],addO,dpO,false⟩) ⟨tabOk,⟨ref05_Find_ok,ref05_With_ok,ref11_Leaf_ok,trivial⟩,addOk⟩ (by kernel_rfl) 24 Tryz.f73 (.n) Tryz.func73 Tryz.call73 rfl (by kernel_rfl) (by kernel_rfl) (by kernel_rfl) λn x=>by kernel_rfl
def ref13_Put_j1(n:Nat):Int×Forest×Row×(List Group)×Unit→Option (Int×(List Group)):=fun⟨v81,v82,v83,v84,_⟩=>
 (idx v82.pages v81).bind λx85=>
 (ref11_Put n x85 v83).bind λy86=>
 (app 24 v84 ([(Group.mk ([(Sheet.mk v81 y86.1)]:List Sheet))]:List Group)).bind λl87=>
 some (0,l87)
def ref13_Put_j3(n:Nat)(r2:Bool×Int×Int×Forest×Row×(List Group)×Unit→Option (Int×(List Group))):Bool×Int×Int×Forest×Row×(List Group)×Unit→Option (Int×(List Group)):=fun⟨v127,v128,v129,v130,v131,v132,_⟩=>
 r2 (v127,v128,(IntKind.wrap .i64 (v129+1)),v130,v131,v132,())
def ref13_Put_j4(n:Nat)(j1:Int×Forest×Row×(List Group)×Unit→Option (Int×(List Group)))(j3:Bool×Int×Int×Forest×Row×(List Group)×Unit→Option (Int×(List Group))):Bool×Int×Int×Forest×Row×(List Group)×Unit→Option (Int×(List Group)):=fun⟨v144,v145,v146,v147,v148,v149,_⟩=>
 (idx v147.pages v145).bind λx150=>
 cond (x150.kind==1)
 (j1 (v145,v147,v148,v149,()))
 ((idx v147.pages v145).bind λx151=>
 (idx v147.pages v145).bind λx152=>
 (ref11_Kid n x152 v148.key).bind λy153=>
 (idx x151.kids y153).bind λx154=>
 cond v144
 (j3 (v144,x154.page,v146,v147,v148,v149,()))
 (j3 (v144,x154.page,v146,v147,v148,v149,())))
def ref13_Put_j5(n:Nat)(j4:Bool×Int×Int×Forest×Row×(List Group)×Unit→Option (Int×(List Group))):Bool×Int×Int×Forest×Row×(List Group)×Unit→Option (Int×(List Group)):=fun⟨v158,v159,v160,v161,v162,v163,_⟩=>
 j4 (v158,v159,v160,v161,v162,v163,())
def ref13_Put_l2(n:Nat)(j1:Int×Forest×Row×(List Group)×Unit→Option (Int×(List Group))):Nat→Bool×Int×Int×Forest×Row×(List Group)×Unit→Option (Int×(List Group)):=loopF λr2 ⟨v88,v89,v90,v91,v92,v93,_⟩=>
 cond (decide (v90<40))
 (jn (ref13_Put_j3 n r2) λj3=>
 jn (ref13_Put_j4 n j1 j3) λj4=>
 cond (!v88)
 ((ref13_room n v91 v89 v92.key).bind λy155=>
 cond (!y155.1)
 (some (6,([]:List Group)))
 (jn (ref13_Put_j5 n j4) λj5=>
 cond (decide ((y155.2.length:Int)>0))
 ((app 24 v93 ([(Group.mk y155.2)]:List Group)).bind λl164=>
 (ref13_With n v91 y155.2).bind λy165=>
 j5 (v88,v89,v90,y165,v92,l164,()))
 (j5 (v88,v89,v90,v91,v92,v93,()))))
 (j4 (v88,v89,v90,v91,v92,v93,())))
 (j1 (v89,v91,v92,v93,()))
def ref13_Put(n:Nat)(p0:Forest)(p1:Row):Option (Int×(List Group)):=
 (ref13_Rows n p0 0).bind λy1=>
 (ref05_Find n y1 p1.key).bind λy2=>
 jn (ref13_Put_j1 n) λj1=>
 ref13_Put_l2 n j1 n ((decide (y2≥0)),0,0,p0,p1,([]:List Group),())
@[reducible] def ref13_Put_ct:Ct tab:=⟨35,[.st 5,.st 2],[],[.one (.own 0),.one (.d (.int .i64))],[(none,.row 74 (.st 7))],(Int×(List Group)),λy=>(y.1,y.2,()),λy=>(y.1,y.2.1),λ_=>rfl,λn x=>ref13_Put n x.1 x.2.1⟩
theorem ref13_Put_ok:OkC Tryz.prog tab ref13_Put_ct:=fn_ok (W:=⟨Tryz.prog,tab,tyOf,[ref13_Rows_ct,ref05_Find_ct,ref11_Put_ct,ref11_Kid_ct,ref13_room_ct,ref13_With_ct],addO,dpO,false⟩) ⟨tabOk,⟨ref13_Rows_ok,ref05_Find_ok,ref11_Put_ok,ref11_Kid_ok,ref13_room_ok,ref13_With_ok,trivial⟩,addOk⟩ (by kernel_rfl) 90 Tryz.f35 (.sq (.n) (.sq (.n) (.sq (.n) (.sq (.n) (.sq (.sq (.n) (.bk (some ⟨[(2,.one (.box 0 0)),(3,.one (.box 1 0)),(7,.one (.own 2)),(8,.one (.d (.int .i64)))],[.bst 5,.bst 2,.row 74 (.st 7)],[]⟩) (.lp ⟨[(2,.one (.box 0 0)),(3,.one (.box 1 0)),(6,.one (.d .bool)),(7,.one (.own 2)),(8,.one (.d (.int .i64))),(9,.one (.d (.int .i64)))],[.bst 5,.bst 2,.row 74 (.st 7)],[]⟩ (.sq (.n) (.sq (.bk (some ⟨[(2,.one (.box 0 0)),(3,.one (.box 1 0)),(6,.one (.d .bool)),(7,.one (.own 2)),(8,.one (.d (.int .i64))),(9,.one (.d (.int .i64)))],[.bst 5,.bst 2,.row 74 (.st 7)],[]⟩) (.sq (.sq (.n) (.cd (some ⟨[(2,.one (.box 0 0)),(3,.one (.box 1 0)),(6,.one (.d .bool)),(7,.one (.own 2)),(8,.one (.d (.int .i64))),(9,.one (.d (.int .i64)))],[.bst 5,.bst 2,.row 74 (.st 7)],[]⟩) (.sq (.n) (.sq (.n) (.sq (.n) (.cd (some ⟨[(2,.one (.box 0 0)),(3,.one (.box 1 0)),(6,.one (.d .bool)),(7,.one (.own 2)),(8,.one (.d (.int .i64))),(9,.one (.d (.int .i64)))],[.bst 5,.bst 2,.row 74 (.st 7)],[]⟩) (.n) (.n))))) (.n))) (.n))) (.n)))))) (.n)))))) Tryz.func35 Tryz.call35 rfl (by kernel_rfl) (by kernel_rfl) (by kernel_rfl) λn x=>by kernel_rfl
def law13_Build_built_j1(n:Nat):Forest×Forest×Unit→Option Forest:=fun⟨v76,v77,_⟩=>
 some v77
def law13_Build_built_j3(n:Nat)(r2:(List Int)×Int×Int×Forest×Forest×Unit→Option Forest):(List Int)×Int×Int×Forest×Forest×Unit→Option Forest:=fun⟨v115,v116,v117,v118,v119,_⟩=>
 r2 (v115,v116,(IntKind.wrap .i64 (v117+1)),v118,v119,())
def law13_Build_built_j4(n:Nat)(j3:(List Int)×Int×Int×Forest×Forest×Unit→Option Forest):(List Int)×Int×Int×Forest×Forest×Unit→Option Forest:=fun⟨v130,v131,v132,v133,v134,_⟩=>
 j3 (v130,v131,v132,v133,v134,())
def law13_Build_built_j5(n:Nat)(j3:(List Int)×Int×Int×Forest×Forest×Unit→Option Forest):(List Int)×Int×Int×Forest×Forest×Unit→Option Forest:=fun⟨v143,v144,v145,v146,v147,_⟩=>
 j3 (v143,v144,v145,v146,v147,())
def law13_Build_built_l2(n:Nat)(j1:Forest×Forest×Unit→Option Forest):Nat→(List Int)×Int×Int×Forest×Forest×Unit→Option Forest:=loopF λr2 ⟨v78,v79,v80,v81,v82,_⟩=>
 cond (decide (v80<v79))
 (jn (law13_Build_built_j3 n r2) λj3=>
 (idx v78 v80).bind λx120=>
 cond (v80==90)
 (j1 (v81,v82,()))
 ((law13_row n (IntKind.wrap .u16 x120)).bind λy121=>
 (ref13_Rows n v82 0).bind λy122=>
 (ref05_Find n y122 y121.key).bind λy123=>
 cond (decide (x120<0))
 ((law13_row n (IntKind.wrap .u16 (IntKind.wrap .i64 (0-x120)))).bind λy124=>
 (ref13_Rows n v82 0).bind λy125=>
 (ref05_Find n y125 y124.key).bind λy126=>
 jn (law13_Build_built_j4 n j3) λj4=>
 cond (decide (y126≥0))
 ((ref13_Take n v82 y124.key).bind λy135=>
 (ref13_Net n y135).bind λy136=>
 (ref13_With n v82 y136).bind λy137=>
 j4 (v78,v79,v80,v81,y137,()))
 (j4 (v78,v79,v80,v81,v82,())))
 (jn (fun(b138:Bool)=>
 jn (law13_Build_built_j5 n j3) λj5=>
 cond b138
 ((ref13_Put n v82 y121).bind λy148=>
 (ref13_Net n y148.2).bind λy149=>
 (ref13_With n v82 y149).bind λy150=>
 j5 (v78,v79,v80,v81,y150,()))
 (j5 (v78,v79,v80,v81,v82,()))) λk139=>
 cond (decide (y123≥0))
 (k139 true)
 ((ref13_Rows n v82 0).bind λy151=>
 k139 (decide ((y151.length:Int)<60))))))
 (j1 (v81,v82,()))
def law13_Build_built(n:Nat)(p0:law13_Build):Option Forest:=
 (ref13_New n).bind λy1=>
 jn (law13_Build_built_j1 n) λj1=>
 law13_Build_built_l2 n j1 n (p0.ids,(p0.ids.length:Int),0,(Forest.mk ([]:List Content)),y1,())
@[reducible] def law13_Build_built_ct:Ct tab:=⟨12,[.st 0],[],[.st 5],[],Forest,λy=>(y,()),λy=>y.1,λ_=>rfl,λn x=>law13_Build_built n x.1⟩
theorem law13_Build_built_ok:OkC Tryz.prog tab law13_Build_built_ct:=fn_ok (W:=⟨Tryz.prog,tab,tyOf,[ref13_New_ct,law13_row_ct,ref13_Rows_ct,ref05_Find_ct,ref13_Take_ct,ref13_Net_ct,ref13_With_ct,ref13_Put_ct],addO,dpO,false⟩) ⟨tabOk,⟨ref13_New_ok,law13_row_ok,ref13_Rows_ok,ref05_Find_ok,ref13_Take_ok,ref13_Net_ok,ref13_With_ok,ref13_Put_ok,trivial⟩,addOk⟩ (by kernel_rfl) 68 Tryz.f12 (.sq (.n) (.sq (.n) (.sq (.sq (.n) (.bk (some ⟨[(2,.one (.box 0 0)),(3,.one (.box 1 0))],[.bst 5,.bst 5],[]⟩) (.lp ⟨[(2,.one (.box 0 0)),(3,.one (.box 1 0)),(12,.one (.d (.sl (.int .i64)))),(13,.one (.d (.int .i64))),(14,.one (.d (.int .i64)))],[.bst 5,.bst 5],[]⟩ (.sq (.n) (.sq (.n) (.sq (.bk (some ⟨[(2,.one (.box 0 0)),(3,.one (.box 1 0)),(12,.one (.d (.sl (.int .i64)))),(13,.one (.d (.int .i64))),(14,.one (.d (.int .i64)))],[.bst 5,.bst 5],[]⟩) (.sq (.n) (.sq (.n) (.sq (.n) (.sq (.n) (.sq (.sq (.n) (.cd none (.sq (.sq (.n) (.sq (.n) (.cd (some ⟨[(2,.one (.box 0 0)),(3,.one (.box 1 0)),(12,.one (.d (.sl (.int .i64)))),(13,.one (.d (.int .i64))),(14,.one (.d (.int .i64)))],[.bst 5,.bst 5],[]⟩) (.n) (.n)))) (.n)) (.n))) (.sq (.n) (.cd (some ⟨[(2,.one (.box 0 0)),(3,.one (.box 1 0)),(12,.one (.d (.sl (.int .i64)))),(13,.one (.d (.int .i64))),(14,.one (.d (.int .i64)))],[.bst 5,.bst 5],[]⟩) (.sq (.n) (.rg [60])) (.n))))))))) (.n))))))) (.n)))) Tryz.func12 Tryz.call12 rfl (by kernel_rfl) (by kernel_rfl) (by kernel_rfl) λn x=>by kernel_rfl
def law13_over_l2(n:Nat)(r1:(List Content)×Int×Int×Unit→Option Bool):Nat→(List Content)×Int×Int×(List Row)×Int×Int×Unit→Option Bool:=loopF λr2 ⟨v7,v8,v9,v10,v11,v12,_⟩=>
 cond (decide (v12<v11))
 ((idx v10 v12).bind λx13=>
 cond (decide ((x13.note.size:Int)>100))
 (some true)
 (r2 (v7,v8,v9,v10,v11,(IntKind.wrap .i64 (v12+1)),())))
 (r1 (v7,v8,(IntKind.wrap .i64 (v9+1)),()))
def law13_over_l1(n:Nat):Nat→(List Content)×Int×Int×Unit→Option Bool:=loopF λr1 ⟨v1,v2,v3,_⟩=>
 cond (decide (v3<v2))
 ((idx v1 v3).bind λx4=>
 jn (fun(b5:Bool)=>
 cond b5
 (some true)
 (law13_over_l2 n r1 n (v1,v2,v3,x4.rows,(x4.rows.length:Int),0,()))) λk6=>
 cond (decide ((x4.rows.length:Int)>10))
 (k6 true)
 (k6 (decide ((x4.kids.length:Int)>10))))
 (some false)
def law13_over(n:Nat)(p0:Forest):Option Bool:=
 cond (decide ((p0.pages.length:Int)>70))
 (some true)
 (law13_over_l1 n n (p0.pages,(p0.pages.length:Int),0,()))
@[reducible] def law13_over_ct:Ct tab:=⟨21,[.st 5],[],[.one (.d .bool)],[],Bool,λy=>(y,()),λy=>y.1,λ_=>rfl,λn x=>law13_over n x.1⟩
theorem law13_over_ok:OkC Tryz.prog tab law13_over_ct:=fn_ok (W:=⟨Tryz.prog,tab,tyOf,[],addO,dpO,false⟩) ⟨tabOk,trivial,addOk⟩ (by kernel_rfl) 41 Tryz.f21 (.sq (.n) (.sq (.n) (.sq (.sq (.n) (.bk none (.lp ⟨[(12,.one (.d (.sl (.st 4)))),(13,.one (.d (.int .i64))),(14,.one (.d (.int .i64)))],[],[]⟩ (.sq (.n) (.sq (.n) (.sq (.bk none (.sq (.n) (.sq (.n) (.sq (.n) (.bk none (.lp ⟨[(12,.one (.d (.sl (.st 4)))),(13,.one (.d (.int .i64))),(14,.one (.d (.int .i64))),(29,.one (.d (.sl (.st 2)))),(30,.one (.d (.int .i64))),(31,.one (.d (.int .i64)))],[],[]⟩ (.n))))))) (.n))))))) (.n)))) Tryz.func21 Tryz.call21 rfl (by kernel_rfl) (by kernel_rfl) (by kernel_rfl) λn x=>by kernel_rfl
def ref06_Same_l2(n:Nat):Nat→Int×Int×Content×Content×Unit→Option Bool:=loopF λr2 ⟨v11,v12,v13,v14,_⟩=>
 cond (decide (v12<v11))
 ((idx v13.kids v12).bind λx15=>
 (idx v14.kids v12).bind λx16=>
 cond (!(Kid.eqb x15 x16))
 (some false)
 (r2 (v11,(IntKind.wrap .i64 (v12+1)),v13,v14,())))
 (some true)
def ref06_Same_l1(n:Nat):Nat→Int×Int×Content×Content×Unit→Option Bool:=loopF λr1 ⟨v5,v6,v7,v8,_⟩=>
 cond (decide (v6<v5))
 ((idx v7.rows v6).bind λx9=>
 (idx v8.rows v6).bind λx10=>
 cond (!(Row.eqb x9 x10))
 (some false)
 (r1 (v5,(IntKind.wrap .i64 (v6+1)),v7,v8,())))
 (ref06_Same_l2 n n ((v7.kids.length:Int),0,v7,v8,()))
def ref06_Same(n:Nat)(p0:Content)(p1:Content):Option Bool:=
 jn (fun(b1:Bool)=>
 jn (fun(b3:Bool)=>
 cond b3
 (some false)
 (ref06_Same_l1 n n ((p0.rows.length:Int),0,p0,p1,()))) λk4=>
 cond b1
 (k4 true)
 (k4 ((p0.kids.length:Int) !=(p1.kids.length:Int)))) λk2=>
 cond (p0.kind !=p1.kind)
 (k2 true)
 (k2 ((p0.rows.length:Int) !=(p1.rows.length:Int)))
@[reducible] def ref06_Same_ct:Ct tab:=⟨53,[.st 4,.st 4],[],[.one (.d .bool)],[],Bool,λy=>(y,()),λy=>y.1,λ_=>rfl,λn x=>ref06_Same n x.1 x.2.1⟩
theorem ref06_Same_ok:OkC Tryz.prog tab ref06_Same_ct:=fn_ok (W:=⟨Tryz.prog,tab,tyOf,[],addO,dpO,false⟩) ⟨tabOk,trivial,addOk⟩ (by kernel_rfl) 66 Tryz.f53 (.sq (.n) (.sq (.n) (.sq (.sq (.n) (.bk none (.lp ⟨[(2,.one (.box 0 0)),(3,.one (.box 1 0)),(32,.one (.d (.int .i64))),(33,.one (.d (.int .i64)))],[.bst 4,.bst 4],[]⟩ (.n)))) (.sq (.sq (.n) (.bk none (.lp ⟨[(2,.one (.box 0 0)),(3,.one (.box 1 0)),(50,.one (.d (.int .i64))),(51,.one (.d (.int .i64)))],[.bst 4,.bst 4],[]⟩ (.n)))) (.n))))) Tryz.func53 Tryz.call53 rfl (by kernel_rfl) (by kernel_rfl) (by kernel_rfl) λn x=>by kernel_rfl
def ref13_Same_l1(n:Nat):Nat→Int×Forest×Forest×Unit→Option Bool:=loopF λr1 ⟨v1,v2,v3,_⟩=>
 cond (decide (v1<(v2.pages.length:Int)))
 ((idx v2.pages v1).bind λx4=>
 (idx v3.pages v1).bind λx5=>
 (ref06_Same n x4 x5).bind λy6=>
 cond (!y6)
 (some false)
 (r1 ((IntKind.wrap .i64 (v1+1)),v2,v3,())))
 (some true)
def ref13_Same(n:Nat)(p0:Forest)(p1:Forest):Option Bool:=
 cond ((p0.pages.length:Int) !=(p1.pages.length:Int))
 (some false)
 (ref13_Same_l1 n n (0,p0,p1,()))
@[reducible] def ref13_Same_ct:Ct tab:=⟨23,[.st 5,.st 5],[],[.one (.d .bool)],[],Bool,λy=>(y,()),λy=>y.1,λ_=>rfl,λn x=>ref13_Same n x.1 x.2.1⟩
theorem ref13_Same_ok:OkC Tryz.prog tab ref13_Same_ct:=fn_ok (W:=⟨Tryz.prog,tab,tyOf,[ref06_Same_ct],addO,dpO,false⟩) ⟨tabOk,⟨ref06_Same_ok,trivial⟩,addOk⟩ (by kernel_rfl) 32 Tryz.f23 (.sq (.n) (.sq (.n) (.sq (.sq (.n) (.bk none (.lp ⟨[(2,.one (.box 0 0)),(3,.one (.box 1 0)),(5,.one (.d (.int .i64)))],[.bst 5,.bst 5],[]⟩ (.n)))) (.n)))) Tryz.func23 Tryz.call23 rfl (by kernel_rfl) (by kernel_rfl) (by kernel_rfl) λn x=>by kernel_rfl
def ref13_holds(n:Nat)(p0:ref13_Bound)(p1:Key):Option Bool:=
 (ref05_Compare n p1 p0.least).bind λy1=>
 jn (fun(b2:Bool)=>
 some b2) λk3=>
 cond (decide (y1≥0))
 (jn (fun(b4:Bool)=>
 k3 b4) λk5=>
 cond (!p0.ends)
 (k5 true)
 ((ref05_Compare n p1 p0.next).bind λy6=>
 k5 (decide (y6<0))))
 (k3 false)
@[reducible] def ref13_holds_ct:Ct tab:=⟨89,[.st 9,.st 1],[],[.one (.d .bool)],[],Bool,λy=>(y,()),λy=>y.1,λ_=>rfl,λn x=>ref13_holds n x.1 x.2.1⟩
theorem ref13_holds_ok:OkC Tryz.prog tab ref13_holds_ct:=fn_ok (W:=⟨Tryz.prog,tab,tyOf,[ref05_Compare_ct],addO,dpO,false⟩) ⟨tabOk,⟨ref05_Compare_ok,trivial⟩,addOk⟩ (by kernel_rfl) 22 Tryz.f89 (.n) Tryz.func89 Tryz.call89 rfl (by kernel_rfl) (by kernel_rfl) (by kernel_rfl) λn x=>by kernel_rfl
def ref13_below_j2(n:Nat):ref13_Bound×ref13_Bound×Unit→Option ref13_Bound:=fun⟨v7,v8,_⟩=>
 some v7
def ref13_below_j1(n:Nat):Int×ref13_Bound×Content×ref13_Bound×Unit→Option ref13_Bound:=fun⟨v2,v3,v4,v5,_⟩=>
 jn (ref13_below_j2 n) λj2=>
 cond (decide ((IntKind.wrap .i64 (v2+1))<(v4.kids.length:Int)))
 ((idx v4.kids (IntKind.wrap .i64 (v2+1))).bind λx9=>
 j2 ((ref13_Bound.mk v3.least x9.least true),v5,()))
 (j2 (v3,v5,()))
def ref13_below(n:Nat)(p0:ref13_Bound)(p1:Content)(p2:Int):Option ref13_Bound:=
 jn (ref13_below_j1 n) λj1=>
 cond (decide (p2>0))
 ((idx p1.kids p2).bind λx10=>
 j1 (p2,(ref13_Bound.mk x10.least p0.next p0.ends),p1,(ref13_Bound.mk (Key.mk 0 0) (Key.mk 0 0) false),()))
 (j1 (p2,p0,p1,(ref13_Bound.mk (Key.mk 0 0) (Key.mk 0 0) false),()))
@[reducible] def ref13_below_ct:Ct tab:=⟨90,[.st 9,.st 4,.one (.d (.int .i64))],[],[.st 9],[],ref13_Bound,λy=>(y,()),λy=>y.1,λ_=>rfl,λn x=>ref13_below n x.1 x.2.1 x.2.2.1⟩
theorem ref13_below_ok:OkC Tryz.prog tab ref13_below_ct:=fn_ok (W:=⟨Tryz.prog,tab,tyOf,[],addO,dpO,false⟩) ⟨tabOk,trivial,addOk⟩ (by kernel_rfl) 32 Tryz.f90 (.sq (.n) (.sq (.sq (.n) (.cd (some ⟨[(2,.one (.d (.int .i64))),(3,.one (.box 0 0)),(4,.one (.box 1 0)),(6,.one (.box 2 0))],[.bst 9,.bst 4,.bst 9],[]⟩) (.n) (.n))) (.sq (.sq (.n) (.cd (some ⟨[(3,.one (.box 0 0)),(6,.one (.box 1 0))],[.bst 9,.bst 9],[]⟩) (.n) (.n))) (.n)))) Tryz.func90 Tryz.call90 rfl (by kernel_rfl) (by kernel_rfl) (by kernel_rfl) λn x=>by kernel_rfl
def ref13_Pages_l2(n:Nat)(self:Forest×Int×ref13_Bound×Int×Unit→Option ((List Int))):Nat→Int×Int×Forest×ref13_Bound×Content×(List Int)×Unit→Option ((List Int)):=loopF λr2 ⟨v14,v15,v16,v17,v18,v19,_⟩=>
 cond (decide (v15<(v18.kids.length:Int)))
 (jn (fun(b20:Bool)=>
 cond b20
 (some ([]:List Int))
 ((idx v18.kids v15).bind λx22=>
 (ref13_below n v17 v18 v15).bind λy23=>
 (self (v16,x22.page,y23,(IntKind.wrap .i64 (v14-1)),())).bind λy24=>
 cond ((y24.length:Int)==0)
 (some ([]:List Int))
 ((app 8 v19 y24).bind λl25=>
 r2 (v14,(IntKind.wrap .i64 (v15+1)),v16,v17,v18,l25,())))) λk21=>
 cond (decide (v15>0))
 ((idx v18.kids v15).bind λx26=>
 (ref13_holds n v17 x26.least).bind λy27=>
 k21 (!y27))
 (k21 false))
 (some v19)
def ref13_Pages_l1(n:Nat)(self:Forest×Int×ref13_Bound×Int×Unit→Option ((List Int))):Nat→Int×Int×Forest×ref13_Bound×Content×(List Int)×Unit→Option ((List Int)):=loopF λr1 ⟨v6,v7,v8,v9,v10,v11,_⟩=>
 cond (decide (v7<(v10.rows.length:Int)))
 ((idx v10.rows v7).bind λx12=>
 (ref13_holds n v9 x12.key).bind λy13=>
 cond (!y13)
 (some ([]:List Int))
 (r1 (v6,(IntKind.wrap .i64 (v7+1)),v8,v9,v10,v11,())))
 (ref13_Pages_l2 n self n (v6,0,v8,v9,v10,v11,()))
def ref13_Pages_b(n:Nat)(self:Forest×Int×ref13_Bound×Int×Unit→Option ((List Int)))(p0:Forest)(p1:Int)(p2:ref13_Bound)(p3:Int):Option ((List Int)):=
 (idx p0.pages p1).bind λx1=>
 jn (fun(b2:Bool)=>
 jn (fun(b4:Bool)=>
 cond b4
 (some ([]:List Int))
 (ref13_Pages_l1 n self n (p3,0,p0,p2,x1,([p1]:List Int),()))) λk5=>
 cond b2
 (k5 true)
 (jn (fun(b28:Bool)=>
 k5 b28) λk29=>
 cond (p1 !=0)
 ((ref11_Size n x1).bind λy30=>
 k29 (decide (y30<2)))
 (k29 false))) λk3=>
 cond (x1.kind==0)
 (k3 true)
 (k3 (p3==0))
def ref13_Pages(n:Nat)(p0:Forest)(p1:Int)(p2:ref13_Bound)(p3:Int):Option ((List Int)):=recF (λn self x=>ref13_Pages_b n self x.1 x.2.1 x.2.2.1 x.2.2.2.1) n (p0,p1,p2,p3,())
@[reducible] def ref13_Pages_ct:Ct tab:=⟨56,[.st 5,.one (.d (.int .i64)),.st 9,.one (.d (.int .i64))],[],[.one (.own 0)],[(none,.row 3 (.int .i64))],((List Int)),λy=>(y,()),λy=>y.1,λ_=>rfl,λn x=>ref13_Pages n x.1 x.2.1 x.2.2.1 x.2.2.2.1⟩
theorem ref13_Pages_ok:OkC Tryz.prog tab ref13_Pages_ct:=fn_rec (W:=⟨Tryz.prog,tab,tyOf,[ref13_holds_ct,ref13_below_ct,ref11_Size_ct],addO,dpO,false⟩) ⟨tabOk,⟨ref13_holds_ok,ref13_below_ok,ref11_Size_ok,trivial⟩,addOk⟩ (by kernel_rfl) 94 Tryz.f56 (.sq (.n) (.sq (.n) (.sq (.n) (.sq (.n) (.sq (.sq (.n) (.bk none (.lp ⟨[(3,.one (.d (.int .i64))),(4,.one (.box 0 0)),(6,.one (.box 1 0)),(9,.one (.box 2 0)),(10,.one (.own 3)),(11,.one (.d (.int .i64)))],[.bst 5,.bst 9,.bst 4,.row 3 (.int .i64)],[]⟩ (.n)))) (.sq (.sq (.n) (.bk none (.lp ⟨[(3,.one (.d (.int .i64))),(4,.one (.box 0 0)),(6,.one (.box 1 0)),(9,.one (.box 2 0)),(10,.one (.own 3)),(12,.one (.d (.int .i64)))],[.bst 5,.bst 9,.bst 4,.row 3 (.int .i64)],[]⟩ (.n)))) (.n))))))) Tryz.func56 Tryz.call56 rfl (by kernel_rfl) (by kernel_rfl) (by kernel_rfl) (λn self x=>ref13_Pages_b n self x.1 x.2.1 x.2.2.1 x.2.2.2.1) (λ_=>rfl) (λ_ _=>rfl) λself n x=>by kernel_rfl
end
end Go.Proofs.YtlcmdgpjiendmaaGreat
