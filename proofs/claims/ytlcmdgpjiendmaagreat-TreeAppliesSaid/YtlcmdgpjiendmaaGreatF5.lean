import Derived.Test.YtlcmdgpjiendmaaGreatTypes
import Derived.Test.YtlcmdgpjiendmaaGreatF4
namespace Go.Proofs.YtlcmdgpjiendmaaGreat
open Go Go.Bur Go.RowKit
set_option linter.unusedVariables false
set_option linter.unusedSimpArgs false
set_option maxRecDepth 100000
noncomputable section
def ref13_SameSheets_l1(n:Nat):Nat→(List Sheet)×(List Sheet)×Int×Unit→Option Bool:=loopF λr1 ⟨v1,v2,v3,_⟩=>
 cond (decide (v3<(v1.length:Int)))
 ((idx v1 v3).bind λx4=>
 (idx v2 v3).bind λx5=>
 jn (fun(b6:Bool)=>
 cond b6
 (some false)
 (r1 (v1,v2,(IntKind.wrap .i64 (v3+1)),()))) λk7=>
 cond (x4.page !=x5.page)
 (k7 true)
 ((idx v1 v3).bind λx8=>
 (idx v2 v3).bind λx9=>
 (ref06_Same n x8.content x9.content).bind λy10=>
 k7 (!y10)))
 (some true)
def ref13_SameSheets(n:Nat)(p0:List Sheet)(p1:List Sheet):Option Bool:=
 cond ((p0.length:Int) !=(p1.length:Int))
 (some false)
 (ref13_SameSheets_l1 n n (p0,p1,0,()))
@[reducible] def ref13_SameSheets_ct:Ct tab:=⟨40,[.one (.d (.sl (.st 6))),.one (.d (.sl (.st 6)))],[],[.one (.d .bool)],[],Bool,λy=>(y,()),λy=>y.1,λ_=>rfl,λn x=>ref13_SameSheets n x.1 x.2.1⟩
theorem ref13_SameSheets_ok:OkC Tryz.prog tab ref13_SameSheets_ct:=fn_ok (W:=⟨Tryz.prog,tab,tyOf,[ref06_Same_ct],addO,dpO,false⟩) ⟨tabOk,⟨ref06_Same_ok,trivial⟩,addOk⟩ (by kernel_rfl) 42 Tryz.f40 (.sq (.n) (.sq (.n) (.sq (.sq (.n) (.bk none (.lp ⟨[(0,.one (.d (.sl (.st 6)))),(1,.one (.d (.sl (.st 6)))),(5,.one (.d (.int .i64)))],[],[]⟩ (.n)))) (.n)))) Tryz.func40 Tryz.call40 rfl (by kernel_rfl) (by kernel_rfl) (by kernel_rfl) λn x=>by kernel_rfl
def law13_large_l2(n:Nat)(r1:(List Group)×Int×Int×Unit→Option Bool):Nat→(List Group)×Int×Int×(List Sheet)×Int×Int×Unit→Option Bool:=loopF λr2 ⟨v5,v6,v7,v8,v9,v10,_⟩=>
 cond (decide (v10<v9))
 ((idx v8 v10).bind λx11=>
 (law13_over n (Forest.mk ([x11.content]:List Content))).bind λy12=>
 cond y12
 (some true)
 (r2 (v5,v6,v7,v8,v9,(IntKind.wrap .i64 (v10+1)),())))
 (r1 (v5,v6,(IntKind.wrap .i64 (v7+1)),()))
def law13_large_l1(n:Nat):Nat→(List Group)×Int×Int×Unit→Option Bool:=loopF λr1 ⟨v1,v2,v3,_⟩=>
 cond (decide (v3<v2))
 ((idx v1 v3).bind λx4=>
 cond (decide ((x4.sheets.length:Int)>70))
 (some true)
 (law13_large_l2 n r1 n (v1,v2,v3,x4.sheets,(x4.sheets.length:Int),0,())))
 (some false)
def law13_large(n:Nat)(p0:List Group):Option Bool:=
 cond (decide ((p0.length:Int)>20))
 (some true)
 (law13_large_l1 n n (p0,(p0.length:Int),0,()))
@[reducible] def law13_large_ct:Ct tab:=⟨38,[.one (.d (.sl (.st 7)))],[],[.one (.d .bool)],[],Bool,λy=>(y,()),λy=>y.1,λ_=>rfl,λn x=>law13_large n x.1⟩
theorem law13_large_ok:OkC Tryz.prog tab law13_large_ct:=fn_ok (W:=⟨Tryz.prog,tab,tyOf,[law13_over_ct],addO,dpO,false⟩) ⟨tabOk,⟨law13_over_ok,trivial⟩,addOk⟩ (by kernel_rfl) 34 Tryz.f38 (.sq (.n) (.sq (.n) (.sq (.sq (.n) (.bk none (.lp ⟨[(10,.one (.d (.sl (.st 7)))),(11,.one (.d (.int .i64))),(12,.one (.d (.int .i64)))],[],[]⟩ (.sq (.n) (.sq (.n) (.sq (.bk none (.sq (.n) (.sq (.n) (.sq (.n) (.bk none (.lp ⟨[(10,.one (.d (.sl (.st 7)))),(11,.one (.d (.int .i64))),(12,.one (.d (.int .i64))),(21,.one (.d (.sl (.st 6)))),(22,.one (.d (.int .i64))),(23,.one (.d (.int .i64)))],[],[]⟩ (.n))))))) (.n))))))) (.n)))) Tryz.func38 Tryz.call38 rfl (by kernel_rfl) (by kernel_rfl) (by kernel_rfl) λn x=>by kernel_rfl
def slices_Sort_int(n:Nat)(q0:List Int):Option (List Int):=match Nat.ble q0.length 4611686018427387903 with|true=>some (sortZ q0)|false=>none
@[reducible] def slices_Sort_int_ct:Ct tab:=srtCt tab 75 3
theorem slices_Sort_int_ok:OkC Tryz.prog tab slices_Sort_int_ct:=srt_ok Tryz.call75 ⟨λblk cap zs w hH hblk hlen=>Go.Proofs.AnyM.slices_Sort_int Tryz.sl75 blk 0 cap zs w hH hblk hlen,λp cap w=>Go.Proofs.AnyM.slices_Sort_int_none Tryz.sl75 p cap w⟩
def tree_Net_j3(n:Nat)(r2:(List Group)×Int×Int×(List Sheet)×Int×Int×(List (Int×Content))×(List Int)×Unit→Option ((List Sheet))):(List Group)×Int×Int×(List Sheet)×Int×Int×(List (Int×Content))×(List Int)×Sheet×Unit→Option ((List Sheet)):=fun⟨v18,v19,v20,v21,v22,v23,v24,v25,v26,_⟩=>
 (some (dput (dkEq tab (.int .i64)) v24 v26.page v26.content)).bind λl27=>
 r2 (v18,v19,v20,v21,v22,(IntKind.wrap .i64 (v23+1)),l27,v25,())
def tree_Net_l2(n:Nat)(r1:(List Group)×Int×Int×(List (Int×Content))×(List Int)×Unit→Option ((List Sheet))):Nat→(List Group)×Int×Int×(List Sheet)×Int×Int×(List (Int×Content))×(List Int)×Unit→Option ((List Sheet)):=loopF λr2 ⟨v7,v8,v9,v10,v11,v12,v13,v14,_⟩=>
 cond (decide (v12<v11))
 ((idx v10 v12).bind λx15=>
 (some (orZ (Content.mk 0 ([]:List Row) ([]:List Kid)) (dget (dkEq tab (.int .i64)) v13 x15.page))).bind λw16=>
 jn (tree_Net_j3 n r2) λj3=>
 cond (!(someB (dget (dkEq tab (.int .i64)) v13 x15.page)))
 ((app 8 v14 ([x15.page]:List Int)).bind λl28=>
 j3 (v7,v8,v9,v10,v11,v12,v13,l28,x15,()))
 (j3 (v7,v8,v9,v10,v11,v12,v13,v14,x15,())))
 (r1 (v7,v8,(IntKind.wrap .i64 (v9+1)),v13,v14,()))
def tree_Net_l4(n:Nat):Nat→Int×Int×(List (Int×Content))×(List Sheet)×(List Int)×Unit→Option ((List Sheet)):=loopF λr4 ⟨v30,v31,v32,v33,v34,_⟩=>
 cond (decide (v31<v30))
 ((idx v34 v31).bind λx35=>
 (idx v34 v31).bind λx36=>
 (some (orZ (Content.mk 0 ([]:List Row) ([]:List Kid)) (dget (dkEq tab (.int .i64)) v32 x36))).bind λw37=>
 (app 64 v33 ([(Sheet.mk x36 w37)]:List Sheet)).bind λl38=>
 r4 (v30,(IntKind.wrap .i64 (v31+1)),v32,l38,v34,()))
 (some v33)
def tree_Net_l1(n:Nat):Nat→(List Group)×Int×Int×(List (Int×Content))×(List Int)×Unit→Option ((List Sheet)):=loopF λr1 ⟨v1,v2,v3,v4,v5,_⟩=>
 cond (decide (v3<v2))
 ((idx v1 v3).bind λx6=>
 tree_Net_l2 n r1 n (v1,v2,v3,x6.sheets,(x6.sheets.length:Int),0,v4,v5,()))
 ((slices_Sort_int n v5).bind λy29=>
 tree_Net_l4 n n ((y29.length:Int),0,v4,([]:List Sheet),y29,()))
def tree_Net(n:Nat)(p0:List Group):Option ((List Sheet)):=
 tree_Net_l1 n n (p0,(p0.length:Int),0,([]:List (Int×Content)),([]:List Int),())
@[reducible] def tree_Net_ct:Ct tab:=⟨41,[.one (.d (.sl (.st 7)))],[],[.one (.own 0)],[(none,.row 76 (.st 6))],((List Sheet)),λy=>(y,()),λy=>y.1,λ_=>rfl,λn x=>tree_Net n x.1⟩
theorem tree_Net_ok:OkC Tryz.prog tab tree_Net_ct:=fn_ok (W:=⟨Tryz.prog,tab,tyOf,[slices_Sort_int_ct],addO,dpO,false⟩) ⟨tabOk,⟨slices_Sort_int_ok,trivial⟩,addOk⟩ (by kernel_rfl) 67 Tryz.f41 (.sq (.n) (.sq (.n) (.sq (.n) (.sq (.sq (.n) (.bk none (.lp ⟨[(3,.one (.map 0)),(4,.one (.own 1)),(15,.one (.d (.sl (.st 7)))),(16,.one (.d (.int .i64))),(17,.one (.d (.int .i64)))],[.dmap 3 47 (.int .i64) (.st 4),.row 3 (.int .i64)],[]⟩ (.sq (.n) (.sq (.n) (.sq (.bk none (.sq (.n) (.sq (.n) (.bk none (.lp ⟨[(3,.one (.map 0)),(4,.one (.own 1)),(15,.one (.d (.sl (.st 7)))),(16,.one (.d (.int .i64))),(17,.one (.d (.int .i64))),(22,.one (.d (.sl (.st 6)))),(23,.one (.d (.int .i64))),(24,.one (.d (.int .i64)))],[.dmap 3 47 (.int .i64) (.st 4),.row 3 (.int .i64)],[]⟩ (.sq (.n) (.sq (.n) (.sq (.bk none (.sq (.n) (.sq (.sq (.n) (.sq (.n) (.cd (some ⟨[(3,.one (.map 0)),(4,.one (.own 1)),(8,.one (.box 2 0)),(15,.one (.d (.sl (.st 7)))),(16,.one (.d (.int .i64))),(17,.one (.d (.int .i64))),(22,.one (.d (.sl (.st 6)))),(23,.one (.d (.int .i64))),(24,.one (.d (.int .i64)))],[.dmap 3 47 (.int .i64) (.st 4),.row 3 (.int .i64),.bst 6],[]⟩) (.n) (.n)))) (.n)))) (.n))))))))) (.n))))))) (.sq (.n) (.sq (.n) (.sq (.sq (.n) (.bk none (.lp ⟨[(3,.one (.map 0)),(11,.one (.own 1)),(51,.one (.own 2)),(52,.one (.d (.int .i64))),(53,.one (.d (.int .i64)))],[.dmap 3 47 (.int .i64) (.st 4),.row 76 (.st 6),.row 3 (.int .i64)],[]⟩ (.n)))) (.n)))))))) Tryz.func41 Tryz.call41 rfl (by kernel_rfl) (by kernel_rfl) (by kernel_rfl) λn x=>by kernel_rfl
def law13_TreeApplies_j3(n:Nat)(r1:Int×Bool×(List Group)×Int×Int×Forest×Forest×Unit→Option Bool):Int×Bool×(List Group)×Int×Int×Forest×Forest×Unit→Option Bool:=fun⟨v34,v35,v36,v37,v38,v39,v40,_⟩=>
 r1 (v34,v35,v36,v37,(IntKind.wrap .i64 (v38+1)),v39,v40,())
def law13_TreeApplies_l2(n:Nat)(r1:Int×Bool×(List Group)×Int×Int×Forest×Forest×Unit→Option Bool):Nat→Int×Bool×(List Group)×Int×Int×(List Sheet)×Int×Int×Forest×Forest×Group×Unit→Option Bool:=loopF λr2 ⟨v16,v17,v18,v19,v20,v21,v22,v23,v24,v25,v26,_⟩=>
 cond (decide (v23<v22))
 ((idx v21 v23).bind λx27=>
 jn (fun(b28:Bool)=>
 jn (fun(b30:Bool)=>
 r2 (v16,b30,v18,v19,v20,v21,v22,(IntKind.wrap .i64 (v23+1)),v24,v25,v26,())) λk31=>
 cond b28
 (k31 (decide (x27.page<64)))
 (k31 false)) λk29=>
 cond v17
 (k29 (decide (x27.page≥0)))
 (k29 false))
 (jn (law13_TreeApplies_j3 n r1) λj3=>
 cond v17
 ((ref13_With n v25 v26.sheets).bind λy41=>
 (ref13_Right n y41).bind λy42=>
 j3 (v16,y42,v18,v19,v20,v24,y41,()))
 (j3 (v16,v17,v18,v19,v20,v24,v25,())))
def law13_TreeApplies_l1(n:Nat):Nat→Int×Bool×(List Group)×Int×Int×Forest×Forest×Unit→Option Bool:=loopF λr1 ⟨v8,v9,v10,v11,v12,v13,v14,_⟩=>
 cond (decide (v12<v11))
 ((idx v10 v12).bind λx15=>
 law13_TreeApplies_l2 n r1 n (v8,v9,v10,v11,v12,x15.sheets,(x15.sheets.length:Int),0,v13,v14,x15,()))
 (cond (!v9)
 (jn (fun(b43:Bool)=>
 some b43) λk44=>
 cond ((v13.pages.length:Int)==0)
 (k44 (v8==2))
 (k44 false))
 (jn (fun(b45:Bool)=>
 some b45) λk46=>
 cond (v8==0)
 ((ref13_Same n v13 v14).bind λy47=>
 k46 y47)
 (k46 false)))
def law13_TreeApplies(n:Nat)(p0:law13_Build)(p1:List Group):Option Bool:=
 (law13_wakes n).bind λy1=>
 cond (!y1)
 (some false)
 ((law13_large n p1).bind λy2=>
 cond y2
 (some true)
 ((law13_Build_built n p0).bind λy3=>
 (tree_Apply n y3 p1).bind λy4=>
 (tree_Net n p1).bind λy5=>
 (ref13_Net n p1).bind λy6=>
 (ref13_SameSheets n y5 y6).bind λy7=>
 cond (!y7)
 (some false)
 (law13_TreeApplies_l1 n n (y4.2,true,p1,(p1.length:Int),0,y4.1,y3,()))))
@[reducible] def law13_TreeApplies_ct:Ct tab:=⟨9,[.st 0,.one (.d (.sl (.st 7)))],[],[.one (.d .bool)],[],Bool,λy=>(y,()),λy=>y.1,λ_=>rfl,λn x=>law13_TreeApplies n x.1 x.2.1⟩
theorem law13_TreeApplies_ok:OkC Tryz.prog tab law13_TreeApplies_ct:=fn_ok (W:=⟨Tryz.prog,tab,tyOf,[law13_wakes_ct,law13_large_ct,law13_Build_built_ct,tree_Apply_ct,tree_Net_ct,ref13_Net_ct,ref13_SameSheets_ct,ref13_With_ct,ref13_Right_ct,ref13_Same_ct],addO,dpO,false⟩) ⟨tabOk,⟨law13_wakes_ok,law13_large_ok,law13_Build_built_ok,tree_Apply_ok,tree_Net_ok,ref13_Net_ok,ref13_SameSheets_ok,ref13_With_ok,ref13_Right_ok,ref13_Same_ok,trivial⟩,addOk⟩ (by kernel_rfl) 83 Tryz.f9 (.sq (.n) (.sq (.n) (.sq (.n) (.sq (.n) (.sq (.n) (.sq (.n) (.sq (.n) (.sq (.sq (.n) (.bk none (.lp ⟨[(6,.one (.box 0 0)),(7,.one (.d (.int .i64))),(8,.one (.box 1 0)),(9,.one (.d .bool)),(33,.one (.d (.sl (.st 7)))),(34,.one (.d (.int .i64))),(35,.one (.d (.int .i64)))],[.bst 5,.bst 5],[]⟩ (.sq (.n) (.sq (.n) (.sq (.bk none (.sq (.n) (.sq (.sq (.n) (.bk none (.lp ⟨[(6,.one (.box 0 0)),(7,.one (.d (.int .i64))),(8,.one (.box 1 0)),(9,.one (.d .bool)),(11,.one (.box 2 0)),(33,.one (.d (.sl (.st 7)))),(34,.one (.d (.int .i64))),(35,.one (.d (.int .i64))),(40,.one (.d (.sl (.st 6)))),(41,.one (.d (.int .i64))),(42,.one (.d (.int .i64)))],[.bst 5,.bst 5,.bst 7],[]⟩ (.n)))) (.sq (.n) (.cd (some ⟨[(6,.one (.box 0 0)),(7,.one (.d (.int .i64))),(8,.one (.box 1 0)),(9,.one (.d .bool)),(33,.one (.d (.sl (.st 7)))),(34,.one (.d (.int .i64))),(35,.one (.d (.int .i64)))],[.bst 5,.bst 5],[]⟩) (.n) (.n)))))) (.n))))))) (.n))))))))) Tryz.func9 Tryz.call9 rfl (by kernel_rfl) (by kernel_rfl) (by kernel_rfl) λn x=>by kernel_rfl
end
end Go.Proofs.YtlcmdgpjiendmaaGreat
