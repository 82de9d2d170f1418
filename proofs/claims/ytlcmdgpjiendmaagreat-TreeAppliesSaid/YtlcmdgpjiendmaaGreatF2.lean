import Derived.Test.YtlcmdgpjiendmaaGreatTypes
import Derived.Test.YtlcmdgpjiendmaaGreatF1
namespace Go.Proofs.YtlcmdgpjiendmaaGreat
open Go Go.Bur Go.RowKit
set_option linter.unusedVariables false
set_option linter.unusedSimpArgs false
set_option maxRecDepth 100000
noncomputable section
def page_Put_j1(n:Nat):Content×(List Row)×Unit→Option (Content×Int):=fun⟨v14,v15,_⟩=>
 (page_leaf n v15).bind λy16=>
 (page_one n y16).bind λy17=>
 some (y17.1,y17.2)
def page_Put_j2(n:Nat)(j1:Content×(List Row)×Unit→Option (Content×Int)):Int×Row×Content×(List Row)×Unit→Option (Content×Int):=fun⟨v22,v23,v24,v25,_⟩=>
 (slices_Insert_Row n v22 v25 ([v23]:List Row)).bind λy26=>
 j1 (v24,y26,())
def page_Put(n:Nat)(p0:Content)(p1:Row):Option (Content×Int):=
 (page_asked n 1 ([p0]:List Content)).bind λy1=>
 cond (y1 !=0)
 (some ((Content.mk 0 ([]:List Row) ([]:List Kid)),y1))
 ((codec_CheckRow n p1).bind λy2=>
 cond (y2 !=0)
 (some ((Content.mk 0 ([]:List Row) ([]:List Kid)),y2))
 ((slices_Clone_Row n p0.rows).bind λy3=>
 (row_Find n y3 p1.key).bind λy4=>
 jn (page_Put_j1 n) λj1=>
 cond y4.2
 ((idx y3 y4.1).bind λx18=>
 (put y3 y4.1 p1).bind λl19=>
 j1 ((Content.mk 0 ([]:List Row) ([]:List Kid)),l19,()))
 ((page_full n p0).bind λy20=>
 cond y20
 (some ((Content.mk 0 ([]:List Row) ([]:List Kid)),6))
 ((slices_IndexFunc_Row_f103 n y3 p1).bind λy21=>
 jn (page_Put_j2 n j1) λj2=>
 cond (decide (y21<0))
 (j2 ((y3.length:Int),p1,(Content.mk 0 ([]:List Row) ([]:List Kid)),y3,()))
 (j2 (y21,p1,(Content.mk 0 ([]:List Row) ([]:List Kid)),y3,()))))))
@[reducible] def page_Put_ct:Ct tab:=⟨65,[.st 4,.st 2],[],[.st 4,.one (.d (.int .i64))],[],(Content×Int),λy=>(y.1,y.2,()),λy=>(y.1,y.2.1),λ_=>rfl,λn x=>page_Put n x.1 x.2.1⟩
theorem page_Put_ok:OkC Tryz.prog tab page_Put_ct:=fn_ok (W:=⟨Tryz.prog,tab,tyOf,[page_asked_ct,codec_CheckRow_ct,slices_Clone_Row_ct,row_Find_ct,page_leaf_ct,page_one_ct,page_full_ct,slices_IndexFunc_Row_f103_ct,slices_Insert_Row_ct],addO,dpO,false⟩) ⟨tabOk,⟨page_asked_ok,codec_CheckRow_ok,slices_Clone_Row_ok,row_Find_ok,page_leaf_ok,page_one_ok,page_full_ok,slices_IndexFunc_Row_f103_ok,slices_Insert_Row_ok,trivial⟩,addOk⟩ (by kernel_rfl) 63 Tryz.f65 (.sq (.n) (.sq (.n) (.sq (.n) (.sq (.n) (.sq (.n) (.sq (.bk none (.sq (.n) (.cd (some ⟨[(4,.one (.box 0 0)),(8,.one (.own 1))],[.bst 4,.row 40 (.st 2)],[]⟩) (.n) (.sq (.n) (.cd none (.n) (.sq (.n) (.sq (.sq (.n) (.sq (.n) (.cd (some ⟨[(3,.one (.box 0 0)),(4,.one (.box 1 0)),(8,.one (.own 2)),(9,.one (.d (.int .i64)))],[.bst 2,.bst 4,.row 40 (.st 2)],[]⟩) (.n) (.n)))) (.n)))))))) (.n))))))) Tryz.func65 Tryz.call65 rfl (by kernel_rfl) (by kernel_rfl) (by kernel_rfl) λn x=>by kernel_rfl
def tree_change_parted(n:Nat)(q1:List Content)(q2:List Group):Option (Bool×(List Content)×(List Group)):=
 (idx q1 0).bind λx1=>
 (idx q1 0).bind λx2=>
 (page_Split n x2).bind λy3=>
 (tree_change_free n (tree_change.mk (Forest.mk q1) q2) ([]:List Int)).bind λy4=>
 (tree_change_free n (tree_change.mk (Forest.mk q1) q2) ([y4.1]:List Int)).bind λy5=>
 jn (fun(b6:Bool)=>
 cond b6
 (some (false,q1,q2))
 ((tree_change_group n q1 q2 ([(Sheet.mk 0 (Content.mk 2 ([]:List Row) ([(Kid.mk (Key.mk 0 0) y4.1),(Kid.mk y3.2.2.1 y5.1)]:List Kid))),(Sheet.mk y4.1 y3.1),(Sheet.mk y5.1 y3.2.1)]:List Sheet)).bind λy8=>
 some (true,y8.1,y8.2))) λk7=>
 cond (!y4.2)
 (k7 true)
 (k7 (!y5.2))
@[reducible] def tree_change_parted_ct:Ct tab:=⟨61,[.one (.box 0 0)],[.box [.own 1,.own 2],.row 47 (.st 4),.row 74 (.st 7)],[.one (.d .bool)],[(some 0,.box [.own 1,.own 2]),(none,.row 47 (.st 4)),(none,.row 74 (.st 7))],(Bool×(List Content)×(List Group)),λy=>(y.1,y.2.1,y.2.2,()),λy=>(y.1,y.2.1,y.2.2.1),λ_=>rfl,λn x=>tree_change_parted n x.1 x.2.1⟩
theorem tree_change_parted_ok:OkC Tryz.prog tab tree_change_parted_ct:=fn_ok (W:=⟨Tryz.prog,tab,tyOf,[page_Split_ct,tree_change_free_ct,tree_change_group_ct],addO,dpO,false⟩) ⟨tabOk,⟨page_Split_ok,tree_change_free_ok,tree_change_group_ok,trivial⟩,addOk⟩ (by kernel_rfl) 61 Tryz.f61 (.n) Tryz.func61 Tryz.call61 rfl (by kernel_rfl) (by kernel_rfl) (by kernel_rfl) λn x=>by kernel_rfl
def tree_Put_l1(n:Nat):Nat→Int×Int×Row×(List Content)×(List Group)×Unit→Option (Int×(List Group)):=loopF λr1 ⟨v9,v10,v11,v12,v13,_⟩=>
 (idx v12 v9).bind λx14=>
 (idx v12 v9).bind λx15=>
 cond (x15.kind==2)
 ((idx v12 v9).bind λx16=>
 (idx v12 v9).bind λx17=>
 (page_Kid n x17 v11.key).bind λy18=>
 cond (v10==4)
 ((idx v12 v9).bind λx19=>
 (idx v12 v9).bind λx20=>
 (idx x20.kids y18.1).bind λx21=>
 (idx v12 x21.page).bind λx22=>
 (idx v12 x21.page).bind λx23=>
 (page_Full n x23).bind λy24=>
 cond y24
 ((tree_change_split n v9 y18.1 v12 v13).bind λy25=>
 cond (!y25.1)
 (some (6,([]:List Group)))
 ((tree_change_down n (tree_change.mk (Forest.mk y25.2.1) y25.2.2) v9 v11.key).bind λy26=>
 r1 (y26,v10,v11,y25.2.1,y25.2.2,())))
 (cond false
 (some (6,([]:List Group)))
 ((tree_change_down n (tree_change.mk (Forest.mk v12) v13) v9 v11.key).bind λy27=>
 r1 (y27,v10,v11,v12,v13,()))))
 (cond false
 ((tree_change_split n v9 y18.1 v12 v13).bind λy28=>
 cond (!y28.1)
 (some (6,([]:List Group)))
 ((tree_change_down n (tree_change.mk (Forest.mk y28.2.1) y28.2.2) v9 v11.key).bind λy29=>
 r1 (y29,v10,v11,y28.2.1,y28.2.2,())))
 (cond false
 (some (6,([]:List Group)))
 ((tree_change_down n (tree_change.mk (Forest.mk v12) v13) v9 v11.key).bind λy30=>
 r1 (y30,v10,v11,v12,v13,())))))
 ((idx v12 v9).bind λx31=>
 (idx v12 v9).bind λx32=>
 (page_Put n x32 v11).bind λy33=>
 (tree_change_group n v12 v13 ([(Sheet.mk v9 y33.1)]:List Sheet)).bind λy34=>
 some (0,y34.2))
def tree_Put_l2(n:Nat):Nat→Int×Int×Row×(List Content)×(List Group)×Unit→Option (Int×(List Group)):=loopF λr2 ⟨v35,v36,v37,v38,v39,_⟩=>
 (idx v38 v35).bind λx40=>
 (idx v38 v35).bind λx41=>
 cond (x41.kind==2)
 ((idx v38 v35).bind λx42=>
 (idx v38 v35).bind λx43=>
 (page_Kid n x43 v37.key).bind λy44=>
 cond (v36==4)
 ((idx v38 v35).bind λx45=>
 (idx v38 v35).bind λx46=>
 (idx x46.kids y44.1).bind λx47=>
 (idx v38 x47.page).bind λx48=>
 (idx v38 x47.page).bind λx49=>
 (page_Full n x49).bind λy50=>
 cond y50
 ((tree_change_split n v35 y44.1 v38 v39).bind λy51=>
 cond (!y51.1)
 (some (6,([]:List Group)))
 ((tree_change_down n (tree_change.mk (Forest.mk y51.2.1) y51.2.2) v35 v37.key).bind λy52=>
 r2 (y52,v36,v37,y51.2.1,y51.2.2,())))
 (cond false
 (some (6,([]:List Group)))
 ((tree_change_down n (tree_change.mk (Forest.mk v38) v39) v35 v37.key).bind λy53=>
 r2 (y53,v36,v37,v38,v39,()))))
 (cond false
 ((tree_change_split n v35 y44.1 v38 v39).bind λy54=>
 cond (!y54.1)
 (some (6,([]:List Group)))
 ((tree_change_down n (tree_change.mk (Forest.mk y54.2.1) y54.2.2) v35 v37.key).bind λy55=>
 r2 (y55,v36,v37,y54.2.1,y54.2.2,())))
 (cond false
 (some (6,([]:List Group)))
 ((tree_change_down n (tree_change.mk (Forest.mk v38) v39) v35 v37.key).bind λy56=>
 r2 (y56,v36,v37,v38,v39,())))))
 ((idx v38 v35).bind λx57=>
 (idx v38 v35).bind λx58=>
 (page_Put n x58 v37).bind λy59=>
 (tree_change_group n v38 v39 ([(Sheet.mk v35 y59.1)]:List Sheet)).bind λy60=>
 some (0,y60.2))
def tree_Put_l3(n:Nat):Nat→Int×Int×Row×(List Content)×(List Group)×Unit→Option (Int×(List Group)):=loopF λr3 ⟨v62,v63,v64,v65,v66,_⟩=>
 (idx v65 v62).bind λx67=>
 (idx v65 v62).bind λx68=>
 cond (x68.kind==2)
 ((idx v65 v62).bind λx69=>
 (idx v65 v62).bind λx70=>
 (page_Kid n x70 v64.key).bind λy71=>
 cond (v63==4)
 ((idx v65 v62).bind λx72=>
 (idx v65 v62).bind λx73=>
 (idx x73.kids y71.1).bind λx74=>
 (idx v65 x74.page).bind λx75=>
 (idx v65 x74.page).bind λx76=>
 (page_Full n x76).bind λy77=>
 cond y77
 ((tree_change_split n v62 y71.1 v65 v66).bind λy78=>
 cond (!y78.1)
 (some (6,([]:List Group)))
 ((tree_change_down n (tree_change.mk (Forest.mk y78.2.1) y78.2.2) v62 v64.key).bind λy79=>
 r3 (y79,v63,v64,y78.2.1,y78.2.2,())))
 (cond false
 (some (6,([]:List Group)))
 ((tree_change_down n (tree_change.mk (Forest.mk v65) v66) v62 v64.key).bind λy80=>
 r3 (y80,v63,v64,v65,v66,()))))
 (cond false
 ((tree_change_split n v62 y71.1 v65 v66).bind λy81=>
 cond (!y81.1)
 (some (6,([]:List Group)))
 ((tree_change_down n (tree_change.mk (Forest.mk y81.2.1) y81.2.2) v62 v64.key).bind λy82=>
 r3 (y82,v63,v64,y81.2.1,y81.2.2,())))
 (cond false
 (some (6,([]:List Group)))
 ((tree_change_down n (tree_change.mk (Forest.mk v65) v66) v62 v64.key).bind λy83=>
 r3 (y83,v63,v64,v65,v66,())))))
 ((idx v65 v62).bind λx84=>
 (idx v65 v62).bind λx85=>
 (page_Put n x85 v64).bind λy86=>
 (tree_change_group n v65 v66 ([(Sheet.mk v62 y86.1)]:List Sheet)).bind λy87=>
 some (0,y87.2))
def tree_Put_l4(n:Nat):Nat→Int×Int×Row×(List Content)×(List Group)×Unit→Option (Int×(List Group)):=loopF λr4 ⟨v88,v89,v90,v91,v92,_⟩=>
 (idx v91 v88).bind λx93=>
 (idx v91 v88).bind λx94=>
 cond (x94.kind==2)
 ((idx v91 v88).bind λx95=>
 (idx v91 v88).bind λx96=>
 (page_Kid n x96 v90.key).bind λy97=>
 cond (v89==4)
 ((idx v91 v88).bind λx98=>
 (idx v91 v88).bind λx99=>
 (idx x99.kids y97.1).bind λx100=>
 (idx v91 x100.page).bind λx101=>
 (idx v91 x100.page).bind λx102=>
 (page_Full n x102).bind λy103=>
 cond y103
 ((tree_change_split n v88 y97.1 v91 v92).bind λy104=>
 cond (!y104.1)
 (some (6,([]:List Group)))
 ((tree_change_down n (tree_change.mk (Forest.mk y104.2.1) y104.2.2) v88 v90.key).bind λy105=>
 r4 (y105,v89,v90,y104.2.1,y104.2.2,())))
 (cond false
 (some (6,([]:List Group)))
 ((tree_change_down n (tree_change.mk (Forest.mk v91) v92) v88 v90.key).bind λy106=>
 r4 (y106,v89,v90,v91,v92,()))))
 (cond false
 ((tree_change_split n v88 y97.1 v91 v92).bind λy107=>
 cond (!y107.1)
 (some (6,([]:List Group)))
 ((tree_change_down n (tree_change.mk (Forest.mk y107.2.1) y107.2.2) v88 v90.key).bind λy108=>
 r4 (y108,v89,v90,y107.2.1,y107.2.2,())))
 (cond false
 (some (6,([]:List Group)))
 ((tree_change_down n (tree_change.mk (Forest.mk v91) v92) v88 v90.key).bind λy109=>
 r4 (y109,v89,v90,v91,v92,())))))
 ((idx v91 v88).bind λx110=>
 (idx v91 v88).bind λx111=>
 (page_Put n x111 v90).bind λy112=>
 (tree_change_group n v91 v92 ([(Sheet.mk v88 y112.1)]:List Sheet)).bind λy113=>
 some (0,y113.2))
def tree_Put(n:Nat)(p0:Forest)(p1:Row):Option (Int×(List Group)):=
 (tree_Check n p0).bind λy1=>
 cond (y1 !=0)
 (some (y1,([]:List Group)))
 ((codec_CheckRow n p1).bind λy2=>
 cond (y2 !=0)
 (some (y2,([]:List Group)))
 ((tree_begun n p0).bind λy3=>
 (tree_get n p0 p1.key).bind λy4=>
 cond (y4.2==4)
 ((idx y3.1 0).bind λx5=>
 (idx y3.1 0).bind λx6=>
 (page_Full n x6).bind λy7=>
 cond y7
 ((tree_change_parted n y3.1 y3.2).bind λy8=>
 cond (!y8.1)
 (some (6,([]:List Group)))
 (tree_Put_l1 n n (0,y4.2,p1,y8.2.1,y8.2.2,())))
 (cond false
 (some (6,([]:List Group)))
 (tree_Put_l2 n n (0,y4.2,p1,y3.1,y3.2,()))))
 (cond false
 ((tree_change_parted n y3.1 y3.2).bind λy61=>
 cond (!y61.1)
 (some (6,([]:List Group)))
 (tree_Put_l3 n n (0,y4.2,p1,y61.2.1,y61.2.2,())))
 (cond false
 (some (6,([]:List Group)))
 (tree_Put_l4 n n (0,y4.2,p1,y3.1,y3.2,()))))))
@[reducible] def tree_Put_ct:Ct tab:=⟨32,[.st 5,.st 2],[],[.one (.own 0),.one (.d (.int .i64))],[(none,.row 74 (.st 7))],(Int×(List Group)),λy=>(y.1,y.2,()),λy=>(y.1,y.2.1),λ_=>rfl,λn x=>tree_Put n x.1 x.2.1⟩
theorem tree_Put_ok:OkC Tryz.prog tab tree_Put_ct:=fn_ok (W:=⟨Tryz.prog,tab,tyOf,[tree_Check_ct,codec_CheckRow_ct,tree_begun_ct,tree_get_ct,page_Full_ct,tree_change_parted_ct,page_Kid_ct,tree_change_split_ct,tree_change_down_ct,page_Put_ct,tree_change_group_ct],addO,dpO,false⟩) ⟨tabOk,⟨tree_Check_ok,codec_CheckRow_ok,tree_begun_ok,tree_get_ok,page_Full_ok,tree_change_parted_ok,page_Kid_ok,tree_change_split_ok,tree_change_down_ok,page_Put_ok,tree_change_group_ok,trivial⟩,addOk⟩ (by kernel_rfl) 136 Tryz.f32 (.sq (.n) (.sq (.n) (.sq (.n) (.sq (.n) (.sq (.n) (.sq (.sq (.rg [1000000]) (.n)) (.sq (.bk none (.lp ⟨[(3,.one (.box 0 0)),(8,.one (.box 1 0)),(9,.one (.d (.int .i64))),(11,.one (.d (.int .i64)))],[.bst 2,.box [.own 2,.own 3],.row 47 (.st 4),.row 74 (.st 7)],[]⟩ (.sq (.n) (.bk none (.sq (.n) (.sq (.sq (.rg [1000000]) (.n)) (.n))))))) (.n)))))))) Tryz.func32 Tryz.call32 rfl (by kernel_rfl) (by kernel_rfl) (by kernel_rfl) λn x=>by kernel_rfl
def tree_Apply_l2(n:Nat)(r1:(List Group)×Int×Int×Forest×(List Content)×(List Group)×Unit→Option (Forest×Int)):Nat→(List Group)×Int×Int×(List Sheet)×Int×Int×Forest×(List Content)×(List Group)×Unit→Option (Forest×Int):=loopF λr2 ⟨v10,v11,v12,v13,v14,v15,v16,v17,v18,_⟩=>
 cond (decide (v15<v14))
 ((idx v13 v15).bind λx19=>
 jn (fun(b20:Bool)=>
 cond b20
 (some ((Forest.mk ([]:List Content)),2))
 ((idx v17 x19.page).bind λx22=>
 (put v17 x19.page x19.content).bind λl23=>
 r2 (v10,v11,v12,v13,v14,(IntKind.wrap .i64 (v15+1)),v16,l23,v18,()))) λk21=>
 cond (decide (x19.page<0))
 (k21 true)
 (k21 (decide (x19.page≥64))))
 ((tree_Check n (Forest.mk v17)).bind λy24=>
 cond (y24 !=0)
 (some ((Forest.mk ([]:List Content)),2))
 (r1 (v10,v11,(IntKind.wrap .i64 (v12+1)),v16,v17,v18,())))
def tree_Apply_l1(n:Nat):Nat→(List Group)×Int×Int×Forest×(List Content)×(List Group)×Unit→Option (Forest×Int):=loopF λr1 ⟨v3,v4,v5,v6,v7,v8,_⟩=>
 cond (decide (v5<v4))
 ((idx v3 v5).bind λx9=>
 tree_Apply_l2 n r1 n (v3,v4,v5,x9.sheets,(x9.sheets.length:Int),0,v6,v7,v8,()))
 (some ((Forest.mk v7),0))
def tree_Apply(n:Nat)(p0:Forest)(p1:List Group):Option (Forest×Int):=
 (tree_Check n p0).bind λy1=>
 cond (y1 !=0)
 (some ((Forest.mk ([]:List Content)),y1))
 ((tree_begun n p0).bind λy2=>
 tree_Apply_l1 n n (p1,(p1.length:Int),0,(Forest.mk ([]:List Content)),y2.1,y2.2,()))
@[reducible] def tree_Apply_ct:Ct tab:=⟨39,[.st 5,.one (.d (.sl (.st 7)))],[],[.st 5,.one (.d (.int .i64))],[],(Forest×Int),λy=>(y.1,y.2,()),λy=>(y.1,y.2.1),λ_=>rfl,λn x=>tree_Apply n x.1 x.2.1⟩
theorem tree_Apply_ok:OkC Tryz.prog tab tree_Apply_ct:=fn_ok (W:=⟨Tryz.prog,tab,tyOf,[tree_Check_ct,tree_begun_ct],addO,dpO,false⟩) ⟨tabOk,⟨tree_Check_ok,tree_begun_ok,trivial⟩,addOk⟩ (by kernel_rfl) 65 Tryz.f39 (.sq (.n) (.sq (.n) (.sq (.n) (.sq (.sq (.n) (.bk none (.lp ⟨[(4,.one (.box 0 0)),(7,.one (.box 1 0)),(20,.one (.d (.sl (.st 7)))),(21,.one (.d (.int .i64))),(22,.one (.d (.int .i64)))],[.bst 5,.box [.own 2,.own 3],.row 47 (.st 4),.row 74 (.st 7)],[]⟩ (.sq (.n) (.sq (.n) (.sq (.bk none (.sq (.n) (.sq (.sq (.n) (.bk none (.lp ⟨[(4,.one (.box 0 0)),(7,.one (.box 1 0)),(20,.one (.d (.sl (.st 7)))),(21,.one (.d (.int .i64))),(22,.one (.d (.int .i64))),(27,.one (.d (.sl (.st 6)))),(28,.one (.d (.int .i64))),(29,.one (.d (.int .i64)))],[.bst 5,.box [.own 2,.own 3],.row 47 (.st 4),.row 74 (.st 7)],[]⟩ (.n)))) (.n)))) (.n))))))) (.n))))) Tryz.func39 Tryz.call39 rfl (by kernel_rfl) (by kernel_rfl) (by kernel_rfl) λn x=>by kernel_rfl
def tree_leaves(n:Nat)(p0:Forest)(p1:Int):Option (Forest×Int):=
 some (p0,p1)
@[reducible] def tree_leaves_ct:Ct tab:=⟨46,[.st 5,.one (.d (.int .i64))],[],[.one (.fn 76 [.bx 0,.bx 1])],[(none,.bst 5),(none,.box [.d (.int .i64)])],(Forest×Int),λy=>(y.1,y.2,()),λy=>(y.1,y.2.1),λ_=>rfl,λn x=>tree_leaves n x.1 x.2.1⟩
theorem tree_leaves_ok:OkC Tryz.prog tab tree_leaves_ct:=fn_ok (W:=⟨Tryz.prog,tab,tyOf,[],addO,dpO,false⟩) ⟨tabOk,trivial,addOk⟩ (by kernel_rfl) 6 Tryz.f46 (.n) Tryz.func46 Tryz.call46 rfl (by kernel_rfl) (by kernel_rfl) (by kernel_rfl) λn x=>by kernel_rfl
def tree_leaves_1_1_fyd0_c2_self_froc_l1(n:Nat)(self:Int×Forest×(HL tabT [.st 4]→HL tabT [.sl (.st 2)]→Option (Nat×HL tabT [.sl (.st 2)]))×Nat×(HL tabT [.sl (.st 2)])×Forest×Unit→Option (Bool×(HL tabT [.st 4]→HL tabT [.sl (.st 2)]→Option (Nat×HL tabT [.sl (.st 2)]))×Nat×(HL tabT [.sl (.st 2)])×Forest)):Nat→(List Kid)×Int×Int×Forest×(HL tabT [.st 4]→HL tabT [.sl (.st 2)]→Option (Nat×HL tabT [.sl (.st 2)]))×Nat×(HL tabT [.sl (.st 2)])×Unit→Option (Bool×(HL tabT [.st 4]→HL tabT [.sl (.st 2)]→Option (Nat×HL tabT [.sl (.st 2)]))×Nat×(HL tabT [.sl (.st 2)])×Forest):=loopF λr1 ⟨v3,v4,v5,v6,v7,v8,v9,_⟩=>
 cond (decide (v5<v4))
 ((idx v3 v5).bind λx10=>
 (self (x10.page,v6,v7,v8,v9,v6,())).bind λy11=>
 cond (!y11.1)
 (some (false,y11.2.1,y11.2.2.1,y11.2.2.2.1,y11.2.2.2.2))
 (r1 (v3,v4,(IntKind.wrap .i64 (v5+1)),y11.2.2.2.2,y11.2.1,y11.2.2.1,y11.2.2.2.1,())))
 (some (true,v7,v8,v9,v6))
def tree_leaves_1_1_fyd0_c2_self_froc_b(n:Nat)(self:Int×Forest×(HL tabT [.st 4]→HL tabT [.sl (.st 2)]→Option (Nat×HL tabT [.sl (.st 2)]))×Nat×(HL tabT [.sl (.st 2)])×Forest×Unit→Option (Bool×(HL tabT [.st 4]→HL tabT [.sl (.st 2)]→Option (Nat×HL tabT [.sl (.st 2)]))×Nat×(HL tabT [.sl (.st 2)])×Forest))(p0:Int)(p1:Forest)(q1_0:HL tabT [.st 4]→HL tabT [.sl (.st 2)]→Option (Nat×HL tabT [.sl (.st 2)]))(q1_1:Nat)(q1_2:HL tabT [.sl (.st 2)])(q2:Forest):Option (Bool×(HL tabT [.st 4]→HL tabT [.sl (.st 2)]→Option (Nat×HL tabT [.sl (.st 2)]))×Nat×(HL tabT [.sl (.st 2)])×Forest):=
 (idx p1.pages p0).bind λx1=>
 cond (x1.kind==1)
 ((callY q1_0 q1_1 (x1,()) q1_2).bind λy2=>
 some ((Nat.beq y2.1 0),q1_0,y2.1,y2.2,q2))
 (tree_leaves_1_1_fyd0_c2_self_froc_l1 n self n (x1.kids,(x1.kids.length:Int),0,q2,q1_0,q1_1,q1_2,()))
def tree_leaves_1_1_fyd0_c2_self_froc(n:Nat)(p0:Int)(p1:Forest)(q1_0:HL tabT [.st 4]→HL tabT [.sl (.st 2)]→Option (Nat×HL tabT [.sl (.st 2)]))(q1_1:Nat)(q1_2:HL tabT [.sl (.st 2)])(q2:Forest):Option (Bool×(HL tabT [.st 4]→HL tabT [.sl (.st 2)]→Option (Nat×HL tabT [.sl (.st 2)]))×Nat×(HL tabT [.sl (.st 2)])×Forest):=recF (λn self x=>tree_leaves_1_1_fyd0_c2_self_froc_b n self x.1 x.2.1 x.2.2.1 x.2.2.2.1 x.2.2.2.2.1 x.2.2.2.2.2.1) n (p0,p1,q1_0,q1_1,q1_2,q2,())
@[reducible] def tree_leaves_1_1_fyd0_c2_self_froc_ct:Ct tab:=⟨77,[.one (.d (.int .i64)),.one (.ro (.st 5)),.one (.box 0 0),.one (.box 2 0)],[.box [.yd 1],.opq [.st 4] [.sl (.st 2)],.box [.fn 77 [.ro (.st 5),.bx 0,.bx 2]]],[.one (.d .bool)],[(some 0,.box [.yd 1]),(some 1,.opq [.st 4] [.sl (.st 2)]),(some 2,.box [.fn 77 [.ro (.st 5),.bx 0,.bx 2]])],(Bool×(HL tabT [.st 4]→HL tabT [.sl (.st 2)]→Option (Nat×HL tabT [.sl (.st 2)]))×Nat×(HL tabT [.sl (.st 2)])×Forest),λy=>(y.1,y.2.1,y.2.2.1,y.2.2.2.1,y.2.2.2.2,()),λy=>(y.1,y.2.1,y.2.2.1,y.2.2.2.1,y.2.2.2.2.1),λ_=>rfl,λn x=>tree_leaves_1_1_fyd0_c2_self_froc n x.1 x.2.1 x.2.2.1 x.2.2.2.1 x.2.2.2.2.1 x.2.2.2.2.2.1⟩
theorem tree_leaves_1_1_fyd0_c2_self_froc_ok:OkC Tryz.prog tab tree_leaves_1_1_fyd0_c2_self_froc_ct:=fn_rec (W:=⟨Tryz.prog,tab,tyOf,[],addO,dpO,false⟩) ⟨tabOk,trivial,addOk⟩ (by kernel_rfl) 33 Tryz.f77 (.sq (.n) (.sq (.n) (.sq (.n) (.sq (.sq (.n) (.bk none (.lp ⟨[(2,.one (.box 0 0)),(3,.one (.box 1 0)),(21,.one (.d (.sl (.st 3)))),(22,.one (.d (.int .i64))),(23,.one (.d (.int .i64)))],[.box [.yd 2],.box [.fn 77 [.ro (.st 5),.bx 0,.bx 1]],.opq [.st 4] [.sl (.st 2)]],[(0,0),(1,2),(2,1)]⟩ (.n)))) (.n))))) Tryz.func77 Tryz.call77 rfl (by kernel_rfl) (by kernel_rfl) (by kernel_rfl) (λn self x=>tree_leaves_1_1_fyd0_c2_self_froc_b n self x.1 x.2.1 x.2.2.1 x.2.2.2.1 x.2.2.2.2.1 x.2.2.2.2.2.1) (λ_=>rfl) (λ_ _=>rfl) λself n x=>by kernel_rfl
def tree_leaves_1_fyd0(n:Nat)(p1:Forest)(p2:Int)(q0_0:HL tabT [.st 4]→HL tabT [.sl (.st 2)]→Option (Nat×HL tabT [.sl (.st 2)]))(q0_1:Nat)(q0_2:HL tabT [.sl (.st 2)]):Option ((HL tabT [.st 4]→HL tabT [.sl (.st 2)]→Option (Nat×HL tabT [.sl (.st 2)]))×Nat×(HL tabT [.sl (.st 2)])):=
 (tree_leaves_1_1_fyd0_c2_self_froc n p2 p1 q0_0 q0_1 q0_2 p1).bind λy1=>
 some (y1.2.1,y1.2.2.1,y1.2.2.2.1)
@[reducible] def tree_leaves_1_fyd0_ct:Ct tab:=⟨76,[.one (.yd 0),.one (.ro (.st 5)),.one (.ro (.int .i64))],[.opq [.st 4] [.sl (.st 2)]],[],[(some 0,.opq [.st 4] [.sl (.st 2)])],((HL tabT [.st 4]→HL tabT [.sl (.st 2)]→Option (Nat×HL tabT [.sl (.st 2)]))×Nat×(HL tabT [.sl (.st 2)])),λy=>(y.1,y.2.1,y.2.2,()),λy=>(y.1,y.2.1,y.2.2.1),λ_=>rfl,λn x=>tree_leaves_1_fyd0 n x.1 x.2.1 x.2.2.1 x.2.2.2.1 x.2.2.2.2.1⟩
theorem tree_leaves_1_fyd0_ok:OkC Tryz.prog tab tree_leaves_1_fyd0_ct:=fn_ok (W:=⟨Tryz.prog,tab,tyOf,[tree_leaves_1_1_fyd0_c2_self_froc_ct],addO,dpO,false⟩) ⟨tabOk,⟨tree_leaves_1_1_fyd0_c2_self_froc_ok,trivial⟩,addOk⟩ (by kernel_rfl) 9 Tryz.f76 (.n) Tryz.func76 Tryz.call76 rfl (by kernel_rfl) (by kernel_rfl) (by kernel_rfl) λn x=>by kernel_rfl
def tree_Rows(n:Nat)(p0:Forest):Option (Int×(List Row)):=
 (tree_Check n p0).bind λy1=>
 cond (y1 !=0)
 (some (y1,([]:List Row)))
 ((tree_leaves n p0 0).bind λy2=>
 (tree_leaves_1_fyd0 n y2.1 y2.2 (λy3 z4=>
 (app 40 z4.1 y3.1.rows).bind λl5=>
 some (0,(l5,()))) 0 (([]:List Row),())).bind λy6=>
 sel y6.2.1 [
 some (0,y6.2.2.1),
 some (0,([]:List Row)),
 some (0,y6.2.2.1)])
@[reducible] def tree_Rows_ct:Ct tab:=⟨13,[.st 5],[],[.one (.own 0),.one (.d (.int .i64))],[(none,.row 40 (.st 2))],(Int×(List Row)),λy=>(y.1,y.2,()),λy=>(y.1,y.2.1),λ_=>rfl,λn x=>tree_Rows n x.1⟩
theorem tree_Rows_ok:OkC Tryz.prog tab tree_Rows_ct:=fn_ok (W:=⟨Tryz.prog,tab,tyOf,[tree_Check_ct,tree_leaves_ct,tree_leaves_1_fyd0_ct],addO,dpO,false⟩) ⟨tabOk,⟨tree_Check_ok,tree_leaves_ok,tree_leaves_1_fyd0_ok,trivial⟩,addOk⟩ (by kernel_rfl) 20 Tryz.f13 (.sq (.n) (.sq (.n) (.sq (.n) (.sq (.sq (.n) (.bk none (.rf [(5,.one (.box 0 0))] [(2,.one (.own 2)),(3,.one (.d (.int .i64))),(13,.one (.fn 76 [.ro (.st 5),.ro (.int .i64)]))] [.box [.own 1],.row 40 (.st 2)] [.row 40 (.st 2)] [] 13 (.fn 76 [.ro (.st 5),.ro (.int .i64)]) [.st 4] (.n) (.n)))) (.n))))) Tryz.func13 Tryz.call13 rfl (by kernel_rfl) (by kernel_rfl) (by kernel_rfl) λn x=>by kernel_rfl
def tree_Free(n:Nat)(p0:Forest):Option Int:=
 (tree_look n p0).bind λy1=>
 cond (!y1.1)
 (some 0)
 (some (IntKind.wrap .i64 (64-((mkeys y1.2.2.2).length:Int))))
@[reducible] def tree_Free_ct:Ct tab:=⟨14,[.st 5],[],[.one (.d (.int .i64))],[],Int,λy=>(y,()),λy=>y.1,λ_=>rfl,λn x=>tree_Free n x.1⟩
theorem tree_Free_ok:OkC Tryz.prog tab tree_Free_ct:=fn_ok (W:=⟨Tryz.prog,tab,tyOf,[tree_look_ct],addO,dpO,false⟩) ⟨tabOk,⟨tree_look_ok,trivial⟩,addOk⟩ (by kernel_rfl) 18 Tryz.f14 (.n) Tryz.func14 Tryz.call14 rfl (by kernel_rfl) (by kernel_rfl) (by kernel_rfl) λn x=>by kernel_rfl
def tree_Depth(n:Nat)(p0:Forest):Option Int:=
 (tree_look n p0).bind λy1=>
 cond (!y1.1)
 (some 0)
 (some y1.2.2.1)
@[reducible] def tree_Depth_ct:Ct tab:=⟨15,[.st 5],[],[.one (.d (.int .i64))],[],Int,λy=>(y,()),λy=>y.1,λ_=>rfl,λn x=>tree_Depth n x.1⟩
theorem tree_Depth_ok:OkC Tryz.prog tab tree_Depth_ct:=fn_ok (W:=⟨Tryz.prog,tab,tyOf,[tree_look_ct],addO,dpO,false⟩) ⟨tabOk,⟨tree_look_ok,trivial⟩,addOk⟩ (by kernel_rfl) 16 Tryz.f15 (.n) Tryz.func15 Tryz.call15 rfl (by kernel_rfl) (by kernel_rfl) (by kernel_rfl) λn x=>by kernel_rfl
def law13_wakes_l1(n:Nat):Nat→Int×Forest×Unit→Option Bool:=loopF λr1 ⟨v2,v3,_⟩=>
 cond (decide (v2<5))
 ((law13_row n (IntKind.wrap .u16 (v2+1))).bind λy4=>
 (tree_Put n v3 y4).bind λy5=>
 cond (y5.1 !=0)
 (some false)
 ((tree_Apply n v3 y5.2).bind λy6=>
 cond (y6.2 !=0)
 (some false)
 (r1 ((IntKind.wrap .u16 (v2+1)),y6.1,()))))
 ((tree_Rows n v3).bind λy7=>
 jn (fun(b8:Bool)=>
 jn (fun(b10:Bool)=>
 jn (fun(b12:Bool)=>
 some b12) λk13=>
 cond b10
 ((tree_Free n v3).bind λy14=>
 k13 (y14==61))
 (k13 false)) λk11=>
 cond b8
 ((tree_Depth n v3).bind λy15=>
 k11 (y15==2))
 (k11 false)) λk9=>
 cond (y7.1==0)
 (k9 ((y7.2.length:Int)==5))
 (k9 false))
def law13_wakes(n:Nat):Option Bool:=
 (tree_New n).bind λy1=>
 law13_wakes_l1 n n (0,y1,())
@[reducible] def law13_wakes_ct:Ct tab:=⟨11,[],[],[.one (.d .bool)],[],Bool,λy=>(y,()),λy=>y.1,λ_=>rfl,λn x=>law13_wakes n⟩
theorem law13_wakes_ok:OkC Tryz.prog tab law13_wakes_ct:=fn_ok (W:=⟨Tryz.prog,tab,tyOf,[tree_New_ct,law13_row_ct,tree_Put_ct,tree_Apply_ct,tree_Rows_ct,tree_Free_ct,tree_Depth_ct],addO,dpO,false⟩) ⟨tabOk,⟨tree_New_ok,law13_row_ok,tree_Put_ok,tree_Apply_ok,tree_Rows_ok,tree_Free_ok,tree_Depth_ok,trivial⟩,addOk⟩ (by kernel_rfl) 52 Tryz.f11 (.sq (.n) (.sq (.n) (.sq (.sq (.n) (.bk none (.lp ⟨[(1,.one (.box 0 0)),(8,.one (.d (.int .u16)))],[.bst 5],[]⟩ (.n)))) (.n)))) Tryz.func11 Tryz.call11 rfl (by kernel_rfl) (by kernel_rfl) (by kernel_rfl) λn x=>by kernel_rfl
def ref11_Leaf(n:Nat)(p0:List Row):Option Content:=
 some (Content.mk 1 p0 ([]:List Kid))
@[reducible] def ref11_Leaf_ct:Ct tab:=⟨54,[.one (.d (.sl (.st 2)))],[],[.st 4],[],Content,λy=>(y,()),λy=>y.1,λ_=>rfl,λn x=>ref11_Leaf n x.1⟩
theorem ref11_Leaf_ok:OkC Tryz.prog tab ref11_Leaf_ct:=fn_ok (W:=⟨Tryz.prog,tab,tyOf,[],addO,dpO,false⟩) ⟨tabOk,trivial,addOk⟩ (by kernel_rfl) 5 Tryz.f54 (.n) Tryz.func54 Tryz.call54 rfl (by kernel_rfl) (by kernel_rfl) (by kernel_rfl) λn x=>by kernel_rfl
def ref13_New(n:Nat):Option Forest:=
 (ref11_Leaf n ([]:List Row)).bind λy1=>
 (idx (List.replicate 64 (Content.mk 0 ([]:List Row) ([]:List Kid))) 0).bind λx2=>
 (put (List.replicate 64 (Content.mk 0 ([]:List Row) ([]:List Kid))) 0 y1).bind λl3=>
 some (Forest.mk l3)
@[reducible] def ref13_New_ct:Ct tab:=⟨25,[],[],[.st 5],[],Forest,λy=>(y,()),λy=>y.1,λ_=>rfl,λn x=>ref13_New n⟩
theorem ref13_New_ok:OkC Tryz.prog tab ref13_New_ct:=fn_ok (W:=⟨Tryz.prog,tab,tyOf,[ref11_Leaf_ct],addO,dpO,false⟩) ⟨tabOk,⟨ref11_Leaf_ok,trivial⟩,addOk⟩ (by kernel_rfl) 9 Tryz.f25 (.n) Tryz.func25 Tryz.call25 rfl (by kernel_rfl) (by kernel_rfl) (by kernel_rfl) λn x=>by kernel_rfl
def ref13_Rows_l1(n:Nat)(self:Forest×Int×Unit→Option ((List Row))):Nat→Int×Forest×Content×(List Row)×Unit→Option ((List Row)):=loopF λr1 ⟨v3,v4,v5,v6,_⟩=>
 cond (decide (v3<(v5.kids.length:Int)))
 ((idx v5.kids v3).bind λx7=>
 (self (v4,x7.page,())).bind λy8=>
 (app 40 v6 y8).bind λl9=>
 r1 ((IntKind.wrap .i64 (v3+1)),v4,v5,l9,()))
 (some v6)
def ref13_Rows_b(n:Nat)(self:Forest×Int×Unit→Option ((List Row)))(p0:Forest)(p1:Int):Option ((List Row)):=
 (idx p0.pages p1).bind λx1=>
 (app 40 ([]:List Row) x1.rows).bind λl2=>
 ref13_Rows_l1 n self n (0,p0,x1,l2,())
def ref13_Rows(n:Nat)(p0:Forest)(p1:Int):Option ((List Row)):=recF (λn self x=>ref13_Rows_b n self x.1 x.2.1) n (p0,p1,())
@[reducible] def ref13_Rows_ct:Ct tab:=⟨27,[.st 5,.one (.d (.int .i64))],[],[.one (.own 0)],[(none,.row 40 (.st 2))],((List Row)),λy=>(y,()),λy=>y.1,λ_=>rfl,λn x=>ref13_Rows n x.1 x.2.1⟩
theorem ref13_Rows_ok:OkC Tryz.prog tab ref13_Rows_ct:=fn_rec (W:=⟨Tryz.prog,tab,tyOf,[],addO,dpO,false⟩) ⟨tabOk,trivial,addOk⟩ (by kernel_rfl) 35 Tryz.f27 (.sq (.n) (.sq (.n) (.sq (.n) (.sq (.n) (.sq (.sq (.n) (.bk none (.lp ⟨[(2,.one (.box 0 0)),(5,.one (.box 1 0)),(6,.one (.own 2)),(7,.one (.d (.int .i64)))],[.bst 5,.bst 4,.row 40 (.st 2)],[]⟩ (.n)))) (.n)))))) Tryz.func27 Tryz.call27 rfl (by kernel_rfl) (by kernel_rfl) (by kernel_rfl) (λn self x=>ref13_Rows_b n self x.1 x.2.1) (λ_=>rfl) (λ_ _=>rfl) λself n x=>by kernel_rfl
def ref05_Find_l1(n:Nat):Nat→(List Row)×Int×Key×Unit→Option Int:=loopF λr1 ⟨v1,v2,v3,_⟩=>
 cond (decide (v2<(v1.length:Int)))
 ((idx v1 v2).bind λx4=>
 cond (Key.eqb x4.key v3)
 (some v2)
 (r1 (v1,(IntKind.wrap .i64 (v2+1)),v3,())))
 (some (-1))
def ref05_Find(n:Nat)(p0:List Row)(p1:Key):Option Int:=
 ref05_Find_l1 n n (p0,0,p1,())
@[reducible] def ref05_Find_ct:Ct tab:=⟨31,[.one (.d (.sl (.st 2))),.st 1],[],[.one (.d (.int .i64))],[],Int,λy=>(y,()),λy=>y.1,λ_=>rfl,λn x=>ref05_Find n x.1 x.2.1⟩
theorem ref05_Find_ok:OkC Tryz.prog tab ref05_Find_ct:=fn_ok (W:=⟨Tryz.prog,tab,tyOf,[],addO,dpO,false⟩) ⟨tabOk,trivial,addOk⟩ (by kernel_rfl) 20 Tryz.f31 (.sq (.n) (.sq (.sq (.n) (.bk none (.lp ⟨[(0,.one (.d (.sl (.st 2)))),(3,.one (.box 0 0)),(5,.one (.d (.int .i64)))],[.bst 1],[]⟩ (.n)))) (.n))) Tryz.func31 Tryz.call31 rfl (by kernel_rfl) (by kernel_rfl) (by kernel_rfl) λn x=>by kernel_rfl
def ref05_Compare(n:Nat)(p0:Key)(p1:Key):Option Int:=
 cond (Key.eqb p0 p1)
 (some 0)
 (jn (fun(b1:Bool)=>
 cond b1
 (some (-1))
 (some 1)) λk2=>
 cond (decide (p0.table<p1.table))
 (k2 true)
 (jn (fun(b3:Bool)=>
 k2 b3) λk4=>
 cond (p0.table==p1.table)
 (k4 (decide (p0.id<p1.id)))
 (k4 false)))
@[reducible] def ref05_Compare_ct:Ct tab:=⟨16,[.st 1,.st 1],[],[.one (.d (.int .i64))],[],Int,λy=>(y,()),λy=>y.1,λ_=>rfl,λn x=>ref05_Compare n x.1 x.2.1⟩
theorem ref05_Compare_ok:OkC Tryz.prog tab ref05_Compare_ct:=fn_ok (W:=⟨Tryz.prog,tab,tyOf,[],addO,dpO,false⟩) ⟨tabOk,trivial,addOk⟩ (by kernel_rfl) 27 Tryz.f16 (.n) Tryz.func16 Tryz.call16 rfl (by kernel_rfl) (by kernel_rfl) (by kernel_rfl) λn x=>by kernel_rfl
def ref11_Kid_j2(n:Nat)(r1:Int×Int×Content×Key×Unit→Option Int):Int×Int×Content×Key×Unit→Option Int:=fun⟨v7,v8,v9,v10,_⟩=>
 r1 (v7,(IntKind.wrap .i64 (v8+1)),v9,v10,())
def ref11_Kid_l1(n:Nat):Nat→Int×Int×Content×Key×Unit→Option Int:=loopF λr1 ⟨v1,v2,v3,v4,_⟩=>
 cond (decide (v2<(v3.kids.length:Int)))
 ((idx v3.kids v2).bind λx5=>
 (ref05_Compare n x5.least v4).bind λy6=>
 jn (ref11_Kid_j2 n r1) λj2=>
 cond (decide (y6≤0))
 (j2 (v2,v2,v3,v4,()))
 (j2 (v1,v2,v3,v4,())))
 (some v1)
def ref11_Kid(n:Nat)(p0:Content)(p1:Key):Option Int:=
 ref11_Kid_l1 n n (0,1,p0,p1,())
@[reducible] def ref11_Kid_ct:Ct tab:=⟨72,[.st 4,.st 1],[],[.one (.d (.int .i64))],[],Int,λy=>(y,()),λy=>y.1,λ_=>rfl,λn x=>ref11_Kid n x.1 x.2.1⟩
theorem ref11_Kid_ok:OkC Tryz.prog tab ref11_Kid_ct:=fn_ok (W:=⟨Tryz.prog,tab,tyOf,[ref05_Compare_ct],addO,dpO,false⟩) ⟨tabOk,⟨ref05_Compare_ok,trivial⟩,addOk⟩ (by kernel_rfl) 25 Tryz.f72 (.sq (.n) (.sq (.n) (.sq (.sq (.n) (.bk none (.lp ⟨[(2,.one (.box 0 0)),(3,.one (.box 1 0)),(5,.one (.d (.int .i64))),(6,.one (.d (.int .i64)))],[.bst 4,.bst 1],[]⟩ (.sq (.n) (.sq (.bk none (.sq (.n) (.cd (some ⟨[(2,.one (.box 0 0)),(3,.one (.box 1 0)),(5,.one (.d (.int .i64))),(6,.one (.d (.int .i64)))],[.bst 4,.bst 1],[]⟩) (.n) (.n)))) (.n)))))) (.n)))) Tryz.func72 Tryz.call72 rfl (by kernel_rfl) (by kernel_rfl) (by kernel_rfl) λn x=>by kernel_rfl
def ref11_Size(n:Nat)(p0:Content):Option Int:=
 some (IntKind.wrap .i64 ((p0.rows.length:Int)+(p0.kids.length:Int)))
@[reducible] def ref11_Size_ct:Ct tab:=⟨88,[.st 4],[],[.one (.d (.int .i64))],[],Int,λy=>(y,()),λy=>y.1,λ_=>rfl,λn x=>ref11_Size n x.1⟩
theorem ref11_Size_ok:OkC Tryz.prog tab ref11_Size_ct:=fn_ok (W:=⟨Tryz.prog,tab,tyOf,[],addO,dpO,false⟩) ⟨tabOk,trivial,addOk⟩ (by kernel_rfl) 10 Tryz.f88 (.n) Tryz.func88 Tryz.call88 rfl (by kernel_rfl) (by kernel_rfl) (by kernel_rfl) λn x=>by kernel_rfl
def ref11_Both_j2(n:Nat)(r1:Int×Content×Key×Content×Int×(List Row)×(List Kid)×Unit→Option Content):Int×Content×Key×Content×Int×Kid×(List Row)×(List Kid)×Unit→Option Content:=fun⟨v12,v13,v14,v15,v16,v17,v18,v19,_⟩=>
 (app 24 v19 ([v17]:List Kid)).bind λl20=>
 r1 ((IntKind.wrap .i64 (v12+1)),v13,v14,v15,v16,v18,l20,())
def ref11_Both_l1(n:Nat):Nat→Int×Content×Key×Content×Int×(List Row)×(List Kid)×Unit→Option Content:=loopF λr1 ⟨v4,v5,v6,v7,v8,v9,v10,_⟩=>
 cond (decide (v4<(v5.kids.length:Int)))
 ((idx v5.kids v4).bind λx11=>
 jn (ref11_Both_j2 n r1) λj2=>
 cond (v4==0)
 (j2 (v4,v5,v6,v7,v8,(Kid.mk v6 x11.page),v9,v10,()))
 (j2 (v4,v5,v6,v7,v8,x11,v9,v10,())))
 (some (Content.mk v8 v9 v10))
def ref11_Both(n:Nat)(p0:Content)(p1:Content)(p2:Key):Option Content:=
 (app 40 ([]:List Row) p0.rows).bind λl1=>
 (app 40 l1 p1.rows).bind λl2=>
 (app 24 ([]:List Kid) p0.kids).bind λl3=>
 ref11_Both_l1 n n (0,p1,p2,(Content.mk 0 ([]:List Row) ([]:List Kid)),p0.kind,l2,l3,())
@[reducible] def ref11_Both_ct:Ct tab:=⟨121,[.st 4,.st 4,.st 1],[],[.st 4],[],Content,λy=>(y,()),λy=>y.1,λ_=>rfl,λn x=>ref11_Both n x.1 x.2.1 x.2.2.1⟩
theorem ref11_Both_ok:OkC Tryz.prog tab ref11_Both_ct:=fn_ok (W:=⟨Tryz.prog,tab,tyOf,[],addO,dpO,false⟩) ⟨tabOk,trivial,addOk⟩ (by kernel_rfl) 51 Tryz.f121 (.sq (.n) (.sq (.n) (.sq (.n) (.sq (.n) (.sq (.sq (.n) (.bk none (.lp ⟨[(4,.one (.box 0 0)),(5,.one (.box 1 0)),(6,.one (.box 2 0)),(7,.one (.box 3 0)),(8,.one (.d (.int .i64)))],[.bst 4,.bst 1,.bst 4,.box [.d (.int .i64),.own 4,.own 5],.row 40 (.st 2),.row 100 (.st 3)],[]⟩ (.sq (.n) (.sq (.bk none (.sq (.n) (.sq (.sq (.n) (.cd (some ⟨[(4,.one (.box 0 0)),(5,.one (.box 1 0)),(6,.one (.box 2 0)),(7,.one (.box 3 0)),(8,.one (.d (.int .i64))),(9,.one (.box 4 0))],[.bst 4,.bst 1,.bst 4,.box [.d (.int .i64),.own 5,.own 6],.bst 3,.row 40 (.st 2),.row 100 (.st 3)],[]⟩) (.n) (.n))) (.n)))) (.n)))))) (.n)))))) Tryz.func121 Tryz.call121 rfl (by kernel_rfl) (by kernel_rfl) (by kernel_rfl) λn x=>by kernel_rfl
def ref13_sorted_j3(n:Nat)(r2:(List Sheet)×Int×Int×(List Sheet)×Unit→Option ((List Sheet))):(List Sheet)×Int×Int×(List Sheet)×Unit→Option ((List Sheet)):=fun⟨v11,v12,v13,v14,_⟩=>
 r2 (v11,v12,(IntKind.wrap .i64 (v13+1)),v14,())
def ref13_sorted_l2(n:Nat)(r1:(List Sheet)×Int×(List Sheet)×Unit→Option ((List Sheet))):Nat→(List Sheet)×Int×Int×(List Sheet)×Unit→Option ((List Sheet)):=loopF λr2 ⟨v4,v5,v6,v7,_⟩=>
 cond (decide (v6<(v4.length:Int)))
 ((idx v4 v6).bind λx8=>
 jn (ref13_sorted_j3 n r2) λj3=>
 cond (x8.page==v5)
 ((idx v4 v6).bind λx15=>
 (app 64 v7 ([x15]:List Sheet)).bind λl16=>
 j3 (v4,v5,v6,l16,()))
 (j3 (v4,v5,v6,v7,())))
 (r1 (v4,(IntKind.wrap .i64 (v5+1)),v7,()))
def ref13_sorted_l1(n:Nat):Nat→(List Sheet)×Int×(List Sheet)×Unit→Option ((List Sheet)):=loopF λr1 ⟨v1,v2,v3,_⟩=>
 cond (decide (v2<64))
 (ref13_sorted_l2 n r1 n (v1,v2,0,v3,()))
 (some v3)
def ref13_sorted(n:Nat)(p0:List Sheet):Option ((List Sheet)):=
 ref13_sorted_l1 n n (p0,0,([]:List Sheet),())
@[reducible] def ref13_sorted_ct:Ct tab:=⟨119,[.one (.d (.sl (.st 6)))],[],[.one (.own 0)],[(none,.row 76 (.st 6))],((List Sheet)),λy=>(y,()),λy=>y.1,λ_=>rfl,λn x=>ref13_sorted n x.1⟩
theorem ref13_sorted_ok:OkC Tryz.prog tab ref13_sorted_ct:=fn_ok (W:=⟨Tryz.prog,tab,tyOf,[],addO,dpO,false⟩) ⟨tabOk,trivial,addOk⟩ (by kernel_rfl) 31 Tryz.f119 (.sq (.n) (.sq (.n) (.sq (.sq (.n) (.bk none (.lp ⟨[(0,.one (.d (.sl (.st 6)))),(3,.one (.own 0)),(4,.one (.d (.int .i64)))],[.row 76 (.st 6)],[]⟩ (.sq (.n) (.sq (.bk none (.sq (.n) (.bk none (.lp ⟨[(0,.one (.d (.sl (.st 6)))),(3,.one (.own 0)),(4,.one (.d (.int .i64))),(5,.one (.d (.int .i64)))],[.row 76 (.st 6)],[]⟩ (.sq (.n) (.sq (.bk none (.sq (.n) (.cd (some ⟨[(0,.one (.d (.sl (.st 6)))),(3,.one (.own 0)),(4,.one (.d (.int .i64))),(5,.one (.d (.int .i64)))],[.row 76 (.st 6)],[]⟩) (.n) (.n)))) (.n))))))) (.n)))))) (.n)))) Tryz.func119 Tryz.call119 rfl (by kernel_rfl) (by kernel_rfl) (by kernel_rfl) λn x=>by kernel_rfl
def ref11_Inner(n:Nat)(p0:List Kid):Option Content:=
 some (Content.mk 2 ([]:List Row) p0)
@[reducible] def ref11_Inner_ct:Ct tab:=⟨118,[.one (.d (.sl (.st 3)))],[],[.st 4],[],Content,λy=>(y,()),λy=>y.1,λ_=>rfl,λn x=>ref11_Inner n x.1⟩
theorem ref11_Inner_ok:OkC Tryz.prog tab ref11_Inner_ct:=fn_ok (W:=⟨Tryz.prog,tab,tyOf,[],addO,dpO,false⟩) ⟨tabOk,trivial,addOk⟩ (by kernel_rfl) 5 Tryz.f118 (.n) Tryz.func118 Tryz.call118 rfl (by kernel_rfl) (by kernel_rfl) (by kernel_rfl) λn x=>by kernel_rfl
def ref11_Disown_j2(n:Nat)(r1:Int×Int×Content×Content×(List Kid)×Unit→Option Content):Int×Int×Content×Content×(List Kid)×Unit→Option Content:=fun⟨v8,v9,v10,v11,v12,_⟩=>
 r1 (v8,(IntKind.wrap .i64 (v9+1)),v10,v11,v12,())
def ref11_Disown_l1(n:Nat):Nat→Int×Int×Content×Content×(List Kid)×Unit→Option Content:=loopF λr1 ⟨v1,v2,v3,v4,v5,_⟩=>
 cond (decide (v2<(v3.kids.length:Int)))
 (jn (ref11_Disown_j2 n r1) λj2=>
 cond (v2 !=v1)
 ((idx v3.kids v2).bind λx13=>
 (app 24 v5 ([x13]:List Kid)).bind λl14=>
 j2 (v1,v2,v3,v4,l14,()))
 (j2 (v1,v2,v3,v4,v5,())))
 ((ref11_Inner n v5).bind λy15=>
 some y15)
def ref11_Disown(n:Nat)(p0:Content)(p1:Int):Option Content:=
 ref11_Disown_l1 n n (p1,0,p0,(Content.mk 0 ([]:List Row) ([]:List Kid)),([]:List Kid),())
@[reducible] def ref11_Disown_ct:Ct tab:=⟨122,[.st 4,.one (.d (.int .i64))],[],[.st 4],[],Content,λy=>(y,()),λy=>y.1,λ_=>rfl,λn x=>ref11_Disown n x.1 x.2.1⟩
theorem ref11_Disown_ok:OkC Tryz.prog tab ref11_Disown_ct:=fn_ok (W:=⟨Tryz.prog,tab,tyOf,[ref11_Inner_ct],addO,dpO,false⟩) ⟨tabOk,⟨ref11_Inner_ok,trivial⟩,addOk⟩ (by kernel_rfl) 27 Tryz.f122 (.sq (.n) (.sq (.n) (.sq (.sq (.n) (.bk none (.lp ⟨[(1,.one (.d (.int .i64))),(2,.one (.box 0 0)),(4,.one (.box 1 0)),(5,.one (.own 2)),(6,.one (.d (.int .i64)))],[.bst 4,.bst 4,.row 100 (.st 3)],[]⟩ (.sq (.n) (.sq (.bk none (.sq (.n) (.cd (some ⟨[(1,.one (.d (.int .i64))),(2,.one (.box 0 0)),(4,.one (.box 1 0)),(5,.one (.own 2)),(6,.one (.d (.int .i64)))],[.bst 4,.bst 4,.row 100 (.st 3)],[]⟩) (.n) (.n)))) (.n)))))) (.n)))) Tryz.func122 Tryz.call122 rfl (by kernel_rfl) (by kernel_rfl) (by kernel_rfl) λn x=>by kernel_rfl
def ref11_Cut_j2(n:Nat)(r1:Int×Int×Content×Content×Content×Key×Int×Int×(List Row)×(List Kid)×(List Row)×(List Kid)×Unit→Option (Content×Content×Key)):Int×Int×Content×Content×Content×Key×Int×Int×(List Row)×(List Kid)×(List Row)×(List Kid)×Unit→Option (Content×Content×Key):=fun⟨v17,v18,v19,v20,v21,v22,v23,v24,v25,v26,v27,v28,_⟩=>
 r1 (v17,(IntKind.wrap .i64 (v18+1)),v19,v20,v21,v22,v23,v24,v25,v26,v27,v28,())
def ref11_Cut_j4(n:Nat)(r3:Int×Int×Content×Content×Content×Key×Int×Int×(List Row)×(List Kid)×(List Row)×(List Kid)×Unit→Option (Content×Content×Key)):Int×Int×Content×Content×Content×Key×Int×Int×(List Row)×(List Kid)×(List Row)×(List Kid)×Unit→Option (Content×Content×Key):=fun⟨v49,v50,v51,v52,v53,v54,v55,v56,v57,v58,v59,v60,_⟩=>
 r3 (v49,(IntKind.wrap .i64 (v50+1)),v51,v52,v53,v54,v55,v56,v57,v58,v59,v60,())
def ref11_Cut_j6(n:Nat):Content×Content×Key×Int×Int×Key×(List Row)×(List Kid)×(List Row)×(List Kid)×Unit→Option (Content×Content×Key):=fun⟨v82,v83,v84,v85,v86,v87,v88,v89,v90,v91,_⟩=>
 some ((Content.mk v85 v88 v89),(Content.mk v86 v90 v91),v87)
def ref11_Cut_j5(n:Nat):Content×Content×Key×Int×Int×Key×(List Row)×(List Kid)×(List Row)×(List Kid)×Unit→Option (Content×Content×Key):=fun⟨v67,v68,v69,v70,v71,v72,v73,v74,v75,v76,_⟩=>
 jn (ref11_Cut_j6 n) λj6=>
 cond (decide ((v76.length:Int)>0))
 ((idx v76 0).bind λx92=>
 (idx v76 0).bind λx93=>
 (idx v76 0).bind λx94=>
 (idx v76 0).bind λx95=>
 (put v76 0 (Kid.mk (Key.mk 0 0) x95.page)).bind λl96=>
 j6 (v67,v68,v69,v70,v71,x93.least,v73,v74,v75,l96,()))
 (j6 (v67,v68,v69,v70,v71,v72,v73,v74,v75,v76,()))
def ref11_Cut_l3(n:Nat):Nat→Int×Int×Content×Content×Content×Key×Int×Int×(List Row)×(List Kid)×(List Row)×(List Kid)×Unit→Option (Content×Content×Key):=loopF λr3 ⟨v33,v34,v35,v36,v37,v38,v39,v40,v41,v42,v43,v44,_⟩=>
 cond (decide (v34<(v35.kids.length:Int)))
 (jn (ref11_Cut_j4 n r3) λj4=>
 cond (decide (v34<v33))
 ((idx v35.kids v34).bind λx61=>
 (app 24 v42 ([x61]:List Kid)).bind λl62=>
 j4 (v33,v34,v35,v36,v37,v38,v39,v40,v41,l62,v43,v44,()))
 ((idx v35.kids v34).bind λx63=>
 (app 24 v44 ([x63]:List Kid)).bind λl64=>
 j4 (v33,v34,v35,v36,v37,v38,v39,v40,v41,v42,v43,l64,())))
 (jn (ref11_Cut_j5 n) λj5=>
 cond (decide ((v43.length:Int)>0))
 ((idx v43 0).bind λx97=>
 (idx v43 0).bind λx98=>
 j5 (v36,v37,v38,v39,v40,x98.key,v41,v42,v43,v44,()))
 (j5 (v36,v37,v38,v39,v40,(Key.mk 0 0),v41,v42,v43,v44,())))
def ref11_Cut_l1(n:Nat):Nat→Int×Int×Content×Content×Content×Key×Int×Int×(List Row)×(List Kid)×(List Row)×(List Kid)×Unit→Option (Content×Content×Key):=loopF λr1 ⟨v1,v2,v3,v4,v5,v6,v7,v8,v9,v10,v11,v12,_⟩=>
 cond (decide (v2<(v3.rows.length:Int)))
 (jn (ref11_Cut_j2 n r1) λj2=>
 cond (decide (v2<v1))
 ((idx v3.rows v2).bind λx29=>
 (app 40 v9 ([x29]:List Row)).bind λl30=>
 j2 (v1,v2,v3,v4,v5,v6,v7,v8,l30,v10,v11,v12,()))
 ((idx v3.rows v2).bind λx31=>
 (app 40 v11 ([x31]:List Row)).bind λl32=>
 j2 (v1,v2,v3,v4,v5,v6,v7,v8,v9,v10,l32,v12,())))
 (ref11_Cut_l3 n n (v1,0,v3,v4,v5,v6,v7,v8,v9,v10,v11,v12,()))
def ref11_Cut(n:Nat)(p0:Content)(p1:Int):Option (Content×Content×Key):=
 ref11_Cut_l1 n n (p1,0,p0,(Content.mk 0 ([]:List Row) ([]:List Kid)),(Content.mk 0 ([]:List Row) ([]:List Kid)),(Key.mk 0 0),p0.kind,p0.kind,([]:List Row),([]:List Kid),([]:List Row),([]:List Kid),())
@[reducible] def ref11_Cut_ct:Ct tab:=⟨117,[.st 4,.one (.d (.int .i64))],[],[.st 4,.st 4,.st 1],[],(Content×Content×Key),λy=>(y.1,y.2.1,y.2.2,()),λy=>(y.1,y.2.1,y.2.2.1),λ_=>rfl,λn x=>ref11_Cut n x.1 x.2.1⟩
theorem ref11_Cut_ok:OkC Tryz.prog tab ref11_Cut_ct:=fn_ok (W:=⟨Tryz.prog,tab,tyOf,[],addO,dpO,false⟩) ⟨tabOk,trivial,addOk⟩ (by kernel_rfl) 104 Tryz.f117 (.sq (.n) (.sq (.n) (.sq (.n) (.sq (.n) (.sq (.sq (.n) (.bk none (.lp ⟨[(1,.one (.d (.int .i64))),(2,.one (.box 0 0)),(4,.one (.box 1 0)),(5,.one (.box 2 0)),(6,.one (.box 3 0)),(7,.one (.box 4 0)),(8,.one (.box 5 0)),(9,.one (.d (.int .i64)))],[.bst 4,.bst 4,.bst 4,.bst 1,.box [.d (.int .i64),.own 6,.own 7],.box [.d (.int .i64),.own 8,.own 9],.row 40 (.st 2),.row 100 (.st 3),.row 40 (.st 2),.row 100 (.st 3)],[]⟩ (.sq (.n) (.sq (.bk none (.sq (.n) (.cd (some ⟨[(1,.one (.d (.int .i64))),(2,.one (.box 0 0)),(4,.one (.box 1 0)),(5,.one (.box 2 0)),(6,.one (.box 3 0)),(7,.one (.box 4 0)),(8,.one (.box 5 0)),(9,.one (.d (.int .i64)))],[.bst 4,.bst 4,.bst 4,.bst 1,.box [.d (.int .i64),.own 6,.own 7],.box [.d (.int .i64),.own 8,.own 9],.row 40 (.st 2),.row 100 (.st 3),.row 40 (.st 2),.row 100 (.st 3)],[]⟩) (.n) (.n)))) (.n)))))) (.sq (.sq (.n) (.bk none (.lp ⟨[(1,.one (.d (.int .i64))),(2,.one (.box 0 0)),(4,.one (.box 1 0)),(5,.one (.box 2 0)),(6,.one (.box 3 0)),(7,.one (.box 4 0)),(8,.one (.box 5 0)),(10,.one (.d (.int .i64)))],[.bst 4,.bst 4,.bst 4,.bst 1,.box [.d (.int .i64),.own 6,.own 7],.box [.d (.int .i64),.own 8,.own 9],.row 40 (.st 2),.row 100 (.st 3),.row 40 (.st 2),.row 100 (.st 3)],[]⟩ (.sq (.n) (.sq (.bk none (.sq (.n) (.cd (some ⟨[(1,.one (.d (.int .i64))),(2,.one (.box 0 0)),(4,.one (.box 1 0)),(5,.one (.box 2 0)),(6,.one (.box 3 0)),(7,.one (.box 4 0)),(8,.one (.box 5 0)),(10,.one (.d (.int .i64)))],[.bst 4,.bst 4,.bst 4,.bst 1,.box [.d (.int .i64),.own 6,.own 7],.box [.d (.int .i64),.own 8,.own 9],.row 40 (.st 2),.row 100 (.st 3),.row 40 (.st 2),.row 100 (.st 3)],[]⟩) (.n) (.n)))) (.n)))))) (.sq (.n) (.sq (.sq (.n) (.cd (some ⟨[(4,.one (.box 0 0)),(5,.one (.box 1 0)),(6,.one (.box 2 0)),(7,.one (.box 3 0)),(8,.one (.box 4 0)),(11,.one (.box 5 0))],[.bst 4,.bst 4,.bst 1,.box [.d (.int .i64),.own 6,.own 7],.box [.d (.int .i64),.own 8,.own 9],.bst 1,.row 40 (.st 2),.row 100 (.st 3),.row 40 (.st 2),.row 100 (.st 3)],[]⟩) (.n) (.n))) (.sq (.sq (.n) (.cd (some ⟨[(4,.one (.box 0 0)),(5,.one (.box 1 0)),(6,.one (.box 2 0)),(7,.one (.box 3 0)),(8,.one (.box 4 0)),(11,.one (.box 5 0))],[.bst 4,.bst 4,.bst 1,.box [.d (.int .i64),.own 6,.own 7],.box [.d (.int .i64),.own 8,.own 9],.bst 1,.row 40 (.st 2),.row 100 (.st 3),.row 40 (.st 2),.row 100 (.st 3)],[]⟩) (.n) (.n))) (.n)))))))))) Tryz.func117 Tryz.call117 rfl (by kernel_rfl) (by kernel_rfl) (by kernel_rfl) λn x=>by kernel_rfl
def ref06_table(n:Nat)(p0:Int):Option Bool:=
 jn (fun(b1:Bool)=>
 some b1) λk2=>
 cond (decide (p0≥0))
 (k2 (decide (p0<3)))
 (k2 false)
@[reducible] def ref06_table_ct:Ct tab:=⟨70,[.one (.d (.int .i64))],[],[.one (.d .bool)],[],Bool,λy=>(y,()),λy=>y.1,λ_=>rfl,λn x=>ref06_table n x.1⟩
theorem ref06_table_ok:OkC Tryz.prog tab ref06_table_ct:=fn_ok (W:=⟨Tryz.prog,tab,tyOf,[],addO,dpO,false⟩) ⟨tabOk,trivial,addOk⟩ (by kernel_rfl) 9 Tryz.f70 (.n) Tryz.func70 Tryz.call70 rfl (by kernel_rfl) (by kernel_rfl) (by kernel_rfl) λn x=>by kernel_rfl
def ref06_RightRow(n:Nat)(p0:Row):Option Bool:=
 (ref06_table n p0.key.table).bind λy1=>
 jn (fun(b2:Bool)=>
 some b2) λk3=>
 cond y1
 (k3 (decide ((p0.note.size:Int)≤8)))
 (k3 false)
@[reducible] def ref06_RightRow_ct:Ct tab:=⟨34,[.st 2],[],[.one (.d .bool)],[],Bool,λy=>(y,()),λy=>y.1,λ_=>rfl,λn x=>ref06_RightRow n x.1⟩
theorem ref06_RightRow_ok:OkC Tryz.prog tab ref06_RightRow_ct:=fn_ok (W:=⟨Tryz.prog,tab,tyOf,[ref06_table_ct],addO,dpO,false⟩) ⟨tabOk,⟨ref06_table_ok,trivial⟩,addOk⟩ (by kernel_rfl) 13 Tryz.f34 (.n) Tryz.func34 Tryz.call34 rfl (by kernel_rfl) (by kernel_rfl) (by kernel_rfl) λn x=>by kernel_rfl
def ref06_order(n:Nat)(p0:Key):Option Int:=
 some (IntKind.wrap .i64 ((IntKind.wrap .i64 (p0.table*65536))+(IntKind.wrap .i64 p0.id)))
@[reducible] def ref06_order_ct:Ct tab:=⟨135,[.st 1],[],[.one (.d (.int .i64))],[],Int,λy=>(y,()),λy=>y.1,λ_=>rfl,λn x=>ref06_order n x.1⟩
theorem ref06_order_ok:OkC Tryz.prog tab ref06_order_ct:=fn_ok (W:=⟨Tryz.prog,tab,tyOf,[],addO,dpO,false⟩) ⟨tabOk,trivial,addOk⟩ (by kernel_rfl) 10 Tryz.f135 (.n) Tryz.func135 Tryz.call135 rfl (by kernel_rfl) (by kernel_rfl) (by kernel_rfl) λn x=>by kernel_rfl
def ref06_rows_l1(n:Nat):Nat→(List Row)×(List Row)×Int×Int×Unit→Option Bool:=loopF λr1 ⟨v1,v2,v3,v4,_⟩=>
 cond (decide (v4<v3))
 ((idx v2 v4).bind λx5=>
 (ref06_RightRow n x5).bind λy6=>
 jn (fun(b7:Bool)=>
 cond b7
 (some false)
 (r1 (v1,v2,v3,(IntKind.wrap .i64 (v4+1)),()))) λk8=>
 cond (!y6)
 (k8 true)
 (jn (fun(b9:Bool)=>
 k8 b9) λk10=>
 cond (decide (v4>0))
 ((idx v1 (IntKind.wrap .i64 (v4-1))).bind λx11=>
 (ref06_order n x11.key).bind λy12=>
 (ref06_order n x5.key).bind λy13=>
 k10 (decide (y12≥y13)))
 (k10 false)))
 (some (decide ((v1.length:Int)≤4)))
def ref06_rows(n:Nat)(p0:List Row):Option Bool:=
 ref06_rows_l1 n n (p0,p0,(p0.length:Int),0,())
@[reducible] def ref06_rows_ct:Ct tab:=⟨86,[.one (.d (.sl (.st 2)))],[],[.one (.d .bool)],[],Bool,λy=>(y,()),λy=>y.1,λ_=>rfl,λn x=>ref06_rows n x.1⟩
theorem ref06_rows_ok:OkC Tryz.prog tab ref06_rows_ct:=fn_ok (W:=⟨Tryz.prog,tab,tyOf,[ref06_RightRow_ct,ref06_order_ct],addO,dpO,false⟩) ⟨tabOk,⟨ref06_RightRow_ok,ref06_order_ok,trivial⟩,addOk⟩ (by kernel_rfl) 36 Tryz.f86 (.sq (.n) (.sq (.sq (.n) (.bk none (.lp ⟨[(0,.one (.d (.sl (.st 2)))),(5,.one (.d (.sl (.st 2)))),(6,.one (.d (.int .i64))),(7,.one (.d (.int .i64)))],[],[]⟩ (.n)))) (.n))) Tryz.func86 Tryz.call86 rfl (by kernel_rfl) (by kernel_rfl) (by kernel_rfl) λn x=>by kernel_rfl
def ref06_kids_l2(n:Nat)(r1:(List Kid)×(List Kid)×Int×Int×Unit→Option Bool):Nat→(List Kid)×(List Kid)×Int×Int×(List Kid)×Int×Int×Kid×Unit→Option Bool:=loopF λr2 ⟨v15,v16,v17,v18,v19,v20,v21,v22,_⟩=>
 cond (decide (v21<v20))
 ((idx v19 v21).bind λx23=>
 cond (x23.page==v22.page)
 (some false)
 (r2 (v15,v16,v17,v18,v19,v20,(IntKind.wrap .i64 (v21+1)),v22,())))
 (r1 (v15,v16,v17,(IntKind.wrap .i64 (v18+1)),()))
def ref06_kids_l1(n:Nat):Nat→(List Kid)×(List Kid)×Int×Int×Unit→Option Bool:=loopF λr1 ⟨v1,v2,v3,v4,_⟩=>
 cond (decide (v4<v3))
 ((idx v2 v4).bind λx5=>
 jn (fun(b6:Bool)=>
 jn (fun(b8:Bool)=>
 jn (fun(b10:Bool)=>
 jn (fun(b12:Bool)=>
 cond b12
 (some false)
 ((sub v1 0 v4).bind λl14=>
 ref06_kids_l2 n r1 n (v1,v2,v3,v4,l14,(l14.length:Int),0,x5,()))) λk13=>
 cond b10
 (k13 true)
 (jn (fun(b24:Bool)=>
 k13 b24) λk25=>
 cond (decide (v4>0))
 ((idx v1 (IntKind.wrap .i64 (v4-1))).bind λx26=>
 (ref06_order n x26.least).bind λy27=>
 (ref06_order n x5.least).bind λy28=>
 k25 (decide (y27≥y28)))
 (k25 false))) λk11=>
 cond b8
 (k11 true)
 (jn (fun(b29:Bool)=>
 k11 b29) λk30=>
 cond (v4==0)
 (k30 (!(Key.eqb x5.least (Key.mk 0 0))))
 (k30 false))) λk9=>
 cond b6
 (k9 true)
 ((ref06_table n x5.least.table).bind λy31=>
 k9 (!y31))) λk7=>
 cond (decide (x5.page<1))
 (k7 true)
 (k7 (decide (x5.page≥64))))
 (jn (fun(b32:Bool)=>
 some b32) λk33=>
 cond (decide ((v1.length:Int)≥2))
 (k33 (decide ((v1.length:Int)≤4)))
 (k33 false))
def ref06_kids(n:Nat)(p0:List Kid):Option Bool:=
 ref06_kids_l1 n n (p0,p0,(p0.length:Int),0,())
@[reducible] def ref06_kids_ct:Ct tab:=⟨87,[.one (.d (.sl (.st 3)))],[],[.one (.d .bool)],[],Bool,λy=>(y,()),λy=>y.1,λ_=>rfl,λn x=>ref06_kids n x.1⟩
theorem ref06_kids_ok:OkC Tryz.prog tab ref06_kids_ct:=fn_ok (W:=⟨Tryz.prog,tab,tyOf,[ref06_order_ct,ref06_table_ct],addO,dpO,false⟩) ⟨tabOk,⟨ref06_order_ok,ref06_table_ok,trivial⟩,addOk⟩ (by kernel_rfl) 79 Tryz.f87 (.sq (.n) (.sq (.sq (.n) (.bk none (.lp ⟨[(0,.one (.d (.sl (.st 3)))),(7,.one (.d (.sl (.st 3)))),(8,.one (.d (.int .i64))),(9,.one (.d (.int .i64)))],[],[]⟩ (.sq (.n) (.sq (.n) (.sq (.bk none (.sq (.n) (.sq (.n) (.sq (.n) (.bk none (.lp ⟨[(0,.one (.d (.sl (.st 3)))),(4,.one (.box 0 0)),(7,.one (.d (.sl (.st 3)))),(8,.one (.d (.int .i64))),(9,.one (.d (.int .i64))),(58,.one (.d (.sl (.st 3)))),(59,.one (.d (.int .i64))),(60,.one (.d (.int .i64)))],[.bst 3],[]⟩ (.n))))))) (.n))))))) (.n))) Tryz.func87 Tryz.call87 rfl (by kernel_rfl) (by kernel_rfl) (by kernel_rfl) λn x=>by kernel_rfl
def ref06_Right(n:Nat)(p0:Content):Option Bool:=
 cond (p0.kind==0)
 (jn (fun(b1:Bool)=>
 some b1) λk2=>
 cond ((p0.rows.length:Int)==0)
 (k2 ((p0.kids.length:Int)==0))
 (k2 false))
 (cond (p0.kind==1)
 (jn (fun(b3:Bool)=>
 some b3) λk4=>
 cond ((p0.kids.length:Int)==0)
 ((ref06_rows n p0.rows).bind λy5=>
 k4 y5)
 (k4 false))
 (cond (p0.kind==2)
 (jn (fun(b6:Bool)=>
 some b6) λk7=>
 cond ((p0.rows.length:Int)==0)
 ((ref06_kids n p0.kids).bind λy8=>
 k7 y8)
 (k7 false))
 (some false)))
@[reducible] def ref06_Right_ct:Ct tab:=⟨55,[.st 4],[],[.one (.d .bool)],[],Bool,λy=>(y,()),λy=>y.1,λ_=>rfl,λn x=>ref06_Right n x.1⟩
theorem ref06_Right_ok:OkC Tryz.prog tab ref06_Right_ct:=fn_ok (W:=⟨Tryz.prog,tab,tyOf,[ref06_rows_ct,ref06_kids_ct],addO,dpO,false⟩) ⟨tabOk,⟨ref06_rows_ok,ref06_kids_ok,trivial⟩,addOk⟩ (by kernel_rfl) 39 Tryz.f55 (.n) Tryz.func55 Tryz.call55 rfl (by kernel_rfl) (by kernel_rfl) (by kernel_rfl) λn x=>by kernel_rfl
def ref11_Rises_l3(n:Nat)(r2:Int×Content×Unit→Option Bool):Nat→Int×Int×Content×Unit→Option Bool:=loopF λr3 ⟨v11,v12,v13,_⟩=>
 cond (decide (v12<v11))
 ((idx v13.kids v12).bind λx14=>
 (idx v13.kids v11).bind λx15=>
 cond (x14.page==x15.page)
 (some false)
 (r3 (v11,(IntKind.wrap .i64 (v12+1)),v13,())))
 (r2 ((IntKind.wrap .i64 (v11+1)),v13,()))
def ref11_Rises_l2(n:Nat):Nat→Int×Content×Unit→Option Bool:=loopF λr2 ⟨v6,v7,_⟩=>
 cond (decide (v6<(v7.kids.length:Int)))
 ((idx v7.kids (IntKind.wrap .i64 (v6-1))).bind λx8=>
 (idx v7.kids v6).bind λx9=>
 (ref05_Compare n x8.least x9.least).bind λy10=>
 cond (decide (y10≥0))
 (some false)
 (ref11_Rises_l3 n r2 n (v6,0,v7,())))
 (some true)
def ref11_Rises_l1(n:Nat):Nat→Int×Content×Unit→Option Bool:=loopF λr1 ⟨v1,v2,_⟩=>
 cond (decide (v1<(v2.rows.length:Int)))
 ((idx v2.rows (IntKind.wrap .i64 (v1-1))).bind λx3=>
 (idx v2.rows v1).bind λx4=>
 (ref05_Compare n x3.key x4.key).bind λy5=>
 cond (decide (y5≥0))
 (some false)
 (r1 ((IntKind.wrap .i64 (v1+1)),v2,())))
 (ref11_Rises_l2 n n (1,v2,()))
def ref11_Rises(n:Nat)(p0:Content):Option Bool:=
 ref11_Rises_l1 n n (1,p0,())
@[reducible] def ref11_Rises_ct:Ct tab:=⟨157,[.st 4],[],[.one (.d .bool)],[],Bool,λy=>(y,()),λy=>y.1,λ_=>rfl,λn x=>ref11_Rises n x.1⟩
theorem ref11_Rises_ok:OkC Tryz.prog tab ref11_Rises_ct:=fn_ok (W:=⟨Tryz.prog,tab,tyOf,[ref05_Compare_ct],addO,dpO,false⟩) ⟨tabOk,⟨ref05_Compare_ok,trivial⟩,addOk⟩ (by kernel_rfl) 68 Tryz.f157 (.sq (.n) (.sq (.sq (.n) (.bk none (.lp ⟨[(1,.one (.box 0 0)),(3,.one (.d (.int .i64)))],[.bst 4],[]⟩ (.n)))) (.sq (.sq (.n) (.bk none (.lp ⟨[(1,.one (.box 0 0)),(4,.one (.d (.int .i64)))],[.bst 4],[]⟩ (.sq (.n) (.sq (.bk none (.sq (.n) (.sq (.n) (.bk none (.lp ⟨[(1,.one (.box 0 0)),(4,.one (.d (.int .i64))),(5,.one (.d (.int .i64)))],[.bst 4],[]⟩ (.n)))))) (.n)))))) (.n)))) Tryz.func157 Tryz.call157 rfl (by kernel_rfl) (by kernel_rfl) (by kernel_rfl) λn x=>by kernel_rfl
end
end Go.Proofs.YtlcmdgpjiendmaaGreat
