import Derived.Test.YtlcmdgpjiendmaaGreatTypes
import Derived.Test.YtlcmdgpjiendmaaGreatF4
namespace Go.Proofs.YtlcmdgpjiendmaaGreat
open Go Go.Bur Go.RowKit
set_option linter.unusedVariables false
set_option linter.unusedSimpArgs false
set_option maxRecDepth 100000
noncomputable section
def page_Disown(n:Nat)(p0:Content)(p1:Int):Option (Content×Int):=
 (page_asked n 2 ([p0]:List Content)).bind λy1=>
 cond (y1 !=0)
 (some ((Content.mk 0 ([]:List Row) ([]:List Kid)),y1))
 ((page_behind n p0 p1).bind λy2=>
 jn (fun(b3:Bool)=>
 cond b3
 (some ((Content.mk 0 ([]:List Row) ([]:List Kid)),2))
 ((slices_Clone_Kid n p0.kids).bind λy5=>
 (slices_Delete_Kid n p1 (IntKind.wrap .i64 (p1+1)) y5).bind λy6=>
 (page_inner n y6).bind λy7=>
 (page_one n y7).bind λy8=>
 some (y8.1,y8.2))) λk4=>
 cond (!y2)
 (k4 true)
 ((page_size n p0).bind λy9=>
 k4 (decide (y9≤2))))
@[reducible] def page_Disown_ct:Ct tab:=⟨112,[.st 4,.one (.d (.int .i64))],[],[.st 4,.one (.d (.int .i64))],[],(Content×Int),λy=>(y.1,y.2,()),λy=>(y.1,y.2.1),λ_=>rfl,λn x=>page_Disown n x.1 x.2.1⟩
theorem page_Disown_ok:OkC Tryz.prog tab page_Disown_ct:=fn_ok (W:=⟨Tryz.prog,tab,tyOf,[page_asked_ct,page_behind_ct,slices_Clone_Kid_ct,slices_Delete_Kid_ct,page_inner_ct,page_one_ct,page_size_ct],addO,dpO,false⟩) ⟨tabOk,⟨page_asked_ok,page_behind_ok,slices_Clone_Kid_ok,slices_Delete_Kid_ok,page_inner_ok,page_one_ok,page_size_ok,trivial⟩,addOk⟩ (by kernel_rfl) 35 Tryz.f112 (.n) Tryz.func112 Tryz.call112 rfl (by kernel_rfl) (by kernel_rfl) (by kernel_rfl) λn x=>by kernel_rfl
def page_Level_1(n:Nat)(p0:Int):Option (Content×Content×Key×Int):=
 some ((Content.mk 0 ([]:List Row) ([]:List Kid)),(Content.mk 0 ([]:List Row) ([]:List Kid)),(Key.mk 0 0),p0)
@[reducible] def page_Level_1_ct:Ct tab:=⟨155,[.one (.d (.int .i64))],[],[.st 4,.st 4,.st 1,.one (.d (.int .i64))],[],(Content×Content×Key×Int),λy=>(y.1,y.2.1,y.2.2.1,y.2.2.2,()),λy=>(y.1,y.2.1,y.2.2.1,y.2.2.2.1),λ_=>rfl,λn x=>page_Level_1 n x.1⟩
theorem page_Level_1_ok:OkC Tryz.prog tab page_Level_1_ct:=fn_ok (W:=⟨Tryz.prog,tab,tyOf,[],addO,dpO,false⟩) ⟨tabOk,trivial,addOk⟩ (by kernel_rfl) 10 Tryz.f155 (.n) Tryz.func155 Tryz.call155 rfl (by kernel_rfl) (by kernel_rfl) (by kernel_rfl) λn x=>by kernel_rfl
def page_rises_l2(n:Nat):Nat→(List Kid)×Int×Int×Content×(List (Int×Bool))×Unit→Option Bool:=loopF λr2 ⟨v6,v7,v8,v9,v10,_⟩=>
 cond (decide (v8<v7))
 ((idx v6 v8).bind λx11=>
 (mlook .i64 false v10 x11.page).bind λw12=>
 jn (fun(b13:Bool)=>
 cond b13
 (some false)
 ((mput .i64 v10 x11.page true).bind λl15=>
 r2 (v6,v7,(IntKind.wrap .i64 (v8+1)),v9,l15,()))) λk14=>
 cond w12
 (k14 true)
 (jn (fun(b16:Bool)=>
 k14 b16) λk17=>
 cond (decide (v8>0))
 ((idx v9.kids (IntKind.wrap .i64 (v8-1))).bind λx18=>
 (row_Compare n x18.least x11.least).bind λy19=>
 k17 (decide (y19≥0)))
 (k17 false)))
 (some true)
def page_rises_l1(n:Nat):Nat→Int×Content×Unit→Option Bool:=loopF λr1 ⟨v1,v2,_⟩=>
 cond (decide (v1<(v2.rows.length:Int)))
 ((idx v2.rows (IntKind.wrap .i64 (v1-1))).bind λx3=>
 (idx v2.rows v1).bind λx4=>
 (row_Compare n x3.key x4.key).bind λy5=>
 cond (decide (y5≥0))
 (some false)
 (r1 ((IntKind.wrap .i64 (v1+1)),v2,())))
 (page_rises_l2 n n (v2.kids,(v2.kids.length:Int),0,v2,([]:List (Int×Bool)),()))
def page_rises(n:Nat)(p0:Content):Option Bool:=
 page_rises_l1 n n (1,p0,())
@[reducible] def page_rises_ct:Ct tab:=⟨156,[.st 4],[],[.one (.d .bool)],[],Bool,λy=>(y,()),λy=>y.1,λ_=>rfl,λn x=>page_rises n x.1⟩
theorem page_rises_ok:OkC Tryz.prog tab page_rises_ct:=fn_ok (W:=⟨Tryz.prog,tab,tyOf,[row_Compare_ct],addO,dpO,false⟩) ⟨tabOk,⟨row_Compare_ok,trivial⟩,addOk⟩ (by kernel_rfl) 63 Tryz.f156 (.sq (.n) (.sq (.sq (.n) (.bk none (.lp ⟨[(1,.one (.box 0 0)),(3,.one (.d (.int .i64)))],[.bst 4],[]⟩ (.n)))) (.sq (.n) (.sq (.sq (.n) (.bk none (.lp ⟨[(1,.one (.box 0 0)),(4,.one (.map 1)),(31,.one (.d (.sl (.st 3)))),(32,.one (.d (.int .i64))),(33,.one (.d (.int .i64)))],[.bst 4,.map .i64 3 4 .bool],[]⟩ (.n)))) (.n))))) Tryz.func156 Tryz.call156 rfl (by kernel_rfl) (by kernel_rfl) (by kernel_rfl) λn x=>by kernel_rfl
def page_Level_j2(n:Nat):Key×Content×Content×Key×Content×Content×Content×Unit→Option (Content×Content×Key×Int):=fun⟨v28,v29,v30,v31,v32,v33,v34,_⟩=>
 (page_comes n ([v33,v34]:List Content)).bind λy35=>
 jn (fun(b36:Bool)=>
 cond b36
 ((page_Level_1 n 2).bind λy38=>
 some (y38.1,y38.2.1,y38.2.2.1,y38.2.2.2))
 (some (v33,v34,v28,0))) λk37=>
 cond (y35 !=0)
 (k37 true)
 ((page_rises n v32).bind λy39=>
 k37 (!y39))
def page_Level_j1(n:Nat):Int×Content×Content×Key×Content×Content×Key×Unit→Option (Content×Content×Key×Int):=fun⟨v11,v12,v13,v14,v15,v16,v17,_⟩=>
 (page_joined n v12 v13 v14).bind λy18=>
 jn (page_Level_j2 n) λj2=>
 cond (v12.kind==1)
 ((page_cut_Row n y18.rows v11).bind λy40=>
 cond ((y40.2.length:Int)==0)
 ((page_Level_1 n 2).bind λy41=>
 some (y41.1,y41.2.1,y41.2.2.1,y41.2.2.2))
 ((page_leaf n y40.1).bind λy42=>
 (page_leaf n y40.2).bind λy43=>
 (idx y40.2 0).bind λx44=>
 j2 (x44.key,v15,v16,v17,y18,y42,y43,())))
 ((page_cut_Kid n y18.kids v11).bind λy45=>
 (page_first n (Key.mk 0 0) y45.2).bind λy46=>
 (page_inner n y45.1).bind λy47=>
 (page_inner n y46.2).bind λy48=>
 j2 (y46.1,v15,v16,v17,y18,y47,y48,()))
def page_Level(n:Nat)(p0:Content)(p1:Content)(p2:Key):Option (Content×Content×Key×Int):=
 (page_asked n 0 ([p0,p1]:List Content)).bind λy1=>
 cond (y1 !=0)
 ((page_Level_1 n y1).bind λy2=>
 some (y2.1,y2.2.1,y2.2.2.1,y2.2.2.2))
 ((page_alike n p0 p1).bind λy3=>
 jn (fun(b4:Bool)=>
 cond b4
 ((page_Level_1 n 2).bind λy6=>
 some (y6.1,y6.2.1,y6.2.2.1,y6.2.2.2))
 ((page_size n p0).bind λy7=>
 (page_size n p0).bind λy8=>
 (page_size n p1).bind λy9=>
 jn (page_Level_j1 n) λj1=>
 cond (decide (y8>y9))
 ((page_size n p0).bind λy49=>
 j1 ((IntKind.wrap .i64 (y49-1)),p0,p1,p2,(Content.mk 0 ([]:List Row) ([]:List Kid)),(Content.mk 0 ([]:List Row) ([]:List Kid)),(Key.mk 0 0),()))
 (j1 ((IntKind.wrap .i64 (y7+1)),p0,p1,p2,(Content.mk 0 ([]:List Row) ([]:List Kid)),(Content.mk 0 ([]:List Row) ([]:List Kid)),(Key.mk 0 0),())))) λk5=>
 cond (!y3)
 (k5 true)
 ((page_size n p0).bind λy50=>
 (page_size n p1).bind λy51=>
 k5 (y50==y51)))
@[reducible] def page_Level_ct:Ct tab:=⟨113,[.st 4,.st 4,.st 1],[],[.st 4,.st 4,.st 1,.one (.d (.int .i64))],[],(Content×Content×Key×Int),λy=>(y.1,y.2.1,y.2.2.1,y.2.2.2,()),λy=>(y.1,y.2.1,y.2.2.1,y.2.2.2.1),λ_=>rfl,λn x=>page_Level n x.1 x.2.1 x.2.2.1⟩
theorem page_Level_ok:OkC Tryz.prog tab page_Level_ct:=fn_ok (W:=⟨Tryz.prog,tab,tyOf,[page_asked_ct,page_Level_1_ct,page_alike_ct,page_size_ct,page_joined_ct,page_comes_ct,page_rises_ct,page_cut_Row_ct,page_leaf_ct,page_cut_Kid_ct,page_first_ct,page_inner_ct],addO,dpO,false⟩) ⟨tabOk,⟨page_asked_ok,page_Level_1_ok,page_alike_ok,page_size_ok,page_joined_ok,page_comes_ok,page_rises_ok,page_cut_Row_ok,page_leaf_ok,page_cut_Kid_ok,page_first_ok,page_inner_ok,trivial⟩,addOk⟩ (by kernel_rfl) 127 Tryz.f113 (.sq (.n) (.sq (.n) (.sq (.n) (.sq (.n) (.sq (.n) (.sq (.sq (.n) (.cd (some ⟨[(3,.one (.box 0 0)),(4,.one (.box 1 0)),(5,.one (.box 2 0)),(6,.one (.box 3 0)),(7,.one (.box 4 0)),(8,.one (.box 5 0)),(10,.one (.fn 155 [])),(12,.one (.d (.int .i64)))],[.bst 4,.bst 4,.bst 1,.bst 4,.bst 4,.bst 1],[]⟩) (.n) (.n))) (.sq (.n) (.sq (.n) (.sq (.sq (.n) (.cd (some ⟨[(5,.one (.box 0 0)),(6,.one (.box 1 0)),(7,.one (.box 2 0)),(8,.one (.box 3 0)),(10,.one (.fn 155 [])),(13,.one (.box 4 0)),(14,.one (.box 5 0)),(15,.one (.box 6 0))],[.bst 1,.bst 4,.bst 4,.bst 1,.bst 4,.bst 4,.bst 4],[]⟩) (.sq (.n) (.sq (.n) (.rg [74,75]))) (.n))) (.n)))))))))) Tryz.func113 Tryz.call113 rfl (by kernel_rfl) (by kernel_rfl) (by kernel_rfl) λn x=>by kernel_rfl
def page_Step(n:Nat)(p0:Content)(p1:Int)(p2:Key):Option (Content×Int):=
 (page_asked n 2 ([p0]:List Content)).bind λy1=>
 cond (y1 !=0)
 (some ((Content.mk 0 ([]:List Row) ([]:List Kid)),y1))
 ((page_behind n p0 p1).bind λy2=>
 cond (!y2)
 (some ((Content.mk 0 ([]:List Row) ([]:List Kid)),2))
 ((slices_Clone_Kid n p0.kids).bind λy3=>
 (idx y3 p1).bind λx4=>
 (idx y3 p1).bind λx5=>
 (put y3 p1 (Kid.mk p2 x5.page)).bind λl6=>
 (page_inner n l6).bind λy7=>
 (page_one n y7).bind λy8=>
 some (y8.1,y8.2)))
@[reducible] def page_Step_ct:Ct tab:=⟨114,[.st 4,.one (.d (.int .i64)),.st 1],[],[.st 4,.one (.d (.int .i64))],[],(Content×Int),λy=>(y.1,y.2,()),λy=>(y.1,y.2.1),λ_=>rfl,λn x=>page_Step n x.1 x.2.1 x.2.2.1⟩
theorem page_Step_ok:OkC Tryz.prog tab page_Step_ct:=fn_ok (W:=⟨Tryz.prog,tab,tyOf,[page_asked_ct,page_behind_ct,slices_Clone_Kid_ct,page_inner_ct,page_one_ct],addO,dpO,false⟩) ⟨tabOk,⟨page_asked_ok,page_behind_ok,slices_Clone_Kid_ok,page_inner_ok,page_one_ok,trivial⟩,addOk⟩ (by kernel_rfl) 35 Tryz.f114 (.n) Tryz.func114 Tryz.call114 rfl (by kernel_rfl) (by kernel_rfl) (by kernel_rfl) λn x=>by kernel_rfl
def tree_change_fed_j1(n:Nat):Int×Int×Content×(List Content)×(List Group)×Unit→Option (Bool×(List Content)×(List Group)):=fun⟨v3,v4,v5,v6,v7,_⟩=>
 (idx v5.kids (IntKind.wrap .i64 (v4-1))).bind λx8=>
 (idx v5.kids v4).bind λx9=>
 (idx v5.kids v4).bind λx10=>
 (idx v6 x8.page).bind λx11=>
 (idx v6 x8.page).bind λx12=>
 (idx v6 x9.page).bind λx13=>
 (idx v6 x9.page).bind λx14=>
 (page_Join n x12 x14 x10.least).bind λy15=>
 cond (y15.2==0)
 (jn (fun(b16:Bool)=>
 cond b16
 ((tree_change_group n v6 v7 ([(Sheet.mk 0 y15.1),(Sheet.mk x8.page (Content.mk 0 ([]:List Row) ([]:List Kid))),(Sheet.mk x9.page (Content.mk 0 ([]:List Row) ([]:List Kid)))]:List Sheet)).bind λy18=>
 some (true,y18.1,y18.2))
 ((page_Disown n v5 v4).bind λy19=>
 (tree_change_group n v6 v7 ([(Sheet.mk v3 y19.1),(Sheet.mk x8.page y15.1),(Sheet.mk x9.page (Content.mk 0 ([]:List Row) ([]:List Kid)))]:List Sheet)).bind λy20=>
 some (false,y20.1,y20.2))) λk17=>
 cond (v3==0)
 (k17 ((v5.kids.length:Int)==2))
 (k17 false))
 ((page_Level n x12 x14 x10.least).bind λy21=>
 (page_Step n v5 v4 y21.2.2.1).bind λy22=>
 (tree_change_group n v6 v7 ([(Sheet.mk v3 y22.1),(Sheet.mk x8.page y21.1),(Sheet.mk x9.page y21.2.1)]:List Sheet)).bind λy23=>
 some (false,y23.1,y23.2))
def tree_change_fed(n:Nat)(p1:Int)(p2:Int)(q1:List Content)(q2:List Group):Option (Bool×(List Content)×(List Group)):=
 (idx q1 p1).bind λx1=>
 (idx q1 p1).bind λx2=>
 jn (tree_change_fed_j1 n) λj1=>
 cond ((IntKind.wrap .i64 (p2+1))==(x2.kids.length:Int))
 (j1 (p1,p2,x2,q1,q2,()))
 (j1 (p1,(IntKind.wrap .i64 (p2+1)),x2,q1,q2,()))
@[reducible] def tree_change_fed_ct:Ct tab:=⟨68,[.one (.box 0 0),.one (.d (.int .i64)),.one (.d (.int .i64))],[.box [.own 1,.own 2],.row 47 (.st 4),.row 74 (.st 7)],[.one (.d .bool)],[(some 0,.box [.own 1,.own 2]),(none,.row 47 (.st 4)),(none,.row 74 (.st 7))],(Bool×(List Content)×(List Group)),λy=>(y.1,y.2.1,y.2.2,()),λy=>(y.1,y.2.1,y.2.2.1),λ_=>rfl,λn x=>tree_change_fed n x.1 x.2.1 x.2.2.1 x.2.2.2.1⟩
theorem tree_change_fed_ok:OkC Tryz.prog tab tree_change_fed_ct:=fn_ok (W:=⟨Tryz.prog,tab,tyOf,[page_Join_ct,tree_change_group_ct,page_Disown_ct,page_Level_ct,page_Step_ct],addO,dpO,false⟩) ⟨tabOk,⟨page_Join_ok,tree_change_group_ok,page_Disown_ok,page_Level_ok,page_Step_ok,trivial⟩,addOk⟩ (by kernel_rfl) 138 Tryz.f68 (.sq (.n) (.sq (.n) (.sq (.n) (.sq (.sq (.n) (.cd (some ⟨[(0,.one (.box 0 0)),(1,.one (.d (.int .i64))),(7,.one (.box 1 0)),(8,.one (.d (.int .i64)))],[.box [.own 2,.own 3],.bst 4,.row 47 (.st 4),.row 74 (.st 7)],[(0,0)]⟩) (.n) (.n))) (.n))))) Tryz.func68 Tryz.call68 rfl (by kernel_rfl) (by kernel_rfl) (by kernel_rfl) λn x=>by kernel_rfl
theorem slices_Delete_Row_raw{a0:Option Addr}{c0:Nat}(p0:List (Raw 4))(p1 p2:Int)(r:List (Raw 4))(h:delL p0 p1 p2=some r):
  Meets Tryz.prog 115 #[.slice a0 p0.length c0,.int .i64 p1,.int .i64 p2] [rowF (rawF 4) 40 a0 c0 p0] [] λv A P=>∃(a:Option Addr) (c:Nat),v= .slice a r.length c∧A=[rowF (rawF 4) 40 a c r]∧P=[]:=by
 unfold delL at h
 split at h
 case isFalse=>cases h
 rename_i hb
 obtain⟨hb0,hb1,hb2⟩:=hb
 obtain rfl:=someI h
 obtain⟨i,hi⟩:∃i:Nat,p1=(i:Int):=⟨p1.toNat,by omega⟩
 obtain⟨j,hj⟩:∃j:Nat,p2=(j:Int):=⟨p2.toNat,by omega⟩
 subst hi hj
 simp only[Int.toNat_natCast]
 have hij:i≤j:=by omega
 have hjl:j≤p0.length:=by omega
 refine meets_enter 33 Tryz.func115 Tryz.call115 rfl (by kernel_rfl) (by simp) λC a w hS=> ?_
 have hc:p0.length≤c0:=(row_len (hS.st.own _ (List.mem_cons_self ..))).2.1
 refine k_seq (by kernel_rfl) λK1 hK1=> ?_
 refine k_reg 1 (by kernel_rfl) ?_
 refine r_run 0 1 [0,1,2] [] hS rfl (L':=[(0,.slice a0 p0.length c0),(1,.int .i64 i),(2,.int .i64 j)]) (As':=[rowF (rawF 4) 40 a0 c0 p0]) (ob:=[]) (by kernel_rfl) trivial λa w hS=> ?_
 refine wl_end ?_
 refine hK1 _ _ ?_
 refine k_seq (by kernel_rfl) λK2 hK2=> ?_
 refine k_reg 6 (by kernel_rfl) ?_
 refine r_run 0 6 [0,1,2] [] hS rfl (L':=[(0,.slice a0 p0.length c0),(1,.int .i64 i),(2,.int .i64 j)]) (As':=[rowF (rawF 4) 40 a0 c0 p0]) (ob:=[λ_=>0≤(i:Int)∧(i:Int)≤(j:Int)∧(j:Int)≤(p0.length:Int)∧(p0.length:Int)≤(c0:Int)]) (by kernel_rfl) ⟨Bx.c ⟨hb0,hb1,hb2,by omega⟩,trivial⟩ λa w hS=> ?_
 refine wl_end ?_
 refine hK2 _ _ ?_
 refine k_seq (by kernel_rfl) λK3 hK3=> ?_
 refine k_seq (by kernel_rfl) λK4 hK4=> ?_
 refine k_reg 3 (by kernel_rfl) ?_
 refine r_run 0 3 [0,1,2,16] [] hS rfl (L':=[(0,.slice a0 p0.length c0),(1,.int .i64 i),(2,.int .i64 j),(16,.bool ((i:Int)==(j:Int)))]) (As':=[rowF (rawF 4) 40 a0 c0 p0]) (ob:=[]) (by kernel_rfl) trivial λa w hS=> ?_
 refine wl_end ?_
 refine hK4 _ _ ?_
 refine k_cond ((i:Int)==(j:Int)) hS.has (by kernel_rfl) (by kernel_rfl) (by kernel_rfl) (λhq=> ?_) (λhq=> ?_)
 ·have hij:i=j:=by
   have:=of_decide_eq_true (p:=(i:Int)=(j:Int)) (by simpa using hq)
   omega
  subst hij
  refine k_seq (by kernel_rfl) λK5 hK5=> ?_
  refine k_reg 2 (by kernel_rfl) ?_
  refine r_run 0 2 [6] [] hS rfl (L':=[(6,.slice a0 p0.length c0)]) (As':=[rowF (rawF 4) 40 a0 c0 p0]) (ob:=[]) (by kernel_rfl) trivial λa w hS=> ?_
  refine wl_end ?_
  refine hK5 _ _ ?_
  refine k_ret (by kernel_rfl) ?_
  try simp only[Exit.then,Exit.inBlock]
  refine r_ret hS [.tmp 6] [] (xs:=[.slice a0 p0.length c0]) (ps:=[]) [0] [] rfl (by kernel_rfl) (λhA=>trivial) rfl (λF up=>trivial) ?_
  rw[List.take_append_drop]
  exact⟨a0,c0,rfl,rfl,rfl⟩
 ·have hne:i≠j:=λe=>by
   subst e
   simp at hq
  have hlt:i<j:=by omega
  obtain⟨g,rfl⟩:=row_block (hS.st.own _ (List.mem_cons_self ..)) (by omega)
  refine k_skip (by kernel_rfl) ?_
  refine hK3 _ _ ?_
  refine k_seq (by kernel_rfl) λK5 hK5=> ?_
  refine k_reg 3 (by kernel_rfl) ?_
  refine r_run 0 3 [0,1,2,7] [] hS rfl (L':=[(0,.slice (some ⟨g,0,none⟩) p0.length c0),(1,.int .i64 i),(2,.int .i64 j),(7,.int .i64 (p0.length:Int))]) (As':=[rowF (rawF 4) 40 (some ⟨g,0,none⟩) c0 p0]) (ob:=[]) (by kernel_rfl) trivial λa w hS=> ?_
  refine wl_end ?_
  refine hK5 _ _ ?_
  refine k_seq (by kernel_rfl) λK6 hK6=> ?_
  refine k_draw 6 8 [.val (.slice (some ⟨g,0,none⟩) p0.length c0),.val (.int .i64 i),.val (.slice (slA (some ⟨g,0,none⟩) 0 c0 ((rawF 4)).sz) i c0),.val (.slice (some ⟨g,0,none⟩) p0.length c0),.val (.int .i64 j),.val (.slice (slA (some ⟨g,0,none⟩) j c0 ((rawF 4)).sz) (p0.length-j) (c0-j))] [] [(0,[]),(1,[]),(2,[]),(3,[]),(4,[]),(5,[])] [] (ob:=[λ_=>(0:Int)≤0∧(0:Int)≤(i:Int)∧(i:Int)≤(c0:Int),λ_=>0≤(j:Int)∧(j:Int)≤(p0.length:Int)∧(p0.length:Int)≤(c0:Int)]) (by kernel_rfl) (by kernel_rfl) hS (by kernel_rfl) (λF N0=>by kernel_rfl) (by kernel_rfl) (by kernel_rfl) (by kernel_rfl) (by kernel_rfl) ⟨Bx.c ⟨by omega,by omega,by omega⟩,Bx.c ⟨by omega,by omega,by omega⟩,trivial⟩ ?_ ?_
  ·exact trivial
  intro V a w e hS hq
  refine r_bltS 6 rfl 0 (.row (some ⟨g,0,none⟩) c0 40 ((rawF 4)).sz (i+(p0.length-j)) ((p0.flatMap ((rawF 4)).enc).take (i*((rawF 4)).sz)++(p0.flatMap ((rawF 4)).enc).drop (j*((rawF 4)).sz))) (d:=some 26) (b:= .append) (ts:= #[30,30]) (ty:=30) (vs:= #[.slice (slA (some ⟨g,0,none⟩) 0 c0 ((rawF 4)).sz) i c0,.slice (slA (some ⟨g,0,none⟩) j c0 ((rawF 4)).sz) (p0.length-j) (c0-j)]) hS (by kernel_rfl) rfl (λhA=>run_cut_row (t:=30) (ty:=30) (inf:=Tryz.t40) (by kernel_rfl) (by kernel_rfl) rfl hA (flat_one p0) hij hjl) rfl (by simp[Asn.fp]) λa w hS=> ?_
  have hn':p0.length-(i+(p0.length-j))=j-i:=by omega
  have hs0:slA (some (⟨g,0,none⟩:Addr)) (i+(p0.length-j)) c0 ((rawF 4)).sz=some ⟨g,(i+(p0.length-j))*((rawF 4)).sz,none⟩:=by
   unfold slA;rw[if_neg (by omega)];simp only[Option.map_some,addr_add0]
  refine r_run 7 1 [0,7] [] hS rfl (L':=[(0,.slice (some ⟨g,0,none⟩) (i+(p0.length-j)) c0),(7,.int .i64 (p0.length:Int))]) (As':=[.row (some ⟨g,0,none⟩) c0 40 ((rawF 4)).sz (i+(p0.length-j)) ((p0.flatMap ((rawF 4)).enc).take (i*((rawF 4)).sz)++(p0.flatMap ((rawF 4)).enc).drop (j*((rawF 4)).sz))]) (ob:=[]) (by kernel_rfl) trivial λa w hS=> ?_
  refine wl_end ?_
  refine hK6 _ _ ?_
  refine k_seq (by kernel_rfl) λK7 hK7=> ?_
  refine k_reg 6 (by kernel_rfl) ?_
  refine r_run 0 5 [0,31] [.as 31 (.slice (some ⟨g,(i+(p0.length-j))*((rawF 4)).sz,none⟩) (j-i) (c0-(i+(p0.length-j))))] hS rfl (L':=[(0,.slice (some ⟨g,0,none⟩) (i+(p0.length-j)) c0),(31,.slice (some ⟨g,(i+(p0.length-j))*((rawF 4)).sz,none⟩) (j-i) (c0-(i+(p0.length-j))))]) (As':=[.row (some ⟨g,0,none⟩) c0 40 ((rawF 4)).sz (i+(p0.length-j)) ((p0.flatMap ((rawF 4)).enc).take (i*((rawF 4)).sz)++(p0.flatMap ((rawF 4)).enc).drop (j*((rawF 4)).sz))]) (ob:=[λ_=>0≤((i+(p0.length-j):Nat):Int)∧((i+(p0.length-j):Nat):Int)≤(p0.length:Int)∧(p0.length:Int)≤(c0:Int),λ_=>Value.slice (slA (some ⟨g,0,none⟩) (i+(p0.length-j)) c0 ((rawF 4)).sz) (p0.length-(i+(p0.length-j))) (c0-(i+(p0.length-j)))= .slice (some ⟨g,(i+(p0.length-j))*((rawF 4)).sz,none⟩) (j-i) (c0-(i+(p0.length-j)))]) (by kernel_rfl) ⟨Bx.c ⟨by omega,by omega,by omega⟩,Bx.c (by rw[hs0,hn']),trivial⟩ λa w hS=> ?_
  obtain⟨ds,hd1,hd2,hd3,hd4⟩:=row_full (hS.st.own _ (List.mem_cons_self ..))
  replace hS:=hS.same (B:= .row (some ⟨g,0,none⟩) c0 40 ((rawF 4)).sz c0 ds) 0 rfl (λ_=>hd4) rfl (by simp[Asn.fp])
  refine r_bltS 5 rfl 0 (.row (some ⟨g,0,none⟩) c0 40 ((rawF 4)).sz c0 (spl ds ((i+(p0.length-j))*((rawF 4)).sz) (Builtin.zeroCells ((Tryz.t40.zero).getD undef).cells (j-i)).toList)) (d:=none) (b:= .clear) (ts:= #[30]) (ty:=0) (vs:= #[.slice (some ⟨g,(i+(p0.length-j))*((rawF 4)).sz,none⟩) (j-i) (c0-(i+(p0.length-j)))]) hS (by kernel_rfl) rfl (λhA=>run_clear_row (t:=30) (ty:=0) (inf:=Tryz.t40) (by kernel_rfl) (by kernel_rfl) (by kernel_rfl) (by kernel_rfl) (oneAll (by kernel_rfl)) hA (by rw[←Nat.add_mul];exact Nat.mul_le_mul_right _ (by omega))) rfl (by simp[Asn.fp]) λa w hS=> ?_
  have hcut:(spl ds ((i+(p0.length-j))*((rawF 4)).sz) (Builtin.zeroCells ((Tryz.t40.zero).getD undef).cells (j-i)).toList).take ((i+(p0.length-j))*((rawF 4)).sz)=(p0.take i++p0.drop j).flatMap ((rawF 4)).enc:=by
   have hle:(i+(p0.length-j))*((rawF 4)).sz≤ds.length:=by rw[hd2];exact Nat.mul_le_mul_right _ hd3
   unfold spl
   rw[List.append_assoc,List.take_left' (by rw[List.length_take];omega),hd1,List.flatMap_append,flat_take,flat_drop]
  have hlen:(p0.take i++p0.drop j).length=i+(p0.length-j):=by simp;omega
  replace hS:=hS.same (B:=rowF (rawF 4) 40 (some ⟨g,0,none⟩) c0 (p0.take i++p0.drop j)) 0 rfl (λhA=>by
   have:=row_cut hA (i+(p0.length-j)) (by omega)
   rw[hcut] at this
   unfold rowF
   rw[hlen]
   exact this) rfl (by simp[Asn.fp])
  refine wl_end ?_
  refine hK7 _ _ ?_
  refine k_seq (by kernel_rfl) λK8 hK8=> ?_
  refine k_reg 2 (by kernel_rfl) ?_
  refine r_run 0 2 [6] [] hS rfl (L':=[(6,.slice (some ⟨g,0,none⟩) (i+(p0.length-j)) c0)]) (As':=[rowF (rawF 4) 40 (some ⟨g,0,none⟩) c0 (p0.take i++p0.drop j)]) (ob:=[]) (by kernel_rfl) trivial λa w hS=> ?_
  refine wl_end ?_
  refine hK8 _ _ ?_
  refine k_ret (by kernel_rfl) ?_
  try simp only[Exit.then,Exit.inBlock]
  refine r_ret hS [.tmp 6] [] (xs:=[.slice (some ⟨g,0,none⟩) (i+(p0.length-j)) c0]) (ps:=[]) [0] [] rfl (by kernel_rfl) (λhA=>trivial) rfl (λF up=>trivial) ?_
  exact⟨some ⟨g,0,none⟩,c0,by rw[hlen];rfl,rfl,rfl⟩
def slices_Delete_Row(n:Nat)(p1 p2:Int)(q0:List Row):Option (List Row):=delL q0 p1 p2
@[reducible] def slices_Delete_Row_ct:Ct tab:=⟨115,[.one (.own 0),.one (.d (.int .i64)),.one (.d (.int .i64))],[.row 40 (.st 2)],[.one (.own 0)],[(none,.row 40 (.st 2))],List Row,λy=>(y,()),λy=>y.1,λ_=>rfl,λn x=>slices_Delete_Row n x.1 x.2.1 x.2.2.1⟩
theorem slices_Delete_Row_ok:OkC Tryz.prog tab slices_Delete_Row_ct:=del_ok (t:= .st 2) (m:=4) tabOk rfl Tryz.call115 λp0 p1 p2 r h=>slices_Delete_Row_raw p0 p1 p2 r h
def page_Take(n:Nat)(p0:Content)(p1:Key):Option (Content×Row×Int):=
 (page_Get n p0 p1).bind λy1=>
 cond (y1.2 !=0)
 (some ((Content.mk 0 ([]:List Row) ([]:List Kid)),(Row.mk (Key.mk 0 0) 0 ByteArray.empty),y1.2))
 ((row_Find n p0.rows p1).bind λy2=>
 (slices_Clone_Row n p0.rows).bind λy3=>
 (slices_Delete_Row n y2.1 (IntKind.wrap .i64 (y2.1+1)) y3).bind λy4=>
 (page_leaf n y4).bind λy5=>
 some (y5,y1.1,0))
@[reducible] def page_Take_ct:Ct tab:=⟨69,[.st 4,.st 1],[],[.st 4,.st 2,.one (.d (.int .i64))],[],(Content×Row×Int),λy=>(y.1,y.2.1,y.2.2,()),λy=>(y.1,y.2.1,y.2.2.1),λ_=>rfl,λn x=>page_Take n x.1 x.2.1⟩
theorem page_Take_ok:OkC Tryz.prog tab page_Take_ct:=fn_ok (W:=⟨Tryz.prog,tab,tyOf,[page_Get_ct,row_Find_ct,slices_Clone_Row_ct,slices_Delete_Row_ct,page_leaf_ct],addO,dpO,false⟩) ⟨tabOk,⟨page_Get_ok,row_Find_ok,slices_Clone_Row_ok,slices_Delete_Row_ok,page_leaf_ok,trivial⟩,addOk⟩ (by kernel_rfl) 38 Tryz.f69 (.n) Tryz.func69 Tryz.call69 rfl (by kernel_rfl) (by kernel_rfl) (by kernel_rfl) λn x=>by kernel_rfl
def tree_Take_j2(n:Nat)(r1:Int×Key×Row×Row×(List Content)×(List Group)×Unit→Option (Row×Int×(List Group))):Int×Key×Row×Row×(List Content)×(List Group)×Unit→Option (Row×Int×(List Group)):=fun⟨v23,v24,v25,v26,v27,v28,_⟩=>
 r1 (v23,v24,v25,v26,v27,v28,())
def tree_Take_l1(n:Nat):Nat→Int×Key×Row×Row×(List Content)×(List Group)×Unit→Option (Row×Int×(List Group)):=loopF λr1 ⟨v3,v4,v5,v6,v7,v8,_⟩=>
 (idx v7 v3).bind λx9=>
 (idx v7 v3).bind λx10=>
 cond (x10.kind==2)
 (jn (tree_Take_j2 n r1) λj2=>
 (idx v7 v3).bind λx29=>
 (idx v7 v3).bind λx30=>
 (page_Kid n x30 v4).bind λy31=>
 (idx v7 v3).bind λx32=>
 (idx v7 v3).bind λx33=>
 (idx x33.kids y31.1).bind λx34=>
 (idx v7 x34.page).bind λx35=>
 (idx v7 x34.page).bind λx36=>
 (page_Small n x36).bind λy37=>
 cond y37
 ((tree_change_fed n v3 y31.1 v7 v8).bind λy38=>
 cond y38.1
 (j2 (v3,v4,v5,v6,y38.2.1,y38.2.2,()))
 ((tree_change_down n (tree_change.mk (Forest.mk y38.2.1) y38.2.2) v3 v4).bind λy39=>
 j2 (y39,v4,v5,v6,y38.2.1,y38.2.2,())))
 (cond false
 (j2 (v3,v4,v5,v6,v7,v8,()))
 ((tree_change_down n (tree_change.mk (Forest.mk v7) v8) v3 v4).bind λy40=>
 j2 (y40,v4,v5,v6,v7,v8,()))))
 ((idx v7 v3).bind λx41=>
 (idx v7 v3).bind λx42=>
 (page_Take n x42 v4).bind λy43=>
 (tree_change_group n v7 v8 ([(Sheet.mk v3 y43.1)]:List Sheet)).bind λy44=>
 some (v6,0,y44.2))
def tree_Take(n:Nat)(p0:Forest)(p1:Key):Option (Row×Int×(List Group)):=
 (tree_Get n p0 p1).bind λy1=>
 cond (y1.2 !=0)
 (some ((Row.mk (Key.mk 0 0) 0 ByteArray.empty),y1.2,([]:List Group)))
 ((tree_begun n p0).bind λy2=>
 tree_Take_l1 n n (0,p1,(Row.mk (Key.mk 0 0) 0 ByteArray.empty),y1.1,y2.1,y2.2,()))
@[reducible] def tree_Take_ct:Ct tab:=⟨33,[.st 5,.st 1],[],[.one (.own 0),.st 2,.one (.d (.int .i64))],[(none,.row 74 (.st 7))],(Row×Int×(List Group)),λy=>(y.1,y.2.1,y.2.2,()),λy=>(y.1,y.2.1,y.2.2.1),λ_=>rfl,λn x=>tree_Take n x.1 x.2.1⟩
theorem tree_Take_ok:OkC Tryz.prog tab tree_Take_ct:=fn_ok (W:=⟨Tryz.prog,tab,tyOf,[tree_Get_ct,tree_begun_ct,page_Kid_ct,page_Small_ct,tree_change_fed_ct,tree_change_down_ct,page_Take_ct,tree_change_group_ct],addO,dpO,false⟩) ⟨tabOk,⟨tree_Get_ok,tree_begun_ok,page_Kid_ok,page_Small_ok,tree_change_fed_ok,tree_change_down_ok,page_Take_ok,tree_change_group_ok,trivial⟩,addOk⟩ (by kernel_rfl) 107 Tryz.f33 (.sq (.n) (.sq (.n) (.sq (.n) (.sq (.n) (.sq (.bk none (.lp ⟨[(3,.one (.box 0 0)),(5,.one (.box 1 0)),(7,.one (.box 2 0)),(9,.one (.box 3 0)),(10,.one (.d (.int .i64)))],[.bst 1,.bst 2,.bst 2,.box [.own 4,.own 5],.row 47 (.st 4),.row 74 (.st 7)],[]⟩ (.sq (.n) (.bk (some ⟨[(3,.one (.box 0 0)),(5,.one (.box 1 0)),(7,.one (.box 2 0)),(9,.one (.box 3 0)),(10,.one (.d (.int .i64)))],[.bst 1,.bst 2,.bst 2,.box [.own 4,.own 5],.row 47 (.st 4),.row 74 (.st 7)],[]⟩) (.sq (.n) (.sq (.sq (.rg [1000000]) (.n)) (.n))))))) (.n)))))) Tryz.func33 Tryz.call33 rfl (by kernel_rfl) (by kernel_rfl) (by kernel_rfl) λn x=>by kernel_rfl
def law13_large_l2(n:Nat)(r1:(List Group)×Int×Int×Unit→Option Bool):Nat→(List Group)×Int×Int×(List Sheet)×Int×Int×Unit→Option Bool:=loopF λr2 ⟨v5,v6,v7,v8,v9,v10,_⟩=>
 cond (decide (v10<v9))
 ((idx v8 v10).bind λx11=>
 (law13_over n (Forest.mk ([x11.content]:List Content))).bind λy12=>
 cond y12
 (some true)
 (r2 (v5,v6,v7,v8,v9,(IntKind.wrap .i64 (v10+1)),())))
 (r1 (v5,v6,(IntKind.wrap .i64 (v7+1)),()))
def law13_large_l1(n:Nat):Nat→(List Group)×Int×Int×Unit→Option Bool:=loopF λr1 ⟨v1,v2,v3,_⟩=>
 cond (decide (v3<v2))
 ((idx v1 v3).bind λx4=>
 cond (decide ((x4.sheets.length:Int)>70))
 (some true)
 (law13_large_l2 n r1 n (v1,v2,v3,x4.sheets,(x4.sheets.length:Int),0,())))
 (some false)
def law13_large(n:Nat)(p0:List Group):Option Bool:=
 cond (decide ((p0.length:Int)>20))
 (some true)
 (law13_large_l1 n n (p0,(p0.length:Int),0,()))
@[reducible] def law13_large_ct:Ct tab:=⟨38,[.one (.d (.sl (.st 7)))],[],[.one (.d .bool)],[],Bool,λy=>(y,()),λy=>y.1,λ_=>rfl,λn x=>law13_large n x.1⟩
theorem law13_large_ok:OkC Tryz.prog tab law13_large_ct:=fn_ok (W:=⟨Tryz.prog,tab,tyOf,[law13_over_ct],addO,dpO,false⟩) ⟨tabOk,⟨law13_over_ok,trivial⟩,addOk⟩ (by kernel_rfl) 34 Tryz.f38 (.sq (.n) (.sq (.n) (.sq (.sq (.n) (.bk none (.lp ⟨[(10,.one (.d (.sl (.st 7)))),(11,.one (.d (.int .i64))),(12,.one (.d (.int .i64)))],[],[]⟩ (.sq (.n) (.sq (.n) (.sq (.bk none (.sq (.n) (.sq (.n) (.sq (.n) (.bk none (.lp ⟨[(10,.one (.d (.sl (.st 7)))),(11,.one (.d (.int .i64))),(12,.one (.d (.int .i64))),(21,.one (.d (.sl (.st 6)))),(22,.one (.d (.int .i64))),(23,.one (.d (.int .i64)))],[],[]⟩ (.n))))))) (.n))))))) (.n)))) Tryz.func38 Tryz.call38 rfl (by kernel_rfl) (by kernel_rfl) (by kernel_rfl) λn x=>by kernel_rfl
def law13_TreeRefuses(n:Nat)(p0:Forest)(p1:Row)(p2:List Group):Option Bool:=
 (law13_wakes n).bind λy1=>
 cond (!y1)
 (some false)
 ((law13_over n p0).bind λy2=>
 jn (fun(b3:Bool)=>
 jn (fun(b5:Bool)=>
 cond b5
 (some true)
 ((tree_Put n p0 p1).bind λy7=>
 (tree_Take n p0 p1.key).bind λy8=>
 (tree_Apply n p0 p2).bind λy9=>
 (ref13_Right n p0).bind λy10=>
 cond (!y10)
 (jn (fun(b11:Bool)=>
 jn (fun(b13:Bool)=>
 jn (fun(b15:Bool)=>
 jn (fun(b17:Bool)=>
 jn (fun(b19:Bool)=>
 jn (fun(b21:Bool)=>
 some b21) λk22=>
 cond b19
 (k22 (y9.2==230))
 (k22 false)) λk20=>
 cond b17
 (k20 ((y9.1.pages.length:Int)==0))
 (k20 false)) λk18=>
 cond b15
 (k18 (y8.2.1==230))
 (k18 false)) λk16=>
 cond b13
 (k16 (Row.eqb y8.1 (Row.mk (Key.mk 0 0) 0 ByteArray.empty)))
 (k16 false)) λk14=>
 cond b11
 (k14 ((y8.2.2.length:Int)==0))
 (k14 false)) λk12=>
 cond ((y7.2.length:Int)==0)
 (k12 (y7.1==230))
 (k12 false))
 (jn (fun(b23:Bool)=>
 jn (fun(b25:Bool)=>
 some b25) λk26=>
 cond b23
 (k26 (y9.2 !=230))
 (k26 false)) λk24=>
 cond (y7.1 !=230)
 (k24 (y8.2.1 !=230))
 (k24 false)))) λk6=>
 cond b3
 (k6 true)
 (k6 (decide ((p1.note.size:Int)>100)))) λk4=>
 cond y2
 (k4 true)
 ((law13_large n p2).bind λy27=>
 k4 y27))
@[reducible] def law13_TreeRefuses_ct:Ct tab:=⟨7,[.st 5,.st 2,.one (.d (.sl (.st 7)))],[],[.one (.d .bool)],[],Bool,λy=>(y,()),λy=>y.1,λ_=>rfl,λn x=>law13_TreeRefuses n x.1 x.2.1 x.2.2.1⟩
theorem law13_TreeRefuses_ok:OkC Tryz.prog tab law13_TreeRefuses_ct:=fn_ok (W:=⟨Tryz.prog,tab,tyOf,[law13_wakes_ct,law13_over_ct,tree_Put_ct,tree_Take_ct,tree_Apply_ct,ref13_Right_ct,law13_large_ct],addO,dpO,false⟩) ⟨tabOk,⟨law13_wakes_ok,law13_over_ok,tree_Put_ok,tree_Take_ok,tree_Apply_ok,ref13_Right_ok,law13_large_ok,trivial⟩,addOk⟩ (by kernel_rfl) 92 Tryz.f7 (.n) Tryz.func7 Tryz.call7 rfl (by kernel_rfl) (by kernel_rfl) (by kernel_rfl) λn x=>by kernel_rfl
end
end Go.Proofs.YtlcmdgpjiendmaaGreat
