import Derived.Test.YtlcmdgpjiendmaaGreatTypes
import Derived.Test.YtlcmdgpjiendmaaGreatF0
namespace Go.Proofs.YtlcmdgpjiendmaaGreat
open Go Go.Bur Go.RowKit
set_option linter.unusedVariables false
set_option linter.unusedSimpArgs false
set_option maxRecDepth 100000
noncomputable section
def slices_Clone_Row(n:Nat)(p0:List Row):Option ((List Row)):=
 nilC p0.isEmpty
 (some ([]:List Row))
 ((app 40 ([]:List Row) p0).bind λl1=>
 some l1)
@[reducible] def slices_Clone_Row_ct:Ct tab:=⟨101,[.one (.d (.sl (.st 2)))],[],[.one (.own 0)],[(none,.row 40 (.st 2))],((List Row)),λy=>(y,()),λy=>y.1,λ_=>rfl,λn x=>slices_Clone_Row n x.1⟩
theorem slices_Clone_Row_ok:OkC Tryz.prog tab slices_Clone_Row_ct:=fn_ok (W:=⟨Tryz.prog,tab,tyOf,[],addO,dpO,false⟩) ⟨tabOk,trivial,addOk⟩ (by kernel_rfl) 8 Tryz.f101 (.n) Tryz.func101 Tryz.call101 rfl (by kernel_rfl) (by kernel_rfl) (by kernel_rfl) λn x=>by kernel_rfl
def page_cut_Row(n:Nat)(p0:List Row)(p1:Int):Option ((List Row)×(List Row)):=
 (sub p0 0 p1).bind λl1=>
 (slices_Clone_Row n l1).bind λy2=>
 (sub p0 p1 (p0.length:Int)).bind λl3=>
 (slices_Clone_Row n l3).bind λy4=>
 some (y2,y4)
@[reducible] def page_cut_Row_ct:Ct tab:=⟨136,[.one (.d (.sl (.st 2))),.one (.d (.int .i64))],[],[.one (.own 0),.one (.own 1)],[(none,.row 40 (.st 2)),(none,.row 40 (.st 2))],((List Row)×(List Row)),λy=>(y.1,y.2,()),λy=>(y.1,y.2.1),λ_=>rfl,λn x=>page_cut_Row n x.1 x.2.1⟩
theorem page_cut_Row_ok:OkC Tryz.prog tab page_cut_Row_ct:=fn_ok (W:=⟨Tryz.prog,tab,tyOf,[slices_Clone_Row_ct],addO,dpO,false⟩) ⟨tabOk,⟨slices_Clone_Row_ok,trivial⟩,addOk⟩ (by kernel_rfl) 14 Tryz.f136 (.n) Tryz.func136 Tryz.call136 rfl (by kernel_rfl) (by kernel_rfl) (by kernel_rfl) λn x=>by kernel_rfl
def page_leaf(n:Nat)(p0:List Row):Option Content:=
 some (Content.mk 1 p0 ([]:List Kid))
@[reducible] def page_leaf_ct:Ct tab:=⟨107,[.one (.d (.sl (.st 2)))],[],[.st 4],[],Content,λy=>(y,()),λy=>y.1,λ_=>rfl,λn x=>page_leaf n x.1⟩
theorem page_leaf_ok:OkC Tryz.prog tab page_leaf_ct:=fn_ok (W:=⟨Tryz.prog,tab,tyOf,[],addO,dpO,false⟩) ⟨tabOk,trivial,addOk⟩ (by kernel_rfl) 5 Tryz.f107 (.n) Tryz.func107 Tryz.call107 rfl (by kernel_rfl) (by kernel_rfl) (by kernel_rfl) λn x=>by kernel_rfl
def slices_Clone_Kid(n:Nat)(p0:List Kid):Option ((List Kid)):=
 nilC p0.isEmpty
 (some ([]:List Kid))
 ((app 24 ([]:List Kid) p0).bind λl1=>
 some l1)
@[reducible] def slices_Clone_Kid_ct:Ct tab:=⟨144,[.one (.d (.sl (.st 3)))],[],[.one (.own 0)],[(none,.row 100 (.st 3))],((List Kid)),λy=>(y,()),λy=>y.1,λ_=>rfl,λn x=>slices_Clone_Kid n x.1⟩
theorem slices_Clone_Kid_ok:OkC Tryz.prog tab slices_Clone_Kid_ct:=fn_ok (W:=⟨Tryz.prog,tab,tyOf,[],addO,dpO,false⟩) ⟨tabOk,trivial,addOk⟩ (by kernel_rfl) 8 Tryz.f144 (.n) Tryz.func144 Tryz.call144 rfl (by kernel_rfl) (by kernel_rfl) (by kernel_rfl) λn x=>by kernel_rfl
def page_cut_Kid(n:Nat)(p0:List Kid)(p1:Int):Option ((List Kid)×(List Kid)):=
 (sub p0 0 p1).bind λl1=>
 (slices_Clone_Kid n l1).bind λy2=>
 (sub p0 p1 (p0.length:Int)).bind λl3=>
 (slices_Clone_Kid n l3).bind λy4=>
 some (y2,y4)
@[reducible] def page_cut_Kid_ct:Ct tab:=⟨137,[.one (.d (.sl (.st 3))),.one (.d (.int .i64))],[],[.one (.own 0),.one (.own 1)],[(none,.row 100 (.st 3)),(none,.row 100 (.st 3))],((List Kid)×(List Kid)),λy=>(y.1,y.2,()),λy=>(y.1,y.2.1),λ_=>rfl,λn x=>page_cut_Kid n x.1 x.2.1⟩
theorem page_cut_Kid_ok:OkC Tryz.prog tab page_cut_Kid_ct:=fn_ok (W:=⟨Tryz.prog,tab,tyOf,[slices_Clone_Kid_ct],addO,dpO,false⟩) ⟨tabOk,⟨slices_Clone_Kid_ok,trivial⟩,addOk⟩ (by kernel_rfl) 14 Tryz.f137 (.n) Tryz.func137 Tryz.call137 rfl (by kernel_rfl) (by kernel_rfl) (by kernel_rfl) λn x=>by kernel_rfl
def page_first(n:Nat)(p1:Key)(q0:List Kid):Option (Key×(List Kid)):=
 (idx q0 0).bind λx1=>
 (idx q0 0).bind λx2=>
 (idx q0 0).bind λx3=>
 (idx q0 0).bind λx4=>
 (put q0 0 (Kid.mk p1 x4.page)).bind λl5=>
 some (x2.least,l5)
@[reducible] def page_first_ct:Ct tab:=⟨138,[.one (.own 0),.st 1],[.row 100 (.st 3)],[.st 1],[(some 0,.row 100 (.st 3))],(Key×(List Kid)),λy=>(y.1,y.2,()),λy=>(y.1,y.2.1),λ_=>rfl,λn x=>page_first n x.1 x.2.1⟩
theorem page_first_ok:OkC Tryz.prog tab page_first_ct:=fn_ok (W:=⟨Tryz.prog,tab,tyOf,[],addO,dpO,false⟩) ⟨tabOk,trivial,addOk⟩ (by kernel_rfl) 15 Tryz.f138 (.n) Tryz.func138 Tryz.call138 rfl (by kernel_rfl) (by kernel_rfl) (by kernel_rfl) λn x=>by kernel_rfl
def page_inner(n:Nat)(p0:List Kid):Option Content:=
 some (Content.mk 2 ([]:List Row) p0)
@[reducible] def page_inner_ct:Ct tab:=⟨139,[.one (.d (.sl (.st 3)))],[],[.st 4],[],Content,λy=>(y,()),λy=>y.1,λ_=>rfl,λn x=>page_inner n x.1⟩
theorem page_inner_ok:OkC Tryz.prog tab page_inner_ct:=fn_ok (W:=⟨Tryz.prog,tab,tyOf,[],addO,dpO,false⟩) ⟨tabOk,trivial,addOk⟩ (by kernel_rfl) 5 Tryz.f139 (.n) Tryz.func139 Tryz.call139 rfl (by kernel_rfl) (by kernel_rfl) (by kernel_rfl) λn x=>by kernel_rfl
def page_Split(n:Nat)(p0:Content):Option (Content×Content×Key×Int):=
 (page_asked n 0 ([p0]:List Content)).bind λy1=>
 cond (y1 !=0)
 (some ((Content.mk 0 ([]:List Row) ([]:List Kid)),(Content.mk 0 ([]:List Row) ([]:List Kid)),(Key.mk 0 0),y1))
 ((page_full n p0).bind λy2=>
 cond (!y2)
 (some ((Content.mk 0 ([]:List Row) ([]:List Kid)),(Content.mk 0 ([]:List Row) ([]:List Kid)),(Key.mk 0 0),2))
 (cond (p0.kind==1)
 ((page_cut_Row n p0.rows 2).bind λy3=>
 (page_leaf n y3.1).bind λy4=>
 (page_leaf n y3.2).bind λy5=>
 (idx y3.2 0).bind λx6=>
 some (y4,y5,x6.key,0))
 ((page_cut_Kid n p0.kids 2).bind λy7=>
 (page_first n (Key.mk 0 0) y7.2).bind λy8=>
 (page_inner n y7.1).bind λy9=>
 (page_inner n y8.2).bind λy10=>
 some (y9,y10,y8.1,0))))
@[reducible] def page_Split_ct:Ct tab:=⟨94,[.st 4],[],[.st 4,.st 4,.st 1,.one (.d (.int .i64))],[],(Content×Content×Key×Int),λy=>(y.1,y.2.1,y.2.2.1,y.2.2.2,()),λy=>(y.1,y.2.1,y.2.2.1,y.2.2.2.1),λ_=>rfl,λn x=>page_Split n x.1⟩
theorem page_Split_ok:OkC Tryz.prog tab page_Split_ct:=fn_ok (W:=⟨Tryz.prog,tab,tyOf,[page_asked_ct,page_full_ct,page_cut_Row_ct,page_leaf_ct,page_cut_Kid_ct,page_first_ct,page_inner_ct],addO,dpO,false⟩) ⟨tabOk,⟨page_asked_ok,page_full_ok,page_cut_Row_ok,page_leaf_ok,page_cut_Kid_ok,page_first_ok,page_inner_ok,trivial⟩,addOk⟩ (by kernel_rfl) 58 Tryz.f94 (.sq (.n) (.sq (.n) (.sq (.n) (.sq (.sq (.n) (.cd none (.sq (.n) (.sq (.rg [34,35]) (.n))) (.n))) (.sq (.n) (.sq (.n) (.sq (.rg [48,49]) (.n)))))))) Tryz.func94 Tryz.call94 rfl (by kernel_rfl) (by kernel_rfl) (by kernel_rfl) λn x=>by kernel_rfl
def slices_Index_int_l1(n:Nat):Nat→(List Int)×Int×Int×Int×Unit→Option Int:=loopF λr1 ⟨v1,v2,v3,v4,_⟩=>
 cond (decide (v4<v3))
 ((idx v1 v4).bind λx5=>
 cond (v2==x5)
 (some v4)
 (r1 (v1,v2,v3,(IntKind.wrap .i64 (v4+1)),())))
 (some (-1))
def slices_Index_int(n:Nat)(p0:List Int)(p1:Int):Option Int:=
 slices_Index_int_l1 n n (p0,p1,(p0.length:Int),0,())
@[reducible] def slices_Index_int_ct:Ct tab:=⟨169,[.one (.d (.sl (.int .i64))),.one (.d (.int .i64))],[],[.one (.d (.int .i64))],[],Int,λy=>(y,()),λy=>y.1,λ_=>rfl,λn x=>slices_Index_int n x.1 x.2.1⟩
theorem slices_Index_int_ok:OkC Tryz.prog tab slices_Index_int_ct:=fn_ok (W:=⟨Tryz.prog,tab,tyOf,[],addO,dpO,false⟩) ⟨tabOk,trivial,addOk⟩ (by kernel_rfl) 19 Tryz.f169 (.sq (.n) (.sq (.sq (.n) (.bk none (.lp ⟨[(0,.one (.d (.sl (.int .i64)))),(1,.one (.d (.int .i64))),(7,.one (.d (.int .i64))),(8,.one (.d (.int .i64)))],[],[]⟩ (.n)))) (.n))) Tryz.func169 Tryz.call169 rfl (by kernel_rfl) (by kernel_rfl) (by kernel_rfl) λn x=>by kernel_rfl
def slices_Contains_int(n:Nat)(p0:List Int)(p1:Int):Option Bool:=
 (slices_Index_int n p0 p1).bind λy1=>
 some (decide (y1≥0))
@[reducible] def slices_Contains_int_ct:Ct tab:=⟨140,[.one (.d (.sl (.int .i64))),.one (.d (.int .i64))],[],[.one (.d .bool)],[],Bool,λy=>(y,()),λy=>y.1,λ_=>rfl,λn x=>slices_Contains_int n x.1 x.2.1⟩
theorem slices_Contains_int_ok:OkC Tryz.prog tab slices_Contains_int_ct:=fn_ok (W:=⟨Tryz.prog,tab,tyOf,[slices_Index_int_ct],addO,dpO,false⟩) ⟨tabOk,⟨slices_Index_int_ok,trivial⟩,addOk⟩ (by kernel_rfl) 9 Tryz.f140 (.n) Tryz.func140 Tryz.call140 rfl (by kernel_rfl) (by kernel_rfl) (by kernel_rfl) λn x=>by kernel_rfl
def tree_change_free_l1(n:Nat):Nat→(List Int)×(List Content)×Int×Int×Unit→Option (Int×Bool):=loopF λr1 ⟨v1,v2,v3,v4,_⟩=>
 cond (decide (v4<v3))
 ((idx v2 v4).bind λx5=>
 jn (fun(b6:Bool)=>
 jn (fun(b8:Bool)=>
 cond b8
 (some (v4,true))
 (r1 (v1,v2,v3,(IntKind.wrap .i64 (v4+1)),()))) λk9=>
 cond b6
 ((slices_Contains_int n v1 v4).bind λy10=>
 k9 (!y10))
 (k9 false)) λk7=>
 cond (decide (v4>0))
 (k7 (x5.kind==0))
 (k7 false))
 (some (0,false))
def tree_change_free(n:Nat)(p0:tree_change)(p1:List Int):Option (Int×Bool):=
 tree_change_free_l1 n n (p1,p0.f.pages,(p0.f.pages.length:Int),0,())
@[reducible] def tree_change_free_ct:Ct tab:=⟨95,[.one (.ro (.st 8)),.one (.d (.sl (.int .i64)))],[],[.one (.d (.int .i64)),.one (.d .bool)],[],(Int×Bool),λy=>(y.1,y.2,()),λy=>(y.1,y.2.1),λ_=>rfl,λn x=>tree_change_free n x.1 x.2.1⟩
theorem tree_change_free_ok:OkC Tryz.prog tab tree_change_free_ct:=fn_ok (W:=⟨Tryz.prog,tab,tyOf,[slices_Contains_int_ct],addO,dpO,false⟩) ⟨tabOk,⟨slices_Contains_int_ok,trivial⟩,addOk⟩ (by kernel_rfl) 34 Tryz.f95 (.sq (.n) (.sq (.sq (.n) (.bk none (.lp ⟨[(1,.one (.d (.sl (.int .i64)))),(12,.one (.d (.sl (.st 4)))),(13,.one (.d (.int .i64))),(14,.one (.d (.int .i64)))],[],[]⟩ (.n)))) (.n))) Tryz.func95 Tryz.call95 rfl (by kernel_rfl) (by kernel_rfl) (by kernel_rfl) λn x=>by kernel_rfl
theorem slices_Insert_Kid_raw{a0:Option Addr}{c0:Nat}{a2:Option Addr}{c2:Nat}(p0:List (Raw 3))(p1:Int)(p2:List (Raw 3))(r:List (Raw 3))(h:insL 24 p0 p1 p2=some r):
  Meets Tryz.prog 143 #[.slice a0 p0.length c0,.int .i64 p1,.slice a2 p2.length c2] [rowF (rawF 3) 100 a0 c0 p0,rowF (rawF 3) 100 a2 c2 p2] [] λv A P=>∃(a:Option Addr) (c:Nat),v= .slice a r.length c∧A=[rowF (rawF 3) 100 a c r]∧P=[]:=by
 unfold insL at h
 split at h
 case isFalse=>cases h
 rename_i hb
 obtain⟨hb0,hb1⟩:=hb
 obtain⟨i,hi⟩:∃i:Nat,p1=(i:Int):=⟨p1.toNat,by omega⟩
 subst hi
 simp only[Int.toNat_natCast] at h
 have hil:i≤p0.length:=by omega
 split at h
 case h_2=>cases h
 rename_i hroom
 have hr:=someI h
 have hrl:r.length=p0.length+p2.length:=by rw[←hr];simp;omega
 have hbytes:(p0.length+p2.length)*24≤140737488355328:=Nat.le_of_ble_eq_true hroom
 have hsm:p0.length+p2.length<9223372036854775808:=by omega
 refine meets_enter 95 Tryz.func143 Tryz.call143 rfl (by kernel_rfl) (by simp) λC a w hS=> ?_
 have hc:p0.length≤c0:=(row_len (hS.st.own _ (List.mem_cons_self ..))).2.1
 refine k_seq (by kernel_rfl) λK1 hK1=> ?_
 refine k_reg 1 (by kernel_rfl) ?_
 refine r_run 0 1 [0,1,2] [] hS rfl (L':=[(0,.slice a0 p0.length c0),(1,.int .i64 i),(2,.slice a2 p2.length c2)]) (As':=[rowF (rawF 3) 100 a0 c0 p0,rowF (rawF 3) 100 a2 c2 p2]) (ob:=[]) (by kernel_rfl) trivial λa w hS=> ?_
 refine wl_end ?_
 refine hK1 _ _ ?_
 refine k_seq (by kernel_rfl) λK2 hK2=> ?_
 refine k_reg 3 (by kernel_rfl) ?_
 refine r_run 0 3 [0,1,2] [] hS rfl (L':=[(0,.slice a0 p0.length c0),(1,.int .i64 i),(2,.slice a2 p2.length c2)]) (As':=[rowF (rawF 3) 100 a0 c0 p0,rowF (rawF 3) 100 a2 c2 p2]) (ob:=[λ_=>0≤(i:Int)∧(i:Int)≤(p0.length:Int)∧(p0.length:Int)≤(c0:Int)]) (by kernel_rfl) ⟨Bx.c ⟨hb0,hb1,by omega⟩,trivial⟩ λa w hS=> ?_
 refine wl_end ?_
 refine hK2 _ _ ?_
 refine k_seq (by kernel_rfl) λK3 hK3=> ?_
 refine k_reg 3 (by kernel_rfl) ?_
 refine r_run 0 3 [0,1,2,7] [] hS rfl (L':=[(0,.slice a0 p0.length c0),(1,.int .i64 i),(2,.slice a2 p2.length c2),(7,.int .i64 (p2.length:Int))]) (As':=[rowF (rawF 3) 100 a0 c0 p0,rowF (rawF 3) 100 a2 c2 p2]) (ob:=[]) (by kernel_rfl) trivial λa w hS=> ?_
 refine wl_end ?_
 refine hK3 _ _ ?_
 refine k_seq (by kernel_rfl) λK4 hK4=> ?_
 refine k_seq (by kernel_rfl) λK5 hK5=> ?_
 refine k_reg 2 (by kernel_rfl) ?_
 refine r_run 0 2 [0,1,2,7,16] [] hS rfl (L':=[(0,.slice a0 p0.length c0),(1,.int .i64 i),(2,.slice a2 p2.length c2),(7,.int .i64 (p2.length:Int)),(16,.bool ((p2.length:Int)==0))]) (As':=[rowF (rawF 3) 100 a0 c0 p0,rowF (rawF 3) 100 a2 c2 p2]) (ob:=[]) (by kernel_rfl) trivial λa w hS=> ?_
 refine wl_end ?_
 refine hK5 _ _ ?_
 refine k_cond ((p2.length:Int)==0) hS.has (by kernel_rfl) (by kernel_rfl) (by kernel_rfl) (λhq=> ?_) (λhq=> ?_)
 ·have hp:p2=[]:=List.eq_nil_of_length_eq_zero (by simpa using hq)
  subst hp
  have hr':p0=r:=by rw[←hr];simp
  subst hr'
  refine k_seq (by kernel_rfl) λK6 hK6=> ?_
  refine k_reg 2 (by kernel_rfl) ?_
  refine r_run 0 2 [6] [] hS rfl (L':=[(6,.slice a0 p0.length c0)]) (As':=[rowF (rawF 3) 100 a0 c0 p0,rowF (rawF 3) 100 a2 c2 ([]:List (Raw 3))]) (ob:=[]) (by kernel_rfl) trivial λa w hS=> ?_
  refine wl_end ?_
  refine hK6 _ _ ?_
  refine k_ret (by kernel_rfl) ?_
  try simp only[Exit.then,Exit.inBlock]
  refine r_ret hS [.tmp 6] [] (xs:=[.slice a0 p0.length c0]) (ps:=[]) [0] [] rfl (by kernel_rfl) (λhA=>trivial) rfl (λF up=>trivial) ?_
  exact⟨a0,c0,rfl,rfl,rfl⟩
 have hm:0<p2.length:=by
  rcases Nat.eq_zero_or_pos p2.length with h0|h0
  ·rw[h0] at hq;simp at hq
  ·exact h0
 obtain⟨g3,rfl⟩:=row_block (hS.st.own (rowF (rawF 3) 100 a2 c2 p2) (by simp)) (by omega)
 refine k_skip (by kernel_rfl) ?_
 refine hK4 _ _ ?_
 refine k_seq (by kernel_rfl) λK7 hK7=> ?_
 refine k_reg 3 (by kernel_rfl) ?_
 refine r_run 0 3 [0,1,2,7,8] [] hS rfl (L':=[(0,.slice a0 p0.length c0),(1,.int .i64 i),(2,.slice (some ⟨g3,0,none⟩) p2.length c2),(7,.int .i64 (p2.length:Int)),(8,.int .i64 (p0.length:Int))]) (As':=[rowF (rawF 3) 100 a0 c0 p0,rowF (rawF 3) 100 (some ⟨g3,0,none⟩) c2 p2]) (ob:=[]) (by kernel_rfl) trivial λa w hS=> ?_
 refine wl_end ?_
 refine hK7 _ _ ?_
 refine k_seq (by kernel_rfl) λK8 hK8=> ?_
 refine k_seq (by kernel_rfl) λK9 hK9=> ?_
 refine k_reg 3 (by kernel_rfl) ?_
 refine r_run 0 3 [0,1,2,7,8,22] [] hS rfl (L':=[(0,.slice a0 p0.length c0),(1,.int .i64 i),(2,.slice (some ⟨g3,0,none⟩) p2.length c2),(7,.int .i64 (p2.length:Int)),(8,.int .i64 (p0.length:Int)),(22,.bool ((i:Int)==(p0.length:Int)))]) (As':=[rowF (rawF 3) 100 a0 c0 p0,rowF (rawF 3) 100 (some ⟨g3,0,none⟩) c2 p2]) (ob:=[]) (by kernel_rfl) trivial λa w hS=> ?_
 refine wl_end ?_
 refine hK9 _ _ ?_
 refine k_cond ((i:Int)==(p0.length:Int)) hS.has (by kernel_rfl) (by kernel_rfl) (by kernel_rfl) (λhq2=> ?_) (λhq2=> ?_)
 ·have hin:i=p0.length:=by
   have:=of_decide_eq_true (p:=(i:Int)=(p0.length:Int)) (by simpa using hq2)
   omega
  have hr':r=p0++p2:=by rw[←hr,hin];simp
  refine k_seq (by kernel_rfl) λK6 hK6=> ?_
  refine k_reg 4 (by kernel_rfl) ?_
  refine r_run 0 2 [23,24] [] hS rfl (L':=[(23,.slice a0 p0.length c0),(24,.slice (some ⟨g3,0,none⟩) p2.length c2)]) (As':=[rowF (rawF 3) 100 a0 c0 p0,rowF (rawF 3) 100 (some ⟨g3,0,none⟩) c2 p2]) (ob:=[]) (by kernel_rfl) trivial λa w hS=> ?_
  refine r_append 2 rfl (d:=25) (t:=45) (A:=a0) (c:=c0) (k:=p0.length) (b:=some ⟨g3,0,none⟩) (c2:=c2) (m:=p2.length) (p2.flatMap ((rawF 3)).enc) 0 [0] hS (appChk_sound (by kernel_rfl)) (by kernel_rfl) rfl rfl (λF up le=>appB (F:=(rawF 3)) (le 0 rfl _ λw h=>rowRS h)) hroom λa5 c5 a w hS=> ?_
  replace hS:=rowF_app (F:=(rawF 3)) (l:=p0) (m:=p2) hS hr'
  refine r_run 3 1 [6] [] hS rfl (L':=[(6,.slice a5 r.length c5)]) (As':=[rowF (rawF 3) 100 a5 c5 r,rowF (rawF 3) 100 (some ⟨g3,0,none⟩) c2 p2]) (ob:=[]) (by kernel_rfl) trivial λa w hS=> ?_
  refine wl_end ?_
  refine hK6 _ _ ?_
  refine k_ret (by kernel_rfl) ?_
  try simp only[Exit.then,Exit.inBlock]
  refine r_ret hS [.tmp 6] [] (xs:=[.slice a5 r.length c5]) (ps:=[]) [0] [] rfl (by kernel_rfl) (λhA=>trivial) rfl (λF up=>trivial) ?_
  exact⟨a5,c5,rfl,rfl,rfl⟩
 have hin:i<p0.length:=by
  rcases Nat.lt_or_ge i p0.length with h0|h0
  ·exact h0
  ·have:i=p0.length:=by omega
   rw[this] at hq2;simp at hq2
 obtain⟨g,rfl⟩:=row_block (hS.st.own (rowF (rawF 3) 100 a0 c0 p0) (by simp)) (by omega)
 have hw:IntKind.wrap .i64 ((p0.length:Int)+(p2.length:Int))=((p0.length+p2.length:Nat):Int):=by rw[IntKind.wrap_i64];omega
 have hw2:IntKind.wrap .i64 ((i:Int)+(p2.length:Int))=((i+p2.length:Nat):Int):=by rw[IntKind.wrap_i64];omega
 have hsz:0<((rawF 3)).sz:=by decide
 have hX:(p0.take i).flatMap ((rawF 3)).enc=(p0.flatMap ((rawF 3)).enc).take (i*((rawF 3)).sz):=flat_take p0 i
 have hY:(p0.drop i).flatMap ((rawF 3)).enc=(p0.flatMap ((rawF 3)).enc).drop (i*((rawF 3)).sz):=flat_drop p0 i
 have lX:((p0.take i).flatMap ((rawF 3)).enc).length=i*((rawF 3)).sz:=by rw[flat_len,List.length_take,Nat.min_eq_left hil]
 have lY:((p0.drop i).flatMap ((rawF 3)).enc).length=(p0.length-i)*((rawF 3)).sz:=by rw[flat_len,List.length_drop]
 have lV:(p2.flatMap ((rawF 3)).enc).length=p2.length*((rawF 3)).sz:=flat_len p2
 have hXY:(p0.take i).flatMap ((rawF 3)).enc++(p0.drop i).flatMap ((rawF 3)).enc=p0.flatMap ((rawF 3)).enc:=by rw[←List.flatMap_append,List.take_append_drop]
 have hre:r.flatMap ((rawF 3)).enc=(p0.take i).flatMap ((rawF 3)).enc++p2.flatMap ((rawF 3)).enc++(p0.drop i).flatMap ((rawF 3)).enc:=by rw[←hr,List.flatMap_append,List.flatMap_append]
 have hV1:∀v∈p2.flatMap ((rawF 3)).enc,v.oneCell'=true:=flat_one p2
 have hY1:∀v∈(p0.drop i).flatMap ((rawF 3)).enc,v.oneCell'=true:=flat_one _
 refine k_skip (by kernel_rfl) ?_
 refine hK8 _ _ ?_
 refine k_seq (by kernel_rfl) λK10 hK10=> ?_
 refine k_seq (by kernel_rfl) λK11 hK11=> ?_
 refine k_reg 6 (by kernel_rfl) ?_
 refine r_run 0 6 [0,1,2,7,8,31] [.as 28 (.int .i64 ((p0.length+p2.length:Nat):Int))] hS rfl (L':=[(0,.slice (some ⟨g,0,none⟩) p0.length c0),(1,.int .i64 i),(2,.slice (some ⟨g3,0,none⟩) p2.length c2),(7,.int .i64 (p2.length:Int)),(8,.int .i64 (p0.length:Int)),(31,.bool (decide (((p0.length+p2.length:Nat):Int)>(c0:Int))))]) (As':=[rowF (rawF 3) 100 (some ⟨g,0,none⟩) c0 p0,rowF (rawF 3) 100 (some ⟨g3,0,none⟩) c2 p2]) (ob:=[λ_=>Value.int .i64 (IntKind.wrap .i64 ((p0.length:Int)+(p2.length:Int)))= .int .i64 ((p0.length+p2.length:Nat):Int)]) (by kernel_rfl) ⟨Bx.c (by rw[hw]),trivial⟩ λa w hS=> ?_
 refine wl_end ?_
 refine hK11 _ _ ?_
 refine k_cond (decide (((p0.length+p2.length:Nat):Int)>(c0:Int))) hS.has (by kernel_rfl) (by kernel_rfl) (by kernel_rfl) (λhq3=> ?_) (λhq3=> ?_)
 ·have hgt:c0<p0.length+p2.length:=by have:=of_decide_eq_true hq3;omega
  have hk:p0.length+p2.length-i+i=p0.length+p2.length:=by omega
  have hw3:IntKind.wrap .i64 (((p0.length+p2.length:Nat):Int)-(i:Int))=((p0.length+p2.length-i:Nat):Int):=by rw[IntKind.wrap_i64];omega
  refine k_seq (by kernel_rfl) λK12 hK12=> ?_
  refine k_reg 10 (by kernel_rfl) ?_
  refine r_run 0 8 [0,1,2,7,8,34,39] [.as 34 (.slice (some ⟨g,0,none⟩) i c0),.as 37 (.int .i64 ((p0.length+p2.length:Nat):Int)),.as 39 (.int .i64 ((p0.length+p2.length-i:Nat):Int))] hS rfl (L':=[(0,.slice (some ⟨g,0,none⟩) p0.length c0),(1,.int .i64 i),(2,.slice (some ⟨g3,0,none⟩) p2.length c2),(7,.int .i64 (p2.length:Int)),(8,.int .i64 (p0.length:Int)),(34,.slice (some ⟨g,0,none⟩) i c0),(39,.int .i64 ((p0.length+p2.length-i:Nat):Int))]) (As':=[rowF (rawF 3) 100 (some ⟨g,0,none⟩) c0 p0,rowF (rawF 3) 100 (some ⟨g3,0,none⟩) c2 p2]) (ob:=[λ_=>(0:Int)≤0∧(0:Int)≤(i:Int)∧(i:Int)≤(c0:Int),λ_=>Value.slice (slA (some ⟨g,0,none⟩) 0 c0 ((rawF 3)).sz) i c0= .slice (some ⟨g,0,none⟩) i c0,λ_=>Value.int .i64 (IntKind.wrap .i64 ((p0.length:Int)+(p2.length:Int)))= .int .i64 ((p0.length+p2.length:Nat):Int),λ_=>Value.int .i64 (IntKind.wrap .i64 (((p0.length+p2.length:Nat):Int)-(i:Int)))= .int .i64 ((p0.length+p2.length-i:Nat):Int)]) (by kernel_rfl) ⟨Bx.c ⟨by omega,by omega,by omega⟩,Bx.c (by rw[slA_zero]),Bx.c (by rw[hw]),Bx.c (by rw[hw3]),trivial⟩ λa w hS=> ?_
  obtain⟨w',g2,c5,hrun,hc5,⟨T,hT,hrow⟩,hext,hg2,hg2'⟩:=run_zeros_row (P:=Tryz.prog) (sz:=((rawF 3)).sz) (t:=45) (tn:=3) (ty:=45) (i:=i) (k:=p0.length+p2.length-i) (bytes:=24) (inf:=Tryz.t100) (z:=(Tryz.t100.zero).getD undef) (kq:= .i64) (kn:= .i64) (by kernel_rfl) (by kernel_rfl) (by kernel_rfl) (by kernel_rfl) rfl (by kernel_rfl) (by kernel_rfl) hsz (by decide) (hS.st.own (rowF (rawF 3) 100 (some ⟨g,0,none⟩) c0 p0) (by simp)) hil (by omega) (by omega) (by rw[show i+(p0.length+p2.length-i)=p0.length+p2.length from by omega];exact hroom)
  have hik:i+(p0.length+p2.length-i)=p0.length+p2.length:=by omega
  rw[hik] at hrun hc5 hT
  refine r_bltN 8 rfl (d:=some 40) (b:= .append) (ts:= #[45,3]) (ty:=45) (vs:= #[.slice (some ⟨g,0,none⟩) i c0,.int .i64 ((p0.length+p2.length-i:Nat):Int)]) hS (by kernel_rfl) _ hrun hrow hext (λx hx=>by simp[Asn.fp] at hx;subst hx;exact⟨hg2,hg2'⟩) (by simp[Asn.fp]) λa hS=> ?_
  rw[←hX] at hS
  generalize hZ:(Builtin.zeroCells ((Tryz.t100.zero).getD undef).cells (p0.length+p2.length-i)).toList=Z at hS
  have lZ:Z.length=(p2.flatMap ((rawF 3)).enc).length+((p0.drop i).flatMap ((rawF 3)).enc).length:=by
   rw[←hZ,zeros_len,lV,lY,←Nat.add_mul,show((Tryz.t100.zero).getD undef).cells.size=((rawF 3)).sz from by kernel_rfl]
   congr 1;omega
  refine r_run 9 1 [0,1,2,7,9] [] hS rfl (L':=[(0,.slice (some ⟨g,0,none⟩) p0.length c0),(1,.int .i64 i),(2,.slice (some ⟨g3,0,none⟩) p2.length c2),(7,.int .i64 (p2.length:Int)),(9,.slice (some ⟨g2,0,none⟩) (p0.length+p2.length) c5)]) (As':=[.row (some ⟨g2,0,none⟩) c5 100 ((rawF 3)).sz c5 ((p0.take i).flatMap ((rawF 3)).enc++Z++T),rowF (rawF 3) 100 (some ⟨g,0,none⟩) c0 p0,rowF (rawF 3) 100 (some ⟨g3,0,none⟩) c2 p2]) (ob:=[]) (by kernel_rfl) trivial λa w hS=> ?_
  refine wl_end ?_
  refine hK12 _ _ ?_
  refine k_seq (by kernel_rfl) λK13 hK13=> ?_
  refine k_reg 5 (by kernel_rfl) ?_
  have hs1:slA (some (⟨g2,0,none⟩:Addr)) i c5 ((rawF 3)).sz=some ⟨g2,i*((rawF 3)).sz,none⟩:=by
   unfold slA;rw[if_neg (by omega)];simp only[Option.map_some,addr_add0]
  refine r_run 0 4 [0,1,7,9,43,44] [.as 43 (.slice (some ⟨g2,i*((rawF 3)).sz,none⟩) (p0.length+p2.length-i) (c5-i))] hS rfl (L':=[(0,.slice (some ⟨g,0,none⟩) p0.length c0),(1,.int .i64 i),(7,.int .i64 (p2.length:Int)),(9,.slice (some ⟨g2,0,none⟩) (p0.length+p2.length) c5),(43,.slice (some ⟨g2,i*((rawF 3)).sz,none⟩) (p0.length+p2.length-i) (c5-i)),(44,.slice (some ⟨g3,0,none⟩) p2.length c2)]) (As':=[.row (some ⟨g2,0,none⟩) c5 100 ((rawF 3)).sz c5 ((p0.take i).flatMap ((rawF 3)).enc++Z++T),rowF (rawF 3) 100 (some ⟨g,0,none⟩) c0 p0,rowF (rawF 3) 100 (some ⟨g3,0,none⟩) c2 p2]) (ob:=[λ_=>0≤(i:Int)∧(i:Int)≤((p0.length+p2.length:Nat):Int)∧((p0.length+p2.length:Nat):Int)≤(c5:Int),λ_=>Value.slice (slA (some ⟨g2,0,none⟩) i c5 ((rawF 3)).sz) (p0.length+p2.length-i) (c5-i)= .slice (some ⟨g2,i*((rawF 3)).sz,none⟩) (p0.length+p2.length-i) (c5-i)]) (by kernel_rfl) ⟨Bx.c ⟨by omega,by omega,by omega⟩,Bx.c (by rw[hs1]),trivial⟩ λa w hS=> ?_
  have hsrc:=row_cellsAt (hS.st.own (rowF (rawF 3) 100 (some ⟨g3,0,none⟩) c2 p2) (by simp)) 0 (p2.flatMap ((rawF 3)).enc).length
  rw[List.drop_zero,List.take_length] at hsrc
  have hfit1:i*((rawF 3)).sz+(p2.flatMap ((rawF 3)).enc).length≤c5*((rawF 3)).sz:=by rw[lV,←Nat.add_mul];exact Nat.mul_le_mul_right _ (by omega)
  have hmin1:Nat.min p2.length (p0.length+p2.length-i)=p2.length:=Nat.min_eq_left (by omega)
  refine r_bltS 4 rfl 0 (.row (some ⟨g2,0,none⟩) c5 100 ((rawF 3)).sz c5 (spl ((p0.take i).flatMap ((rawF 3)).enc++Z++T) (i*((rawF 3)).sz) (p2.flatMap ((rawF 3)).enc))) (d:=some 45) (b:= .copy) (ts:= #[45,45]) (ty:=3) (vs:= #[.slice (some ⟨g2,i*((rawF 3)).sz,none⟩) (p0.length+p2.length-i) (c5-i),.slice (some ⟨g3,0,none⟩) p2.length c2]) hS (by kernel_rfl) rfl (λhA=>run_copyR (dT:=45) (sT:=45) (ty:=3) (inf:=Tryz.t100) (by kernel_rfl) (by kernel_rfl) rfl hA (by rw[hmin1,lV]) hsrc hfit1 hV1) rfl (by simp[Asn.fp]) λa w hS=> ?_
  refine wl_end ?_
  refine hK13 _ _ ?_
  refine k_seq (by kernel_rfl) λK14 hK14=> ?_
  have hs2:slA (some (⟨g2,0,none⟩:Addr)) (i+p2.length) c5 ((rawF 3)).sz=some ⟨g2,(i+p2.length)*((rawF 3)).sz,none⟩:=by
   unfold slA;rw[if_neg (by omega)];simp only[Option.map_some,addr_add0]
  have hs3:slA (some (⟨g,0,none⟩:Addr)) i c0 ((rawF 3)).sz=some ⟨g,i*((rawF 3)).sz,none⟩:=by
   unfold slA;rw[if_neg (by omega)];simp only[Option.map_some,addr_add0]
  refine k_draw 8 9 [.val (.slice (some ⟨g2,0,none⟩) (p0.length+p2.length) c5),.val (.int .i64 i),.val (.int .i64 (p2.length:Int)),.val (.int .i64 ((i+p2.length:Nat):Int)),.val (.slice (some ⟨g2,(i+p2.length)*((rawF 3)).sz,none⟩) (p0.length+p2.length-(i+p2.length)) (c5-(i+p2.length))),.val (.slice (some ⟨g,0,none⟩) p0.length c0),.val (.int .i64 i),.val (.slice (some ⟨g,i*((rawF 3)).sz,none⟩) (p0.length-i) (c0-i))] [] [(0,[]),(1,[]),(2,[]),(3,[.as 49 (.int .i64 ((i+p2.length:Nat):Int))]),(4,[.as 50 (.slice (some ⟨g2,(i+p2.length)*((rawF 3)).sz,none⟩) (p0.length+p2.length-(i+p2.length)) (c5-(i+p2.length)))]),(5,[]),(6,[]),(7,[.as 53 (.slice (some ⟨g,i*((rawF 3)).sz,none⟩) (p0.length-i) (c0-i))])] [] (ob:=[λ_=>Value.int .i64 (IntKind.wrap .i64 ((i:Int)+(p2.length:Int)))= .int .i64 ((i+p2.length:Nat):Int),λ_=>0≤((i+p2.length:Nat):Int)∧((i+p2.length:Nat):Int)≤((p0.length+p2.length:Nat):Int)∧((p0.length+p2.length:Nat):Int)≤(c5:Int),λ_=>Value.slice (slA (some ⟨g2,0,none⟩) (i+p2.length) c5 ((rawF 3)).sz) (p0.length+p2.length-(i+p2.length)) (c5-(i+p2.length))= .slice (some ⟨g2,(i+p2.length)*((rawF 3)).sz,none⟩) (p0.length+p2.length-(i+p2.length)) (c5-(i+p2.length)),λ_=>0≤(i:Int)∧(i:Int)≤(p0.length:Int)∧(p0.length:Int)≤(c0:Int),λ_=>Value.slice (slA (some ⟨g,0,none⟩) i c0 ((rawF 3)).sz) (p0.length-i) (c0-i)= .slice (some ⟨g,i*((rawF 3)).sz,none⟩) (p0.length-i) (c0-i)]) (by kernel_rfl) (by kernel_rfl) hS (by kernel_rfl) (λF N0=>by kernel_rfl) (by kernel_rfl) (by kernel_rfl) (by kernel_rfl) (by kernel_rfl) ⟨Bx.c (by rw[hw2]),Bx.c ⟨by omega,by omega,by omega⟩,Bx.c (by rw[hs2]),Bx.c ⟨by omega,by omega,by omega⟩,Bx.c (by rw[hs3]),trivial⟩ ?_ ?_
  ·exact trivial
  intro V a w e hS hq
  have hsrc:=row_cellsAt (hS.st.own (rowF (rawF 3) 100 (some ⟨g,0,none⟩) c0 p0) (by simp[List.set])) (i*((rawF 3)).sz) ((p0.drop i).flatMap ((rawF 3)).enc).length
  rw[←hY,List.take_length] at hsrc
  have hmin2:Nat.min (p0.length-i) (p0.length+p2.length-(i+p2.length))=p0.length-i:=Nat.min_eq_left (by omega)
  have hfit2:(i+p2.length)*((rawF 3)).sz+((p0.drop i).flatMap ((rawF 3)).enc).length≤c5*((rawF 3)).sz:=by rw[lY,←Nat.add_mul];exact Nat.mul_le_mul_right _ (by omega)
  refine r_bltS 8 rfl 0 (.row (some ⟨g2,0,none⟩) c5 100 ((rawF 3)).sz c5 (spl (spl ((p0.take i).flatMap ((rawF 3)).enc++Z++T) (i*((rawF 3)).sz) (p2.flatMap ((rawF 3)).enc)) ((i+p2.length)*((rawF 3)).sz) ((p0.drop i).flatMap ((rawF 3)).enc))) (d:=some 54) (b:= .copy) (ts:= #[45,45]) (ty:=3) (vs:= #[.slice (some ⟨g2,(i+p2.length)*((rawF 3)).sz,none⟩) (p0.length+p2.length-(i+p2.length)) (c5-(i+p2.length)),.slice (some ⟨g,i*((rawF 3)).sz,none⟩) (p0.length-i) (c0-i)]) hS (by kernel_rfl) rfl (λhA=>run_copyR (dT:=45) (sT:=45) (ty:=3) (inf:=Tryz.t100) (by kernel_rfl) (by kernel_rfl) rfl hA (by rw[hmin2,lY]) hsrc hfit2 hY1) rfl (by simp[Asn.fp]) λa w hS=> ?_
  have hfin:(spl (spl ((p0.take i).flatMap ((rawF 3)).enc++Z++T) (i*((rawF 3)).sz) (p2.flatMap ((rawF 3)).enc)) ((i+p2.length)*((rawF 3)).sz) ((p0.drop i).flatMap ((rawF 3)).enc)).take ((p0.length+p2.length)*((rawF 3)).sz)=r.flatMap ((rawF 3)).enc:=by
   have:=cells_new ((p0.take i).flatMap ((rawF 3)).enc) ((p0.drop i).flatMap ((rawF 3)).enc) (p2.flatMap ((rawF 3)).enc) Z T lZ
   rw[lX,lV,←Nat.add_mul] at this
   rw[this,hre,List.take_left' (by rw[List.length_append,List.length_append,lX,lV,lY,←Nat.add_mul,←Nat.add_mul];congr 1;omega)]
  replace hS:=hS.same (B:=rowF (rawF 3) 100 (some ⟨g2,0,none⟩) c5 r) 0 rfl (λhA=>row_app_form hA hrl hc5 hfin) rfl (by simp[Asn.fp])
  refine wl_end ?_
  refine hK14 _ _ ?_
  refine k_seq (by kernel_rfl) λK15 hK15=> ?_
  refine k_reg 2 (by kernel_rfl) ?_
  refine r_run 0 2 [6] [] hS rfl (L':=[(6,.slice (some ⟨g2,0,none⟩) (p0.length+p2.length) c5)]) (As':=[rowF (rawF 3) 100 (some ⟨g2,0,none⟩) c5 r,rowF (rawF 3) 100 (some ⟨g,0,none⟩) c0 p0,rowF (rawF 3) 100 (some ⟨g3,0,none⟩) c2 p2]) (ob:=[]) (by kernel_rfl) trivial λa w hS=> ?_
  refine wl_end ?_
  refine hK15 _ _ ?_
  refine k_ret (by kernel_rfl) ?_
  try simp only[Exit.then,Exit.inBlock]
  refine r_ret hS [.tmp 6] [] (xs:=[.slice (some ⟨g2,0,none⟩) (p0.length+p2.length) c5]) (ps:=[]) [0] [] rfl (by kernel_rfl) (λhA=>trivial) rfl (λF up=>trivial) ?_
  exact⟨some ⟨g2,0,none⟩,c5,by rw[hrl];rfl,rfl,rfl⟩
 have hle:p0.length+p2.length≤c0:=by have:=of_decide_eq_false hq3;omega
 refine k_skip (by kernel_rfl) ?_
 refine hK10 _ _ ?_
 refine k_seq (by kernel_rfl) λK12 hK12=> ?_
 refine k_reg 6 (by kernel_rfl) ?_
 refine r_run 0 6 [0,1,2,7] [.as 59 (.int .i64 ((p0.length+p2.length:Nat):Int)),.as 60 (.slice (some ⟨g,0,none⟩) (p0.length+p2.length) c0)] hS rfl (L':=[(0,.slice (some ⟨g,0,none⟩) (p0.length+p2.length) c0),(1,.int .i64 i),(2,.slice (some ⟨g3,0,none⟩) p2.length c2),(7,.int .i64 (p2.length:Int))]) (As':=[rowF (rawF 3) 100 (some ⟨g,0,none⟩) c0 p0,rowF (rawF 3) 100 (some ⟨g3,0,none⟩) c2 p2]) (ob:=[λ_=>Value.int .i64 (IntKind.wrap .i64 ((p0.length:Int)+(p2.length:Int)))= .int .i64 ((p0.length+p2.length:Nat):Int),λ_=>(0:Int)≤0∧(0:Int)≤((p0.length+p2.length:Nat):Int)∧((p0.length+p2.length:Nat):Int)≤(c0:Int),λ_=>Value.slice (slA (some ⟨g,0,none⟩) 0 c0 ((rawF 3)).sz) (p0.length+p2.length) c0= .slice (some ⟨g,0,none⟩) (p0.length+p2.length) c0]) (by kernel_rfl) ⟨Bx.c (by rw[hw]),Bx.c ⟨by omega,by omega,by omega⟩,Bx.c (by rw[slA_zero]),trivial⟩ λa w hS=> ?_
 obtain⟨ds,hd1,hd2,hd3,hd4⟩:=row_full (hS.st.own (rowF (rawF 3) 100 (some ⟨g,0,none⟩) c0 p0) (by simp))
 replace hS:=hS.same (B:= .row (some ⟨g,0,none⟩) c0 100 ((rawF 3)).sz c0 ds) 0 rfl (λ_=>hd4) rfl (by simp[Asn.fp])
 refine wl_end ?_
 refine hK12 _ _ ?_
 refine k_seq (by kernel_rfl) λK13 hK13=> ?_
 refine k_seq (by kernel_rfl) λK14 hK14=> ?_
 refine k_reg 8 (by kernel_rfl) ?_
 have hs2:slA (some (⟨g,0,none⟩:Addr)) (i+p2.length) c0 ((rawF 3)).sz=some ⟨g,(i+p2.length)*((rawF 3)).sz,none⟩:=by
  unfold slA;rw[if_neg (by omega)];simp only[Option.map_some,addr_add0]
 have hs3:slA (some (⟨g,0,none⟩:Addr)) i c0 ((rawF 3)).sz=some ⟨g,i*((rawF 3)).sz,none⟩:=by
  unfold slA;rw[if_neg (by omega)];simp only[Option.map_some,addr_add0]
 refine r_run 0 6 [0,1,2,7,61,66] [.as 65 (.int .i64 ((i+p2.length:Nat):Int)),.as 66 (.slice (some ⟨g,(i+p2.length)*((rawF 3)).sz,none⟩) (p0.length+p2.length-(i+p2.length)) (c0-(i+p2.length)))] hS rfl (L':=[(0,.slice (some ⟨g,0,none⟩) (p0.length+p2.length) c0),(1,.int .i64 i),(2,.slice (some ⟨g3,0,none⟩) p2.length c2),(7,.int .i64 (p2.length:Int)),(61,.slice (some ⟨g3,0,none⟩) p2.length c2),(66,.slice (some ⟨g,(i+p2.length)*((rawF 3)).sz,none⟩) (p0.length+p2.length-(i+p2.length)) (c0-(i+p2.length)))]) (As':=[.row (some ⟨g,0,none⟩) c0 100 ((rawF 3)).sz c0 ds,rowF (rawF 3) 100 (some ⟨g3,0,none⟩) c2 p2]) (ob:=[λ_=>Value.int .i64 (IntKind.wrap .i64 ((i:Int)+(p2.length:Int)))= .int .i64 ((i+p2.length:Nat):Int),λ_=>0≤((i+p2.length:Nat):Int)∧((i+p2.length:Nat):Int)≤((p0.length+p2.length:Nat):Int)∧((p0.length+p2.length:Nat):Int)≤(c0:Int),λ_=>Value.slice (slA (some ⟨g,0,none⟩) (i+p2.length) c0 ((rawF 3)).sz) (p0.length+p2.length-(i+p2.length)) (c0-(i+p2.length))= .slice (some ⟨g,(i+p2.length)*((rawF 3)).sz,none⟩) (p0.length+p2.length-(i+p2.length)) (c0-(i+p2.length))]) (by kernel_rfl) ⟨Bx.c (by rw[hw2]),Bx.c ⟨by omega,by omega,by omega⟩,Bx.c (by rw[hs2]),trivial⟩ λa w hS=> ?_
 have hne:g3≠g:=by
  have:=(List.nodup_append.1 hS.st.nd).2.1
  simp[fps,Asn.fp] at this
  exact λe=>this e.symm
 have hA0:=row_shape (hS.st.own (.row (some ⟨g,0,none⟩) c0 100 ((rawF 3)).sz c0 ds) (by simp))
 have hA1:=row_shape (hS.st.own (rowF (rawF 3) 100 (some ⟨g3,0,none⟩) c2 p2) (by simp))
 have hcsz:c0*((rawF 3)).sz≠0:=Nat.mul_ne_zero (by omega) (by omega)
 have hov:(callFunc 171 #[.slice (some ⟨g3,0,none⟩) p2.length c2,.slice (some ⟨g,(i+p2.length)*((rawF 3)).sz,none⟩) (p0.length+p2.length-(i+p2.length)) (c0-(i+p2.length))]).run Tryz.prog w= .ok (.value (.bool false)) w:=by
  rw[run_callFunc_extern Tryz.func171 (by kernel_rfl) (by kernel_rfl) (by kernel_rfl) (e:=Extern.SlicesOverlaps.overlaps #[45,45] #[4]) (by kernel_rfl),
   Lib.run_overlaps_apart w 45 4 100 (by kernel_rfl) ((rawF 3)).sz (λw=>by simp[sizeOf,run_info (show Tryz.prog.info? 100=some Tryz.t100 from by kernel_rfl)];kernel_rfl) ⟨g3,0,none⟩ ⟨g,(i+p2.length)*((rawF 3)).sz,none⟩ p2.length c2 _ _ hne _ _ _ _ hA1.1 hA0.1 hcsz (hA1.2 _) (hA1.2 _)]
  rfl
 refine r_ext 6 rfl (d:=some 67) (g:=171) (args:= #[.slice (some ⟨g3,0,none⟩) p2.length c2,.slice (some ⟨g,(i+p2.length)*((rawF 3)).sz,none⟩) (p0.length+p2.length-(i+p2.length)) (c0-(i+p2.length))]) hS (by kernel_rfl) hov λa hS=> ?_
 refine r_run 7 1 [0,1,2,7,68] [] hS rfl (L':=[(0,.slice (some ⟨g,0,none⟩) (p0.length+p2.length) c0),(1,.int .i64 i),(2,.slice (some ⟨g3,0,none⟩) p2.length c2),(7,.int .i64 (p2.length:Int)),(68,.bool true)]) (As':=[.row (some ⟨g,0,none⟩) c0 100 ((rawF 3)).sz c0 ds,rowF (rawF 3) 100 (some ⟨g3,0,none⟩) c2 p2]) (ob:=[]) (by kernel_rfl) trivial λa w hS=> ?_
 refine wl_end ?_
 refine hK14 _ _ ?_
 refine k_cond true hS.has (by kernel_rfl) (by kernel_rfl) (by kernel_rfl) (λ_=> ?_) (λhx=>by cases hx)
 refine k_seq (by kernel_rfl) λK15 hK15=> ?_
 obtain⟨Z,hZ⟩:∃Z,ds=(p0.take i).flatMap ((rawF 3)).enc++(p0.drop i).flatMap ((rawF 3)).enc++Z:=⟨ds.drop (p0.length*((rawF 3)).sz),by rw[hXY];conv=>lhs;rw[←List.take_append_drop (p0.length*((rawF 3)).sz) ds,hd1]⟩
 have lds:ds.length=c0*((rawF 3)).sz:=hd2
 have lZ:(p2.flatMap ((rawF 3)).enc).length≤((p0.drop i).flatMap ((rawF 3)).enc).length+Z.length:=by
  have h1:=lds
  rw[hZ,List.length_append,List.length_append,lX,lY] at h1
  rw[lV,lY]
  have h2:=Nat.mul_le_mul_right ((rawF 3)).sz hle
  rw[Nat.add_mul] at h2
  have h3:i*((rawF 3)).sz+(p0.length-i)*((rawF 3)).sz=p0.length*((rawF 3)).sz:=by rw[←Nat.add_mul];congr 1;omega
  omega
 refine k_draw 8 9 [.val (.slice (some ⟨g,0,none⟩) (p0.length+p2.length) c0),.val (.int .i64 i),.val (.int .i64 (p2.length:Int)),.val (.int .i64 ((i+p2.length:Nat):Int)),.val (.slice (some ⟨g,(i+p2.length)*((rawF 3)).sz,none⟩) (p0.length+p2.length-(i+p2.length)) (c0-(i+p2.length))),.val (.slice (some ⟨g,0,none⟩) (p0.length+p2.length) c0),.val (.int .i64 i),.val (.slice (some ⟨g,i*((rawF 3)).sz,none⟩) (p0.length+p2.length-i) (c0-i))] [] [(0,[]),(1,[]),(2,[]),(3,[.as 72 (.int .i64 ((i+p2.length:Nat):Int))]),(4,[.as 73 (.slice (some ⟨g,(i+p2.length)*((rawF 3)).sz,none⟩) (p0.length+p2.length-(i+p2.length)) (c0-(i+p2.length)))]),(5,[]),(6,[]),(7,[.as 76 (.slice (some ⟨g,i*((rawF 3)).sz,none⟩) (p0.length+p2.length-i) (c0-i))])] [] (ob:=[λ_=>Value.int .i64 (IntKind.wrap .i64 ((i:Int)+(p2.length:Int)))= .int .i64 ((i+p2.length:Nat):Int),λ_=>0≤((i+p2.length:Nat):Int)∧((i+p2.length:Nat):Int)≤((p0.length+p2.length:Nat):Int)∧((p0.length+p2.length:Nat):Int)≤(c0:Int),λ_=>Value.slice (slA (some ⟨g,0,none⟩) (i+p2.length) c0 ((rawF 3)).sz) (p0.length+p2.length-(i+p2.length)) (c0-(i+p2.length))= .slice (some ⟨g,(i+p2.length)*((rawF 3)).sz,none⟩) (p0.length+p2.length-(i+p2.length)) (c0-(i+p2.length)),λ_=>0≤(i:Int)∧(i:Int)≤((p0.length+p2.length:Nat):Int)∧((p0.length+p2.length:Nat):Int)≤(c0:Int),λ_=>Value.slice (slA (some ⟨g,0,none⟩) i c0 ((rawF 3)).sz) (p0.length+p2.length-i) (c0-i)= .slice (some ⟨g,i*((rawF 3)).sz,none⟩) (p0.length+p2.length-i) (c0-i)]) (by kernel_rfl) (by kernel_rfl) hS (by kernel_rfl) (λF N0=>by kernel_rfl) (by kernel_rfl) (by kernel_rfl) (by kernel_rfl) (by kernel_rfl) ⟨Bx.c (by rw[hw2]),Bx.c ⟨by omega,by omega,by omega⟩,Bx.c (by rw[hs2]),Bx.c ⟨by omega,by omega,by omega⟩,Bx.c (by rw[hs3]),trivial⟩ ?_ ?_
 ·exact trivial
 intro V a w e hS hq
 have hsrc:=row_cellsAt (hS.st.own (.row (some ⟨g,0,none⟩) c0 100 ((rawF 3)).sz c0 ds) (by simp)) (i*((rawF 3)).sz) ((p0.drop i).flatMap ((rawF 3)).enc).length
 have hdsd:(ds.drop (i*((rawF 3)).sz)).take ((p0.drop i).flatMap ((rawF 3)).enc).length=(p0.drop i).flatMap ((rawF 3)).enc:=by
  rw[hZ,List.append_assoc,←lX,List.drop_left,List.take_left]
 rw[hdsd] at hsrc
 have hmin2:Nat.min (p0.length+p2.length-i) (p0.length+p2.length-(i+p2.length))=p0.length-i:=by
  rw[show p0.length+p2.length-(i+p2.length)=p0.length-i from by omega];exact Nat.min_eq_right (by omega)
 have hfit2:(i+p2.length)*((rawF 3)).sz+((p0.drop i).flatMap ((rawF 3)).enc).length≤c0*((rawF 3)).sz:=by rw[lY,←Nat.add_mul];exact Nat.mul_le_mul_right _ (by omega)
 refine r_bltS 8 rfl 0 (.row (some ⟨g,0,none⟩) c0 100 ((rawF 3)).sz c0 (spl ds ((i+p2.length)*((rawF 3)).sz) ((p0.drop i).flatMap ((rawF 3)).enc))) (d:=some 77) (b:= .copy) (ts:= #[45,45]) (ty:=3) (vs:= #[.slice (some ⟨g,(i+p2.length)*((rawF 3)).sz,none⟩) (p0.length+p2.length-(i+p2.length)) (c0-(i+p2.length)),.slice (some ⟨g,i*((rawF 3)).sz,none⟩) (p0.length+p2.length-i) (c0-i)]) hS (by kernel_rfl) rfl (λhA=>run_copyR (dT:=45) (sT:=45) (ty:=3) (inf:=Tryz.t100) (by kernel_rfl) (by kernel_rfl) rfl hA (by rw[hmin2,lY]) hsrc hfit2 hY1) rfl (by simp[Asn.fp]) λa w hS=> ?_
 refine wl_end ?_
 refine hK15 _ _ ?_
 refine k_seq (by kernel_rfl) λK16 hK16=> ?_
 refine k_reg 5 (by kernel_rfl) ?_
 refine r_run 0 4 [0,80,81] [.as 80 (.slice (some ⟨g,i*((rawF 3)).sz,none⟩) (p0.length+p2.length-i) (c0-i))] hS rfl (L':=[(0,.slice (some ⟨g,0,none⟩) (p0.length+p2.length) c0),(80,.slice (some ⟨g,i*((rawF 3)).sz,none⟩) (p0.length+p2.length-i) (c0-i)),(81,.slice (some ⟨g3,0,none⟩) p2.length c2)]) (As':=[.row (some ⟨g,0,none⟩) c0 100 ((rawF 3)).sz c0 (spl ds ((i+p2.length)*((rawF 3)).sz) ((p0.drop i).flatMap ((rawF 3)).enc)),rowF (rawF 3) 100 (some ⟨g3,0,none⟩) c2 p2]) (ob:=[λ_=>0≤(i:Int)∧(i:Int)≤((p0.length+p2.length:Nat):Int)∧((p0.length+p2.length:Nat):Int)≤(c0:Int),λ_=>Value.slice (slA (some ⟨g,0,none⟩) i c0 ((rawF 3)).sz) (p0.length+p2.length-i) (c0-i)= .slice (some ⟨g,i*((rawF 3)).sz,none⟩) (p0.length+p2.length-i) (c0-i)]) (by kernel_rfl) ⟨Bx.c ⟨by omega,by omega,by omega⟩,Bx.c (by rw[hs3]),trivial⟩ λa w hS=> ?_
 have hsrc:=row_cellsAt (hS.st.own (rowF (rawF 3) 100 (some ⟨g3,0,none⟩) c2 p2) (by simp)) 0 (p2.flatMap ((rawF 3)).enc).length
 rw[List.drop_zero,List.take_length] at hsrc
 have hfit1:i*((rawF 3)).sz+(p2.flatMap ((rawF 3)).enc).length≤c0*((rawF 3)).sz:=by rw[lV,←Nat.add_mul];exact Nat.mul_le_mul_right _ (by omega)
 have hmin1:Nat.min p2.length (p0.length+p2.length-i)=p2.length:=Nat.min_eq_left (by omega)
 refine r_bltS 4 rfl 0 (.row (some ⟨g,0,none⟩) c0 100 ((rawF 3)).sz c0 (spl (spl ds ((i+p2.length)*((rawF 3)).sz) ((p0.drop i).flatMap ((rawF 3)).enc)) (i*((rawF 3)).sz) (p2.flatMap ((rawF 3)).enc))) (d:=some 82) (b:= .copy) (ts:= #[45,45]) (ty:=3) (vs:= #[.slice (some ⟨g,i*((rawF 3)).sz,none⟩) (p0.length+p2.length-i) (c0-i),.slice (some ⟨g3,0,none⟩) p2.length c2]) hS (by kernel_rfl) rfl (λhA=>run_copyR (dT:=45) (sT:=45) (ty:=3) (inf:=Tryz.t100) (by kernel_rfl) (by kernel_rfl) rfl hA (by rw[hmin1,lV]) hsrc hfit1 hV1) rfl (by simp[Asn.fp]) λa w hS=> ?_
 have hfin:(spl (spl ds ((i+p2.length)*((rawF 3)).sz) ((p0.drop i).flatMap ((rawF 3)).enc)) (i*((rawF 3)).sz) (p2.flatMap ((rawF 3)).enc)).take ((p0.length+p2.length)*((rawF 3)).sz)=r.flatMap ((rawF 3)).enc:=by
  have:=cells_ins ((p0.take i).flatMap ((rawF 3)).enc) ((p0.drop i).flatMap ((rawF 3)).enc) (p2.flatMap ((rawF 3)).enc) Z lZ
  rw[lX,lV,←Nat.add_mul,←hZ] at this
  rw[this,hre,List.take_left' (by rw[List.length_append,List.length_append,lX,lV,lY,←Nat.add_mul,←Nat.add_mul];congr 1;omega)]
 replace hS:=hS.same (B:=rowF (rawF 3) 100 (some ⟨g,0,none⟩) c0 r) 0 rfl (λhA=>row_app_form hA hrl hle hfin) rfl (by simp[Asn.fp])
 refine wl_end ?_
 refine hK16 _ _ ?_
 refine k_seq (by kernel_rfl) λK17 hK17=> ?_
 refine k_reg 2 (by kernel_rfl) ?_
 refine r_run 0 2 [6] [] hS rfl (L':=[(6,.slice (some ⟨g,0,none⟩) (p0.length+p2.length) c0)]) (As':=[rowF (rawF 3) 100 (some ⟨g,0,none⟩) c0 r,rowF (rawF 3) 100 (some ⟨g3,0,none⟩) c2 p2]) (ob:=[]) (by kernel_rfl) trivial λa w hS=> ?_
 refine wl_end ?_
 refine hK17 _ _ ?_
 refine k_ret (by kernel_rfl) ?_
 try simp only[Exit.then,Exit.inBlock]
 refine r_ret hS [.tmp 6] [] (xs:=[.slice (some ⟨g,0,none⟩) (p0.length+p2.length) c0]) (ps:=[]) [0] [] rfl (by kernel_rfl) (λhA=>trivial) rfl (λF up=>trivial) ?_
 exact⟨some ⟨g,0,none⟩,c0,by rw[hrl];rfl,rfl,rfl⟩
def slices_Insert_Kid(n:Nat)(p1:Int)(q0 q1:List Kid):Option (List Kid):=insL 24 q0 p1 q1
@[reducible] def slices_Insert_Kid_ct:Ct tab:=⟨143,[.one (.own 0),.one (.d (.int .i64)),.one (.own 1)],[.row 100 (.st 3),.row 100 (.st 3)],[.one (.own 0)],[(none,.row 100 (.st 3))],List Kid,λy=>(y,()),λy=>y.1,λ_=>rfl,λn x=>slices_Insert_Kid n x.1 x.2.1 x.2.2.1⟩
theorem slices_Insert_Kid_ok:OkC Tryz.prog tab slices_Insert_Kid_ct:=ins_ok (t:= .st 3) (m:=3) (bytes:=24) tabOk rfl Tryz.call143 λp0 p1 p2 r h=>slices_Insert_Kid_raw p0 p1 p2 r h
def page_comes(n:Nat)(p0:List Content):Option Int:=
 (page_asked n 0 p0).bind λy1=>
 cond (y1 !=0)
 (some 2)
 (some 0)
@[reducible] def page_comes_ct:Ct tab:=⟨148,[.one (.d (.sl (.st 4)))],[],[.one (.d (.int .i64))],[],Int,λy=>(y,()),λy=>y.1,λ_=>rfl,λn x=>page_comes n x.1⟩
theorem page_comes_ok:OkC Tryz.prog tab page_comes_ct:=fn_ok (W:=⟨Tryz.prog,tab,tyOf,[page_asked_ct],addO,dpO,false⟩) ⟨tabOk,⟨page_asked_ok,trivial⟩,addOk⟩ (by kernel_rfl) 6 Tryz.f148 (.n) Tryz.func148 Tryz.call148 rfl (by kernel_rfl) (by kernel_rfl) (by kernel_rfl) λn x=>by kernel_rfl
def page_one(n:Nat)(p0:Content):Option (Content×Int):=
 (page_comes n ([p0]:List Content)).bind λy1=>
 cond (y1 !=0)
 (some ((Content.mk 0 ([]:List Row) ([]:List Kid)),y1))
 (some (p0,0))
@[reducible] def page_one_ct:Ct tab:=⟨106,[.st 4],[],[.st 4,.one (.d (.int .i64))],[],(Content×Int),λy=>(y.1,y.2,()),λy=>(y.1,y.2.1),λ_=>rfl,λn x=>page_one n x.1⟩
theorem page_one_ok:OkC Tryz.prog tab page_one_ct:=fn_ok (W:=⟨Tryz.prog,tab,tyOf,[page_comes_ct],addO,dpO,false⟩) ⟨tabOk,⟨page_comes_ok,trivial⟩,addOk⟩ (by kernel_rfl) 13 Tryz.f106 (.n) Tryz.func106 Tryz.call106 rfl (by kernel_rfl) (by kernel_rfl) (by kernel_rfl) λn x=>by kernel_rfl
def page_Adopt(n:Nat)(p0:Content)(p1:Int)(p2:Int)(p3:Key):Option (Content×Int):=
 (page_asked n 2 ([p0]:List Content)).bind λy1=>
 cond (y1 !=0)
 (some ((Content.mk 0 ([]:List Row) ([]:List Kid)),y1))
 (jn (fun(b2:Bool)=>
 cond b2
 (some ((Content.mk 0 ([]:List Row) ([]:List Kid)),2))
 ((page_full n p0).bind λy4=>
 cond y4
 (some ((Content.mk 0 ([]:List Row) ([]:List Kid)),6))
 ((slices_Clone_Kid n p0.kids).bind λy5=>
 (slices_Insert_Kid n (IntKind.wrap .i64 (p1+1)) y5 ([(Kid.mk p3 p2)]:List Kid)).bind λy6=>
 (page_inner n y6).bind λy7=>
 (page_one n y7).bind λy8=>
 some (y8.1,y8.2)))) λk3=>
 cond (decide (p1<0))
 (k3 true)
 (k3 (decide (p1≥(p0.kids.length:Int)))))
@[reducible] def page_Adopt_ct:Ct tab:=⟨100,[.st 4,.one (.d (.int .i64)),.one (.d (.int .i64)),.st 1],[],[.st 4,.one (.d (.int .i64))],[],(Content×Int),λy=>(y.1,y.2,()),λy=>(y.1,y.2.1),λ_=>rfl,λn x=>page_Adopt n x.1 x.2.1 x.2.2.1 x.2.2.2.1⟩
theorem page_Adopt_ok:OkC Tryz.prog tab page_Adopt_ct:=fn_ok (W:=⟨Tryz.prog,tab,tyOf,[page_asked_ct,page_full_ct,slices_Clone_Kid_ct,slices_Insert_Kid_ct,page_inner_ct,page_one_ct],addO,dpO,false⟩) ⟨tabOk,⟨page_asked_ok,page_full_ok,slices_Clone_Kid_ok,slices_Insert_Kid_ok,page_inner_ok,page_one_ok,trivial⟩,addOk⟩ (by kernel_rfl) 47 Tryz.f100 (.n) Tryz.func100 Tryz.call100 rfl (by kernel_rfl) (by kernel_rfl) (by kernel_rfl) λn x=>by kernel_rfl
def tree_change_group_1(n:Nat)(p0:Sheet)(p1:Sheet):Option Int:=
 (cmp_Compare_int n p0.page p1.page).bind λy1=>
 some y1
@[reducible] def tree_change_group_1_ct:Ct tab:=⟨109,[.st 6,.st 6],[],[.one (.d (.int .i64))],[],Int,λy=>(y,()),λy=>y.1,λ_=>rfl,λn x=>tree_change_group_1 n x.1 x.2.1⟩
theorem tree_change_group_1_ok:OkC Tryz.prog tab tree_change_group_1_ct:=fn_ok (W:=⟨Tryz.prog,tab,tyOf,[cmp_Compare_int_ct],addO,dpO,false⟩) ⟨tabOk,⟨cmp_Compare_int_ok,trivial⟩,addOk⟩ (by kernel_rfl) 10 Tryz.f109 (.n) Tryz.func109 Tryz.call109 rfl (by kernel_rfl) (by kernel_rfl) (by kernel_rfl) λn x=>by kernel_rfl
noncomputable def slices_SortFunc_Sheet_f109(n:Nat)(q0:List Sheet):Option (List Sheet):=match Nat.ble q0.length 4611686018427387903 with|true=>sortF (λx y=>tree_change_group_1 n x y) q0|false=>none
@[reducible] noncomputable def slices_SortFunc_Sheet_f109_ct:Ct tab:=srtfCt tab 108 109 76 (.st 6) (λn x y=>tree_change_group_1 n x y)
theorem slices_SortFunc_Sheet_f109_ok:OkC Tryz.prog tab slices_SortFunc_Sheet_f109_ct:=srtfK_ok (i:=6) (f:=(λn x y=>tree_change_group_1 n x y)) tabOk Tryz.sl108 rfl rfl Tryz.isAgg76 Tryz.sizeOf76 Tryz.call108 Tryz.call109
 (λn x y c hc w Ps vx vy hst h1 h2=>Calls.mono (tree_change_group_1_ok.2 n (x,y,()) c hc [] w rho0 [] Ps [vx,vy] hst (λj g h=>by cases h) ⟨h1,h2,trivial⟩ trivial) λe w' h=>by
  obtain⟨v1,ρ1,As1,Ps1,g1,g2,g3,_⟩:=h
  exact⟨g1.trans (congrArg Ending.returned (show v1= .int .i64 c from g2.1)),g3⟩)
def tree_change_group_l1(n:Nat):Nat→Int×Int×(List Sheet)×(List Content)×(List Group)×Unit→Option ((List Content)×(List Group)):=loopF λr1 ⟨v2,v3,v4,v5,v6,_⟩=>
 cond (decide (v3<v2))
 ((idx v4 v3).bind λx7=>
 (idx v4 v3).bind λx8=>
 (idx v5 x8.page).bind λx9=>
 (put v5 x8.page x8.content).bind λl10=>
 r1 (v2,(IntKind.wrap .i64 (v3+1)),v4,l10,v6,()))
 ((app 24 v6 ([(Group.mk v4)]:List Group)).bind λl11=>
 some (v5,l11))
def tree_change_group(n:Nat)(q1:List Content)(q2:List Group)(q3:List Sheet):Option ((List Content)×(List Group)):=
 (slices_SortFunc_Sheet_f109 n q3).bind λy1=>
 tree_change_group_l1 n n ((y1.length:Int),0,y1,q1,q2,())
@[reducible] def tree_change_group_ct:Ct tab:=⟨66,[.one (.box 0 0),.one (.own 3)],[.box [.own 1,.own 2],.row 47 (.st 4),.row 74 (.st 7),.row 76 (.st 6)],[],[(some 0,.box [.own 1,.own 2]),(none,.row 47 (.st 4)),(none,.row 74 (.st 7))],((List Content)×(List Group)),λy=>(y.1,y.2,()),λy=>(y.1,y.2.1),λ_=>rfl,λn x=>tree_change_group n x.1 x.2.1 x.2.2.1⟩
theorem tree_change_group_ok:OkC Tryz.prog tab tree_change_group_ct:=fn_ok (W:=⟨Tryz.prog,tab,tyOf,[slices_SortFunc_Sheet_f109_ct],addO,dpO,false⟩) ⟨tabOk,⟨slices_SortFunc_Sheet_f109_ok,trivial⟩,addOk⟩ (by kernel_rfl) 36 Tryz.f66 (.sq (.n) (.sq (.sq (.n) (.bk none (.lp ⟨[(0,.one (.box 0 0)),(1,.one (.own 1)),(8,.one (.own 1)),(9,.one (.d (.int .i64))),(10,.one (.d (.int .i64)))],[.box [.own 2,.own 3],.row 76 (.st 6),.row 47 (.st 4),.row 74 (.st 7)],[(0,0)]⟩ (.n)))) (.n))) Tryz.func66 Tryz.call66 rfl (by kernel_rfl) (by kernel_rfl) (by kernel_rfl) λn x=>by kernel_rfl
def tree_change_split(n:Nat)(p1:Int)(p2:Int)(q1:List Content)(q2:List Group):Option (Bool×(List Content)×(List Group)):=
 (idx q1 p1).bind λx1=>
 (idx q1 p1).bind λx2=>
 (idx x2.kids p2).bind λx3=>
 (idx q1 x3.page).bind λx4=>
 (idx q1 x3.page).bind λx5=>
 (page_Split n x5).bind λy6=>
 (tree_change_free n (tree_change.mk (Forest.mk q1) q2) ([]:List Int)).bind λy7=>
 cond (!y7.2)
 (some (false,q1,q2))
 ((idx q1 p1).bind λx8=>
 (idx q1 p1).bind λx9=>
 (page_Adopt n x9 p2 y7.1 y6.2.2.1).bind λy10=>
 (tree_change_group n q1 q2 ([(Sheet.mk p1 y10.1),(Sheet.mk x3.page y6.1),(Sheet.mk y7.1 y6.2.1)]:List Sheet)).bind λy11=>
 some (true,y11.1,y11.2))
@[reducible] def tree_change_split_ct:Ct tab:=⟨63,[.one (.box 0 0),.one (.d (.int .i64)),.one (.d (.int .i64))],[.box [.own 1,.own 2],.row 47 (.st 4),.row 74 (.st 7)],[.one (.d .bool)],[(some 0,.box [.own 1,.own 2]),(none,.row 47 (.st 4)),(none,.row 74 (.st 7))],(Bool×(List Content)×(List Group)),λy=>(y.1,y.2.1,y.2.2,()),λy=>(y.1,y.2.1,y.2.2.1),λ_=>rfl,λn x=>tree_change_split n x.1 x.2.1 x.2.2.1 x.2.2.2.1⟩
theorem tree_change_split_ok:OkC Tryz.prog tab tree_change_split_ct:=fn_ok (W:=⟨Tryz.prog,tab,tyOf,[page_Split_ct,tree_change_free_ct,page_Adopt_ct,tree_change_group_ct],addO,dpO,false⟩) ⟨tabOk,⟨page_Split_ok,tree_change_free_ok,page_Adopt_ok,tree_change_group_ok,trivial⟩,addOk⟩ (by kernel_rfl) 77 Tryz.f63 (.n) Tryz.func63 Tryz.call63 rfl (by kernel_rfl) (by kernel_rfl) (by kernel_rfl) λn x=>by kernel_rfl
def page_Full(n:Nat)(p0:Content):Option Bool:=
 (codec_Check n p0).bind λy1=>
 jn (fun(b2:Bool)=>
 some b2) λk3=>
 cond (y1==0)
 ((page_full n p0).bind λy4=>
 k3 y4)
 (k3 false)
@[reducible] def page_Full_ct:Ct tab:=⟨60,[.st 4],[],[.one (.d .bool)],[],Bool,λy=>(y,()),λy=>y.1,λ_=>rfl,λn x=>page_Full n x.1⟩
theorem page_Full_ok:OkC Tryz.prog tab page_Full_ct:=fn_ok (W:=⟨Tryz.prog,tab,tyOf,[codec_Check_ct,page_full_ct],addO,dpO,false⟩) ⟨tabOk,⟨codec_Check_ok,page_full_ok,trivial⟩,addOk⟩ (by kernel_rfl) 10 Tryz.f60 (.n) Tryz.func60 Tryz.call60 rfl (by kernel_rfl) (by kernel_rfl) (by kernel_rfl) λn x=>by kernel_rfl
def page_Put_1(n:Nat)(p0:Row)(p1:Row):Option Bool:=
 (row_Compare n p0.key p1.key).bind λy1=>
 some (decide (y1>0))
@[reducible] def page_Put_1_ct:Ct tab:=⟨103,[.st 2,.one (.ro (.st 2))],[],[.one (.d .bool)],[],Bool,λy=>(y,()),λy=>y.1,λ_=>rfl,λn x=>page_Put_1 n x.1 x.2.1⟩
theorem page_Put_1_ok:OkC Tryz.prog tab page_Put_1_ct:=fn_ok (W:=⟨Tryz.prog,tab,tyOf,[row_Compare_ct],addO,dpO,false⟩) ⟨tabOk,⟨row_Compare_ok,trivial⟩,addOk⟩ (by kernel_rfl) 10 Tryz.f103 (.n) Tryz.func103 Tryz.call103 rfl (by kernel_rfl) (by kernel_rfl) (by kernel_rfl) λn x=>by kernel_rfl
def slices_IndexFunc_Row_f103_l1(n:Nat):Nat→(List Row)×Row×Int×Int×Unit→Option Int:=loopF λr1 ⟨v1,v2,v3,v4,_⟩=>
 cond (decide (v4<v3))
 ((idx v1 v4).bind λx5=>
 (page_Put_1 n x5 v2).bind λy6=>
 cond y6
 (some v4)
 (r1 (v1,v2,v3,(IntKind.wrap .i64 (v4+1)),())))
 (some (-1))
def slices_IndexFunc_Row_f103(n:Nat)(p0:List Row)(p1:Row):Option Int:=
 slices_IndexFunc_Row_f103_l1 n n (p0,p1,(p0.length:Int),0,())
@[reducible] def slices_IndexFunc_Row_f103_ct:Ct tab:=⟨104,[.one (.d (.sl (.st 2))),.one (.fn 103 [.ro (.st 2)])],[],[.one (.d (.int .i64))],[],Int,λy=>(y,()),λy=>y.1,λ_=>rfl,λn x=>slices_IndexFunc_Row_f103 n x.1 x.2.1⟩
theorem slices_IndexFunc_Row_f103_ok:OkC Tryz.prog tab slices_IndexFunc_Row_f103_ct:=fn_ok (W:=⟨Tryz.prog,tab,tyOf,[page_Put_1_ct],addO,dpO,false⟩) ⟨tabOk,⟨page_Put_1_ok,trivial⟩,addOk⟩ (by kernel_rfl) 19 Tryz.f104 (.sq (.n) (.sq (.sq (.n) (.bk none (.lp ⟨[(0,.one (.d (.sl (.st 2)))),(1,.one (.fn 103 [.ro (.st 2)])),(7,.one (.d (.int .i64))),(8,.one (.d (.int .i64)))],[],[]⟩ (.n)))) (.n))) Tryz.func104 Tryz.call104 rfl (by kernel_rfl) (by kernel_rfl) (by kernel_rfl) λn x=>by kernel_rfl
theorem slices_Insert_Row_raw{a0:Option Addr}{c0:Nat}{a2:Option Addr}{c2:Nat}(p0:List (Raw 4))(p1:Int)(p2:List (Raw 4))(r:List (Raw 4))(h:insL 40 p0 p1 p2=some r):
  Meets Tryz.prog 105 #[.slice a0 p0.length c0,.int .i64 p1,.slice a2 p2.length c2] [rowF (rawF 4) 40 a0 c0 p0,rowF (rawF 4) 40 a2 c2 p2] [] λv A P=>∃(a:Option Addr) (c:Nat),v= .slice a r.length c∧A=[rowF (rawF 4) 40 a c r]∧P=[]:=by
 unfold insL at h
 split at h
 case isFalse=>cases h
 rename_i hb
 obtain⟨hb0,hb1⟩:=hb
 obtain⟨i,hi⟩:∃i:Nat,p1=(i:Int):=⟨p1.toNat,by omega⟩
 subst hi
 simp only[Int.toNat_natCast] at h
 have hil:i≤p0.length:=by omega
 split at h
 case h_2=>cases h
 rename_i hroom
 have hr:=someI h
 have hrl:r.length=p0.length+p2.length:=by rw[←hr];simp;omega
 have hbytes:(p0.length+p2.length)*40≤140737488355328:=Nat.le_of_ble_eq_true hroom
 have hsm:p0.length+p2.length<9223372036854775808:=by omega
 refine meets_enter 95 Tryz.func105 Tryz.call105 rfl (by kernel_rfl) (by simp) λC a w hS=> ?_
 have hc:p0.length≤c0:=(row_len (hS.st.own _ (List.mem_cons_self ..))).2.1
 refine k_seq (by kernel_rfl) λK1 hK1=> ?_
 refine k_reg 1 (by kernel_rfl) ?_
 refine r_run 0 1 [0,1,2] [] hS rfl (L':=[(0,.slice a0 p0.length c0),(1,.int .i64 i),(2,.slice a2 p2.length c2)]) (As':=[rowF (rawF 4) 40 a0 c0 p0,rowF (rawF 4) 40 a2 c2 p2]) (ob:=[]) (by kernel_rfl) trivial λa w hS=> ?_
 refine wl_end ?_
 refine hK1 _ _ ?_
 refine k_seq (by kernel_rfl) λK2 hK2=> ?_
 refine k_reg 3 (by kernel_rfl) ?_
 refine r_run 0 3 [0,1,2] [] hS rfl (L':=[(0,.slice a0 p0.length c0),(1,.int .i64 i),(2,.slice a2 p2.length c2)]) (As':=[rowF (rawF 4) 40 a0 c0 p0,rowF (rawF 4) 40 a2 c2 p2]) (ob:=[λ_=>0≤(i:Int)∧(i:Int)≤(p0.length:Int)∧(p0.length:Int)≤(c0:Int)]) (by kernel_rfl) ⟨Bx.c ⟨hb0,hb1,by omega⟩,trivial⟩ λa w hS=> ?_
 refine wl_end ?_
 refine hK2 _ _ ?_
 refine k_seq (by kernel_rfl) λK3 hK3=> ?_
 refine k_reg 3 (by kernel_rfl) ?_
 refine r_run 0 3 [0,1,2,7] [] hS rfl (L':=[(0,.slice a0 p0.length c0),(1,.int .i64 i),(2,.slice a2 p2.length c2),(7,.int .i64 (p2.length:Int))]) (As':=[rowF (rawF 4) 40 a0 c0 p0,rowF (rawF 4) 40 a2 c2 p2]) (ob:=[]) (by kernel_rfl) trivial λa w hS=> ?_
 refine wl_end ?_
 refine hK3 _ _ ?_
 refine k_seq (by kernel_rfl) λK4 hK4=> ?_
 refine k_seq (by kernel_rfl) λK5 hK5=> ?_
 refine k_reg 2 (by kernel_rfl) ?_
 refine r_run 0 2 [0,1,2,7,16] [] hS rfl (L':=[(0,.slice a0 p0.length c0),(1,.int .i64 i),(2,.slice a2 p2.length c2),(7,.int .i64 (p2.length:Int)),(16,.bool ((p2.length:Int)==0))]) (As':=[rowF (rawF 4) 40 a0 c0 p0,rowF (rawF 4) 40 a2 c2 p2]) (ob:=[]) (by kernel_rfl) trivial λa w hS=> ?_
 refine wl_end ?_
 refine hK5 _ _ ?_
 refine k_cond ((p2.length:Int)==0) hS.has (by kernel_rfl) (by kernel_rfl) (by kernel_rfl) (λhq=> ?_) (λhq=> ?_)
 ·have hp:p2=[]:=List.eq_nil_of_length_eq_zero (by simpa using hq)
  subst hp
  have hr':p0=r:=by rw[←hr];simp
  subst hr'
  refine k_seq (by kernel_rfl) λK6 hK6=> ?_
  refine k_reg 2 (by kernel_rfl) ?_
  refine r_run 0 2 [6] [] hS rfl (L':=[(6,.slice a0 p0.length c0)]) (As':=[rowF (rawF 4) 40 a0 c0 p0,rowF (rawF 4) 40 a2 c2 ([]:List (Raw 4))]) (ob:=[]) (by kernel_rfl) trivial λa w hS=> ?_
  refine wl_end ?_
  refine hK6 _ _ ?_
  refine k_ret (by kernel_rfl) ?_
  try simp only[Exit.then,Exit.inBlock]
  refine r_ret hS [.tmp 6] [] (xs:=[.slice a0 p0.length c0]) (ps:=[]) [0] [] rfl (by kernel_rfl) (λhA=>trivial) rfl (λF up=>trivial) ?_
  exact⟨a0,c0,rfl,rfl,rfl⟩
 have hm:0<p2.length:=by
  rcases Nat.eq_zero_or_pos p2.length with h0|h0
  ·rw[h0] at hq;simp at hq
  ·exact h0
 obtain⟨g3,rfl⟩:=row_block (hS.st.own (rowF (rawF 4) 40 a2 c2 p2) (by simp)) (by omega)
 refine k_skip (by kernel_rfl) ?_
 refine hK4 _ _ ?_
 refine k_seq (by kernel_rfl) λK7 hK7=> ?_
 refine k_reg 3 (by kernel_rfl) ?_
 refine r_run 0 3 [0,1,2,7,8] [] hS rfl (L':=[(0,.slice a0 p0.length c0),(1,.int .i64 i),(2,.slice (some ⟨g3,0,none⟩) p2.length c2),(7,.int .i64 (p2.length:Int)),(8,.int .i64 (p0.length:Int))]) (As':=[rowF (rawF 4) 40 a0 c0 p0,rowF (rawF 4) 40 (some ⟨g3,0,none⟩) c2 p2]) (ob:=[]) (by kernel_rfl) trivial λa w hS=> ?_
 refine wl_end ?_
 refine hK7 _ _ ?_
 refine k_seq (by kernel_rfl) λK8 hK8=> ?_
 refine k_seq (by kernel_rfl) λK9 hK9=> ?_
 refine k_reg 3 (by kernel_rfl) ?_
 refine r_run 0 3 [0,1,2,7,8,22] [] hS rfl (L':=[(0,.slice a0 p0.length c0),(1,.int .i64 i),(2,.slice (some ⟨g3,0,none⟩) p2.length c2),(7,.int .i64 (p2.length:Int)),(8,.int .i64 (p0.length:Int)),(22,.bool ((i:Int)==(p0.length:Int)))]) (As':=[rowF (rawF 4) 40 a0 c0 p0,rowF (rawF 4) 40 (some ⟨g3,0,none⟩) c2 p2]) (ob:=[]) (by kernel_rfl) trivial λa w hS=> ?_
 refine wl_end ?_
 refine hK9 _ _ ?_
 refine k_cond ((i:Int)==(p0.length:Int)) hS.has (by kernel_rfl) (by kernel_rfl) (by kernel_rfl) (λhq2=> ?_) (λhq2=> ?_)
 ·have hin:i=p0.length:=by
   have:=of_decide_eq_true (p:=(i:Int)=(p0.length:Int)) (by simpa using hq2)
   omega
  have hr':r=p0++p2:=by rw[←hr,hin];simp
  refine k_seq (by kernel_rfl) λK6 hK6=> ?_
  refine k_reg 4 (by kernel_rfl) ?_
  refine r_run 0 2 [23,24] [] hS rfl (L':=[(23,.slice a0 p0.length c0),(24,.slice (some ⟨g3,0,none⟩) p2.length c2)]) (As':=[rowF (rawF 4) 40 a0 c0 p0,rowF (rawF 4) 40 (some ⟨g3,0,none⟩) c2 p2]) (ob:=[]) (by kernel_rfl) trivial λa w hS=> ?_
  refine r_append 2 rfl (d:=25) (t:=30) (A:=a0) (c:=c0) (k:=p0.length) (b:=some ⟨g3,0,none⟩) (c2:=c2) (m:=p2.length) (p2.flatMap ((rawF 4)).enc) 0 [0] hS (appChk_sound (by kernel_rfl)) (by kernel_rfl) rfl rfl (λF up le=>appB (F:=(rawF 4)) (le 0 rfl _ λw h=>rowRS h)) hroom λa5 c5 a w hS=> ?_
  replace hS:=rowF_app (F:=(rawF 4)) (l:=p0) (m:=p2) hS hr'
  refine r_run 3 1 [6] [] hS rfl (L':=[(6,.slice a5 r.length c5)]) (As':=[rowF (rawF 4) 40 a5 c5 r,rowF (rawF 4) 40 (some ⟨g3,0,none⟩) c2 p2]) (ob:=[]) (by kernel_rfl) trivial λa w hS=> ?_
  refine wl_end ?_
  refine hK6 _ _ ?_
  refine k_ret (by kernel_rfl) ?_
  try simp only[Exit.then,Exit.inBlock]
  refine r_ret hS [.tmp 6] [] (xs:=[.slice a5 r.length c5]) (ps:=[]) [0] [] rfl (by kernel_rfl) (λhA=>trivial) rfl (λF up=>trivial) ?_
  exact⟨a5,c5,rfl,rfl,rfl⟩
 have hin:i<p0.length:=by
  rcases Nat.lt_or_ge i p0.length with h0|h0
  ·exact h0
  ·have:i=p0.length:=by omega
   rw[this] at hq2;simp at hq2
 obtain⟨g,rfl⟩:=row_block (hS.st.own (rowF (rawF 4) 40 a0 c0 p0) (by simp)) (by omega)
 have hw:IntKind.wrap .i64 ((p0.length:Int)+(p2.length:Int))=((p0.length+p2.length:Nat):Int):=by rw[IntKind.wrap_i64];omega
 have hw2:IntKind.wrap .i64 ((i:Int)+(p2.length:Int))=((i+p2.length:Nat):Int):=by rw[IntKind.wrap_i64];omega
 have hsz:0<((rawF 4)).sz:=by decide
 have hX:(p0.take i).flatMap ((rawF 4)).enc=(p0.flatMap ((rawF 4)).enc).take (i*((rawF 4)).sz):=flat_take p0 i
 have hY:(p0.drop i).flatMap ((rawF 4)).enc=(p0.flatMap ((rawF 4)).enc).drop (i*((rawF 4)).sz):=flat_drop p0 i
 have lX:((p0.take i).flatMap ((rawF 4)).enc).length=i*((rawF 4)).sz:=by rw[flat_len,List.length_take,Nat.min_eq_left hil]
 have lY:((p0.drop i).flatMap ((rawF 4)).enc).length=(p0.length-i)*((rawF 4)).sz:=by rw[flat_len,List.length_drop]
 have lV:(p2.flatMap ((rawF 4)).enc).length=p2.length*((rawF 4)).sz:=flat_len p2
 have hXY:(p0.take i).flatMap ((rawF 4)).enc++(p0.drop i).flatMap ((rawF 4)).enc=p0.flatMap ((rawF 4)).enc:=by rw[←List.flatMap_append,List.take_append_drop]
 have hre:r.flatMap ((rawF 4)).enc=(p0.take i).flatMap ((rawF 4)).enc++p2.flatMap ((rawF 4)).enc++(p0.drop i).flatMap ((rawF 4)).enc:=by rw[←hr,List.flatMap_append,List.flatMap_append]
 have hV1:∀v∈p2.flatMap ((rawF 4)).enc,v.oneCell'=true:=flat_one p2
 have hY1:∀v∈(p0.drop i).flatMap ((rawF 4)).enc,v.oneCell'=true:=flat_one _
 refine k_skip (by kernel_rfl) ?_
 refine hK8 _ _ ?_
 refine k_seq (by kernel_rfl) λK10 hK10=> ?_
 refine k_seq (by kernel_rfl) λK11 hK11=> ?_
 refine k_reg 6 (by kernel_rfl) ?_
 refine r_run 0 6 [0,1,2,7,8,31] [.as 28 (.int .i64 ((p0.length+p2.length:Nat):Int))] hS rfl (L':=[(0,.slice (some ⟨g,0,none⟩) p0.length c0),(1,.int .i64 i),(2,.slice (some ⟨g3,0,none⟩) p2.length c2),(7,.int .i64 (p2.length:Int)),(8,.int .i64 (p0.length:Int)),(31,.bool (decide (((p0.length+p2.length:Nat):Int)>(c0:Int))))]) (As':=[rowF (rawF 4) 40 (some ⟨g,0,none⟩) c0 p0,rowF (rawF 4) 40 (some ⟨g3,0,none⟩) c2 p2]) (ob:=[λ_=>Value.int .i64 (IntKind.wrap .i64 ((p0.length:Int)+(p2.length:Int)))= .int .i64 ((p0.length+p2.length:Nat):Int)]) (by kernel_rfl) ⟨Bx.c (by rw[hw]),trivial⟩ λa w hS=> ?_
 refine wl_end ?_
 refine hK11 _ _ ?_
 refine k_cond (decide (((p0.length+p2.length:Nat):Int)>(c0:Int))) hS.has (by kernel_rfl) (by kernel_rfl) (by kernel_rfl) (λhq3=> ?_) (λhq3=> ?_)
 ·have hgt:c0<p0.length+p2.length:=by have:=of_decide_eq_true hq3;omega
  have hk:p0.length+p2.length-i+i=p0.length+p2.length:=by omega
  have hw3:IntKind.wrap .i64 (((p0.length+p2.length:Nat):Int)-(i:Int))=((p0.length+p2.length-i:Nat):Int):=by rw[IntKind.wrap_i64];omega
  refine k_seq (by kernel_rfl) λK12 hK12=> ?_
  refine k_reg 10 (by kernel_rfl) ?_
  refine r_run 0 8 [0,1,2,7,8,34,39] [.as 34 (.slice (some ⟨g,0,none⟩) i c0),.as 37 (.int .i64 ((p0.length+p2.length:Nat):Int)),.as 39 (.int .i64 ((p0.length+p2.length-i:Nat):Int))] hS rfl (L':=[(0,.slice (some ⟨g,0,none⟩) p0.length c0),(1,.int .i64 i),(2,.slice (some ⟨g3,0,none⟩) p2.length c2),(7,.int .i64 (p2.length:Int)),(8,.int .i64 (p0.length:Int)),(34,.slice (some ⟨g,0,none⟩) i c0),(39,.int .i64 ((p0.length+p2.length-i:Nat):Int))]) (As':=[rowF (rawF 4) 40 (some ⟨g,0,none⟩) c0 p0,rowF (rawF 4) 40 (some ⟨g3,0,none⟩) c2 p2]) (ob:=[λ_=>(0:Int)≤0∧(0:Int)≤(i:Int)∧(i:Int)≤(c0:Int),λ_=>Value.slice (slA (some ⟨g,0,none⟩) 0 c0 ((rawF 4)).sz) i c0= .slice (some ⟨g,0,none⟩) i c0,λ_=>Value.int .i64 (IntKind.wrap .i64 ((p0.length:Int)+(p2.length:Int)))= .int .i64 ((p0.length+p2.length:Nat):Int),λ_=>Value.int .i64 (IntKind.wrap .i64 (((p0.length+p2.length:Nat):Int)-(i:Int)))= .int .i64 ((p0.length+p2.length-i:Nat):Int)]) (by kernel_rfl) ⟨Bx.c ⟨by omega,by omega,by omega⟩,Bx.c (by rw[slA_zero]),Bx.c (by rw[hw]),Bx.c (by rw[hw3]),trivial⟩ λa w hS=> ?_
  obtain⟨w',g2,c5,hrun,hc5,⟨T,hT,hrow⟩,hext,hg2,hg2'⟩:=run_zeros_row (P:=Tryz.prog) (sz:=((rawF 4)).sz) (t:=30) (tn:=3) (ty:=30) (i:=i) (k:=p0.length+p2.length-i) (bytes:=40) (inf:=Tryz.t40) (z:=(Tryz.t40.zero).getD undef) (kq:= .i64) (kn:= .i64) (by kernel_rfl) (by kernel_rfl) (by kernel_rfl) (by kernel_rfl) rfl (by kernel_rfl) (by kernel_rfl) hsz (by decide) (hS.st.own (rowF (rawF 4) 40 (some ⟨g,0,none⟩) c0 p0) (by simp)) hil (by omega) (by omega) (by rw[show i+(p0.length+p2.length-i)=p0.length+p2.length from by omega];exact hroom)
  have hik:i+(p0.length+p2.length-i)=p0.length+p2.length:=by omega
  rw[hik] at hrun hc5 hT
  refine r_bltN 8 rfl (d:=some 40) (b:= .append) (ts:= #[30,3]) (ty:=30) (vs:= #[.slice (some ⟨g,0,none⟩) i c0,.int .i64 ((p0.length+p2.length-i:Nat):Int)]) hS (by kernel_rfl) _ hrun hrow hext (λx hx=>by simp[Asn.fp] at hx;subst hx;exact⟨hg2,hg2'⟩) (by simp[Asn.fp]) λa hS=> ?_
  rw[←hX] at hS
  generalize hZ:(Builtin.zeroCells ((Tryz.t40.zero).getD undef).cells (p0.length+p2.length-i)).toList=Z at hS
  have lZ:Z.length=(p2.flatMap ((rawF 4)).enc).length+((p0.drop i).flatMap ((rawF 4)).enc).length:=by
   rw[←hZ,zeros_len,lV,lY,←Nat.add_mul,show((Tryz.t40.zero).getD undef).cells.size=((rawF 4)).sz from by kernel_rfl]
   congr 1;omega
  refine r_run 9 1 [0,1,2,7,9] [] hS rfl (L':=[(0,.slice (some ⟨g,0,none⟩) p0.length c0),(1,.int .i64 i),(2,.slice (some ⟨g3,0,none⟩) p2.length c2),(7,.int .i64 (p2.length:Int)),(9,.slice (some ⟨g2,0,none⟩) (p0.length+p2.length) c5)]) (As':=[.row (some ⟨g2,0,none⟩) c5 40 ((rawF 4)).sz c5 ((p0.take i).flatMap ((rawF 4)).enc++Z++T),rowF (rawF 4) 40 (some ⟨g,0,none⟩) c0 p0,rowF (rawF 4) 40 (some ⟨g3,0,none⟩) c2 p2]) (ob:=[]) (by kernel_rfl) trivial λa w hS=> ?_
  refine wl_end ?_
  refine hK12 _ _ ?_
  refine k_seq (by kernel_rfl) λK13 hK13=> ?_
  refine k_reg 5 (by kernel_rfl) ?_
  have hs1:slA (some (⟨g2,0,none⟩:Addr)) i c5 ((rawF 4)).sz=some ⟨g2,i*((rawF 4)).sz,none⟩:=by
   unfold slA;rw[if_neg (by omega)];simp only[Option.map_some,addr_add0]
  refine r_run 0 4 [0,1,7,9,43,44] [.as 43 (.slice (some ⟨g2,i*((rawF 4)).sz,none⟩) (p0.length+p2.length-i) (c5-i))] hS rfl (L':=[(0,.slice (some ⟨g,0,none⟩) p0.length c0),(1,.int .i64 i),(7,.int .i64 (p2.length:Int)),(9,.slice (some ⟨g2,0,none⟩) (p0.length+p2.length) c5),(43,.slice (some ⟨g2,i*((rawF 4)).sz,none⟩) (p0.length+p2.length-i) (c5-i)),(44,.slice (some ⟨g3,0,none⟩) p2.length c2)]) (As':=[.row (some ⟨g2,0,none⟩) c5 40 ((rawF 4)).sz c5 ((p0.take i).flatMap ((rawF 4)).enc++Z++T),rowF (rawF 4) 40 (some ⟨g,0,none⟩) c0 p0,rowF (rawF 4) 40 (some ⟨g3,0,none⟩) c2 p2]) (ob:=[λ_=>0≤(i:Int)∧(i:Int)≤((p0.length+p2.length:Nat):Int)∧((p0.length+p2.length:Nat):Int)≤(c5:Int),λ_=>Value.slice (slA (some ⟨g2,0,none⟩) i c5 ((rawF 4)).sz) (p0.length+p2.length-i) (c5-i)= .slice (some ⟨g2,i*((rawF 4)).sz,none⟩) (p0.length+p2.length-i) (c5-i)]) (by kernel_rfl) ⟨Bx.c ⟨by omega,by omega,by omega⟩,Bx.c (by rw[hs1]),trivial⟩ λa w hS=> ?_
  have hsrc:=row_cellsAt (hS.st.own (rowF (rawF 4) 40 (some ⟨g3,0,none⟩) c2 p2) (by simp)) 0 (p2.flatMap ((rawF 4)).enc).length
  rw[List.drop_zero,List.take_length] at hsrc
  have hfit1:i*((rawF 4)).sz+(p2.flatMap ((rawF 4)).enc).length≤c5*((rawF 4)).sz:=by rw[lV,←Nat.add_mul];exact Nat.mul_le_mul_right _ (by omega)
  have hmin1:Nat.min p2.length (p0.length+p2.length-i)=p2.length:=Nat.min_eq_left (by omega)
  refine r_bltS 4 rfl 0 (.row (some ⟨g2,0,none⟩) c5 40 ((rawF 4)).sz c5 (spl ((p0.take i).flatMap ((rawF 4)).enc++Z++T) (i*((rawF 4)).sz) (p2.flatMap ((rawF 4)).enc))) (d:=some 45) (b:= .copy) (ts:= #[30,30]) (ty:=3) (vs:= #[.slice (some ⟨g2,i*((rawF 4)).sz,none⟩) (p0.length+p2.length-i) (c5-i),.slice (some ⟨g3,0,none⟩) p2.length c2]) hS (by kernel_rfl) rfl (λhA=>run_copyR (dT:=30) (sT:=30) (ty:=3) (inf:=Tryz.t40) (by kernel_rfl) (by kernel_rfl) rfl hA (by rw[hmin1,lV]) hsrc hfit1 hV1) rfl (by simp[Asn.fp]) λa w hS=> ?_
  refine wl_end ?_
  refine hK13 _ _ ?_
  refine k_seq (by kernel_rfl) λK14 hK14=> ?_
  have hs2:slA (some (⟨g2,0,none⟩:Addr)) (i+p2.length) c5 ((rawF 4)).sz=some ⟨g2,(i+p2.length)*((rawF 4)).sz,none⟩:=by
   unfold slA;rw[if_neg (by omega)];simp only[Option.map_some,addr_add0]
  have hs3:slA (some (⟨g,0,none⟩:Addr)) i c0 ((rawF 4)).sz=some ⟨g,i*((rawF 4)).sz,none⟩:=by
   unfold slA;rw[if_neg (by omega)];simp only[Option.map_some,addr_add0]
  refine k_draw 8 9 [.val (.slice (some ⟨g2,0,none⟩) (p0.length+p2.length) c5),.val (.int .i64 i),.val (.int .i64 (p2.length:Int)),.val (.int .i64 ((i+p2.length:Nat):Int)),.val (.slice (some ⟨g2,(i+p2.length)*((rawF 4)).sz,none⟩) (p0.length+p2.length-(i+p2.length)) (c5-(i+p2.length))),.val (.slice (some ⟨g,0,none⟩) p0.length c0),.val (.int .i64 i),.val (.slice (some ⟨g,i*((rawF 4)).sz,none⟩) (p0.length-i) (c0-i))] [] [(0,[]),(1,[]),(2,[]),(3,[.as 49 (.int .i64 ((i+p2.length:Nat):Int))]),(4,[.as 50 (.slice (some ⟨g2,(i+p2.length)*((rawF 4)).sz,none⟩) (p0.length+p2.length-(i+p2.length)) (c5-(i+p2.length)))]),(5,[]),(6,[]),(7,[.as 53 (.slice (some ⟨g,i*((rawF 4)).sz,none⟩) (p0.length-i) (c0-i))])] [] (ob:=[λ_=>Value.int .i64 (IntKind.wrap .i64 ((i:Int)+(p2.length:Int)))= .int .i64 ((i+p2.length:Nat):Int),λ_=>0≤((i+p2.length:Nat):Int)∧((i+p2.length:Nat):Int)≤((p0.length+p2.length:Nat):Int)∧((p0.length+p2.length:Nat):Int)≤(c5:Int),λ_=>Value.slice (slA (some ⟨g2,0,none⟩) (i+p2.length) c5 ((rawF 4)).sz) (p0.length+p2.length-(i+p2.length)) (c5-(i+p2.length))= .slice (some ⟨g2,(i+p2.length)*((rawF 4)).sz,none⟩) (p0.length+p2.length-(i+p2.length)) (c5-(i+p2.length)),λ_=>0≤(i:Int)∧(i:Int)≤(p0.length:Int)∧(p0.length:Int)≤(c0:Int),λ_=>Value.slice (slA (some ⟨g,0,none⟩) i c0 ((rawF 4)).sz) (p0.length-i) (c0-i)= .slice (some ⟨g,i*((rawF 4)).sz,none⟩) (p0.length-i) (c0-i)]) (by kernel_rfl) (by kernel_rfl) hS (by kernel_rfl) (λF N0=>by kernel_rfl) (by kernel_rfl) (by kernel_rfl) (by kernel_rfl) (by kernel_rfl) ⟨Bx.c (by rw[hw2]),Bx.c ⟨by omega,by omega,by omega⟩,Bx.c (by rw[hs2]),Bx.c ⟨by omega,by omega,by omega⟩,Bx.c (by rw[hs3]),trivial⟩ ?_ ?_
  ·exact trivial
  intro V a w e hS hq
  have hsrc:=row_cellsAt (hS.st.own (rowF (rawF 4) 40 (some ⟨g,0,none⟩) c0 p0) (by simp[List.set])) (i*((rawF 4)).sz) ((p0.drop i).flatMap ((rawF 4)).enc).length
  rw[←hY,List.take_length] at hsrc
  have hmin2:Nat.min (p0.length-i) (p0.length+p2.length-(i+p2.length))=p0.length-i:=Nat.min_eq_left (by omega)
  have hfit2:(i+p2.length)*((rawF 4)).sz+((p0.drop i).flatMap ((rawF 4)).enc).length≤c5*((rawF 4)).sz:=by rw[lY,←Nat.add_mul];exact Nat.mul_le_mul_right _ (by omega)
  refine r_bltS 8 rfl 0 (.row (some ⟨g2,0,none⟩) c5 40 ((rawF 4)).sz c5 (spl (spl ((p0.take i).flatMap ((rawF 4)).enc++Z++T) (i*((rawF 4)).sz) (p2.flatMap ((rawF 4)).enc)) ((i+p2.length)*((rawF 4)).sz) ((p0.drop i).flatMap ((rawF 4)).enc))) (d:=some 54) (b:= .copy) (ts:= #[30,30]) (ty:=3) (vs:= #[.slice (some ⟨g2,(i+p2.length)*((rawF 4)).sz,none⟩) (p0.length+p2.length-(i+p2.length)) (c5-(i+p2.length)),.slice (some ⟨g,i*((rawF 4)).sz,none⟩) (p0.length-i) (c0-i)]) hS (by kernel_rfl) rfl (λhA=>run_copyR (dT:=30) (sT:=30) (ty:=3) (inf:=Tryz.t40) (by kernel_rfl) (by kernel_rfl) rfl hA (by rw[hmin2,lY]) hsrc hfit2 hY1) rfl (by simp[Asn.fp]) λa w hS=> ?_
  have hfin:(spl (spl ((p0.take i).flatMap ((rawF 4)).enc++Z++T) (i*((rawF 4)).sz) (p2.flatMap ((rawF 4)).enc)) ((i+p2.length)*((rawF 4)).sz) ((p0.drop i).flatMap ((rawF 4)).enc)).take ((p0.length+p2.length)*((rawF 4)).sz)=r.flatMap ((rawF 4)).enc:=by
   have:=cells_new ((p0.take i).flatMap ((rawF 4)).enc) ((p0.drop i).flatMap ((rawF 4)).enc) (p2.flatMap ((rawF 4)).enc) Z T lZ
   rw[lX,lV,←Nat.add_mul] at this
   rw[this,hre,List.take_left' (by rw[List.length_append,List.length_append,lX,lV,lY,←Nat.add_mul,←Nat.add_mul];congr 1;omega)]
  replace hS:=hS.same (B:=rowF (rawF 4) 40 (some ⟨g2,0,none⟩) c5 r) 0 rfl (λhA=>row_app_form hA hrl hc5 hfin) rfl (by simp[Asn.fp])
  refine wl_end ?_
  refine hK14 _ _ ?_
  refine k_seq (by kernel_rfl) λK15 hK15=> ?_
  refine k_reg 2 (by kernel_rfl) ?_
  refine r_run 0 2 [6] [] hS rfl (L':=[(6,.slice (some ⟨g2,0,none⟩) (p0.length+p2.length) c5)]) (As':=[rowF (rawF 4) 40 (some ⟨g2,0,none⟩) c5 r,rowF (rawF 4) 40 (some ⟨g,0,none⟩) c0 p0,rowF (rawF 4) 40 (some ⟨g3,0,none⟩) c2 p2]) (ob:=[]) (by kernel_rfl) trivial λa w hS=> ?_
  refine wl_end ?_
  refine hK15 _ _ ?_
  refine k_ret (by kernel_rfl) ?_
  try simp only[Exit.then,Exit.inBlock]
  refine r_ret hS [.tmp 6] [] (xs:=[.slice (some ⟨g2,0,none⟩) (p0.length+p2.length) c5]) (ps:=[]) [0] [] rfl (by kernel_rfl) (λhA=>trivial) rfl (λF up=>trivial) ?_
  exact⟨some ⟨g2,0,none⟩,c5,by rw[hrl];rfl,rfl,rfl⟩
 have hle:p0.length+p2.length≤c0:=by have:=of_decide_eq_false hq3;omega
 refine k_skip (by kernel_rfl) ?_
 refine hK10 _ _ ?_
 refine k_seq (by kernel_rfl) λK12 hK12=> ?_
 refine k_reg 6 (by kernel_rfl) ?_
 refine r_run 0 6 [0,1,2,7] [.as 59 (.int .i64 ((p0.length+p2.length:Nat):Int)),.as 60 (.slice (some ⟨g,0,none⟩) (p0.length+p2.length) c0)] hS rfl (L':=[(0,.slice (some ⟨g,0,none⟩) (p0.length+p2.length) c0),(1,.int .i64 i),(2,.slice (some ⟨g3,0,none⟩) p2.length c2),(7,.int .i64 (p2.length:Int))]) (As':=[rowF (rawF 4) 40 (some ⟨g,0,none⟩) c0 p0,rowF (rawF 4) 40 (some ⟨g3,0,none⟩) c2 p2]) (ob:=[λ_=>Value.int .i64 (IntKind.wrap .i64 ((p0.length:Int)+(p2.length:Int)))= .int .i64 ((p0.length+p2.length:Nat):Int),λ_=>(0:Int)≤0∧(0:Int)≤((p0.length+p2.length:Nat):Int)∧((p0.length+p2.length:Nat):Int)≤(c0:Int),λ_=>Value.slice (slA (some ⟨g,0,none⟩) 0 c0 ((rawF 4)).sz) (p0.length+p2.length) c0= .slice (some ⟨g,0,none⟩) (p0.length+p2.length) c0]) (by kernel_rfl) ⟨Bx.c (by rw[hw]),Bx.c ⟨by omega,by omega,by omega⟩,Bx.c (by rw[slA_zero]),trivial⟩ λa w hS=> ?_
 obtain⟨ds,hd1,hd2,hd3,hd4⟩:=row_full (hS.st.own (rowF (rawF 4) 40 (some ⟨g,0,none⟩) c0 p0) (by simp))
 replace hS:=hS.same (B:= .row (some ⟨g,0,none⟩) c0 40 ((rawF 4)).sz c0 ds) 0 rfl (λ_=>hd4) rfl (by simp[Asn.fp])
 refine wl_end ?_
 refine hK12 _ _ ?_
 refine k_seq (by kernel_rfl) λK13 hK13=> ?_
 refine k_seq (by kernel_rfl) λK14 hK14=> ?_
 refine k_reg 8 (by kernel_rfl) ?_
 have hs2:slA (some (⟨g,0,none⟩:Addr)) (i+p2.length) c0 ((rawF 4)).sz=some ⟨g,(i+p2.length)*((rawF 4)).sz,none⟩:=by
  unfold slA;rw[if_neg (by omega)];simp only[Option.map_some,addr_add0]
 have hs3:slA (some (⟨g,0,none⟩:Addr)) i c0 ((rawF 4)).sz=some ⟨g,i*((rawF 4)).sz,none⟩:=by
  unfold slA;rw[if_neg (by omega)];simp only[Option.map_some,addr_add0]
 refine r_run 0 6 [0,1,2,7,61,66] [.as 65 (.int .i64 ((i+p2.length:Nat):Int)),.as 66 (.slice (some ⟨g,(i+p2.length)*((rawF 4)).sz,none⟩) (p0.length+p2.length-(i+p2.length)) (c0-(i+p2.length)))] hS rfl (L':=[(0,.slice (some ⟨g,0,none⟩) (p0.length+p2.length) c0),(1,.int .i64 i),(2,.slice (some ⟨g3,0,none⟩) p2.length c2),(7,.int .i64 (p2.length:Int)),(61,.slice (some ⟨g3,0,none⟩) p2.length c2),(66,.slice (some ⟨g,(i+p2.length)*((rawF 4)).sz,none⟩) (p0.length+p2.length-(i+p2.length)) (c0-(i+p2.length)))]) (As':=[.row (some ⟨g,0,none⟩) c0 40 ((rawF 4)).sz c0 ds,rowF (rawF 4) 40 (some ⟨g3,0,none⟩) c2 p2]) (ob:=[λ_=>Value.int .i64 (IntKind.wrap .i64 ((i:Int)+(p2.length:Int)))= .int .i64 ((i+p2.length:Nat):Int),λ_=>0≤((i+p2.length:Nat):Int)∧((i+p2.length:Nat):Int)≤((p0.length+p2.length:Nat):Int)∧((p0.length+p2.length:Nat):Int)≤(c0:Int),λ_=>Value.slice (slA (some ⟨g,0,none⟩) (i+p2.length) c0 ((rawF 4)).sz) (p0.length+p2.length-(i+p2.length)) (c0-(i+p2.length))= .slice (some ⟨g,(i+p2.length)*((rawF 4)).sz,none⟩) (p0.length+p2.length-(i+p2.length)) (c0-(i+p2.length))]) (by kernel_rfl) ⟨Bx.c (by rw[hw2]),Bx.c ⟨by omega,by omega,by omega⟩,Bx.c (by rw[hs2]),trivial⟩ λa w hS=> ?_
 have hne:g3≠g:=by
  have:=(List.nodup_append.1 hS.st.nd).2.1
  simp[fps,Asn.fp] at this
  exact λe=>this e.symm
 have hA0:=row_shape (hS.st.own (.row (some ⟨g,0,none⟩) c0 40 ((rawF 4)).sz c0 ds) (by simp))
 have hA1:=row_shape (hS.st.own (rowF (rawF 4) 40 (some ⟨g3,0,none⟩) c2 p2) (by simp))
 have hcsz:c0*((rawF 4)).sz≠0:=Nat.mul_ne_zero (by omega) (by omega)
 have hov:(callFunc 146 #[.slice (some ⟨g3,0,none⟩) p2.length c2,.slice (some ⟨g,(i+p2.length)*((rawF 4)).sz,none⟩) (p0.length+p2.length-(i+p2.length)) (c0-(i+p2.length))]).run Tryz.prog w= .ok (.value (.bool false)) w:=by
  rw[run_callFunc_extern Tryz.func146 (by kernel_rfl) (by kernel_rfl) (by kernel_rfl) (e:=Extern.SlicesOverlaps.overlaps #[30,30] #[4]) (by kernel_rfl),
   Lib.run_overlaps_apart w 30 4 40 (by kernel_rfl) ((rawF 4)).sz (λw=>by simp[sizeOf,run_info (show Tryz.prog.info? 40=some Tryz.t40 from by kernel_rfl)];kernel_rfl) ⟨g3,0,none⟩ ⟨g,(i+p2.length)*((rawF 4)).sz,none⟩ p2.length c2 _ _ hne _ _ _ _ hA1.1 hA0.1 hcsz (hA1.2 _) (hA1.2 _)]
  rfl
 refine r_ext 6 rfl (d:=some 67) (g:=146) (args:= #[.slice (some ⟨g3,0,none⟩) p2.length c2,.slice (some ⟨g,(i+p2.length)*((rawF 4)).sz,none⟩) (p0.length+p2.length-(i+p2.length)) (c0-(i+p2.length))]) hS (by kernel_rfl) hov λa hS=> ?_
 refine r_run 7 1 [0,1,2,7,68] [] hS rfl (L':=[(0,.slice (some ⟨g,0,none⟩) (p0.length+p2.length) c0),(1,.int .i64 i),(2,.slice (some ⟨g3,0,none⟩) p2.length c2),(7,.int .i64 (p2.length:Int)),(68,.bool true)]) (As':=[.row (some ⟨g,0,none⟩) c0 40 ((rawF 4)).sz c0 ds,rowF (rawF 4) 40 (some ⟨g3,0,none⟩) c2 p2]) (ob:=[]) (by kernel_rfl) trivial λa w hS=> ?_
 refine wl_end ?_
 refine hK14 _ _ ?_
 refine k_cond true hS.has (by kernel_rfl) (by kernel_rfl) (by kernel_rfl) (λ_=> ?_) (λhx=>by cases hx)
 refine k_seq (by kernel_rfl) λK15 hK15=> ?_
 obtain⟨Z,hZ⟩:∃Z,ds=(p0.take i).flatMap ((rawF 4)).enc++(p0.drop i).flatMap ((rawF 4)).enc++Z:=⟨ds.drop (p0.length*((rawF 4)).sz),by rw[hXY];conv=>lhs;rw[←List.take_append_drop (p0.length*((rawF 4)).sz) ds,hd1]⟩
 have lds:ds.length=c0*((rawF 4)).sz:=hd2
 have lZ:(p2.flatMap ((rawF 4)).enc).length≤((p0.drop i).flatMap ((rawF 4)).enc).length+Z.length:=by
  have h1:=lds
  rw[hZ,List.length_append,List.length_append,lX,lY] at h1
  rw[lV,lY]
  have h2:=Nat.mul_le_mul_right ((rawF 4)).sz hle
  rw[Nat.add_mul] at h2
  have h3:i*((rawF 4)).sz+(p0.length-i)*((rawF 4)).sz=p0.length*((rawF 4)).sz:=by rw[←Nat.add_mul];congr 1;omega
  omega
 refine k_draw 8 9 [.val (.slice (some ⟨g,0,none⟩) (p0.length+p2.length) c0),.val (.int .i64 i),.val (.int .i64 (p2.length:Int)),.val (.int .i64 ((i+p2.length:Nat):Int)),.val (.slice (some ⟨g,(i+p2.length)*((rawF 4)).sz,none⟩) (p0.length+p2.length-(i+p2.length)) (c0-(i+p2.length))),.val (.slice (some ⟨g,0,none⟩) (p0.length+p2.length) c0),.val (.int .i64 i),.val (.slice (some ⟨g,i*((rawF 4)).sz,none⟩) (p0.length+p2.length-i) (c0-i))] [] [(0,[]),(1,[]),(2,[]),(3,[.as 72 (.int .i64 ((i+p2.length:Nat):Int))]),(4,[.as 73 (.slice (some ⟨g,(i+p2.length)*((rawF 4)).sz,none⟩) (p0.length+p2.length-(i+p2.length)) (c0-(i+p2.length)))]),(5,[]),(6,[]),(7,[.as 76 (.slice (some ⟨g,i*((rawF 4)).sz,none⟩) (p0.length+p2.length-i) (c0-i))])] [] (ob:=[λ_=>Value.int .i64 (IntKind.wrap .i64 ((i:Int)+(p2.length:Int)))= .int .i64 ((i+p2.length:Nat):Int),λ_=>0≤((i+p2.length:Nat):Int)∧((i+p2.length:Nat):Int)≤((p0.length+p2.length:Nat):Int)∧((p0.length+p2.length:Nat):Int)≤(c0:Int),λ_=>Value.slice (slA (some ⟨g,0,none⟩) (i+p2.length) c0 ((rawF 4)).sz) (p0.length+p2.length-(i+p2.length)) (c0-(i+p2.length))= .slice (some ⟨g,(i+p2.length)*((rawF 4)).sz,none⟩) (p0.length+p2.length-(i+p2.length)) (c0-(i+p2.length)),λ_=>0≤(i:Int)∧(i:Int)≤((p0.length+p2.length:Nat):Int)∧((p0.length+p2.length:Nat):Int)≤(c0:Int),λ_=>Value.slice (slA (some ⟨g,0,none⟩) i c0 ((rawF 4)).sz) (p0.length+p2.length-i) (c0-i)= .slice (some ⟨g,i*((rawF 4)).sz,none⟩) (p0.length+p2.length-i) (c0-i)]) (by kernel_rfl) (by kernel_rfl) hS (by kernel_rfl) (λF N0=>by kernel_rfl) (by kernel_rfl) (by kernel_rfl) (by kernel_rfl) (by kernel_rfl) ⟨Bx.c (by rw[hw2]),Bx.c ⟨by omega,by omega,by omega⟩,Bx.c (by rw[hs2]),Bx.c ⟨by omega,by omega,by omega⟩,Bx.c (by rw[hs3]),trivial⟩ ?_ ?_
 ·exact trivial
 intro V a w e hS hq
 have hsrc:=row_cellsAt (hS.st.own (.row (some ⟨g,0,none⟩) c0 40 ((rawF 4)).sz c0 ds) (by simp)) (i*((rawF 4)).sz) ((p0.drop i).flatMap ((rawF 4)).enc).length
 have hdsd:(ds.drop (i*((rawF 4)).sz)).take ((p0.drop i).flatMap ((rawF 4)).enc).length=(p0.drop i).flatMap ((rawF 4)).enc:=by
  rw[hZ,List.append_assoc,←lX,List.drop_left,List.take_left]
 rw[hdsd] at hsrc
 have hmin2:Nat.min (p0.length+p2.length-i) (p0.length+p2.length-(i+p2.length))=p0.length-i:=by
  rw[show p0.length+p2.length-(i+p2.length)=p0.length-i from by omega];exact Nat.min_eq_right (by omega)
 have hfit2:(i+p2.length)*((rawF 4)).sz+((p0.drop i).flatMap ((rawF 4)).enc).length≤c0*((rawF 4)).sz:=by rw[lY,←Nat.add_mul];exact Nat.mul_le_mul_right _ (by omega)
 refine r_bltS 8 rfl 0 (.row (some ⟨g,0,none⟩) c0 40 ((rawF 4)).sz c0 (spl ds ((i+p2.length)*((rawF 4)).sz) ((p0.drop i).flatMap ((rawF 4)).enc))) (d:=some 77) (b:= .copy) (ts:= #[30,30]) (ty:=3) (vs:= #[.slice (some ⟨g,(i+p2.length)*((rawF 4)).sz,none⟩) (p0.length+p2.length-(i+p2.length)) (c0-(i+p2.length)),.slice (some ⟨g,i*((rawF 4)).sz,none⟩) (p0.length+p2.length-i) (c0-i)]) hS (by kernel_rfl) rfl (λhA=>run_copyR (dT:=30) (sT:=30) (ty:=3) (inf:=Tryz.t40) (by kernel_rfl) (by kernel_rfl) rfl hA (by rw[hmin2,lY]) hsrc hfit2 hY1) rfl (by simp[Asn.fp]) λa w hS=> ?_
 refine wl_end ?_
 refine hK15 _ _ ?_
 refine k_seq (by kernel_rfl) λK16 hK16=> ?_
 refine k_reg 5 (by kernel_rfl) ?_
 refine r_run 0 4 [0,80,81] [.as 80 (.slice (some ⟨g,i*((rawF 4)).sz,none⟩) (p0.length+p2.length-i) (c0-i))] hS rfl (L':=[(0,.slice (some ⟨g,0,none⟩) (p0.length+p2.length) c0),(80,.slice (some ⟨g,i*((rawF 4)).sz,none⟩) (p0.length+p2.length-i) (c0-i)),(81,.slice (some ⟨g3,0,none⟩) p2.length c2)]) (As':=[.row (some ⟨g,0,none⟩) c0 40 ((rawF 4)).sz c0 (spl ds ((i+p2.length)*((rawF 4)).sz) ((p0.drop i).flatMap ((rawF 4)).enc)),rowF (rawF 4) 40 (some ⟨g3,0,none⟩) c2 p2]) (ob:=[λ_=>0≤(i:Int)∧(i:Int)≤((p0.length+p2.length:Nat):Int)∧((p0.length+p2.length:Nat):Int)≤(c0:Int),λ_=>Value.slice (slA (some ⟨g,0,none⟩) i c0 ((rawF 4)).sz) (p0.length+p2.length-i) (c0-i)= .slice (some ⟨g,i*((rawF 4)).sz,none⟩) (p0.length+p2.length-i) (c0-i)]) (by kernel_rfl) ⟨Bx.c ⟨by omega,by omega,by omega⟩,Bx.c (by rw[hs3]),trivial⟩ λa w hS=> ?_
 have hsrc:=row_cellsAt (hS.st.own (rowF (rawF 4) 40 (some ⟨g3,0,none⟩) c2 p2) (by simp)) 0 (p2.flatMap ((rawF 4)).enc).length
 rw[List.drop_zero,List.take_length] at hsrc
 have hfit1:i*((rawF 4)).sz+(p2.flatMap ((rawF 4)).enc).length≤c0*((rawF 4)).sz:=by rw[lV,←Nat.add_mul];exact Nat.mul_le_mul_right _ (by omega)
 have hmin1:Nat.min p2.length (p0.length+p2.length-i)=p2.length:=Nat.min_eq_left (by omega)
 refine r_bltS 4 rfl 0 (.row (some ⟨g,0,none⟩) c0 40 ((rawF 4)).sz c0 (spl (spl ds ((i+p2.length)*((rawF 4)).sz) ((p0.drop i).flatMap ((rawF 4)).enc)) (i*((rawF 4)).sz) (p2.flatMap ((rawF 4)).enc))) (d:=some 82) (b:= .copy) (ts:= #[30,30]) (ty:=3) (vs:= #[.slice (some ⟨g,i*((rawF 4)).sz,none⟩) (p0.length+p2.length-i) (c0-i),.slice (some ⟨g3,0,none⟩) p2.length c2]) hS (by kernel_rfl) rfl (λhA=>run_copyR (dT:=30) (sT:=30) (ty:=3) (inf:=Tryz.t40) (by kernel_rfl) (by kernel_rfl) rfl hA (by rw[hmin1,lV]) hsrc hfit1 hV1) rfl (by simp[Asn.fp]) λa w hS=> ?_
 have hfin:(spl (spl ds ((i+p2.length)*((rawF 4)).sz) ((p0.drop i).flatMap ((rawF 4)).enc)) (i*((rawF 4)).sz) (p2.flatMap ((rawF 4)).enc)).take ((p0.length+p2.length)*((rawF 4)).sz)=r.flatMap ((rawF 4)).enc:=by
  have:=cells_ins ((p0.take i).flatMap ((rawF 4)).enc) ((p0.drop i).flatMap ((rawF 4)).enc) (p2.flatMap ((rawF 4)).enc) Z lZ
  rw[lX,lV,←Nat.add_mul,←hZ] at this
  rw[this,hre,List.take_left' (by rw[List.length_append,List.length_append,lX,lV,lY,←Nat.add_mul,←Nat.add_mul];congr 1;omega)]
 replace hS:=hS.same (B:=rowF (rawF 4) 40 (some ⟨g,0,none⟩) c0 r) 0 rfl (λhA=>row_app_form hA hrl hle hfin) rfl (by simp[Asn.fp])
 refine wl_end ?_
 refine hK16 _ _ ?_
 refine k_seq (by kernel_rfl) λK17 hK17=> ?_
 refine k_reg 2 (by kernel_rfl) ?_
 refine r_run 0 2 [6] [] hS rfl (L':=[(6,.slice (some ⟨g,0,none⟩) (p0.length+p2.length) c0)]) (As':=[rowF (rawF 4) 40 (some ⟨g,0,none⟩) c0 r,rowF (rawF 4) 40 (some ⟨g3,0,none⟩) c2 p2]) (ob:=[]) (by kernel_rfl) trivial λa w hS=> ?_
 refine wl_end ?_
 refine hK17 _ _ ?_
 refine k_ret (by kernel_rfl) ?_
 try simp only[Exit.then,Exit.inBlock]
 refine r_ret hS [.tmp 6] [] (xs:=[.slice (some ⟨g,0,none⟩) (p0.length+p2.length) c0]) (ps:=[]) [0] [] rfl (by kernel_rfl) (λhA=>trivial) rfl (λF up=>trivial) ?_
 exact⟨some ⟨g,0,none⟩,c0,by rw[hrl];rfl,rfl,rfl⟩
def slices_Insert_Row(n:Nat)(p1:Int)(q0 q1:List Row):Option (List Row):=insL 40 q0 p1 q1
@[reducible] def slices_Insert_Row_ct:Ct tab:=⟨105,[.one (.own 0),.one (.d (.int .i64)),.one (.own 1)],[.row 40 (.st 2),.row 40 (.st 2)],[.one (.own 0)],[(none,.row 40 (.st 2))],List Row,λy=>(y,()),λy=>y.1,λ_=>rfl,λn x=>slices_Insert_Row n x.1 x.2.1 x.2.2.1⟩
theorem slices_Insert_Row_ok:OkC Tryz.prog tab slices_Insert_Row_ct:=ins_ok (t:= .st 2) (m:=4) (bytes:=40) tabOk rfl Tryz.call105 λp0 p1 p2 r h=>slices_Insert_Row_raw p0 p1 p2 r h
end
end Go.Proofs.YtlcmdgpjiendmaaGreat
