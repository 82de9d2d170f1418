import Derived.Test.YtchocpffjnodfaaGreatTypes
namespace Go.Proofs.YtchocpffjnodfaaGreat
open Go Go.Bur Go.RowKit
set_option linter.unusedVariables false
set_option linter.unusedSimpArgs false
set_option maxRecDepth 100000
noncomputable section
def locks_locked(n:Nat)(p0:Res):Option Bool:=
 jn (fun(b1:Bool)=>
 jn (fun(b3:Bool)=>
 some b3) λk4=>
 cond b1
 (jn (fun(b5:Bool)=>
 k4 b5) λk6=>
 cond p0.isKey
 (k6 true)
 (k6 (p0.id==0)))
 (k4 false)) λk2=>
 cond (decide (p0.table≥0))
 (k2 (decide (p0.table<3)))
 (k2 false)
@[reducible] def locks_locked_ct:Ct tab:=⟨23,[.st 0],[],[.one (.d .bool)],[],Bool,λy=>(y,()),λy=>y.1,λ_=>rfl,λn x=>locks_locked n x.1⟩
theorem locks_locked_ok:OkC Tryz.prog tab locks_locked_ct:=fn_ok (W:=⟨Tryz.prog,tab,tyOf,[],addO,dpO,false⟩) ⟨tabOk,trivial,addOk⟩ (by kernel_rfl) 20 Tryz.f23 (.n) Tryz.func23 Tryz.call23 rfl (by kernel_rfl) (by kernel_rfl) (by kernel_rfl) λn x=>by kernel_rfl
def locks_waits_1(n:Nat)(p0:Wait)(p1:Int):Option Bool:=
 some (p0.txn==p1)
@[reducible] def locks_waits_1_ct:Ct tab:=⟨64,[.st 2,.one (.ro (.int .i64))],[],[.one (.d .bool)],[],Bool,λy=>(y,()),λy=>y.1,λ_=>rfl,λn x=>locks_waits_1 n x.1 x.2.1⟩
theorem locks_waits_1_ok:OkC Tryz.prog tab locks_waits_1_ct:=fn_ok (W:=⟨Tryz.prog,tab,tyOf,[],addO,dpO,false⟩) ⟨tabOk,trivial,addOk⟩ (by kernel_rfl) 8 Tryz.f64 (.n) Tryz.func64 Tryz.call64 rfl (by kernel_rfl) (by kernel_rfl) (by kernel_rfl) λn x=>by kernel_rfl
def slices_IndexFunc_Wait_f64_l1(n:Nat):Nat→(List Wait)×Int×Int×Int×Unit→Option Int:=loopF λr1 ⟨v1,v2,v3,v4,_⟩=>
 cond (decide (v4<v3))
 ((idx v1 v4).bind λx5=>
 (locks_waits_1 n x5 v2).bind λy6=>
 cond y6
 (some v4)
 (r1 (v1,v2,v3,(IntKind.wrap .i64 (v4+1)),())))
 (some (-1))
def slices_IndexFunc_Wait_f64(n:Nat)(p0:List Wait)(p1:Int):Option Int:=
 slices_IndexFunc_Wait_f64_l1 n n (p0,p1,(p0.length:Int),0,())
@[reducible] def slices_IndexFunc_Wait_f64_ct:Ct tab:=⟨63,[.one (.d (.sl (.st 2))),.one (.fn 64 [.ro (.int .i64)])],[],[.one (.d (.int .i64))],[],Int,λy=>(y,()),λy=>y.1,λ_=>rfl,λn x=>slices_IndexFunc_Wait_f64 n x.1 x.2.1⟩
theorem slices_IndexFunc_Wait_f64_ok:OkC Tryz.prog tab slices_IndexFunc_Wait_f64_ct:=fn_ok (W:=⟨Tryz.prog,tab,tyOf,[locks_waits_1_ct],addO,dpO,false⟩) ⟨tabOk,⟨locks_waits_1_ok,trivial⟩,addOk⟩ (by kernel_rfl) 19 Tryz.f63 (.sq (.n) (.sq (.sq (.n) (.bk none (.lp ⟨[(0,.one (.d (.sl (.st 2)))),(1,.one (.fn 64 [.ro (.int .i64)])),(7,.one (.d (.int .i64))),(8,.one (.d (.int .i64)))],[],[]⟩ (.n)))) (.n))) Tryz.func63 Tryz.call63 rfl (by kernel_rfl) (by kernel_rfl) (by kernel_rfl) λn x=>by kernel_rfl
def locks_waits_l1(n:Nat):Nat→(List Queue)×Int×Int×Int×Unit→Option (Int×Int×Bool):=loopF λr1 ⟨v1,v2,v3,v4,_⟩=>
 cond (decide (v3<v2))
 ((idx v1 v3).bind λx5=>
 (slices_IndexFunc_Wait_f64 n x5.waiters v4).bind λy6=>
 cond (decide (y6≥0))
 (some (v3,y6,true))
 (r1 (v1,v2,(IntKind.wrap .i64 (v3+1)),v4,())))
 (some (0,0,false))
def locks_waits(n:Nat)(p0:Locks)(p1:Int):Option (Int×Int×Bool):=
 locks_waits_l1 n n (p0.queues,(p0.queues.length:Int),0,p1,())
@[reducible] def locks_waits_ct:Ct tab:=⟨25,[.st 4,.one (.d (.int .i64))],[],[.one (.d (.int .i64)),.one (.d (.int .i64)),.one (.d .bool)],[],(Int×Int×Bool),λy=>(y.1,y.2.1,y.2.2,()),λy=>(y.1,y.2.1,y.2.2.1),λ_=>rfl,λn x=>locks_waits n x.1 x.2.1⟩
theorem locks_waits_ok:OkC Tryz.prog tab locks_waits_ct:=fn_ok (W:=⟨Tryz.prog,tab,tyOf,[slices_IndexFunc_Wait_f64_ct],addO,dpO,false⟩) ⟨tabOk,⟨slices_IndexFunc_Wait_f64_ok,trivial⟩,addOk⟩ (by kernel_rfl) 27 Tryz.f25 (.sq (.n) (.sq (.sq (.n) (.bk none (.lp ⟨[(3,.one (.box 0 0)),(11,.one (.d (.sl (.st 3)))),(12,.one (.d (.int .i64))),(13,.one (.d (.int .i64)))],[.box [.d (.int .i64)]],[]⟩ (.n)))) (.n))) Tryz.func25 Tryz.call25 rfl (by kernel_rfl) (by kernel_rfl) (by kernel_rfl) λn x=>by kernel_rfl
def cmp_isNaN_int(n:Nat)(p0:Int):Option Bool:=
 some (p0 !=p0)
@[reducible] def cmp_isNaN_int_ct:Ct tab:=⟨103,[.one (.d (.int .i64))],[],[.one (.d .bool)],[],Bool,λy=>(y,()),λy=>y.1,λ_=>rfl,λn x=>cmp_isNaN_int n x.1⟩
theorem cmp_isNaN_int_ok:OkC Tryz.prog tab cmp_isNaN_int_ct:=fn_ok (W:=⟨Tryz.prog,tab,tyOf,[],addO,dpO,false⟩) ⟨tabOk,trivial,addOk⟩ (by kernel_rfl) 6 Tryz.f103 (.n) Tryz.func103 Tryz.call103 rfl (by kernel_rfl) (by kernel_rfl) (by kernel_rfl) λn x=>by kernel_rfl
def cmp_Compare_int(n:Nat)(p0:Int)(p1:Int):Option Int:=
 (cmp_isNaN_int n p0).bind λy1=>
 (cmp_isNaN_int n p1).bind λy2=>
 cond y1
 (cond y2
 (some 0)
 (some (-1)))
 (cond y2
 (some 1)
 (cond (decide (p0<p1))
 (some (-1))
 (cond (decide (p0>p1))
 (some 1)
 (some 0))))
@[reducible] def cmp_Compare_int_ct:Ct tab:=⟨67,[.one (.d (.int .i64)),.one (.d (.int .i64))],[],[.one (.d (.int .i64))],[],Int,λy=>(y,()),λy=>y.1,λ_=>rfl,λn x=>cmp_Compare_int n x.1 x.2.1⟩
theorem cmp_Compare_int_ok:OkC Tryz.prog tab cmp_Compare_int_ct:=fn_ok (W:=⟨Tryz.prog,tab,tyOf,[cmp_isNaN_int_ct],addO,dpO,false⟩) ⟨tabOk,⟨cmp_isNaN_int_ok,trivial⟩,addOk⟩ (by kernel_rfl) 20 Tryz.f67 (.n) Tryz.func67 Tryz.call67 rfl (by kernel_rfl) (by kernel_rfl) (by kernel_rfl) λn x=>by kernel_rfl
def locks_compare_1(n:Nat)(p0:Res):Option Int:=
 cond p0.isKey
 (some 1)
 (some 0)
@[reducible] def locks_compare_1_ct:Ct tab:=⟨65,[.st 0],[],[.one (.d (.int .i64))],[],Int,λy=>(y,()),λy=>y.1,λ_=>rfl,λn x=>locks_compare_1 n x.1⟩
theorem locks_compare_1_ok:OkC Tryz.prog tab locks_compare_1_ct:=fn_ok (W:=⟨Tryz.prog,tab,tyOf,[],addO,dpO,false⟩) ⟨tabOk,trivial,addOk⟩ (by kernel_rfl) 5 Tryz.f65 (.n) Tryz.func65 Tryz.call65 rfl (by kernel_rfl) (by kernel_rfl) (by kernel_rfl) λn x=>by kernel_rfl
def cmp_isNaN_uint16(n:Nat)(p0:Int):Option Bool:=
 some (p0 !=p0)
@[reducible] def cmp_isNaN_uint16_ct:Ct tab:=⟨104,[.one (.d (.int .u16))],[],[.one (.d .bool)],[],Bool,λy=>(y,()),λy=>y.1,λ_=>rfl,λn x=>cmp_isNaN_uint16 n x.1⟩
theorem cmp_isNaN_uint16_ok:OkC Tryz.prog tab cmp_isNaN_uint16_ct:=fn_ok (W:=⟨Tryz.prog,tab,tyOf,[],addO,dpO,false⟩) ⟨tabOk,trivial,addOk⟩ (by kernel_rfl) 6 Tryz.f104 (.n) Tryz.func104 Tryz.call104 rfl (by kernel_rfl) (by kernel_rfl) (by kernel_rfl) λn x=>by kernel_rfl
def cmp_Compare_uint16(n:Nat)(p0:Int)(p1:Int):Option Int:=
 (cmp_isNaN_uint16 n p0).bind λy1=>
 (cmp_isNaN_uint16 n p1).bind λy2=>
 cond y1
 (cond y2
 (some 0)
 (some (-1)))
 (cond y2
 (some 1)
 (cond (decide (p0<p1))
 (some (-1))
 (cond (decide (p0>p1))
 (some 1)
 (some 0))))
@[reducible] def cmp_Compare_uint16_ct:Ct tab:=⟨68,[.one (.d (.int .u16)),.one (.d (.int .u16))],[],[.one (.d (.int .i64))],[],Int,λy=>(y,()),λy=>y.1,λ_=>rfl,λn x=>cmp_Compare_uint16 n x.1 x.2.1⟩
theorem cmp_Compare_uint16_ok:OkC Tryz.prog tab cmp_Compare_uint16_ct:=fn_ok (W:=⟨Tryz.prog,tab,tyOf,[cmp_isNaN_uint16_ct],addO,dpO,false⟩) ⟨tabOk,⟨cmp_isNaN_uint16_ok,trivial⟩,addOk⟩ (by kernel_rfl) 20 Tryz.f68 (.n) Tryz.func68 Tryz.call68 rfl (by kernel_rfl) (by kernel_rfl) (by kernel_rfl) λn x=>by kernel_rfl
def cmp_Or_int_l1(n:Nat):Nat→Int×(List Int)×Int×Int×Unit→Option Int:=loopF λr1 ⟨v1,v2,v3,v4,_⟩=>
 cond (decide (v4<v3))
 ((idx v2 v4).bind λx5=>
 cond (x5 !=v1)
 (some x5)
 (r1 (v1,v2,v3,(IntKind.wrap .i64 (v4+1)),())))
 (some v1)
def cmp_Or_int(n:Nat)(p0:List Int):Option Int:=
 cmp_Or_int_l1 n n (0,p0,(p0.length:Int),0,())
@[reducible] def cmp_Or_int_ct:Ct tab:=⟨66,[.one (.d (.sl (.int .i64)))],[],[.one (.d (.int .i64))],[],Int,λy=>(y,()),λy=>y.1,λ_=>rfl,λn x=>cmp_Or_int n x.1⟩
theorem cmp_Or_int_ok:OkC Tryz.prog tab cmp_Or_int_ct:=fn_ok (W:=⟨Tryz.prog,tab,tyOf,[],addO,dpO,false⟩) ⟨tabOk,trivial,addOk⟩ (by kernel_rfl) 18 Tryz.f66 (.sq (.n) (.sq (.n) (.sq (.sq (.n) (.bk none (.lp ⟨[(3,.one (.d (.int .i64))),(6,.one (.d (.sl (.int .i64)))),(7,.one (.d (.int .i64))),(8,.one (.d (.int .i64)))],[],[]⟩ (.n)))) (.n)))) Tryz.func66 Tryz.call66 rfl (by kernel_rfl) (by kernel_rfl) (by kernel_rfl) λn x=>by kernel_rfl
def locks_compare(n:Nat)(p0:Res)(p1:Res):Option Int:=
 (cmp_Compare_int n p0.table p1.table).bind λy1=>
 (locks_compare_1 n p0).bind λy2=>
 (locks_compare_1 n p1).bind λy3=>
 (cmp_Compare_int n y2 y3).bind λy4=>
 (cmp_Compare_uint16 n p0.id p1.id).bind λy5=>
 (cmp_Or_int n ([y1,y4,y5]:List Int)).bind λy6=>
 some y6
@[reducible] def locks_compare_ct:Ct tab:=⟨28,[.st 0,.st 0],[],[.one (.d (.int .i64))],[],Int,λy=>(y,()),λy=>y.1,λ_=>rfl,λn x=>locks_compare n x.1 x.2.1⟩
theorem locks_compare_ok:OkC Tryz.prog tab locks_compare_ct:=fn_ok (W:=⟨Tryz.prog,tab,tyOf,[cmp_Compare_int_ct,locks_compare_1_ct,cmp_Compare_uint16_ct,cmp_Or_int_ct],addO,dpO,false⟩) ⟨tabOk,⟨cmp_Compare_int_ok,locks_compare_1_ok,cmp_Compare_uint16_ok,cmp_Or_int_ok,trivial⟩,addOk⟩ (by kernel_rfl) 25 Tryz.f28 (.n) Tryz.func28 Tryz.call28 rfl (by kernel_rfl) (by kernel_rfl) (by kernel_rfl) λn x=>by kernel_rfl
def locks_Ask_1_1(n:Nat)(p0:Queue)(p1:Res):Option Int:=
 (locks_compare n p0.res p1).bind λy1=>
 some y1
@[reducible] def locks_Ask_1_1_ct:Ct tab:=⟨27,[.st 3,.st 0],[],[.one (.d (.int .i64))],[],Int,λy=>(y,()),λy=>y.1,λ_=>rfl,λn x=>locks_Ask_1_1 n x.1 x.2.1⟩
theorem locks_Ask_1_1_ok:OkC Tryz.prog tab locks_Ask_1_1_ct:=fn_ok (W:=⟨Tryz.prog,tab,tyOf,[locks_compare_ct],addO,dpO,false⟩) ⟨tabOk,⟨locks_compare_ok,trivial⟩,addOk⟩ (by kernel_rfl) 9 Tryz.f27 (.n) Tryz.func27 Tryz.call27 rfl (by kernel_rfl) (by kernel_rfl) (by kernel_rfl) λn x=>by kernel_rfl
def slices_BinarySearchFunc_Res_f27_j2(n:Nat)(r1:(List Queue)×Int×Int×Int×Res×Unit→Option (Int×Bool)):(List Queue)×Int×Int×Int×Res×Unit→Option (Int×Bool):=fun⟨v9,v10,v11,v12,v13,_⟩=>
 r1 (v9,v10,v11,v12,v13,())
def slices_BinarySearchFunc_Res_f27_l1(n:Nat):Nat→(List Queue)×Int×Int×Int×Res×Unit→Option (Int×Bool):=loopF λr1 ⟨v1,v2,v3,v4,v5,_⟩=>
 cond (decide (v3<v4))
 ((shrP .u64 (IntKind.wrap .u64 (IntKind.wrap .i64 (v3+v4))) 1).bind λz6=>
 (idx v1 (IntKind.wrap .i64 z6)).bind λx7=>
 (locks_Ask_1_1 n x7 v5).bind λy8=>
 jn (slices_BinarySearchFunc_Res_f27_j2 n r1) λj2=>
 cond (decide (y8<0))
 (j2 (v1,v2,(IntKind.wrap .i64 ((IntKind.wrap .i64 z6)+1)),v4,v5,()))
 (j2 (v1,v2,v3,(IntKind.wrap .i64 z6),v5,())))
 (jn (fun(b14:Bool)=>
 some (v3,b14)) λk15=>
 cond (decide (v3<v2))
 ((idx v1 v3).bind λx16=>
 (locks_Ask_1_1 n x16 v5).bind λy17=>
 k15 (y17==0))
 (k15 false))
def slices_BinarySearchFunc_Res_f27(n:Nat)(p0:List Queue)(p1:Res):Option (Int×Bool):=
 slices_BinarySearchFunc_Res_f27_l1 n n (p0,(p0.length:Int),0,(p0.length:Int),p1,())
@[reducible] def slices_BinarySearchFunc_Res_f27_ct:Ct tab:=⟨26,[.one (.d (.sl (.st 3))),.st 0,.one (.fn 27 [])],[],[.one (.d (.int .i64)),.one (.d .bool)],[],(Int×Bool),λy=>(y.1,y.2,()),λy=>(y.1,y.2.1),λ_=>rfl,λn x=>slices_BinarySearchFunc_Res_f27 n x.1 x.2.1⟩
theorem slices_BinarySearchFunc_Res_f27_ok:OkC Tryz.prog tab slices_BinarySearchFunc_Res_f27_ct:=fn_ok (W:=⟨Tryz.prog,tab,tyOf,[locks_Ask_1_1_ct],addO,dpO,false⟩) ⟨tabOk,⟨locks_Ask_1_1_ok,trivial⟩,addOk⟩ (by kernel_rfl) 49 Tryz.f26 (.sq (.n) (.sq (.n) (.sq (.n) (.sq (.bk none (.lp ⟨[(0,.one (.d (.sl (.st 3)))),(2,.one (.fn 27 [])),(4,.one (.box 0 0)),(8,.one (.d (.int .i64))),(9,.one (.d (.int .i64))),(10,.one (.d (.int .i64)))],[.bst 0],[]⟩ (.sq (.n) (.bk none (.sq (.n) (.sq (.n) (.cd (some ⟨[(0,.one (.d (.sl (.st 3)))),(2,.one (.fn 27 [])),(4,.one (.box 0 0)),(8,.one (.d (.int .i64))),(9,.one (.d (.int .i64))),(10,.one (.d (.int .i64)))],[.bst 0],[]⟩) (.n) (.n)))))))) (.n))))) Tryz.func26 Tryz.call26 rfl (by kernel_rfl) (by kernel_rfl) (by kernel_rfl) λn x=>by kernel_rfl
theorem slices_Insert_Queue_raw{a0:Option Addr}{c0:Nat}{a2:Option Addr}{c2:Nat}(p0:List (Raw 5))(p1:Int)(p2:List (Raw 5))(r:List (Raw 5))(h:insL 64 p0 p1 p2=some r):
  Meets Tryz.prog 29 #[.slice a0 p0.length c0,.int .i64 p1,.slice a2 p2.length c2] [rowF (rawF 5) 43 a0 c0 p0,rowF (rawF 5) 43 a2 c2 p2] [] λv A P=>∃(a:Option Addr) (c:Nat),v= .slice a r.length c∧A=[rowF (rawF 5) 43 a c r]∧P=[]:=by
 unfold insL at h
 split at h
 case isFalse=>cases h
 rename_i hb
 obtain⟨hb0,hb1⟩:=hb
 obtain⟨i,hi⟩:∃i:Nat,p1=(i:Int):=⟨p1.toNat,by omega⟩
 subst hi
 simp only[Int.toNat_natCast] at h
 have hil:i≤p0.length:=by omega
 split at h
 case h_2=>cases h
 rename_i hroom
 have hr:=someI h
 have hrl:r.length=p0.length+p2.length:=by rw[←hr];simp;omega
 have hbytes:(p0.length+p2.length)*64≤140737488355328:=Nat.le_of_ble_eq_true hroom
 have hsm:p0.length+p2.length<9223372036854775808:=by omega
 refine meets_enter 95 Tryz.func29 Tryz.call29 rfl (by kernel_rfl) (by simp) λC a w hS=> ?_
 have hc:p0.length≤c0:=(row_len (hS.st.own _ (List.mem_cons_self ..))).2.1
 refine k_seq (by kernel_rfl) λK1 hK1=> ?_
 refine k_reg 1 (by kernel_rfl) ?_
 refine r_run 0 1 [0,1,2] [] hS rfl (L':=[(0,.slice a0 p0.length c0),(1,.int .i64 i),(2,.slice a2 p2.length c2)]) (As':=[rowF (rawF 5) 43 a0 c0 p0,rowF (rawF 5) 43 a2 c2 p2]) (ob:=[]) (by kernel_rfl) trivial λa w hS=> ?_
 refine wl_end ?_
 refine hK1 _ _ ?_
 refine k_seq (by kernel_rfl) λK2 hK2=> ?_
 refine k_reg 3 (by kernel_rfl) ?_
 refine r_run 0 3 [0,1,2] [] hS rfl (L':=[(0,.slice a0 p0.length c0),(1,.int .i64 i),(2,.slice a2 p2.length c2)]) (As':=[rowF (rawF 5) 43 a0 c0 p0,rowF (rawF 5) 43 a2 c2 p2]) (ob:=[λ_=>0≤(i:Int)∧(i:Int)≤(p0.length:Int)∧(p0.length:Int)≤(c0:Int)]) (by kernel_rfl) ⟨Bx.c ⟨hb0,hb1,by omega⟩,trivial⟩ λa w hS=> ?_
 refine wl_end ?_
 refine hK2 _ _ ?_
 refine k_seq (by kernel_rfl) λK3 hK3=> ?_
 refine k_reg 3 (by kernel_rfl) ?_
 refine r_run 0 3 [0,1,2,7] [] hS rfl (L':=[(0,.slice a0 p0.length c0),(1,.int .i64 i),(2,.slice a2 p2.length c2),(7,.int .i64 (p2.length:Int))]) (As':=[rowF (rawF 5) 43 a0 c0 p0,rowF (rawF 5) 43 a2 c2 p2]) (ob:=[]) (by kernel_rfl) trivial λa w hS=> ?_
 refine wl_end ?_
 refine hK3 _ _ ?_
 refine k_seq (by kernel_rfl) λK4 hK4=> ?_
 refine k_seq (by kernel_rfl) λK5 hK5=> ?_
 refine k_reg 2 (by kernel_rfl) ?_
 refine r_run 0 2 [0,1,2,7,16] [] hS rfl (L':=[(0,.slice a0 p0.length c0),(1,.int .i64 i),(2,.slice a2 p2.length c2),(7,.int .i64 (p2.length:Int)),(16,.bool ((p2.length:Int)==0))]) (As':=[rowF (rawF 5) 43 a0 c0 p0,rowF (rawF 5) 43 a2 c2 p2]) (ob:=[]) (by kernel_rfl) trivial λa w hS=> ?_
 refine wl_end ?_
 refine hK5 _ _ ?_
 refine k_cond ((p2.length:Int)==0) hS.has (by kernel_rfl) (by kernel_rfl) (by kernel_rfl) (λhq=> ?_) (λhq=> ?_)
 ·have hp:p2=[]:=List.eq_nil_of_length_eq_zero (by simpa using hq)
  subst hp
  have hr':p0=r:=by rw[←hr];simp
  subst hr'
  refine k_seq (by kernel_rfl) λK6 hK6=> ?_
  refine k_reg 2 (by kernel_rfl) ?_
  refine r_run 0 2 [6] [] hS rfl (L':=[(6,.slice a0 p0.length c0)]) (As':=[rowF (rawF 5) 43 a0 c0 p0,rowF (rawF 5) 43 a2 c2 ([]:List (Raw 5))]) (ob:=[]) (by kernel_rfl) trivial λa w hS=> ?_
  refine wl_end ?_
  refine hK6 _ _ ?_
  refine k_ret (by kernel_rfl) ?_
  try simp only[Exit.then,Exit.inBlock]
  refine r_ret hS [.tmp 6] [] (xs:=[.slice a0 p0.length c0]) (ps:=[]) [0] [] rfl (by kernel_rfl) (λhA=>trivial) rfl (λF up=>trivial) ?_
  exact⟨a0,c0,rfl,rfl,rfl⟩
 have hm:0<p2.length:=by
  rcases Nat.eq_zero_or_pos p2.length with h0|h0
  ·rw[h0] at hq;simp at hq
  ·exact h0
 obtain⟨g3,rfl⟩:=row_block (hS.st.own (rowF (rawF 5) 43 a2 c2 p2) (by simp)) (by omega)
 refine k_skip (by kernel_rfl) ?_
 refine hK4 _ _ ?_
 refine k_seq (by kernel_rfl) λK7 hK7=> ?_
 refine k_reg 3 (by kernel_rfl) ?_
 refine r_run 0 3 [0,1,2,7,8] [] hS rfl (L':=[(0,.slice a0 p0.length c0),(1,.int .i64 i),(2,.slice (some ⟨g3,0,none⟩) p2.length c2),(7,.int .i64 (p2.length:Int)),(8,.int .i64 (p0.length:Int))]) (As':=[rowF (rawF 5) 43 a0 c0 p0,rowF (rawF 5) 43 (some ⟨g3,0,none⟩) c2 p2]) (ob:=[]) (by kernel_rfl) trivial λa w hS=> ?_
 refine wl_end ?_
 refine hK7 _ _ ?_
 refine k_seq (by kernel_rfl) λK8 hK8=> ?_
 refine k_seq (by kernel_rfl) λK9 hK9=> ?_
 refine k_reg 3 (by kernel_rfl) ?_
 refine r_run 0 3 [0,1,2,7,8,22] [] hS rfl (L':=[(0,.slice a0 p0.length c0),(1,.int .i64 i),(2,.slice (some ⟨g3,0,none⟩) p2.length c2),(7,.int .i64 (p2.length:Int)),(8,.int .i64 (p0.length:Int)),(22,.bool ((i:Int)==(p0.length:Int)))]) (As':=[rowF (rawF 5) 43 a0 c0 p0,rowF (rawF 5) 43 (some ⟨g3,0,none⟩) c2 p2]) (ob:=[]) (by kernel_rfl) trivial λa w hS=> ?_
 refine wl_end ?_
 refine hK9 _ _ ?_
 refine k_cond ((i:Int)==(p0.length:Int)) hS.has (by kernel_rfl) (by kernel_rfl) (by kernel_rfl) (λhq2=> ?_) (λhq2=> ?_)
 ·have hin:i=p0.length:=by
   have:=of_decide_eq_true (p:=(i:Int)=(p0.length:Int)) (by simpa using hq2)
   omega
  have hr':r=p0++p2:=by rw[←hr,hin];simp
  refine k_seq (by kernel_rfl) λK6 hK6=> ?_
  refine k_reg 4 (by kernel_rfl) ?_
  refine r_run 0 2 [23,24] [] hS rfl (L':=[(23,.slice a0 p0.length c0),(24,.slice (some ⟨g3,0,none⟩) p2.length c2)]) (As':=[rowF (rawF 5) 43 a0 c0 p0,rowF (rawF 5) 43 (some ⟨g3,0,none⟩) c2 p2]) (ob:=[]) (by kernel_rfl) trivial λa w hS=> ?_
  refine r_append 2 rfl (d:=25) (t:=22) (A:=a0) (c:=c0) (k:=p0.length) (b:=some ⟨g3,0,none⟩) (c2:=c2) (m:=p2.length) (p2.flatMap ((rawF 5)).enc) 0 [0] hS (appChk_sound (by kernel_rfl)) (by kernel_rfl) rfl rfl (λF up le=>appB (F:=(rawF 5)) (le 0 rfl _ λw h=>rowRS h)) hroom λa5 c5 a w hS=> ?_
  replace hS:=rowF_app (F:=(rawF 5)) (l:=p0) (m:=p2) hS hr'
  refine r_run 3 1 [6] [] hS rfl (L':=[(6,.slice a5 r.length c5)]) (As':=[rowF (rawF 5) 43 a5 c5 r,rowF (rawF 5) 43 (some ⟨g3,0,none⟩) c2 p2]) (ob:=[]) (by kernel_rfl) trivial λa w hS=> ?_
  refine wl_end ?_
  refine hK6 _ _ ?_
  refine k_ret (by kernel_rfl) ?_
  try simp only[Exit.then,Exit.inBlock]
  refine r_ret hS [.tmp 6] [] (xs:=[.slice a5 r.length c5]) (ps:=[]) [0] [] rfl (by kernel_rfl) (λhA=>trivial) rfl (λF up=>trivial) ?_
  exact⟨a5,c5,rfl,rfl,rfl⟩
 have hin:i<p0.length:=by
  rcases Nat.lt_or_ge i p0.length with h0|h0
  ·exact h0
  ·have:i=p0.length:=by omega
   rw[this] at hq2;simp at hq2
 obtain⟨g,rfl⟩:=row_block (hS.st.own (rowF (rawF 5) 43 a0 c0 p0) (by simp)) (by omega)
 have hw:IntKind.wrap .i64 ((p0.length:Int)+(p2.length:Int))=((p0.length+p2.length:Nat):Int):=by rw[IntKind.wrap_i64];omega
 have hw2:IntKind.wrap .i64 ((i:Int)+(p2.length:Int))=((i+p2.length:Nat):Int):=by rw[IntKind.wrap_i64];omega
 have hsz:0<((rawF 5)).sz:=by decide
 have hX:(p0.take i).flatMap ((rawF 5)).enc=(p0.flatMap ((rawF 5)).enc).take (i*((rawF 5)).sz):=flat_take p0 i
 have hY:(p0.drop i).flatMap ((rawF 5)).enc=(p0.flatMap ((rawF 5)).enc).drop (i*((rawF 5)).sz):=flat_drop p0 i
 have lX:((p0.take i).flatMap ((rawF 5)).enc).length=i*((rawF 5)).sz:=by rw[flat_len,List.length_take,Nat.min_eq_left hil]
 have lY:((p0.drop i).flatMap ((rawF 5)).enc).length=(p0.length-i)*((rawF 5)).sz:=by rw[flat_len,List.length_drop]
 have lV:(p2.flatMap ((rawF 5)).enc).length=p2.length*((rawF 5)).sz:=flat_len p2
 have hXY:(p0.take i).flatMap ((rawF 5)).enc++(p0.drop i).flatMap ((rawF 5)).enc=p0.flatMap ((rawF 5)).enc:=by rw[←List.flatMap_append,List.take_append_drop]
 have hre:r.flatMap ((rawF 5)).enc=(p0.take i).flatMap ((rawF 5)).enc++p2.flatMap ((rawF 5)).enc++(p0.drop i).flatMap ((rawF 5)).enc:=by rw[←hr,List.flatMap_append,List.flatMap_append]
 have hV1:∀v∈p2.flatMap ((rawF 5)).enc,v.oneCell'=true:=flat_one p2
 have hY1:∀v∈(p0.drop i).flatMap ((rawF 5)).enc,v.oneCell'=true:=flat_one _
 refine k_skip (by kernel_rfl) ?_
 refine hK8 _ _ ?_
 refine k_seq (by kernel_rfl) λK10 hK10=> ?_
 refine k_seq (by kernel_rfl) λK11 hK11=> ?_
 refine k_reg 6 (by kernel_rfl) ?_
 refine r_run 0 6 [0,1,2,7,8,31] [.as 28 (.int .i64 ((p0.length+p2.length:Nat):Int))] hS rfl (L':=[(0,.slice (some ⟨g,0,none⟩) p0.length c0),(1,.int .i64 i),(2,.slice (some ⟨g3,0,none⟩) p2.length c2),(7,.int .i64 (p2.length:Int)),(8,.int .i64 (p0.length:Int)),(31,.bool (decide (((p0.length+p2.length:Nat):Int)>(c0:Int))))]) (As':=[rowF (rawF 5) 43 (some ⟨g,0,none⟩) c0 p0,rowF (rawF 5) 43 (some ⟨g3,0,none⟩) c2 p2]) (ob:=[λ_=>Value.int .i64 (IntKind.wrap .i64 ((p0.length:Int)+(p2.length:Int)))= .int .i64 ((p0.length+p2.length:Nat):Int)]) (by kernel_rfl) ⟨Bx.c (by rw[hw]),trivial⟩ λa w hS=> ?_
 refine wl_end ?_
 refine hK11 _ _ ?_
 refine k_cond (decide (((p0.length+p2.length:Nat):Int)>(c0:Int))) hS.has (by kernel_rfl) (by kernel_rfl) (by kernel_rfl) (λhq3=> ?_) (λhq3=> ?_)
 ·have hgt:c0<p0.length+p2.length:=by have:=of_decide_eq_true hq3;omega
  have hk:p0.length+p2.length-i+i=p0.length+p2.length:=by omega
  have hw3:IntKind.wrap .i64 (((p0.length+p2.length:Nat):Int)-(i:Int))=((p0.length+p2.length-i:Nat):Int):=by rw[IntKind.wrap_i64];omega
  refine k_seq (by kernel_rfl) λK12 hK12=> ?_
  refine k_reg 10 (by kernel_rfl) ?_
  refine r_run 0 8 [0,1,2,7,8,34,39] [.as 34 (.slice (some ⟨g,0,none⟩) i c0),.as 37 (.int .i64 ((p0.length+p2.length:Nat):Int)),.as 39 (.int .i64 ((p0.length+p2.length-i:Nat):Int))] hS rfl (L':=[(0,.slice (some ⟨g,0,none⟩) p0.length c0),(1,.int .i64 i),(2,.slice (some ⟨g3,0,none⟩) p2.length c2),(7,.int .i64 (p2.length:Int)),(8,.int .i64 (p0.length:Int)),(34,.slice (some ⟨g,0,none⟩) i c0),(39,.int .i64 ((p0.length+p2.length-i:Nat):Int))]) (As':=[rowF (rawF 5) 43 (some ⟨g,0,none⟩) c0 p0,rowF (rawF 5) 43 (some ⟨g3,0,none⟩) c2 p2]) (ob:=[λ_=>(0:Int)≤0∧(0:Int)≤(i:Int)∧(i:Int)≤(c0:Int),λ_=>Value.slice (slA (some ⟨g,0,none⟩) 0 c0 ((rawF 5)).sz) i c0= .slice (some ⟨g,0,none⟩) i c0,λ_=>Value.int .i64 (IntKind.wrap .i64 ((p0.length:Int)+(p2.length:Int)))= .int .i64 ((p0.length+p2.length:Nat):Int),λ_=>Value.int .i64 (IntKind.wrap .i64 (((p0.length+p2.length:Nat):Int)-(i:Int)))= .int .i64 ((p0.length+p2.length-i:Nat):Int)]) (by kernel_rfl) ⟨Bx.c ⟨by omega,by omega,by omega⟩,Bx.c (by rw[slA_zero]),Bx.c (by rw[hw]),Bx.c (by rw[hw3]),trivial⟩ λa w hS=> ?_
  obtain⟨w',g2,c5,hrun,hc5,⟨T,hT,hrow⟩,hext,hg2,hg2'⟩:=run_zeros_row (P:=Tryz.prog) (sz:=((rawF 5)).sz) (t:=22) (tn:=3) (ty:=22) (i:=i) (k:=p0.length+p2.length-i) (bytes:=64) (inf:=Tryz.t43) (z:=(Tryz.t43.zero).getD undef) (kq:= .i64) (kn:= .i64) (by kernel_rfl) (by kernel_rfl) (by kernel_rfl) (by kernel_rfl) rfl (by kernel_rfl) (by kernel_rfl) hsz (by decide) (hS.st.own (rowF (rawF 5) 43 (some ⟨g,0,none⟩) c0 p0) (by simp)) hil (by omega) (by omega) (by rw[show i+(p0.length+p2.length-i)=p0.length+p2.length from by omega];exact hroom)
  have hik:i+(p0.length+p2.length-i)=p0.length+p2.length:=by omega
  rw[hik] at hrun hc5 hT
  refine r_bltN 8 rfl (d:=some 40) (b:= .append) (ts:= #[22,3]) (ty:=22) (vs:= #[.slice (some ⟨g,0,none⟩) i c0,.int .i64 ((p0.length+p2.length-i:Nat):Int)]) hS (by kernel_rfl) _ hrun hrow hext (λx hx=>by simp[Asn.fp] at hx;subst hx;exact⟨hg2,hg2'⟩) (by simp[Asn.fp]) λa hS=> ?_
  rw[←hX] at hS
  generalize hZ:(Builtin.zeroCells ((Tryz.t43.zero).getD undef).cells (p0.length+p2.length-i)).toList=Z at hS
  have lZ:Z.length=(p2.flatMap ((rawF 5)).enc).length+((p0.drop i).flatMap ((rawF 5)).enc).length:=by
   rw[←hZ,zeros_len,lV,lY,←Nat.add_mul,show((Tryz.t43.zero).getD undef).cells.size=((rawF 5)).sz from by kernel_rfl]
   congr 1;omega
  refine r_run 9 1 [0,1,2,7,9] [] hS rfl (L':=[(0,.slice (some ⟨g,0,none⟩) p0.length c0),(1,.int .i64 i),(2,.slice (some ⟨g3,0,none⟩) p2.length c2),(7,.int .i64 (p2.length:Int)),(9,.slice (some ⟨g2,0,none⟩) (p0.length+p2.length) c5)]) (As':=[.row (some ⟨g2,0,none⟩) c5 43 ((rawF 5)).sz c5 ((p0.take i).flatMap ((rawF 5)).enc++Z++T),rowF (rawF 5) 43 (some ⟨g,0,none⟩) c0 p0,rowF (rawF 5) 43 (some ⟨g3,0,none⟩) c2 p2]) (ob:=[]) (by kernel_rfl) trivial λa w hS=> ?_
  refine wl_end ?_
  refine hK12 _ _ ?_
  refine k_seq (by kernel_rfl) λK13 hK13=> ?_
  refine k_reg 5 (by kernel_rfl) ?_
  have hs1:slA (some (⟨g2,0,none⟩:Addr)) i c5 ((rawF 5)).sz=some ⟨g2,i*((rawF 5)).sz,none⟩:=by
   unfold slA;rw[if_neg (by omega)];simp only[Option.map_some,addr_add0]
  refine r_run 0 4 [0,1,7,9,43,44] [.as 43 (.slice (some ⟨g2,i*((rawF 5)).sz,none⟩) (p0.length+p2.length-i) (c5-i))] hS rfl (L':=[(0,.slice (some ⟨g,0,none⟩) p0.length c0),(1,.int .i64 i),(7,.int .i64 (p2.length:Int)),(9,.slice (some ⟨g2,0,none⟩) (p0.length+p2.length) c5),(43,.slice (some ⟨g2,i*((rawF 5)).sz,none⟩) (p0.length+p2.length-i) (c5-i)),(44,.slice (some ⟨g3,0,none⟩) p2.length c2)]) (As':=[.row (some ⟨g2,0,none⟩) c5 43 ((rawF 5)).sz c5 ((p0.take i).flatMap ((rawF 5)).enc++Z++T),rowF (rawF 5) 43 (some ⟨g,0,none⟩) c0 p0,rowF (rawF 5) 43 (some ⟨g3,0,none⟩) c2 p2]) (ob:=[λ_=>0≤(i:Int)∧(i:Int)≤((p0.length+p2.length:Nat):Int)∧((p0.length+p2.length:Nat):Int)≤(c5:Int),λ_=>Value.slice (slA (some ⟨g2,0,none⟩) i c5 ((rawF 5)).sz) (p0.length+p2.length-i) (c5-i)= .slice (some ⟨g2,i*((rawF 5)).sz,none⟩) (p0.length+p2.length-i) (c5-i)]) (by kernel_rfl) ⟨Bx.c ⟨by omega,by omega,by omega⟩,Bx.c (by rw[hs1]),trivial⟩ λa w hS=> ?_
  have hsrc:=row_cellsAt (hS.st.own (rowF (rawF 5) 43 (some ⟨g3,0,none⟩) c2 p2) (by simp)) 0 (p2.flatMap ((rawF 5)).enc).length
  rw[List.drop_zero,List.take_length] at hsrc
  have hfit1:i*((rawF 5)).sz+(p2.flatMap ((rawF 5)).enc).length≤c5*((rawF 5)).sz:=by rw[lV,←Nat.add_mul];exact Nat.mul_le_mul_right _ (by omega)
  have hmin1:Nat.min p2.length (p0.length+p2.length-i)=p2.length:=Nat.min_eq_left (by omega)
  refine r_bltS 4 rfl 0 (.row (some ⟨g2,0,none⟩) c5 43 ((rawF 5)).sz c5 (spl ((p0.take i).flatMap ((rawF 5)).enc++Z++T) (i*((rawF 5)).sz) (p2.flatMap ((rawF 5)).enc))) (d:=some 45) (b:= .copy) (ts:= #[22,22]) (ty:=3) (vs:= #[.slice (some ⟨g2,i*((rawF 5)).sz,none⟩) (p0.length+p2.length-i) (c5-i),.slice (some ⟨g3,0,none⟩) p2.length c2]) hS (by kernel_rfl) rfl (λhA=>run_copyR (dT:=22) (sT:=22) (ty:=3) (inf:=Tryz.t43) (by kernel_rfl) (by kernel_rfl) rfl hA (by rw[hmin1,lV]) hsrc hfit1 hV1) rfl (by simp[Asn.fp]) λa w hS=> ?_
  refine wl_end ?_
  refine hK13 _ _ ?_
  refine k_seq (by kernel_rfl) λK14 hK14=> ?_
  have hs2:slA (some (⟨g2,0,none⟩:Addr)) (i+p2.length) c5 ((rawF 5)).sz=some ⟨g2,(i+p2.length)*((rawF 5)).sz,none⟩:=by
   unfold slA;rw[if_neg (by omega)];simp only[Option.map_some,addr_add0]
  have hs3:slA (some (⟨g,0,none⟩:Addr)) i c0 ((rawF 5)).sz=some ⟨g,i*((rawF 5)).sz,none⟩:=by
   unfold slA;rw[if_neg (by omega)];simp only[Option.map_some,addr_add0]
  refine k_draw 8 9 [.val (.slice (some ⟨g2,0,none⟩) (p0.length+p2.length) c5),.val (.int .i64 i),.val (.int .i64 (p2.length:Int)),.val (.int .i64 ((i+p2.length:Nat):Int)),.val (.slice (some ⟨g2,(i+p2.length)*((rawF 5)).sz,none⟩) (p0.length+p2.length-(i+p2.length)) (c5-(i+p2.length))),.val (.slice (some ⟨g,0,none⟩) p0.length c0),.val (.int .i64 i),.val (.slice (some ⟨g,i*((rawF 5)).sz,none⟩) (p0.length-i) (c0-i))] [] [(0,[]),(1,[]),(2,[]),(3,[.as 49 (.int .i64 ((i+p2.length:Nat):Int))]),(4,[.as 50 (.slice (some ⟨g2,(i+p2.length)*((rawF 5)).sz,none⟩) (p0.length+p2.length-(i+p2.length)) (c5-(i+p2.length)))]),(5,[]),(6,[]),(7,[.as 53 (.slice (some ⟨g,i*((rawF 5)).sz,none⟩) (p0.length-i) (c0-i))])] [] (ob:=[λ_=>Value.int .i64 (IntKind.wrap .i64 ((i:Int)+(p2.length:Int)))= .int .i64 ((i+p2.length:Nat):Int),λ_=>0≤((i+p2.length:Nat):Int)∧((i+p2.length:Nat):Int)≤((p0.length+p2.length:Nat):Int)∧((p0.length+p2.length:Nat):Int)≤(c5:Int),λ_=>Value.slice (slA (some ⟨g2,0,none⟩) (i+p2.length) c5 ((rawF 5)).sz) (p0.length+p2.length-(i+p2.length)) (c5-(i+p2.length))= .slice (some ⟨g2,(i+p2.length)*((rawF 5)).sz,none⟩) (p0.length+p2.length-(i+p2.length)) (c5-(i+p2.length)),λ_=>0≤(i:Int)∧(i:Int)≤(p0.length:Int)∧(p0.length:Int)≤(c0:Int),λ_=>Value.slice (slA (some ⟨g,0,none⟩) i c0 ((rawF 5)).sz) (p0.length-i) (c0-i)= .slice (some ⟨g,i*((rawF 5)).sz,none⟩) (p0.length-i) (c0-i)]) (by kernel_rfl) (by kernel_rfl) hS (by kernel_rfl) (λF N0=>by kernel_rfl) (by kernel_rfl) (by kernel_rfl) (by kernel_rfl) (by kernel_rfl) ⟨Bx.c (by rw[hw2]),Bx.c ⟨by omega,by omega,by omega⟩,Bx.c (by rw[hs2]),Bx.c ⟨by omega,by omega,by omega⟩,Bx.c (by rw[hs3]),trivial⟩ ?_ ?_
  ·exact trivial
  intro V a w e hS hq
  have hsrc:=row_cellsAt (hS.st.own (rowF (rawF 5) 43 (some ⟨g,0,none⟩) c0 p0) (by simp[List.set])) (i*((rawF 5)).sz) ((p0.drop i).flatMap ((rawF 5)).enc).length
  rw[←hY,List.take_length] at hsrc
  have hmin2:Nat.min (p0.length-i) (p0.length+p2.length-(i+p2.length))=p0.length-i:=Nat.min_eq_left (by omega)
  have hfit2:(i+p2.length)*((rawF 5)).sz+((p0.drop i).flatMap ((rawF 5)).enc).length≤c5*((rawF 5)).sz:=by rw[lY,←Nat.add_mul];exact Nat.mul_le_mul_right _ (by omega)
  refine r_bltS 8 rfl 0 (.row (some ⟨g2,0,none⟩) c5 43 ((rawF 5)).sz c5 (spl (spl ((p0.take i).flatMap ((rawF 5)).enc++Z++T) (i*((rawF 5)).sz) (p2.flatMap ((rawF 5)).enc)) ((i+p2.length)*((rawF 5)).sz) ((p0.drop i).flatMap ((rawF 5)).enc))) (d:=some 54) (b:= .copy) (ts:= #[22,22]) (ty:=3) (vs:= #[.slice (some ⟨g2,(i+p2.length)*((rawF 5)).sz,none⟩) (p0.length+p2.length-(i+p2.length)) (c5-(i+p2.length)),.slice (some ⟨g,i*((rawF 5)).sz,none⟩) (p0.length-i) (c0-i)]) hS (by kernel_rfl) rfl (λhA=>run_copyR (dT:=22) (sT:=22) (ty:=3) (inf:=Tryz.t43) (by kernel_rfl) (by kernel_rfl) rfl hA (by rw[hmin2,lY]) hsrc hfit2 hY1) rfl (by simp[Asn.fp]) λa w hS=> ?_
  have hfin:(spl (spl ((p0.take i).flatMap ((rawF 5)).enc++Z++T) (i*((rawF 5)).sz) (p2.flatMap ((rawF 5)).enc)) ((i+p2.length)*((rawF 5)).sz) ((p0.drop i).flatMap ((rawF 5)).enc)).take ((p0.length+p2.length)*((rawF 5)).sz)=r.flatMap ((rawF 5)).enc:=by
   have:=cells_new ((p0.take i).flatMap ((rawF 5)).enc) ((p0.drop i).flatMap ((rawF 5)).enc) (p2.flatMap ((rawF 5)).enc) Z T lZ
   rw[lX,lV,←Nat.add_mul] at this
   rw[this,hre,List.take_left' (by rw[List.length_append,List.length_append,lX,lV,lY,←Nat.add_mul,←Nat.add_mul];congr 1;omega)]
  replace hS:=hS.same (B:=rowF (rawF 5) 43 (some ⟨g2,0,none⟩) c5 r) 0 rfl (λhA=>row_app_form hA hrl hc5 hfin) rfl (by simp[Asn.fp])
  refine wl_end ?_
  refine hK14 _ _ ?_
  refine k_seq (by kernel_rfl) λK15 hK15=> ?_
  refine k_reg 2 (by kernel_rfl) ?_
  refine r_run 0 2 [6] [] hS rfl (L':=[(6,.slice (some ⟨g2,0,none⟩) (p0.length+p2.length) c5)]) (As':=[rowF (rawF 5) 43 (some ⟨g2,0,none⟩) c5 r,rowF (rawF 5) 43 (some ⟨g,0,none⟩) c0 p0,rowF (rawF 5) 43 (some ⟨g3,0,none⟩) c2 p2]) (ob:=[]) (by kernel_rfl) trivial λa w hS=> ?_
  refine wl_end ?_
  refine hK15 _ _ ?_
  refine k_ret (by kernel_rfl) ?_
  try simp only[Exit.then,Exit.inBlock]
  refine r_ret hS [.tmp 6] [] (xs:=[.slice (some ⟨g2,0,none⟩) (p0.length+p2.length) c5]) (ps:=[]) [0] [] rfl (by kernel_rfl) (λhA=>trivial) rfl (λF up=>trivial) ?_
  exact⟨some ⟨g2,0,none⟩,c5,by rw[hrl];rfl,rfl,rfl⟩
 have hle:p0.length+p2.length≤c0:=by have:=of_decide_eq_false hq3;omega
 refine k_skip (by kernel_rfl) ?_
 refine hK10 _ _ ?_
 refine k_seq (by kernel_rfl) λK12 hK12=> ?_
 refine k_reg 6 (by kernel_rfl) ?_
 refine r_run 0 6 [0,1,2,7] [.as 59 (.int .i64 ((p0.length+p2.length:Nat):Int)),.as 60 (.slice (some ⟨g,0,none⟩) (p0.length+p2.length) c0)] hS rfl (L':=[(0,.slice (some ⟨g,0,none⟩) (p0.length+p2.length) c0),(1,.int .i64 i),(2,.slice (some ⟨g3,0,none⟩) p2.length c2),(7,.int .i64 (p2.length:Int))]) (As':=[rowF (rawF 5) 43 (some ⟨g,0,none⟩) c0 p0,rowF (rawF 5) 43 (some ⟨g3,0,none⟩) c2 p2]) (ob:=[λ_=>Value.int .i64 (IntKind.wrap .i64 ((p0.length:Int)+(p2.length:Int)))= .int .i64 ((p0.length+p2.length:Nat):Int),λ_=>(0:Int)≤0∧(0:Int)≤((p0.length+p2.length:Nat):Int)∧((p0.length+p2.length:Nat):Int)≤(c0:Int),λ_=>Value.slice (slA (some ⟨g,0,none⟩) 0 c0 ((rawF 5)).sz) (p0.length+p2.length) c0= .slice (some ⟨g,0,none⟩) (p0.length+p2.length) c0]) (by kernel_rfl) ⟨Bx.c (by rw[hw]),Bx.c ⟨by omega,by omega,by omega⟩,Bx.c (by rw[slA_zero]),trivial⟩ λa w hS=> ?_
 obtain⟨ds,hd1,hd2,hd3,hd4⟩:=row_full (hS.st.own (rowF (rawF 5) 43 (some ⟨g,0,none⟩) c0 p0) (by simp))
 replace hS:=hS.same (B:= .row (some ⟨g,0,none⟩) c0 43 ((rawF 5)).sz c0 ds) 0 rfl (λ_=>hd4) rfl (by simp[Asn.fp])
 refine wl_end ?_
 refine hK12 _ _ ?_
 refine k_seq (by kernel_rfl) λK13 hK13=> ?_
 refine k_seq (by kernel_rfl) λK14 hK14=> ?_
 refine k_reg 8 (by kernel_rfl) ?_
 have hs2:slA (some (⟨g,0,none⟩:Addr)) (i+p2.length) c0 ((rawF 5)).sz=some ⟨g,(i+p2.length)*((rawF 5)).sz,none⟩:=by
  unfold slA;rw[if_neg (by omega)];simp only[Option.map_some,addr_add0]
 have hs3:slA (some (⟨g,0,none⟩:Addr)) i c0 ((rawF 5)).sz=some ⟨g,i*((rawF 5)).sz,none⟩:=by
  unfold slA;rw[if_neg (by omega)];simp only[Option.map_some,addr_add0]
 refine r_run 0 6 [0,1,2,7,61,66] [.as 65 (.int .i64 ((i+p2.length:Nat):Int)),.as 66 (.slice (some ⟨g,(i+p2.length)*((rawF 5)).sz,none⟩) (p0.length+p2.length-(i+p2.length)) (c0-(i+p2.length)))] hS rfl (L':=[(0,.slice (some ⟨g,0,none⟩) (p0.length+p2.length) c0),(1,.int .i64 i),(2,.slice (some ⟨g3,0,none⟩) p2.length c2),(7,.int .i64 (p2.length:Int)),(61,.slice (some ⟨g3,0,none⟩) p2.length c2),(66,.slice (some ⟨g,(i+p2.length)*((rawF 5)).sz,none⟩) (p0.length+p2.length-(i+p2.length)) (c0-(i+p2.length)))]) (As':=[.row (some ⟨g,0,none⟩) c0 43 ((rawF 5)).sz c0 ds,rowF (rawF 5) 43 (some ⟨g3,0,none⟩) c2 p2]) (ob:=[λ_=>Value.int .i64 (IntKind.wrap .i64 ((i:Int)+(p2.length:Int)))= .int .i64 ((i+p2.length:Nat):Int),λ_=>0≤((i+p2.length:Nat):Int)∧((i+p2.length:Nat):Int)≤((p0.length+p2.length:Nat):Int)∧((p0.length+p2.length:Nat):Int)≤(c0:Int),λ_=>Value.slice (slA (some ⟨g,0,none⟩) (i+p2.length) c0 ((rawF 5)).sz) (p0.length+p2.length-(i+p2.length)) (c0-(i+p2.length))= .slice (some ⟨g,(i+p2.length)*((rawF 5)).sz,none⟩) (p0.length+p2.length-(i+p2.length)) (c0-(i+p2.length))]) (by kernel_rfl) ⟨Bx.c (by rw[hw2]),Bx.c ⟨by omega,by omega,by omega⟩,Bx.c (by rw[hs2]),trivial⟩ λa w hS=> ?_
 have hne:g3≠g:=by
  have:=(List.nodup_append.1 hS.st.nd).2.1
  simp[fps,Asn.fp] at this
  exact λe=>this e.symm
 have hA0:=row_shape (hS.st.own (.row (some ⟨g,0,none⟩) c0 43 ((rawF 5)).sz c0 ds) (by simp))
 have hA1:=row_shape (hS.st.own (rowF (rawF 5) 43 (some ⟨g3,0,none⟩) c2 p2) (by simp))
 have hcsz:c0*((rawF 5)).sz≠0:=Nat.mul_ne_zero (by omega) (by omega)
 have hov:(callFunc 69 #[.slice (some ⟨g3,0,none⟩) p2.length c2,.slice (some ⟨g,(i+p2.length)*((rawF 5)).sz,none⟩) (p0.length+p2.length-(i+p2.length)) (c0-(i+p2.length))]).run Tryz.prog w= .ok (.value (.bool false)) w:=by
  rw[run_callFunc_extern Tryz.func69 (by kernel_rfl) (by kernel_rfl) (by kernel_rfl) (e:=Extern.SlicesOverlaps.overlaps #[22,22] #[4]) (by kernel_rfl),
   Lib.run_overlaps_apart w 22 4 43 (by kernel_rfl) ((rawF 5)).sz (λw=>by simp[sizeOf,run_info (show Tryz.prog.info? 43=some Tryz.t43 from by kernel_rfl)];kernel_rfl) ⟨g3,0,none⟩ ⟨g,(i+p2.length)*((rawF 5)).sz,none⟩ p2.length c2 _ _ hne _ _ _ _ hA1.1 hA0.1 hcsz (hA1.2 _) (hA1.2 _)]
  rfl
 refine r_ext 6 rfl (d:=some 67) (g:=69) (args:= #[.slice (some ⟨g3,0,none⟩) p2.length c2,.slice (some ⟨g,(i+p2.length)*((rawF 5)).sz,none⟩) (p0.length+p2.length-(i+p2.length)) (c0-(i+p2.length))]) hS (by kernel_rfl) hov λa hS=> ?_
 refine r_run 7 1 [0,1,2,7,68] [] hS rfl (L':=[(0,.slice (some ⟨g,0,none⟩) (p0.length+p2.length) c0),(1,.int .i64 i),(2,.slice (some ⟨g3,0,none⟩) p2.length c2),(7,.int .i64 (p2.length:Int)),(68,.bool true)]) (As':=[.row (some ⟨g,0,none⟩) c0 43 ((rawF 5)).sz c0 ds,rowF (rawF 5) 43 (some ⟨g3,0,none⟩) c2 p2]) (ob:=[]) (by kernel_rfl) trivial λa w hS=> ?_
 refine wl_end ?_
 refine hK14 _ _ ?_
 refine k_cond true hS.has (by kernel_rfl) (by kernel_rfl) (by kernel_rfl) (λ_=> ?_) (λhx=>by cases hx)
 refine k_seq (by kernel_rfl) λK15 hK15=> ?_
 obtain⟨Z,hZ⟩:∃Z,ds=(p0.take i).flatMap ((rawF 5)).enc++(p0.drop i).flatMap ((rawF 5)).enc++Z:=⟨ds.drop (p0.length*((rawF 5)).sz),by rw[hXY];conv=>lhs;rw[←List.take_append_drop (p0.length*((rawF 5)).sz) ds,hd1]⟩
 have lds:ds.length=c0*((rawF 5)).sz:=hd2
 have lZ:(p2.flatMap ((rawF 5)).enc).length≤((p0.drop i).flatMap ((rawF 5)).enc).length+Z.length:=by
  have h1:=lds
  rw[hZ,List.length_append,List.length_append,lX,lY] at h1
  rw[lV,lY]
  have h2:=Nat.mul_le_mul_right ((rawF 5)).sz hle
  rw[Nat.add_mul] at h2
  have h3:i*((rawF 5)).sz+(p0.length-i)*((rawF 5)).sz=p0.length*((rawF 5)).sz:=by rw[←Nat.add_mul];congr 1;omega
  omega
 refine k_draw 8 9 [.val (.slice (some ⟨g,0,none⟩) (p0.length+p2.length) c0),.val (.int .i64 i),.val (.int .i64 (p2.length:Int)),.val (.int .i64 ((i+p2.length:Nat):Int)),.val (.slice (some ⟨g,(i+p2.length)*((rawF 5)).sz,none⟩) (p0.length+p2.length-(i+p2.length)) (c0-(i+p2.length))),.val (.slice (some ⟨g,0,none⟩) (p0.length+p2.length) c0),.val (.int .i64 i),.val (.slice (some ⟨g,i*((rawF 5)).sz,none⟩) (p0.length+p2.length-i) (c0-i))] [] [(0,[]),(1,[]),(2,[]),(3,[.as 72 (.int .i64 ((i+p2.length:Nat):Int))]),(4,[.as 73 (.slice (some ⟨g,(i+p2.length)*((rawF 5)).sz,none⟩) (p0.length+p2.length-(i+p2.length)) (c0-(i+p2.length)))]),(5,[]),(6,[]),(7,[.as 76 (.slice (some ⟨g,i*((rawF 5)).sz,none⟩) (p0.length+p2.length-i) (c0-i))])] [] (ob:=[λ_=>Value.int .i64 (IntKind.wrap .i64 ((i:Int)+(p2.length:Int)))= .int .i64 ((i+p2.length:Nat):Int),λ_=>0≤((i+p2.length:Nat):Int)∧((i+p2.length:Nat):Int)≤((p0.length+p2.length:Nat):Int)∧((p0.length+p2.length:Nat):Int)≤(c0:Int),λ_=>Value.slice (slA (some ⟨g,0,none⟩) (i+p2.length) c0 ((rawF 5)).sz) (p0.length+p2.length-(i+p2.length)) (c0-(i+p2.length))= .slice (some ⟨g,(i+p2.length)*((rawF 5)).sz,none⟩) (p0.length+p2.length-(i+p2.length)) (c0-(i+p2.length)),λ_=>0≤(i:Int)∧(i:Int)≤((p0.length+p2.length:Nat):Int)∧((p0.length+p2.length:Nat):Int)≤(c0:Int),λ_=>Value.slice (slA (some ⟨g,0,none⟩) i c0 ((rawF 5)).sz) (p0.length+p2.length-i) (c0-i)= .slice (some ⟨g,i*((rawF 5)).sz,none⟩) (p0.length+p2.length-i) (c0-i)]) (by kernel_rfl) (by kernel_rfl) hS (by kernel_rfl) (λF N0=>by kernel_rfl) (by kernel_rfl) (by kernel_rfl) (by kernel_rfl) (by kernel_rfl) ⟨Bx.c (by rw[hw2]),Bx.c ⟨by omega,by omega,by omega⟩,Bx.c (by rw[hs2]),Bx.c ⟨by omega,by omega,by omega⟩,Bx.c (by rw[hs3]),trivial⟩ ?_ ?_
 ·exact trivial
 intro V a w e hS hq
 have hsrc:=row_cellsAt (hS.st.own (.row (some ⟨g,0,none⟩) c0 43 ((rawF 5)).sz c0 ds) (by simp)) (i*((rawF 5)).sz) ((p0.drop i).flatMap ((rawF 5)).enc).length
 have hdsd:(ds.drop (i*((rawF 5)).sz)).take ((p0.drop i).flatMap ((rawF 5)).enc).length=(p0.drop i).flatMap ((rawF 5)).enc:=by
  rw[hZ,List.append_assoc,←lX,List.drop_left,List.take_left]
 rw[hdsd] at hsrc
 have hmin2:Nat.min (p0.length+p2.length-i) (p0.length+p2.length-(i+p2.length))=p0.length-i:=by
  rw[show p0.length+p2.length-(i+p2.length)=p0.length-i from by omega];exact Nat.min_eq_right (by omega)
 have hfit2:(i+p2.length)*((rawF 5)).sz+((p0.drop i).flatMap ((rawF 5)).enc).length≤c0*((rawF 5)).sz:=by rw[lY,←Nat.add_mul];exact Nat.mul_le_mul_right _ (by omega)
 refine r_bltS 8 rfl 0 (.row (some ⟨g,0,none⟩) c0 43 ((rawF 5)).sz c0 (spl ds ((i+p2.length)*((rawF 5)).sz) ((p0.drop i).flatMap ((rawF 5)).enc))) (d:=some 77) (b:= .copy) (ts:= #[22,22]) (ty:=3) (vs:= #[.slice (some ⟨g,(i+p2.length)*((rawF 5)).sz,none⟩) (p0.length+p2.length-(i+p2.length)) (c0-(i+p2.length)),.slice (some ⟨g,i*((rawF 5)).sz,none⟩) (p0.length+p2.length-i) (c0-i)]) hS (by kernel_rfl) rfl (λhA=>run_copyR (dT:=22) (sT:=22) (ty:=3) (inf:=Tryz.t43) (by kernel_rfl) (by kernel_rfl) rfl hA (by rw[hmin2,lY]) hsrc hfit2 hY1) rfl (by simp[Asn.fp]) λa w hS=> ?_
 refine wl_end ?_
 refine hK15 _ _ ?_
 refine k_seq (by kernel_rfl) λK16 hK16=> ?_
 refine k_reg 5 (by kernel_rfl) ?_
 refine r_run 0 4 [0,80,81] [.as 80 (.slice (some ⟨g,i*((rawF 5)).sz,none⟩) (p0.length+p2.length-i) (c0-i))] hS rfl (L':=[(0,.slice (some ⟨g,0,none⟩) (p0.length+p2.length) c0),(80,.slice (some ⟨g,i*((rawF 5)).sz,none⟩) (p0.length+p2.length-i) (c0-i)),(81,.slice (some ⟨g3,0,none⟩) p2.length c2)]) (As':=[.row (some ⟨g,0,none⟩) c0 43 ((rawF 5)).sz c0 (spl ds ((i+p2.length)*((rawF 5)).sz) ((p0.drop i).flatMap ((rawF 5)).enc)),rowF (rawF 5) 43 (some ⟨g3,0,none⟩) c2 p2]) (ob:=[λ_=>0≤(i:Int)∧(i:Int)≤((p0.length+p2.length:Nat):Int)∧((p0.length+p2.length:Nat):Int)≤(c0:Int),λ_=>Value.slice (slA (some ⟨g,0,none⟩) i c0 ((rawF 5)).sz) (p0.length+p2.length-i) (c0-i)= .slice (some ⟨g,i*((rawF 5)).sz,none⟩) (p0.length+p2.length-i) (c0-i)]) (by kernel_rfl) ⟨Bx.c ⟨by omega,by omega,by omega⟩,Bx.c (by rw[hs3]),trivial⟩ λa w hS=> ?_
 have hsrc:=row_cellsAt (hS.st.own (rowF (rawF 5) 43 (some ⟨g3,0,none⟩) c2 p2) (by simp)) 0 (p2.flatMap ((rawF 5)).enc).length
 rw[List.drop_zero,List.take_length] at hsrc
 have hfit1:i*((rawF 5)).sz+(p2.flatMap ((rawF 5)).enc).length≤c0*((rawF 5)).sz:=by rw[lV,←Nat.add_mul];exact Nat.mul_le_mul_right _ (by omega)
 have hmin1:Nat.min p2.length (p0.length+p2.length-i)=p2.length:=Nat.min_eq_left (by omega)
 refine r_bltS 4 rfl 0 (.row (some ⟨g,0,none⟩) c0 43 ((rawF 5)).sz c0 (spl (spl ds ((i+p2.length)*((rawF 5)).sz) ((p0.drop i).flatMap ((rawF 5)).enc)) (i*((rawF 5)).sz) (p2.flatMap ((rawF 5)).enc))) (d:=some 82) (b:= .copy) (ts:= #[22,22]) (ty:=3) (vs:= #[.slice (some ⟨g,i*((rawF 5)).sz,none⟩) (p0.length+p2.length-i) (c0-i),.slice (some ⟨g3,0,none⟩) p2.length c2]) hS (by kernel_rfl) rfl (λhA=>run_copyR (dT:=22) (sT:=22) (ty:=3) (inf:=Tryz.t43) (by kernel_rfl) (by kernel_rfl) rfl hA (by rw[hmin1,lV]) hsrc hfit1 hV1) rfl (by simp[Asn.fp]) λa w hS=> ?_
 have hfin:(spl (spl ds ((i+p2.length)*((rawF 5)).sz) ((p0.drop i).flatMap ((rawF 5)).enc)) (i*((rawF 5)).sz) (p2.flatMap ((rawF 5)).enc)).take ((p0.length+p2.length)*((rawF 5)).sz)=r.flatMap ((rawF 5)).enc:=by
  have:=cells_ins ((p0.take i).flatMap ((rawF 5)).enc) ((p0.drop i).flatMap ((rawF 5)).enc) (p2.flatMap ((rawF 5)).enc) Z lZ
  rw[lX,lV,←Nat.add_mul,←hZ] at this
  rw[this,hre,List.take_left' (by rw[List.length_append,List.length_append,lX,lV,lY,←Nat.add_mul,←Nat.add_mul];congr 1;omega)]
 replace hS:=hS.same (B:=rowF (rawF 5) 43 (some ⟨g,0,none⟩) c0 r) 0 rfl (λhA=>row_app_form hA hrl hle hfin) rfl (by simp[Asn.fp])
 refine wl_end ?_
 refine hK16 _ _ ?_
 refine k_seq (by kernel_rfl) λK17 hK17=> ?_
 refine k_reg 2 (by kernel_rfl) ?_
 refine r_run 0 2 [6] [] hS rfl (L':=[(6,.slice (some ⟨g,0,none⟩) (p0.length+p2.length) c0)]) (As':=[rowF (rawF 5) 43 (some ⟨g,0,none⟩) c0 r,rowF (rawF 5) 43 (some ⟨g3,0,none⟩) c2 p2]) (ob:=[]) (by kernel_rfl) trivial λa w hS=> ?_
 refine wl_end ?_
 refine hK17 _ _ ?_
 refine k_ret (by kernel_rfl) ?_
 try simp only[Exit.then,Exit.inBlock]
 refine r_ret hS [.tmp 6] [] (xs:=[.slice (some ⟨g,0,none⟩) (p0.length+p2.length) c0]) (ps:=[]) [0] [] rfl (by kernel_rfl) (λhA=>trivial) rfl (λF up=>trivial) ?_
 exact⟨some ⟨g,0,none⟩,c0,by rw[hrl];rfl,rfl,rfl⟩
def slices_Insert_Queue(n:Nat)(p1:Int)(q0 q1:List Queue):Option (List Queue):=insL 64 q0 p1 q1
@[reducible] def slices_Insert_Queue_ct:Ct tab:=⟨29,[.one (.own 0),.one (.d (.int .i64)),.one (.own 1)],[.deep 43 (.st 3) [none,none,none,some 45,some 47],.deep 43 (.st 3) [none,none,none,some 45,some 47]],[.one (.own 0)],[(none,.deep 43 (.st 3) [none,none,none,some 45,some 47])],List Queue,λy=>(y,()),λy=>y.1,λ_=>rfl,λn x=>slices_Insert_Queue n x.1 x.2.1 x.2.2.1⟩
theorem slices_Insert_Queue_ok:OkC Tryz.prog tab slices_Insert_Queue_ct:=ins_okD (es:=[none,none,none,some 45,some 47]) (t:= .st 3) (m:=5) (bytes:=64) tabOk rfl Tryz.call29 λp0 p1 p2 r h=>slices_Insert_Queue_raw p0 p1 p2 r h
def locks_held_1(n:Nat)(p0:Hold)(p1:Int):Option Bool:=
 some (p0.txn==p1)
@[reducible] def locks_held_1_ct:Ct tab:=⟨72,[.st 1,.one (.ro (.int .i64))],[],[.one (.d .bool)],[],Bool,λy=>(y,()),λy=>y.1,λ_=>rfl,λn x=>locks_held_1 n x.1 x.2.1⟩
theorem locks_held_1_ok:OkC Tryz.prog tab locks_held_1_ct:=fn_ok (W:=⟨Tryz.prog,tab,tyOf,[],addO,dpO,false⟩) ⟨tabOk,trivial,addOk⟩ (by kernel_rfl) 8 Tryz.f72 (.n) Tryz.func72 Tryz.call72 rfl (by kernel_rfl) (by kernel_rfl) (by kernel_rfl) λn x=>by kernel_rfl
def slices_IndexFunc_Hold_f72_l1(n:Nat):Nat→(List Hold)×Int×Int×Int×Unit→Option Int:=loopF λr1 ⟨v1,v2,v3,v4,_⟩=>
 cond (decide (v4<v3))
 ((idx v1 v4).bind λx5=>
 (locks_held_1 n x5 v2).bind λy6=>
 cond y6
 (some v4)
 (r1 (v1,v2,v3,(IntKind.wrap .i64 (v4+1)),())))
 (some (-1))
def slices_IndexFunc_Hold_f72(n:Nat)(p0:List Hold)(p1:Int):Option Int:=
 slices_IndexFunc_Hold_f72_l1 n n (p0,p1,(p0.length:Int),0,())
@[reducible] def slices_IndexFunc_Hold_f72_ct:Ct tab:=⟨71,[.one (.d (.sl (.st 1))),.one (.fn 72 [.ro (.int .i64)])],[],[.one (.d (.int .i64))],[],Int,λy=>(y,()),λy=>y.1,λ_=>rfl,λn x=>slices_IndexFunc_Hold_f72 n x.1 x.2.1⟩
theorem slices_IndexFunc_Hold_f72_ok:OkC Tryz.prog tab slices_IndexFunc_Hold_f72_ct:=fn_ok (W:=⟨Tryz.prog,tab,tyOf,[locks_held_1_ct],addO,dpO,false⟩) ⟨tabOk,⟨locks_held_1_ok,trivial⟩,addOk⟩ (by kernel_rfl) 19 Tryz.f71 (.sq (.n) (.sq (.sq (.n) (.bk none (.lp ⟨[(0,.one (.d (.sl (.st 1)))),(1,.one (.fn 72 [.ro (.int .i64)])),(7,.one (.d (.int .i64))),(8,.one (.d (.int .i64)))],[],[]⟩ (.n)))) (.n))) Tryz.func71 Tryz.call71 rfl (by kernel_rfl) (by kernel_rfl) (by kernel_rfl) λn x=>by kernel_rfl
def locks_held(n:Nat)(p0:Queue)(p1:Int):Option Int:=
 (slices_IndexFunc_Hold_f72 n p0.holders p1).bind λy1=>
 cond (decide (y1<0))
 (some 0)
 ((idx p0.holders y1).bind λx2=>
 some x2.mode)
@[reducible] def locks_held_ct:Ct tab:=⟨30,[.st 3,.one (.d (.int .i64))],[],[.one (.d (.int .i64))],[],Int,λy=>(y,()),λy=>y.1,λ_=>rfl,λn x=>locks_held n x.1 x.2.1⟩
theorem locks_held_ok:OkC Tryz.prog tab locks_held_ct:=fn_ok (W:=⟨Tryz.prog,tab,tyOf,[slices_IndexFunc_Hold_f72_ct],addO,dpO,false⟩) ⟨tabOk,⟨slices_IndexFunc_Hold_f72_ok,trivial⟩,addOk⟩ (by kernel_rfl) 18 Tryz.f30 (.n) Tryz.func30 Tryz.call30 rfl (by kernel_rfl) (by kernel_rfl) (by kernel_rfl) λn x=>by kernel_rfl
def mode_is(n:Nat)(p0:Int):Option Bool:=
 jn (fun(b1:Bool)=>
 some b1) λk2=>
 cond (decide (p0≥0))
 (k2 (decide (p0<7)))
 (k2 false)
@[reducible] def mode_is_ct:Ct tab:=⟨73,[.one (.d (.int .i64))],[],[.one (.d .bool)],[],Bool,λy=>(y,()),λy=>y.1,λ_=>rfl,λn x=>mode_is n x.1⟩
theorem mode_is_ok:OkC Tryz.prog tab mode_is_ct:=fn_ok (W:=⟨Tryz.prog,tab,tyOf,[],addO,dpO,false⟩) ⟨tabOk,trivial,addOk⟩ (by kernel_rfl) 9 Tryz.f73 (.n) Tryz.func73 Tryz.call73 rfl (by kernel_rfl) (by kernel_rfl) (by kernel_rfl) λn x=>by kernel_rfl
def mode_set_l1(n:Nat):Nat→Int×(List Int)×Int×Int×Unit→Option Int:=loopF λr1 ⟨v1,v2,v3,v4,_⟩=>
 cond (decide (v4<v3))
 ((idx v2 v4).bind λx5=>
 (shlP .i64 1 x5).bind λz6=>
 r1 ((orV .i64 v1 z6),v2,v3,(IntKind.wrap .i64 (v4+1)),()))
 (some v1)
def mode_set(n:Nat)(p0:List Int):Option Int:=
 mode_set_l1 n n (0,p0,(p0.length:Int),0,())
@[reducible] def mode_set_ct:Ct tab:=⟨102,[.one (.d (.sl (.int .i64)))],[],[.one (.d (.int .i64))],[],Int,λy=>(y,()),λy=>y.1,λ_=>rfl,λn x=>mode_set n x.1⟩
theorem mode_set_ok:OkC Tryz.prog tab mode_set_ct:=fn_ok (W:=⟨Tryz.prog,tab,tyOf,[],addO,dpO,false⟩) ⟨tabOk,trivial,addOk⟩ (by kernel_rfl) 18 Tryz.f102 (.sq (.n) (.sq (.n) (.sq (.sq (.n) (.bk none (.lp ⟨[(3,.one (.d (.int .i64))),(6,.one (.d (.sl (.int .i64)))),(7,.one (.d (.int .i64))),(8,.one (.d (.int .i64)))],[],[]⟩ (.n)))) (.n)))) Tryz.func102 Tryz.call102 rfl (by kernel_rfl) (by kernel_rfl) (by kernel_rfl) λn x=>by kernel_rfl
def mode_covers(n:Nat)(p0:Int):Option Int:=
 (mode_set n ([0]:List Int)).bind λy1=>
 (mode_set n ([0,1]:List Int)).bind λy2=>
 (mode_set n ([0,1,2]:List Int)).bind λy3=>
 (mode_set n ([0,1,3]:List Int)).bind λy4=>
 (mode_set n ([0,1,2,3,4]:List Int)).bind λy5=>
 (mode_set n ([0,1,2,3,4,5,6]:List Int)).bind λy6=>
 (mode_set n ([0,6]:List Int)).bind λy7=>
 cond (decide (p0=0))
 (some y1)
 (cond (decide (p0=1))
 (some y2)
 (cond (decide (p0=2))
 (some y3)
 (cond (decide (p0=3))
 (some y4)
 (cond (decide (p0=4))
 (some y5)
 (cond (decide (p0=5))
 (some y6)
 (cond (decide (p0=6))
 (some y7)
 (none)))))))
@[reducible] def mode_covers_ct:Ct tab:=⟨75,[.one (.d (.int .i64))],[],[.one (.d (.int .i64))],[],Int,λy=>(y,()),λy=>y.1,λ_=>rfl,λn x=>mode_covers n x.1⟩
theorem mode_covers_ok:OkC Tryz.prog tab mode_covers_ct:=fn_ok (W:=⟨Tryz.prog,tab,tyOf,[mode_set_ct],addO,dpO,false⟩) ⟨tabOk,⟨mode_set_ok,trivial⟩,addOk⟩ (by kernel_rfl) 22 Tryz.f75 (.sq (.n) (.sq (.n) (.sq (.rs [(0,7)] []) (.n)))) Tryz.func75 Tryz.call75 rfl (by kernel_rfl) (by kernel_rfl) (by kernel_rfl) λn x=>by kernel_rfl
def mode_has(n:Nat)(p0:Int)(p1:Int):Option Bool:=
 (shrP .i64 p0 p1).bind λz1=>
 some ((andV .i64 z1 1)==1)
@[reducible] def mode_has_ct:Ct tab:=⟨74,[.one (.d (.int .i64)),.one (.d (.int .i64))],[],[.one (.d .bool)],[],Bool,λy=>(y,()),λy=>y.1,λ_=>rfl,λn x=>mode_has n x.1 x.2.1⟩
theorem mode_has_ok:OkC Tryz.prog tab mode_has_ct:=fn_ok (W:=⟨Tryz.prog,tab,tyOf,[],addO,dpO,false⟩) ⟨tabOk,trivial,addOk⟩ (by kernel_rfl) 10 Tryz.f74 (.n) Tryz.func74 Tryz.call74 rfl (by kernel_rfl) (by kernel_rfl) (by kernel_rfl) λn x=>by kernel_rfl
def mode_Covers(n:Nat)(p0:Int)(p1:Int):Option Bool:=
 (mode_is n p0).bind λy1=>
 jn (fun(b2:Bool)=>
 jn (fun(b4:Bool)=>
 some b4) λk5=>
 cond b2
 ((mode_covers n p0).bind λy6=>
 (mode_has n y6 p1).bind λy7=>
 k5 y7)
 (k5 false)) λk3=>
 cond y1
 ((mode_is n p1).bind λy8=>
 k3 y8)
 (k3 false)
@[reducible] def mode_Covers_ct:Ct tab:=⟨31,[.one (.d (.int .i64)),.one (.d (.int .i64))],[],[.one (.d .bool)],[],Bool,λy=>(y,()),λy=>y.1,λ_=>rfl,λn x=>mode_Covers n x.1 x.2.1⟩
theorem mode_Covers_ok:OkC Tryz.prog tab mode_Covers_ct:=fn_ok (W:=⟨Tryz.prog,tab,tyOf,[mode_is_ct,mode_covers_ct,mode_has_ct],addO,dpO,false⟩) ⟨tabOk,⟨mode_is_ok,mode_covers_ok,mode_has_ok,trivial⟩,addOk⟩ (by kernel_rfl) 17 Tryz.f31 (.n) Tryz.func31 Tryz.call31 rfl (by kernel_rfl) (by kernel_rfl) (by kernel_rfl) λn x=>by kernel_rfl
def mode_OfTables(n:Nat)(p0:Int):Option Bool:=
 (mode_is n p0).bind λy1=>
 jn (fun(b2:Bool)=>
 some b2) λk3=>
 cond y1
 (k3 (p0 !=6))
 (k3 false)
@[reducible] def mode_OfTables_ct:Ct tab:=⟨62,[.one (.d (.int .i64))],[],[.one (.d .bool)],[],Bool,λy=>(y,()),λy=>y.1,λ_=>rfl,λn x=>mode_OfTables n x.1⟩
theorem mode_OfTables_ok:OkC Tryz.prog tab mode_OfTables_ct:=fn_ok (W:=⟨Tryz.prog,tab,tyOf,[mode_is_ct],addO,dpO,false⟩) ⟨tabOk,⟨mode_is_ok,trivial⟩,addOk⟩ (by kernel_rfl) 9 Tryz.f62 (.n) Tryz.func62 Tryz.call62 rfl (by kernel_rfl) (by kernel_rfl) (by kernel_rfl) λn x=>by kernel_rfl
def mode_OfKeys(n:Nat)(p0:Int):Option Bool:=
 (mode_is n p0).bind λy1=>
 jn (fun(b2:Bool)=>
 some b2) λk3=>
 cond y1
 ((mode_set n ([0,3,5,6]:List Int)).bind λy4=>
 (mode_has n y4 p0).bind λy5=>
 k3 y5)
 (k3 false)
@[reducible] def mode_OfKeys_ct:Ct tab:=⟨61,[.one (.d (.int .i64))],[],[.one (.d .bool)],[],Bool,λy=>(y,()),λy=>y.1,λ_=>rfl,λn x=>mode_OfKeys n x.1⟩
theorem mode_OfKeys_ok:OkC Tryz.prog tab mode_OfKeys_ct:=fn_ok (W:=⟨Tryz.prog,tab,tyOf,[mode_is_ct,mode_set_ct,mode_has_ct],addO,dpO,false⟩) ⟨tabOk,⟨mode_is_ok,mode_set_ok,mode_has_ok,trivial⟩,addOk⟩ (by kernel_rfl) 11 Tryz.f61 (.n) Tryz.func61 Tryz.call61 rfl (by kernel_rfl) (by kernel_rfl) (by kernel_rfl) λn x=>by kernel_rfl
def mode_Sup_j2(n:Nat)(r1:Int×Int×Int×Int×Unit→Option (Int×Int)):Int×Int×Int×Int×Unit→Option (Int×Int):=fun⟨v18,v19,v20,v21,_⟩=>
 r1 (v18,v19,v20,(IntKind.wrap .i64 (v21+1)),())
def mode_Sup_l1(n:Nat):Nat→Int×Int×Int×Int×Unit→Option (Int×Int):=loopF λr1 ⟨v9,v10,v11,v12,_⟩=>
 cond (decide (v12<7))
 ((mode_Covers n v12 v9).bind λy13=>
 jn (fun(b14:Bool)=>
 jn (fun(b16:Bool)=>
 jn (mode_Sup_j2 n r1) λj2=>
 cond b16
 (j2 (v9,v10,v12,v12,()))
 (j2 (v9,v10,v11,v12,()))) λk17=>
 cond b14
 ((mode_Covers n v11 v12).bind λy22=>
 k17 y22)
 (k17 false)) λk15=>
 cond y13
 ((mode_Covers n v12 v10).bind λy23=>
 k15 y23)
 (k15 false))
 (some (v11,0))
def mode_Sup(n:Nat)(p0:Int)(p1:Int):Option (Int×Int):=
 (mode_is n p0).bind λy1=>
 jn (fun(b2:Bool)=>
 cond b2
 (some (0,170))
 ((mode_OfTables n p0).bind λy4=>
 jn (fun(b5:Bool)=>
 jn (fun(b7:Bool)=>
 cond b7
 (some (0,2))
 (mode_Sup_l1 n n (p0,p1,5,0,()))) λk8=>
 cond (!b5)
 ((mode_OfKeys n p0).bind λy24=>
 jn (fun(b25:Bool)=>
 k8 (!b25)) λk26=>
 cond y24
 ((mode_OfKeys n p1).bind λy27=>
 k26 y27)
 (k26 false))
 (k8 false)) λk6=>
 cond y4
 ((mode_OfTables n p1).bind λy28=>
 k6 y28)
 (k6 false))) λk3=>
 cond (!y1)
 (k3 true)
 ((mode_is n p1).bind λy29=>
 k3 (!y29))
@[reducible] def mode_Sup_ct:Ct tab:=⟨32,[.one (.d (.int .i64)),.one (.d (.int .i64))],[],[.one (.d (.int .i64)),.one (.d (.int .i64))],[],(Int×Int),λy=>(y.1,y.2,()),λy=>(y.1,y.2.1),λ_=>rfl,λn x=>mode_Sup n x.1 x.2.1⟩
theorem mode_Sup_ok:OkC Tryz.prog tab mode_Sup_ct:=fn_ok (W:=⟨Tryz.prog,tab,tyOf,[mode_is_ct,mode_OfTables_ct,mode_Covers_ct,mode_OfKeys_ct],addO,dpO,false⟩) ⟨tabOk,⟨mode_is_ok,mode_OfTables_ok,mode_Covers_ok,mode_OfKeys_ok,trivial⟩,addOk⟩ (by kernel_rfl) 51 Tryz.f32 (.sq (.n) (.sq (.n) (.sq (.n) (.sq (.n) (.sq (.sq (.n) (.bk none (.lp ⟨[(0,.one (.d (.int .i64))),(1,.one (.d (.int .i64))),(6,.one (.d (.int .i64))),(32,.one (.d (.int .i64)))],[],[]⟩ (.sq (.n) (.sq (.n) (.sq (.bk none (.sq (.n) (.sq (.n) (.cd (some ⟨[(0,.one (.d (.int .i64))),(1,.one (.d (.int .i64))),(6,.one (.d (.int .i64))),(32,.one (.d (.int .i64)))],[],[]⟩) (.n) (.n))))) (.n))))))) (.n)))))) Tryz.func32 Tryz.call32 rfl (by kernel_rfl) (by kernel_rfl) (by kernel_rfl) λn x=>by kernel_rfl
def mode_goes(n:Nat)(p0:Int):Option Int:=
 (mode_set n ([0,1,2,3,4,5,6]:List Int)).bind λy1=>
 (mode_set n ([0,1,2,3,4]:List Int)).bind λy2=>
 (mode_set n ([0,1,2]:List Int)).bind λy3=>
 (mode_set n ([0,1,3]:List Int)).bind λy4=>
 (mode_set n ([0,1]:List Int)).bind λy5=>
 (mode_set n ([0]:List Int)).bind λy6=>
 (mode_set n ([0,6]:List Int)).bind λy7=>
 cond (decide (p0=0))
 (some y1)
 (cond (decide (p0=1))
 (some y2)
 (cond (decide (p0=2))
 (some y3)
 (cond (decide (p0=3))
 (some y4)
 (cond (decide (p0=4))
 (some y5)
 (cond (decide (p0=5))
 (some y6)
 (cond (decide (p0=6))
 (some y7)
 (none)))))))
@[reducible] def mode_goes_ct:Ct tab:=⟨86,[.one (.d (.int .i64))],[],[.one (.d (.int .i64))],[],Int,λy=>(y,()),λy=>y.1,λ_=>rfl,λn x=>mode_goes n x.1⟩
theorem mode_goes_ok:OkC Tryz.prog tab mode_goes_ct:=fn_ok (W:=⟨Tryz.prog,tab,tyOf,[mode_set_ct],addO,dpO,false⟩) ⟨tabOk,⟨mode_set_ok,trivial⟩,addOk⟩ (by kernel_rfl) 22 Tryz.f86 (.sq (.n) (.sq (.n) (.sq (.rs [(0,7)] []) (.n)))) Tryz.func86 Tryz.call86 rfl (by kernel_rfl) (by kernel_rfl) (by kernel_rfl) λn x=>by kernel_rfl
end
end Go.Proofs.YtchocpffjnodfaaGreat
