import Derived.Test.YtchocpffjnodfaaGreatTypes
import Derived.Test.YtchocpffjnodfaaGreatF0
namespace Go.Proofs.YtchocpffjnodfaaGreat
open Go Go.Bur Go.RowKit
set_option linter.unusedVariables false
set_option linter.unusedSimpArgs false
set_option maxRecDepth 100000
noncomputable section
def mode_Goes(n:Nat)(p0:Int)(p1:Int):Option Bool:=
 (mode_is n p0).bind λy1=>
 jn (fun(b2:Bool)=>
 jn (fun(b4:Bool)=>
 some b4) λk5=>
 cond b2
 ((mode_goes n p0).bind λy6=>
 (mode_has n y6 p1).bind λy7=>
 k5 y7)
 (k5 false)) λk3=>
 cond y1
 ((mode_is n p1).bind λy8=>
 k3 y8)
 (k3 false)
@[reducible] def mode_Goes_ct:Ct tab:=⟨37,[.one (.d (.int .i64)),.one (.d (.int .i64))],[],[.one (.d .bool)],[],Bool,λy=>(y,()),λy=>y.1,λ_=>rfl,λn x=>mode_Goes n x.1 x.2.1⟩
theorem mode_Goes_ok:OkC Tryz.prog tab mode_Goes_ct:=fn_ok (W:=⟨Tryz.prog,tab,tyOf,[mode_is_ct,mode_goes_ct,mode_has_ct],addO,dpO,false⟩) ⟨tabOk,⟨mode_is_ok,mode_goes_ok,mode_has_ok,trivial⟩,addOk⟩ (by kernel_rfl) 17 Tryz.f37 (.n) Tryz.func37 Tryz.call37 rfl (by kernel_rfl) (by kernel_rfl) (by kernel_rfl) λn x=>by kernel_rfl
def locks_goes_1(n:Nat)(p0:Hold)(p1:Int)(p2:Int):Option Bool:=
 jn (fun(b1:Bool)=>
 some b1) λk2=>
 cond (p0.txn !=p1)
 ((mode_Goes n p0.mode p2).bind λy3=>
 k2 (!y3))
 (k2 false)
@[reducible] def locks_goes_1_ct:Ct tab:=⟨77,[.st 1,.one (.ro (.int .i64)),.one (.ro (.int .i64))],[],[.one (.d .bool)],[],Bool,λy=>(y,()),λy=>y.1,λ_=>rfl,λn x=>locks_goes_1 n x.1 x.2.1 x.2.2.1⟩
theorem locks_goes_1_ok:OkC Tryz.prog tab locks_goes_1_ct:=fn_ok (W:=⟨Tryz.prog,tab,tyOf,[mode_Goes_ct],addO,dpO,false⟩) ⟨tabOk,⟨mode_Goes_ok,trivial⟩,addOk⟩ (by kernel_rfl) 16 Tryz.f77 (.n) Tryz.func77 Tryz.call77 rfl (by kernel_rfl) (by kernel_rfl) (by kernel_rfl) λn x=>by kernel_rfl
def slices_IndexFunc_Hold_f77_l1(n:Nat):Nat→(List Hold)×Int×Int×Int×Int×Unit→Option Int:=loopF λr1 ⟨v1,v2,v3,v4,v5,_⟩=>
 cond (decide (v5<v4))
 ((idx v1 v5).bind λx6=>
 (locks_goes_1 n x6 v2 v3).bind λy7=>
 cond y7
 (some v5)
 (r1 (v1,v2,v3,v4,(IntKind.wrap .i64 (v5+1)),())))
 (some (-1))
def slices_IndexFunc_Hold_f77(n:Nat)(p0:List Hold)(p1_0:Int)(p1_1:Int):Option Int:=
 slices_IndexFunc_Hold_f77_l1 n n (p0,p1_0,p1_1,(p0.length:Int),0,())
@[reducible] def slices_IndexFunc_Hold_f77_ct:Ct tab:=⟨71,[.one (.d (.sl (.st 1))),.one (.fn 77 [.ro (.int .i64),.ro (.int .i64)])],[],[.one (.d (.int .i64))],[],Int,λy=>(y,()),λy=>y.1,λ_=>rfl,λn x=>slices_IndexFunc_Hold_f77 n x.1 x.2.1 x.2.2.1⟩
theorem slices_IndexFunc_Hold_f77_ok:OkC Tryz.prog tab slices_IndexFunc_Hold_f77_ct:=fn_ok (W:=⟨Tryz.prog,tab,tyOf,[locks_goes_1_ct],addO,dpO,false⟩) ⟨tabOk,⟨locks_goes_1_ok,trivial⟩,addOk⟩ (by kernel_rfl) 19 Tryz.f71 (.sq (.n) (.sq (.sq (.n) (.bk none (.lp ⟨[(0,.one (.d (.sl (.st 1)))),(1,.one (.fn 77 [.ro (.int .i64),.ro (.int .i64)])),(7,.one (.d (.int .i64))),(8,.one (.d (.int .i64)))],[],[]⟩ (.n)))) (.n))) Tryz.func71 Tryz.call71 rfl (by kernel_rfl) (by kernel_rfl) (by kernel_rfl) λn x=>by kernel_rfl
def slices_ContainsFunc_Hold_f77(n:Nat)(p0:List Hold)(p1_0:Int)(p1_1:Int):Option Bool:=
 (slices_IndexFunc_Hold_f77 n p0 p1_0 p1_1).bind λy1=>
 some (decide (y1≥0))
@[reducible] def slices_ContainsFunc_Hold_f77_ct:Ct tab:=⟨76,[.one (.d (.sl (.st 1))),.one (.fn 77 [.ro (.int .i64),.ro (.int .i64)])],[],[.one (.d .bool)],[],Bool,λy=>(y,()),λy=>y.1,λ_=>rfl,λn x=>slices_ContainsFunc_Hold_f77 n x.1 x.2.1 x.2.2.1⟩
theorem slices_ContainsFunc_Hold_f77_ok:OkC Tryz.prog tab slices_ContainsFunc_Hold_f77_ct:=fn_ok (W:=⟨Tryz.prog,tab,tyOf,[slices_IndexFunc_Hold_f77_ct],addO,dpO,false⟩) ⟨tabOk,⟨slices_IndexFunc_Hold_f77_ok,trivial⟩,addOk⟩ (by kernel_rfl) 9 Tryz.f76 (.n) Tryz.func76 Tryz.call76 rfl (by kernel_rfl) (by kernel_rfl) (by kernel_rfl) λn x=>by kernel_rfl
def locks_goes(n:Nat)(p0:Queue)(p1:Int)(p2:Int):Option Bool:=
 (slices_ContainsFunc_Hold_f77 n p0.holders p1 p2).bind λy1=>
 some (!y1)
@[reducible] def locks_goes_ct:Ct tab:=⟨33,[.st 3,.one (.d (.int .i64)),.one (.d (.int .i64))],[],[.one (.d .bool)],[],Bool,λy=>(y,()),λy=>y.1,λ_=>rfl,λn x=>locks_goes n x.1 x.2.1 x.2.2.1⟩
theorem locks_goes_ok:OkC Tryz.prog tab locks_goes_ct:=fn_ok (W:=⟨Tryz.prog,tab,tyOf,[slices_ContainsFunc_Hold_f77_ct],addO,dpO,false⟩) ⟨tabOk,⟨slices_ContainsFunc_Hold_f77_ok,trivial⟩,addOk⟩ (by kernel_rfl) 12 Tryz.f33 (.n) Tryz.func33 Tryz.call33 rfl (by kernel_rfl) (by kernel_rfl) (by kernel_rfl) λn x=>by kernel_rfl
def locks_byTxn(n:Nat)(p0:Hold)(p1:Int):Option Int:=
 (cmp_Compare_int n p0.txn p1).bind λy1=>
 some y1
@[reducible] def locks_byTxn_ct:Ct tab:=⟨79,[.st 1,.one (.d (.int .i64))],[],[.one (.d (.int .i64))],[],Int,λy=>(y,()),λy=>y.1,λ_=>rfl,λn x=>locks_byTxn n x.1 x.2.1⟩
theorem locks_byTxn_ok:OkC Tryz.prog tab locks_byTxn_ct:=fn_ok (W:=⟨Tryz.prog,tab,tyOf,[cmp_Compare_int_ct],addO,dpO,false⟩) ⟨tabOk,⟨cmp_Compare_int_ok,trivial⟩,addOk⟩ (by kernel_rfl) 9 Tryz.f79 (.n) Tryz.func79 Tryz.call79 rfl (by kernel_rfl) (by kernel_rfl) (by kernel_rfl) λn x=>by kernel_rfl
def slices_BinarySearchFunc_int_f79_j2(n:Nat)(r1:(List Hold)×Int×Int×Int×Int×Unit→Option (Int×Bool)):(List Hold)×Int×Int×Int×Int×Unit→Option (Int×Bool):=fun⟨v9,v10,v11,v12,v13,_⟩=>
 r1 (v9,v10,v11,v12,v13,())
def slices_BinarySearchFunc_int_f79_l1(n:Nat):Nat→(List Hold)×Int×Int×Int×Int×Unit→Option (Int×Bool):=loopF λr1 ⟨v1,v2,v3,v4,v5,_⟩=>
 cond (decide (v4<v5))
 ((shrP .u64 (IntKind.wrap .u64 (IntKind.wrap .i64 (v4+v5))) 1).bind λz6=>
 (idx v1 (IntKind.wrap .i64 z6)).bind λx7=>
 (locks_byTxn n x7 v2).bind λy8=>
 jn (slices_BinarySearchFunc_int_f79_j2 n r1) λj2=>
 cond (decide (y8<0))
 (j2 (v1,v2,v3,(IntKind.wrap .i64 ((IntKind.wrap .i64 z6)+1)),v5,()))
 (j2 (v1,v2,v3,v4,(IntKind.wrap .i64 z6),())))
 (jn (fun(b14:Bool)=>
 some (v4,b14)) λk15=>
 cond (decide (v4<v3))
 ((idx v1 v4).bind λx16=>
 (locks_byTxn n x16 v2).bind λy17=>
 k15 (y17==0))
 (k15 false))
def slices_BinarySearchFunc_int_f79(n:Nat)(p0:List Hold)(p1:Int):Option (Int×Bool):=
 slices_BinarySearchFunc_int_f79_l1 n n (p0,p1,(p0.length:Int),0,(p0.length:Int),())
@[reducible] def slices_BinarySearchFunc_int_f79_ct:Ct tab:=⟨78,[.one (.d (.sl (.st 1))),.one (.d (.int .i64)),.one (.fn 79 [])],[],[.one (.d (.int .i64)),.one (.d .bool)],[],(Int×Bool),λy=>(y.1,y.2,()),λy=>(y.1,y.2.1),λ_=>rfl,λn x=>slices_BinarySearchFunc_int_f79 n x.1 x.2.1⟩
theorem slices_BinarySearchFunc_int_f79_ok:OkC Tryz.prog tab slices_BinarySearchFunc_int_f79_ct:=fn_ok (W:=⟨Tryz.prog,tab,tyOf,[locks_byTxn_ct],addO,dpO,false⟩) ⟨tabOk,⟨locks_byTxn_ok,trivial⟩,addOk⟩ (by kernel_rfl) 49 Tryz.f78 (.sq (.n) (.sq (.n) (.sq (.n) (.sq (.bk none (.lp ⟨[(0,.one (.d (.sl (.st 1)))),(1,.one (.d (.int .i64))),(2,.one (.fn 79 [])),(8,.one (.d (.int .i64))),(9,.one (.d (.int .i64))),(10,.one (.d (.int .i64)))],[],[]⟩ (.sq (.n) (.bk none (.sq (.n) (.sq (.n) (.cd (some ⟨[(0,.one (.d (.sl (.st 1)))),(1,.one (.d (.int .i64))),(2,.one (.fn 79 [])),(8,.one (.d (.int .i64))),(9,.one (.d (.int .i64))),(10,.one (.d (.int .i64)))],[],[]⟩) (.n) (.n)))))))) (.n))))) Tryz.func78 Tryz.call78 rfl (by kernel_rfl) (by kernel_rfl) (by kernel_rfl) λn x=>by kernel_rfl
theorem slices_Insert_Hold_raw{a0:Option Addr}{c0:Nat}{a2:Option Addr}{c2:Nat}(p0:List (Raw 2))(p1:Int)(p2:List (Raw 2))(r:List (Raw 2))(h:insL 16 p0 p1 p2=some r):
  Meets Tryz.prog 80 #[.slice a0 p0.length c0,.int .i64 p1,.slice a2 p2.length c2] [rowF (rawF 2) 45 a0 c0 p0,rowF (rawF 2) 45 a2 c2 p2] [] λv A P=>∃(a:Option Addr) (c:Nat),v= .slice a r.length c∧A=[rowF (rawF 2) 45 a c r]∧P=[]:=by
 unfold insL at h
 split at h
 case isFalse=>cases h
 rename_i hb
 obtain⟨hb0,hb1⟩:=hb
 obtain⟨i,hi⟩:∃i:Nat,p1=(i:Int):=⟨p1.toNat,by omega⟩
 subst hi
 simp only[Int.toNat_natCast] at h
 have hil:i≤p0.length:=by omega
 split at h
 case h_2=>cases h
 rename_i hroom
 have hr:=someI h
 have hrl:r.length=p0.length+p2.length:=by rw[←hr];simp;omega
 have hbytes:(p0.length+p2.length)*16≤140737488355328:=Nat.le_of_ble_eq_true hroom
 have hsm:p0.length+p2.length<9223372036854775808:=by omega
 refine meets_enter 95 Tryz.func80 Tryz.call80 rfl (by kernel_rfl) (by simp) λC a w hS=> ?_
 have hc:p0.length≤c0:=(row_len (hS.st.own _ (List.mem_cons_self ..))).2.1
 refine k_seq (by kernel_rfl) λK1 hK1=> ?_
 refine k_reg 1 (by kernel_rfl) ?_
 refine r_run 0 1 [0,1,2] [] hS rfl (L':=[(0,.slice a0 p0.length c0),(1,.int .i64 i),(2,.slice a2 p2.length c2)]) (As':=[rowF (rawF 2) 45 a0 c0 p0,rowF (rawF 2) 45 a2 c2 p2]) (ob:=[]) (by kernel_rfl) trivial λa w hS=> ?_
 refine wl_end ?_
 refine hK1 _ _ ?_
 refine k_seq (by kernel_rfl) λK2 hK2=> ?_
 refine k_reg 3 (by kernel_rfl) ?_
 refine r_run 0 3 [0,1,2] [] hS rfl (L':=[(0,.slice a0 p0.length c0),(1,.int .i64 i),(2,.slice a2 p2.length c2)]) (As':=[rowF (rawF 2) 45 a0 c0 p0,rowF (rawF 2) 45 a2 c2 p2]) (ob:=[λ_=>0≤(i:Int)∧(i:Int)≤(p0.length:Int)∧(p0.length:Int)≤(c0:Int)]) (by kernel_rfl) ⟨Bx.c ⟨hb0,hb1,by omega⟩,trivial⟩ λa w hS=> ?_
 refine wl_end ?_
 refine hK2 _ _ ?_
 refine k_seq (by kernel_rfl) λK3 hK3=> ?_
 refine k_reg 3 (by kernel_rfl) ?_
 refine r_run 0 3 [0,1,2,7] [] hS rfl (L':=[(0,.slice a0 p0.length c0),(1,.int .i64 i),(2,.slice a2 p2.length c2),(7,.int .i64 (p2.length:Int))]) (As':=[rowF (rawF 2) 45 a0 c0 p0,rowF (rawF 2) 45 a2 c2 p2]) (ob:=[]) (by kernel_rfl) trivial λa w hS=> ?_
 refine wl_end ?_
 refine hK3 _ _ ?_
 refine k_seq (by kernel_rfl) λK4 hK4=> ?_
 refine k_seq (by kernel_rfl) λK5 hK5=> ?_
 refine k_reg 2 (by kernel_rfl) ?_
 refine r_run 0 2 [0,1,2,7,16] [] hS rfl (L':=[(0,.slice a0 p0.length c0),(1,.int .i64 i),(2,.slice a2 p2.length c2),(7,.int .i64 (p2.length:Int)),(16,.bool ((p2.length:Int)==0))]) (As':=[rowF (rawF 2) 45 a0 c0 p0,rowF (rawF 2) 45 a2 c2 p2]) (ob:=[]) (by kernel_rfl) trivial λa w hS=> ?_
 refine wl_end ?_
 refine hK5 _ _ ?_
 refine k_cond ((p2.length:Int)==0) hS.has (by kernel_rfl) (by kernel_rfl) (by kernel_rfl) (λhq=> ?_) (λhq=> ?_)
 ·have hp:p2=[]:=List.eq_nil_of_length_eq_zero (by simpa using hq)
  subst hp
  have hr':p0=r:=by rw[←hr];simp
  subst hr'
  refine k_seq (by kernel_rfl) λK6 hK6=> ?_
  refine k_reg 2 (by kernel_rfl) ?_
  refine r_run 0 2 [6] [] hS rfl (L':=[(6,.slice a0 p0.length c0)]) (As':=[rowF (rawF 2) 45 a0 c0 p0,rowF (rawF 2) 45 a2 c2 ([]:List (Raw 2))]) (ob:=[]) (by kernel_rfl) trivial λa w hS=> ?_
  refine wl_end ?_
  refine hK6 _ _ ?_
  refine k_ret (by kernel_rfl) ?_
  try simp only[Exit.then,Exit.inBlock]
  refine r_ret hS [.tmp 6] [] (xs:=[.slice a0 p0.length c0]) (ps:=[]) [0] [] rfl (by kernel_rfl) (λhA=>trivial) rfl (λF up=>trivial) ?_
  exact⟨a0,c0,rfl,rfl,rfl⟩
 have hm:0<p2.length:=by
  rcases Nat.eq_zero_or_pos p2.length with h0|h0
  ·rw[h0] at hq;simp at hq
  ·exact h0
 obtain⟨g3,rfl⟩:=row_block (hS.st.own (rowF (rawF 2) 45 a2 c2 p2) (by simp)) (by omega)
 refine k_skip (by kernel_rfl) ?_
 refine hK4 _ _ ?_
 refine k_seq (by kernel_rfl) λK7 hK7=> ?_
 refine k_reg 3 (by kernel_rfl) ?_
 refine r_run 0 3 [0,1,2,7,8] [] hS rfl (L':=[(0,.slice a0 p0.length c0),(1,.int .i64 i),(2,.slice (some ⟨g3,0,none⟩) p2.length c2),(7,.int .i64 (p2.length:Int)),(8,.int .i64 (p0.length:Int))]) (As':=[rowF (rawF 2) 45 a0 c0 p0,rowF (rawF 2) 45 (some ⟨g3,0,none⟩) c2 p2]) (ob:=[]) (by kernel_rfl) trivial λa w hS=> ?_
 refine wl_end ?_
 refine hK7 _ _ ?_
 refine k_seq (by kernel_rfl) λK8 hK8=> ?_
 refine k_seq (by kernel_rfl) λK9 hK9=> ?_
 refine k_reg 3 (by kernel_rfl) ?_
 refine r_run 0 3 [0,1,2,7,8,22] [] hS rfl (L':=[(0,.slice a0 p0.length c0),(1,.int .i64 i),(2,.slice (some ⟨g3,0,none⟩) p2.length c2),(7,.int .i64 (p2.length:Int)),(8,.int .i64 (p0.length:Int)),(22,.bool ((i:Int)==(p0.length:Int)))]) (As':=[rowF (rawF 2) 45 a0 c0 p0,rowF (rawF 2) 45 (some ⟨g3,0,none⟩) c2 p2]) (ob:=[]) (by kernel_rfl) trivial λa w hS=> ?_
 refine wl_end ?_
 refine hK9 _ _ ?_
 refine k_cond ((i:Int)==(p0.length:Int)) hS.has (by kernel_rfl) (by kernel_rfl) (by kernel_rfl) (λhq2=> ?_) (λhq2=> ?_)
 ·have hin:i=p0.length:=by
   have:=of_decide_eq_true (p:=(i:Int)=(p0.length:Int)) (by simpa using hq2)
   omega
  have hr':r=p0++p2:=by rw[←hr,hin];simp
  refine k_seq (by kernel_rfl) λK6 hK6=> ?_
  refine k_reg 4 (by kernel_rfl) ?_
  refine r_run 0 2 [23,24] [] hS rfl (L':=[(23,.slice a0 p0.length c0),(24,.slice (some ⟨g3,0,none⟩) p2.length c2)]) (As':=[rowF (rawF 2) 45 a0 c0 p0,rowF (rawF 2) 45 (some ⟨g3,0,none⟩) c2 p2]) (ob:=[]) (by kernel_rfl) trivial λa w hS=> ?_
  refine r_append 2 rfl (d:=25) (t:=40) (A:=a0) (c:=c0) (k:=p0.length) (b:=some ⟨g3,0,none⟩) (c2:=c2) (m:=p2.length) (p2.flatMap ((rawF 2)).enc) 0 [0] hS (appChk_sound (by kernel_rfl)) (by kernel_rfl) rfl rfl (λF up le=>appB (F:=(rawF 2)) (le 0 rfl _ λw h=>rowRS h)) hroom λa5 c5 a w hS=> ?_
  replace hS:=rowF_app (F:=(rawF 2)) (l:=p0) (m:=p2) hS hr'
  refine r_run 3 1 [6] [] hS rfl (L':=[(6,.slice a5 r.length c5)]) (As':=[rowF (rawF 2) 45 a5 c5 r,rowF (rawF 2) 45 (some ⟨g3,0,none⟩) c2 p2]) (ob:=[]) (by kernel_rfl) trivial λa w hS=> ?_
  refine wl_end ?_
  refine hK6 _ _ ?_
  refine k_ret (by kernel_rfl) ?_
  try simp only[Exit.then,Exit.inBlock]
  refine r_ret hS [.tmp 6] [] (xs:=[.slice a5 r.length c5]) (ps:=[]) [0] [] rfl (by kernel_rfl) (λhA=>trivial) rfl (λF up=>trivial) ?_
  exact⟨a5,c5,rfl,rfl,rfl⟩
 have hin:i<p0.length:=by
  rcases Nat.lt_or_ge i p0.length with h0|h0
  ·exact h0
  ·have:i=p0.length:=by omega
   rw[this] at hq2;simp at hq2
 obtain⟨g,rfl⟩:=row_block (hS.st.own (rowF (rawF 2) 45 a0 c0 p0) (by simp)) (by omega)
 have hw:IntKind.wrap .i64 ((p0.length:Int)+(p2.length:Int))=((p0.length+p2.length:Nat):Int):=by rw[IntKind.wrap_i64];omega
 have hw2:IntKind.wrap .i64 ((i:Int)+(p2.length:Int))=((i+p2.length:Nat):Int):=by rw[IntKind.wrap_i64];omega
 have hsz:0<((rawF 2)).sz:=by decide
 have hX:(p0.take i).flatMap ((rawF 2)).enc=(p0.flatMap ((rawF 2)).enc).take (i*((rawF 2)).sz):=flat_take p0 i
 have hY:(p0.drop i).flatMap ((rawF 2)).enc=(p0.flatMap ((rawF 2)).enc).drop (i*((rawF 2)).sz):=flat_drop p0 i
 have lX:((p0.take i).flatMap ((rawF 2)).enc).length=i*((rawF 2)).sz:=by rw[flat_len,List.length_take,Nat.min_eq_left hil]
 have lY:((p0.drop i).flatMap ((rawF 2)).enc).length=(p0.length-i)*((rawF 2)).sz:=by rw[flat_len,List.length_drop]
 have lV:(p2.flatMap ((rawF 2)).enc).length=p2.length*((rawF 2)).sz:=flat_len p2
 have hXY:(p0.take i).flatMap ((rawF 2)).enc++(p0.drop i).flatMap ((rawF 2)).enc=p0.flatMap ((rawF 2)).enc:=by rw[←List.flatMap_append,List.take_append_drop]
 have hre:r.flatMap ((rawF 2)).enc=(p0.take i).flatMap ((rawF 2)).enc++p2.flatMap ((rawF 2)).enc++(p0.drop i).flatMap ((rawF 2)).enc:=by rw[←hr,List.flatMap_append,List.flatMap_append]
 have hV1:∀v∈p2.flatMap ((rawF 2)).enc,v.oneCell'=true:=flat_one p2
 have hY1:∀v∈(p0.drop i).flatMap ((rawF 2)).enc,v.oneCell'=true:=flat_one _
 refine k_skip (by kernel_rfl) ?_
 refine hK8 _ _ ?_
 refine k_seq (by kernel_rfl) λK10 hK10=> ?_
 refine k_seq (by kernel_rfl) λK11 hK11=> ?_
 refine k_reg 6 (by kernel_rfl) ?_
 refine r_run 0 6 [0,1,2,7,8,31] [.as 28 (.int .i64 ((p0.length+p2.length:Nat):Int))] hS rfl (L':=[(0,.slice (some ⟨g,0,none⟩) p0.length c0),(1,.int .i64 i),(2,.slice (some ⟨g3,0,none⟩) p2.length c2),(7,.int .i64 (p2.length:Int)),(8,.int .i64 (p0.length:Int)),(31,.bool (decide (((p0.length+p2.length:Nat):Int)>(c0:Int))))]) (As':=[rowF (rawF 2) 45 (some ⟨g,0,none⟩) c0 p0,rowF (rawF 2) 45 (some ⟨g3,0,none⟩) c2 p2]) (ob:=[λ_=>Value.int .i64 (IntKind.wrap .i64 ((p0.length:Int)+(p2.length:Int)))= .int .i64 ((p0.length+p2.length:Nat):Int)]) (by kernel_rfl) ⟨Bx.c (by rw[hw]),trivial⟩ λa w hS=> ?_
 refine wl_end ?_
 refine hK11 _ _ ?_
 refine k_cond (decide (((p0.length+p2.length:Nat):Int)>(c0:Int))) hS.has (by kernel_rfl) (by kernel_rfl) (by kernel_rfl) (λhq3=> ?_) (λhq3=> ?_)
 ·have hgt:c0<p0.length+p2.length:=by have:=of_decide_eq_true hq3;omega
  have hk:p0.length+p2.length-i+i=p0.length+p2.length:=by omega
  have hw3:IntKind.wrap .i64 (((p0.length+p2.length:Nat):Int)-(i:Int))=((p0.length+p2.length-i:Nat):Int):=by rw[IntKind.wrap_i64];omega
  refine k_seq (by kernel_rfl) λK12 hK12=> ?_
  refine k_reg 10 (by kernel_rfl) ?_
  refine r_run 0 8 [0,1,2,7,8,34,39] [.as 34 (.slice (some ⟨g,0,none⟩) i c0),.as 37 (.int .i64 ((p0.length+p2.length:Nat):Int)),.as 39 (.int .i64 ((p0.length+p2.length-i:Nat):Int))] hS rfl (L':=[(0,.slice (some ⟨g,0,none⟩) p0.length c0),(1,.int .i64 i),(2,.slice (some ⟨g3,0,none⟩) p2.length c2),(7,.int .i64 (p2.length:Int)),(8,.int .i64 (p0.length:Int)),(34,.slice (some ⟨g,0,none⟩) i c0),(39,.int .i64 ((p0.length+p2.length-i:Nat):Int))]) (As':=[rowF (rawF 2) 45 (some ⟨g,0,none⟩) c0 p0,rowF (rawF 2) 45 (some ⟨g3,0,none⟩) c2 p2]) (ob:=[λ_=>(0:Int)≤0∧(0:Int)≤(i:Int)∧(i:Int)≤(c0:Int),λ_=>Value.slice (slA (some ⟨g,0,none⟩) 0 c0 ((rawF 2)).sz) i c0= .slice (some ⟨g,0,none⟩) i c0,λ_=>Value.int .i64 (IntKind.wrap .i64 ((p0.length:Int)+(p2.length:Int)))= .int .i64 ((p0.length+p2.length:Nat):Int),λ_=>Value.int .i64 (IntKind.wrap .i64 (((p0.length+p2.length:Nat):Int)-(i:Int)))= .int .i64 ((p0.length+p2.length-i:Nat):Int)]) (by kernel_rfl) ⟨Bx.c ⟨by omega,by omega,by omega⟩,Bx.c (by rw[slA_zero]),Bx.c (by rw[hw]),Bx.c (by rw[hw3]),trivial⟩ λa w hS=> ?_
  obtain⟨w',g2,c5,hrun,hc5,⟨T,hT,hrow⟩,hext,hg2,hg2'⟩:=run_zeros_row (P:=Tryz.prog) (sz:=((rawF 2)).sz) (t:=40) (tn:=3) (ty:=40) (i:=i) (k:=p0.length+p2.length-i) (bytes:=16) (inf:=Tryz.t45) (z:=(Tryz.t45.zero).getD undef) (kq:= .i64) (kn:= .i64) (by kernel_rfl) (by kernel_rfl) (by kernel_rfl) (by kernel_rfl) rfl (by kernel_rfl) (by kernel_rfl) hsz (by decide) (hS.st.own (rowF (rawF 2) 45 (some ⟨g,0,none⟩) c0 p0) (by simp)) hil (by omega) (by omega) (by rw[show i+(p0.length+p2.length-i)=p0.length+p2.length from by omega];exact hroom)
  have hik:i+(p0.length+p2.length-i)=p0.length+p2.length:=by omega
  rw[hik] at hrun hc5 hT
  refine r_bltN 8 rfl (d:=some 40) (b:= .append) (ts:= #[40,3]) (ty:=40) (vs:= #[.slice (some ⟨g,0,none⟩) i c0,.int .i64 ((p0.length+p2.length-i:Nat):Int)]) hS (by kernel_rfl) _ hrun hrow hext (λx hx=>by simp[Asn.fp] at hx;subst hx;exact⟨hg2,hg2'⟩) (by simp[Asn.fp]) λa hS=> ?_
  rw[←hX] at hS
  generalize hZ:(Builtin.zeroCells ((Tryz.t45.zero).getD undef).cells (p0.length+p2.length-i)).toList=Z at hS
  have lZ:Z.length=(p2.flatMap ((rawF 2)).enc).length+((p0.drop i).flatMap ((rawF 2)).enc).length:=by
   rw[←hZ,zeros_len,lV,lY,←Nat.add_mul,show((Tryz.t45.zero).getD undef).cells.size=((rawF 2)).sz from by kernel_rfl]
   congr 1;omega
  refine r_run 9 1 [0,1,2,7,9] [] hS rfl (L':=[(0,.slice (some ⟨g,0,none⟩) p0.length c0),(1,.int .i64 i),(2,.slice (some ⟨g3,0,none⟩) p2.length c2),(7,.int .i64 (p2.length:Int)),(9,.slice (some ⟨g2,0,none⟩) (p0.length+p2.length) c5)]) (As':=[.row (some ⟨g2,0,none⟩) c5 45 ((rawF 2)).sz c5 ((p0.take i).flatMap ((rawF 2)).enc++Z++T),rowF (rawF 2) 45 (some ⟨g,0,none⟩) c0 p0,rowF (rawF 2) 45 (some ⟨g3,0,none⟩) c2 p2]) (ob:=[]) (by kernel_rfl) trivial λa w hS=> ?_
  refine wl_end ?_
  refine hK12 _ _ ?_
  refine k_seq (by kernel_rfl) λK13 hK13=> ?_
  refine k_reg 5 (by kernel_rfl) ?_
  have hs1:slA (some (⟨g2,0,none⟩:Addr)) i c5 ((rawF 2)).sz=some ⟨g2,i*((rawF 2)).sz,none⟩:=by
   unfold slA;rw[if_neg (by omega)];simp only[Option.map_some,addr_add0]
  refine r_run 0 4 [0,1,7,9,43,44] [.as 43 (.slice (some ⟨g2,i*((rawF 2)).sz,none⟩) (p0.length+p2.length-i) (c5-i))] hS rfl (L':=[(0,.slice (some ⟨g,0,none⟩) p0.length c0),(1,.int .i64 i),(7,.int .i64 (p2.length:Int)),(9,.slice (some ⟨g2,0,none⟩) (p0.length+p2.length) c5),(43,.slice (some ⟨g2,i*((rawF 2)).sz,none⟩) (p0.length+p2.length-i) (c5-i)),(44,.slice (some ⟨g3,0,none⟩) p2.length c2)]) (As':=[.row (some ⟨g2,0,none⟩) c5 45 ((rawF 2)).sz c5 ((p0.take i).flatMap ((rawF 2)).enc++Z++T),rowF (rawF 2) 45 (some ⟨g,0,none⟩) c0 p0,rowF (rawF 2) 45 (some ⟨g3,0,none⟩) c2 p2]) (ob:=[λ_=>0≤(i:Int)∧(i:Int)≤((p0.length+p2.length:Nat):Int)∧((p0.length+p2.length:Nat):Int)≤(c5:Int),λ_=>Value.slice (slA (some ⟨g2,0,none⟩) i c5 ((rawF 2)).sz) (p0.length+p2.length-i) (c5-i)= .slice (some ⟨g2,i*((rawF 2)).sz,none⟩) (p0.length+p2.length-i) (c5-i)]) (by kernel_rfl) ⟨Bx.c ⟨by omega,by omega,by omega⟩,Bx.c (by rw[hs1]),trivial⟩ λa w hS=> ?_
  have hsrc:=row_cellsAt (hS.st.own (rowF (rawF 2) 45 (some ⟨g3,0,none⟩) c2 p2) (by simp)) 0 (p2.flatMap ((rawF 2)).enc).length
  rw[List.drop_zero,List.take_length] at hsrc
  have hfit1:i*((rawF 2)).sz+(p2.flatMap ((rawF 2)).enc).length≤c5*((rawF 2)).sz:=by rw[lV,←Nat.add_mul];exact Nat.mul_le_mul_right _ (by omega)
  have hmin1:Nat.min p2.length (p0.length+p2.length-i)=p2.length:=Nat.min_eq_left (by omega)
  refine r_bltS 4 rfl 0 (.row (some ⟨g2,0,none⟩) c5 45 ((rawF 2)).sz c5 (spl ((p0.take i).flatMap ((rawF 2)).enc++Z++T) (i*((rawF 2)).sz) (p2.flatMap ((rawF 2)).enc))) (d:=some 45) (b:= .copy) (ts:= #[40,40]) (ty:=3) (vs:= #[.slice (some ⟨g2,i*((rawF 2)).sz,none⟩) (p0.length+p2.length-i) (c5-i),.slice (some ⟨g3,0,none⟩) p2.length c2]) hS (by kernel_rfl) rfl (λhA=>run_copyR (dT:=40) (sT:=40) (ty:=3) (inf:=Tryz.t45) (by kernel_rfl) (by kernel_rfl) rfl hA (by rw[hmin1,lV]) hsrc hfit1 hV1) rfl (by simp[Asn.fp]) λa w hS=> ?_
  refine wl_end ?_
  refine hK13 _ _ ?_
  refine k_seq (by kernel_rfl) λK14 hK14=> ?_
  have hs2:slA (some (⟨g2,0,none⟩:Addr)) (i+p2.length) c5 ((rawF 2)).sz=some ⟨g2,(i+p2.length)*((rawF 2)).sz,none⟩:=by
   unfold slA;rw[if_neg (by omega)];simp only[Option.map_some,addr_add0]
  have hs3:slA (some (⟨g,0,none⟩:Addr)) i c0 ((rawF 2)).sz=some ⟨g,i*((rawF 2)).sz,none⟩:=by
   unfold slA;rw[if_neg (by omega)];simp only[Option.map_some,addr_add0]
  refine k_draw 8 9 [.val (.slice (some ⟨g2,0,none⟩) (p0.length+p2.length) c5),.val (.int .i64 i),.val (.int .i64 (p2.length:Int)),.val (.int .i64 ((i+p2.length:Nat):Int)),.val (.slice (some ⟨g2,(i+p2.length)*((rawF 2)).sz,none⟩) (p0.length+p2.length-(i+p2.length)) (c5-(i+p2.length))),.val (.slice (some ⟨g,0,none⟩) p0.length c0),.val (.int .i64 i),.val (.slice (some ⟨g,i*((rawF 2)).sz,none⟩) (p0.length-i) (c0-i))] [] [(0,[]),(1,[]),(2,[]),(3,[.as 49 (.int .i64 ((i+p2.length:Nat):Int))]),(4,[.as 50 (.slice (some ⟨g2,(i+p2.length)*((rawF 2)).sz,none⟩) (p0.length+p2.length-(i+p2.length)) (c5-(i+p2.length)))]),(5,[]),(6,[]),(7,[.as 53 (.slice (some ⟨g,i*((rawF 2)).sz,none⟩) (p0.length-i) (c0-i))])] [] (ob:=[λ_=>Value.int .i64 (IntKind.wrap .i64 ((i:Int)+(p2.length:Int)))= .int .i64 ((i+p2.length:Nat):Int),λ_=>0≤((i+p2.length:Nat):Int)∧((i+p2.length:Nat):Int)≤((p0.length+p2.length:Nat):Int)∧((p0.length+p2.length:Nat):Int)≤(c5:Int),λ_=>Value.slice (slA (some ⟨g2,0,none⟩) (i+p2.length) c5 ((rawF 2)).sz) (p0.length+p2.length-(i+p2.length)) (c5-(i+p2.length))= .slice (some ⟨g2,(i+p2.length)*((rawF 2)).sz,none⟩) (p0.length+p2.length-(i+p2.length)) (c5-(i+p2.length)),λ_=>0≤(i:Int)∧(i:Int)≤(p0.length:Int)∧(p0.length:Int)≤(c0:Int),λ_=>Value.slice (slA (some ⟨g,0,none⟩) i c0 ((rawF 2)).sz) (p0.length-i) (c0-i)= .slice (some ⟨g,i*((rawF 2)).sz,none⟩) (p0.length-i) (c0-i)]) (by kernel_rfl) (by kernel_rfl) hS (by kernel_rfl) (λF N0=>by kernel_rfl) (by kernel_rfl) (by kernel_rfl) (by kernel_rfl) (by kernel_rfl) ⟨Bx.c (by rw[hw2]),Bx.c ⟨by omega,by omega,by omega⟩,Bx.c (by rw[hs2]),Bx.c ⟨by omega,by omega,by omega⟩,Bx.c (by rw[hs3]),trivial⟩ ?_ ?_
  ·exact trivial
  intro V a w e hS hq
  have hsrc:=row_cellsAt (hS.st.own (rowF (rawF 2) 45 (some ⟨g,0,none⟩) c0 p0) (by simp[List.set])) (i*((rawF 2)).sz) ((p0.drop i).flatMap ((rawF 2)).enc).length
  rw[←hY,List.take_length] at hsrc
  have hmin2:Nat.min (p0.length-i) (p0.length+p2.length-(i+p2.length))=p0.length-i:=Nat.min_eq_left (by omega)
  have hfit2:(i+p2.length)*((rawF 2)).sz+((p0.drop i).flatMap ((rawF 2)).enc).length≤c5*((rawF 2)).sz:=by rw[lY,←Nat.add_mul];exact Nat.mul_le_mul_right _ (by omega)
  refine r_bltS 8 rfl 0 (.row (some ⟨g2,0,none⟩) c5 45 ((rawF 2)).sz c5 (spl (spl ((p0.take i).flatMap ((rawF 2)).enc++Z++T) (i*((rawF 2)).sz) (p2.flatMap ((rawF 2)).enc)) ((i+p2.length)*((rawF 2)).sz) ((p0.drop i).flatMap ((rawF 2)).enc))) (d:=some 54) (b:= .copy) (ts:= #[40,40]) (ty:=3) (vs:= #[.slice (some ⟨g2,(i+p2.length)*((rawF 2)).sz,none⟩) (p0.length+p2.length-(i+p2.length)) (c5-(i+p2.length)),.slice (some ⟨g,i*((rawF 2)).sz,none⟩) (p0.length-i) (c0-i)]) hS (by kernel_rfl) rfl (λhA=>run_copyR (dT:=40) (sT:=40) (ty:=3) (inf:=Tryz.t45) (by kernel_rfl) (by kernel_rfl) rfl hA (by rw[hmin2,lY]) hsrc hfit2 hY1) rfl (by simp[Asn.fp]) λa w hS=> ?_
  have hfin:(spl (spl ((p0.take i).flatMap ((rawF 2)).enc++Z++T) (i*((rawF 2)).sz) (p2.flatMap ((rawF 2)).enc)) ((i+p2.length)*((rawF 2)).sz) ((p0.drop i).flatMap ((rawF 2)).enc)).take ((p0.length+p2.length)*((rawF 2)).sz)=r.flatMap ((rawF 2)).enc:=by
   have:=cells_new ((p0.take i).flatMap ((rawF 2)).enc) ((p0.drop i).flatMap ((rawF 2)).enc) (p2.flatMap ((rawF 2)).enc) Z T lZ
   rw[lX,lV,←Nat.add_mul] at this
   rw[this,hre,List.take_left' (by rw[List.length_append,List.length_append,lX,lV,lY,←Nat.add_mul,←Nat.add_mul];congr 1;omega)]
  replace hS:=hS.same (B:=rowF (rawF 2) 45 (some ⟨g2,0,none⟩) c5 r) 0 rfl (λhA=>row_app_form hA hrl hc5 hfin) rfl (by simp[Asn.fp])
  refine wl_end ?_
  refine hK14 _ _ ?_
  refine k_seq (by kernel_rfl) λK15 hK15=> ?_
  refine k_reg 2 (by kernel_rfl) ?_
  refine r_run 0 2 [6] [] hS rfl (L':=[(6,.slice (some ⟨g2,0,none⟩) (p0.length+p2.length) c5)]) (As':=[rowF (rawF 2) 45 (some ⟨g2,0,none⟩) c5 r,rowF (rawF 2) 45 (some ⟨g,0,none⟩) c0 p0,rowF (rawF 2) 45 (some ⟨g3,0,none⟩) c2 p2]) (ob:=[]) (by kernel_rfl) trivial λa w hS=> ?_
  refine wl_end ?_
  refine hK15 _ _ ?_
  refine k_ret (by kernel_rfl) ?_
  try simp only[Exit.then,Exit.inBlock]
  refine r_ret hS [.tmp 6] [] (xs:=[.slice (some ⟨g2,0,none⟩) (p0.length+p2.length) c5]) (ps:=[]) [0] [] rfl (by kernel_rfl) (λhA=>trivial) rfl (λF up=>trivial) ?_
  exact⟨some ⟨g2,0,none⟩,c5,by rw[hrl];rfl,rfl,rfl⟩
 have hle:p0.length+p2.length≤c0:=by have:=of_decide_eq_false hq3;omega
 refine k_skip (by kernel_rfl) ?_
 refine hK10 _ _ ?_
 refine k_seq (by kernel_rfl) λK12 hK12=> ?_
 refine k_reg 6 (by kernel_rfl) ?_
 refine r_run 0 6 [0,1,2,7] [.as 59 (.int .i64 ((p0.length+p2.length:Nat):Int)),.as 60 (.slice (some ⟨g,0,none⟩) (p0.length+p2.length) c0)] hS rfl (L':=[(0,.slice (some ⟨g,0,none⟩) (p0.length+p2.length) c0),(1,.int .i64 i),(2,.slice (some ⟨g3,0,none⟩) p2.length c2),(7,.int .i64 (p2.length:Int))]) (As':=[rowF (rawF 2) 45 (some ⟨g,0,none⟩) c0 p0,rowF (rawF 2) 45 (some ⟨g3,0,none⟩) c2 p2]) (ob:=[λ_=>Value.int .i64 (IntKind.wrap .i64 ((p0.length:Int)+(p2.length:Int)))= .int .i64 ((p0.length+p2.length:Nat):Int),λ_=>(0:Int)≤0∧(0:Int)≤((p0.length+p2.length:Nat):Int)∧((p0.length+p2.length:Nat):Int)≤(c0:Int),λ_=>Value.slice (slA (some ⟨g,0,none⟩) 0 c0 ((rawF 2)).sz) (p0.length+p2.length) c0= .slice (some ⟨g,0,none⟩) (p0.length+p2.length) c0]) (by kernel_rfl) ⟨Bx.c (by rw[hw]),Bx.c ⟨by omega,by omega,by omega⟩,Bx.c (by rw[slA_zero]),trivial⟩ λa w hS=> ?_
 obtain⟨ds,hd1,hd2,hd3,hd4⟩:=row_full (hS.st.own (rowF (rawF 2) 45 (some ⟨g,0,none⟩) c0 p0) (by simp))
 replace hS:=hS.same (B:= .row (some ⟨g,0,none⟩) c0 45 ((rawF 2)).sz c0 ds) 0 rfl (λ_=>hd4) rfl (by simp[Asn.fp])
 refine wl_end ?_
 refine hK12 _ _ ?_
 refine k_seq (by kernel_rfl) λK13 hK13=> ?_
 refine k_seq (by kernel_rfl) λK14 hK14=> ?_
 refine k_reg 8 (by kernel_rfl) ?_
 have hs2:slA (some (⟨g,0,none⟩:Addr)) (i+p2.length) c0 ((rawF 2)).sz=some ⟨g,(i+p2.length)*((rawF 2)).sz,none⟩:=by
  unfold slA;rw[if_neg (by omega)];simp only[Option.map_some,addr_add0]
 have hs3:slA (some (⟨g,0,none⟩:Addr)) i c0 ((rawF 2)).sz=some ⟨g,i*((rawF 2)).sz,none⟩:=by
  unfold slA;rw[if_neg (by omega)];simp only[Option.map_some,addr_add0]
 refine r_run 0 6 [0,1,2,7,61,66] [.as 65 (.int .i64 ((i+p2.length:Nat):Int)),.as 66 (.slice (some ⟨g,(i+p2.length)*((rawF 2)).sz,none⟩) (p0.length+p2.length-(i+p2.length)) (c0-(i+p2.length)))] hS rfl (L':=[(0,.slice (some ⟨g,0,none⟩) (p0.length+p2.length) c0),(1,.int .i64 i),(2,.slice (some ⟨g3,0,none⟩) p2.length c2),(7,.int .i64 (p2.length:Int)),(61,.slice (some ⟨g3,0,none⟩) p2.length c2),(66,.slice (some ⟨g,(i+p2.length)*((rawF 2)).sz,none⟩) (p0.length+p2.length-(i+p2.length)) (c0-(i+p2.length)))]) (As':=[.row (some ⟨g,0,none⟩) c0 45 ((rawF 2)).sz c0 ds,rowF (rawF 2) 45 (some ⟨g3,0,none⟩) c2 p2]) (ob:=[λ_=>Value.int .i64 (IntKind.wrap .i64 ((i:Int)+(p2.length:Int)))= .int .i64 ((i+p2.length:Nat):Int),λ_=>0≤((i+p2.length:Nat):Int)∧((i+p2.length:Nat):Int)≤((p0.length+p2.length:Nat):Int)∧((p0.length+p2.length:Nat):Int)≤(c0:Int),λ_=>Value.slice (slA (some ⟨g,0,none⟩) (i+p2.length) c0 ((rawF 2)).sz) (p0.length+p2.length-(i+p2.length)) (c0-(i+p2.length))= .slice (some ⟨g,(i+p2.length)*((rawF 2)).sz,none⟩) (p0.length+p2.length-(i+p2.length)) (c0-(i+p2.length))]) (by kernel_rfl) ⟨Bx.c (by rw[hw2]),Bx.c ⟨by omega,by omega,by omega⟩,Bx.c (by rw[hs2]),trivial⟩ λa w hS=> ?_
 have hne:g3≠g:=by
  have:=(List.nodup_append.1 hS.st.nd).2.1
  simp[fps,Asn.fp] at this
  exact λe=>this e.symm
 have hA0:=row_shape (hS.st.own (.row (some ⟨g,0,none⟩) c0 45 ((rawF 2)).sz c0 ds) (by simp))
 have hA1:=row_shape (hS.st.own (rowF (rawF 2) 45 (some ⟨g3,0,none⟩) c2 p2) (by simp))
 have hcsz:c0*((rawF 2)).sz≠0:=Nat.mul_ne_zero (by omega) (by omega)
 have hov:(callFunc 106 #[.slice (some ⟨g3,0,none⟩) p2.length c2,.slice (some ⟨g,(i+p2.length)*((rawF 2)).sz,none⟩) (p0.length+p2.length-(i+p2.length)) (c0-(i+p2.length))]).run Tryz.prog w= .ok (.value (.bool false)) w:=by
  rw[run_callFunc_extern Tryz.func106 (by kernel_rfl) (by kernel_rfl) (by kernel_rfl) (e:=Extern.SlicesOverlaps.overlaps #[40,40] #[4]) (by kernel_rfl),
   Lib.run_overlaps_apart w 40 4 45 (by kernel_rfl) ((rawF 2)).sz (λw=>by simp[sizeOf,run_info (show Tryz.prog.info? 45=some Tryz.t45 from by kernel_rfl)];kernel_rfl) ⟨g3,0,none⟩ ⟨g,(i+p2.length)*((rawF 2)).sz,none⟩ p2.length c2 _ _ hne _ _ _ _ hA1.1 hA0.1 hcsz (hA1.2 _) (hA1.2 _)]
  rfl
 refine r_ext 6 rfl (d:=some 67) (g:=106) (args:= #[.slice (some ⟨g3,0,none⟩) p2.length c2,.slice (some ⟨g,(i+p2.length)*((rawF 2)).sz,none⟩) (p0.length+p2.length-(i+p2.length)) (c0-(i+p2.length))]) hS (by kernel_rfl) hov λa hS=> ?_
 refine r_run 7 1 [0,1,2,7,68] [] hS rfl (L':=[(0,.slice (some ⟨g,0,none⟩) (p0.length+p2.length) c0),(1,.int .i64 i),(2,.slice (some ⟨g3,0,none⟩) p2.length c2),(7,.int .i64 (p2.length:Int)),(68,.bool true)]) (As':=[.row (some ⟨g,0,none⟩) c0 45 ((rawF 2)).sz c0 ds,rowF (rawF 2) 45 (some ⟨g3,0,none⟩) c2 p2]) (ob:=[]) (by kernel_rfl) trivial λa w hS=> ?_
 refine wl_end ?_
 refine hK14 _ _ ?_
 refine k_cond true hS.has (by kernel_rfl) (by kernel_rfl) (by kernel_rfl) (λ_=> ?_) (λhx=>by cases hx)
 refine k_seq (by kernel_rfl) λK15 hK15=> ?_
 obtain⟨Z,hZ⟩:∃Z,ds=(p0.take i).flatMap ((rawF 2)).enc++(p0.drop i).flatMap ((rawF 2)).enc++Z:=⟨ds.drop (p0.length*((rawF 2)).sz),by rw[hXY];conv=>lhs;rw[←List.take_append_drop (p0.length*((rawF 2)).sz) ds,hd1]⟩
 have lds:ds.length=c0*((rawF 2)).sz:=hd2
 have lZ:(p2.flatMap ((rawF 2)).enc).length≤((p0.drop i).flatMap ((rawF 2)).enc).length+Z.length:=by
  have h1:=lds
  rw[hZ,List.length_append,List.length_append,lX,lY] at h1
  rw[lV,lY]
  have h2:=Nat.mul_le_mul_right ((rawF 2)).sz hle
  rw[Nat.add_mul] at h2
  have h3:i*((rawF 2)).sz+(p0.length-i)*((rawF 2)).sz=p0.length*((rawF 2)).sz:=by rw[←Nat.add_mul];congr 1;omega
  omega
 refine k_draw 8 9 [.val (.slice (some ⟨g,0,none⟩) (p0.length+p2.length) c0),.val (.int .i64 i),.val (.int .i64 (p2.length:Int)),.val (.int .i64 ((i+p2.length:Nat):Int)),.val (.slice (some ⟨g,(i+p2.length)*((rawF 2)).sz,none⟩) (p0.length+p2.length-(i+p2.length)) (c0-(i+p2.length))),.val (.slice (some ⟨g,0,none⟩) (p0.length+p2.length) c0),.val (.int .i64 i),.val (.slice (some ⟨g,i*((rawF 2)).sz,none⟩) (p0.length+p2.length-i) (c0-i))] [] [(0,[]),(1,[]),(2,[]),(3,[.as 72 (.int .i64 ((i+p2.length:Nat):Int))]),(4,[.as 73 (.slice (some ⟨g,(i+p2.length)*((rawF 2)).sz,none⟩) (p0.length+p2.length-(i+p2.length)) (c0-(i+p2.length)))]),(5,[]),(6,[]),(7,[.as 76 (.slice (some ⟨g,i*((rawF 2)).sz,none⟩) (p0.length+p2.length-i) (c0-i))])] [] (ob:=[λ_=>Value.int .i64 (IntKind.wrap .i64 ((i:Int)+(p2.length:Int)))= .int .i64 ((i+p2.length:Nat):Int),λ_=>0≤((i+p2.length:Nat):Int)∧((i+p2.length:Nat):Int)≤((p0.length+p2.length:Nat):Int)∧((p0.length+p2.length:Nat):Int)≤(c0:Int),λ_=>Value.slice (slA (some ⟨g,0,none⟩) (i+p2.length) c0 ((rawF 2)).sz) (p0.length+p2.length-(i+p2.length)) (c0-(i+p2.length))= .slice (some ⟨g,(i+p2.length)*((rawF 2)).sz,none⟩) (p0.length+p2.length-(i+p2.length)) (c0-(i+p2.length)),λ_=>0≤(i:Int)∧(i:Int)≤((p0.length+p2.length:Nat):Int)∧((p0.length+p2.length:Nat):Int)≤(c0:Int),λ_=>Value.slice (slA (some ⟨g,0,none⟩) i c0 ((rawF 2)).sz) (p0.length+p2.length-i) (c0-i)= .slice (some ⟨g,i*((rawF 2)).sz,none⟩) (p0.length+p2.length-i) (c0-i)]) (by kernel_rfl) (by kernel_rfl) hS (by kernel_rfl) (λF N0=>by kernel_rfl) (by kernel_rfl) (by kernel_rfl) (by kernel_rfl) (by kernel_rfl) ⟨Bx.c (by rw[hw2]),Bx.c ⟨by omega,by omega,by omega⟩,Bx.c (by rw[hs2]),Bx.c ⟨by omega,by omega,by omega⟩,Bx.c (by rw[hs3]),trivial⟩ ?_ ?_
 ·exact trivial
 intro V a w e hS hq
 have hsrc:=row_cellsAt (hS.st.own (.row (some ⟨g,0,none⟩) c0 45 ((rawF 2)).sz c0 ds) (by simp)) (i*((rawF 2)).sz) ((p0.drop i).flatMap ((rawF 2)).enc).length
 have hdsd:(ds.drop (i*((rawF 2)).sz)).take ((p0.drop i).flatMap ((rawF 2)).enc).length=(p0.drop i).flatMap ((rawF 2)).enc:=by
  rw[hZ,List.append_assoc,←lX,List.drop_left,List.take_left]
 rw[hdsd] at hsrc
 have hmin2:Nat.min (p0.length+p2.length-i) (p0.length+p2.length-(i+p2.length))=p0.length-i:=by
  rw[show p0.length+p2.length-(i+p2.length)=p0.length-i from by omega];exact Nat.min_eq_right (by omega)
 have hfit2:(i+p2.length)*((rawF 2)).sz+((p0.drop i).flatMap ((rawF 2)).enc).length≤c0*((rawF 2)).sz:=by rw[lY,←Nat.add_mul];exact Nat.mul_le_mul_right _ (by omega)
 refine r_bltS 8 rfl 0 (.row (some ⟨g,0,none⟩) c0 45 ((rawF 2)).sz c0 (spl ds ((i+p2.length)*((rawF 2)).sz) ((p0.drop i).flatMap ((rawF 2)).enc))) (d:=some 77) (b:= .copy) (ts:= #[40,40]) (ty:=3) (vs:= #[.slice (some ⟨g,(i+p2.length)*((rawF 2)).sz,none⟩) (p0.length+p2.length-(i+p2.length)) (c0-(i+p2.length)),.slice (some ⟨g,i*((rawF 2)).sz,none⟩) (p0.length+p2.length-i) (c0-i)]) hS (by kernel_rfl) rfl (λhA=>run_copyR (dT:=40) (sT:=40) (ty:=3) (inf:=Tryz.t45) (by kernel_rfl) (by kernel_rfl) rfl hA (by rw[hmin2,lY]) hsrc hfit2 hY1) rfl (by simp[Asn.fp]) λa w hS=> ?_
 refine wl_end ?_
 refine hK15 _ _ ?_
 refine k_seq (by kernel_rfl) λK16 hK16=> ?_
 refine k_reg 5 (by kernel_rfl) ?_
 refine r_run 0 4 [0,80,81] [.as 80 (.slice (some ⟨g,i*((rawF 2)).sz,none⟩) (p0.length+p2.length-i) (c0-i))] hS rfl (L':=[(0,.slice (some ⟨g,0,none⟩) (p0.length+p2.length) c0),(80,.slice (some ⟨g,i*((rawF 2)).sz,none⟩) (p0.length+p2.length-i) (c0-i)),(81,.slice (some ⟨g3,0,none⟩) p2.length c2)]) (As':=[.row (some ⟨g,0,none⟩) c0 45 ((rawF 2)).sz c0 (spl ds ((i+p2.length)*((rawF 2)).sz) ((p0.drop i).flatMap ((rawF 2)).enc)),rowF (rawF 2) 45 (some ⟨g3,0,none⟩) c2 p2]) (ob:=[λ_=>0≤(i:Int)∧(i:Int)≤((p0.length+p2.length:Nat):Int)∧((p0.length+p2.length:Nat):Int)≤(c0:Int),λ_=>Value.slice (slA (some ⟨g,0,none⟩) i c0 ((rawF 2)).sz) (p0.length+p2.length-i) (c0-i)= .slice (some ⟨g,i*((rawF 2)).sz,none⟩) (p0.length+p2.length-i) (c0-i)]) (by kernel_rfl) ⟨Bx.c ⟨by omega,by omega,by omega⟩,Bx.c (by rw[hs3]),trivial⟩ λa w hS=> ?_
 have hsrc:=row_cellsAt (hS.st.own (rowF (rawF 2) 45 (some ⟨g3,0,none⟩) c2 p2) (by simp)) 0 (p2.flatMap ((rawF 2)).enc).length
 rw[List.drop_zero,List.take_length] at hsrc
 have hfit1:i*((rawF 2)).sz+(p2.flatMap ((rawF 2)).enc).length≤c0*((rawF 2)).sz:=by rw[lV,←Nat.add_mul];exact Nat.mul_le_mul_right _ (by omega)
 have hmin1:Nat.min p2.length (p0.length+p2.length-i)=p2.length:=Nat.min_eq_left (by omega)
 refine r_bltS 4 rfl 0 (.row (some ⟨g,0,none⟩) c0 45 ((rawF 2)).sz c0 (spl (spl ds ((i+p2.length)*((rawF 2)).sz) ((p0.drop i).flatMap ((rawF 2)).enc)) (i*((rawF 2)).sz) (p2.flatMap ((rawF 2)).enc))) (d:=some 82) (b:= .copy) (ts:= #[40,40]) (ty:=3) (vs:= #[.slice (some ⟨g,i*((rawF 2)).sz,none⟩) (p0.length+p2.length-i) (c0-i),.slice (some ⟨g3,0,none⟩) p2.length c2]) hS (by kernel_rfl) rfl (λhA=>run_copyR (dT:=40) (sT:=40) (ty:=3) (inf:=Tryz.t45) (by kernel_rfl) (by kernel_rfl) rfl hA (by rw[hmin1,lV]) hsrc hfit1 hV1) rfl (by simp[Asn.fp]) λa w hS=> ?_
 have hfin:(spl (spl ds ((i+p2.length)*((rawF 2)).sz) ((p0.drop i).flatMap ((rawF 2)).enc)) (i*((rawF 2)).sz) (p2.flatMap ((rawF 2)).enc)).take ((p0.length+p2.length)*((rawF 2)).sz)=r.flatMap ((rawF 2)).enc:=by
  have:=cells_ins ((p0.take i).flatMap ((rawF 2)).enc) ((p0.drop i).flatMap ((rawF 2)).enc) (p2.flatMap ((rawF 2)).enc) Z lZ
  rw[lX,lV,←Nat.add_mul,←hZ] at this
  rw[this,hre,List.take_left' (by rw[List.length_append,List.length_append,lX,lV,lY,←Nat.add_mul,←Nat.add_mul];congr 1;omega)]
 replace hS:=hS.same (B:=rowF (rawF 2) 45 (some ⟨g,0,none⟩) c0 r) 0 rfl (λhA=>row_app_form hA hrl hle hfin) rfl (by simp[Asn.fp])
 refine wl_end ?_
 refine hK16 _ _ ?_
 refine k_seq (by kernel_rfl) λK17 hK17=> ?_
 refine k_reg 2 (by kernel_rfl) ?_
 refine r_run 0 2 [6] [] hS rfl (L':=[(6,.slice (some ⟨g,0,none⟩) (p0.length+p2.length) c0)]) (As':=[rowF (rawF 2) 45 (some ⟨g,0,none⟩) c0 r,rowF (rawF 2) 45 (some ⟨g3,0,none⟩) c2 p2]) (ob:=[]) (by kernel_rfl) trivial λa w hS=> ?_
 refine wl_end ?_
 refine hK17 _ _ ?_
 refine k_ret (by kernel_rfl) ?_
 try simp only[Exit.then,Exit.inBlock]
 refine r_ret hS [.tmp 6] [] (xs:=[.slice (some ⟨g,0,none⟩) (p0.length+p2.length) c0]) (ps:=[]) [0] [] rfl (by kernel_rfl) (λhA=>trivial) rfl (λF up=>trivial) ?_
 exact⟨some ⟨g,0,none⟩,c0,by rw[hrl];rfl,rfl,rfl⟩
def slices_Insert_Hold(n:Nat)(p1:Int)(q0 q1:List Hold):Option (List Hold):=insL 16 q0 p1 q1
@[reducible] def slices_Insert_Hold_ct:Ct tab:=⟨80,[.one (.own 0),.one (.d (.int .i64)),.one (.own 1)],[.row 45 (.st 1),.row 45 (.st 1)],[.one (.own 0)],[(none,.row 45 (.st 1))],List Hold,λy=>(y,()),λy=>y.1,λ_=>rfl,λn x=>slices_Insert_Hold n x.1 x.2.1 x.2.2.1⟩
theorem slices_Insert_Hold_ok:OkC Tryz.prog tab slices_Insert_Hold_ct:=ins_ok (t:= .st 1) (m:=2) (bytes:=16) tabOk rfl Tryz.call80 λp0 p1 p2 r h=>slices_Insert_Hold_raw p0 p1 p2 r h
def locks_holds_j1(n:Nat):Int×Int×Int×Bool×Int×(List Hold)×(List Wait)×Unit→Option (Int×Bool×Int×(List Hold)×(List Wait)):=fun⟨v3,v4,v5,v6,v7,v8,v9,_⟩=>
 (idx v8 v4).bind λx10=>
 (idx v8 v4).bind λx11=>
 (put v8 v4 (Hold.mk x11.txn v3)).bind λl12=>
 some (v5,v6,v7,l12,v9)
def locks_holds(n:Nat)(p1:Int)(p2:Int)(q0_0:Int)(q0_1:Bool)(q0_2:Int)(q1:List Hold)(q2:List Wait):Option (Int×Bool×Int×(List Hold)×(List Wait)):=
 (slices_BinarySearchFunc_int_f79 n q1 p1).bind λy1=>
 jn (locks_holds_j1 n) λj1=>
 cond (!y1.2)
 ((slices_Insert_Hold n y1.1 q1 ([(Hold.mk p1 0)]:List Hold)).bind λy13=>
 j1 (p2,y1.1,q0_0,q0_1,q0_2,y13,q2,()))
 (j1 (p2,y1.1,q0_0,q0_1,q0_2,q1,q2,()))
@[reducible] def locks_holds_ct:Ct tab:=⟨34,[.one (.box 0 0),.one (.d (.int .i64)),.one (.d (.int .i64))],[.box [.d (.int .i64),.d .bool,.d (.int .u16),.own 1,.own 2],.row 45 (.st 1),.row 47 (.st 2)],[],[(some 0,.box [.d (.int .i64),.d .bool,.d (.int .u16),.own 1,.own 2]),(none,.row 45 (.st 1)),(none,.row 47 (.st 2))],(Int×Bool×Int×(List Hold)×(List Wait)),λy=>(y.1,y.2.1,y.2.2.1,y.2.2.2.1,y.2.2.2.2,()),λy=>(y.1,y.2.1,y.2.2.1,y.2.2.2.1,y.2.2.2.2.1),λ_=>rfl,λn x=>locks_holds n x.1 x.2.1 x.2.2.1 x.2.2.2.1 x.2.2.2.2.1 x.2.2.2.2.2.1 x.2.2.2.2.2.2.1⟩
theorem locks_holds_ok:OkC Tryz.prog tab locks_holds_ct:=fn_ok (W:=⟨Tryz.prog,tab,tyOf,[slices_BinarySearchFunc_int_f79_ct,slices_Insert_Hold_ct],addO,dpO,false⟩) ⟨tabOk,⟨slices_BinarySearchFunc_int_f79_ok,slices_Insert_Hold_ok,trivial⟩,addOk⟩ (by kernel_rfl) 39 Tryz.f34 (.sq (.n) (.sq (.sq (.n) (.cd (some ⟨[(0,.one (.box 0 0)),(2,.one (.d (.int .i64))),(6,.one (.d (.int .i64)))],[.box [.d (.int .i64),.d .bool,.d (.int .u16),.own 1,.own 2],.row 45 (.st 1),.row 47 (.st 2)],[(0,0)]⟩) (.n) (.n))) (.n))) Tryz.func34 Tryz.call34 rfl (by kernel_rfl) (by kernel_rfl) (by kernel_rfl) λn x=>by kernel_rfl
def locks_conversion(n:Nat)(p0:Wait):Option Bool:=
 some (p0.held !=0)
@[reducible] def locks_conversion_ct:Ct tab:=⟨81,[.st 2],[],[.one (.d .bool)],[],Bool,λy=>(y,()),λy=>y.1,λ_=>rfl,λn x=>locks_conversion n x.1⟩
theorem locks_conversion_ok:OkC Tryz.prog tab locks_conversion_ct:=fn_ok (W:=⟨Tryz.prog,tab,tyOf,[],addO,dpO,false⟩) ⟨tabOk,trivial,addOk⟩ (by kernel_rfl) 6 Tryz.f81 (.n) Tryz.func81 Tryz.call81 rfl (by kernel_rfl) (by kernel_rfl) (by kernel_rfl) λn x=>by kernel_rfl
def locks_stands_1(n:Nat)(p0:Wait):Option Bool:=
 (locks_conversion n p0).bind λy1=>
 some (!y1)
@[reducible] def locks_stands_1_ct:Ct tab:=⟨82,[.st 2],[],[.one (.d .bool)],[],Bool,λy=>(y,()),λy=>y.1,λ_=>rfl,λn x=>locks_stands_1 n x.1⟩
theorem locks_stands_1_ok:OkC Tryz.prog tab locks_stands_1_ct:=fn_ok (W:=⟨Tryz.prog,tab,tyOf,[locks_conversion_ct],addO,dpO,false⟩) ⟨tabOk,⟨locks_conversion_ok,trivial⟩,addOk⟩ (by kernel_rfl) 6 Tryz.f82 (.n) Tryz.func82 Tryz.call82 rfl (by kernel_rfl) (by kernel_rfl) (by kernel_rfl) λn x=>by kernel_rfl
def slices_IndexFunc_Wait_f82_l1(n:Nat):Nat→(List Wait)×Int×Int×Unit→Option Int:=loopF λr1 ⟨v1,v2,v3,_⟩=>
 cond (decide (v3<v2))
 ((idx v1 v3).bind λx4=>
 (locks_stands_1 n x4).bind λy5=>
 cond y5
 (some v3)
 (r1 (v1,v2,(IntKind.wrap .i64 (v3+1)),())))
 (some (-1))
def slices_IndexFunc_Wait_f82(n:Nat)(p0:List Wait):Option Int:=
 slices_IndexFunc_Wait_f82_l1 n n (p0,(p0.length:Int),0,())
@[reducible] def slices_IndexFunc_Wait_f82_ct:Ct tab:=⟨63,[.one (.d (.sl (.st 2))),.one (.fn 82 [])],[],[.one (.d (.int .i64))],[],Int,λy=>(y,()),λy=>y.1,λ_=>rfl,λn x=>slices_IndexFunc_Wait_f82 n x.1⟩
theorem slices_IndexFunc_Wait_f82_ok:OkC Tryz.prog tab slices_IndexFunc_Wait_f82_ct:=fn_ok (W:=⟨Tryz.prog,tab,tyOf,[locks_stands_1_ct],addO,dpO,false⟩) ⟨tabOk,⟨locks_stands_1_ok,trivial⟩,addOk⟩ (by kernel_rfl) 19 Tryz.f63 (.sq (.n) (.sq (.sq (.n) (.bk none (.lp ⟨[(0,.one (.d (.sl (.st 2)))),(1,.one (.fn 82 [])),(7,.one (.d (.int .i64))),(8,.one (.d (.int .i64)))],[],[]⟩ (.n)))) (.n))) Tryz.func63 Tryz.call63 rfl (by kernel_rfl) (by kernel_rfl) (by kernel_rfl) λn x=>by kernel_rfl
theorem slices_Insert_Wait_raw{a0:Option Addr}{c0:Nat}{a2:Option Addr}{c2:Nat}(p0:List (Raw 3))(p1:Int)(p2:List (Raw 3))(r:List (Raw 3))(h:insL 24 p0 p1 p2=some r):
  Meets Tryz.prog 83 #[.slice a0 p0.length c0,.int .i64 p1,.slice a2 p2.length c2] [rowF (rawF 3) 47 a0 c0 p0,rowF (rawF 3) 47 a2 c2 p2] [] λv A P=>∃(a:Option Addr) (c:Nat),v= .slice a r.length c∧A=[rowF (rawF 3) 47 a c r]∧P=[]:=by
 unfold insL at h
 split at h
 case isFalse=>cases h
 rename_i hb
 obtain⟨hb0,hb1⟩:=hb
 obtain⟨i,hi⟩:∃i:Nat,p1=(i:Int):=⟨p1.toNat,by omega⟩
 subst hi
 simp only[Int.toNat_natCast] at h
 have hil:i≤p0.length:=by omega
 split at h
 case h_2=>cases h
 rename_i hroom
 have hr:=someI h
 have hrl:r.length=p0.length+p2.length:=by rw[←hr];simp;omega
 have hbytes:(p0.length+p2.length)*24≤140737488355328:=Nat.le_of_ble_eq_true hroom
 have hsm:p0.length+p2.length<9223372036854775808:=by omega
 refine meets_enter 95 Tryz.func83 Tryz.call83 rfl (by kernel_rfl) (by simp) λC a w hS=> ?_
 have hc:p0.length≤c0:=(row_len (hS.st.own _ (List.mem_cons_self ..))).2.1
 refine k_seq (by kernel_rfl) λK1 hK1=> ?_
 refine k_reg 1 (by kernel_rfl) ?_
 refine r_run 0 1 [0,1,2] [] hS rfl (L':=[(0,.slice a0 p0.length c0),(1,.int .i64 i),(2,.slice a2 p2.length c2)]) (As':=[rowF (rawF 3) 47 a0 c0 p0,rowF (rawF 3) 47 a2 c2 p2]) (ob:=[]) (by kernel_rfl) trivial λa w hS=> ?_
 refine wl_end ?_
 refine hK1 _ _ ?_
 refine k_seq (by kernel_rfl) λK2 hK2=> ?_
 refine k_reg 3 (by kernel_rfl) ?_
 refine r_run 0 3 [0,1,2] [] hS rfl (L':=[(0,.slice a0 p0.length c0),(1,.int .i64 i),(2,.slice a2 p2.length c2)]) (As':=[rowF (rawF 3) 47 a0 c0 p0,rowF (rawF 3) 47 a2 c2 p2]) (ob:=[λ_=>0≤(i:Int)∧(i:Int)≤(p0.length:Int)∧(p0.length:Int)≤(c0:Int)]) (by kernel_rfl) ⟨Bx.c ⟨hb0,hb1,by omega⟩,trivial⟩ λa w hS=> ?_
 refine wl_end ?_
 refine hK2 _ _ ?_
 refine k_seq (by kernel_rfl) λK3 hK3=> ?_
 refine k_reg 3 (by kernel_rfl) ?_
 refine r_run 0 3 [0,1,2,7] [] hS rfl (L':=[(0,.slice a0 p0.length c0),(1,.int .i64 i),(2,.slice a2 p2.length c2),(7,.int .i64 (p2.length:Int))]) (As':=[rowF (rawF 3) 47 a0 c0 p0,rowF (rawF 3) 47 a2 c2 p2]) (ob:=[]) (by kernel_rfl) trivial λa w hS=> ?_
 refine wl_end ?_
 refine hK3 _ _ ?_
 refine k_seq (by kernel_rfl) λK4 hK4=> ?_
 refine k_seq (by kernel_rfl) λK5 hK5=> ?_
 refine k_reg 2 (by kernel_rfl) ?_
 refine r_run 0 2 [0,1,2,7,16] [] hS rfl (L':=[(0,.slice a0 p0.length c0),(1,.int .i64 i),(2,.slice a2 p2.length c2),(7,.int .i64 (p2.length:Int)),(16,.bool ((p2.length:Int)==0))]) (As':=[rowF (rawF 3) 47 a0 c0 p0,rowF (rawF 3) 47 a2 c2 p2]) (ob:=[]) (by kernel_rfl) trivial λa w hS=> ?_
 refine wl_end ?_
 refine hK5 _ _ ?_
 refine k_cond ((p2.length:Int)==0) hS.has (by kernel_rfl) (by kernel_rfl) (by kernel_rfl) (λhq=> ?_) (λhq=> ?_)
 ·have hp:p2=[]:=List.eq_nil_of_length_eq_zero (by simpa using hq)
  subst hp
  have hr':p0=r:=by rw[←hr];simp
  subst hr'
  refine k_seq (by kernel_rfl) λK6 hK6=> ?_
  refine k_reg 2 (by kernel_rfl) ?_
  refine r_run 0 2 [6] [] hS rfl (L':=[(6,.slice a0 p0.length c0)]) (As':=[rowF (rawF 3) 47 a0 c0 p0,rowF (rawF 3) 47 a2 c2 ([]:List (Raw 3))]) (ob:=[]) (by kernel_rfl) trivial λa w hS=> ?_
  refine wl_end ?_
  refine hK6 _ _ ?_
  refine k_ret (by kernel_rfl) ?_
  try simp only[Exit.then,Exit.inBlock]
  refine r_ret hS [.tmp 6] [] (xs:=[.slice a0 p0.length c0]) (ps:=[]) [0] [] rfl (by kernel_rfl) (λhA=>trivial) rfl (λF up=>trivial) ?_
  exact⟨a0,c0,rfl,rfl,rfl⟩
 have hm:0<p2.length:=by
  rcases Nat.eq_zero_or_pos p2.length with h0|h0
  ·rw[h0] at hq;simp at hq
  ·exact h0
 obtain⟨g3,rfl⟩:=row_block (hS.st.own (rowF (rawF 3) 47 a2 c2 p2) (by simp)) (by omega)
 refine k_skip (by kernel_rfl) ?_
 refine hK4 _ _ ?_
 refine k_seq (by kernel_rfl) λK7 hK7=> ?_
 refine k_reg 3 (by kernel_rfl) ?_
 refine r_run 0 3 [0,1,2,7,8] [] hS rfl (L':=[(0,.slice a0 p0.length c0),(1,.int .i64 i),(2,.slice (some ⟨g3,0,none⟩) p2.length c2),(7,.int .i64 (p2.length:Int)),(8,.int .i64 (p0.length:Int))]) (As':=[rowF (rawF 3) 47 a0 c0 p0,rowF (rawF 3) 47 (some ⟨g3,0,none⟩) c2 p2]) (ob:=[]) (by kernel_rfl) trivial λa w hS=> ?_
 refine wl_end ?_
 refine hK7 _ _ ?_
 refine k_seq (by kernel_rfl) λK8 hK8=> ?_
 refine k_seq (by kernel_rfl) λK9 hK9=> ?_
 refine k_reg 3 (by kernel_rfl) ?_
 refine r_run 0 3 [0,1,2,7,8,22] [] hS rfl (L':=[(0,.slice a0 p0.length c0),(1,.int .i64 i),(2,.slice (some ⟨g3,0,none⟩) p2.length c2),(7,.int .i64 (p2.length:Int)),(8,.int .i64 (p0.length:Int)),(22,.bool ((i:Int)==(p0.length:Int)))]) (As':=[rowF (rawF 3) 47 a0 c0 p0,rowF (rawF 3) 47 (some ⟨g3,0,none⟩) c2 p2]) (ob:=[]) (by kernel_rfl) trivial λa w hS=> ?_
 refine wl_end ?_
 refine hK9 _ _ ?_
 refine k_cond ((i:Int)==(p0.length:Int)) hS.has (by kernel_rfl) (by kernel_rfl) (by kernel_rfl) (λhq2=> ?_) (λhq2=> ?_)
 ·have hin:i=p0.length:=by
   have:=of_decide_eq_true (p:=(i:Int)=(p0.length:Int)) (by simpa using hq2)
   omega
  have hr':r=p0++p2:=by rw[←hr,hin];simp
  refine k_seq (by kernel_rfl) λK6 hK6=> ?_
  refine k_reg 4 (by kernel_rfl) ?_
  refine r_run 0 2 [23,24] [] hS rfl (L':=[(23,.slice a0 p0.length c0),(24,.slice (some ⟨g3,0,none⟩) p2.length c2)]) (As':=[rowF (rawF 3) 47 a0 c0 p0,rowF (rawF 3) 47 (some ⟨g3,0,none⟩) c2 p2]) (ob:=[]) (by kernel_rfl) trivial λa w hS=> ?_
  refine r_append 2 rfl (d:=25) (t:=41) (A:=a0) (c:=c0) (k:=p0.length) (b:=some ⟨g3,0,none⟩) (c2:=c2) (m:=p2.length) (p2.flatMap ((rawF 3)).enc) 0 [0] hS (appChk_sound (by kernel_rfl)) (by kernel_rfl) rfl rfl (λF up le=>appB (F:=(rawF 3)) (le 0 rfl _ λw h=>rowRS h)) hroom λa5 c5 a w hS=> ?_
  replace hS:=rowF_app (F:=(rawF 3)) (l:=p0) (m:=p2) hS hr'
  refine r_run 3 1 [6] [] hS rfl (L':=[(6,.slice a5 r.length c5)]) (As':=[rowF (rawF 3) 47 a5 c5 r,rowF (rawF 3) 47 (some ⟨g3,0,none⟩) c2 p2]) (ob:=[]) (by kernel_rfl) trivial λa w hS=> ?_
  refine wl_end ?_
  refine hK6 _ _ ?_
  refine k_ret (by kernel_rfl) ?_
  try simp only[Exit.then,Exit.inBlock]
  refine r_ret hS [.tmp 6] [] (xs:=[.slice a5 r.length c5]) (ps:=[]) [0] [] rfl (by kernel_rfl) (λhA=>trivial) rfl (λF up=>trivial) ?_
  exact⟨a5,c5,rfl,rfl,rfl⟩
 have hin:i<p0.length:=by
  rcases Nat.lt_or_ge i p0.length with h0|h0
  ·exact h0
  ·have:i=p0.length:=by omega
   rw[this] at hq2;simp at hq2
 obtain⟨g,rfl⟩:=row_block (hS.st.own (rowF (rawF 3) 47 a0 c0 p0) (by simp)) (by omega)
 have hw:IntKind.wrap .i64 ((p0.length:Int)+(p2.length:Int))=((p0.length+p2.length:Nat):Int):=by rw[IntKind.wrap_i64];omega
 have hw2:IntKind.wrap .i64 ((i:Int)+(p2.length:Int))=((i+p2.length:Nat):Int):=by rw[IntKind.wrap_i64];omega
 have hsz:0<((rawF 3)).sz:=by decide
 have hX:(p0.take i).flatMap ((rawF 3)).enc=(p0.flatMap ((rawF 3)).enc).take (i*((rawF 3)).sz):=flat_take p0 i
 have hY:(p0.drop i).flatMap ((rawF 3)).enc=(p0.flatMap ((rawF 3)).enc).drop (i*((rawF 3)).sz):=flat_drop p0 i
 have lX:((p0.take i).flatMap ((rawF 3)).enc).length=i*((rawF 3)).sz:=by rw[flat_len,List.length_take,Nat.min_eq_left hil]
 have lY:((p0.drop i).flatMap ((rawF 3)).enc).length=(p0.length-i)*((rawF 3)).sz:=by rw[flat_len,List.length_drop]
 have lV:(p2.flatMap ((rawF 3)).enc).length=p2.length*((rawF 3)).sz:=flat_len p2
 have hXY:(p0.take i).flatMap ((rawF 3)).enc++(p0.drop i).flatMap ((rawF 3)).enc=p0.flatMap ((rawF 3)).enc:=by rw[←List.flatMap_append,List.take_append_drop]
 have hre:r.flatMap ((rawF 3)).enc=(p0.take i).flatMap ((rawF 3)).enc++p2.flatMap ((rawF 3)).enc++(p0.drop i).flatMap ((rawF 3)).enc:=by rw[←hr,List.flatMap_append,List.flatMap_append]
 have hV1:∀v∈p2.flatMap ((rawF 3)).enc,v.oneCell'=true:=flat_one p2
 have hY1:∀v∈(p0.drop i).flatMap ((rawF 3)).enc,v.oneCell'=true:=flat_one _
 refine k_skip (by kernel_rfl) ?_
 refine hK8 _ _ ?_
 refine k_seq (by kernel_rfl) λK10 hK10=> ?_
 refine k_seq (by kernel_rfl) λK11 hK11=> ?_
 refine k_reg 6 (by kernel_rfl) ?_
 refine r_run 0 6 [0,1,2,7,8,31] [.as 28 (.int .i64 ((p0.length+p2.length:Nat):Int))] hS rfl (L':=[(0,.slice (some ⟨g,0,none⟩) p0.length c0),(1,.int .i64 i),(2,.slice (some ⟨g3,0,none⟩) p2.length c2),(7,.int .i64 (p2.length:Int)),(8,.int .i64 (p0.length:Int)),(31,.bool (decide (((p0.length+p2.length:Nat):Int)>(c0:Int))))]) (As':=[rowF (rawF 3) 47 (some ⟨g,0,none⟩) c0 p0,rowF (rawF 3) 47 (some ⟨g3,0,none⟩) c2 p2]) (ob:=[λ_=>Value.int .i64 (IntKind.wrap .i64 ((p0.length:Int)+(p2.length:Int)))= .int .i64 ((p0.length+p2.length:Nat):Int)]) (by kernel_rfl) ⟨Bx.c (by rw[hw]),trivial⟩ λa w hS=> ?_
 refine wl_end ?_
 refine hK11 _ _ ?_
 refine k_cond (decide (((p0.length+p2.length:Nat):Int)>(c0:Int))) hS.has (by kernel_rfl) (by kernel_rfl) (by kernel_rfl) (λhq3=> ?_) (λhq3=> ?_)
 ·have hgt:c0<p0.length+p2.length:=by have:=of_decide_eq_true hq3;omega
  have hk:p0.length+p2.length-i+i=p0.length+p2.length:=by omega
  have hw3:IntKind.wrap .i64 (((p0.length+p2.length:Nat):Int)-(i:Int))=((p0.length+p2.length-i:Nat):Int):=by rw[IntKind.wrap_i64];omega
  refine k_seq (by kernel_rfl) λK12 hK12=> ?_
  refine k_reg 10 (by kernel_rfl) ?_
  refine r_run 0 8 [0,1,2,7,8,34,39] [.as 34 (.slice (some ⟨g,0,none⟩) i c0),.as 37 (.int .i64 ((p0.length+p2.length:Nat):Int)),.as 39 (.int .i64 ((p0.length+p2.length-i:Nat):Int))] hS rfl (L':=[(0,.slice (some ⟨g,0,none⟩) p0.length c0),(1,.int .i64 i),(2,.slice (some ⟨g3,0,none⟩) p2.length c2),(7,.int .i64 (p2.length:Int)),(8,.int .i64 (p0.length:Int)),(34,.slice (some ⟨g,0,none⟩) i c0),(39,.int .i64 ((p0.length+p2.length-i:Nat):Int))]) (As':=[rowF (rawF 3) 47 (some ⟨g,0,none⟩) c0 p0,rowF (rawF 3) 47 (some ⟨g3,0,none⟩) c2 p2]) (ob:=[λ_=>(0:Int)≤0∧(0:Int)≤(i:Int)∧(i:Int)≤(c0:Int),λ_=>Value.slice (slA (some ⟨g,0,none⟩) 0 c0 ((rawF 3)).sz) i c0= .slice (some ⟨g,0,none⟩) i c0,λ_=>Value.int .i64 (IntKind.wrap .i64 ((p0.length:Int)+(p2.length:Int)))= .int .i64 ((p0.length+p2.length:Nat):Int),λ_=>Value.int .i64 (IntKind.wrap .i64 (((p0.length+p2.length:Nat):Int)-(i:Int)))= .int .i64 ((p0.length+p2.length-i:Nat):Int)]) (by kernel_rfl) ⟨Bx.c ⟨by omega,by omega,by omega⟩,Bx.c (by rw[slA_zero]),Bx.c (by rw[hw]),Bx.c (by rw[hw3]),trivial⟩ λa w hS=> ?_
  obtain⟨w',g2,c5,hrun,hc5,⟨T,hT,hrow⟩,hext,hg2,hg2'⟩:=run_zeros_row (P:=Tryz.prog) (sz:=((rawF 3)).sz) (t:=41) (tn:=3) (ty:=41) (i:=i) (k:=p0.length+p2.length-i) (bytes:=24) (inf:=Tryz.t47) (z:=(Tryz.t47.zero).getD undef) (kq:= .i64) (kn:= .i64) (by kernel_rfl) (by kernel_rfl) (by kernel_rfl) (by kernel_rfl) rfl (by kernel_rfl) (by kernel_rfl) hsz (by decide) (hS.st.own (rowF (rawF 3) 47 (some ⟨g,0,none⟩) c0 p0) (by simp)) hil (by omega) (by omega) (by rw[show i+(p0.length+p2.length-i)=p0.length+p2.length from by omega];exact hroom)
  have hik:i+(p0.length+p2.length-i)=p0.length+p2.length:=by omega
  rw[hik] at hrun hc5 hT
  refine r_bltN 8 rfl (d:=some 40) (b:= .append) (ts:= #[41,3]) (ty:=41) (vs:= #[.slice (some ⟨g,0,none⟩) i c0,.int .i64 ((p0.length+p2.length-i:Nat):Int)]) hS (by kernel_rfl) _ hrun hrow hext (λx hx=>by simp[Asn.fp] at hx;subst hx;exact⟨hg2,hg2'⟩) (by simp[Asn.fp]) λa hS=> ?_
  rw[←hX] at hS
  generalize hZ:(Builtin.zeroCells ((Tryz.t47.zero).getD undef).cells (p0.length+p2.length-i)).toList=Z at hS
  have lZ:Z.length=(p2.flatMap ((rawF 3)).enc).length+((p0.drop i).flatMap ((rawF 3)).enc).length:=by
   rw[←hZ,zeros_len,lV,lY,←Nat.add_mul,show((Tryz.t47.zero).getD undef).cells.size=((rawF 3)).sz from by kernel_rfl]
   congr 1;omega
  refine r_run 9 1 [0,1,2,7,9] [] hS rfl (L':=[(0,.slice (some ⟨g,0,none⟩) p0.length c0),(1,.int .i64 i),(2,.slice (some ⟨g3,0,none⟩) p2.length c2),(7,.int .i64 (p2.length:Int)),(9,.slice (some ⟨g2,0,none⟩) (p0.length+p2.length) c5)]) (As':=[.row (some ⟨g2,0,none⟩) c5 47 ((rawF 3)).sz c5 ((p0.take i).flatMap ((rawF 3)).enc++Z++T),rowF (rawF 3) 47 (some ⟨g,0,none⟩) c0 p0,rowF (rawF 3) 47 (some ⟨g3,0,none⟩) c2 p2]) (ob:=[]) (by kernel_rfl) trivial λa w hS=> ?_
  refine wl_end ?_
  refine hK12 _ _ ?_
  refine k_seq (by kernel_rfl) λK13 hK13=> ?_
  refine k_reg 5 (by kernel_rfl) ?_
  have hs1:slA (some (⟨g2,0,none⟩:Addr)) i c5 ((rawF 3)).sz=some ⟨g2,i*((rawF 3)).sz,none⟩:=by
   unfold slA;rw[if_neg (by omega)];simp only[Option.map_some,addr_add0]
  refine r_run 0 4 [0,1,7,9,43,44] [.as 43 (.slice (some ⟨g2,i*((rawF 3)).sz,none⟩) (p0.length+p2.length-i) (c5-i))] hS rfl (L':=[(0,.slice (some ⟨g,0,none⟩) p0.length c0),(1,.int .i64 i),(7,.int .i64 (p2.length:Int)),(9,.slice (some ⟨g2,0,none⟩) (p0.length+p2.length) c5),(43,.slice (some ⟨g2,i*((rawF 3)).sz,none⟩) (p0.length+p2.length-i) (c5-i)),(44,.slice (some ⟨g3,0,none⟩) p2.length c2)]) (As':=[.row (some ⟨g2,0,none⟩) c5 47 ((rawF 3)).sz c5 ((p0.take i).flatMap ((rawF 3)).enc++Z++T),rowF (rawF 3) 47 (some ⟨g,0,none⟩) c0 p0,rowF (rawF 3) 47 (some ⟨g3,0,none⟩) c2 p2]) (ob:=[λ_=>0≤(i:Int)∧(i:Int)≤((p0.length+p2.length:Nat):Int)∧((p0.length+p2.length:Nat):Int)≤(c5:Int),λ_=>Value.slice (slA (some ⟨g2,0,none⟩) i c5 ((rawF 3)).sz) (p0.length+p2.length-i) (c5-i)= .slice (some ⟨g2,i*((rawF 3)).sz,none⟩) (p0.length+p2.length-i) (c5-i)]) (by kernel_rfl) ⟨Bx.c ⟨by omega,by omega,by omega⟩,Bx.c (by rw[hs1]),trivial⟩ λa w hS=> ?_
  have hsrc:=row_cellsAt (hS.st.own (rowF (rawF 3) 47 (some ⟨g3,0,none⟩) c2 p2) (by simp)) 0 (p2.flatMap ((rawF 3)).enc).length
  rw[List.drop_zero,List.take_length] at hsrc
  have hfit1:i*((rawF 3)).sz+(p2.flatMap ((rawF 3)).enc).length≤c5*((rawF 3)).sz:=by rw[lV,←Nat.add_mul];exact Nat.mul_le_mul_right _ (by omega)
  have hmin1:Nat.min p2.length (p0.length+p2.length-i)=p2.length:=Nat.min_eq_left (by omega)
  refine r_bltS 4 rfl 0 (.row (some ⟨g2,0,none⟩) c5 47 ((rawF 3)).sz c5 (spl ((p0.take i).flatMap ((rawF 3)).enc++Z++T) (i*((rawF 3)).sz) (p2.flatMap ((rawF 3)).enc))) (d:=some 45) (b:= .copy) (ts:= #[41,41]) (ty:=3) (vs:= #[.slice (some ⟨g2,i*((rawF 3)).sz,none⟩) (p0.length+p2.length-i) (c5-i),.slice (some ⟨g3,0,none⟩) p2.length c2]) hS (by kernel_rfl) rfl (λhA=>run_copyR (dT:=41) (sT:=41) (ty:=3) (inf:=Tryz.t47) (by kernel_rfl) (by kernel_rfl) rfl hA (by rw[hmin1,lV]) hsrc hfit1 hV1) rfl (by simp[Asn.fp]) λa w hS=> ?_
  refine wl_end ?_
  refine hK13 _ _ ?_
  refine k_seq (by kernel_rfl) λK14 hK14=> ?_
  have hs2:slA (some (⟨g2,0,none⟩:Addr)) (i+p2.length) c5 ((rawF 3)).sz=some ⟨g2,(i+p2.length)*((rawF 3)).sz,none⟩:=by
   unfold slA;rw[if_neg (by omega)];simp only[Option.map_some,addr_add0]
  have hs3:slA (some (⟨g,0,none⟩:Addr)) i c0 ((rawF 3)).sz=some ⟨g,i*((rawF 3)).sz,none⟩:=by
   unfold slA;rw[if_neg (by omega)];simp only[Option.map_some,addr_add0]
  refine k_draw 8 9 [.val (.slice (some ⟨g2,0,none⟩) (p0.length+p2.length) c5),.val (.int .i64 i),.val (.int .i64 (p2.length:Int)),.val (.int .i64 ((i+p2.length:Nat):Int)),.val (.slice (some ⟨g2,(i+p2.length)*((rawF 3)).sz,none⟩) (p0.length+p2.length-(i+p2.length)) (c5-(i+p2.length))),.val (.slice (some ⟨g,0,none⟩) p0.length c0),.val (.int .i64 i),.val (.slice (some ⟨g,i*((rawF 3)).sz,none⟩) (p0.length-i) (c0-i))] [] [(0,[]),(1,[]),(2,[]),(3,[.as 49 (.int .i64 ((i+p2.length:Nat):Int))]),(4,[.as 50 (.slice (some ⟨g2,(i+p2.length)*((rawF 3)).sz,none⟩) (p0.length+p2.length-(i+p2.length)) (c5-(i+p2.length)))]),(5,[]),(6,[]),(7,[.as 53 (.slice (some ⟨g,i*((rawF 3)).sz,none⟩) (p0.length-i) (c0-i))])] [] (ob:=[λ_=>Value.int .i64 (IntKind.wrap .i64 ((i:Int)+(p2.length:Int)))= .int .i64 ((i+p2.length:Nat):Int),λ_=>0≤((i+p2.length:Nat):Int)∧((i+p2.length:Nat):Int)≤((p0.length+p2.length:Nat):Int)∧((p0.length+p2.length:Nat):Int)≤(c5:Int),λ_=>Value.slice (slA (some ⟨g2,0,none⟩) (i+p2.length) c5 ((rawF 3)).sz) (p0.length+p2.length-(i+p2.length)) (c5-(i+p2.length))= .slice (some ⟨g2,(i+p2.length)*((rawF 3)).sz,none⟩) (p0.length+p2.length-(i+p2.length)) (c5-(i+p2.length)),λ_=>0≤(i:Int)∧(i:Int)≤(p0.length:Int)∧(p0.length:Int)≤(c0:Int),λ_=>Value.slice (slA (some ⟨g,0,none⟩) i c0 ((rawF 3)).sz) (p0.length-i) (c0-i)= .slice (some ⟨g,i*((rawF 3)).sz,none⟩) (p0.length-i) (c0-i)]) (by kernel_rfl) (by kernel_rfl) hS (by kernel_rfl) (λF N0=>by kernel_rfl) (by kernel_rfl) (by kernel_rfl) (by kernel_rfl) (by kernel_rfl) ⟨Bx.c (by rw[hw2]),Bx.c ⟨by omega,by omega,by omega⟩,Bx.c (by rw[hs2]),Bx.c ⟨by omega,by omega,by omega⟩,Bx.c (by rw[hs3]),trivial⟩ ?_ ?_
  ·exact trivial
  intro V a w e hS hq
  have hsrc:=row_cellsAt (hS.st.own (rowF (rawF 3) 47 (some ⟨g,0,none⟩) c0 p0) (by simp[List.set])) (i*((rawF 3)).sz) ((p0.drop i).flatMap ((rawF 3)).enc).length
  rw[←hY,List.take_length] at hsrc
  have hmin2:Nat.min (p0.length-i) (p0.length+p2.length-(i+p2.length))=p0.length-i:=Nat.min_eq_left (by omega)
  have hfit2:(i+p2.length)*((rawF 3)).sz+((p0.drop i).flatMap ((rawF 3)).enc).length≤c5*((rawF 3)).sz:=by rw[lY,←Nat.add_mul];exact Nat.mul_le_mul_right _ (by omega)
  refine r_bltS 8 rfl 0 (.row (some ⟨g2,0,none⟩) c5 47 ((rawF 3)).sz c5 (spl (spl ((p0.take i).flatMap ((rawF 3)).enc++Z++T) (i*((rawF 3)).sz) (p2.flatMap ((rawF 3)).enc)) ((i+p2.length)*((rawF 3)).sz) ((p0.drop i).flatMap ((rawF 3)).enc))) (d:=some 54) (b:= .copy) (ts:= #[41,41]) (ty:=3) (vs:= #[.slice (some ⟨g2,(i+p2.length)*((rawF 3)).sz,none⟩) (p0.length+p2.length-(i+p2.length)) (c5-(i+p2.length)),.slice (some ⟨g,i*((rawF 3)).sz,none⟩) (p0.length-i) (c0-i)]) hS (by kernel_rfl) rfl (λhA=>run_copyR (dT:=41) (sT:=41) (ty:=3) (inf:=Tryz.t47) (by kernel_rfl) (by kernel_rfl) rfl hA (by rw[hmin2,lY]) hsrc hfit2 hY1) rfl (by simp[Asn.fp]) λa w hS=> ?_
  have hfin:(spl (spl ((p0.take i).flatMap ((rawF 3)).enc++Z++T) (i*((rawF 3)).sz) (p2.flatMap ((rawF 3)).enc)) ((i+p2.length)*((rawF 3)).sz) ((p0.drop i).flatMap ((rawF 3)).enc)).take ((p0.length+p2.length)*((rawF 3)).sz)=r.flatMap ((rawF 3)).enc:=by
   have:=cells_new ((p0.take i).flatMap ((rawF 3)).enc) ((p0.drop i).flatMap ((rawF 3)).enc) (p2.flatMap ((rawF 3)).enc) Z T lZ
   rw[lX,lV,←Nat.add_mul] at this
   rw[this,hre,List.take_left' (by rw[List.length_append,List.length_append,lX,lV,lY,←Nat.add_mul,←Nat.add_mul];congr 1;omega)]
  replace hS:=hS.same (B:=rowF (rawF 3) 47 (some ⟨g2,0,none⟩) c5 r) 0 rfl (λhA=>row_app_form hA hrl hc5 hfin) rfl (by simp[Asn.fp])
  refine wl_end ?_
  refine hK14 _ _ ?_
  refine k_seq (by kernel_rfl) λK15 hK15=> ?_
  refine k_reg 2 (by kernel_rfl) ?_
  refine r_run 0 2 [6] [] hS rfl (L':=[(6,.slice (some ⟨g2,0,none⟩) (p0.length+p2.length) c5)]) (As':=[rowF (rawF 3) 47 (some ⟨g2,0,none⟩) c5 r,rowF (rawF 3) 47 (some ⟨g,0,none⟩) c0 p0,rowF (rawF 3) 47 (some ⟨g3,0,none⟩) c2 p2]) (ob:=[]) (by kernel_rfl) trivial λa w hS=> ?_
  refine wl_end ?_
  refine hK15 _ _ ?_
  refine k_ret (by kernel_rfl) ?_
  try simp only[Exit.then,Exit.inBlock]
  refine r_ret hS [.tmp 6] [] (xs:=[.slice (some ⟨g2,0,none⟩) (p0.length+p2.length) c5]) (ps:=[]) [0] [] rfl (by kernel_rfl) (λhA=>trivial) rfl (λF up=>trivial) ?_
  exact⟨some ⟨g2,0,none⟩,c5,by rw[hrl];rfl,rfl,rfl⟩
 have hle:p0.length+p2.length≤c0:=by have:=of_decide_eq_false hq3;omega
 refine k_skip (by kernel_rfl) ?_
 refine hK10 _ _ ?_
 refine k_seq (by kernel_rfl) λK12 hK12=> ?_
 refine k_reg 6 (by kernel_rfl) ?_
 refine r_run 0 6 [0,1,2,7] [.as 59 (.int .i64 ((p0.length+p2.length:Nat):Int)),.as 60 (.slice (some ⟨g,0,none⟩) (p0.length+p2.length) c0)] hS rfl (L':=[(0,.slice (some ⟨g,0,none⟩) (p0.length+p2.length) c0),(1,.int .i64 i),(2,.slice (some ⟨g3,0,none⟩) p2.length c2),(7,.int .i64 (p2.length:Int))]) (As':=[rowF (rawF 3) 47 (some ⟨g,0,none⟩) c0 p0,rowF (rawF 3) 47 (some ⟨g3,0,none⟩) c2 p2]) (ob:=[λ_=>Value.int .i64 (IntKind.wrap .i64 ((p0.length:Int)+(p2.length:Int)))= .int .i64 ((p0.length+p2.length:Nat):Int),λ_=>(0:Int)≤0∧(0:Int)≤((p0.length+p2.length:Nat):Int)∧((p0.length+p2.length:Nat):Int)≤(c0:Int),λ_=>Value.slice (slA (some ⟨g,0,none⟩) 0 c0 ((rawF 3)).sz) (p0.length+p2.length) c0= .slice (some ⟨g,0,none⟩) (p0.length+p2.length) c0]) (by kernel_rfl) ⟨Bx.c (by rw[hw]),Bx.c ⟨by omega,by omega,by omega⟩,Bx.c (by rw[slA_zero]),trivial⟩ λa w hS=> ?_
 obtain⟨ds,hd1,hd2,hd3,hd4⟩:=row_full (hS.st.own (rowF (rawF 3) 47 (some ⟨g,0,none⟩) c0 p0) (by simp))
 replace hS:=hS.same (B:= .row (some ⟨g,0,none⟩) c0 47 ((rawF 3)).sz c0 ds) 0 rfl (λ_=>hd4) rfl (by simp[Asn.fp])
 refine wl_end ?_
 refine hK12 _ _ ?_
 refine k_seq (by kernel_rfl) λK13 hK13=> ?_
 refine k_seq (by kernel_rfl) λK14 hK14=> ?_
 refine k_reg 8 (by kernel_rfl) ?_
 have hs2:slA (some (⟨g,0,none⟩:Addr)) (i+p2.length) c0 ((rawF 3)).sz=some ⟨g,(i+p2.length)*((rawF 3)).sz,none⟩:=by
  unfold slA;rw[if_neg (by omega)];simp only[Option.map_some,addr_add0]
 have hs3:slA (some (⟨g,0,none⟩:Addr)) i c0 ((rawF 3)).sz=some ⟨g,i*((rawF 3)).sz,none⟩:=by
  unfold slA;rw[if_neg (by omega)];simp only[Option.map_some,addr_add0]
 refine r_run 0 6 [0,1,2,7,61,66] [.as 65 (.int .i64 ((i+p2.length:Nat):Int)),.as 66 (.slice (some ⟨g,(i+p2.length)*((rawF 3)).sz,none⟩) (p0.length+p2.length-(i+p2.length)) (c0-(i+p2.length)))] hS rfl (L':=[(0,.slice (some ⟨g,0,none⟩) (p0.length+p2.length) c0),(1,.int .i64 i),(2,.slice (some ⟨g3,0,none⟩) p2.length c2),(7,.int .i64 (p2.length:Int)),(61,.slice (some ⟨g3,0,none⟩) p2.length c2),(66,.slice (some ⟨g,(i+p2.length)*((rawF 3)).sz,none⟩) (p0.length+p2.length-(i+p2.length)) (c0-(i+p2.length)))]) (As':=[.row (some ⟨g,0,none⟩) c0 47 ((rawF 3)).sz c0 ds,rowF (rawF 3) 47 (some ⟨g3,0,none⟩) c2 p2]) (ob:=[λ_=>Value.int .i64 (IntKind.wrap .i64 ((i:Int)+(p2.length:Int)))= .int .i64 ((i+p2.length:Nat):Int),λ_=>0≤((i+p2.length:Nat):Int)∧((i+p2.length:Nat):Int)≤((p0.length+p2.length:Nat):Int)∧((p0.length+p2.length:Nat):Int)≤(c0:Int),λ_=>Value.slice (slA (some ⟨g,0,none⟩) (i+p2.length) c0 ((rawF 3)).sz) (p0.length+p2.length-(i+p2.length)) (c0-(i+p2.length))= .slice (some ⟨g,(i+p2.length)*((rawF 3)).sz,none⟩) (p0.length+p2.length-(i+p2.length)) (c0-(i+p2.length))]) (by kernel_rfl) ⟨Bx.c (by rw[hw2]),Bx.c ⟨by omega,by omega,by omega⟩,Bx.c (by rw[hs2]),trivial⟩ λa w hS=> ?_
 have hne:g3≠g:=by
  have:=(List.nodup_append.1 hS.st.nd).2.1
  simp[fps,Asn.fp] at this
  exact λe=>this e.symm
 have hA0:=row_shape (hS.st.own (.row (some ⟨g,0,none⟩) c0 47 ((rawF 3)).sz c0 ds) (by simp))
 have hA1:=row_shape (hS.st.own (rowF (rawF 3) 47 (some ⟨g3,0,none⟩) c2 p2) (by simp))
 have hcsz:c0*((rawF 3)).sz≠0:=Nat.mul_ne_zero (by omega) (by omega)
 have hov:(callFunc 108 #[.slice (some ⟨g3,0,none⟩) p2.length c2,.slice (some ⟨g,(i+p2.length)*((rawF 3)).sz,none⟩) (p0.length+p2.length-(i+p2.length)) (c0-(i+p2.length))]).run Tryz.prog w= .ok (.value (.bool false)) w:=by
  rw[run_callFunc_extern Tryz.func108 (by kernel_rfl) (by kernel_rfl) (by kernel_rfl) (e:=Extern.SlicesOverlaps.overlaps #[41,41] #[4]) (by kernel_rfl),
   Lib.run_overlaps_apart w 41 4 47 (by kernel_rfl) ((rawF 3)).sz (λw=>by simp[sizeOf,run_info (show Tryz.prog.info? 47=some Tryz.t47 from by kernel_rfl)];kernel_rfl) ⟨g3,0,none⟩ ⟨g,(i+p2.length)*((rawF 3)).sz,none⟩ p2.length c2 _ _ hne _ _ _ _ hA1.1 hA0.1 hcsz (hA1.2 _) (hA1.2 _)]
  rfl
 refine r_ext 6 rfl (d:=some 67) (g:=108) (args:= #[.slice (some ⟨g3,0,none⟩) p2.length c2,.slice (some ⟨g,(i+p2.length)*((rawF 3)).sz,none⟩) (p0.length+p2.length-(i+p2.length)) (c0-(i+p2.length))]) hS (by kernel_rfl) hov λa hS=> ?_
 refine r_run 7 1 [0,1,2,7,68] [] hS rfl (L':=[(0,.slice (some ⟨g,0,none⟩) (p0.length+p2.length) c0),(1,.int .i64 i),(2,.slice (some ⟨g3,0,none⟩) p2.length c2),(7,.int .i64 (p2.length:Int)),(68,.bool true)]) (As':=[.row (some ⟨g,0,none⟩) c0 47 ((rawF 3)).sz c0 ds,rowF (rawF 3) 47 (some ⟨g3,0,none⟩) c2 p2]) (ob:=[]) (by kernel_rfl) trivial λa w hS=> ?_
 refine wl_end ?_
 refine hK14 _ _ ?_
 refine k_cond true hS.has (by kernel_rfl) (by kernel_rfl) (by kernel_rfl) (λ_=> ?_) (λhx=>by cases hx)
 refine k_seq (by kernel_rfl) λK15 hK15=> ?_
 obtain⟨Z,hZ⟩:∃Z,ds=(p0.take i).flatMap ((rawF 3)).enc++(p0.drop i).flatMap ((rawF 3)).enc++Z:=⟨ds.drop (p0.length*((rawF 3)).sz),by rw[hXY];conv=>lhs;rw[←List.take_append_drop (p0.length*((rawF 3)).sz) ds,hd1]⟩
 have lds:ds.length=c0*((rawF 3)).sz:=hd2
 have lZ:(p2.flatMap ((rawF 3)).enc).length≤((p0.drop i).flatMap ((rawF 3)).enc).length+Z.length:=by
  have h1:=lds
  rw[hZ,List.length_append,List.length_append,lX,lY] at h1
  rw[lV,lY]
  have h2:=Nat.mul_le_mul_right ((rawF 3)).sz hle
  rw[Nat.add_mul] at h2
  have h3:i*((rawF 3)).sz+(p0.length-i)*((rawF 3)).sz=p0.length*((rawF 3)).sz:=by rw[←Nat.add_mul];congr 1;omega
  omega
 refine k_draw 8 9 [.val (.slice (some ⟨g,0,none⟩) (p0.length+p2.length) c0),.val (.int .i64 i),.val (.int .i64 (p2.length:Int)),.val (.int .i64 ((i+p2.length:Nat):Int)),.val (.slice (some ⟨g,(i+p2.length)*((rawF 3)).sz,none⟩) (p0.length+p2.length-(i+p2.length)) (c0-(i+p2.length))),.val (.slice (some ⟨g,0,none⟩) (p0.length+p2.length) c0),.val (.int .i64 i),.val (.slice (some ⟨g,i*((rawF 3)).sz,none⟩) (p0.length+p2.length-i) (c0-i))] [] [(0,[]),(1,[]),(2,[]),(3,[.as 72 (.int .i64 ((i+p2.length:Nat):Int))]),(4,[.as 73 (.slice (some ⟨g,(i+p2.length)*((rawF 3)).sz,none⟩) (p0.length+p2.length-(i+p2.length)) (c0-(i+p2.length)))]),(5,[]),(6,[]),(7,[.as 76 (.slice (some ⟨g,i*((rawF 3)).sz,none⟩) (p0.length+p2.length-i) (c0-i))])] [] (ob:=[λ_=>Value.int .i64 (IntKind.wrap .i64 ((i:Int)+(p2.length:Int)))= .int .i64 ((i+p2.length:Nat):Int),λ_=>0≤((i+p2.length:Nat):Int)∧((i+p2.length:Nat):Int)≤((p0.length+p2.length:Nat):Int)∧((p0.length+p2.length:Nat):Int)≤(c0:Int),λ_=>Value.slice (slA (some ⟨g,0,none⟩) (i+p2.length) c0 ((rawF 3)).sz) (p0.length+p2.length-(i+p2.length)) (c0-(i+p2.length))= .slice (some ⟨g,(i+p2.length)*((rawF 3)).sz,none⟩) (p0.length+p2.length-(i+p2.length)) (c0-(i+p2.length)),λ_=>0≤(i:Int)∧(i:Int)≤((p0.length+p2.length:Nat):Int)∧((p0.length+p2.length:Nat):Int)≤(c0:Int),λ_=>Value.slice (slA (some ⟨g,0,none⟩) i c0 ((rawF 3)).sz) (p0.length+p2.length-i) (c0-i)= .slice (some ⟨g,i*((rawF 3)).sz,none⟩) (p0.length+p2.length-i) (c0-i)]) (by kernel_rfl) (by kernel_rfl) hS (by kernel_rfl) (λF N0=>by kernel_rfl) (by kernel_rfl) (by kernel_rfl) (by kernel_rfl) (by kernel_rfl) ⟨Bx.c (by rw[hw2]),Bx.c ⟨by omega,by omega,by omega⟩,Bx.c (by rw[hs2]),Bx.c ⟨by omega,by omega,by omega⟩,Bx.c (by rw[hs3]),trivial⟩ ?_ ?_
 ·exact trivial
 intro V a w e hS hq
 have hsrc:=row_cellsAt (hS.st.own (.row (some ⟨g,0,none⟩) c0 47 ((rawF 3)).sz c0 ds) (by simp)) (i*((rawF 3)).sz) ((p0.drop i).flatMap ((rawF 3)).enc).length
 have hdsd:(ds.drop (i*((rawF 3)).sz)).take ((p0.drop i).flatMap ((rawF 3)).enc).length=(p0.drop i).flatMap ((rawF 3)).enc:=by
  rw[hZ,List.append_assoc,←lX,List.drop_left,List.take_left]
 rw[hdsd] at hsrc
 have hmin2:Nat.min (p0.length+p2.length-i) (p0.length+p2.length-(i+p2.length))=p0.length-i:=by
  rw[show p0.length+p2.length-(i+p2.length)=p0.length-i from by omega];exact Nat.min_eq_right (by omega)
 have hfit2:(i+p2.length)*((rawF 3)).sz+((p0.drop i).flatMap ((rawF 3)).enc).length≤c0*((rawF 3)).sz:=by rw[lY,←Nat.add_mul];exact Nat.mul_le_mul_right _ (by omega)
 refine r_bltS 8 rfl 0 (.row (some ⟨g,0,none⟩) c0 47 ((rawF 3)).sz c0 (spl ds ((i+p2.length)*((rawF 3)).sz) ((p0.drop i).flatMap ((rawF 3)).enc))) (d:=some 77) (b:= .copy) (ts:= #[41,41]) (ty:=3) (vs:= #[.slice (some ⟨g,(i+p2.length)*((rawF 3)).sz,none⟩) (p0.length+p2.length-(i+p2.length)) (c0-(i+p2.length)),.slice (some ⟨g,i*((rawF 3)).sz,none⟩) (p0.length+p2.length-i) (c0-i)]) hS (by kernel_rfl) rfl (λhA=>run_copyR (dT:=41) (sT:=41) (ty:=3) (inf:=Tryz.t47) (by kernel_rfl) (by kernel_rfl) rfl hA (by rw[hmin2,lY]) hsrc hfit2 hY1) rfl (by simp[Asn.fp]) λa w hS=> ?_
 refine wl_end ?_
 refine hK15 _ _ ?_
 refine k_seq (by kernel_rfl) λK16 hK16=> ?_
 refine k_reg 5 (by kernel_rfl) ?_
 refine r_run 0 4 [0,80,81] [.as 80 (.slice (some ⟨g,i*((rawF 3)).sz,none⟩) (p0.length+p2.length-i) (c0-i))] hS rfl (L':=[(0,.slice (some ⟨g,0,none⟩) (p0.length+p2.length) c0),(80,.slice (some ⟨g,i*((rawF 3)).sz,none⟩) (p0.length+p2.length-i) (c0-i)),(81,.slice (some ⟨g3,0,none⟩) p2.length c2)]) (As':=[.row (some ⟨g,0,none⟩) c0 47 ((rawF 3)).sz c0 (spl ds ((i+p2.length)*((rawF 3)).sz) ((p0.drop i).flatMap ((rawF 3)).enc)),rowF (rawF 3) 47 (some ⟨g3,0,none⟩) c2 p2]) (ob:=[λ_=>0≤(i:Int)∧(i:Int)≤((p0.length+p2.length:Nat):Int)∧((p0.length+p2.length:Nat):Int)≤(c0:Int),λ_=>Value.slice (slA (some ⟨g,0,none⟩) i c0 ((rawF 3)).sz) (p0.length+p2.length-i) (c0-i)= .slice (some ⟨g,i*((rawF 3)).sz,none⟩) (p0.length+p2.length-i) (c0-i)]) (by kernel_rfl) ⟨Bx.c ⟨by omega,by omega,by omega⟩,Bx.c (by rw[hs3]),trivial⟩ λa w hS=> ?_
 have hsrc:=row_cellsAt (hS.st.own (rowF (rawF 3) 47 (some ⟨g3,0,none⟩) c2 p2) (by simp)) 0 (p2.flatMap ((rawF 3)).enc).length
 rw[List.drop_zero,List.take_length] at hsrc
 have hfit1:i*((rawF 3)).sz+(p2.flatMap ((rawF 3)).enc).length≤c0*((rawF 3)).sz:=by rw[lV,←Nat.add_mul];exact Nat.mul_le_mul_right _ (by omega)
 have hmin1:Nat.min p2.length (p0.length+p2.length-i)=p2.length:=Nat.min_eq_left (by omega)
 refine r_bltS 4 rfl 0 (.row (some ⟨g,0,none⟩) c0 47 ((rawF 3)).sz c0 (spl (spl ds ((i+p2.length)*((rawF 3)).sz) ((p0.drop i).flatMap ((rawF 3)).enc)) (i*((rawF 3)).sz) (p2.flatMap ((rawF 3)).enc))) (d:=some 82) (b:= .copy) (ts:= #[41,41]) (ty:=3) (vs:= #[.slice (some ⟨g,i*((rawF 3)).sz,none⟩) (p0.length+p2.length-i) (c0-i),.slice (some ⟨g3,0,none⟩) p2.length c2]) hS (by kernel_rfl) rfl (λhA=>run_copyR (dT:=41) (sT:=41) (ty:=3) (inf:=Tryz.t47) (by kernel_rfl) (by kernel_rfl) rfl hA (by rw[hmin1,lV]) hsrc hfit1 hV1) rfl (by simp[Asn.fp]) λa w hS=> ?_
 have hfin:(spl (spl ds ((i+p2.length)*((rawF 3)).sz) ((p0.drop i).flatMap ((rawF 3)).enc)) (i*((rawF 3)).sz) (p2.flatMap ((rawF 3)).enc)).take ((p0.length+p2.length)*((rawF 3)).sz)=r.flatMap ((rawF 3)).enc:=by
  have:=cells_ins ((p0.take i).flatMap ((rawF 3)).enc) ((p0.drop i).flatMap ((rawF 3)).enc) (p2.flatMap ((rawF 3)).enc) Z lZ
  rw[lX,lV,←Nat.add_mul,←hZ] at this
  rw[this,hre,List.take_left' (by rw[List.length_append,List.length_append,lX,lV,lY,←Nat.add_mul,←Nat.add_mul];congr 1;omega)]
 replace hS:=hS.same (B:=rowF (rawF 3) 47 (some ⟨g,0,none⟩) c0 r) 0 rfl (λhA=>row_app_form hA hrl hle hfin) rfl (by simp[Asn.fp])
 refine wl_end ?_
 refine hK16 _ _ ?_
 refine k_seq (by kernel_rfl) λK17 hK17=> ?_
 refine k_reg 2 (by kernel_rfl) ?_
 refine r_run 0 2 [6] [] hS rfl (L':=[(6,.slice (some ⟨g,0,none⟩) (p0.length+p2.length) c0)]) (As':=[rowF (rawF 3) 47 (some ⟨g,0,none⟩) c0 r,rowF (rawF 3) 47 (some ⟨g3,0,none⟩) c2 p2]) (ob:=[]) (by kernel_rfl) trivial λa w hS=> ?_
 refine wl_end ?_
 refine hK17 _ _ ?_
 refine k_ret (by kernel_rfl) ?_
 try simp only[Exit.then,Exit.inBlock]
 refine r_ret hS [.tmp 6] [] (xs:=[.slice (some ⟨g,0,none⟩) (p0.length+p2.length) c0]) (ps:=[]) [0] [] rfl (by kernel_rfl) (λhA=>trivial) rfl (λF up=>trivial) ?_
 exact⟨some ⟨g,0,none⟩,c0,by rw[hrl];rfl,rfl,rfl⟩
def slices_Insert_Wait(n:Nat)(p1:Int)(q0 q1:List Wait):Option (List Wait):=insL 24 q0 p1 q1
@[reducible] def slices_Insert_Wait_ct:Ct tab:=⟨83,[.one (.own 0),.one (.d (.int .i64)),.one (.own 1)],[.row 47 (.st 2),.row 47 (.st 2)],[.one (.own 0)],[(none,.row 47 (.st 2))],List Wait,λy=>(y,()),λy=>y.1,λ_=>rfl,λn x=>slices_Insert_Wait n x.1 x.2.1 x.2.2.1⟩
theorem slices_Insert_Wait_ok:OkC Tryz.prog tab slices_Insert_Wait_ct:=ins_ok (t:= .st 2) (m:=3) (bytes:=24) tabOk rfl Tryz.call83 λp0 p1 p2 r h=>slices_Insert_Wait_raw p0 p1 p2 r h
end
end Go.Proofs.YtchocpffjnodfaaGreat
