import Derived.Test.YtlcmdgpjiendmaaGreatTypes
import Derived.Test.YtlcmdgpjiendmaaGreatF3
namespace Go.Proofs.YtlcmdgpjiendmaaGreat
open Go Go.Bur Go.RowKit
set_option linter.unusedVariables false
set_option linter.unusedSimpArgs false
set_option maxRecDepth 100000
noncomputable section
def ref13_Depths_l1(n:Nat)(self:Forest×Int×Int×Unit→Option ((List Int))):Nat→Int×Int×Forest×Content×(List Int)×Unit→Option ((List Int)):=loopF λr1 ⟨v4,v5,v6,v7,v8,_⟩=>
 cond (decide (v5<(v7.kids.length:Int)))
 ((idx v7.kids v5).bind λx9=>
 (self (v6,x9.page,(IntKind.wrap .i64 (v4+1)),())).bind λy10=>
 (app 8 v8 y10).bind λl11=>
 r1 (v4,(IntKind.wrap .i64 (v5+1)),v6,v7,l11,()))
 (some v8)
def ref13_Depths_b(n:Nat)(self:Forest×Int×Int×Unit→Option ((List Int)))(p0:Forest)(p1:Int)(p2:Int):Option ((List Int)):=
 (idx p0.pages p1).bind λx1=>
 jn (fun(b2:Bool)=>
 cond b2
 (some ([p2]:List Int))
 (ref13_Depths_l1 n self n (p2,0,p0,x1,([]:List Int),()))) λk3=>
 cond (x1.kind !=2)
 (k3 true)
 (k3 (decide (p2>8)))
def ref13_Depths(n:Nat)(p0:Forest)(p1:Int)(p2:Int):Option ((List Int)):=recF (λn self x=>ref13_Depths_b n self x.1 x.2.1 x.2.2.1) n (p0,p1,p2,())
@[reducible] def ref13_Depths_ct:Ct tab:=⟨30,[.st 5,.one (.d (.int .i64)),.one (.d (.int .i64))],[],[.one (.own 0)],[(none,.row 3 (.int .i64))],((List Int)),λy=>(y,()),λy=>y.1,λ_=>rfl,λn x=>ref13_Depths n x.1 x.2.1 x.2.2.1⟩
theorem ref13_Depths_ok:OkC Tryz.prog tab ref13_Depths_ct:=fn_rec (W:=⟨Tryz.prog,tab,tyOf,[],addO,dpO,false⟩) ⟨tabOk,trivial,addOk⟩ (by kernel_rfl) 44 Tryz.f30 (.sq (.n) (.sq (.n) (.sq (.n) (.sq (.n) (.sq (.sq (.n) (.bk none (.lp ⟨[(2,.one (.d (.int .i64))),(3,.one (.box 0 0)),(7,.one (.box 1 0)),(8,.one (.own 2)),(9,.one (.d (.int .i64)))],[.bst 5,.bst 4,.row 3 (.int .i64)],[]⟩ (.n)))) (.n)))))) Tryz.func30 Tryz.call30 rfl (by kernel_rfl) (by kernel_rfl) (by kernel_rfl) (λn self x=>ref13_Depths_b n self x.1 x.2.1 x.2.2.1) (λ_=>rfl) (λ_ _=>rfl) λself n x=>by kernel_rfl
def ref13_Right_l4(n:Nat):Nat→Int×(List Int)×Unit→Option Bool:=loopF λr4 ⟨v31,v32,_⟩=>
 cond (decide (v31<(v32.length:Int)))
 ((idx v32 v31).bind λx33=>
 (idx v32 v31).bind λx34=>
 (idx v32 0).bind λx35=>
 (idx v32 0).bind λx36=>
 cond (x34 !=x36)
 (some false)
 (r4 ((IntKind.wrap .i64 (v31+1)),v32,())))
 (some true)
def ref13_Right_l3(n:Nat):Nat→Int×Forest×(List Int)×Unit→Option Bool:=loopF λr3 ⟨v18,v19,v20,_⟩=>
 cond (decide (v18<64))
 ((idx v20 v18).bind λx21=>
 (idx v20 v18).bind λx22=>
 jn (fun(b23:Bool)=>
 cond b23
 (some false)
 (r3 ((IntKind.wrap .i64 (v18+1)),v19,v20,()))) λk24=>
 cond (decide (x22>1))
 (k24 true)
 ((idx v20 v18).bind λx25=>
 (idx v20 v18).bind λx26=>
 jn (fun(b27:Bool)=>
 k24 b27) λk28=>
 cond (x26==0)
 ((idx v19.pages v18).bind λx29=>
 k28 (x29.kind !=0))
 (k28 false)))
 ((ref13_Depths n v19 0 1).bind λy30=>
 ref13_Right_l4 n n (1,y30,()))
def ref13_Right_l2(n:Nat):Nat→Int×Forest×(List Int)×(List Int)×Unit→Option Bool:=loopF λr2 ⟨v6,v7,v8,v9,_⟩=>
 cond (decide (v6<(v8.length:Int)))
 ((idx v8 v6).bind λx10=>
 (idx v8 v6).bind λx11=>
 (idx v8 v6).bind λx12=>
 (idx v8 v6).bind λx13=>
 (idx v9 x13).bind λx14=>
 (idx v9 x13).bind λx15=>
 (idx v9 x11).bind λx16=>
 (put v9 x11 (IntKind.wrap .i64 (x15+1))).bind λl17=>
 r2 ((IntKind.wrap .i64 (v6+1)),v7,v8,l17,()))
 (ref13_Right_l3 n n (0,v7,v9,()))
def ref13_Right_l1(n:Nat):Nat→Int×Forest×Unit→Option Bool:=loopF λr1 ⟨v1,v2,_⟩=>
 cond (decide (v1<64))
 ((idx v2.pages v1).bind λx3=>
 (ref06_Right n x3).bind λy4=>
 cond (!y4)
 (some false)
 (r1 ((IntKind.wrap .i64 (v1+1)),v2,())))
 ((ref13_Pages n v2 0 (ref13_Bound.mk (Key.mk 0 0) (Key.mk 0 0) false) 8).bind λy5=>
 cond ((y5.length:Int)==0)
 (some false)
 (ref13_Right_l2 n n (0,v2,y5,(List.replicate 64 0),())))
def ref13_Right(n:Nat)(p0:Forest):Option Bool:=
 cond ((p0.pages.length:Int) !=64)
 (some false)
 (ref13_Right_l1 n n (0,p0,()))
@[reducible] def ref13_Right_ct:Ct tab:=⟨26,[.st 5],[],[.one (.d .bool)],[],Bool,λy=>(y,()),λy=>y.1,λ_=>rfl,λn x=>ref13_Right n x.1⟩
theorem ref13_Right_ok:OkC Tryz.prog tab ref13_Right_ct:=fn_ok (W:=⟨Tryz.prog,tab,tyOf,[ref06_Right_ct,ref13_Pages_ct,ref13_Depths_ct],addO,dpO,false⟩) ⟨tabOk,⟨ref06_Right_ok,ref13_Pages_ok,ref13_Depths_ok,trivial⟩,addOk⟩ (by kernel_rfl) 93 Tryz.f26 (.sq (.n) (.sq (.n) (.sq (.sq (.n) (.bk none (.lp ⟨[(1,.one (.box 0 0)),(3,.one (.d (.int .i64)))],[.bst 5],[]⟩ (.n)))) (.sq (.n) (.sq (.n) (.sq (.n) (.sq (.sq (.n) (.bk none (.lp ⟨[(1,.one (.box 0 0)),(4,.one (.own 1)),(5,.one (.own 2)),(6,.one (.d (.int .i64)))],[.bst 5,.row 3 (.int .i64),.row 3 (.int .i64)],[]⟩ (.n)))) (.sq (.sq (.n) (.bk none (.lp ⟨[(1,.one (.box 0 0)),(5,.one (.own 1)),(7,.one (.d (.int .i64)))],[.bst 5,.row 3 (.int .i64)],[]⟩ (.n)))) (.sq (.n) (.sq (.sq (.n) (.bk none (.lp ⟨[(8,.one (.own 0)),(9,.one (.d (.int .i64)))],[.row 3 (.int .i64)],[]⟩ (.n)))) (.n))))))))))) Tryz.func26 Tryz.call26 rfl (by kernel_rfl) (by kernel_rfl) (by kernel_rfl) λn x=>by kernel_rfl
def page_Small(n:Nat)(p0:Content):Option Bool:=
 (codec_Check n p0).bind λy1=>
 jn (fun(b2:Bool)=>
 jn (fun(b4:Bool)=>
 some b4) λk5=>
 cond b2
 ((page_size n p0).bind λy6=>
 k5 (decide (y6≤2)))
 (k5 false)) λk3=>
 cond (y1==0)
 (k3 (p0.kind !=0))
 (k3 false)
@[reducible] def page_Small_ct:Ct tab:=⟨67,[.st 4],[],[.one (.d .bool)],[],Bool,λy=>(y,()),λy=>y.1,λ_=>rfl,λn x=>page_Small n x.1⟩
theorem page_Small_ok:OkC Tryz.prog tab page_Small_ct:=fn_ok (W:=⟨Tryz.prog,tab,tyOf,[codec_Check_ct,page_size_ct],addO,dpO,false⟩) ⟨tabOk,⟨codec_Check_ok,page_size_ok,trivial⟩,addOk⟩ (by kernel_rfl) 16 Tryz.f67 (.n) Tryz.func67 Tryz.call67 rfl (by kernel_rfl) (by kernel_rfl) (by kernel_rfl) λn x=>by kernel_rfl
def page_alike(n:Nat)(p0:Content)(p1:Content):Option Bool:=
 jn (fun(b1:Bool)=>
 some b1) λk2=>
 cond (p0.kind==p1.kind)
 (k2 (p0.kind !=0))
 (k2 false)
@[reducible] def page_alike_ct:Ct tab:=⟨151,[.st 4,.st 4],[],[.one (.d .bool)],[],Bool,λy=>(y,()),λy=>y.1,λ_=>rfl,λn x=>page_alike n x.1 x.2.1⟩
theorem page_alike_ok:OkC Tryz.prog tab page_alike_ct:=fn_ok (W:=⟨Tryz.prog,tab,tyOf,[],addO,dpO,false⟩) ⟨tabOk,trivial,addOk⟩ (by kernel_rfl) 15 Tryz.f151 (.n) Tryz.func151 Tryz.call151 rfl (by kernel_rfl) (by kernel_rfl) (by kernel_rfl) λn x=>by kernel_rfl
theorem slices_Grow_Row_raw(p1:Int)(r:List (Raw 4))(h:growL 40 p1=some r):
  Meets Tryz.prog 194 #[.slice none 0 0,.int .i64 p1] [] [] λv A P=>∃(a0:Option Addr) (c0:Nat),v= .slice a0 r.length c0∧A=[rowF (rawF 4) 40 a0 c0 r]∧P=[]:=by
 unfold growL at h
 split at h
 ·rename_i h0
  split at h
  ·rename_i hroom
   obtain rfl:=someI' h
   obtain⟨k,rfl⟩:=Int.eq_ofNat_of_zero_le h0
   have hroom:room k 40=true:=hroom
   have hw:IntKind.wrap .i64 ((k:Int)-IntKind.wrap .i64 (((0:Nat):Int)-((0:Nat):Int)))=(k:Int):=by
    have hb:=Nat.le_of_ble_eq_true hroom
    rw[IntKind.wrap_i64,IntKind.wrap_i64];omega
   refine meets_enter 27 Tryz.func194 Tryz.call194 rfl (by kernel_rfl) (by simp) λC a w hS=> ?_
   refine k_seq (by kernel_rfl) λK1 hK1=> ?_
   refine k_reg 1 (by kernel_rfl) ?_
   refine r_run 0 1 [0,1,4] [] hS rfl (L':=[(0,.slice none 0 0),(1,.int .i64 (k:Int)),(4,.slice none 0 0)]) (As':=[]) (ob:=[]) (by kernel_rfl) trivial λa w hS=> ?_
   refine wl_end ?_
   refine hK1 _ _ ?_
   refine k_seq (by kernel_rfl) λK2 hK2=> ?_
   refine k_seq (by kernel_rfl) λK3 hK3=> ?_
   refine k_reg 2 (by kernel_rfl) ?_
   refine r_run 0 2 [0,1,6] [] hS rfl (L':=[(0,.slice none 0 0),(1,.int .i64 (k:Int)),(6,.bool (decide ((k:Int)<0)))]) (As':=[]) (ob:=[]) (by kernel_rfl) trivial λa w hS=> ?_
   refine wl_end ?_
   refine hK3 _ _ ?_
   refine k_cond (decide ((k:Int)<0)) hS.has (by kernel_rfl) (by kernel_rfl) (by kernel_rfl) (λhq=>absurd (of_decide_eq_true hq) (by omega)) (λhq=> ?_)
   refine k_skip (by kernel_rfl) ?_
   refine hK2 _ _ ?_
   refine k_seq (by kernel_rfl) λK4 hK4=> ?_
   refine k_seq (by kernel_rfl) λK5 hK5=> ?_
   refine k_reg 8 (by kernel_rfl) ?_
   refine r_run 0 8 [0,1] [.as 14 (.int .i64 (k:Int))] hS rfl (L':=[(0,.slice none 0 0),(1,.int .i64 (k:Int))]) (As':=[]) (ob:=[λ_=>Value.int .i64 (IntKind.wrap .i64 ((k:Int)-IntKind.wrap .i64 (((0:Nat):Int)-((0:Nat):Int))))= .int .i64 (k:Int)]) (by kernel_rfl) ⟨Bx.c (by rw[hw]),trivial⟩ λa w hS=> ?_
   refine wl_end ?_
   refine hK5 _ _ ?_
   refine k_seq (by kernel_rfl) λK6 hK6=> ?_
   refine k_reg 2 (by kernel_rfl) ?_
   refine r_run 0 2 [0,1,16] [] hS rfl (L':=[(0,.slice none 0 0),(1,.int .i64 (k:Int)),(16,.bool (decide ((k:Int)>0)))]) (As':=[]) (ob:=[]) (by kernel_rfl) trivial λa w hS=> ?_
   refine wl_end ?_
   refine hK6 _ _ ?_
   refine k_cond (decide ((k:Int)>0)) hS.has (by kernel_rfl) (by kernel_rfl) (by kernel_rfl) (λhq=> ?_) (λhq=> ?_)
   ·have hk:0<k:=by have:=of_decide_eq_true hq;omega
    refine k_reg 10 (by kernel_rfl) ?_
    refine r_run 0 5 [0,20,21] [.as 20 (.slice none 0 0)] hS rfl (L':=[(0,.slice none 0 0),(20,.slice none 0 0),(21,.int .i64 (k:Int))]) (As':=[]) (ob:=[λ_=>(0:Int)≤0∧(0:Int)≤((0:Nat):Int)∧((0:Nat):Int)≤((0:Nat):Int),λ_=>Value.slice (slA none (Int.toNat 0) 0 4) (Int.toNat ((0:Nat):Int)-Int.toNat 0) (0-Int.toNat 0)= .slice none 0 0]) (by kernel_rfl) ⟨Bx.c (by decide),Bx.c (by rfl),trivial⟩ λa w hS=> ?_
    obtain⟨w',g2,c2,ds,hrun,hc2,hrow,hext,hg2,hg2'⟩:=run_zeros_nil (w:=w) (P:=Tryz.prog) (e:=40) (sz:=((rawF 4)).sz) (t:=30) (tn:=3) (ty:=30) (k:=k) (bytes:=40) (inf:=Tryz.t40) (z:=(Tryz.t40.zero).getD undef) (kq:= .i64) (kn:= .i64) (by kernel_rfl) (by kernel_rfl) (by kernel_rfl) (by kernel_rfl) (by kernel_rfl) (by kernel_rfl) (by kernel_rfl) (by decide) (by decide) hk hroom
    refine r_bltN 5 rfl (d:=some 22) (b:= .append) (ts:= #[30,3]) (ty:=30) (vs:= #[.slice none 0 0,.int .i64 (k:Int)]) hS (by kernel_rfl) _ hrun hrow hext (λx hx=>by simp[Asn.fp] at hx;subst hx;exact⟨hg2,hg2'⟩) (by simp[Asn.fp]) λa hS=> ?_
    refine r_run 6 4 [0] [.as 25 (.slice (some ⟨g2,0,none⟩) 0 c2)] hS rfl (L':=[(0,.slice (some ⟨g2,0,none⟩) 0 c2)]) (As':=[.row (some ⟨g2,0,none⟩) c2 40 ((rawF 4)).sz c2 ds]) (ob:=[λ_=>(0:Int)≤0∧(0:Int)≤((0:Nat):Int)∧((0:Nat):Int)≤(c2:Int),λ_=>Value.slice (slA (some ⟨g2,0,none⟩) (Int.toNat 0) c2 4) (Int.toNat ((0:Nat):Int)-Int.toNat 0) (c2-Int.toNat 0)= .slice (some ⟨g2,0,none⟩) 0 c2]) (by kernel_rfl) ⟨Bx.c ⟨by decide,by decide,by omega⟩,Bx.c (by unfold slA;split<;>simp[Addr.add]),trivial⟩ λa w hS=> ?_
    replace hS:=hS.same (B:=rowF (rawF 4) 40 (some ⟨g2,0,none⟩) c2 []) 0 rfl (λhA=>row_app_form hA rfl (Nat.zero_le _) (by simp)) rfl (by simp[Asn.fp])
    refine wl_end ?_
    refine hK4 _ _ ?_
    refine k_seq (by kernel_rfl) λK7 hK7=> ?_
    refine k_reg 2 (by kernel_rfl) ?_
    refine r_run 0 2 [4] [] hS rfl (L':=[(4,.slice (some ⟨g2,0,none⟩) 0 c2)]) (As':=[rowF (rawF 4) 40 (some ⟨g2,0,none⟩) c2 []]) (ob:=[]) (by kernel_rfl) trivial λa w hS=> ?_
    refine wl_end ?_
    refine hK7 _ _ ?_
    refine k_ret (by kernel_rfl) ?_
    try simp only[Exit.then,Exit.inBlock]
    refine r_ret hS [.tmp 4] [] (xs:=[.slice (some ⟨g2,0,none⟩) 0 c2]) (ps:=[]) [0] [] rfl (by kernel_rfl) (λhA=>trivial) rfl (λF up=>trivial) ?_
    exact⟨some ⟨g2,0,none⟩,c2,rfl,rfl,rfl⟩
   ·refine k_skip (by kernel_rfl) ?_
    refine hK4 _ _ ?_
    refine k_seq (by kernel_rfl) λK7 hK7=> ?_
    refine k_reg 2 (by kernel_rfl) ?_
    refine r_run 0 2 [4] [] hS rfl (L':=[(4,.slice none 0 0)]) (As':=[]) (ob:=[]) (by kernel_rfl) trivial λa w hS=> ?_
    refine wl_end ?_
    refine hK7 _ _ ?_
    refine k_ret (by kernel_rfl) ?_
    try simp only[Exit.then,Exit.inBlock]
    replace hS:=hS.nilrow (e:=40) (sz:=((rawF 4)).sz)
    refine r_ret hS [.tmp 4] [] (xs:=[.slice none 0 0]) (ps:=[]) [0] [] rfl (by kernel_rfl) (λhA=>trivial) rfl (λF up=>trivial) ?_
    exact⟨none,0,rfl,rfl,rfl⟩
  ·cases h
 ·cases h
def slices_Grow_Row(n:Nat)(p1:Int):Option (List Row):=growL 40 p1
@[reducible] def slices_Grow_Row_ct:Ct tab:=⟨194,[.one .nil,.one (.d (.int .i64))],[],[.one (.own 0)],[(none,.row 40 (.st 2))],List Row,λy=>(y,()),λy=>y.1,λ_=>rfl,λn x=>slices_Grow_Row n x.1⟩
theorem slices_Grow_Row_ok:OkC Tryz.prog tab slices_Grow_Row_ct:=grow_ok (t:= .st 2) (m:=4) (bytes:=40) tabOk rfl Tryz.call194 λp1 r h=>slices_Grow_Row_raw p1 r h
def slices_Concat_Row_j2(n:Nat)(r1:(List (List Row))×Int×(List (List Row))×Int×Int×Unit→Option ((List Row))):(List (List Row))×Int×(List (List Row))×Int×Int×Unit→Option ((List Row)):=fun⟨v7,v8,v9,v10,v11,_⟩=>
 r1 (v7,v8,v9,v10,(IntKind.wrap .i64 (v11+1)),())
def slices_Concat_Row_l3(n:Nat):Nat→(List (List Row))×Int×Int×(List Row)×Unit→Option ((List Row)):=loopF λr3 ⟨v13,v14,v15,v16,_⟩=>
 cond (decide (v15<v14))
 ((idx v13 v15).bind λx17=>
 (app 40 v16 x17).bind λl18=>
 r3 (v13,v14,(IntKind.wrap .i64 (v15+1)),l18,()))
 (some v16)
def slices_Concat_Row_l1(n:Nat):Nat→(List (List Row))×Int×(List (List Row))×Int×Int×Unit→Option ((List Row)):=loopF λr1 ⟨v1,v2,v3,v4,v5,_⟩=>
 cond (decide (v5<v4))
 ((idx v3 v5).bind λx6=>
 jn (slices_Concat_Row_j2 n r1) λj2=>
 cond (decide ((IntKind.wrap .i64 (v2+(x6.length:Int)))<0))
 (none)
 (j2 (v1,(IntKind.wrap .i64 (v2+(x6.length:Int))),v3,v4,v5,())))
 ((slices_Grow_Row n v2).bind λy12=>
 slices_Concat_Row_l3 n n (v1,(v1.length:Int),0,y12,()))
def slices_Concat_Row(n:Nat)(p0:List (List Row)):Option ((List Row)):=
 slices_Concat_Row_l1 n n (p0,0,p0,(p0.length:Int),0,())
@[reducible] def slices_Concat_Row_ct:Ct tab:=⟨182,[.one (.d (.sl (.sl (.st 2))))],[],[.one (.own 0)],[(none,.row 40 (.st 2))],((List Row)),λy=>(y,()),λy=>y.1,λ_=>rfl,λn x=>slices_Concat_Row n x.1⟩
theorem slices_Concat_Row_ok:OkC Tryz.prog tab slices_Concat_Row_ct:=fn_ok (W:=⟨Tryz.prog,tab,tyOf,[slices_Grow_Row_ct],addO,dpO,false⟩) ⟨tabOk,⟨slices_Grow_Row_ok,trivial⟩,addOk⟩ (by kernel_rfl) 36 Tryz.f182 (.sq (.n) (.sq (.n) (.sq (.sq (.n) (.bk none (.lp ⟨[(0,.one (.d (.sl (.sl (.st 2))))),(3,.one (.d (.int .i64))),(9,.one (.d (.sl (.sl (.st 2))))),(10,.one (.d (.int .i64))),(11,.one (.d (.int .i64)))],[],[]⟩ (.sq (.n) (.sq (.n) (.sq (.bk none (.sq (.n) (.sq (.n) (.sq (.n) (.cd (some ⟨[(0,.one (.d (.sl (.sl (.st 2))))),(3,.one (.d (.int .i64))),(9,.one (.d (.sl (.sl (.st 2))))),(10,.one (.d (.int .i64))),(11,.one (.d (.int .i64)))],[],[]⟩) (.n) (.n)))))) (.n))))))) (.sq (.n) (.sq (.sq (.n) (.bk none (.lp ⟨[(6,.one (.own 0)),(25,.one (.d (.sl (.sl (.st 2))))),(26,.one (.d (.int .i64))),(27,.one (.d (.int .i64)))],[.row 40 (.st 2)],[]⟩ (.n)))) (.n)))))) Tryz.func182 Tryz.call182 rfl (by kernel_rfl) (by kernel_rfl) (by kernel_rfl) λn x=>by kernel_rfl
theorem slices_Grow_Kid_raw(p1:Int)(r:List (Raw 3))(h:growL 24 p1=some r):
  Meets Tryz.prog 195 #[.slice none 0 0,.int .i64 p1] [] [] λv A P=>∃(a0:Option Addr) (c0:Nat),v= .slice a0 r.length c0∧A=[rowF (rawF 3) 100 a0 c0 r]∧P=[]:=by
 unfold growL at h
 split at h
 ·rename_i h0
  split at h
  ·rename_i hroom
   obtain rfl:=someI' h
   obtain⟨k,rfl⟩:=Int.eq_ofNat_of_zero_le h0
   have hroom:room k 24=true:=hroom
   have hw:IntKind.wrap .i64 ((k:Int)-IntKind.wrap .i64 (((0:Nat):Int)-((0:Nat):Int)))=(k:Int):=by
    have hb:=Nat.le_of_ble_eq_true hroom
    rw[IntKind.wrap_i64,IntKind.wrap_i64];omega
   refine meets_enter 27 Tryz.func195 Tryz.call195 rfl (by kernel_rfl) (by simp) λC a w hS=> ?_
   refine k_seq (by kernel_rfl) λK1 hK1=> ?_
   refine k_reg 1 (by kernel_rfl) ?_
   refine r_run 0 1 [0,1,4] [] hS rfl (L':=[(0,.slice none 0 0),(1,.int .i64 (k:Int)),(4,.slice none 0 0)]) (As':=[]) (ob:=[]) (by kernel_rfl) trivial λa w hS=> ?_
   refine wl_end ?_
   refine hK1 _ _ ?_
   refine k_seq (by kernel_rfl) λK2 hK2=> ?_
   refine k_seq (by kernel_rfl) λK3 hK3=> ?_
   refine k_reg 2 (by kernel_rfl) ?_
   refine r_run 0 2 [0,1,6] [] hS rfl (L':=[(0,.slice none 0 0),(1,.int .i64 (k:Int)),(6,.bool (decide ((k:Int)<0)))]) (As':=[]) (ob:=[]) (by kernel_rfl) trivial λa w hS=> ?_
   refine wl_end ?_
   refine hK3 _ _ ?_
   refine k_cond (decide ((k:Int)<0)) hS.has (by kernel_rfl) (by kernel_rfl) (by kernel_rfl) (λhq=>absurd (of_decide_eq_true hq) (by omega)) (λhq=> ?_)
   refine k_skip (by kernel_rfl) ?_
   refine hK2 _ _ ?_
   refine k_seq (by kernel_rfl) λK4 hK4=> ?_
   refine k_seq (by kernel_rfl) λK5 hK5=> ?_
   refine k_reg 8 (by kernel_rfl) ?_
   refine r_run 0 8 [0,1] [.as 14 (.int .i64 (k:Int))] hS rfl (L':=[(0,.slice none 0 0),(1,.int .i64 (k:Int))]) (As':=[]) (ob:=[λ_=>Value.int .i64 (IntKind.wrap .i64 ((k:Int)-IntKind.wrap .i64 (((0:Nat):Int)-((0:Nat):Int))))= .int .i64 (k:Int)]) (by kernel_rfl) ⟨Bx.c (by rw[hw]),trivial⟩ λa w hS=> ?_
   refine wl_end ?_
   refine hK5 _ _ ?_
   refine k_seq (by kernel_rfl) λK6 hK6=> ?_
   refine k_reg 2 (by kernel_rfl) ?_
   refine r_run 0 2 [0,1,16] [] hS rfl (L':=[(0,.slice none 0 0),(1,.int .i64 (k:Int)),(16,.bool (decide ((k:Int)>0)))]) (As':=[]) (ob:=[]) (by kernel_rfl) trivial λa w hS=> ?_
   refine wl_end ?_
   refine hK6 _ _ ?_
   refine k_cond (decide ((k:Int)>0)) hS.has (by kernel_rfl) (by kernel_rfl) (by kernel_rfl) (λhq=> ?_) (λhq=> ?_)
   ·have hk:0<k:=by have:=of_decide_eq_true hq;omega
    refine k_reg 10 (by kernel_rfl) ?_
    refine r_run 0 5 [0,20,21] [.as 20 (.slice none 0 0)] hS rfl (L':=[(0,.slice none 0 0),(20,.slice none 0 0),(21,.int .i64 (k:Int))]) (As':=[]) (ob:=[λ_=>(0:Int)≤0∧(0:Int)≤((0:Nat):Int)∧((0:Nat):Int)≤((0:Nat):Int),λ_=>Value.slice (slA none (Int.toNat 0) 0 3) (Int.toNat ((0:Nat):Int)-Int.toNat 0) (0-Int.toNat 0)= .slice none 0 0]) (by kernel_rfl) ⟨Bx.c (by decide),Bx.c (by rfl),trivial⟩ λa w hS=> ?_
    obtain⟨w',g2,c2,ds,hrun,hc2,hrow,hext,hg2,hg2'⟩:=run_zeros_nil (w:=w) (P:=Tryz.prog) (e:=100) (sz:=((rawF 3)).sz) (t:=45) (tn:=3) (ty:=45) (k:=k) (bytes:=24) (inf:=Tryz.t100) (z:=(Tryz.t100.zero).getD undef) (kq:= .i64) (kn:= .i64) (by kernel_rfl) (by kernel_rfl) (by kernel_rfl) (by kernel_rfl) (by kernel_rfl) (by kernel_rfl) (by kernel_rfl) (by decide) (by decide) hk hroom
    refine r_bltN 5 rfl (d:=some 22) (b:= .append) (ts:= #[45,3]) (ty:=45) (vs:= #[.slice none 0 0,.int .i64 (k:Int)]) hS (by kernel_rfl) _ hrun hrow hext (λx hx=>by simp[Asn.fp] at hx;subst hx;exact⟨hg2,hg2'⟩) (by simp[Asn.fp]) λa hS=> ?_
    refine r_run 6 4 [0] [.as 25 (.slice (some ⟨g2,0,none⟩) 0 c2)] hS rfl (L':=[(0,.slice (some ⟨g2,0,none⟩) 0 c2)]) (As':=[.row (some ⟨g2,0,none⟩) c2 100 ((rawF 3)).sz c2 ds]) (ob:=[λ_=>(0:Int)≤0∧(0:Int)≤((0:Nat):Int)∧((0:Nat):Int)≤(c2:Int),λ_=>Value.slice (slA (some ⟨g2,0,none⟩) (Int.toNat 0) c2 3) (Int.toNat ((0:Nat):Int)-Int.toNat 0) (c2-Int.toNat 0)= .slice (some ⟨g2,0,none⟩) 0 c2]) (by kernel_rfl) ⟨Bx.c ⟨by decide,by decide,by omega⟩,Bx.c (by unfold slA;split<;>simp[Addr.add]),trivial⟩ λa w hS=> ?_
    replace hS:=hS.same (B:=rowF (rawF 3) 100 (some ⟨g2,0,none⟩) c2 []) 0 rfl (λhA=>row_app_form hA rfl (Nat.zero_le _) (by simp)) rfl (by simp[Asn.fp])
    refine wl_end ?_
    refine hK4 _ _ ?_
    refine k_seq (by kernel_rfl) λK7 hK7=> ?_
    refine k_reg 2 (by kernel_rfl) ?_
    refine r_run 0 2 [4] [] hS rfl (L':=[(4,.slice (some ⟨g2,0,none⟩) 0 c2)]) (As':=[rowF (rawF 3) 100 (some ⟨g2,0,none⟩) c2 []]) (ob:=[]) (by kernel_rfl) trivial λa w hS=> ?_
    refine wl_end ?_
    refine hK7 _ _ ?_
    refine k_ret (by kernel_rfl) ?_
    try simp only[Exit.then,Exit.inBlock]
    refine r_ret hS [.tmp 4] [] (xs:=[.slice (some ⟨g2,0,none⟩) 0 c2]) (ps:=[]) [0] [] rfl (by kernel_rfl) (λhA=>trivial) rfl (λF up=>trivial) ?_
    exact⟨some ⟨g2,0,none⟩,c2,rfl,rfl,rfl⟩
   ·refine k_skip (by kernel_rfl) ?_
    refine hK4 _ _ ?_
    refine k_seq (by kernel_rfl) λK7 hK7=> ?_
    refine k_reg 2 (by kernel_rfl) ?_
    refine r_run 0 2 [4] [] hS rfl (L':=[(4,.slice none 0 0)]) (As':=[]) (ob:=[]) (by kernel_rfl) trivial λa w hS=> ?_
    refine wl_end ?_
    refine hK7 _ _ ?_
    refine k_ret (by kernel_rfl) ?_
    try simp only[Exit.then,Exit.inBlock]
    replace hS:=hS.nilrow (e:=100) (sz:=((rawF 3)).sz)
    refine r_ret hS [.tmp 4] [] (xs:=[.slice none 0 0]) (ps:=[]) [0] [] rfl (by kernel_rfl) (λhA=>trivial) rfl (λF up=>trivial) ?_
    exact⟨none,0,rfl,rfl,rfl⟩
  ·cases h
 ·cases h
def slices_Grow_Kid(n:Nat)(p1:Int):Option (List Kid):=growL 24 p1
@[reducible] def slices_Grow_Kid_ct:Ct tab:=⟨195,[.one .nil,.one (.d (.int .i64))],[],[.one (.own 0)],[(none,.row 100 (.st 3))],List Kid,λy=>(y,()),λy=>y.1,λ_=>rfl,λn x=>slices_Grow_Kid n x.1⟩
theorem slices_Grow_Kid_ok:OkC Tryz.prog tab slices_Grow_Kid_ct:=grow_ok (t:= .st 3) (m:=3) (bytes:=24) tabOk rfl Tryz.call195 λp1 r h=>slices_Grow_Kid_raw p1 r h
def slices_Concat_Kid_j2(n:Nat)(r1:(List (List Kid))×Int×(List (List Kid))×Int×Int×Unit→Option ((List Kid))):(List (List Kid))×Int×(List (List Kid))×Int×Int×Unit→Option ((List Kid)):=fun⟨v7,v8,v9,v10,v11,_⟩=>
 r1 (v7,v8,v9,v10,(IntKind.wrap .i64 (v11+1)),())
def slices_Concat_Kid_l3(n:Nat):Nat→(List (List Kid))×Int×Int×(List Kid)×Unit→Option ((List Kid)):=loopF λr3 ⟨v13,v14,v15,v16,_⟩=>
 cond (decide (v15<v14))
 ((idx v13 v15).bind λx17=>
 (app 24 v16 x17).bind λl18=>
 r3 (v13,v14,(IntKind.wrap .i64 (v15+1)),l18,()))
 (some v16)
def slices_Concat_Kid_l1(n:Nat):Nat→(List (List Kid))×Int×(List (List Kid))×Int×Int×Unit→Option ((List Kid)):=loopF λr1 ⟨v1,v2,v3,v4,v5,_⟩=>
 cond (decide (v5<v4))
 ((idx v3 v5).bind λx6=>
 jn (slices_Concat_Kid_j2 n r1) λj2=>
 cond (decide ((IntKind.wrap .i64 (v2+(x6.length:Int)))<0))
 (none)
 (j2 (v1,(IntKind.wrap .i64 (v2+(x6.length:Int))),v3,v4,v5,())))
 ((slices_Grow_Kid n v2).bind λy12=>
 slices_Concat_Kid_l3 n n (v1,(v1.length:Int),0,y12,()))
def slices_Concat_Kid(n:Nat)(p0:List (List Kid)):Option ((List Kid)):=
 slices_Concat_Kid_l1 n n (p0,0,p0,(p0.length:Int),0,())
@[reducible] def slices_Concat_Kid_ct:Ct tab:=⟨183,[.one (.d (.sl (.sl (.st 3))))],[],[.one (.own 0)],[(none,.row 100 (.st 3))],((List Kid)),λy=>(y,()),λy=>y.1,λ_=>rfl,λn x=>slices_Concat_Kid n x.1⟩
theorem slices_Concat_Kid_ok:OkC Tryz.prog tab slices_Concat_Kid_ct:=fn_ok (W:=⟨Tryz.prog,tab,tyOf,[slices_Grow_Kid_ct],addO,dpO,false⟩) ⟨tabOk,⟨slices_Grow_Kid_ok,trivial⟩,addOk⟩ (by kernel_rfl) 36 Tryz.f183 (.sq (.n) (.sq (.n) (.sq (.sq (.n) (.bk none (.lp ⟨[(0,.one (.d (.sl (.sl (.st 3))))),(3,.one (.d (.int .i64))),(9,.one (.d (.sl (.sl (.st 3))))),(10,.one (.d (.int .i64))),(11,.one (.d (.int .i64)))],[],[]⟩ (.sq (.n) (.sq (.n) (.sq (.bk none (.sq (.n) (.sq (.n) (.sq (.n) (.cd (some ⟨[(0,.one (.d (.sl (.sl (.st 3))))),(3,.one (.d (.int .i64))),(9,.one (.d (.sl (.sl (.st 3))))),(10,.one (.d (.int .i64))),(11,.one (.d (.int .i64)))],[],[]⟩) (.n) (.n)))))) (.n))))))) (.sq (.n) (.sq (.sq (.n) (.bk none (.lp ⟨[(6,.one (.own 0)),(25,.one (.d (.sl (.sl (.st 3))))),(26,.one (.d (.int .i64))),(27,.one (.d (.int .i64)))],[.row 100 (.st 3)],[]⟩ (.n)))) (.n)))))) Tryz.func183 Tryz.call183 rfl (by kernel_rfl) (by kernel_rfl) (by kernel_rfl) λn x=>by kernel_rfl
def page_joined(n:Nat)(p0:Content)(p1:Content)(p2:Key):Option Content:=
 cond (p0.kind==1)
 ((slices_Concat_Row n ([p0.rows,p1.rows]:List (List Row))).bind λy1=>
 (page_leaf n y1).bind λy2=>
 some y2)
 ((slices_Clone_Kid n p1.kids).bind λy3=>
 (page_first n p2 y3).bind λy4=>
 (slices_Concat_Kid n ([p0.kids,y4.2]:List (List Kid))).bind λy5=>
 (page_inner n y5).bind λy6=>
 some y6)
@[reducible] def page_joined_ct:Ct tab:=⟨152,[.st 4,.st 4,.st 1],[],[.st 4],[],Content,λy=>(y,()),λy=>y.1,λ_=>rfl,λn x=>page_joined n x.1 x.2.1 x.2.2.1⟩
theorem page_joined_ok:OkC Tryz.prog tab page_joined_ct:=fn_ok (W:=⟨Tryz.prog,tab,tyOf,[slices_Concat_Row_ct,page_leaf_ct,slices_Clone_Kid_ct,page_first_ct,slices_Concat_Kid_ct,page_inner_ct],addO,dpO,false⟩) ⟨tabOk,⟨slices_Concat_Row_ok,page_leaf_ok,slices_Clone_Kid_ok,page_first_ok,slices_Concat_Kid_ok,page_inner_ok,trivial⟩,addOk⟩ (by kernel_rfl) 30 Tryz.f152 (.n) Tryz.func152 Tryz.call152 rfl (by kernel_rfl) (by kernel_rfl) (by kernel_rfl) λn x=>by kernel_rfl
def page_Join(n:Nat)(p0:Content)(p1:Content)(p2:Key):Option (Content×Int):=
 (page_asked n 0 ([p0,p1]:List Content)).bind λy1=>
 cond (y1 !=0)
 (some ((Content.mk 0 ([]:List Row) ([]:List Kid)),y1))
 ((page_alike n p0 p1).bind λy2=>
 cond (!y2)
 (some ((Content.mk 0 ([]:List Row) ([]:List Kid)),2))
 ((page_size n p0).bind λy3=>
 (page_size n p1).bind λy4=>
 cond (decide ((IntKind.wrap .i64 (y3+y4))>4))
 (some ((Content.mk 0 ([]:List Row) ([]:List Kid)),6))
 ((page_joined n p0 p1 p2).bind λy5=>
 (page_one n y5).bind λy6=>
 some (y6.1,y6.2))))
@[reducible] def page_Join_ct:Ct tab:=⟨111,[.st 4,.st 4,.st 1],[],[.st 4,.one (.d (.int .i64))],[],(Content×Int),λy=>(y.1,y.2,()),λy=>(y.1,y.2.1),λ_=>rfl,λn x=>page_Join n x.1 x.2.1 x.2.2.1⟩
theorem page_Join_ok:OkC Tryz.prog tab page_Join_ct:=fn_ok (W:=⟨Tryz.prog,tab,tyOf,[page_asked_ct,page_alike_ct,page_size_ct,page_joined_ct,page_one_ct],addO,dpO,false⟩) ⟨tabOk,⟨page_asked_ok,page_alike_ok,page_size_ok,page_joined_ok,page_one_ok,trivial⟩,addOk⟩ (by kernel_rfl) 38 Tryz.f111 (.n) Tryz.func111 Tryz.call111 rfl (by kernel_rfl) (by kernel_rfl) (by kernel_rfl) λn x=>by kernel_rfl
def page_behind(n:Nat)(p0:Content)(p1:Int):Option Bool:=
 jn (fun(b1:Bool)=>
 some b1) λk2=>
 cond (decide (p1≥1))
 (k2 (decide (p1<(p0.kids.length:Int))))
 (k2 false)
@[reducible] def page_behind_ct:Ct tab:=⟨153,[.st 4,.one (.d (.int .i64))],[],[.one (.d .bool)],[],Bool,λy=>(y,()),λy=>y.1,λ_=>rfl,λn x=>page_behind n x.1 x.2.1⟩
theorem page_behind_ok:OkC Tryz.prog tab page_behind_ct:=fn_ok (W:=⟨Tryz.prog,tab,tyOf,[],addO,dpO,false⟩) ⟨tabOk,trivial,addOk⟩ (by kernel_rfl) 14 Tryz.f153 (.n) Tryz.func153 Tryz.call153 rfl (by kernel_rfl) (by kernel_rfl) (by kernel_rfl) λn x=>by kernel_rfl
theorem slices_Delete_Kid_raw{a0:Option Addr}{c0:Nat}(p0:List (Raw 3))(p1 p2:Int)(r:List (Raw 3))(h:delL p0 p1 p2=some r):
  Meets Tryz.prog 154 #[.slice a0 p0.length c0,.int .i64 p1,.int .i64 p2] [rowF (rawF 3) 100 a0 c0 p0] [] λv A P=>∃(a:Option Addr) (c:Nat),v= .slice a r.length c∧A=[rowF (rawF 3) 100 a c r]∧P=[]:=by
 unfold delL at h
 split at h
 case isFalse=>cases h
 rename_i hb
 obtain⟨hb0,hb1,hb2⟩:=hb
 obtain rfl:=someI h
 obtain⟨i,hi⟩:∃i:Nat,p1=(i:Int):=⟨p1.toNat,by omega⟩
 obtain⟨j,hj⟩:∃j:Nat,p2=(j:Int):=⟨p2.toNat,by omega⟩
 subst hi hj
 simp only[Int.toNat_natCast]
 have hij:i≤j:=by omega
 have hjl:j≤p0.length:=by omega
 refine meets_enter 33 Tryz.func154 Tryz.call154 rfl (by kernel_rfl) (by simp) λC a w hS=> ?_
 have hc:p0.length≤c0:=(row_len (hS.st.own _ (List.mem_cons_self ..))).2.1
 refine k_seq (by kernel_rfl) λK1 hK1=> ?_
 refine k_reg 1 (by kernel_rfl) ?_
 refine r_run 0 1 [0,1,2] [] hS rfl (L':=[(0,.slice a0 p0.length c0),(1,.int .i64 i),(2,.int .i64 j)]) (As':=[rowF (rawF 3) 100 a0 c0 p0]) (ob:=[]) (by kernel_rfl) trivial λa w hS=> ?_
 refine wl_end ?_
 refine hK1 _ _ ?_
 refine k_seq (by kernel_rfl) λK2 hK2=> ?_
 refine k_reg 6 (by kernel_rfl) ?_
 refine r_run 0 6 [0,1,2] [] hS rfl (L':=[(0,.slice a0 p0.length c0),(1,.int .i64 i),(2,.int .i64 j)]) (As':=[rowF (rawF 3) 100 a0 c0 p0]) (ob:=[λ_=>0≤(i:Int)∧(i:Int)≤(j:Int)∧(j:Int)≤(p0.length:Int)∧(p0.length:Int)≤(c0:Int)]) (by kernel_rfl) ⟨Bx.c ⟨hb0,hb1,hb2,by omega⟩,trivial⟩ λa w hS=> ?_
 refine wl_end ?_
 refine hK2 _ _ ?_
 refine k_seq (by kernel_rfl) λK3 hK3=> ?_
 refine k_seq (by kernel_rfl) λK4 hK4=> ?_
 refine k_reg 3 (by kernel_rfl) ?_
 refine r_run 0 3 [0,1,2,16] [] hS rfl (L':=[(0,.slice a0 p0.length c0),(1,.int .i64 i),(2,.int .i64 j),(16,.bool ((i:Int)==(j:Int)))]) (As':=[rowF (rawF 3) 100 a0 c0 p0]) (ob:=[]) (by kernel_rfl) trivial λa w hS=> ?_
 refine wl_end ?_
 refine hK4 _ _ ?_
 refine k_cond ((i:Int)==(j:Int)) hS.has (by kernel_rfl) (by kernel_rfl) (by kernel_rfl) (λhq=> ?_) (λhq=> ?_)
 ·have hij:i=j:=by
   have:=of_decide_eq_true (p:=(i:Int)=(j:Int)) (by simpa using hq)
   omega
  subst hij
  refine k_seq (by kernel_rfl) λK5 hK5=> ?_
  refine k_reg 2 (by kernel_rfl) ?_
  refine r_run 0 2 [6] [] hS rfl (L':=[(6,.slice a0 p0.length c0)]) (As':=[rowF (rawF 3) 100 a0 c0 p0]) (ob:=[]) (by kernel_rfl) trivial λa w hS=> ?_
  refine wl_end ?_
  refine hK5 _ _ ?_
  refine k_ret (by kernel_rfl) ?_
  try simp only[Exit.then,Exit.inBlock]
  refine r_ret hS [.tmp 6] [] (xs:=[.slice a0 p0.length c0]) (ps:=[]) [0] [] rfl (by kernel_rfl) (λhA=>trivial) rfl (λF up=>trivial) ?_
  rw[List.take_append_drop]
  exact⟨a0,c0,rfl,rfl,rfl⟩
 ·have hne:i≠j:=λe=>by
   subst e
   simp at hq
  have hlt:i<j:=by omega
  obtain⟨g,rfl⟩:=row_block (hS.st.own _ (List.mem_cons_self ..)) (by omega)
  refine k_skip (by kernel_rfl) ?_
  refine hK3 _ _ ?_
  refine k_seq (by kernel_rfl) λK5 hK5=> ?_
  refine k_reg 3 (by kernel_rfl) ?_
  refine r_run 0 3 [0,1,2,7] [] hS rfl (L':=[(0,.slice (some ⟨g,0,none⟩) p0.length c0),(1,.int .i64 i),(2,.int .i64 j),(7,.int .i64 (p0.length:Int))]) (As':=[rowF (rawF 3) 100 (some ⟨g,0,none⟩) c0 p0]) (ob:=[]) (by kernel_rfl) trivial λa w hS=> ?_
  refine wl_end ?_
  refine hK5 _ _ ?_
  refine k_seq (by kernel_rfl) λK6 hK6=> ?_
  refine k_draw 6 8 [.val (.slice (some ⟨g,0,none⟩) p0.length c0),.val (.int .i64 i),.val (.slice (slA (some ⟨g,0,none⟩) 0 c0 ((rawF 3)).sz) i c0),.val (.slice (some ⟨g,0,none⟩) p0.length c0),.val (.int .i64 j),.val (.slice (slA (some ⟨g,0,none⟩) j c0 ((rawF 3)).sz) (p0.length-j) (c0-j))] [] [(0,[]),(1,[]),(2,[]),(3,[]),(4,[]),(5,[])] [] (ob:=[λ_=>(0:Int)≤0∧(0:Int)≤(i:Int)∧(i:Int)≤(c0:Int),λ_=>0≤(j:Int)∧(j:Int)≤(p0.length:Int)∧(p0.length:Int)≤(c0:Int)]) (by kernel_rfl) (by kernel_rfl) hS (by kernel_rfl) (λF N0=>by kernel_rfl) (by kernel_rfl) (by kernel_rfl) (by kernel_rfl) (by kernel_rfl) ⟨Bx.c ⟨by omega,by omega,by omega⟩,Bx.c ⟨by omega,by omega,by omega⟩,trivial⟩ ?_ ?_
  ·exact trivial
  intro V a w e hS hq
  refine r_bltS 6 rfl 0 (.row (some ⟨g,0,none⟩) c0 100 ((rawF 3)).sz (i+(p0.length-j)) ((p0.flatMap ((rawF 3)).enc).take (i*((rawF 3)).sz)++(p0.flatMap ((rawF 3)).enc).drop (j*((rawF 3)).sz))) (d:=some 26) (b:= .append) (ts:= #[45,45]) (ty:=45) (vs:= #[.slice (slA (some ⟨g,0,none⟩) 0 c0 ((rawF 3)).sz) i c0,.slice (slA (some ⟨g,0,none⟩) j c0 ((rawF 3)).sz) (p0.length-j) (c0-j)]) hS (by kernel_rfl) rfl (λhA=>run_cut_row (t:=45) (ty:=45) (inf:=Tryz.t100) (by kernel_rfl) (by kernel_rfl) rfl hA (flat_one p0) hij hjl) rfl (by simp[Asn.fp]) λa w hS=> ?_
  have hn':p0.length-(i+(p0.length-j))=j-i:=by omega
  have hs0:slA (some (⟨g,0,none⟩:Addr)) (i+(p0.length-j)) c0 ((rawF 3)).sz=some ⟨g,(i+(p0.length-j))*((rawF 3)).sz,none⟩:=by
   unfold slA;rw[if_neg (by omega)];simp only[Option.map_some,addr_add0]
  refine r_run 7 1 [0,7] [] hS rfl (L':=[(0,.slice (some ⟨g,0,none⟩) (i+(p0.length-j)) c0),(7,.int .i64 (p0.length:Int))]) (As':=[.row (some ⟨g,0,none⟩) c0 100 ((rawF 3)).sz (i+(p0.length-j)) ((p0.flatMap ((rawF 3)).enc).take (i*((rawF 3)).sz)++(p0.flatMap ((rawF 3)).enc).drop (j*((rawF 3)).sz))]) (ob:=[]) (by kernel_rfl) trivial λa w hS=> ?_
  refine wl_end ?_
  refine hK6 _ _ ?_
  refine k_seq (by kernel_rfl) λK7 hK7=> ?_
  refine k_reg 6 (by kernel_rfl) ?_
  refine r_run 0 5 [0,31] [.as 31 (.slice (some ⟨g,(i+(p0.length-j))*((rawF 3)).sz,none⟩) (j-i) (c0-(i+(p0.length-j))))] hS rfl (L':=[(0,.slice (some ⟨g,0,none⟩) (i+(p0.length-j)) c0),(31,.slice (some ⟨g,(i+(p0.length-j))*((rawF 3)).sz,none⟩) (j-i) (c0-(i+(p0.length-j))))]) (As':=[.row (some ⟨g,0,none⟩) c0 100 ((rawF 3)).sz (i+(p0.length-j)) ((p0.flatMap ((rawF 3)).enc).take (i*((rawF 3)).sz)++(p0.flatMap ((rawF 3)).enc).drop (j*((rawF 3)).sz))]) (ob:=[λ_=>0≤((i+(p0.length-j):Nat):Int)∧((i+(p0.length-j):Nat):Int)≤(p0.length:Int)∧(p0.length:Int)≤(c0:Int),λ_=>Value.slice (slA (some ⟨g,0,none⟩) (i+(p0.length-j)) c0 ((rawF 3)).sz) (p0.length-(i+(p0.length-j))) (c0-(i+(p0.length-j)))= .slice (some ⟨g,(i+(p0.length-j))*((rawF 3)).sz,none⟩) (j-i) (c0-(i+(p0.length-j)))]) (by kernel_rfl) ⟨Bx.c ⟨by omega,by omega,by omega⟩,Bx.c (by rw[hs0,hn']),trivial⟩ λa w hS=> ?_
  obtain⟨ds,hd1,hd2,hd3,hd4⟩:=row_full (hS.st.own _ (List.mem_cons_self ..))
  replace hS:=hS.same (B:= .row (some ⟨g,0,none⟩) c0 100 ((rawF 3)).sz c0 ds) 0 rfl (λ_=>hd4) rfl (by simp[Asn.fp])
  refine r_bltS 5 rfl 0 (.row (some ⟨g,0,none⟩) c0 100 ((rawF 3)).sz c0 (spl ds ((i+(p0.length-j))*((rawF 3)).sz) (Builtin.zeroCells ((Tryz.t100.zero).getD undef).cells (j-i)).toList)) (d:=none) (b:= .clear) (ts:= #[45]) (ty:=0) (vs:= #[.slice (some ⟨g,(i+(p0.length-j))*((rawF 3)).sz,none⟩) (j-i) (c0-(i+(p0.length-j)))]) hS (by kernel_rfl) rfl (λhA=>run_clear_row (t:=45) (ty:=0) (inf:=Tryz.t100) (by kernel_rfl) (by kernel_rfl) (by kernel_rfl) (by kernel_rfl) (oneAll (by kernel_rfl)) hA (by rw[←Nat.add_mul];exact Nat.mul_le_mul_right _ (by omega))) rfl (by simp[Asn.fp]) λa w hS=> ?_
  have hcut:(spl ds ((i+(p0.length-j))*((rawF 3)).sz) (Builtin.zeroCells ((Tryz.t100.zero).getD undef).cells (j-i)).toList).take ((i+(p0.length-j))*((rawF 3)).sz)=(p0.take i++p0.drop j).flatMap ((rawF 3)).enc:=by
   have hle:(i+(p0.length-j))*((rawF 3)).sz≤ds.length:=by rw[hd2];exact Nat.mul_le_mul_right _ hd3
   unfold spl
   rw[List.append_assoc,List.take_left' (by rw[List.length_take];omega),hd1,List.flatMap_append,flat_take,flat_drop]
  have hlen:(p0.take i++p0.drop j).length=i+(p0.length-j):=by simp;omega
  replace hS:=hS.same (B:=rowF (rawF 3) 100 (some ⟨g,0,none⟩) c0 (p0.take i++p0.drop j)) 0 rfl (λhA=>by
   have:=row_cut hA (i+(p0.length-j)) (by omega)
   rw[hcut] at this
   unfold rowF
   rw[hlen]
   exact this) rfl (by simp[Asn.fp])
  refine wl_end ?_
  refine hK7 _ _ ?_
  refine k_seq (by kernel_rfl) λK8 hK8=> ?_
  refine k_reg 2 (by kernel_rfl) ?_
  refine r_run 0 2 [6] [] hS rfl (L':=[(6,.slice (some ⟨g,0,none⟩) (i+(p0.length-j)) c0)]) (As':=[rowF (rawF 3) 100 (some ⟨g,0,none⟩) c0 (p0.take i++p0.drop j)]) (ob:=[]) (by kernel_rfl) trivial λa w hS=> ?_
  refine wl_end ?_
  refine hK8 _ _ ?_
  refine k_ret (by kernel_rfl) ?_
  try simp only[Exit.then,Exit.inBlock]
  refine r_ret hS [.tmp 6] [] (xs:=[.slice (some ⟨g,0,none⟩) (i+(p0.length-j)) c0]) (ps:=[]) [0] [] rfl (by kernel_rfl) (λhA=>trivial) rfl (λF up=>trivial) ?_
  exact⟨some ⟨g,0,none⟩,c0,by rw[hlen];rfl,rfl,rfl⟩
def slices_Delete_Kid(n:Nat)(p1 p2:Int)(q0:List Kid):Option (List Kid):=delL q0 p1 p2
@[reducible] def slices_Delete_Kid_ct:Ct tab:=⟨154,[.one (.own 0),.one (.d (.int .i64)),.one (.d (.int .i64))],[.row 100 (.st 3)],[.one (.own 0)],[(none,.row 100 (.st 3))],List Kid,λy=>(y,()),λy=>y.1,λ_=>rfl,λn x=>slices_Delete_Kid n x.1 x.2.1 x.2.2.1⟩
theorem slices_Delete_Kid_ok:OkC Tryz.prog tab slices_Delete_Kid_ct:=del_ok (t:= .st 3) (m:=3) tabOk rfl Tryz.call154 λp0 p1 p2 r h=>slices_Delete_Kid_raw p0 p1 p2 r h
end
end Go.Proofs.YtlcmdgpjiendmaaGreat
