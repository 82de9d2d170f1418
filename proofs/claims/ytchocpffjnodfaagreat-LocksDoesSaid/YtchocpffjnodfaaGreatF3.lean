import Derived.Test.YtchocpffjnodfaaGreatTypes
import Derived.Test.YtchocpffjnodfaaGreatF2
namespace Go.Proofs.YtchocpffjnodfaaGreat
open Go Go.Bur Go.RowKit
set_option linter.unusedVariables false
set_option linter.unusedSimpArgs false
set_option maxRecDepth 100000
noncomputable section
def locks_without_2(n:Nat)(p0:Hold)(p1:Int):Option Bool:=
 some (p0.txn==p1)
@[reducible] def locks_without_2_ct:Ct tab:=⟨92,[.st 1,.one (.ro (.int .i64))],[],[.one (.d .bool)],[],Bool,λy=>(y,()),λy=>y.1,λ_=>rfl,λn x=>locks_without_2 n x.1 x.2.1⟩
theorem locks_without_2_ok:OkC Tryz.prog tab locks_without_2_ct:=fn_ok (W:=⟨Tryz.prog,tab,tyOf,[],addO,dpO,false⟩) ⟨tabOk,trivial,addOk⟩ (by kernel_rfl) 8 Tryz.f92 (.n) Tryz.func92 Tryz.call92 rfl (by kernel_rfl) (by kernel_rfl) (by kernel_rfl) λn x=>by kernel_rfl
def slices_IndexFunc_Hold_f92_l1(n:Nat):Nat→(List Hold)×Int×Int×Int×Unit→Option Int:=loopF λr1 ⟨v1,v2,v3,v4,_⟩=>
 cond (decide (v4<v3))
 ((idx v1 v4).bind λx5=>
 (locks_without_2 n x5 v2).bind λy6=>
 cond y6
 (some v4)
 (r1 (v1,v2,v3,(IntKind.wrap .i64 (v4+1)),())))
 (some (-1))
def slices_IndexFunc_Hold_f92(n:Nat)(p0:List Hold)(p1:Int):Option Int:=
 slices_IndexFunc_Hold_f92_l1 n n (p0,p1,(p0.length:Int),0,())
@[reducible] def slices_IndexFunc_Hold_f92_ct:Ct tab:=⟨71,[.one (.d (.sl (.st 1))),.one (.fn 92 [.ro (.int .i64)])],[],[.one (.d (.int .i64))],[],Int,λy=>(y,()),λy=>y.1,λ_=>rfl,λn x=>slices_IndexFunc_Hold_f92 n x.1 x.2.1⟩
theorem slices_IndexFunc_Hold_f92_ok:OkC Tryz.prog tab slices_IndexFunc_Hold_f92_ct:=fn_ok (W:=⟨Tryz.prog,tab,tyOf,[locks_without_2_ct],addO,dpO,false⟩) ⟨tabOk,⟨locks_without_2_ok,trivial⟩,addOk⟩ (by kernel_rfl) 19 Tryz.f71 (.sq (.n) (.sq (.sq (.n) (.bk none (.lp ⟨[(0,.one (.d (.sl (.st 1)))),(1,.one (.fn 92 [.ro (.int .i64)])),(7,.one (.d (.int .i64))),(8,.one (.d (.int .i64)))],[],[]⟩ (.n)))) (.n))) Tryz.func71 Tryz.call71 rfl (by kernel_rfl) (by kernel_rfl) (by kernel_rfl) λn x=>by kernel_rfl
theorem slices_DeleteFunc_Hold_raw{a0:Option Addr}{c0 gd:Nat}{cv:List Value}{Pf PI:List (World→Prop)}(p0:List (Raw 2))(bs:List Bool)(hbl:bs.length=p0.length)(ix:Int)
  (hI:Meets Tryz.prog 71 #[.slice a0 p0.length c0,.func (.func gd) #[] cv.toArray] [] PI λv A P=>v= .int .i64 ix∧A=[]∧P=[])
  (hPI:∀(F:List Nat)(w:World),AllB F w Pf→Bx F w (λw=>(rowF (rawF 2) 45 a0 c0 p0).holds w)→AllB F w PI)
  (hix:(ix= -1∧∀y∈bs,y=false)∨∃k:Nat,ix=(k:Int)∧bs[k]? =some true∧∀y∈bs.take k,y=false)
  (hD:∀(j:Nat)(x:(Raw 2))(y:Bool),p0[j]? =some x→bs[j]? =some y→Meets Tryz.prog gd (([Value.agg x.1.toArray]++cv).toArray) [] Pf λv A P=>v= .bool y∧A=[]∧P=[]) (hsm:p0.length<4611686018427387904):
  Meets Tryz.prog 91 #[.slice a0 p0.length c0,.func (.func gd) #[] cv.toArray] [rowF (rawF 2) 45 a0 c0 p0] Pf λv A P=>∃(a:Option Addr) (c:Nat),v= .slice a (keepF p0 bs).length c∧A=[rowF (rawF 2) 45 a c (keepF p0 bs)]∧P=[]:=by
 have len:∀x:(Raw 2),∃v0 v1,x.1=[v0,v1]:=λx=>by
  have h:=x.2.1
  generalize x.1=l at h⊢
  match l,h with
  |[v0,v1],_=>exact⟨v0,v1,rfl⟩
 refine meets_enter 42 Tryz.func91 Tryz.call91 rfl (by kernel_rfl) (by simp) λC a w hS=> ?_
 have hc:p0.length≤c0:=(row_len (hS.st.own _ (List.mem_cons_self ..))).2.1
 have hfs:∀{F:List Nat} {a:Act} {w:World} {L:Env} {As:List Asn},Sy C 42 a w L As Pf→Up C As w F→AllB F w Pf:=λ{F a w L As} hS up=>by
  have key:∀l:List (World→Prop),(∀p∈l,Bx F w p)→AllB F w l:=λl=>by
   induction l with
   |nil=>intro _;trivial
   |cons p r ih=>intro h;exact⟨h p (by simp),ih λq hq=>h q (by simp[hq])⟩
  exact key _ λp hp=>up (hS.st.per p hp)
 refine k_seq (by kernel_rfl) λK1 hK1=> ?_
 refine k_reg 1 (by kernel_rfl) ?_
 refine r_run 0 1 [0,1] [] hS rfl (L':=[(0,.slice a0 p0.length c0),(1,.func (.func gd) #[] cv.toArray)]) (As':=[rowF (rawF 2) 45 a0 c0 p0]) (ob:=[]) (by kernel_rfl) trivial λa w hS=> ?_
 refine wl_end ?_
 refine hK1 _ _ ?_
 refine k_seq (by kernel_rfl) λK2 hK2=> ?_
 refine k_reg 4 (by kernel_rfl) ?_
 refine r_run 0 2 [0,1,8,9] [] hS rfl (L':=[(0,.slice a0 p0.length c0),(1,.func (.func gd) #[] cv.toArray),(8,.slice a0 p0.length c0),(9,.func (.func gd) #[] cv.toArray)]) (As':=[rowF (rawF 2) 45 a0 c0 p0]) (ob:=[]) (by kernel_rfl) trivial λa w hS=> ?_
 refine r_callX 2 rfl (d:=some 10) (g:=71) (args:= #[.slice a0 p0.length c0,.func (.func gd) #[] cv.toArray]) [] [0] hS (by kernel_rfl) rfl rfl hI (λF up le=>hPI F _ (hfs hS up) (le 0 rfl _ λ_ h=>h)) ?_
 rintro v A' P' a w ⟨rfl,rfl,rfl⟩ hS
 refine r_run 3 1 [0,1,5] [] hS rfl (L':=[(0,.slice a0 p0.length c0),(1,.func (.func gd) #[] cv.toArray),(5,.int .i64 ix)]) (As':=[rowF (rawF 2) 45 a0 c0 p0]) (ob:=[]) (by kernel_rfl) trivial λa w hS=> ?_
 refine wl_end ?_
 refine hK2 _ _ ?_
 refine k_seq (by kernel_rfl) λK3 hK3=> ?_
 refine k_seq (by kernel_rfl) λK4 hK4=> ?_
 refine k_reg 2 (by kernel_rfl) ?_
 refine r_run 0 2 [0,1,5,12] [] hS rfl (L':=[(0,.slice a0 p0.length c0),(1,.func (.func gd) #[] cv.toArray),(5,.int .i64 ix),(12,.bool (ix==(-1:Int)))]) (As':=[rowF (rawF 2) 45 a0 c0 p0]) (ob:=[]) (by kernel_rfl) trivial λa w hS=> ?_
 refine wl_end ?_
 refine hK4 _ _ ?_
 refine k_cond (ix==(-1:Int)) hS.has (by kernel_rfl) (by kernel_rfl) (by kernel_rfl) (λhq=> ?_) (λhq=> ?_)
 ·have hall:keepF p0 bs=p0:=by
   have hq:ix= -1:=of_decide_eq_true (p:=ix=(-1:Int)) (by simpa using hq)
   rcases hix with⟨_,h⟩|⟨k,h,_⟩
   ·exact keepF_all hbl h
   ·omega
  rw[hall]
  refine k_seq (by kernel_rfl) λK5 hK5=> ?_
  refine k_reg 2 (by kernel_rfl) ?_
  refine r_run 0 2 [4] [] hS rfl (L':=[(4,.slice a0 p0.length c0)]) (As':=[rowF (rawF 2) 45 a0 c0 p0]) (ob:=[]) (by kernel_rfl) trivial λa w hS=> ?_
  refine wl_end ?_
  refine hK5 _ _ ?_
  refine k_ret (by kernel_rfl) ?_
  try simp only[Exit.then,Exit.inBlock]
  refine r_ret hS [.tmp 4] [] (xs:=[.slice a0 p0.length c0]) (ps:=[]) [0] [] rfl (by kernel_rfl) (λhA=>trivial) rfl (λF up=>trivial) ?_
  exact⟨a0,c0,rfl,rfl,rfl⟩
 ·have hne:ix≠-1:=λe=>by rw[e] at hq;simp at hq
  obtain⟨k0,rfl,hb0,htk⟩:∃k:Nat,ix=(k:Int)∧bs[k]? =some true∧∀y∈bs.take k,y=false:=hix.resolve_left λh=>hne h.1
  obtain⟨hk0,_⟩:=List.getElem?_eq_some_iff.1 hb0
  rw[hbl] at hk0
  obtain⟨g,rfl⟩:=row_block (hS.st.own _ (List.mem_cons_self ..)) (by omega)
  refine k_skip (by kernel_rfl) ?_
  refine hK3 _ _ ?_
  refine k_seq (by kernel_rfl) λK5 hK5=> ?_
  refine k_seq (by kernel_rfl) λK6 hK6=> ?_
  refine k_reg 3 (by kernel_rfl) ?_
  refine r_run 0 3 [0,1,5,6] [.as 15 (.int .i64 ((k0+1:Nat):Int))] hS rfl (L':=[(0,.slice (some ⟨g,0,none⟩) p0.length c0),(1,.func (.func gd) #[] cv.toArray),(5,.int .i64 (k0:Int)),(6,.int .i64 ((k0+1:Nat):Int))]) (As':=[rowF (rawF 2) 45 (some ⟨g,0,none⟩) c0 p0]) (ob:=[λ_=>Value.int .i64 (IntKind.wrap .i64 ((k0:Int)+1))= .int .i64 ((k0+1:Nat):Int)]) (by kernel_rfl) ⟨Bx.c (congrArg (Value.int .i64) (wrap_s (by omega))),trivial⟩ λa w hS=> ?_
  refine wl_end ?_
  refine hK6 _ _ ?_
  refine k_blk (by kernel_rfl) ?_
  refine k_loop (by kernel_rfl) (λq a w=>∃(i j:Nat) (cur:List (Raw 2)),q+j=p0.length∧i<j∧cur.length=p0.length∧cur.take i=keepF (p0.take j) (bs.take j)∧cur.drop j=p0.drop j∧Sy C 42 a w [(0,.slice (some ⟨g,0,none⟩) p0.length c0),(1,.func (.func gd) #[] cv.toArray),(5,.int .i64 (i:Int)),(6,.int .i64 (j:Int))] [rowF (rawF 2) 45 (some ⟨g,0,none⟩) c0 cur] Pf)
   (p0.length-(k0+1)) ⟨k0,k0+1,p0,by omega,by omega,rfl, ?_,rfl,hS⟩ ?_
  ·obtain⟨x0,hx0⟩:∃x,p0[k0]? =some x:=⟨_,List.getElem?_eq_getElem hk0⟩
   rw[List.take_add_one,List.take_add_one,hx0,hb0]
   simp only[Option.toList_some]
   rw[keepF_snoc (by rw[List.length_take,List.length_take,hbl]),keepF_all (by rw[List.length_take,List.length_take,hbl]) htk]
   simp
  ·rintro q a w ⟨i,j,cur,hqj,hij,hcl,htake,hdrop,hS⟩ K hK
   have hil:i≤p0.length:=by omega
   refine k_seq (by kernel_rfl) λK7 hK7=> ?_
   refine k_seq (by kernel_rfl) λK8 hK8=> ?_
   refine k_reg 4 (by kernel_rfl) ?_
   refine r_run 0 4 [0,1,5,6,19] [] hS rfl (L':=[(0,.slice (some ⟨g,0,none⟩) p0.length c0),(1,.func (.func gd) #[] cv.toArray),(5,.int .i64 (i:Int)),(6,.int .i64 (j:Int)),(19,.bool (decide ((j:Int)<(p0.length:Int))))]) (As':=[rowF (rawF 2) 45 (some ⟨g,0,none⟩) c0 cur]) (ob:=[]) (by kernel_rfl) trivial λa w hS=> ?_
   refine wl_end ?_
   refine hK8 _ _ ?_
   refine k_cond (decide ((j:Int)<(p0.length:Int))) hS.has (by kernel_rfl) (by kernel_rfl) (by kernel_rfl) (λhq=> ?_) (λhq=> ?_)
   ·have hjl:j<p0.length:=by have:=of_decide_eq_true hq;omega
    obtain⟨x,hxj⟩:∃x,cur[j]? =some x:=⟨_,List.getElem?_eq_getElem (by omega)⟩
    have hxp:p0[j]? =some x:=by
     have h1:(cur.drop j)[0]? =some x:=by rw[List.getElem?_drop];simpa using hxj
     rw[hdrop,List.getElem?_drop] at h1
     simpa using h1
    obtain⟨yb,hyb⟩:∃y,bs[j]? =some y:=⟨_,List.getElem?_eq_getElem (by omega)⟩
    have hd:=hD j x yb hxp hyb
    have hidx:idx cur (j:Int)=some x:=by unfold idx;rw[if_pos (by omega)];simpa using hxj
    obtain⟨v0,v1,hxv⟩:=len x
    rw[hxv] at hd
    have hone:∀u∈[v0,v1],u.oneCell'=true:=λu hu=>x.2.2 u (by rw[hxv];exact hu)
    refine k_skip (by kernel_rfl) ?_
    refine hK7 _ _ ?_
    refine k_seq (by kernel_rfl) λK9 hK9=> ?_
    refine k_blk (by kernel_rfl) ?_
    refine k_seq (by kernel_rfl) λK10 hK10=> ?_
    refine k_reg 6 (by kernel_rfl) ?_
    refine r_run1 0 6 [0,1,5,6,7] [.row 0 [v0,v1],.own 0 0] hS rfl (L':=λu0=>[(0,.slice (some ⟨g,0,none⟩) p0.length c0),(1,.func (.func gd) #[] cv.toArray),(5,.int .i64 (i:Int)),(6,.int .i64 (j:Int)),(7,newVal u0 none)]) (As':=λu0=>[.box u0 [v0,v1],rowF (rawF 2) 45 (some ⟨g,0,none⟩) c0 cur])
     (ob:=λu0=>[λ_=>Inb (some ⟨g,0,none⟩) p0.length (j:Int),λ_=>LoadOk (rowF (rawF 2) 45 (some ⟨g,0,none⟩) c0 cur) ((baseOf (some ⟨g,0,none⟩)).add ((j:Int).toNat*2)) [v0,v1],λ_=>(⟨u0,0,none⟩:Addr)=(⟨u0,0,none⟩:Addr).add 0,λ_=>∀u∈[v0,v1],u.oneCell'=true]) (λu0=>by kernel_rfl) (λu0=>⟨Bx.c ⟨by omega,by omega,by simp⟩,Bx.c (by have:=loadRow (F:=(rawF 2)) (e:=45) (a:=some ⟨g,0,none⟩) (c:=c0) hidx;rw[←hxv];exact this),Bx.c (add_zero' _).symm,Bx.c hone,trivial⟩) λu0 a w hS=> ?_
    refine wl_end ?_
    refine hK10 _ _ ?_
    refine k_seq (by kernel_rfl) λK11 hK11=> ?_
    refine k_reg 4 (by kernel_rfl) ?_
    refine r_run 0 2 [0,1,5,6,7,26,27] [.own 0 0] hS rfl (L':=[(0,.slice (some ⟨g,0,none⟩) p0.length c0),(1,.func (.func gd) #[] cv.toArray),(5,.int .i64 (i:Int)),(6,.int .i64 (j:Int)),(7,newVal u0 none),(26,.func (.func gd) #[] cv.toArray),(27,.agg #[v0,v1])]) (As':=[.box u0 [v0,v1],rowF (rawF 2) 45 (some ⟨g,0,none⟩) c0 cur]) (ob:=[λ_=>(⟨u0,0,none⟩:Addr)=(⟨u0,0,none⟩:Addr).add 0]) (by kernel_rfl) ⟨Bx.c (add_zero' _).symm,trivial⟩ λa w hS=> ?_
    refine r_call 2 rfl (d:=some 28) (g:=gd) (args:=([Value.agg #[v0,v1]]++cv).toArray) [] hS (by kernel_rfl) rfl hd (λF up=>hfs hS up) ?_
    rintro v A' P' a w ⟨rfl,rfl,rfl⟩ hS
    refine r_run 3 1 [0,1,5,6,7,29] [] hS rfl (L':=[(0,.slice (some ⟨g,0,none⟩) p0.length c0),(1,.func (.func gd) #[] cv.toArray),(5,.int .i64 (i:Int)),(6,.int .i64 (j:Int)),(7,newVal u0 none),(29,.bool (!yb))]) (As':=[.box u0 [v0,v1],rowF (rawF 2) 45 (some ⟨g,0,none⟩) c0 cur]) (ob:=[]) (by kernel_rfl) trivial λa w hS=> ?_
    refine wl_end ?_
    refine hK11 _ _ ?_
    have hnext:∀(i':Nat)(cur':List (Raw 2))(a:Act)(w:World),i'<j+1→cur'.length=p0.length→cur'.take i'=keepF (p0.take (j+1)) (bs.take (j+1))→cur'.drop (j+1)=p0.drop (j+1)→
      Sy C 42 a w [(0,.slice (some ⟨g,0,none⟩) p0.length c0),(1,.func (.func gd) #[] cv.toArray),(5,.int .i64 (i':Int)),(6,.int .i64 (j:Int))] [rowF (rawF 2) 45 (some ⟨g,0,none⟩) c0 cur'] Pf→K9 a w:=λi' cur' a w h1 h2 h3 h4 hS=>by
     refine hK9 _ _ ?_
     refine k_reg 3 (by kernel_rfl) ?_
     refine r_run 0 3 [0,1,5,6] [.as 21 (.int .i64 ((j+1:Nat):Int))] hS rfl (L':=[(0,.slice (some ⟨g,0,none⟩) p0.length c0),(1,.func (.func gd) #[] cv.toArray),(5,.int .i64 (i':Int)),(6,.int .i64 ((j+1:Nat):Int))]) (As':=[rowF (rawF 2) 45 (some ⟨g,0,none⟩) c0 cur']) (ob:=[λ_=>Value.int .i64 (IntKind.wrap .i64 ((j:Int)+1))= .int .i64 ((j+1:Nat):Int)]) (by kernel_rfl) ⟨Bx.c (congrArg (Value.int .i64) (wrap_s (by omega))),trivial⟩ λa w hS=> ?_
     refine wl_end ?_
     exact hK (q-1) _ _ (by omega) ⟨i',j+1,cur',by omega,h1,h2,h3,h4,hS⟩
    have hpt:keepF (p0.take (j+1)) (bs.take (j+1))=keepF (p0.take j) (bs.take j)++cond yb [] [x]:=by
     rw[List.take_add_one,List.take_add_one,hxp,hyb]
     exact keepF_snoc (by rw[List.length_take,List.length_take,hbl])
    have hdr:∀cur':List (Raw 2),cur'.drop j=x::p0.drop (j+1)→cur'.drop (j+1)=p0.drop (j+1):=λcur' h=>by
     rw[←List.drop_drop,h];rfl
    have hpd:p0.drop j=x::p0.drop (j+1):=by
     rw[List.drop_eq_getElem_cons hjl]
     obtain⟨_,he⟩:=List.getElem?_eq_some_iff.1 hxp
     rw[he]
    refine k_cond (!yb) hS.has (by kernel_rfl) (by kernel_rfl) (by kernel_rfl) (λhbx=> ?_) (λhbx=> ?_)
    ·have hput:put cur (i:Int) x=some (cur.set i x):=by unfold put;rw[if_pos (by omega)];rfl
     obtain⟨y,hyi⟩:∃y,idx cur (i:Int)=some y:=⟨cur[i]'(by omega),by unfold idx;rw[if_pos (by omega)];simp⟩
     refine k_seq (by kernel_rfl) λK12 hK12=> ?_
     refine k_reg 5 (by kernel_rfl) ?_
     refine r_run 0 5 [0,1,5,6] [.own 0 0,.put 1 (rowF (rawF 2) 45 (some ⟨g,0,none⟩) c0 (cur.set i x))] hS rfl (L':=[(0,.slice (some ⟨g,0,none⟩) p0.length c0),(1,.func (.func gd) #[] cv.toArray),(5,.int .i64 (i:Int)),(6,.int .i64 (j:Int))]) (As':=[.box u0 [v0,v1],rowF (rawF 2) 45 (some ⟨g,0,none⟩) c0 (cur.set i x)])
      (ob:=[λ_=>(⟨u0,0,none⟩:Addr)=(⟨u0,0,none⟩:Addr).add 0,λ_=>Inb (some ⟨g,0,none⟩) p0.length (i:Int),λ_=>PutOk (rowF (rawF 2) 45 (some ⟨g,0,none⟩) c0 cur) (rowF (rawF 2) 45 (some ⟨g,0,none⟩) c0 (cur.set i x)) ((baseOf (some ⟨g,0,none⟩)).add ((i:Int).toNat*2)) [v0,v1]]) (by kernel_rfl) ⟨Bx.c (add_zero' _).symm,Bx.c ⟨by omega,by omega,by simp⟩,Bx.c (by have:=putRow (F:=(rawF 2)) (e:=45) (a:=some ⟨g,0,none⟩) (c:=c0) hyi hput (sl:=(cur.set i x).length) (by simp);rw[←hxv];exact this),trivial⟩ λa w hS=> ?_
     refine wl_end ?_
     refine hK12 _ _ ?_
     refine k_reg 3 (by kernel_rfl) ?_
     refine r_run 0 3 [0,1,5,6] [.as 35 (.int .i64 ((i+1:Nat):Int))] hS rfl (L':=[(0,.slice (some ⟨g,0,none⟩) p0.length c0),(1,.func (.func gd) #[] cv.toArray),(5,.int .i64 ((i+1:Nat):Int)),(6,.int .i64 (j:Int))]) (As':=[.box u0 [v0,v1],rowF (rawF 2) 45 (some ⟨g,0,none⟩) c0 (cur.set i x)]) (ob:=[λ_=>Value.int .i64 (IntKind.wrap .i64 ((i:Int)+1))= .int .i64 ((i+1:Nat):Int)]) (by kernel_rfl) ⟨Bx.c (congrArg (Value.int .i64) (wrap_s (by omega))),trivial⟩ λa w hS=> ?_
     refine wl_end ?_
     refine hnext (i+1) (cur.set i x) _ _ (by omega) (by simp[hcl]) ?_ ?_ ((hS.perm (List.Perm.swap _ _ _)).sub (As:=[_]) (Bs:=[_]) λ_ h=>h)
     ·have hyf:yb=false:=by simpa using hbx
      rw[hpt,←htake,hyf,List.take_add_one,List.take_set_of_le (Nat.le_refl _),List.getElem?_set_self (by omega)];rfl
     ·exact hdr _ (by rw[List.drop_set_of_lt hij,hdrop,hpd])
    ·refine k_skip (by kernel_rfl) ?_
     have hyt:yb=true:=by simpa using hbx
     refine hnext i cur _ _ (by omega) hcl ?_ (hdr _ (by rw[hdrop,hpd])) (((hS.perm (List.Perm.swap _ _ _)).sub (As:=[_]) (Bs:=[_]) λ_ h=>h).env4)
     rw[hpt,←htake,hyt]
     simp
   ·have hjl:j=p0.length:=by have:=of_decide_eq_false hq;omega
    subst hjl
    rw[List.take_length,show bs.take p0.length=bs from by rw[←hbl];exact List.take_length] at htake
    refine k_exit 0 (by kernel_rfl) ?_
    try simp only[Exit.then,Exit.inBlock,if_true]
    refine hK5 _ _ ?_
    have hil2:i=(keepF p0 bs).length:=by rw[←htake,List.length_take];omega
    have hs0:slA (some (⟨g,0,none⟩:Addr)) i c0 ((rawF 2)).sz=some ⟨g,i*((rawF 2)).sz,none⟩:=by
     unfold slA;rw[if_neg (by omega)];simp only[Option.map_some,addr_add0]
    have hs1:slA (some (⟨g,0,none⟩:Addr)) 0 c0 ((rawF 2)).sz=some ⟨g,0,none⟩:=by
     unfold slA;rw[if_neg (by omega)];simp only[Option.map_some,Nat.zero_mul,addr_add0]
    refine k_seq (by kernel_rfl) λK7 hK7=> ?_
    refine k_reg 4 (by kernel_rfl) ?_
    refine r_run 0 3 [0,5,38] [.as 38 (.slice (some ⟨g,i*((rawF 2)).sz,none⟩) (p0.length-i) (c0-i))] hS rfl (L':=[(0,.slice (some ⟨g,0,none⟩) p0.length c0),(5,.int .i64 (i:Int)),(38,.slice (some ⟨g,i*((rawF 2)).sz,none⟩) (p0.length-i) (c0-i))]) (As':=[rowF (rawF 2) 45 (some ⟨g,0,none⟩) c0 cur]) (ob:=[λ_=>0≤(i:Int)∧(i:Int)≤(p0.length:Int)∧(p0.length:Int)≤(c0:Int),λ_=>Value.slice (slA (some ⟨g,0,none⟩) i c0 ((rawF 2)).sz) (p0.length-i) (c0-i)= .slice (some ⟨g,i*((rawF 2)).sz,none⟩) (p0.length-i) (c0-i)]) (by kernel_rfl) ⟨Bx.c ⟨by omega,by omega,by omega⟩,Bx.c (by rw[hs0]),trivial⟩ λa w hS=> ?_
    obtain⟨ds,hd1,hd2,hd3,hd4⟩:=row_full (hS.st.own _ (List.mem_cons_self ..))
    replace hS:=hS.same (B:= .row (some ⟨g,0,none⟩) c0 45 ((rawF 2)).sz c0 ds) 0 rfl (λ_=>hd4) rfl (by simp[Asn.fp])
    refine r_bltS 3 rfl 0 (.row (some ⟨g,0,none⟩) c0 45 ((rawF 2)).sz c0 (spl ds (i*((rawF 2)).sz) (Builtin.zeroCells ((Tryz.t45.zero).getD undef).cells (p0.length-i)).toList)) (d:=none) (b:= .clear) (ts:= #[40]) (ty:=0) (vs:= #[.slice (some ⟨g,i*((rawF 2)).sz,none⟩) (p0.length-i) (c0-i)]) hS (by kernel_rfl) rfl (λhA=>run_clear_row (t:=40) (ty:=0) (inf:=Tryz.t45) (by kernel_rfl) (by kernel_rfl) (by kernel_rfl) (by kernel_rfl) (oneAll (by kernel_rfl)) hA (by rw[←Nat.add_mul];exact Nat.mul_le_mul_right _ (by omega))) rfl (by simp[Asn.fp]) λa w hS=> ?_
    have hcut:(spl ds (i*((rawF 2)).sz) (Builtin.zeroCells ((Tryz.t45.zero).getD undef).cells (p0.length-i)).toList).take (i*((rawF 2)).sz)=(keepF p0 bs).flatMap ((rawF 2)).enc:=by
     have hle:i*((rawF 2)).sz≤ds.length:=by rw[hd2];exact Nat.mul_le_mul_right _ (by omega)
     have hle2:i*((rawF 2)).sz≤cur.length*((rawF 2)).sz:=Nat.mul_le_mul_right _ (by omega)
     unfold spl
     rw[List.append_assoc,List.take_left' (by rw[List.length_take];omega),←htake,flat_take,←hd1,List.take_take,Nat.min_eq_left hle2]
    have hlen:(keepF p0 bs).length=i:=by rw[←htake,List.length_take];omega
    replace hS:=hS.same (B:=rowF (rawF 2) 45 (some ⟨g,0,none⟩) c0 (keepF p0 bs)) 0 rfl (λhA=>by
     have:=row_cut hA i (by omega)
     rw[hcut] at this
     unfold rowF
     rw[hlen]
     exact this) rfl (by simp[Asn.fp])
    refine wl_end ?_
    refine hK7 _ _ ?_
    refine k_seq (by kernel_rfl) λK8 hK8=> ?_
    refine k_reg 4 (by kernel_rfl) ?_
    refine r_run 0 4 [4] [.as 41 (.slice (some ⟨g,0,none⟩) i c0)] hS rfl (L':=[(4,.slice (some ⟨g,0,none⟩) i c0)]) (As':=[rowF (rawF 2) 45 (some ⟨g,0,none⟩) c0 (keepF p0 bs)]) (ob:=[λ_=>(0:Int)≤0∧(0:Int)≤(i:Int)∧(i:Int)≤(c0:Int),λ_=>Value.slice (slA (some ⟨g,0,none⟩) 0 c0 ((rawF 2)).sz) (i-0) (c0-0)= .slice (some ⟨g,0,none⟩) i c0]) (by kernel_rfl) ⟨Bx.c ⟨by omega,by omega,by omega⟩,Bx.c (by rw[hs1];rfl),trivial⟩ λa w hS=> ?_
    refine wl_end ?_
    refine hK8 _ _ ?_
    refine k_ret (by kernel_rfl) ?_
    try simp only[Exit.then,Exit.inBlock]
    refine r_ret hS [.tmp 4] [] (xs:=[.slice (some ⟨g,0,none⟩) i c0]) (ps:=[]) [0] [] rfl (by kernel_rfl) (λhA=>trivial) rfl (λF up=>trivial) ?_
    exact⟨some ⟨g,0,none⟩,c0,by rw[hlen];rfl,rfl,rfl⟩
def slices_DeleteFunc_Hold_f92(n:Nat)(p1_0:Int)(q0:List Hold):Option (List Hold):=(slices_IndexFunc_Hold_f92 n q0 p1_0).bind λz=>delF (λy=>locks_without_2 n y p1_0) z q0
@[reducible] def slices_DeleteFunc_Hold_f92_ct:Ct tab:=⟨91,[.one (.own 0),.one (.fn 92 [.ro (.int .i64)])],[.row 45 (.st 1)],[.one (.own 0)],[(none,.row 45 (.st 1))],List Hold,λy=>(y,()),λy=>y.1,λ_=>rfl,λn x=>slices_DeleteFunc_Hold_f92 n x.1 x.2.1⟩
theorem slices_DeleteFunc_Hold_f92_ok:OkC Tryz.prog tab slices_DeleteFunc_Hold_f92_ct:=dlf_ok (i:=1) (cs:=[.ro (.int .i64)]) (fI:=λn x=>slices_IndexFunc_Hold_f92 n x.2.1 x.1) (fD:=λn x y=>locks_without_2 n y x.1) (m:=2) tabOk rfl rfl Tryz.call91 Tryz.call71 Tryz.call92
 (λn x z hz R w Ps v cv hst hv hcv=>Calls.mono (slices_IndexFunc_Hold_f92_ok.2 n (x.2.1,x.1,()) z hz R w rho0 [] Ps [v,.func (.func 92) #[] cv.toArray] hst (λj g h=>by cases h) ⟨hv,⟨cv,rfl,hcv⟩,trivial⟩ trivial) λe w' h=>by
  obtain⟨v1,ρ1,As1,Ps1,h1,h2,h3,_⟩:=h
  exact⟨h1.trans (congrArg Ending.returned (show v1= .int .i64 z from h2.1)),h3⟩)
 (λn x y b hb R w Ps v cv hst hv hcv=>Calls.mono (locks_without_2_ok.2 n (y,x.1,()) b hb R w rho0 [] Ps (v::cv) hst (λj g h=>by cases h) ⟨hv,capLs_rel hcv⟩ trivial) λe w' h=>by
  obtain⟨v1,ρ1,As1,Ps1,h1,h2,h3,_⟩:=h
  exact⟨h1.trans (congrArg Ending.returned (show v1= .bool b from h2.1)),h3⟩) slices_DeleteFunc_Hold_raw
def locks_holds_d04_j1(n:Nat):Int×Int×Int×Bool×Int×(List Wait)×(List Hold)×Unit→Option (Int×Bool×Int×(List Wait)×(List Hold)):=fun⟨v3,v4,v5,v6,v7,v8,v9,_⟩=>
 (idx v9 v4).bind λx10=>
 (idx v9 v4).bind λx11=>
 (put v9 v4 (Hold.mk x11.txn v3)).bind λl12=>
 some (v5,v6,v7,v8,l12)
def locks_holds_d04(n:Nat)(p1:Int)(p2:Int)(q0_0:Int)(q0_1:Bool)(q0_2:Int)(q0_3:List Wait)(q1:List Hold):Option (Int×Bool×Int×(List Wait)×(List Hold)):=
 (slices_BinarySearchFunc_int_f79 n q1 p1).bind λy1=>
 jn (locks_holds_d04_j1 n) λj1=>
 cond (!y1.2)
 ((slices_Insert_Hold n y1.1 q1 ([(Hold.mk p1 0)]:List Hold)).bind λy13=>
 j1 (p2,y1.1,q0_0,q0_1,q0_2,q0_3,y13,()))
 (j1 (p2,y1.1,q0_0,q0_1,q0_2,q0_3,q1,()))
@[reducible] def locks_holds_d04_ct:Ct tab:=⟨34,[.one (.box 0 0),.one (.d (.int .i64)),.one (.d (.int .i64))],[.box [.d (.int .i64),.d .bool,.d (.int .u16),.own 1,.d (.sl (.st 2))],.row 45 (.st 1)],[],[(some 0,.box [.d (.int .i64),.d .bool,.d (.int .u16),.own 1,.d (.sl (.st 2))]),(none,.row 45 (.st 1))],(Int×Bool×Int×(List Wait)×(List Hold)),λy=>(y.1,y.2.1,y.2.2.1,y.2.2.2.1,y.2.2.2.2,()),λy=>(y.1,y.2.1,y.2.2.1,y.2.2.2.1,y.2.2.2.2.1),λ_=>rfl,λn x=>locks_holds_d04 n x.1 x.2.1 x.2.2.1 x.2.2.2.1 x.2.2.2.2.1 x.2.2.2.2.2.1 x.2.2.2.2.2.2.1⟩
theorem locks_holds_d04_ok:OkC Tryz.prog tab locks_holds_d04_ct:=fn_ok (W:=⟨Tryz.prog,tab,tyOf,[slices_BinarySearchFunc_int_f79_ct,slices_Insert_Hold_ct],addO,dpO,false⟩) ⟨tabOk,⟨slices_BinarySearchFunc_int_f79_ok,slices_Insert_Hold_ok,trivial⟩,addOk⟩ (by kernel_rfl) 39 Tryz.f34 (.sq (.n) (.sq (.sq (.n) (.cd (some ⟨[(0,.one (.box 0 0)),(2,.one (.d (.int .i64))),(6,.one (.d (.int .i64)))],[.box [.d (.int .i64),.d .bool,.d (.int .u16),.own 1,.d (.sl (.st 2))],.row 45 (.st 1)],[(0,0)]⟩) (.n) (.n))) (.n))) Tryz.func34 Tryz.call34 rfl (by kernel_rfl) (by kernel_rfl) (by kernel_rfl) λn x=>by kernel_rfl
def locks_pump_j1(n:Nat):Int×Bool×Int×(List Wait)×(List Int)×(List Hold)×Unit→Option (Int×Bool×Int×(List Wait)×(List Hold)×(List Int)):=fun⟨v12,v13,v14,v15,v16,v17,_⟩=>
 some (v12,v13,v14,v15,v17,v16)
def locks_pump_l2(n:Nat)(j1:Int×Bool×Int×(List Wait)×(List Int)×(List Hold)×Unit→Option (Int×Bool×Int×(List Wait)×(List Hold)×(List Int))):Nat→Int×Bool×Int×(List Wait)×(List Int)×(List Hold)×Unit→Option (Int×Bool×Int×(List Wait)×(List Hold)×(List Int)):=loopF λr2 ⟨v18,v19,v20,v21,v22,v23,_⟩=>
 cond (decide ((v21.length:Int)>0))
 ((idx v21 0).bind λx24=>
 (locks_goes n (Queue.mk (Res.mk v18 v19 v20) v23 v21) x24.txn x24.mode).bind λy25=>
 cond (!y25)
 (j1 (v18,v19,v20,v21,v22,v23,()))
 ((locks_holds_d04 n x24.txn x24.mode v18 v19 v20 v21 v23).bind λy26=>
 (sub y26.2.2.2.1 1 (y26.2.2.2.1.length:Int)).bind λl27=>
 (app 8 v22 ([x24.txn]:List Int)).bind λl28=>
 r2 (y26.1,y26.2.1,y26.2.2.1,l27,l28,y26.2.2.2.2,())))
 (j1 (v18,v19,v20,v21,v22,v23,()))
def locks_pump(n:Nat)(q0_0:Int)(q0_1:Bool)(q0_2:Int)(q1:List Hold)(q2:List Wait):Option (Int×Bool×Int×(List Wait)×(List Hold)×(List Int)):=
 jn (locks_pump_j1 n) λj1=>
 locks_pump_l2 n j1 n (q0_0,q0_1,q0_2,q2,([]:List Int),q1,())
@[reducible] def locks_pump_ct:Ct tab:=⟨93,[.one (.box 0 0)],[.box [.d (.int .i64),.d .bool,.d (.int .u16),.own 1,.own 2],.row 45 (.st 1),.row 47 (.st 2)],[.one (.own 2)],[(some 0,.box [.d (.int .i64),.d .bool,.d (.int .u16),.own 1,.d (.sl (.st 2))]),(none,.row 45 (.st 1)),(none,.row 3 (.int .i64))],(Int×Bool×Int×(List Wait)×(List Hold)×(List Int)),λy=>(y.1,y.2.1,y.2.2.1,y.2.2.2.1,y.2.2.2.2.1,y.2.2.2.2.2,()),λy=>(y.1,y.2.1,y.2.2.1,y.2.2.2.1,y.2.2.2.2.1,y.2.2.2.2.2.1),λ_=>rfl,λn x=>locks_pump n x.1 x.2.1 x.2.2.1 x.2.2.2.1 x.2.2.2.2.1⟩
theorem locks_pump_ok:OkC Tryz.prog tab locks_pump_ct:=fn_ok (W:=⟨Tryz.prog,tab,tyOf,[locks_goes_ct,locks_holds_d04_ct],addO,dpO,false⟩) ⟨tabOk,⟨locks_goes_ok,locks_holds_d04_ok,trivial⟩,addOk⟩ (by kernel_rfl) 46 Tryz.f93 (.sq (.n) (.sq (.n) (.sq (.n) (.sq (.bk (some ⟨[(0,.one (.box 0 0)),(3,.one (.own 1))],[.box [.d (.int .i64),.d .bool,.d (.int .u16),.own 2,.d (.sl (.st 2))],.row 3 (.int .i64),.row 45 (.st 1)],[(0,0)]⟩) (.lp ⟨[(0,.one (.box 0 0)),(3,.one (.own 1))],[.box [.d (.int .i64),.d .bool,.d (.int .u16),.own 2,.d (.sl (.st 2))],.row 3 (.int .i64),.row 45 (.st 1)],[(0,0)]⟩ (.n))) (.n))))) Tryz.func93 Tryz.call93 rfl (by kernel_rfl) (by kernel_rfl) (by kernel_rfl) λn x=>by kernel_rfl
def locks_without_3(n:Nat)(p0:Queue):Option Bool:=
 some ((p0.holders.length:Int)==0)
@[reducible] def locks_without_3_ct:Ct tab:=⟨95,[.st 3],[],[.one (.d .bool)],[],Bool,λy=>(y,()),λy=>y.1,λ_=>rfl,λn x=>locks_without_3 n x.1⟩
theorem locks_without_3_ok:OkC Tryz.prog tab locks_without_3_ct:=fn_ok (W:=⟨Tryz.prog,tab,tyOf,[],addO,dpO,false⟩) ⟨tabOk,trivial,addOk⟩ (by kernel_rfl) 7 Tryz.f95 (.n) Tryz.func95 Tryz.call95 rfl (by kernel_rfl) (by kernel_rfl) (by kernel_rfl) λn x=>by kernel_rfl
def slices_IndexFunc_Queue_f95_l1(n:Nat):Nat→(List Queue)×Int×Int×Unit→Option Int:=loopF λr1 ⟨v1,v2,v3,_⟩=>
 cond (decide (v3<v2))
 ((idx v1 v3).bind λx4=>
 (locks_without_3 n x4).bind λy5=>
 cond y5
 (some v3)
 (r1 (v1,v2,(IntKind.wrap .i64 (v3+1)),())))
 (some (-1))
def slices_IndexFunc_Queue_f95(n:Nat)(p0:List Queue):Option Int:=
 slices_IndexFunc_Queue_f95_l1 n n (p0,(p0.length:Int),0,())
@[reducible] def slices_IndexFunc_Queue_f95_ct:Ct tab:=⟨121,[.one (.d (.sl (.st 3))),.one (.fn 95 [])],[],[.one (.d (.int .i64))],[],Int,λy=>(y,()),λy=>y.1,λ_=>rfl,λn x=>slices_IndexFunc_Queue_f95 n x.1⟩
theorem slices_IndexFunc_Queue_f95_ok:OkC Tryz.prog tab slices_IndexFunc_Queue_f95_ct:=fn_ok (W:=⟨Tryz.prog,tab,tyOf,[locks_without_3_ct],addO,dpO,false⟩) ⟨tabOk,⟨locks_without_3_ok,trivial⟩,addOk⟩ (by kernel_rfl) 19 Tryz.f121 (.sq (.n) (.sq (.sq (.n) (.bk none (.lp ⟨[(0,.one (.d (.sl (.st 3)))),(1,.one (.fn 95 [])),(7,.one (.d (.int .i64))),(8,.one (.d (.int .i64)))],[],[]⟩ (.n)))) (.n))) Tryz.func121 Tryz.call121 rfl (by kernel_rfl) (by kernel_rfl) (by kernel_rfl) λn x=>by kernel_rfl
theorem slices_DeleteFunc_Queue_raw{a0:Option Addr}{c0 gd:Nat}{cv:List Value}{Pf PI:List (World→Prop)}(p0:List (Raw 5))(bs:List Bool)(hbl:bs.length=p0.length)(ix:Int)
  (hI:Meets Tryz.prog 121 #[.slice a0 p0.length c0,.func (.func gd) #[] cv.toArray] [] PI λv A P=>v= .int .i64 ix∧A=[]∧P=[])
  (hPI:∀(F:List Nat)(w:World),AllB F w Pf→Bx F w (λw=>(rowF (rawF 5) 43 a0 c0 p0).holds w)→AllB F w PI)
  (hix:(ix= -1∧∀y∈bs,y=false)∨∃k:Nat,ix=(k:Int)∧bs[k]? =some true∧∀y∈bs.take k,y=false)
  (hD:∀(j:Nat)(x:(Raw 5))(y:Bool),p0[j]? =some x→bs[j]? =some y→Meets Tryz.prog gd (([Value.agg x.1.toArray]++cv).toArray) [] Pf λv A P=>v= .bool y∧A=[]∧P=[]) (hsm:p0.length<4611686018427387904):
  Meets Tryz.prog 94 #[.slice a0 p0.length c0,.func (.func gd) #[] cv.toArray] [rowF (rawF 5) 43 a0 c0 p0] Pf λv A P=>∃(a:Option Addr) (c:Nat),v= .slice a (keepF p0 bs).length c∧A=[rowF (rawF 5) 43 a c (keepF p0 bs)]∧P=[]:=by
 have len:∀x:(Raw 5),∃v0 v1 v2 v3 v4,x.1=[v0,v1,v2,v3,v4]:=λx=>by
  have h:=x.2.1
  generalize x.1=l at h⊢
  match l,h with
  |[v0,v1,v2,v3,v4],_=>exact⟨v0,v1,v2,v3,v4,rfl⟩
 refine meets_enter 42 Tryz.func94 Tryz.call94 rfl (by kernel_rfl) (by simp) λC a w hS=> ?_
 have hc:p0.length≤c0:=(row_len (hS.st.own _ (List.mem_cons_self ..))).2.1
 have hfs:∀{F:List Nat} {a:Act} {w:World} {L:Env} {As:List Asn},Sy C 42 a w L As Pf→Up C As w F→AllB F w Pf:=λ{F a w L As} hS up=>by
  have key:∀l:List (World→Prop),(∀p∈l,Bx F w p)→AllB F w l:=λl=>by
   induction l with
   |nil=>intro _;trivial
   |cons p r ih=>intro h;exact⟨h p (by simp),ih λq hq=>h q (by simp[hq])⟩
  exact key _ λp hp=>up (hS.st.per p hp)
 refine k_seq (by kernel_rfl) λK1 hK1=> ?_
 refine k_reg 1 (by kernel_rfl) ?_
 refine r_run 0 1 [0,1] [] hS rfl (L':=[(0,.slice a0 p0.length c0),(1,.func (.func gd) #[] cv.toArray)]) (As':=[rowF (rawF 5) 43 a0 c0 p0]) (ob:=[]) (by kernel_rfl) trivial λa w hS=> ?_
 refine wl_end ?_
 refine hK1 _ _ ?_
 refine k_seq (by kernel_rfl) λK2 hK2=> ?_
 refine k_reg 4 (by kernel_rfl) ?_
 refine r_run 0 2 [0,1,8,9] [] hS rfl (L':=[(0,.slice a0 p0.length c0),(1,.func (.func gd) #[] cv.toArray),(8,.slice a0 p0.length c0),(9,.func (.func gd) #[] cv.toArray)]) (As':=[rowF (rawF 5) 43 a0 c0 p0]) (ob:=[]) (by kernel_rfl) trivial λa w hS=> ?_
 refine r_callX 2 rfl (d:=some 10) (g:=121) (args:= #[.slice a0 p0.length c0,.func (.func gd) #[] cv.toArray]) [] [0] hS (by kernel_rfl) rfl rfl hI (λF up le=>hPI F _ (hfs hS up) (le 0 rfl _ λ_ h=>h)) ?_
 rintro v A' P' a w ⟨rfl,rfl,rfl⟩ hS
 refine r_run 3 1 [0,1,5] [] hS rfl (L':=[(0,.slice a0 p0.length c0),(1,.func (.func gd) #[] cv.toArray),(5,.int .i64 ix)]) (As':=[rowF (rawF 5) 43 a0 c0 p0]) (ob:=[]) (by kernel_rfl) trivial λa w hS=> ?_
 refine wl_end ?_
 refine hK2 _ _ ?_
 refine k_seq (by kernel_rfl) λK3 hK3=> ?_
 refine k_seq (by kernel_rfl) λK4 hK4=> ?_
 refine k_reg 2 (by kernel_rfl) ?_
 refine r_run 0 2 [0,1,5,12] [] hS rfl (L':=[(0,.slice a0 p0.length c0),(1,.func (.func gd) #[] cv.toArray),(5,.int .i64 ix),(12,.bool (ix==(-1:Int)))]) (As':=[rowF (rawF 5) 43 a0 c0 p0]) (ob:=[]) (by kernel_rfl) trivial λa w hS=> ?_
 refine wl_end ?_
 refine hK4 _ _ ?_
 refine k_cond (ix==(-1:Int)) hS.has (by kernel_rfl) (by kernel_rfl) (by kernel_rfl) (λhq=> ?_) (λhq=> ?_)
 ·have hall:keepF p0 bs=p0:=by
   have hq:ix= -1:=of_decide_eq_true (p:=ix=(-1:Int)) (by simpa using hq)
   rcases hix with⟨_,h⟩|⟨k,h,_⟩
   ·exact keepF_all hbl h
   ·omega
  rw[hall]
  refine k_seq (by kernel_rfl) λK5 hK5=> ?_
  refine k_reg 2 (by kernel_rfl) ?_
  refine r_run 0 2 [4] [] hS rfl (L':=[(4,.slice a0 p0.length c0)]) (As':=[rowF (rawF 5) 43 a0 c0 p0]) (ob:=[]) (by kernel_rfl) trivial λa w hS=> ?_
  refine wl_end ?_
  refine hK5 _ _ ?_
  refine k_ret (by kernel_rfl) ?_
  try simp only[Exit.then,Exit.inBlock]
  refine r_ret hS [.tmp 4] [] (xs:=[.slice a0 p0.length c0]) (ps:=[]) [0] [] rfl (by kernel_rfl) (λhA=>trivial) rfl (λF up=>trivial) ?_
  exact⟨a0,c0,rfl,rfl,rfl⟩
 ·have hne:ix≠-1:=λe=>by rw[e] at hq;simp at hq
  obtain⟨k0,rfl,hb0,htk⟩:∃k:Nat,ix=(k:Int)∧bs[k]? =some true∧∀y∈bs.take k,y=false:=hix.resolve_left λh=>hne h.1
  obtain⟨hk0,_⟩:=List.getElem?_eq_some_iff.1 hb0
  rw[hbl] at hk0
  obtain⟨g,rfl⟩:=row_block (hS.st.own _ (List.mem_cons_self ..)) (by omega)
  refine k_skip (by kernel_rfl) ?_
  refine hK3 _ _ ?_
  refine k_seq (by kernel_rfl) λK5 hK5=> ?_
  refine k_seq (by kernel_rfl) λK6 hK6=> ?_
  refine k_reg 3 (by kernel_rfl) ?_
  refine r_run 0 3 [0,1,5,6] [.as 15 (.int .i64 ((k0+1:Nat):Int))] hS rfl (L':=[(0,.slice (some ⟨g,0,none⟩) p0.length c0),(1,.func (.func gd) #[] cv.toArray),(5,.int .i64 (k0:Int)),(6,.int .i64 ((k0+1:Nat):Int))]) (As':=[rowF (rawF 5) 43 (some ⟨g,0,none⟩) c0 p0]) (ob:=[λ_=>Value.int .i64 (IntKind.wrap .i64 ((k0:Int)+1))= .int .i64 ((k0+1:Nat):Int)]) (by kernel_rfl) ⟨Bx.c (congrArg (Value.int .i64) (wrap_s (by omega))),trivial⟩ λa w hS=> ?_
  refine wl_end ?_
  refine hK6 _ _ ?_
  refine k_blk (by kernel_rfl) ?_
  refine k_loop (by kernel_rfl) (λq a w=>∃(i j:Nat) (cur:List (Raw 5)),q+j=p0.length∧i<j∧cur.length=p0.length∧cur.take i=keepF (p0.take j) (bs.take j)∧cur.drop j=p0.drop j∧Sy C 42 a w [(0,.slice (some ⟨g,0,none⟩) p0.length c0),(1,.func (.func gd) #[] cv.toArray),(5,.int .i64 (i:Int)),(6,.int .i64 (j:Int))] [rowF (rawF 5) 43 (some ⟨g,0,none⟩) c0 cur] Pf)
   (p0.length-(k0+1)) ⟨k0,k0+1,p0,by omega,by omega,rfl, ?_,rfl,hS⟩ ?_
  ·obtain⟨x0,hx0⟩:∃x,p0[k0]? =some x:=⟨_,List.getElem?_eq_getElem hk0⟩
   rw[List.take_add_one,List.take_add_one,hx0,hb0]
   simp only[Option.toList_some]
   rw[keepF_snoc (by rw[List.length_take,List.length_take,hbl]),keepF_all (by rw[List.length_take,List.length_take,hbl]) htk]
   simp
  ·rintro q a w ⟨i,j,cur,hqj,hij,hcl,htake,hdrop,hS⟩ K hK
   have hil:i≤p0.length:=by omega
   refine k_seq (by kernel_rfl) λK7 hK7=> ?_
   refine k_seq (by kernel_rfl) λK8 hK8=> ?_
   refine k_reg 4 (by kernel_rfl) ?_
   refine r_run 0 4 [0,1,5,6,19] [] hS rfl (L':=[(0,.slice (some ⟨g,0,none⟩) p0.length c0),(1,.func (.func gd) #[] cv.toArray),(5,.int .i64 (i:Int)),(6,.int .i64 (j:Int)),(19,.bool (decide ((j:Int)<(p0.length:Int))))]) (As':=[rowF (rawF 5) 43 (some ⟨g,0,none⟩) c0 cur]) (ob:=[]) (by kernel_rfl) trivial λa w hS=> ?_
   refine wl_end ?_
   refine hK8 _ _ ?_
   refine k_cond (decide ((j:Int)<(p0.length:Int))) hS.has (by kernel_rfl) (by kernel_rfl) (by kernel_rfl) (λhq=> ?_) (λhq=> ?_)
   ·have hjl:j<p0.length:=by have:=of_decide_eq_true hq;omega
    obtain⟨x,hxj⟩:∃x,cur[j]? =some x:=⟨_,List.getElem?_eq_getElem (by omega)⟩
    have hxp:p0[j]? =some x:=by
     have h1:(cur.drop j)[0]? =some x:=by rw[List.getElem?_drop];simpa using hxj
     rw[hdrop,List.getElem?_drop] at h1
     simpa using h1
    obtain⟨yb,hyb⟩:∃y,bs[j]? =some y:=⟨_,List.getElem?_eq_getElem (by omega)⟩
    have hd:=hD j x yb hxp hyb
    have hidx:idx cur (j:Int)=some x:=by unfold idx;rw[if_pos (by omega)];simpa using hxj
    obtain⟨v0,v1,v2,v3,v4,hxv⟩:=len x
    rw[hxv] at hd
    have hone:∀u∈[v0,v1,v2,v3,v4],u.oneCell'=true:=λu hu=>x.2.2 u (by rw[hxv];exact hu)
    refine k_skip (by kernel_rfl) ?_
    refine hK7 _ _ ?_
    refine k_seq (by kernel_rfl) λK9 hK9=> ?_
    refine k_blk (by kernel_rfl) ?_
    refine k_seq (by kernel_rfl) λK10 hK10=> ?_
    refine k_reg 6 (by kernel_rfl) ?_
    refine r_run1 0 6 [0,1,5,6,7] [.row 0 [v0,v1,v2,v3,v4],.own 0 0] hS rfl (L':=λu0=>[(0,.slice (some ⟨g,0,none⟩) p0.length c0),(1,.func (.func gd) #[] cv.toArray),(5,.int .i64 (i:Int)),(6,.int .i64 (j:Int)),(7,newVal u0 none)]) (As':=λu0=>[.box u0 [v0,v1,v2,v3,v4],rowF (rawF 5) 43 (some ⟨g,0,none⟩) c0 cur])
     (ob:=λu0=>[λ_=>Inb (some ⟨g,0,none⟩) p0.length (j:Int),λ_=>LoadOk (rowF (rawF 5) 43 (some ⟨g,0,none⟩) c0 cur) ((baseOf (some ⟨g,0,none⟩)).add ((j:Int).toNat*5)) [v0,v1,v2,v3,v4],λ_=>(⟨u0,0,none⟩:Addr)=(⟨u0,0,none⟩:Addr).add 0,λ_=>∀u∈[v0,v1,v2,v3,v4],u.oneCell'=true]) (λu0=>by kernel_rfl) (λu0=>⟨Bx.c ⟨by omega,by omega,by simp⟩,Bx.c (by have:=loadRow (F:=(rawF 5)) (e:=43) (a:=some ⟨g,0,none⟩) (c:=c0) hidx;rw[←hxv];exact this),Bx.c (add_zero' _).symm,Bx.c hone,trivial⟩) λu0 a w hS=> ?_
    refine wl_end ?_
    refine hK10 _ _ ?_
    refine k_seq (by kernel_rfl) λK11 hK11=> ?_
    refine k_reg 4 (by kernel_rfl) ?_
    refine r_run 0 2 [0,1,5,6,7,26,27] [.own 0 0] hS rfl (L':=[(0,.slice (some ⟨g,0,none⟩) p0.length c0),(1,.func (.func gd) #[] cv.toArray),(5,.int .i64 (i:Int)),(6,.int .i64 (j:Int)),(7,newVal u0 none),(26,.func (.func gd) #[] cv.toArray),(27,.agg #[v0,v1,v2,v3,v4])]) (As':=[.box u0 [v0,v1,v2,v3,v4],rowF (rawF 5) 43 (some ⟨g,0,none⟩) c0 cur]) (ob:=[λ_=>(⟨u0,0,none⟩:Addr)=(⟨u0,0,none⟩:Addr).add 0]) (by kernel_rfl) ⟨Bx.c (add_zero' _).symm,trivial⟩ λa w hS=> ?_
    refine r_call 2 rfl (d:=some 28) (g:=gd) (args:=([Value.agg #[v0,v1,v2,v3,v4]]++cv).toArray) [] hS (by kernel_rfl) rfl hd (λF up=>hfs hS up) ?_
    rintro v A' P' a w ⟨rfl,rfl,rfl⟩ hS
    refine r_run 3 1 [0,1,5,6,7,29] [] hS rfl (L':=[(0,.slice (some ⟨g,0,none⟩) p0.length c0),(1,.func (.func gd) #[] cv.toArray),(5,.int .i64 (i:Int)),(6,.int .i64 (j:Int)),(7,newVal u0 none),(29,.bool (!yb))]) (As':=[.box u0 [v0,v1,v2,v3,v4],rowF (rawF 5) 43 (some ⟨g,0,none⟩) c0 cur]) (ob:=[]) (by kernel_rfl) trivial λa w hS=> ?_
    refine wl_end ?_
    refine hK11 _ _ ?_
    have hnext:∀(i':Nat)(cur':List (Raw 5))(a:Act)(w:World),i'<j+1→cur'.length=p0.length→cur'.take i'=keepF (p0.take (j+1)) (bs.take (j+1))→cur'.drop (j+1)=p0.drop (j+1)→
      Sy C 42 a w [(0,.slice (some ⟨g,0,none⟩) p0.length c0),(1,.func (.func gd) #[] cv.toArray),(5,.int .i64 (i':Int)),(6,.int .i64 (j:Int))] [rowF (rawF 5) 43 (some ⟨g,0,none⟩) c0 cur'] Pf→K9 a w:=λi' cur' a w h1 h2 h3 h4 hS=>by
     refine hK9 _ _ ?_
     refine k_reg 3 (by kernel_rfl) ?_
     refine r_run 0 3 [0,1,5,6] [.as 21 (.int .i64 ((j+1:Nat):Int))] hS rfl (L':=[(0,.slice (some ⟨g,0,none⟩) p0.length c0),(1,.func (.func gd) #[] cv.toArray),(5,.int .i64 (i':Int)),(6,.int .i64 ((j+1:Nat):Int))]) (As':=[rowF (rawF 5) 43 (some ⟨g,0,none⟩) c0 cur']) (ob:=[λ_=>Value.int .i64 (IntKind.wrap .i64 ((j:Int)+1))= .int .i64 ((j+1:Nat):Int)]) (by kernel_rfl) ⟨Bx.c (congrArg (Value.int .i64) (wrap_s (by omega))),trivial⟩ λa w hS=> ?_
     refine wl_end ?_
     exact hK (q-1) _ _ (by omega) ⟨i',j+1,cur',by omega,h1,h2,h3,h4,hS⟩
    have hpt:keepF (p0.take (j+1)) (bs.take (j+1))=keepF (p0.take j) (bs.take j)++cond yb [] [x]:=by
     rw[List.take_add_one,List.take_add_one,hxp,hyb]
     exact keepF_snoc (by rw[List.length_take,List.length_take,hbl])
    have hdr:∀cur':List (Raw 5),cur'.drop j=x::p0.drop (j+1)→cur'.drop (j+1)=p0.drop (j+1):=λcur' h=>by
     rw[←List.drop_drop,h];rfl
    have hpd:p0.drop j=x::p0.drop (j+1):=by
     rw[List.drop_eq_getElem_cons hjl]
     obtain⟨_,he⟩:=List.getElem?_eq_some_iff.1 hxp
     rw[he]
    refine k_cond (!yb) hS.has (by kernel_rfl) (by kernel_rfl) (by kernel_rfl) (λhbx=> ?_) (λhbx=> ?_)
    ·have hput:put cur (i:Int) x=some (cur.set i x):=by unfold put;rw[if_pos (by omega)];rfl
     obtain⟨y,hyi⟩:∃y,idx cur (i:Int)=some y:=⟨cur[i]'(by omega),by unfold idx;rw[if_pos (by omega)];simp⟩
     refine k_seq (by kernel_rfl) λK12 hK12=> ?_
     refine k_reg 5 (by kernel_rfl) ?_
     refine r_run 0 5 [0,1,5,6] [.own 0 0,.put 1 (rowF (rawF 5) 43 (some ⟨g,0,none⟩) c0 (cur.set i x))] hS rfl (L':=[(0,.slice (some ⟨g,0,none⟩) p0.length c0),(1,.func (.func gd) #[] cv.toArray),(5,.int .i64 (i:Int)),(6,.int .i64 (j:Int))]) (As':=[.box u0 [v0,v1,v2,v3,v4],rowF (rawF 5) 43 (some ⟨g,0,none⟩) c0 (cur.set i x)])
      (ob:=[λ_=>(⟨u0,0,none⟩:Addr)=(⟨u0,0,none⟩:Addr).add 0,λ_=>Inb (some ⟨g,0,none⟩) p0.length (i:Int),λ_=>PutOk (rowF (rawF 5) 43 (some ⟨g,0,none⟩) c0 cur) (rowF (rawF 5) 43 (some ⟨g,0,none⟩) c0 (cur.set i x)) ((baseOf (some ⟨g,0,none⟩)).add ((i:Int).toNat*5)) [v0,v1,v2,v3,v4]]) (by kernel_rfl) ⟨Bx.c (add_zero' _).symm,Bx.c ⟨by omega,by omega,by simp⟩,Bx.c (by have:=putRow (F:=(rawF 5)) (e:=43) (a:=some ⟨g,0,none⟩) (c:=c0) hyi hput (sl:=(cur.set i x).length) (by simp);rw[←hxv];exact this),trivial⟩ λa w hS=> ?_
     refine wl_end ?_
     refine hK12 _ _ ?_
     refine k_reg 3 (by kernel_rfl) ?_
     refine r_run 0 3 [0,1,5,6] [.as 35 (.int .i64 ((i+1:Nat):Int))] hS rfl (L':=[(0,.slice (some ⟨g,0,none⟩) p0.length c0),(1,.func (.func gd) #[] cv.toArray),(5,.int .i64 ((i+1:Nat):Int)),(6,.int .i64 (j:Int))]) (As':=[.box u0 [v0,v1,v2,v3,v4],rowF (rawF 5) 43 (some ⟨g,0,none⟩) c0 (cur.set i x)]) (ob:=[λ_=>Value.int .i64 (IntKind.wrap .i64 ((i:Int)+1))= .int .i64 ((i+1:Nat):Int)]) (by kernel_rfl) ⟨Bx.c (congrArg (Value.int .i64) (wrap_s (by omega))),trivial⟩ λa w hS=> ?_
     refine wl_end ?_
     refine hnext (i+1) (cur.set i x) _ _ (by omega) (by simp[hcl]) ?_ ?_ ((hS.perm (List.Perm.swap _ _ _)).sub (As:=[_]) (Bs:=[_]) λ_ h=>h)
     ·have hyf:yb=false:=by simpa using hbx
      rw[hpt,←htake,hyf,List.take_add_one,List.take_set_of_le (Nat.le_refl _),List.getElem?_set_self (by omega)];rfl
     ·exact hdr _ (by rw[List.drop_set_of_lt hij,hdrop,hpd])
    ·refine k_skip (by kernel_rfl) ?_
     have hyt:yb=true:=by simpa using hbx
     refine hnext i cur _ _ (by omega) hcl ?_ (hdr _ (by rw[hdrop,hpd])) (((hS.perm (List.Perm.swap _ _ _)).sub (As:=[_]) (Bs:=[_]) λ_ h=>h).env4)
     rw[hpt,←htake,hyt]
     simp
   ·have hjl:j=p0.length:=by have:=of_decide_eq_false hq;omega
    subst hjl
    rw[List.take_length,show bs.take p0.length=bs from by rw[←hbl];exact List.take_length] at htake
    refine k_exit 0 (by kernel_rfl) ?_
    try simp only[Exit.then,Exit.inBlock,if_true]
    refine hK5 _ _ ?_
    have hil2:i=(keepF p0 bs).length:=by rw[←htake,List.length_take];omega
    have hs0:slA (some (⟨g,0,none⟩:Addr)) i c0 ((rawF 5)).sz=some ⟨g,i*((rawF 5)).sz,none⟩:=by
     unfold slA;rw[if_neg (by omega)];simp only[Option.map_some,addr_add0]
    have hs1:slA (some (⟨g,0,none⟩:Addr)) 0 c0 ((rawF 5)).sz=some ⟨g,0,none⟩:=by
     unfold slA;rw[if_neg (by omega)];simp only[Option.map_some,Nat.zero_mul,addr_add0]
    refine k_seq (by kernel_rfl) λK7 hK7=> ?_
    refine k_reg 4 (by kernel_rfl) ?_
    refine r_run 0 3 [0,5,38] [.as 38 (.slice (some ⟨g,i*((rawF 5)).sz,none⟩) (p0.length-i) (c0-i))] hS rfl (L':=[(0,.slice (some ⟨g,0,none⟩) p0.length c0),(5,.int .i64 (i:Int)),(38,.slice (some ⟨g,i*((rawF 5)).sz,none⟩) (p0.length-i) (c0-i))]) (As':=[rowF (rawF 5) 43 (some ⟨g,0,none⟩) c0 cur]) (ob:=[λ_=>0≤(i:Int)∧(i:Int)≤(p0.length:Int)∧(p0.length:Int)≤(c0:Int),λ_=>Value.slice (slA (some ⟨g,0,none⟩) i c0 ((rawF 5)).sz) (p0.length-i) (c0-i)= .slice (some ⟨g,i*((rawF 5)).sz,none⟩) (p0.length-i) (c0-i)]) (by kernel_rfl) ⟨Bx.c ⟨by omega,by omega,by omega⟩,Bx.c (by rw[hs0]),trivial⟩ λa w hS=> ?_
    obtain⟨ds,hd1,hd2,hd3,hd4⟩:=row_full (hS.st.own _ (List.mem_cons_self ..))
    replace hS:=hS.same (B:= .row (some ⟨g,0,none⟩) c0 43 ((rawF 5)).sz c0 ds) 0 rfl (λ_=>hd4) rfl (by simp[Asn.fp])
    refine r_bltS 3 rfl 0 (.row (some ⟨g,0,none⟩) c0 43 ((rawF 5)).sz c0 (spl ds (i*((rawF 5)).sz) (Builtin.zeroCells ((Tryz.t43.zero).getD undef).cells (p0.length-i)).toList)) (d:=none) (b:= .clear) (ts:= #[22]) (ty:=0) (vs:= #[.slice (some ⟨g,i*((rawF 5)).sz,none⟩) (p0.length-i) (c0-i)]) hS (by kernel_rfl) rfl (λhA=>run_clear_row (t:=22) (ty:=0) (inf:=Tryz.t43) (by kernel_rfl) (by kernel_rfl) (by kernel_rfl) (by kernel_rfl) (oneAll (by kernel_rfl)) hA (by rw[←Nat.add_mul];exact Nat.mul_le_mul_right _ (by omega))) rfl (by simp[Asn.fp]) λa w hS=> ?_
    have hcut:(spl ds (i*((rawF 5)).sz) (Builtin.zeroCells ((Tryz.t43.zero).getD undef).cells (p0.length-i)).toList).take (i*((rawF 5)).sz)=(keepF p0 bs).flatMap ((rawF 5)).enc:=by
     have hle:i*((rawF 5)).sz≤ds.length:=by rw[hd2];exact Nat.mul_le_mul_right _ (by omega)
     have hle2:i*((rawF 5)).sz≤cur.length*((rawF 5)).sz:=Nat.mul_le_mul_right _ (by omega)
     unfold spl
     rw[List.append_assoc,List.take_left' (by rw[List.length_take];omega),←htake,flat_take,←hd1,List.take_take,Nat.min_eq_left hle2]
    have hlen:(keepF p0 bs).length=i:=by rw[←htake,List.length_take];omega
    replace hS:=hS.same (B:=rowF (rawF 5) 43 (some ⟨g,0,none⟩) c0 (keepF p0 bs)) 0 rfl (λhA=>by
     have:=row_cut hA i (by omega)
     rw[hcut] at this
     unfold rowF
     rw[hlen]
     exact this) rfl (by simp[Asn.fp])
    refine wl_end ?_
    refine hK7 _ _ ?_
    refine k_seq (by kernel_rfl) λK8 hK8=> ?_
    refine k_reg 4 (by kernel_rfl) ?_
    refine r_run 0 4 [4] [.as 41 (.slice (some ⟨g,0,none⟩) i c0)] hS rfl (L':=[(4,.slice (some ⟨g,0,none⟩) i c0)]) (As':=[rowF (rawF 5) 43 (some ⟨g,0,none⟩) c0 (keepF p0 bs)]) (ob:=[λ_=>(0:Int)≤0∧(0:Int)≤(i:Int)∧(i:Int)≤(c0:Int),λ_=>Value.slice (slA (some ⟨g,0,none⟩) 0 c0 ((rawF 5)).sz) (i-0) (c0-0)= .slice (some ⟨g,0,none⟩) i c0]) (by kernel_rfl) ⟨Bx.c ⟨by omega,by omega,by omega⟩,Bx.c (by rw[hs1];rfl),trivial⟩ λa w hS=> ?_
    refine wl_end ?_
    refine hK8 _ _ ?_
    refine k_ret (by kernel_rfl) ?_
    try simp only[Exit.then,Exit.inBlock]
    refine r_ret hS [.tmp 4] [] (xs:=[.slice (some ⟨g,0,none⟩) i c0]) (ps:=[]) [0] [] rfl (by kernel_rfl) (λhA=>trivial) rfl (λF up=>trivial) ?_
    exact⟨some ⟨g,0,none⟩,c0,by rw[hlen];rfl,rfl,rfl⟩
def slices_DeleteFunc_Queue_f95(n:Nat)(q0:List Queue):Option (List Queue):=(slices_IndexFunc_Queue_f95 n q0).bind λz=>delF (λy=>locks_without_3 n y) z q0
@[reducible] def slices_DeleteFunc_Queue_f95_ct:Ct tab:=⟨94,[.one (.own 0),.one (.fn 95 [])],[.row 43 (.st 3)],[.one (.own 0)],[(none,.row 43 (.st 3))],List Queue,λy=>(y,()),λy=>y.1,λ_=>rfl,λn x=>slices_DeleteFunc_Queue_f95 n x.1⟩
theorem slices_DeleteFunc_Queue_f95_ok:OkC Tryz.prog tab slices_DeleteFunc_Queue_f95_ct:=dlf_ok (i:=3) (cs:=[]) (fI:=λn x=>slices_IndexFunc_Queue_f95 n x.1) (fD:=λn x y=>locks_without_3 n y) (m:=5) tabOk rfl rfl Tryz.call94 Tryz.call121 Tryz.call95
 (λn x z hz R w Ps v cv hst hv hcv=>Calls.mono (slices_IndexFunc_Queue_f95_ok.2 n (x.1,()) z hz R w rho0 [] Ps [v,.func (.func 95) #[] cv.toArray] hst (λj g h=>by cases h) ⟨hv,⟨cv,rfl,hcv⟩,trivial⟩ trivial) λe w' h=>by
  obtain⟨v1,ρ1,As1,Ps1,h1,h2,h3,_⟩:=h
  exact⟨h1.trans (congrArg Ending.returned (show v1= .int .i64 z from h2.1)),h3⟩)
 (λn x y b hb R w Ps v cv hst hv hcv=>Calls.mono (locks_without_3_ok.2 n (y,()) b hb R w rho0 [] Ps (v::cv) hst (λj g h=>by cases h) ⟨hv,capLs_rel hcv⟩ trivial) λe w' h=>by
  obtain⟨v1,ρ1,As1,Ps1,h1,h2,h3,_⟩:=h
  exact⟨h1.trans (congrArg Ending.returned (show v1= .bool b from h2.1)),h3⟩) slices_DeleteFunc_Queue_raw
def locks_without_l1(n:Nat):Nat→Bool×Int×Int×Int×(List Int)×Nat×(List Queue)×Unit→Option ((List Queue)×(List Int)):=loopF λr1 ⟨v1,v2,v3,v4,v5,v6,v7,_⟩=>
 cond (decide (v3<v2))
 ((idxM v7 v3 v6).bind λx8=>
 (sameI v3 v3).bind λu9=>
 (slices_DeleteFunc_Wait_f90 n v4 x8.waiters).bind λy10=>
 cond v1
 ((slices_DeleteFunc_Hold_f92 n v4 x8.holders).bind λy11=>
 (locks_pump n x8.res.table x8.res.isKey x8.res.id y11 y10).bind λy12=>
 (app 8 v5 y12.2.2.2.2.2).bind λl13=>
 r1 (v1,v2,(IntKind.wrap .i64 (v3+1)),v4,l13,((Int.toNat v3)+1),(List.set v7 (Int.toNat v3) (Queue.mk (Res.mk y12.1 y12.2.1 y12.2.2.1) y12.2.2.2.2.1 y12.2.2.2.1)),()))
 ((locks_pump n x8.res.table x8.res.isKey x8.res.id x8.holders y10).bind λy14=>
 (app 8 v5 y14.2.2.2.2.2).bind λl15=>
 r1 (v1,v2,(IntKind.wrap .i64 (v3+1)),v4,l15,((Int.toNat v3)+1),(List.set v7 (Int.toNat v3) (Queue.mk (Res.mk y14.1 y14.2.1 y14.2.2.1) y14.2.2.2.2.1 y14.2.2.2.1)),())))
 ((sameN v6 (v7).length).bind λu16=>
 (slices_DeleteFunc_Queue_f95 n v7).bind λy17=>
 some (y17,v5))
def locks_without(n:Nat)(p1:Int)(p2:Bool)(q1:List Queue):Option ((List Queue)×(List Int)):=
 locks_without_l1 n n (p2,(q1.length:Int),0,p1,([]:List Int),0,q1,())
@[reducible] def locks_without_c0_ct:Ct tab:=⟨41,[.one (.box 0 0),.one (.d (.int .i64)),.one (.d .bool)],[.box [.own 1],.deep 43 (.st 3) [none,none,none,some 45,some 47]],[.one (.own 2)],[(some 0,.box [.own 1]),(none,.row 43 (.st 3)),(none,.row 3 (.int .i64))],((List Queue)×(List Int)),λy=>(y.1,y.2,()),λy=>(y.1,y.2.1),λ_=>rfl,λn x=>locks_without n x.1 x.2.1 x.2.2.1⟩
theorem locks_without_c0_ok:OkC Tryz.prog tab locks_without_c0_ct:=fn_ok (W:=⟨Tryz.prog,tab,tyOf,[slices_DeleteFunc_Wait_f90_ct,slices_DeleteFunc_Hold_f92_ct,locks_pump_ct,slices_DeleteFunc_Queue_f95_ct],addO,dpO,false⟩) ⟨tabOk,⟨slices_DeleteFunc_Wait_f90_ok,slices_DeleteFunc_Hold_f92_ok,locks_pump_ok,slices_DeleteFunc_Queue_f95_ok,trivial⟩,addOk⟩ (by kernel_rfl) 57 Tryz.f41 (.sq (.gs [.shd 1] (.n)) (.sq (.n) (.sq (.sq (.n) (.bk none (.lp ⟨[(0,.one (.box 0 0)),(2,.one (.d .bool)),(4,.one (.box 1 0)),(7,.one (.own 2)),(14,.one (.d (.int .i64))),(15,.one (.d (.int .i64)))],[.box [.own 3],.box [.d (.int .i64)],.row 3 (.int .i64),.shed 43 (.st 3) [none,none,none,some 45,some 47]],[(0,0)]⟩ (.sq (.n) (.sq (.n) (.sq (.bk none (.sq (.n) (.sq (.gs [.foc 3 8] (.n)) (.n)))) (.gs [.frb 3,.shu 3] (.n)))))))) (.sq (.gs [.shf 3] (.n)) (.n))))) Tryz.func41 Tryz.call41 rfl (by kernel_rfl) (by kernel_rfl) (by kernel_rfl) λn x=>by kernel_rfl
@[reducible] def locks_without_ct:Ct tab:=⟨41,[.one (.box 0 0),.one (.d (.int .i64)),.one (.d .bool)],[.box [.own 1],.deep 43 (.st 3) [none,none,none,some 45,some 47]],[.one (.own 2)],[(some 0,.box [.own 1]),(none,.scr (.st 3) true),(none,.row 3 (.int .i64))],((List Queue)×(List Int)),λy=>(y.1,y.2,()),λy=>(y.1,y.2.1),λ_=>rfl,λn x=>locks_without n x.1 x.2.1 x.2.2.1⟩
theorem locks_without_ok:OkC Tryz.prog tab locks_without_ct:=claim_ok tabOk (by kernel_rfl) (by kernel_rfl) (by kernel_rfl) (by kernel_rfl) (by kernel_rfl) locks_without_c0_ok
def locks_Release_1(n:Nat)(q1:List Queue)(q2:Int)(q3:List Int):Option (Int×Int×(List Int)×(List Queue)):=
 (locks_without n q2 true q1).bind λy1=>
 some (0,q2,y1.2,y1.1)
@[reducible] def locks_Release_1_ct:Ct tab:=⟨40,[.one (.box 0 0),.one (.box 2 0),.one (.box 3 0)],[.box [.own 1],.deep 43 (.st 3) [none,none,none,some 45,some 47],.box [.d (.int .i64)],.box [.d (.sl (.int .i64))]],[.one (.d (.int .i64))],[(some 0,.box [.own 3]),(some 2,.box [.d (.int .i64)]),(some 3,.box [.d (.sl (.int .i64))]),(none,.scr (.st 3) true)],(Int×Int×(List Int)×(List Queue)),λy=>(y.1,y.2.1,y.2.2.1,y.2.2.2,()),λy=>(y.1,y.2.1,y.2.2.1,y.2.2.2.1),λ_=>rfl,λn x=>locks_Release_1 n x.1 x.2.1 x.2.2.1⟩
theorem locks_Release_1_ok:OkC Tryz.prog tab locks_Release_1_ct:=fn_ok (W:=⟨Tryz.prog,tab,tyOf,[locks_without_ct],addO,dpO,false⟩) ⟨tabOk,⟨locks_without_ok,trivial⟩,addOk⟩ (by kernel_rfl) 8 Tryz.f40 (.n) Tryz.func40 Tryz.call40 rfl (by kernel_rfl) (by kernel_rfl) (by kernel_rfl) λn x=>by kernel_rfl
def locks_own(n:Nat)(p0:Locks)(p1:Int):Option (Locks×Int):=
 some (p0,p1)
@[reducible] def locks_own_ct:Ct tab:=⟨42,[.st 4,.one (.d (.int .i64))],[],[.one (.fn 96 [.bx 0,.bx 1])],[(none,.bst 4),(none,.box [.d (.int .i64)])],(Locks×Int),λy=>(y.1,y.2,()),λy=>(y.1,y.2.1),λ_=>rfl,λn x=>locks_own n x.1 x.2.1⟩
theorem locks_own_ok:OkC Tryz.prog tab locks_own_ct:=fn_ok (W:=⟨Tryz.prog,tab,tyOf,[],addO,dpO,false⟩) ⟨tabOk,trivial,addOk⟩ (by kernel_rfl) 6 Tryz.f42 (.n) Tryz.func42 Tryz.call42 rfl (by kernel_rfl) (by kernel_rfl) (by kernel_rfl) λn x=>by kernel_rfl
def locks_own_1_fyd0_l1(n:Nat):Nat→Int×(List Queue)×Int×Int×(HL tabT [.st 6]→HL tabT [.st 0,.int .i64]→Option (Nat×HL tabT [.st 0,.int .i64]))×Nat×(HL tabT [.st 0,.int .i64])×Unit→Option ((HL tabT [.st 6]→HL tabT [.st 0,.int .i64]→Option (Nat×HL tabT [.st 0,.int .i64]))×Nat×(HL tabT [.st 0,.int .i64])):=loopF λr1 ⟨v1,v2,v3,v4,v5,v6,v7,_⟩=>
 cond (decide (v4<v3))
 ((idx v2 v4).bind λx8=>
 (locks_held n x8 v1).bind λy9=>
 cond (y9 !=0)
 ((callY v5 v6 ((Lock.mk x8.res y9),()) v7).bind λy10=>
 cond (!(Nat.beq y10.1 0))
 (some (v5,y10.1,y10.2))
 (r1 (v1,v2,v3,(IntKind.wrap .i64 (v4+1)),v5,y10.1,y10.2,())))
 (cond false
 (some (v5,v6,v7))
 (r1 (v1,v2,v3,(IntKind.wrap .i64 (v4+1)),v5,v6,v7,()))))
 (some (v5,v6,v7))
def locks_own_1_fyd0(n:Nat)(p1:Locks)(p2:Int)(q0_0:HL tabT [.st 6]→HL tabT [.st 0,.int .i64]→Option (Nat×HL tabT [.st 0,.int .i64]))(q0_1:Nat)(q0_2:HL tabT [.st 0,.int .i64]):Option ((HL tabT [.st 6]→HL tabT [.st 0,.int .i64]→Option (Nat×HL tabT [.st 0,.int .i64]))×Nat×(HL tabT [.st 0,.int .i64])):=
 locks_own_1_fyd0_l1 n n (p2,p1.queues,(p1.queues.length:Int),0,q0_0,q0_1,q0_2,())
@[reducible] def locks_own_1_fyd0_ct:Ct tab:=⟨96,[.one (.yd 0),.one (.ro (.st 4)),.one (.ro (.int .i64))],[.opq [.st 6] [.st 0,.int .i64]],[],[(some 0,.opq [.st 6] [.st 0,.int .i64])],((HL tabT [.st 6]→HL tabT [.st 0,.int .i64]→Option (Nat×HL tabT [.st 0,.int .i64]))×Nat×(HL tabT [.st 0,.int .i64])),λy=>(y.1,y.2.1,y.2.2,()),λy=>(y.1,y.2.1,y.2.2.1),λ_=>rfl,λn x=>locks_own_1_fyd0 n x.1 x.2.1 x.2.2.1 x.2.2.2.1 x.2.2.2.2.1⟩
theorem locks_own_1_fyd0_ok:OkC Tryz.prog tab locks_own_1_fyd0_ct:=fn_ok (W:=⟨Tryz.prog,tab,tyOf,[locks_held_ct],addO,dpO,false⟩) ⟨tabOk,⟨locks_held_ok,trivial⟩,addOk⟩ (by kernel_rfl) 29 Tryz.f96 (.sq (.n) (.bk none (.lp ⟨[(0,.one (.yd 0)),(2,.one (.ro (.int .i64))),(8,.one (.d (.sl (.st 3)))),(9,.one (.d (.int .i64))),(10,.one (.d (.int .i64)))],[.opq [.st 6] [.st 0,.int .i64]],[(0,0)]⟩ (.sq (.n) (.sq (.n) (.sq (.bk none (.sq (.n) (.sq (.n) (.sq (.rg [1000000]) (.n))))) (.n))))))) Tryz.func96 Tryz.call96 rfl (by kernel_rfl) (by kernel_rfl) (by kernel_rfl) λn x=>by kernel_rfl
def locks_Mode(n:Nat)(p0:Locks)(p1:Int)(p2:Res):Option Int:=
 (locks_Check n p0).bind λy1=>
 cond (y1 !=0)
 (some 0)
 ((locks_own n p0 p1).bind λy2=>
 (locks_own_1_fyd0 n y2.1 y2.2 (λy3 z4=>
 cond (Res.eqb y3.1.res z4.1)
 (some (1,(z4.1,y3.1.mode,())))
 (some (0,(z4.1,z4.2.1,())))) 0 (p2,0,())).bind λy5=>
 sel y5.2.1 [
 some 0,
 some y5.2.2.2.1,
 some 0])
@[reducible] def locks_Mode_ct:Ct tab:=⟨14,[.st 4,.one (.d (.int .i64)),.st 0],[],[.one (.d (.int .i64))],[],Int,λy=>(y,()),λy=>y.1,λ_=>rfl,λn x=>locks_Mode n x.1 x.2.1 x.2.2.1⟩
theorem locks_Mode_ok:OkC Tryz.prog tab locks_Mode_ct:=fn_ok (W:=⟨Tryz.prog,tab,tyOf,[locks_Check_ct,locks_own_ct,locks_own_1_fyd0_ct],addO,dpO,false⟩) ⟨tabOk,⟨locks_Check_ok,locks_own_ok,locks_own_1_fyd0_ok,trivial⟩,addOk⟩ (by kernel_rfl) 21 Tryz.f14 (.sq (.n) (.sq (.n) (.sq (.sq (.n) (.bk none (.rf [(5,.one (.box 0 0)),(6,.one (.box 1 0))] [(13,.one (.fn 96 [.ro (.st 4),.ro (.int .i64)]))] [.bst 0,.box [.d (.int .i64)]] [] [] 13 (.fn 96 [.ro (.st 4),.ro (.int .i64)]) [.st 6] (.n) (.n)))) (.n)))) Tryz.func14 Tryz.call14 rfl (by kernel_rfl) (by kernel_rfl) (by kernel_rfl) λn x=>by kernel_rfl
def law08_few_j1(n:Nat):Locks×(List Queue)×Unit→Option Locks:=fun⟨v12,v13,_⟩=>
 some (Locks.mk v13)
def law08_few_l2(n:Nat)(j1:Locks×(List Queue)×Unit→Option Locks):Nat→(List Queue)×Int×Int×Locks×(List Queue)×Unit→Option Locks:=loopF λr2 ⟨v14,v15,v16,v17,v18,_⟩=>
 cond (decide (v16<v15))
 ((idx v14 v16).bind λx19=>
 cond (decide (v16>500))
 (j1 (v17,v18,()))
 ((sub x19.holders 0 (if 20<(x19.holders.length:Int) then 20 else(x19.holders.length:Int))).bind λl20=>
 (app 16 ([]:List Hold) l20).bind λl21=>
 (sub x19.waiters 0 (if 20<(x19.waiters.length:Int) then 20 else(x19.waiters.length:Int))).bind λl22=>
 (app 24 ([]:List Wait) l22).bind λl23=>
 (app 64 v18 ([(Queue.mk x19.res l21 l23)]:List Queue)).bind λl24=>
 r2 (v14,v15,(IntKind.wrap .i64 (v16+1)),v17,l24,())))
 (j1 (v17,v18,()))
def law08_few(n:Nat)(p0:Locks):Option Locks:=
 jn (law08_few_j1 n) λj1=>
 law08_few_l2 n j1 n (p0.queues,(p0.queues.length:Int),0,(Locks.mk ([]:List Queue)),([]:List Queue),())
@[reducible] def law08_few_ct:Ct tab:=⟨5,[.st 4],[],[.st 4],[],Locks,λy=>(y,()),λy=>y.1,λ_=>rfl,λn x=>law08_few n x.1⟩
theorem law08_few_ok:OkC Tryz.prog tab law08_few_ct:=fn_ok (W:=⟨Tryz.prog,tab,tyOf,[],addO,dpO,false⟩) ⟨tabOk,trivial,addOk⟩ (by kernel_rfl) 44 Tryz.f5 (.sq (.n) (.sq (.n) (.sq (.sq (.n) (.bk (some ⟨[(2,.one (.box 0 0)),(3,.one (.box 1 0))],[.bst 4,.box [.own 2],.row 43 (.st 3)],[]⟩) (.lp ⟨[(2,.one (.box 0 0)),(3,.one (.box 1 0)),(7,.one (.d (.sl (.st 3)))),(8,.one (.d (.int .i64))),(9,.one (.d (.int .i64)))],[.bst 4,.box [.own 2],.row 43 (.st 3)],[]⟩ (.n)))) (.n)))) Tryz.func5 Tryz.call5 rfl (by kernel_rfl) (by kernel_rfl) (by kernel_rfl) λn x=>by kernel_rfl
end
end Go.Proofs.YtchocpffjnodfaaGreat
