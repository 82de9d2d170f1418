import Derived.Test.YtlcmdgpjiendmaaGreatTypes
import Derived.Test.YtlcmdgpjiendmaaGreatF0
namespace Go.Proofs.YtlcmdgpjiendmaaGreat
open Go Go.Bur Go.RowKit
set_option linter.unusedVariables false
set_option linter.unusedSimpArgs false
set_option maxRecDepth 100000
noncomputable section
def dV(n:Nat)(p0:List Row):Option ((List Row)):=
 La p0.isEmpty
 (some ([]:List Row))
 ((app 40 ([]:List Row) p0).bind λl1=>
 some l1)
@[reducible] def iP:Ct tab:=⟨101,[.one (.d (.sl (.st 2)))],[],[.one (.own 0)],[(none,.row 40 (.st 2))],((List Row)),λy=>(y,()),λy=>y.1,λ_=>rfl,λn x=>dV n x.1⟩
theorem lS:OkC Tryz.prog tab iP:=aQ (W:=⟨Tryz.prog,tab,bE,[],bG,dpO,false⟩) ⟨aK,trivial,aN⟩ (by kernel_rfl) 8 Tryz.f101 .n Tryz.func101 Tryz.call101 rfl (by kernel_rfl) (by kernel_rfl) (by kernel_rfl) λn x=>by kernel_rfl
def jJ(n:Nat)(p0:List Row)(p1:Int):Option ((List Row)×(List Row)):=
 (sub p0 0 p1).bind λl1=>
 (dV n l1).bind λy2=>
 (sub p0 p1 (p0.length:Int)).bind λl3=>
 (dV n l3).bind λy4=>
 some (y2,y4)
@[reducible] def tG:Ct tab:=⟨136,[.one (.d (.sl (.st 2))),.one (.d (.int .i64))],[],[.one (.own 0),.one (.own 1)],[(none,.row 40 (.st 2)),(none,.row 40 (.st 2))],((List Row)×(List Row)),λy=>(y.1,y.2,()),λy=>(y.1,y.2.1),λ_=>rfl,λn x=>jJ n x.1 x.2.1⟩
theorem Bf:OkC Tryz.prog tab tG:=aQ (W:=⟨Tryz.prog,tab,bE,[iP],bG,dpO,false⟩) ⟨aK,⟨lS,trivial⟩,aN⟩ (by kernel_rfl) 14 Tryz.f136 .n Tryz.func136 Tryz.call136 rfl (by kernel_rfl) (by kernel_rfl) (by kernel_rfl) λn x=>by kernel_rfl
def fZ(n:Nat)(p0:List Row):Option aA:=
 some (aA.mk 1 p0 ([]:List Kid))
@[reducible] def lA:Ct tab:=⟨107,[.one (.d (.sl (.st 2)))],[],[.st 4],[],aA,λy=>(y,()),λy=>y.1,λ_=>rfl,λn x=>fZ n x.1⟩
theorem oX:OkC Tryz.prog tab lA:=aQ (W:=⟨Tryz.prog,tab,bE,[],bG,dpO,false⟩) ⟨aK,trivial,aN⟩ (by kernel_rfl) 5 Tryz.f107 .n Tryz.func107 Tryz.call107 rfl (by kernel_rfl) (by kernel_rfl) (by kernel_rfl) λn x=>by kernel_rfl
def cO(n:Nat)(p0:List Kid):Option ((List Kid)):=
 La p0.isEmpty
 (some ([]:List Kid))
 ((app 24 ([]:List Kid) p0).bind λl1=>
 some l1)
@[reducible] def eM:Ct tab:=⟨144,[.one (.d (.sl (.st 3)))],[],[.one (.own 0)],[(none,.row 100 (.st 3))],((List Kid)),λy=>(y,()),λy=>y.1,λ_=>rfl,λn x=>cO n x.1⟩
theorem fQ:OkC Tryz.prog tab eM:=aQ (W:=⟨Tryz.prog,tab,bE,[],bG,dpO,false⟩) ⟨aK,trivial,aN⟩ (by kernel_rfl) 8 Tryz.f144 .n Tryz.func144 Tryz.call144 rfl (by kernel_rfl) (by kernel_rfl) (by kernel_rfl) λn x=>by kernel_rfl
def jK(n:Nat)(p0:List Kid)(p1:Int):Option ((List Kid)×(List Kid)):=
 (sub p0 0 p1).bind λl1=>
 (cO n l1).bind λy2=>
 (sub p0 p1 (p0.length:Int)).bind λl3=>
 (cO n l3).bind λy4=>
 some (y2,y4)
@[reducible] def tH:Ct tab:=⟨137,[.one (.d (.sl (.st 3))),.one (.d (.int .i64))],[],[.one (.own 0),.one (.own 1)],[(none,.row 100 (.st 3)),(none,.row 100 (.st 3))],((List Kid)×(List Kid)),λy=>(y.1,y.2,()),λy=>(y.1,y.2.1),λ_=>rfl,λn x=>jK n x.1 x.2.1⟩
theorem Bg:OkC Tryz.prog tab tH:=aQ (W:=⟨Tryz.prog,tab,bE,[eM],bG,dpO,false⟩) ⟨aK,⟨fQ,trivial⟩,aN⟩ (by kernel_rfl) 14 Tryz.f137 .n Tryz.func137 Tryz.call137 rfl (by kernel_rfl) (by kernel_rfl) (by kernel_rfl) λn x=>by kernel_rfl
def qL(n:Nat)(p1:Key)(q0:List Kid):Option (Key×(List Kid)):=
 (idx q0 0).bind λx1=>
 (idx q0 0).bind λx2=>
 (idx q0 0).bind λx3=>
 (idx q0 0).bind λx4=>
 (put q0 0 (Kid.mk p1 x4.page)).bind λl5=>
 some (x2.least,l5)
@[reducible] def rI:Ct tab:=⟨138,[.one (.own 0),.st 1],[.row 100 (.st 3)],[.st 1],[(some 0,.row 100 (.st 3))],(Key×(List Kid)),λy=>(y.1,y.2,()),λy=>(y.1,y.2.1),λ_=>rfl,λn x=>qL n x.1 x.2.1⟩
theorem xV:OkC Tryz.prog tab rI:=aQ (W:=⟨Tryz.prog,tab,bE,[],bG,dpO,false⟩) ⟨aK,trivial,aN⟩ (by kernel_rfl) 15 Tryz.f138 .n Tryz.func138 Tryz.call138 rfl (by kernel_rfl) (by kernel_rfl) (by kernel_rfl) λn x=>by kernel_rfl
def eW(n:Nat)(p0:List Kid):Option aA:=
 some (aA.mk 2 ([]:List Row) p0)
@[reducible] def iH:Ct tab:=⟨139,[.one (.d (.sl (.st 3)))],[],[.st 4],[],aA,λy=>(y,()),λy=>y.1,λ_=>rfl,λn x=>eW n x.1⟩
theorem jY:OkC Tryz.prog tab iH:=aQ (W:=⟨Tryz.prog,tab,bE,[],bG,dpO,false⟩) ⟨aK,trivial,aN⟩ (by kernel_rfl) 5 Tryz.f139 .n Tryz.func139 Tryz.call139 rfl (by kernel_rfl) (by kernel_rfl) (by kernel_rfl) λn x=>by kernel_rfl
def nL(n:Nat)(p0:aA):Option (aA×aA×Key×Int):=
 (dG n 0 ([p0]:List aA)).bind λy1=>
 cond (y1 !=0)
 (some ((aA.mk 0 ([]:List Row) ([]:List Kid)),(aA.mk 0 ([]:List Row) ([]:List Kid)),(Key.mk 0 0),y1))
 ((qK n p0).bind λy2=>
 cond (!y2)
 (some ((aA.mk 0 ([]:List Row) ([]:List Kid)),(aA.mk 0 ([]:List Row) ([]:List Kid)),(Key.mk 0 0),2))
 (cond (p0.kind==1)
 ((jJ n p0.rows 2).bind λy3=>
 (fZ n y3.1).bind λy4=>
 (fZ n y3.2).bind λy5=>
 (idx y3.2 0).bind λx6=>
 some (y4,y5,x6.key,0))
 ((jK n p0.kids 2).bind λy7=>
 (qL n (Key.mk 0 0) y7.2).bind λy8=>
 (eW n y7.1).bind λy9=>
 (eW n y8.2).bind λy10=>
 some (y9,y10,y8.1,0))))
@[reducible] def xW:Ct tab:=⟨94,[.st 4],[],[.st 4,.st 4,.st 1,.one (.d (.int .i64))],[],(aA×aA×Key×Int),λy=>(y.1,y.2.1,y.2.2.1,y.2.2.2,()),λy=>(y.1,y.2.1,y.2.2.1,y.2.2.2.1),λ_=>rfl,λn x=>nL n x.1⟩
theorem DL:OkC Tryz.prog tab xW:=aQ (W:=⟨Tryz.prog,tab,bE,[dK,oW,tG,lA,tH,rI,iH],bG,dpO,false⟩) ⟨aK,⟨eG,uK,Bf,oX,Bg,xV,jY,trivial⟩,aN⟩ (by kernel_rfl) 58 Tryz.f94 (.sq .n (.sq .n (.sq .n (.sq (.sq .n (.cd none (.sq .n (.sq (.rg [34,35]) .n)) .n)) (.sq .n (.sq .n (.sq (.rg [48,49]) .n))))))) Tryz.func94 Tryz.call94 rfl (by kernel_rfl) (by kernel_rfl) (by kernel_rfl) λn x=>by kernel_rfl
def lU(n:Nat):Nat->(List Int)×Int×Int×Int×Unit->Option Int:=aW λr1 ⟨v1,v2,v3,v4,_⟩=>
 cond (decide (v4<v3))
 ((idx v1 v4).bind λx5=>
 cond (v2==x5)
 (some v4)
 (r1 (v1,v2,v3,(IntKind.wrap .i64 (v4+1)),())))
 (some (-1))
def lB(n:Nat)(p0:List Int)(p1:Int):Option Int:=
 lU n n (p0,p1,(p0.length:Int),0,())
@[reducible] def tU:Ct tab:=⟨169,[.one (.d (.sl (.int .i64))),.one (.d (.int .i64))],[],[.one (.d (.int .i64))],[],Int,λy=>(y,()),λy=>y.1,λ_=>rfl,λn x=>lB n x.1 x.2.1⟩
theorem Dq:OkC Tryz.prog tab tU:=aQ (W:=⟨Tryz.prog,tab,bE,[],bG,dpO,false⟩) ⟨aK,trivial,aN⟩ (by kernel_rfl) 19 Tryz.f169 (.sq .n (.sq (.sq .n (.bk none (.lp ⟨[(0,.one (.d (.sl (.int .i64)))),(1,.one (.d (.int .i64))),(7,.one (.d (.int .i64))),(8,.one (.d (.int .i64)))],[],[]⟩ .n))) .n)) Tryz.func169 Tryz.call169 rfl (by kernel_rfl) (by kernel_rfl) (by kernel_rfl) λn x=>by kernel_rfl
def dH(n:Nat)(p0:List Int)(p1:Int):Option Bool:=
 (lB n p0 p1).bind λy1=>
 some (decide (y1>=0))
@[reducible] def oY:Ct tab:=⟨140,[.one (.d (.sl (.int .i64))),.one (.d (.int .i64))],[],[.one (.d .bool)],[],Bool,λy=>(y,()),λy=>y.1,λ_=>rfl,λn x=>dH n x.1 x.2.1⟩
theorem AB:OkC Tryz.prog tab oY:=aQ (W:=⟨Tryz.prog,tab,bE,[tU],bG,dpO,false⟩) ⟨aK,⟨Dq,trivial⟩,aN⟩ (by kernel_rfl) 9 Tryz.f140 .n Tryz.func140 Tryz.call140 rfl (by kernel_rfl) (by kernel_rfl) (by kernel_rfl) λn x=>by kernel_rfl
def eN(n:Nat):Nat->(List Int)×(List aA)×Int×Int×Unit->Option (Int×Bool):=aW λr1 ⟨v1,v2,v3,v4,_⟩=>
 cond (decide (v4<v3))
 ((idx v2 v4).bind λx5=>
 jn (fun(b6:Bool)=>
 jn (fun(b8:Bool)=>
 cond b8
 (some (v4,true))
 (r1 (v1,v2,v3,(IntKind.wrap .i64 (v4+1)),()))) λk9=>
 cond b6
 ((dH n v1 v4).bind λy10=>
 k9 (!y10))
 (k9 false)) λk7=>
 cond (decide (v4>0))
 (k7 (x5.kind==0))
 (k7 false))
 (some (0,false))
def dW(n:Nat)(p0:bQ)(p1:List Int):Option (Int×Bool):=
 eN n n (p1,p0.f.pages,(p0.f.pages.length:Int),0,())
@[reducible] def lW:Ct tab:=⟨95,[.one (.ro (.st 8)),.one (.d (.sl (.int .i64)))],[],[.one (.d (.int .i64)),.one (.d .bool)],[],(Int×Bool),λy=>(y.1,y.2,()),λy=>(y.1,y.2.1),λ_=>rfl,λn x=>dW n x.1 x.2.1⟩
theorem tV:OkC Tryz.prog tab lW:=aQ (W:=⟨Tryz.prog,tab,bE,[oY],bG,dpO,false⟩) ⟨aK,⟨AB,trivial⟩,aN⟩ (by kernel_rfl) 34 Tryz.f95 (.sq .n (.sq (.sq .n (.bk none (.lp ⟨[(1,.one (.d (.sl (.int .i64)))),(12,.one (.d (.sl (.st 4)))),(13,.one (.d (.int .i64))),(14,.one (.d (.int .i64)))],[],[]⟩ .n))) .n)) Tryz.func95 Tryz.call95 rfl (by kernel_rfl) (by kernel_rfl) (by kernel_rfl) λn x=>by kernel_rfl
theorem Bp{a0:Option Addr}{c0:Nat}{a2:Option Addr}{c2:Nat}(p0:List (Raw 3))(p1:Int)(p2:List (Raw 3))(r:List (Raw 3))(h:Dy 24 p0 p1 p2=some r):
  Bm Tryz.prog 143 #[.slice a0 p0.length c0,.int .i64 p1,.slice a2 p2.length c2] [bC (aB 3) 100 a0 c0 p0,bC (aB 3) 100 a2 c2 p2] [] λv A P=>∃(a:Option Addr) (c:Nat),v= .slice a r.length c/\A=[bC (aB 3) 100 a c r]/\P=[]:=by
 unfold Dy at h
 split at h
 case isFalse=>cases h
 rename_i hb
 obtain⟨hb0,hb1⟩:=hb
 obtain⟨i,hi⟩:∃i:Nat,p1=(i:Int):=⟨p1.toNat,by omega⟩
 subst hi
 simp only[Int.toNat_natCast] at h
 have hil:i<=p0.length:=by omega
 split at h
 case h_2=>cases h
 rename_i hroom
 have hr:=Sw h
 have hrl:r.length=p0.length+p2.length:=by rw[<-hr];simp;omega
 have hbytes:(p0.length+p2.length)*24<=140737488355328:=Nat.le_of_ble_eq_true hroom
 have hsm:p0.length+p2.length<9223372036854775808:=by omega
 refine oE 95 Tryz.func143 Tryz.call143 rfl (by kernel_rfl) (by simp) λC a w hS=> ?_
 have hc:p0.length<=c0:=(C6 (hS.st.own _ (List.mem_cons_self ..))).2.1
 refine bN (by kernel_rfl) λK1 hK1=> ?_
 refine bX 1 (by kernel_rfl) ?_
 refine bU 0 1 [0,1,2] [] hS rfl (L':=[(0,.slice a0 p0.length c0),(1,.int .i64 i),(2,.slice a2 p2.length c2)]) (As':=[bC (aB 3) 100 a0 c0 p0,bC (aB 3) 100 a2 c2 p2]) (ob:=[]) (by kernel_rfl) trivial λa w hS=> ?_
 refine bF ?_
 refine hK1 _ _ ?_
 refine bN (by kernel_rfl) λK2 hK2=> ?_
 refine bX 3 (by kernel_rfl) ?_
 refine bU 0 3 [0,1,2] [] hS rfl (L':=[(0,.slice a0 p0.length c0),(1,.int .i64 i),(2,.slice a2 p2.length c2)]) (As':=[bC (aB 3) 100 a0 c0 p0,bC (aB 3) 100 a2 c2 p2]) (ob:=[λ_=>0<=(i:Int)/\(i:Int)<=(p0.length:Int)/\(p0.length:Int)<=(c0:Int)]) (by kernel_rfl) ⟨Bx.c ⟨hb0,hb1,by omega⟩,trivial⟩ λa w hS=> ?_
 refine bF ?_
 refine hK2 _ _ ?_
 refine bN (by kernel_rfl) λK3 hK3=> ?_
 refine bX 3 (by kernel_rfl) ?_
 refine bU 0 3 [0,1,2,7] [] hS rfl (L':=[(0,.slice a0 p0.length c0),(1,.int .i64 i),(2,.slice a2 p2.length c2),(7,.int .i64 (p2.length:Int))]) (As':=[bC (aB 3) 100 a0 c0 p0,bC (aB 3) 100 a2 c2 p2]) (ob:=[]) (by kernel_rfl) trivial λa w hS=> ?_
 refine bF ?_
 refine hK3 _ _ ?_
 refine bN (by kernel_rfl) λK4 hK4=> ?_
 refine bN (by kernel_rfl) λK5 hK5=> ?_
 refine bX 2 (by kernel_rfl) ?_
 refine bU 0 2 [0,1,2,7,16] [] hS rfl (L':=[(0,.slice a0 p0.length c0),(1,.int .i64 i),(2,.slice a2 p2.length c2),(7,.int .i64 (p2.length:Int)),(16,.bool ((p2.length:Int)==0))]) (As':=[bC (aB 3) 100 a0 c0 p0,bC (aB 3) 100 a2 c2 p2]) (ob:=[]) (by kernel_rfl) trivial λa w hS=> ?_
 refine bF ?_
 refine hK5 _ _ ?_
 refine oP ((p2.length:Int)==0) hS.has (by kernel_rfl) (by kernel_rfl) (by kernel_rfl) (λhq=> ?_) (λhq=> ?_)
 ·have hp:p2=[]:=List.eq_nil_of_length_eq_zero (by simpa using hq)
  subst hp
  have hr':p0=r:=by rw[<-hr];simp
  subst hr'
  refine bN (by kernel_rfl) λK6 hK6=> ?_
  refine bX 2 (by kernel_rfl) ?_
  refine bU 0 2 [6] [] hS rfl (L':=[(6,.slice a0 p0.length c0)]) (As':=[bC (aB 3) 100 a0 c0 p0,bC (aB 3) 100 a2 c2 ([]:List (Raw 3))]) (ob:=[]) (by kernel_rfl) trivial λa w hS=> ?_
  refine bF ?_
  refine hK6 _ _ ?_
  refine tQ (by kernel_rfl) ?_
  try simp only[Exit.then,Exit.inBlock]
  refine uB hS [.tmp 6] [] (xs:=[.slice a0 p0.length c0]) (ps:=[]) [0] [] rfl (by kernel_rfl) (λhA=>trivial) rfl (λF up=>trivial) ?_
  exact⟨a0,c0,rfl,rfl,rfl⟩
 have hm:0<p2.length:=by
  rcases Nat.eq_zero_or_pos p2.length with h0|h0
  ·rw[h0] at hq;simp at hq
  ·exact h0
 obtain⟨g3,rfl⟩:=qX (hS.st.own (bC (aB 3) 100 a2 c2 p2) (by simp)) (by omega)
 refine tC (by kernel_rfl) ?_
 refine hK4 _ _ ?_
 refine bN (by kernel_rfl) λK7 hK7=> ?_
 refine bX 3 (by kernel_rfl) ?_
 refine bU 0 3 [0,1,2,7,8] [] hS rfl (L':=[(0,.slice a0 p0.length c0),(1,.int .i64 i),(2,.slice (some ⟨g3,0,none⟩) p2.length c2),(7,.int .i64 (p2.length:Int)),(8,.int .i64 (p0.length:Int))]) (As':=[bC (aB 3) 100 a0 c0 p0,bC (aB 3) 100 (some ⟨g3,0,none⟩) c2 p2]) (ob:=[]) (by kernel_rfl) trivial λa w hS=> ?_
 refine bF ?_
 refine hK7 _ _ ?_
 refine bN (by kernel_rfl) λK8 hK8=> ?_
 refine bN (by kernel_rfl) λK9 hK9=> ?_
 refine bX 3 (by kernel_rfl) ?_
 refine bU 0 3 [0,1,2,7,8,22] [] hS rfl (L':=[(0,.slice a0 p0.length c0),(1,.int .i64 i),(2,.slice (some ⟨g3,0,none⟩) p2.length c2),(7,.int .i64 (p2.length:Int)),(8,.int .i64 (p0.length:Int)),(22,.bool ((i:Int)==(p0.length:Int)))]) (As':=[bC (aB 3) 100 a0 c0 p0,bC (aB 3) 100 (some ⟨g3,0,none⟩) c2 p2]) (ob:=[]) (by kernel_rfl) trivial λa w hS=> ?_
 refine bF ?_
 refine hK9 _ _ ?_
 refine oP ((i:Int)==(p0.length:Int)) hS.has (by kernel_rfl) (by kernel_rfl) (by kernel_rfl) (λhq2=> ?_) (λhq2=> ?_)
 ·have hin:i=p0.length:=by
   have:=of_decide_eq_true (p:=(i:Int)=(p0.length:Int)) (by simpa using hq2)
   omega
  have hr':r=p0++p2:=by rw[<-hr,hin];simp
  refine bN (by kernel_rfl) λK6 hK6=> ?_
  refine bX 4 (by kernel_rfl) ?_
  refine bU 0 2 [23,24] [] hS rfl (L':=[(23,.slice a0 p0.length c0),(24,.slice (some ⟨g3,0,none⟩) p2.length c2)]) (As':=[bC (aB 3) 100 a0 c0 p0,bC (aB 3) 100 (some ⟨g3,0,none⟩) c2 p2]) (ob:=[]) (by kernel_rfl) trivial λa w hS=> ?_
  refine Qh 2 rfl (d:=25) (t:=45) (A:=a0) (c:=c0) (k:=p0.length) (b:=some ⟨g3,0,none⟩) (c2:=c2) (m:=p2.length) (p2.flatMap ((aB 3)).enc) 0 [0] hS (uD (by kernel_rfl)) (by kernel_rfl) rfl rfl (λF up le=>aaT (F:=(aB 3)) (le 0 rfl _ λw h=>Y6 h)) hroom λa5 c5 a w hS=> ?_
  replace hS:=O1 (F:=(aB 3)) (l:=p0) (m:=p2) hS hr'
  refine bU 3 1 [6] [] hS rfl (L':=[(6,.slice a5 r.length c5)]) (As':=[bC (aB 3) 100 a5 c5 r,bC (aB 3) 100 (some ⟨g3,0,none⟩) c2 p2]) (ob:=[]) (by kernel_rfl) trivial λa w hS=> ?_
  refine bF ?_
  refine hK6 _ _ ?_
  refine tQ (by kernel_rfl) ?_
  try simp only[Exit.then,Exit.inBlock]
  refine uB hS [.tmp 6] [] (xs:=[.slice a5 r.length c5]) (ps:=[]) [0] [] rfl (by kernel_rfl) (λhA=>trivial) rfl (λF up=>trivial) ?_
  exact⟨a5,c5,rfl,rfl,rfl⟩
 have hin:i<p0.length:=by
  rcases Nat.lt_or_ge i p0.length with h0|h0
  ·exact h0
  ·have:i=p0.length:=by omega
   rw[this] at hq2;simp at hq2
 obtain⟨g,rfl⟩:=qX (hS.st.own (bC (aB 3) 100 a0 c0 p0) (by simp)) (by omega)
 have hw:IntKind.wrap .i64 ((p0.length:Int)+(p2.length:Int))=((p0.length+p2.length:Nat):Int):=by rw[IntKind.wrap_i64];omega
 have hw2:IntKind.wrap .i64 ((i:Int)+(p2.length:Int))=((i+p2.length:Nat):Int):=by rw[IntKind.wrap_i64];omega
 have hsz:0<((aB 3)).sz:=by decide
 have hX:(p0.take i).flatMap ((aB 3)).enc=(p0.flatMap ((aB 3)).enc).take (i*((aB 3)).sz):=zC p0 i
 have hY:(p0.drop i).flatMap ((aB 3)).enc=(p0.flatMap ((aB 3)).enc).drop (i*((aB 3)).sz):=zD p0 i
 have lX:((p0.take i).flatMap ((aB 3)).enc).length=i*((aB 3)).sz:=by rw[vJ,List.length_take,Nat.min_eq_left hil]
 have lY:((p0.drop i).flatMap ((aB 3)).enc).length=(p0.length-i)*((aB 3)).sz:=by rw[vJ,List.length_drop]
 have lV:(p2.flatMap ((aB 3)).enc).length=p2.length*((aB 3)).sz:=vJ p2
 have hXY:(p0.take i).flatMap ((aB 3)).enc++(p0.drop i).flatMap ((aB 3)).enc=p0.flatMap ((aB 3)).enc:=by rw[<-List.flatMap_append,List.take_append_drop]
 have hre:r.flatMap ((aB 3)).enc=(p0.take i).flatMap ((aB 3)).enc++p2.flatMap ((aB 3)).enc++(p0.drop i).flatMap ((aB 3)).enc:=by rw[<-hr,List.flatMap_append,List.flatMap_append]
 have hV1:∀v∈p2.flatMap ((aB 3)).enc,v.oneCell'=true:=vK p2
 have hY1:∀v∈(p0.drop i).flatMap ((aB 3)).enc,v.oneCell'=true:=vK _
 refine tC (by kernel_rfl) ?_
 refine hK8 _ _ ?_
 refine bN (by kernel_rfl) λK10 hK10=> ?_
 refine bN (by kernel_rfl) λK11 hK11=> ?_
 refine bX 6 (by kernel_rfl) ?_
 refine bU 0 6 [0,1,2,7,8,31] [.as 28 (.int .i64 ((p0.length+p2.length:Nat):Int))] hS rfl (L':=[(0,.slice (some ⟨g,0,none⟩) p0.length c0),(1,.int .i64 i),(2,.slice (some ⟨g3,0,none⟩) p2.length c2),(7,.int .i64 (p2.length:Int)),(8,.int .i64 (p0.length:Int)),(31,.bool (decide (((p0.length+p2.length:Nat):Int)>(c0:Int))))]) (As':=[bC (aB 3) 100 (some ⟨g,0,none⟩) c0 p0,bC (aB 3) 100 (some ⟨g3,0,none⟩) c2 p2]) (ob:=[λ_=>Value.int .i64 (IntKind.wrap .i64 ((p0.length:Int)+(p2.length:Int)))= .int .i64 ((p0.length+p2.length:Nat):Int)]) (by kernel_rfl) ⟨Bx.c (by rw[hw]),trivial⟩ λa w hS=> ?_
 refine bF ?_
 refine hK11 _ _ ?_
 refine oP (decide (((p0.length+p2.length:Nat):Int)>(c0:Int))) hS.has (by kernel_rfl) (by kernel_rfl) (by kernel_rfl) (λhq3=> ?_) (λhq3=> ?_)
 ·have hgt:c0<p0.length+p2.length:=by have:=of_decide_eq_true hq3;omega
  have hk:p0.length+p2.length-i+i=p0.length+p2.length:=by omega
  have hw3:IntKind.wrap .i64 (((p0.length+p2.length:Nat):Int)-(i:Int))=((p0.length+p2.length-i:Nat):Int):=by rw[IntKind.wrap_i64];omega
  refine bN (by kernel_rfl) λK12 hK12=> ?_
  refine bX 10 (by kernel_rfl) ?_
  refine bU 0 8 [0,1,2,7,8,34,39] [.as 34 (.slice (some ⟨g,0,none⟩) i c0),.as 37 (.int .i64 ((p0.length+p2.length:Nat):Int)),.as 39 (.int .i64 ((p0.length+p2.length-i:Nat):Int))] hS rfl (L':=[(0,.slice (some ⟨g,0,none⟩) p0.length c0),(1,.int .i64 i),(2,.slice (some ⟨g3,0,none⟩) p2.length c2),(7,.int .i64 (p2.length:Int)),(8,.int .i64 (p0.length:Int)),(34,.slice (some ⟨g,0,none⟩) i c0),(39,.int .i64 ((p0.length+p2.length-i:Nat):Int))]) (As':=[bC (aB 3) 100 (some ⟨g,0,none⟩) c0 p0,bC (aB 3) 100 (some ⟨g3,0,none⟩) c2 p2]) (ob:=[λ_=>(0:Int)<=0/\(0:Int)<=(i:Int)/\(i:Int)<=(c0:Int),λ_=>Value.slice (slA (some ⟨g,0,none⟩) 0 c0 ((aB 3)).sz) i c0= .slice (some ⟨g,0,none⟩) i c0,λ_=>Value.int .i64 (IntKind.wrap .i64 ((p0.length:Int)+(p2.length:Int)))= .int .i64 ((p0.length+p2.length:Nat):Int),λ_=>Value.int .i64 (IntKind.wrap .i64 (((p0.length+p2.length:Nat):Int)-(i:Int)))= .int .i64 ((p0.length+p2.length-i:Nat):Int)]) (by kernel_rfl) ⟨Bx.c ⟨by omega,by omega,by omega⟩,Bx.c (by rw[BE]),Bx.c (by rw[hw]),Bx.c (by rw[hw3]),trivial⟩ λa w hS=> ?_
  obtain⟨w',g2,c5,hrun,hc5,⟨T,hT,hrow⟩,hext,hg2,hg2'⟩:=Ej (P:=Tryz.prog) (sz:=((aB 3)).sz) (t:=45) (tn:=3) (ty:=45) (i:=i) (k:=p0.length+p2.length-i) (bytes:=24) (inf:=Tryz.t100) (z:=(Tryz.t100.zero).getD undef) (kq:= .i64) (kn:= .i64) (by kernel_rfl) (by kernel_rfl) (by kernel_rfl) (by kernel_rfl) rfl (by kernel_rfl) (by kernel_rfl) hsz (by decide) (hS.st.own (bC (aB 3) 100 (some ⟨g,0,none⟩) c0 p0) (by simp)) hil (by omega) (by omega) (by rw[show i+(p0.length+p2.length-i)=p0.length+p2.length from by omega];exact hroom)
  have hik:i+(p0.length+p2.length-i)=p0.length+p2.length:=by omega
  rw[hik] at hrun hc5 hT
  refine N7 8 rfl (d:=some 40) (b:= .append) (ts:= #[45,3]) (ty:=45) (vs:= #[.slice (some ⟨g,0,none⟩) i c0,.int .i64 ((p0.length+p2.length-i:Nat):Int)]) hS (by kernel_rfl) _ hrun hrow hext (λx hx=>by simp[Asn.fp] at hx;subst hx;exact⟨hg2,hg2'⟩) (by simp[Asn.fp]) λa hS=> ?_
  rw[<-hX] at hS
  generalize hZ:(Builtin.zeroCells ((Tryz.t100.zero).getD undef).cells (p0.length+p2.length-i)).toList=Z at hS
  have lZ:Z.length=(p2.flatMap ((aB 3)).enc).length+((p0.drop i).flatMap ((aB 3)).enc).length:=by
   rw[<-hZ,GN,lV,lY,<-Nat.add_mul,show((Tryz.t100.zero).getD undef).cells.size=((aB 3)).sz from by kernel_rfl]
   congr 1;omega
  refine bU 9 1 [0,1,2,7,9] [] hS rfl (L':=[(0,.slice (some ⟨g,0,none⟩) p0.length c0),(1,.int .i64 i),(2,.slice (some ⟨g3,0,none⟩) p2.length c2),(7,.int .i64 (p2.length:Int)),(9,.slice (some ⟨g2,0,none⟩) (p0.length+p2.length) c5)]) (As':=[.row (some ⟨g2,0,none⟩) c5 100 ((aB 3)).sz c5 ((p0.take i).flatMap ((aB 3)).enc++Z++T),bC (aB 3) 100 (some ⟨g,0,none⟩) c0 p0,bC (aB 3) 100 (some ⟨g3,0,none⟩) c2 p2]) (ob:=[]) (by kernel_rfl) trivial λa w hS=> ?_
  refine bF ?_
  refine hK12 _ _ ?_
  refine bN (by kernel_rfl) λK13 hK13=> ?_
  refine bX 5 (by kernel_rfl) ?_
  have hs1:slA (some (⟨g2,0,none⟩:Addr)) i c5 ((aB 3)).sz=some ⟨g2,i*((aB 3)).sz,none⟩:=by
   unfold slA;rw[if_neg (by omega)];simp only[Option.map_some,dJ]
  refine bU 0 4 [0,1,7,9,43,44] [.as 43 (.slice (some ⟨g2,i*((aB 3)).sz,none⟩) (p0.length+p2.length-i) (c5-i))] hS rfl (L':=[(0,.slice (some ⟨g,0,none⟩) p0.length c0),(1,.int .i64 i),(7,.int .i64 (p2.length:Int)),(9,.slice (some ⟨g2,0,none⟩) (p0.length+p2.length) c5),(43,.slice (some ⟨g2,i*((aB 3)).sz,none⟩) (p0.length+p2.length-i) (c5-i)),(44,.slice (some ⟨g3,0,none⟩) p2.length c2)]) (As':=[.row (some ⟨g2,0,none⟩) c5 100 ((aB 3)).sz c5 ((p0.take i).flatMap ((aB 3)).enc++Z++T),bC (aB 3) 100 (some ⟨g,0,none⟩) c0 p0,bC (aB 3) 100 (some ⟨g3,0,none⟩) c2 p2]) (ob:=[λ_=>0<=(i:Int)/\(i:Int)<=((p0.length+p2.length:Nat):Int)/\((p0.length+p2.length:Nat):Int)<=(c5:Int),λ_=>Value.slice (slA (some ⟨g2,0,none⟩) i c5 ((aB 3)).sz) (p0.length+p2.length-i) (c5-i)= .slice (some ⟨g2,i*((aB 3)).sz,none⟩) (p0.length+p2.length-i) (c5-i)]) (by kernel_rfl) ⟨Bx.c ⟨by omega,by omega,by omega⟩,Bx.c (by rw[hs1]),trivial⟩ λa w hS=> ?_
  have hsrc:=fY (hS.st.own (bC (aB 3) 100 (some ⟨g3,0,none⟩) c2 p2) (by simp)) 0 (p2.flatMap ((aB 3)).enc).length
  rw[List.drop_zero,List.take_length] at hsrc
  have hfit1:i*((aB 3)).sz+(p2.flatMap ((aB 3)).enc).length<=c5*((aB 3)).sz:=by rw[lV,<-Nat.add_mul];exact Nat.mul_le_mul_right _ (by omega)
  have hmin1:Nat.min p2.length (p0.length+p2.length-i)=p2.length:=Nat.min_eq_left (by omega)
  refine tM 4 rfl 0 (.row (some ⟨g2,0,none⟩) c5 100 ((aB 3)).sz c5 (spl ((p0.take i).flatMap ((aB 3)).enc++Z++T) (i*((aB 3)).sz) (p2.flatMap ((aB 3)).enc))) (d:=some 45) (b:= .copy) (ts:= #[45,45]) (ty:=3) (vs:= #[.slice (some ⟨g2,i*((aB 3)).sz,none⟩) (p0.length+p2.length-i) (c5-i),.slice (some ⟨g3,0,none⟩) p2.length c2]) hS (by kernel_rfl) rfl (λhA=>oC (dT:=45) (sT:=45) (ty:=3) (inf:=Tryz.t100) (by kernel_rfl) (by kernel_rfl) rfl hA (by rw[hmin1,lV]) hsrc hfit1 hV1) rfl (by simp[Asn.fp]) λa w hS=> ?_
  refine bF ?_
  refine hK13 _ _ ?_
  refine bN (by kernel_rfl) λK14 hK14=> ?_
  have hs2:slA (some (⟨g2,0,none⟩:Addr)) (i+p2.length) c5 ((aB 3)).sz=some ⟨g2,(i+p2.length)*((aB 3)).sz,none⟩:=by
   unfold slA;rw[if_neg (by omega)];simp only[Option.map_some,dJ]
  have hs3:slA (some (⟨g,0,none⟩:Addr)) i c0 ((aB 3)).sz=some ⟨g,i*((aB 3)).sz,none⟩:=by
   unfold slA;rw[if_neg (by omega)];simp only[Option.map_some,dJ]
  refine Gm 8 9 [.val (.slice (some ⟨g2,0,none⟩) (p0.length+p2.length) c5),.val (.int .i64 i),.val (.int .i64 (p2.length:Int)),.val (.int .i64 ((i+p2.length:Nat):Int)),.val (.slice (some ⟨g2,(i+p2.length)*((aB 3)).sz,none⟩) (p0.length+p2.length-(i+p2.length)) (c5-(i+p2.length))),.val (.slice (some ⟨g,0,none⟩) p0.length c0),.val (.int .i64 i),.val (.slice (some ⟨g,i*((aB 3)).sz,none⟩) (p0.length-i) (c0-i))] [] [(0,[]),(1,[]),(2,[]),(3,[.as 49 (.int .i64 ((i+p2.length:Nat):Int))]),(4,[.as 50 (.slice (some ⟨g2,(i+p2.length)*((aB 3)).sz,none⟩) (p0.length+p2.length-(i+p2.length)) (c5-(i+p2.length)))]),(5,[]),(6,[]),(7,[.as 53 (.slice (some ⟨g,i*((aB 3)).sz,none⟩) (p0.length-i) (c0-i))])] [] (ob:=[λ_=>Value.int .i64 (IntKind.wrap .i64 ((i:Int)+(p2.length:Int)))= .int .i64 ((i+p2.length:Nat):Int),λ_=>0<=((i+p2.length:Nat):Int)/\((i+p2.length:Nat):Int)<=((p0.length+p2.length:Nat):Int)/\((p0.length+p2.length:Nat):Int)<=(c5:Int),λ_=>Value.slice (slA (some ⟨g2,0,none⟩) (i+p2.length) c5 ((aB 3)).sz) (p0.length+p2.length-(i+p2.length)) (c5-(i+p2.length))= .slice (some ⟨g2,(i+p2.length)*((aB 3)).sz,none⟩) (p0.length+p2.length-(i+p2.length)) (c5-(i+p2.length)),λ_=>0<=(i:Int)/\(i:Int)<=(p0.length:Int)/\(p0.length:Int)<=(c0:Int),λ_=>Value.slice (slA (some ⟨g,0,none⟩) i c0 ((aB 3)).sz) (p0.length-i) (c0-i)= .slice (some ⟨g,i*((aB 3)).sz,none⟩) (p0.length-i) (c0-i)]) (by kernel_rfl) (by kernel_rfl) hS (by kernel_rfl) (λF N0=>by kernel_rfl) (by kernel_rfl) (by kernel_rfl) (by kernel_rfl) (by kernel_rfl) ⟨Bx.c (by rw[hw2]),Bx.c ⟨by omega,by omega,by omega⟩,Bx.c (by rw[hs2]),Bx.c ⟨by omega,by omega,by omega⟩,Bx.c (by rw[hs3]),trivial⟩ ?_ ?_
  ·exact trivial
  intro V a w e hS hq
  have hsrc:=fY (hS.st.own (bC (aB 3) 100 (some ⟨g,0,none⟩) c0 p0) (by simp[List.set])) (i*((aB 3)).sz) ((p0.drop i).flatMap ((aB 3)).enc).length
  rw[<-hY,List.take_length] at hsrc
  have hmin2:Nat.min (p0.length-i) (p0.length+p2.length-(i+p2.length))=p0.length-i:=Nat.min_eq_left (by omega)
  have hfit2:(i+p2.length)*((aB 3)).sz+((p0.drop i).flatMap ((aB 3)).enc).length<=c5*((aB 3)).sz:=by rw[lY,<-Nat.add_mul];exact Nat.mul_le_mul_right _ (by omega)
  refine tM 8 rfl 0 (.row (some ⟨g2,0,none⟩) c5 100 ((aB 3)).sz c5 (spl (spl ((p0.take i).flatMap ((aB 3)).enc++Z++T) (i*((aB 3)).sz) (p2.flatMap ((aB 3)).enc)) ((i+p2.length)*((aB 3)).sz) ((p0.drop i).flatMap ((aB 3)).enc))) (d:=some 54) (b:= .copy) (ts:= #[45,45]) (ty:=3) (vs:= #[.slice (some ⟨g2,(i+p2.length)*((aB 3)).sz,none⟩) (p0.length+p2.length-(i+p2.length)) (c5-(i+p2.length)),.slice (some ⟨g,i*((aB 3)).sz,none⟩) (p0.length-i) (c0-i)]) hS (by kernel_rfl) rfl (λhA=>oC (dT:=45) (sT:=45) (ty:=3) (inf:=Tryz.t100) (by kernel_rfl) (by kernel_rfl) rfl hA (by rw[hmin2,lY]) hsrc hfit2 hY1) rfl (by simp[Asn.fp]) λa w hS=> ?_
  have hfin:(spl (spl ((p0.take i).flatMap ((aB 3)).enc++Z++T) (i*((aB 3)).sz) (p2.flatMap ((aB 3)).enc)) ((i+p2.length)*((aB 3)).sz) ((p0.drop i).flatMap ((aB 3)).enc)).take ((p0.length+p2.length)*((aB 3)).sz)=r.flatMap ((aB 3)).enc:=by
   have:=L8 ((p0.take i).flatMap ((aB 3)).enc) ((p0.drop i).flatMap ((aB 3)).enc) (p2.flatMap ((aB 3)).enc) Z T lZ
   rw[lX,lV,<-Nat.add_mul] at this
   rw[this,hre,List.take_left' (by rw[List.length_append,List.length_append,lX,lV,lY,<-Nat.add_mul,<-Nat.add_mul];congr 1;omega)]
  replace hS:=hS.same (B:=bC (aB 3) 100 (some ⟨g2,0,none⟩) c5 r) 0 rfl (λhA=>lP hA hrl hc5 hfin) rfl (by simp[Asn.fp])
  refine bF ?_
  refine hK14 _ _ ?_
  refine bN (by kernel_rfl) λK15 hK15=> ?_
  refine bX 2 (by kernel_rfl) ?_
  refine bU 0 2 [6] [] hS rfl (L':=[(6,.slice (some ⟨g2,0,none⟩) (p0.length+p2.length) c5)]) (As':=[bC (aB 3) 100 (some ⟨g2,0,none⟩) c5 r,bC (aB 3) 100 (some ⟨g,0,none⟩) c0 p0,bC (aB 3) 100 (some ⟨g3,0,none⟩) c2 p2]) (ob:=[]) (by kernel_rfl) trivial λa w hS=> ?_
  refine bF ?_
  refine hK15 _ _ ?_
  refine tQ (by kernel_rfl) ?_
  try simp only[Exit.then,Exit.inBlock]
  refine uB hS [.tmp 6] [] (xs:=[.slice (some ⟨g2,0,none⟩) (p0.length+p2.length) c5]) (ps:=[]) [0] [] rfl (by kernel_rfl) (λhA=>trivial) rfl (λF up=>trivial) ?_
  exact⟨some ⟨g2,0,none⟩,c5,by rw[hrl];rfl,rfl,rfl⟩
 have hle:p0.length+p2.length<=c0:=by have:=of_decide_eq_false hq3;omega
 refine tC (by kernel_rfl) ?_
 refine hK10 _ _ ?_
 refine bN (by kernel_rfl) λK12 hK12=> ?_
 refine bX 6 (by kernel_rfl) ?_
 refine bU 0 6 [0,1,2,7] [.as 59 (.int .i64 ((p0.length+p2.length:Nat):Int)),.as 60 (.slice (some ⟨g,0,none⟩) (p0.length+p2.length) c0)] hS rfl (L':=[(0,.slice (some ⟨g,0,none⟩) (p0.length+p2.length) c0),(1,.int .i64 i),(2,.slice (some ⟨g3,0,none⟩) p2.length c2),(7,.int .i64 (p2.length:Int))]) (As':=[bC (aB 3) 100 (some ⟨g,0,none⟩) c0 p0,bC (aB 3) 100 (some ⟨g3,0,none⟩) c2 p2]) (ob:=[λ_=>Value.int .i64 (IntKind.wrap .i64 ((p0.length:Int)+(p2.length:Int)))= .int .i64 ((p0.length+p2.length:Nat):Int),λ_=>(0:Int)<=0/\(0:Int)<=((p0.length+p2.length:Nat):Int)/\((p0.length+p2.length:Nat):Int)<=(c0:Int),λ_=>Value.slice (slA (some ⟨g,0,none⟩) 0 c0 ((aB 3)).sz) (p0.length+p2.length) c0= .slice (some ⟨g,0,none⟩) (p0.length+p2.length) c0]) (by kernel_rfl) ⟨Bx.c (by rw[hw]),Bx.c ⟨by omega,by omega,by omega⟩,Bx.c (by rw[BE]),trivial⟩ λa w hS=> ?_
 obtain⟨ds,hd1,hd2,hd3,hd4⟩:=FT (hS.st.own (bC (aB 3) 100 (some ⟨g,0,none⟩) c0 p0) (by simp))
 replace hS:=hS.same (B:= .row (some ⟨g,0,none⟩) c0 100 ((aB 3)).sz c0 ds) 0 rfl (λ_=>hd4) rfl (by simp[Asn.fp])
 refine bF ?_
 refine hK12 _ _ ?_
 refine bN (by kernel_rfl) λK13 hK13=> ?_
 refine bN (by kernel_rfl) λK14 hK14=> ?_
 refine bX 8 (by kernel_rfl) ?_
 have hs2:slA (some (⟨g,0,none⟩:Addr)) (i+p2.length) c0 ((aB 3)).sz=some ⟨g,(i+p2.length)*((aB 3)).sz,none⟩:=by
  unfold slA;rw[if_neg (by omega)];simp only[Option.map_some,dJ]
 have hs3:slA (some (⟨g,0,none⟩:Addr)) i c0 ((aB 3)).sz=some ⟨g,i*((aB 3)).sz,none⟩:=by
  unfold slA;rw[if_neg (by omega)];simp only[Option.map_some,dJ]
 refine bU 0 6 [0,1,2,7,61,66] [.as 65 (.int .i64 ((i+p2.length:Nat):Int)),.as 66 (.slice (some ⟨g,(i+p2.length)*((aB 3)).sz,none⟩) (p0.length+p2.length-(i+p2.length)) (c0-(i+p2.length)))] hS rfl (L':=[(0,.slice (some ⟨g,0,none⟩) (p0.length+p2.length) c0),(1,.int .i64 i),(2,.slice (some ⟨g3,0,none⟩) p2.length c2),(7,.int .i64 (p2.length:Int)),(61,.slice (some ⟨g3,0,none⟩) p2.length c2),(66,.slice (some ⟨g,(i+p2.length)*((aB 3)).sz,none⟩) (p0.length+p2.length-(i+p2.length)) (c0-(i+p2.length)))]) (As':=[.row (some ⟨g,0,none⟩) c0 100 ((aB 3)).sz c0 ds,bC (aB 3) 100 (some ⟨g3,0,none⟩) c2 p2]) (ob:=[λ_=>Value.int .i64 (IntKind.wrap .i64 ((i:Int)+(p2.length:Int)))= .int .i64 ((i+p2.length:Nat):Int),λ_=>0<=((i+p2.length:Nat):Int)/\((i+p2.length:Nat):Int)<=((p0.length+p2.length:Nat):Int)/\((p0.length+p2.length:Nat):Int)<=(c0:Int),λ_=>Value.slice (slA (some ⟨g,0,none⟩) (i+p2.length) c0 ((aB 3)).sz) (p0.length+p2.length-(i+p2.length)) (c0-(i+p2.length))= .slice (some ⟨g,(i+p2.length)*((aB 3)).sz,none⟩) (p0.length+p2.length-(i+p2.length)) (c0-(i+p2.length))]) (by kernel_rfl) ⟨Bx.c (by rw[hw2]),Bx.c ⟨by omega,by omega,by omega⟩,Bx.c (by rw[hs2]),trivial⟩ λa w hS=> ?_
 have hne:g3≠g:=by
  have:=(List.nodup_append.1 hS.st.nd).2.1
  simp[fps,Asn.fp] at this
  exact λe=>this e.symm
 have hA0:=C7 (hS.st.own (.row (some ⟨g,0,none⟩) c0 100 ((aB 3)).sz c0 ds) (by simp))
 have hA1:=C7 (hS.st.own (bC (aB 3) 100 (some ⟨g3,0,none⟩) c2 p2) (by simp))
 have hcsz:c0*((aB 3)).sz≠0:=Nat.mul_ne_zero (by omega) (by omega)
 have hov:(callFunc 171 #[.slice (some ⟨g3,0,none⟩) p2.length c2,.slice (some ⟨g,(i+p2.length)*((aB 3)).sz,none⟩) (p0.length+p2.length-(i+p2.length)) (c0-(i+p2.length))]).run Tryz.prog w= .ok (.value (.bool false)) w:=by
  rw[run_callFunc_extern Tryz.func171 (by kernel_rfl) (by kernel_rfl) (by kernel_rfl) (e:=Extern.SlicesOverlaps.overlaps #[45,45] #[4]) (by kernel_rfl),
   Lib.run_overlaps_apart w 45 4 100 (by kernel_rfl) ((aB 3)).sz (λw=>by simp[sizeOf,cR (show Tryz.prog.info? 100=some Tryz.t100 from by kernel_rfl)];kernel_rfl) ⟨g3,0,none⟩ ⟨g,(i+p2.length)*((aB 3)).sz,none⟩ p2.length c2 _ _ hne _ _ _ _ hA1.1 hA0.1 hcsz (hA1.2 _) (hA1.2 _)]
  rfl
 refine Ze 6 rfl (d:=some 67) (g:=171) (args:= #[.slice (some ⟨g3,0,none⟩) p2.length c2,.slice (some ⟨g,(i+p2.length)*((aB 3)).sz,none⟩) (p0.length+p2.length-(i+p2.length)) (c0-(i+p2.length))]) hS (by kernel_rfl) hov λa hS=> ?_
 refine bU 7 1 [0,1,2,7,68] [] hS rfl (L':=[(0,.slice (some ⟨g,0,none⟩) (p0.length+p2.length) c0),(1,.int .i64 i),(2,.slice (some ⟨g3,0,none⟩) p2.length c2),(7,.int .i64 (p2.length:Int)),(68,.bool true)]) (As':=[.row (some ⟨g,0,none⟩) c0 100 ((aB 3)).sz c0 ds,bC (aB 3) 100 (some ⟨g3,0,none⟩) c2 p2]) (ob:=[]) (by kernel_rfl) trivial λa w hS=> ?_
 refine bF ?_
 refine hK14 _ _ ?_
 refine oP true hS.has (by kernel_rfl) (by kernel_rfl) (by kernel_rfl) (λ_=> ?_) (λhx=>by cases hx)
 refine bN (by kernel_rfl) λK15 hK15=> ?_
 obtain⟨Z,hZ⟩:∃Z,ds=(p0.take i).flatMap ((aB 3)).enc++(p0.drop i).flatMap ((aB 3)).enc++Z:=⟨ds.drop (p0.length*((aB 3)).sz),by rw[hXY];conv=>lhs;rw[<-List.take_append_drop (p0.length*((aB 3)).sz) ds,hd1]⟩
 have lds:ds.length=c0*((aB 3)).sz:=hd2
 have lZ:(p2.flatMap ((aB 3)).enc).length<=((p0.drop i).flatMap ((aB 3)).enc).length+Z.length:=by
  have h1:=lds
  rw[hZ,List.length_append,List.length_append,lX,lY] at h1
  rw[lV,lY]
  have h2:=Nat.mul_le_mul_right ((aB 3)).sz hle
  rw[Nat.add_mul] at h2
  have h3:i*((aB 3)).sz+(p0.length-i)*((aB 3)).sz=p0.length*((aB 3)).sz:=by rw[<-Nat.add_mul];congr 1;omega
  omega
 refine Gm 8 9 [.val (.slice (some ⟨g,0,none⟩) (p0.length+p2.length) c0),.val (.int .i64 i),.val (.int .i64 (p2.length:Int)),.val (.int .i64 ((i+p2.length:Nat):Int)),.val (.slice (some ⟨g,(i+p2.length)*((aB 3)).sz,none⟩) (p0.length+p2.length-(i+p2.length)) (c0-(i+p2.length))),.val (.slice (some ⟨g,0,none⟩) (p0.length+p2.length) c0),.val (.int .i64 i),.val (.slice (some ⟨g,i*((aB 3)).sz,none⟩) (p0.length+p2.length-i) (c0-i))] [] [(0,[]),(1,[]),(2,[]),(3,[.as 72 (.int .i64 ((i+p2.length:Nat):Int))]),(4,[.as 73 (.slice (some ⟨g,(i+p2.length)*((aB 3)).sz,none⟩) (p0.length+p2.length-(i+p2.length)) (c0-(i+p2.length)))]),(5,[]),(6,[]),(7,[.as 76 (.slice (some ⟨g,i*((aB 3)).sz,none⟩) (p0.length+p2.length-i) (c0-i))])] [] (ob:=[λ_=>Value.int .i64 (IntKind.wrap .i64 ((i:Int)+(p2.length:Int)))= .int .i64 ((i+p2.length:Nat):Int),λ_=>0<=((i+p2.length:Nat):Int)/\((i+p2.length:Nat):Int)<=((p0.length+p2.length:Nat):Int)/\((p0.length+p2.length:Nat):Int)<=(c0:Int),λ_=>Value.slice (slA (some ⟨g,0,none⟩) (i+p2.length) c0 ((aB 3)).sz) (p0.length+p2.length-(i+p2.length)) (c0-(i+p2.length))= .slice (some ⟨g,(i+p2.length)*((aB 3)).sz,none⟩) (p0.length+p2.length-(i+p2.length)) (c0-(i+p2.length)),λ_=>0<=(i:Int)/\(i:Int)<=((p0.length+p2.length:Nat):Int)/\((p0.length+p2.length:Nat):Int)<=(c0:Int),λ_=>Value.slice (slA (some ⟨g,0,none⟩) i c0 ((aB 3)).sz) (p0.length+p2.length-i) (c0-i)= .slice (some ⟨g,i*((aB 3)).sz,none⟩) (p0.length+p2.length-i) (c0-i)]) (by kernel_rfl) (by kernel_rfl) hS (by kernel_rfl) (λF N0=>by kernel_rfl) (by kernel_rfl) (by kernel_rfl) (by kernel_rfl) (by kernel_rfl) ⟨Bx.c (by rw[hw2]),Bx.c ⟨by omega,by omega,by omega⟩,Bx.c (by rw[hs2]),Bx.c ⟨by omega,by omega,by omega⟩,Bx.c (by rw[hs3]),trivial⟩ ?_ ?_
 ·exact trivial
 intro V a w e hS hq
 have hsrc:=fY (hS.st.own (.row (some ⟨g,0,none⟩) c0 100 ((aB 3)).sz c0 ds) (by simp)) (i*((aB 3)).sz) ((p0.drop i).flatMap ((aB 3)).enc).length
 have hdsd:(ds.drop (i*((aB 3)).sz)).take ((p0.drop i).flatMap ((aB 3)).enc).length=(p0.drop i).flatMap ((aB 3)).enc:=by
  rw[hZ,List.append_assoc,<-lX,List.drop_left,List.take_left]
 rw[hdsd] at hsrc
 have hmin2:Nat.min (p0.length+p2.length-i) (p0.length+p2.length-(i+p2.length))=p0.length-i:=by
  rw[show p0.length+p2.length-(i+p2.length)=p0.length-i from by omega];exact Nat.min_eq_right (by omega)
 have hfit2:(i+p2.length)*((aB 3)).sz+((p0.drop i).flatMap ((aB 3)).enc).length<=c0*((aB 3)).sz:=by rw[lY,<-Nat.add_mul];exact Nat.mul_le_mul_right _ (by omega)
 refine tM 8 rfl 0 (.row (some ⟨g,0,none⟩) c0 100 ((aB 3)).sz c0 (spl ds ((i+p2.length)*((aB 3)).sz) ((p0.drop i).flatMap ((aB 3)).enc))) (d:=some 77) (b:= .copy) (ts:= #[45,45]) (ty:=3) (vs:= #[.slice (some ⟨g,(i+p2.length)*((aB 3)).sz,none⟩) (p0.length+p2.length-(i+p2.length)) (c0-(i+p2.length)),.slice (some ⟨g,i*((aB 3)).sz,none⟩) (p0.length+p2.length-i) (c0-i)]) hS (by kernel_rfl) rfl (λhA=>oC (dT:=45) (sT:=45) (ty:=3) (inf:=Tryz.t100) (by kernel_rfl) (by kernel_rfl) rfl hA (by rw[hmin2,lY]) hsrc hfit2 hY1) rfl (by simp[Asn.fp]) λa w hS=> ?_
 refine bF ?_
 refine hK15 _ _ ?_
 refine bN (by kernel_rfl) λK16 hK16=> ?_
 refine bX 5 (by kernel_rfl) ?_
 refine bU 0 4 [0,80,81] [.as 80 (.slice (some ⟨g,i*((aB 3)).sz,none⟩) (p0.length+p2.length-i) (c0-i))] hS rfl (L':=[(0,.slice (some ⟨g,0,none⟩) (p0.length+p2.length) c0),(80,.slice (some ⟨g,i*((aB 3)).sz,none⟩) (p0.length+p2.length-i) (c0-i)),(81,.slice (some ⟨g3,0,none⟩) p2.length c2)]) (As':=[.row (some ⟨g,0,none⟩) c0 100 ((aB 3)).sz c0 (spl ds ((i+p2.length)*((aB 3)).sz) ((p0.drop i).flatMap ((aB 3)).enc)),bC (aB 3) 100 (some ⟨g3,0,none⟩) c2 p2]) (ob:=[λ_=>0<=(i:Int)/\(i:Int)<=((p0.length+p2.length:Nat):Int)/\((p0.length+p2.length:Nat):Int)<=(c0:Int),λ_=>Value.slice (slA (some ⟨g,0,none⟩) i c0 ((aB 3)).sz) (p0.length+p2.length-i) (c0-i)= .slice (some ⟨g,i*((aB 3)).sz,none⟩) (p0.length+p2.length-i) (c0-i)]) (by kernel_rfl) ⟨Bx.c ⟨by omega,by omega,by omega⟩,Bx.c (by rw[hs3]),trivial⟩ λa w hS=> ?_
 have hsrc:=fY (hS.st.own (bC (aB 3) 100 (some ⟨g3,0,none⟩) c2 p2) (by simp)) 0 (p2.flatMap ((aB 3)).enc).length
 rw[List.drop_zero,List.take_length] at hsrc
 have hfit1:i*((aB 3)).sz+(p2.flatMap ((aB 3)).enc).length<=c0*((aB 3)).sz:=by rw[lV,<-Nat.add_mul];exact Nat.mul_le_mul_right _ (by omega)
 have hmin1:Nat.min p2.length (p0.length+p2.length-i)=p2.length:=Nat.min_eq_left (by omega)
 refine tM 4 rfl 0 (.row (some ⟨g,0,none⟩) c0 100 ((aB 3)).sz c0 (spl (spl ds ((i+p2.length)*((aB 3)).sz) ((p0.drop i).flatMap ((aB 3)).enc)) (i*((aB 3)).sz) (p2.flatMap ((aB 3)).enc))) (d:=some 82) (b:= .copy) (ts:= #[45,45]) (ty:=3) (vs:= #[.slice (some ⟨g,i*((aB 3)).sz,none⟩) (p0.length+p2.length-i) (c0-i),.slice (some ⟨g3,0,none⟩) p2.length c2]) hS (by kernel_rfl) rfl (λhA=>oC (dT:=45) (sT:=45) (ty:=3) (inf:=Tryz.t100) (by kernel_rfl) (by kernel_rfl) rfl hA (by rw[hmin1,lV]) hsrc hfit1 hV1) rfl (by simp[Asn.fp]) λa w hS=> ?_
 have hfin:(spl (spl ds ((i+p2.length)*((aB 3)).sz) ((p0.drop i).flatMap ((aB 3)).enc)) (i*((aB 3)).sz) (p2.flatMap ((aB 3)).enc)).take ((p0.length+p2.length)*((aB 3)).sz)=r.flatMap ((aB 3)).enc:=by
  have:=L7 ((p0.take i).flatMap ((aB 3)).enc) ((p0.drop i).flatMap ((aB 3)).enc) (p2.flatMap ((aB 3)).enc) Z lZ
  rw[lX,lV,<-Nat.add_mul,<-hZ] at this
  rw[this,hre,List.take_left' (by rw[List.length_append,List.length_append,lX,lV,lY,<-Nat.add_mul,<-Nat.add_mul];congr 1;omega)]
 replace hS:=hS.same (B:=bC (aB 3) 100 (some ⟨g,0,none⟩) c0 r) 0 rfl (λhA=>lP hA hrl hle hfin) rfl (by simp[Asn.fp])
 refine bF ?_
 refine hK16 _ _ ?_
 refine bN (by kernel_rfl) λK17 hK17=> ?_
 refine bX 2 (by kernel_rfl) ?_
 refine bU 0 2 [6] [] hS rfl (L':=[(6,.slice (some ⟨g,0,none⟩) (p0.length+p2.length) c0)]) (As':=[bC (aB 3) 100 (some ⟨g,0,none⟩) c0 r,bC (aB 3) 100 (some ⟨g3,0,none⟩) c2 p2]) (ob:=[]) (by kernel_rfl) trivial λa w hS=> ?_
 refine bF ?_
 refine hK17 _ _ ?_
 refine tQ (by kernel_rfl) ?_
 try simp only[Exit.then,Exit.inBlock]
 refine uB hS [.tmp 6] [] (xs:=[.slice (some ⟨g,0,none⟩) (p0.length+p2.length) c0]) (ps:=[]) [0] [] rfl (by kernel_rfl) (λhA=>trivial) rfl (λF up=>trivial) ?_
 exact⟨some ⟨g,0,none⟩,c0,by rw[hrl];rfl,rfl,rfl⟩
def oZ(n:Nat)(p1:Int)(q0 q1:List Kid):Option (List Kid):=Dy 24 q0 p1 q1
@[reducible] def sB:Ct tab:=⟨143,[.one (.own 0),.one (.d (.int .i64)),.one (.own 1)],[.row 100 (.st 3),.row 100 (.st 3)],[.one (.own 0)],[(none,.row 100 (.st 3))],List Kid,λy=>(y,()),λy=>y.1,λ_=>rfl,λn x=>oZ n x.1 x.2.1 x.2.2.1⟩
theorem BR:OkC Tryz.prog tab sB:=VA (t:= .st 3) (m:=3) (bytes:=24) aK rfl Tryz.call143 λp0 p1 p2 r h=>Bp p0 p1 p2 r h
def vR(n:Nat)(p0:List aA):Option Int:=
 (dG n 0 p0).bind λy1=>
 cond (y1 !=0)
 (some 2)
 (some 0)
@[reducible] def xX:Ct tab:=⟨148,[.one (.d (.sl (.st 4)))],[],[.one (.d (.int .i64))],[],Int,λy=>(y,()),λy=>y.1,λ_=>rfl,λn x=>vR n x.1⟩
theorem DM:OkC Tryz.prog tab xX:=aQ (W:=⟨Tryz.prog,tab,bE,[dK],bG,dpO,false⟩) ⟨aK,⟨eG,trivial⟩,aN⟩ (by kernel_rfl) 6 Tryz.f148 .n Tryz.func148 Tryz.call148 rfl (by kernel_rfl) (by kernel_rfl) (by kernel_rfl) λn x=>by kernel_rfl
def mO(n:Nat)(p0:aA):Option (aA×Int):=
 (vR n ([p0]:List aA)).bind λy1=>
 cond (y1 !=0)
 (some ((aA.mk 0 ([]:List Row) ([]:List Kid)),y1))
 (some (p0,0))
@[reducible] def nV:Ct tab:=⟨106,[.st 4],[],[.st 4,.one (.d (.int .i64))],[],(aA×Int),λy=>(y.1,y.2,()),λy=>(y.1,y.2.1),λ_=>rfl,λn x=>mO n x.1⟩
theorem sC:OkC Tryz.prog tab nV:=aQ (W:=⟨Tryz.prog,tab,bE,[xX],bG,dpO,false⟩) ⟨aK,⟨DM,trivial⟩,aN⟩ (by kernel_rfl) 13 Tryz.f106 .n Tryz.func106 Tryz.call106 rfl (by kernel_rfl) (by kernel_rfl) (by kernel_rfl) λn x=>by kernel_rfl
def vS(n:Nat)(p0:aA)(p1:Int)(p2:Int)(p3:Key):Option (aA×Int):=
 (dG n 2 ([p0]:List aA)).bind λy1=>
 cond (y1 !=0)
 (some ((aA.mk 0 ([]:List Row) ([]:List Kid)),y1))
 (jn (fun(b2:Bool)=>
 cond b2
 (some ((aA.mk 0 ([]:List Row) ([]:List Kid)),2))
 ((qK n p0).bind λy4=>
 cond y4
 (some ((aA.mk 0 ([]:List Row) ([]:List Kid)),6))
 ((cO n p0.kids).bind λy5=>
 (oZ n (IntKind.wrap .i64 (p1+1)) y5 ([(Kid.mk p3 p2)]:List Kid)).bind λy6=>
 (eW n y6).bind λy7=>
 (mO n y7).bind λy8=>
 some (y8.1,y8.2)))) λk3=>
 cond (decide (p1<0))
 (k3 true)
 (k3 (decide (p1>=(p0.kids.length:Int)))))
@[reducible] def DN:Ct tab:=⟨100,[.st 4,.one (.d (.int .i64)),.one (.d (.int .i64)),.st 1],[],[.st 4,.one (.d (.int .i64))],[],(aA×Int),λy=>(y.1,y.2,()),λy=>(y.1,y.2.1),λ_=>rfl,λn x=>vS n x.1 x.2.1 x.2.2.1 x.2.2.2.1⟩
theorem KO:OkC Tryz.prog tab DN:=aQ (W:=⟨Tryz.prog,tab,bE,[dK,oW,eM,sB,iH,nV],bG,dpO,false⟩) ⟨aK,⟨eG,uK,fQ,BR,jY,sC,trivial⟩,aN⟩ (by kernel_rfl) 47 Tryz.f100 .n Tryz.func100 Tryz.call100 rfl (by kernel_rfl) (by kernel_rfl) (by kernel_rfl) λn x=>by kernel_rfl
def eO(n:Nat)(p0:aF)(p1:aF):Option Int:=
 (jQ n p0.page p1.page).bind λy1=>
 some y1
@[reducible] def AC:Ct tab:=⟨109,[.st 6,.st 6],[],[.one (.d (.int .i64))],[],Int,λy=>(y,()),λy=>y.1,λ_=>rfl,λn x=>eO n x.1 x.2.1⟩
theorem AD:OkC Tryz.prog tab AC:=aQ (W:=⟨Tryz.prog,tab,bE,[nJ],bG,dpO,false⟩) ⟨aK,⟨vO,trivial⟩,aN⟩ (by kernel_rfl) 10 Tryz.f109 .n Tryz.func109 Tryz.call109 rfl (by kernel_rfl) (by kernel_rfl) (by kernel_rfl) λn x=>by kernel_rfl
noncomputable def cX(n:Nat)(q0:List aF):Option (List aF):=match Nat.ble q0.length 4611686018427387903 with|true=>JZ (λx y=>eO n x y) q0|false=>none
@[reducible] noncomputable def jB:Ct tab:=Ol tab 108 109 76 (.st 6) (λn x y=>eO n x y)
theorem sD:OkC Tryz.prog tab jB:=Wz (i:=6) (f:=(λn x y=>eO n x y)) aK Tryz.sl108 rfl rfl Tryz.isAgg76 Tryz.sizeOf76 Tryz.call108 Tryz.call109
 (λn x y c hc w Ps vx vy hst h1 h2=>Calls.mono (AD.2 n (x,y,()) c hc [] w VB [] Ps [vx,vy] hst (λj g h=>by cases h) ⟨h1,h2,trivial⟩ trivial) λe w' h=>by
  obtain⟨v1,ρ1,As1,Ps1,g1,g2,g3,_⟩:=h
  exact⟨g1.trans (congrArg Ending.returned (show v1= .int .i64 c from g2.1)),g3⟩)
def gX(n:Nat):Nat->Int×Int×(List aF)×(List aA)×(List aG)×Unit->Option ((List aA)×(List aG)):=aW λr1 ⟨v2,v3,v4,v5,v6,_⟩=>
 cond (decide (v3<v2))
 ((idx v4 v3).bind λx7=>
 (idx v4 v3).bind λx8=>
 (idx v5 x8.page).bind λx9=>
 (put v5 x8.page x8.content).bind λl10=>
 r1 (v2,(IntKind.wrap .i64 (v3+1)),v4,l10,v6,()))
 ((app 24 v6 ([(aG.mk v4)]:List aG)).bind λl11=>
 some (v5,l11))
def bL(n:Nat)(q1:List aA)(q2:List aG)(q3:List aF):Option ((List aA)×(List aG)):=
 (cX n q3).bind λy1=>
 gX n n ((y1.length:Int),0,y1,q1,q2,())
@[reducible] def dX:Ct tab:=⟨66,[.one (.box 0 0),.one (.own 3)],[.box [.own 1,.own 2],.row 47 (.st 4),.row 74 (.st 7),.row 76 (.st 6)],[],[(some 0,.box [.own 1,.own 2]),(none,.row 47 (.st 4)),(none,.row 74 (.st 7))],((List aA)×(List aG)),λy=>(y.1,y.2,()),λy=>(y.1,y.2.1),λ_=>rfl,λn x=>bL n x.1 x.2.1 x.2.2.1⟩
theorem fC:OkC Tryz.prog tab dX:=aQ (W:=⟨Tryz.prog,tab,bE,[jB],bG,dpO,false⟩) ⟨aK,⟨sD,trivial⟩,aN⟩ (by kernel_rfl) 36 Tryz.f66 (.sq .n (.sq (.sq .n (.bk none (.lp ⟨[(0,.one (.box 0 0)),(1,.one (.own 1)),(8,.one (.own 1)),(9,.one (.d (.int .i64))),(10,.one (.d (.int .i64)))],[.box [.own 2,.own 3],.row 76 (.st 6),.row 47 (.st 4),.row 74 (.st 7)],[(0,0)]⟩ .n))) .n)) Tryz.func66 Tryz.call66 rfl (by kernel_rfl) (by kernel_rfl) (by kernel_rfl) λn x=>by kernel_rfl
def bV(n:Nat)(p1:Int)(p2:Int)(q1:List aA)(q2:List aG):Option (Bool×(List aA)×(List aG)):=
 (idx q1 p1).bind λx1=>
 (idx q1 p1).bind λx2=>
 (idx x2.kids p2).bind λx3=>
 (idx q1 x3.page).bind λx4=>
 (idx q1 x3.page).bind λx5=>
 (nL n x5).bind λy6=>
 (dW n (bQ.mk (aC.mk q1) q2) ([]:List Int)).bind λy7=>
 cond (!y7.2)
 (some (false,q1,q2))
 ((idx q1 p1).bind λx8=>
 (idx q1 p1).bind λx9=>
 (vS n x9 p2 y7.1 y6.2.2.1).bind λy10=>
 (bL n q1 q2 ([(aF.mk p1 y10.1),(aF.mk x3.page y6.1),(aF.mk y7.1 y6.2.1)]:List aF)).bind λy11=>
 some (true,y11.1,y11.2))
@[reducible] def sE:Ct tab:=⟨63,[.one (.box 0 0),.one (.d (.int .i64)),.one (.d (.int .i64))],[.box [.own 1,.own 2],.row 47 (.st 4),.row 74 (.st 7)],[.one (.d .bool)],[(some 0,.box [.own 1,.own 2]),(none,.row 47 (.st 4)),(none,.row 74 (.st 7))],(Bool×(List aA)×(List aG)),λy=>(y.1,y.2.1,y.2.2,()),λy=>(y.1,y.2.1,y.2.2.1),λ_=>rfl,λn x=>bV n x.1 x.2.1 x.2.2.1 x.2.2.2.1⟩
theorem BS:OkC Tryz.prog tab sE:=aQ (W:=⟨Tryz.prog,tab,bE,[xW,lW,DN,dX],bG,dpO,false⟩) ⟨aK,⟨DL,tV,KO,fC,trivial⟩,aN⟩ (by kernel_rfl) 77 Tryz.f63 .n Tryz.func63 Tryz.call63 rfl (by kernel_rfl) (by kernel_rfl) (by kernel_rfl) λn x=>by kernel_rfl
def lC(n:Nat)(p0:aA):Option Bool:=
 (jA n p0).bind λy1=>
 jn (fun(b2:Bool)=>
 some b2) λk3=>
 cond (y1==0)
 ((qK n p0).bind λy4=>
 k3 y4)
 (k3 false)
@[reducible] def Fk:Ct tab:=⟨60,[.st 4],[],[.one (.d .bool)],[],Bool,λy=>(y,()),λy=>y.1,λ_=>rfl,λn x=>lC n x.1⟩
theorem Nr:OkC Tryz.prog tab Fk:=aQ (W:=⟨Tryz.prog,tab,bE,[iR,oW],bG,dpO,false⟩) ⟨aK,⟨kG,uK,trivial⟩,aN⟩ (by kernel_rfl) 10 Tryz.f60 .n Tryz.func60 Tryz.call60 rfl (by kernel_rfl) (by kernel_rfl) (by kernel_rfl) λn x=>by kernel_rfl
def Ez(n:Nat)(p0:Row)(p1:Row):Option Bool:=
 (dU n p0.key p1.key).bind λy1=>
 some (decide (y1>0))
@[reducible] def DP:Ct tab:=⟨103,[.st 2,.one (.ro (.st 2))],[],[.one (.d .bool)],[],Bool,λy=>(y,()),λy=>y.1,λ_=>rfl,λn x=>Ez n x.1 x.2.1⟩
theorem KP:OkC Tryz.prog tab DP:=aQ (W:=⟨Tryz.prog,tab,bE,[fA],bG,dpO,false⟩) ⟨aK,⟨gC,trivial⟩,aN⟩ (by kernel_rfl) 10 Tryz.f103 .n Tryz.func103 Tryz.call103 rfl (by kernel_rfl) (by kernel_rfl) (by kernel_rfl) λn x=>by kernel_rfl
def fM(n:Nat):Nat->(List Row)×Row×Int×Int×Unit->Option Int:=aW λr1 ⟨v1,v2,v3,v4,_⟩=>
 cond (decide (v4<v3))
 ((idx v1 v4).bind λx5=>
 (Ez n x5 v2).bind λy6=>
 cond y6
 (some v4)
 (r1 (v1,v2,v3,(IntKind.wrap .i64 (v4+1)),())))
 (some (-1))
def gR(n:Nat)(p0:List Row)(p1:Row):Option Int:=
 fM n n (p0,p1,(p0.length:Int),0,())
@[reducible] def jU:Ct tab:=⟨104,[.one (.d (.sl (.st 2))),.one (.fn 103 [.ro (.st 2)])],[],[.one (.d (.int .i64))],[],Int,λy=>(y,()),λy=>y.1,λ_=>rfl,λn x=>gR n x.1 x.2.1⟩
theorem tI:OkC Tryz.prog tab jU:=aQ (W:=⟨Tryz.prog,tab,bE,[DP],bG,dpO,false⟩) ⟨aK,⟨KP,trivial⟩,aN⟩ (by kernel_rfl) 19 Tryz.f104 (.sq .n (.sq (.sq .n (.bk none (.lp ⟨[(0,.one (.d (.sl (.st 2)))),(1,.one (.fn 103 [.ro (.st 2)])),(7,.one (.d (.int .i64))),(8,.one (.d (.int .i64)))],[],[]⟩ .n))) .n)) Tryz.func104 Tryz.call104 rfl (by kernel_rfl) (by kernel_rfl) (by kernel_rfl) λn x=>by kernel_rfl
theorem Bq{a0:Option Addr}{c0:Nat}{a2:Option Addr}{c2:Nat}(p0:List (Raw 4))(p1:Int)(p2:List (Raw 4))(r:List (Raw 4))(h:Dy 40 p0 p1 p2=some r):
  Bm Tryz.prog 105 #[.slice a0 p0.length c0,.int .i64 p1,.slice a2 p2.length c2] [bC (aB 4) 40 a0 c0 p0,bC (aB 4) 40 a2 c2 p2] [] λv A P=>∃(a:Option Addr) (c:Nat),v= .slice a r.length c/\A=[bC (aB 4) 40 a c r]/\P=[]:=by
 unfold Dy at h
 split at h
 case isFalse=>cases h
 rename_i hb
 obtain⟨hb0,hb1⟩:=hb
 obtain⟨i,hi⟩:∃i:Nat,p1=(i:Int):=⟨p1.toNat,by omega⟩
 subst hi
 simp only[Int.toNat_natCast] at h
 have hil:i<=p0.length:=by omega
 split at h
 case h_2=>cases h
 rename_i hroom
 have hr:=Sw h
 have hrl:r.length=p0.length+p2.length:=by rw[<-hr];simp;omega
 have hbytes:(p0.length+p2.length)*40<=140737488355328:=Nat.le_of_ble_eq_true hroom
 have hsm:p0.length+p2.length<9223372036854775808:=by omega
 refine oE 95 Tryz.func105 Tryz.call105 rfl (by kernel_rfl) (by simp) λC a w hS=> ?_
 have hc:p0.length<=c0:=(C6 (hS.st.own _ (List.mem_cons_self ..))).2.1
 refine bN (by kernel_rfl) λK1 hK1=> ?_
 refine bX 1 (by kernel_rfl) ?_
 refine bU 0 1 [0,1,2] [] hS rfl (L':=[(0,.slice a0 p0.length c0),(1,.int .i64 i),(2,.slice a2 p2.length c2)]) (As':=[bC (aB 4) 40 a0 c0 p0,bC (aB 4) 40 a2 c2 p2]) (ob:=[]) (by kernel_rfl) trivial λa w hS=> ?_
 refine bF ?_
 refine hK1 _ _ ?_
 refine bN (by kernel_rfl) λK2 hK2=> ?_
 refine bX 3 (by kernel_rfl) ?_
 refine bU 0 3 [0,1,2] [] hS rfl (L':=[(0,.slice a0 p0.length c0),(1,.int .i64 i),(2,.slice a2 p2.length c2)]) (As':=[bC (aB 4) 40 a0 c0 p0,bC (aB 4) 40 a2 c2 p2]) (ob:=[λ_=>0<=(i:Int)/\(i:Int)<=(p0.length:Int)/\(p0.length:Int)<=(c0:Int)]) (by kernel_rfl) ⟨Bx.c ⟨hb0,hb1,by omega⟩,trivial⟩ λa w hS=> ?_
 refine bF ?_
 refine hK2 _ _ ?_
 refine bN (by kernel_rfl) λK3 hK3=> ?_
 refine bX 3 (by kernel_rfl) ?_
 refine bU 0 3 [0,1,2,7] [] hS rfl (L':=[(0,.slice a0 p0.length c0),(1,.int .i64 i),(2,.slice a2 p2.length c2),(7,.int .i64 (p2.length:Int))]) (As':=[bC (aB 4) 40 a0 c0 p0,bC (aB 4) 40 a2 c2 p2]) (ob:=[]) (by kernel_rfl) trivial λa w hS=> ?_
 refine bF ?_
 refine hK3 _ _ ?_
 refine bN (by kernel_rfl) λK4 hK4=> ?_
 refine bN (by kernel_rfl) λK5 hK5=> ?_
 refine bX 2 (by kernel_rfl) ?_
 refine bU 0 2 [0,1,2,7,16] [] hS rfl (L':=[(0,.slice a0 p0.length c0),(1,.int .i64 i),(2,.slice a2 p2.length c2),(7,.int .i64 (p2.length:Int)),(16,.bool ((p2.length:Int)==0))]) (As':=[bC (aB 4) 40 a0 c0 p0,bC (aB 4) 40 a2 c2 p2]) (ob:=[]) (by kernel_rfl) trivial λa w hS=> ?_
 refine bF ?_
 refine hK5 _ _ ?_
 refine oP ((p2.length:Int)==0) hS.has (by kernel_rfl) (by kernel_rfl) (by kernel_rfl) (λhq=> ?_) (λhq=> ?_)
 ·have hp:p2=[]:=List.eq_nil_of_length_eq_zero (by simpa using hq)
  subst hp
  have hr':p0=r:=by rw[<-hr];simp
  subst hr'
  refine bN (by kernel_rfl) λK6 hK6=> ?_
  refine bX 2 (by kernel_rfl) ?_
  refine bU 0 2 [6] [] hS rfl (L':=[(6,.slice a0 p0.length c0)]) (As':=[bC (aB 4) 40 a0 c0 p0,bC (aB 4) 40 a2 c2 ([]:List (Raw 4))]) (ob:=[]) (by kernel_rfl) trivial λa w hS=> ?_
  refine bF ?_
  refine hK6 _ _ ?_
  refine tQ (by kernel_rfl) ?_
  try simp only[Exit.then,Exit.inBlock]
  refine uB hS [.tmp 6] [] (xs:=[.slice a0 p0.length c0]) (ps:=[]) [0] [] rfl (by kernel_rfl) (λhA=>trivial) rfl (λF up=>trivial) ?_
  exact⟨a0,c0,rfl,rfl,rfl⟩
 have hm:0<p2.length:=by
  rcases Nat.eq_zero_or_pos p2.length with h0|h0
  ·rw[h0] at hq;simp at hq
  ·exact h0
 obtain⟨g3,rfl⟩:=qX (hS.st.own (bC (aB 4) 40 a2 c2 p2) (by simp)) (by omega)
 refine tC (by kernel_rfl) ?_
 refine hK4 _ _ ?_
 refine bN (by kernel_rfl) λK7 hK7=> ?_
 refine bX 3 (by kernel_rfl) ?_
 refine bU 0 3 [0,1,2,7,8] [] hS rfl (L':=[(0,.slice a0 p0.length c0),(1,.int .i64 i),(2,.slice (some ⟨g3,0,none⟩) p2.length c2),(7,.int .i64 (p2.length:Int)),(8,.int .i64 (p0.length:Int))]) (As':=[bC (aB 4) 40 a0 c0 p0,bC (aB 4) 40 (some ⟨g3,0,none⟩) c2 p2]) (ob:=[]) (by kernel_rfl) trivial λa w hS=> ?_
 refine bF ?_
 refine hK7 _ _ ?_
 refine bN (by kernel_rfl) λK8 hK8=> ?_
 refine bN (by kernel_rfl) λK9 hK9=> ?_
 refine bX 3 (by kernel_rfl) ?_
 refine bU 0 3 [0,1,2,7,8,22] [] hS rfl (L':=[(0,.slice a0 p0.length c0),(1,.int .i64 i),(2,.slice (some ⟨g3,0,none⟩) p2.length c2),(7,.int .i64 (p2.length:Int)),(8,.int .i64 (p0.length:Int)),(22,.bool ((i:Int)==(p0.length:Int)))]) (As':=[bC (aB 4) 40 a0 c0 p0,bC (aB 4) 40 (some ⟨g3,0,none⟩) c2 p2]) (ob:=[]) (by kernel_rfl) trivial λa w hS=> ?_
 refine bF ?_
 refine hK9 _ _ ?_
 refine oP ((i:Int)==(p0.length:Int)) hS.has (by kernel_rfl) (by kernel_rfl) (by kernel_rfl) (λhq2=> ?_) (λhq2=> ?_)
 ·have hin:i=p0.length:=by
   have:=of_decide_eq_true (p:=(i:Int)=(p0.length:Int)) (by simpa using hq2)
   omega
  have hr':r=p0++p2:=by rw[<-hr,hin];simp
  refine bN (by kernel_rfl) λK6 hK6=> ?_
  refine bX 4 (by kernel_rfl) ?_
  refine bU 0 2 [23,24] [] hS rfl (L':=[(23,.slice a0 p0.length c0),(24,.slice (some ⟨g3,0,none⟩) p2.length c2)]) (As':=[bC (aB 4) 40 a0 c0 p0,bC (aB 4) 40 (some ⟨g3,0,none⟩) c2 p2]) (ob:=[]) (by kernel_rfl) trivial λa w hS=> ?_
  refine Qh 2 rfl (d:=25) (t:=30) (A:=a0) (c:=c0) (k:=p0.length) (b:=some ⟨g3,0,none⟩) (c2:=c2) (m:=p2.length) (p2.flatMap ((aB 4)).enc) 0 [0] hS (uD (by kernel_rfl)) (by kernel_rfl) rfl rfl (λF up le=>aaT (F:=(aB 4)) (le 0 rfl _ λw h=>Y6 h)) hroom λa5 c5 a w hS=> ?_
  replace hS:=O1 (F:=(aB 4)) (l:=p0) (m:=p2) hS hr'
  refine bU 3 1 [6] [] hS rfl (L':=[(6,.slice a5 r.length c5)]) (As':=[bC (aB 4) 40 a5 c5 r,bC (aB 4) 40 (some ⟨g3,0,none⟩) c2 p2]) (ob:=[]) (by kernel_rfl) trivial λa w hS=> ?_
  refine bF ?_
  refine hK6 _ _ ?_
  refine tQ (by kernel_rfl) ?_
  try simp only[Exit.then,Exit.inBlock]
  refine uB hS [.tmp 6] [] (xs:=[.slice a5 r.length c5]) (ps:=[]) [0] [] rfl (by kernel_rfl) (λhA=>trivial) rfl (λF up=>trivial) ?_
  exact⟨a5,c5,rfl,rfl,rfl⟩
 have hin:i<p0.length:=by
  rcases Nat.lt_or_ge i p0.length with h0|h0
  ·exact h0
  ·have:i=p0.length:=by omega
   rw[this] at hq2;simp at hq2
 obtain⟨g,rfl⟩:=qX (hS.st.own (bC (aB 4) 40 a0 c0 p0) (by simp)) (by omega)
 have hw:IntKind.wrap .i64 ((p0.length:Int)+(p2.length:Int))=((p0.length+p2.length:Nat):Int):=by rw[IntKind.wrap_i64];omega
 have hw2:IntKind.wrap .i64 ((i:Int)+(p2.length:Int))=((i+p2.length:Nat):Int):=by rw[IntKind.wrap_i64];omega
 have hsz:0<((aB 4)).sz:=by decide
 have hX:(p0.take i).flatMap ((aB 4)).enc=(p0.flatMap ((aB 4)).enc).take (i*((aB 4)).sz):=zC p0 i
 have hY:(p0.drop i).flatMap ((aB 4)).enc=(p0.flatMap ((aB 4)).enc).drop (i*((aB 4)).sz):=zD p0 i
 have lX:((p0.take i).flatMap ((aB 4)).enc).length=i*((aB 4)).sz:=by rw[vJ,List.length_take,Nat.min_eq_left hil]
 have lY:((p0.drop i).flatMap ((aB 4)).enc).length=(p0.length-i)*((aB 4)).sz:=by rw[vJ,List.length_drop]
 have lV:(p2.flatMap ((aB 4)).enc).length=p2.length*((aB 4)).sz:=vJ p2
 have hXY:(p0.take i).flatMap ((aB 4)).enc++(p0.drop i).flatMap ((aB 4)).enc=p0.flatMap ((aB 4)).enc:=by rw[<-List.flatMap_append,List.take_append_drop]
 have hre:r.flatMap ((aB 4)).enc=(p0.take i).flatMap ((aB 4)).enc++p2.flatMap ((aB 4)).enc++(p0.drop i).flatMap ((aB 4)).enc:=by rw[<-hr,List.flatMap_append,List.flatMap_append]
 have hV1:∀v∈p2.flatMap ((aB 4)).enc,v.oneCell'=true:=vK p2
 have hY1:∀v∈(p0.drop i).flatMap ((aB 4)).enc,v.oneCell'=true:=vK _
 refine tC (by kernel_rfl) ?_
 refine hK8 _ _ ?_
 refine bN (by kernel_rfl) λK10 hK10=> ?_
 refine bN (by kernel_rfl) λK11 hK11=> ?_
 refine bX 6 (by kernel_rfl) ?_
 refine bU 0 6 [0,1,2,7,8,31] [.as 28 (.int .i64 ((p0.length+p2.length:Nat):Int))] hS rfl (L':=[(0,.slice (some ⟨g,0,none⟩) p0.length c0),(1,.int .i64 i),(2,.slice (some ⟨g3,0,none⟩) p2.length c2),(7,.int .i64 (p2.length:Int)),(8,.int .i64 (p0.length:Int)),(31,.bool (decide (((p0.length+p2.length:Nat):Int)>(c0:Int))))]) (As':=[bC (aB 4) 40 (some ⟨g,0,none⟩) c0 p0,bC (aB 4) 40 (some ⟨g3,0,none⟩) c2 p2]) (ob:=[λ_=>Value.int .i64 (IntKind.wrap .i64 ((p0.length:Int)+(p2.length:Int)))= .int .i64 ((p0.length+p2.length:Nat):Int)]) (by kernel_rfl) ⟨Bx.c (by rw[hw]),trivial⟩ λa w hS=> ?_
 refine bF ?_
 refine hK11 _ _ ?_
 refine oP (decide (((p0.length+p2.length:Nat):Int)>(c0:Int))) hS.has (by kernel_rfl) (by kernel_rfl) (by kernel_rfl) (λhq3=> ?_) (λhq3=> ?_)
 ·have hgt:c0<p0.length+p2.length:=by have:=of_decide_eq_true hq3;omega
  have hk:p0.length+p2.length-i+i=p0.length+p2.length:=by omega
  have hw3:IntKind.wrap .i64 (((p0.length+p2.length:Nat):Int)-(i:Int))=((p0.length+p2.length-i:Nat):Int):=by rw[IntKind.wrap_i64];omega
  refine bN (by kernel_rfl) λK12 hK12=> ?_
  refine bX 10 (by kernel_rfl) ?_
  refine bU 0 8 [0,1,2,7,8,34,39] [.as 34 (.slice (some ⟨g,0,none⟩) i c0),.as 37 (.int .i64 ((p0.length+p2.length:Nat):Int)),.as 39 (.int .i64 ((p0.length+p2.length-i:Nat):Int))] hS rfl (L':=[(0,.slice (some ⟨g,0,none⟩) p0.length c0),(1,.int .i64 i),(2,.slice (some ⟨g3,0,none⟩) p2.length c2),(7,.int .i64 (p2.length:Int)),(8,.int .i64 (p0.length:Int)),(34,.slice (some ⟨g,0,none⟩) i c0),(39,.int .i64 ((p0.length+p2.length-i:Nat):Int))]) (As':=[bC (aB 4) 40 (some ⟨g,0,none⟩) c0 p0,bC (aB 4) 40 (some ⟨g3,0,none⟩) c2 p2]) (ob:=[λ_=>(0:Int)<=0/\(0:Int)<=(i:Int)/\(i:Int)<=(c0:Int),λ_=>Value.slice (slA (some ⟨g,0,none⟩) 0 c0 ((aB 4)).sz) i c0= .slice (some ⟨g,0,none⟩) i c0,λ_=>Value.int .i64 (IntKind.wrap .i64 ((p0.length:Int)+(p2.length:Int)))= .int .i64 ((p0.length+p2.length:Nat):Int),λ_=>Value.int .i64 (IntKind.wrap .i64 (((p0.length+p2.length:Nat):Int)-(i:Int)))= .int .i64 ((p0.length+p2.length-i:Nat):Int)]) (by kernel_rfl) ⟨Bx.c ⟨by omega,by omega,by omega⟩,Bx.c (by rw[BE]),Bx.c (by rw[hw]),Bx.c (by rw[hw3]),trivial⟩ λa w hS=> ?_
  obtain⟨w',g2,c5,hrun,hc5,⟨T,hT,hrow⟩,hext,hg2,hg2'⟩:=Ej (P:=Tryz.prog) (sz:=((aB 4)).sz) (t:=30) (tn:=3) (ty:=30) (i:=i) (k:=p0.length+p2.length-i) (bytes:=40) (inf:=Tryz.t40) (z:=(Tryz.t40.zero).getD undef) (kq:= .i64) (kn:= .i64) (by kernel_rfl) (by kernel_rfl) (by kernel_rfl) (by kernel_rfl) rfl (by kernel_rfl) (by kernel_rfl) hsz (by decide) (hS.st.own (bC (aB 4) 40 (some ⟨g,0,none⟩) c0 p0) (by simp)) hil (by omega) (by omega) (by rw[show i+(p0.length+p2.length-i)=p0.length+p2.length from by omega];exact hroom)
  have hik:i+(p0.length+p2.length-i)=p0.length+p2.length:=by omega
  rw[hik] at hrun hc5 hT
  refine N7 8 rfl (d:=some 40) (b:= .append) (ts:= #[30,3]) (ty:=30) (vs:= #[.slice (some ⟨g,0,none⟩) i c0,.int .i64 ((p0.length+p2.length-i:Nat):Int)]) hS (by kernel_rfl) _ hrun hrow hext (λx hx=>by simp[Asn.fp] at hx;subst hx;exact⟨hg2,hg2'⟩) (by simp[Asn.fp]) λa hS=> ?_
  rw[<-hX] at hS
  generalize hZ:(Builtin.zeroCells ((Tryz.t40.zero).getD undef).cells (p0.length+p2.length-i)).toList=Z at hS
  have lZ:Z.length=(p2.flatMap ((aB 4)).enc).length+((p0.drop i).flatMap ((aB 4)).enc).length:=by
   rw[<-hZ,GN,lV,lY,<-Nat.add_mul,show((Tryz.t40.zero).getD undef).cells.size=((aB 4)).sz from by kernel_rfl]
   congr 1;omega
  refine bU 9 1 [0,1,2,7,9] [] hS rfl (L':=[(0,.slice (some ⟨g,0,none⟩) p0.length c0),(1,.int .i64 i),(2,.slice (some ⟨g3,0,none⟩) p2.length c2),(7,.int .i64 (p2.length:Int)),(9,.slice (some ⟨g2,0,none⟩) (p0.length+p2.length) c5)]) (As':=[.row (some ⟨g2,0,none⟩) c5 40 ((aB 4)).sz c5 ((p0.take i).flatMap ((aB 4)).enc++Z++T),bC (aB 4) 40 (some ⟨g,0,none⟩) c0 p0,bC (aB 4) 40 (some ⟨g3,0,none⟩) c2 p2]) (ob:=[]) (by kernel_rfl) trivial λa w hS=> ?_
  refine bF ?_
  refine hK12 _ _ ?_
  refine bN (by kernel_rfl) λK13 hK13=> ?_
  refine bX 5 (by kernel_rfl) ?_
  have hs1:slA (some (⟨g2,0,none⟩:Addr)) i c5 ((aB 4)).sz=some ⟨g2,i*((aB 4)).sz,none⟩:=by
   unfold slA;rw[if_neg (by omega)];simp only[Option.map_some,dJ]
  refine bU 0 4 [0,1,7,9,43,44] [.as 43 (.slice (some ⟨g2,i*((aB 4)).sz,none⟩) (p0.length+p2.length-i) (c5-i))] hS rfl (L':=[(0,.slice (some ⟨g,0,none⟩) p0.length c0),(1,.int .i64 i),(7,.int .i64 (p2.length:Int)),(9,.slice (some ⟨g2,0,none⟩) (p0.length+p2.length) c5),(43,.slice (some ⟨g2,i*((aB 4)).sz,none⟩) (p0.length+p2.length-i) (c5-i)),(44,.slice (some ⟨g3,0,none⟩) p2.length c2)]) (As':=[.row (some ⟨g2,0,none⟩) c5 40 ((aB 4)).sz c5 ((p0.take i).flatMap ((aB 4)).enc++Z++T),bC (aB 4) 40 (some ⟨g,0,none⟩) c0 p0,bC (aB 4) 40 (some ⟨g3,0,none⟩) c2 p2]) (ob:=[λ_=>0<=(i:Int)/\(i:Int)<=((p0.length+p2.length:Nat):Int)/\((p0.length+p2.length:Nat):Int)<=(c5:Int),λ_=>Value.slice (slA (some ⟨g2,0,none⟩) i c5 ((aB 4)).sz) (p0.length+p2.length-i) (c5-i)= .slice (some ⟨g2,i*((aB 4)).sz,none⟩) (p0.length+p2.length-i) (c5-i)]) (by kernel_rfl) ⟨Bx.c ⟨by omega,by omega,by omega⟩,Bx.c (by rw[hs1]),trivial⟩ λa w hS=> ?_
  have hsrc:=fY (hS.st.own (bC (aB 4) 40 (some ⟨g3,0,none⟩) c2 p2) (by simp)) 0 (p2.flatMap ((aB 4)).enc).length
  rw[List.drop_zero,List.take_length] at hsrc
  have hfit1:i*((aB 4)).sz+(p2.flatMap ((aB 4)).enc).length<=c5*((aB 4)).sz:=by rw[lV,<-Nat.add_mul];exact Nat.mul_le_mul_right _ (by omega)
  have hmin1:Nat.min p2.length (p0.length+p2.length-i)=p2.length:=Nat.min_eq_left (by omega)
  refine tM 4 rfl 0 (.row (some ⟨g2,0,none⟩) c5 40 ((aB 4)).sz c5 (spl ((p0.take i).flatMap ((aB 4)).enc++Z++T) (i*((aB 4)).sz) (p2.flatMap ((aB 4)).enc))) (d:=some 45) (b:= .copy) (ts:= #[30,30]) (ty:=3) (vs:= #[.slice (some ⟨g2,i*((aB 4)).sz,none⟩) (p0.length+p2.length-i) (c5-i),.slice (some ⟨g3,0,none⟩) p2.length c2]) hS (by kernel_rfl) rfl (λhA=>oC (dT:=30) (sT:=30) (ty:=3) (inf:=Tryz.t40) (by kernel_rfl) (by kernel_rfl) rfl hA (by rw[hmin1,lV]) hsrc hfit1 hV1) rfl (by simp[Asn.fp]) λa w hS=> ?_
  refine bF ?_
  refine hK13 _ _ ?_
  refine bN (by kernel_rfl) λK14 hK14=> ?_
  have hs2:slA (some (⟨g2,0,none⟩:Addr)) (i+p2.length) c5 ((aB 4)).sz=some ⟨g2,(i+p2.length)*((aB 4)).sz,none⟩:=by
   unfold slA;rw[if_neg (by omega)];simp only[Option.map_some,dJ]
  have hs3:slA (some (⟨g,0,none⟩:Addr)) i c0 ((aB 4)).sz=some ⟨g,i*((aB 4)).sz,none⟩:=by
   unfold slA;rw[if_neg (by omega)];simp only[Option.map_some,dJ]
  refine Gm 8 9 [.val (.slice (some ⟨g2,0,none⟩) (p0.length+p2.length) c5),.val (.int .i64 i),.val (.int .i64 (p2.length:Int)),.val (.int .i64 ((i+p2.length:Nat):Int)),.val (.slice (some ⟨g2,(i+p2.length)*((aB 4)).sz,none⟩) (p0.length+p2.length-(i+p2.length)) (c5-(i+p2.length))),.val (.slice (some ⟨g,0,none⟩) p0.length c0),.val (.int .i64 i),.val (.slice (some ⟨g,i*((aB 4)).sz,none⟩) (p0.length-i) (c0-i))] [] [(0,[]),(1,[]),(2,[]),(3,[.as 49 (.int .i64 ((i+p2.length:Nat):Int))]),(4,[.as 50 (.slice (some ⟨g2,(i+p2.length)*((aB 4)).sz,none⟩) (p0.length+p2.length-(i+p2.length)) (c5-(i+p2.length)))]),(5,[]),(6,[]),(7,[.as 53 (.slice (some ⟨g,i*((aB 4)).sz,none⟩) (p0.length-i) (c0-i))])] [] (ob:=[λ_=>Value.int .i64 (IntKind.wrap .i64 ((i:Int)+(p2.length:Int)))= .int .i64 ((i+p2.length:Nat):Int),λ_=>0<=((i+p2.length:Nat):Int)/\((i+p2.length:Nat):Int)<=((p0.length+p2.length:Nat):Int)/\((p0.length+p2.length:Nat):Int)<=(c5:Int),λ_=>Value.slice (slA (some ⟨g2,0,none⟩) (i+p2.length) c5 ((aB 4)).sz) (p0.length+p2.length-(i+p2.length)) (c5-(i+p2.length))= .slice (some ⟨g2,(i+p2.length)*((aB 4)).sz,none⟩) (p0.length+p2.length-(i+p2.length)) (c5-(i+p2.length)),λ_=>0<=(i:Int)/\(i:Int)<=(p0.length:Int)/\(p0.length:Int)<=(c0:Int),λ_=>Value.slice (slA (some ⟨g,0,none⟩) i c0 ((aB 4)).sz) (p0.length-i) (c0-i)= .slice (some ⟨g,i*((aB 4)).sz,none⟩) (p0.length-i) (c0-i)]) (by kernel_rfl) (by kernel_rfl) hS (by kernel_rfl) (λF N0=>by kernel_rfl) (by kernel_rfl) (by kernel_rfl) (by kernel_rfl) (by kernel_rfl) ⟨Bx.c (by rw[hw2]),Bx.c ⟨by omega,by omega,by omega⟩,Bx.c (by rw[hs2]),Bx.c ⟨by omega,by omega,by omega⟩,Bx.c (by rw[hs3]),trivial⟩ ?_ ?_
  ·exact trivial
  intro V a w e hS hq
  have hsrc:=fY (hS.st.own (bC (aB 4) 40 (some ⟨g,0,none⟩) c0 p0) (by simp[List.set])) (i*((aB 4)).sz) ((p0.drop i).flatMap ((aB 4)).enc).length
  rw[<-hY,List.take_length] at hsrc
  have hmin2:Nat.min (p0.length-i) (p0.length+p2.length-(i+p2.length))=p0.length-i:=Nat.min_eq_left (by omega)
  have hfit2:(i+p2.length)*((aB 4)).sz+((p0.drop i).flatMap ((aB 4)).enc).length<=c5*((aB 4)).sz:=by rw[lY,<-Nat.add_mul];exact Nat.mul_le_mul_right _ (by omega)
  refine tM 8 rfl 0 (.row (some ⟨g2,0,none⟩) c5 40 ((aB 4)).sz c5 (spl (spl ((p0.take i).flatMap ((aB 4)).enc++Z++T) (i*((aB 4)).sz) (p2.flatMap ((aB 4)).enc)) ((i+p2.length)*((aB 4)).sz) ((p0.drop i).flatMap ((aB 4)).enc))) (d:=some 54) (b:= .copy) (ts:= #[30,30]) (ty:=3) (vs:= #[.slice (some ⟨g2,(i+p2.length)*((aB 4)).sz,none⟩) (p0.length+p2.length-(i+p2.length)) (c5-(i+p2.length)),.slice (some ⟨g,i*((aB 4)).sz,none⟩) (p0.length-i) (c0-i)]) hS (by kernel_rfl) rfl (λhA=>oC (dT:=30) (sT:=30) (ty:=3) (inf:=Tryz.t40) (by kernel_rfl) (by kernel_rfl) rfl hA (by rw[hmin2,lY]) hsrc hfit2 hY1) rfl (by simp[Asn.fp]) λa w hS=> ?_
  have hfin:(spl (spl ((p0.take i).flatMap ((aB 4)).enc++Z++T) (i*((aB 4)).sz) (p2.flatMap ((aB 4)).enc)) ((i+p2.length)*((aB 4)).sz) ((p0.drop i).flatMap ((aB 4)).enc)).take ((p0.length+p2.length)*((aB 4)).sz)=r.flatMap ((aB 4)).enc:=by
   have:=L8 ((p0.take i).flatMap ((aB 4)).enc) ((p0.drop i).flatMap ((aB 4)).enc) (p2.flatMap ((aB 4)).enc) Z T lZ
   rw[lX,lV,<-Nat.add_mul] at this
   rw[this,hre,List.take_left' (by rw[List.length_append,List.length_append,lX,lV,lY,<-Nat.add_mul,<-Nat.add_mul];congr 1;omega)]
  replace hS:=hS.same (B:=bC (aB 4) 40 (some ⟨g2,0,none⟩) c5 r) 0 rfl (λhA=>lP hA hrl hc5 hfin) rfl (by simp[Asn.fp])
  refine bF ?_
  refine hK14 _ _ ?_
  refine bN (by kernel_rfl) λK15 hK15=> ?_
  refine bX 2 (by kernel_rfl) ?_
  refine bU 0 2 [6] [] hS rfl (L':=[(6,.slice (some ⟨g2,0,none⟩) (p0.length+p2.length) c5)]) (As':=[bC (aB 4) 40 (some ⟨g2,0,none⟩) c5 r,bC (aB 4) 40 (some ⟨g,0,none⟩) c0 p0,bC (aB 4) 40 (some ⟨g3,0,none⟩) c2 p2]) (ob:=[]) (by kernel_rfl) trivial λa w hS=> ?_
  refine bF ?_
  refine hK15 _ _ ?_
  refine tQ (by kernel_rfl) ?_
  try simp only[Exit.then,Exit.inBlock]
  refine uB hS [.tmp 6] [] (xs:=[.slice (some ⟨g2,0,none⟩) (p0.length+p2.length) c5]) (ps:=[]) [0] [] rfl (by kernel_rfl) (λhA=>trivial) rfl (λF up=>trivial) ?_
  exact⟨some ⟨g2,0,none⟩,c5,by rw[hrl];rfl,rfl,rfl⟩
 have hle:p0.length+p2.length<=c0:=by have:=of_decide_eq_false hq3;omega
 refine tC (by kernel_rfl) ?_
 refine hK10 _ _ ?_
 refine bN (by kernel_rfl) λK12 hK12=> ?_
 refine bX 6 (by kernel_rfl) ?_
 refine bU 0 6 [0,1,2,7] [.as 59 (.int .i64 ((p0.length+p2.length:Nat):Int)),.as 60 (.slice (some ⟨g,0,none⟩) (p0.length+p2.length) c0)] hS rfl (L':=[(0,.slice (some ⟨g,0,none⟩) (p0.length+p2.length) c0),(1,.int .i64 i),(2,.slice (some ⟨g3,0,none⟩) p2.length c2),(7,.int .i64 (p2.length:Int))]) (As':=[bC (aB 4) 40 (some ⟨g,0,none⟩) c0 p0,bC (aB 4) 40 (some ⟨g3,0,none⟩) c2 p2]) (ob:=[λ_=>Value.int .i64 (IntKind.wrap .i64 ((p0.length:Int)+(p2.length:Int)))= .int .i64 ((p0.length+p2.length:Nat):Int),λ_=>(0:Int)<=0/\(0:Int)<=((p0.length+p2.length:Nat):Int)/\((p0.length+p2.length:Nat):Int)<=(c0:Int),λ_=>Value.slice (slA (some ⟨g,0,none⟩) 0 c0 ((aB 4)).sz) (p0.length+p2.length) c0= .slice (some ⟨g,0,none⟩) (p0.length+p2.length) c0]) (by kernel_rfl) ⟨Bx.c (by rw[hw]),Bx.c ⟨by omega,by omega,by omega⟩,Bx.c (by rw[BE]),trivial⟩ λa w hS=> ?_
 obtain⟨ds,hd1,hd2,hd3,hd4⟩:=FT (hS.st.own (bC (aB 4) 40 (some ⟨g,0,none⟩) c0 p0) (by simp))
 replace hS:=hS.same (B:= .row (some ⟨g,0,none⟩) c0 40 ((aB 4)).sz c0 ds) 0 rfl (λ_=>hd4) rfl (by simp[Asn.fp])
 refine bF ?_
 refine hK12 _ _ ?_
 refine bN (by kernel_rfl) λK13 hK13=> ?_
 refine bN (by kernel_rfl) λK14 hK14=> ?_
 refine bX 8 (by kernel_rfl) ?_
 have hs2:slA (some (⟨g,0,none⟩:Addr)) (i+p2.length) c0 ((aB 4)).sz=some ⟨g,(i+p2.length)*((aB 4)).sz,none⟩:=by
  unfold slA;rw[if_neg (by omega)];simp only[Option.map_some,dJ]
 have hs3:slA (some (⟨g,0,none⟩:Addr)) i c0 ((aB 4)).sz=some ⟨g,i*((aB 4)).sz,none⟩:=by
  unfold slA;rw[if_neg (by omega)];simp only[Option.map_some,dJ]
 refine bU 0 6 [0,1,2,7,61,66] [.as 65 (.int .i64 ((i+p2.length:Nat):Int)),.as 66 (.slice (some ⟨g,(i+p2.length)*((aB 4)).sz,none⟩) (p0.length+p2.length-(i+p2.length)) (c0-(i+p2.length)))] hS rfl (L':=[(0,.slice (some ⟨g,0,none⟩) (p0.length+p2.length) c0),(1,.int .i64 i),(2,.slice (some ⟨g3,0,none⟩) p2.length c2),(7,.int .i64 (p2.length:Int)),(61,.slice (some ⟨g3,0,none⟩) p2.length c2),(66,.slice (some ⟨g,(i+p2.length)*((aB 4)).sz,none⟩) (p0.length+p2.length-(i+p2.length)) (c0-(i+p2.length)))]) (As':=[.row (some ⟨g,0,none⟩) c0 40 ((aB 4)).sz c0 ds,bC (aB 4) 40 (some ⟨g3,0,none⟩) c2 p2]) (ob:=[λ_=>Value.int .i64 (IntKind.wrap .i64 ((i:Int)+(p2.length:Int)))= .int .i64 ((i+p2.length:Nat):Int),λ_=>0<=((i+p2.length:Nat):Int)/\((i+p2.length:Nat):Int)<=((p0.length+p2.length:Nat):Int)/\((p0.length+p2.length:Nat):Int)<=(c0:Int),λ_=>Value.slice (slA (some ⟨g,0,none⟩) (i+p2.length) c0 ((aB 4)).sz) (p0.length+p2.length-(i+p2.length)) (c0-(i+p2.length))= .slice (some ⟨g,(i+p2.length)*((aB 4)).sz,none⟩) (p0.length+p2.length-(i+p2.length)) (c0-(i+p2.length))]) (by kernel_rfl) ⟨Bx.c (by rw[hw2]),Bx.c ⟨by omega,by omega,by omega⟩,Bx.c (by rw[hs2]),trivial⟩ λa w hS=> ?_
 have hne:g3≠g:=by
  have:=(List.nodup_append.1 hS.st.nd).2.1
  simp[fps,Asn.fp] at this
  exact λe=>this e.symm
 have hA0:=C7 (hS.st.own (.row (some ⟨g,0,none⟩) c0 40 ((aB 4)).sz c0 ds) (by simp))
 have hA1:=C7 (hS.st.own (bC (aB 4) 40 (some ⟨g3,0,none⟩) c2 p2) (by simp))
 have hcsz:c0*((aB 4)).sz≠0:=Nat.mul_ne_zero (by omega) (by omega)
 have hov:(callFunc 146 #[.slice (some ⟨g3,0,none⟩) p2.length c2,.slice (some ⟨g,(i+p2.length)*((aB 4)).sz,none⟩) (p0.length+p2.length-(i+p2.length)) (c0-(i+p2.length))]).run Tryz.prog w= .ok (.value (.bool false)) w:=by
  rw[run_callFunc_extern Tryz.func146 (by kernel_rfl) (by kernel_rfl) (by kernel_rfl) (e:=Extern.SlicesOverlaps.overlaps #[30,30] #[4]) (by kernel_rfl),
   Lib.run_overlaps_apart w 30 4 40 (by kernel_rfl) ((aB 4)).sz (λw=>by simp[sizeOf,cR (show Tryz.prog.info? 40=some Tryz.t40 from by kernel_rfl)];kernel_rfl) ⟨g3,0,none⟩ ⟨g,(i+p2.length)*((aB 4)).sz,none⟩ p2.length c2 _ _ hne _ _ _ _ hA1.1 hA0.1 hcsz (hA1.2 _) (hA1.2 _)]
  rfl
 refine Ze 6 rfl (d:=some 67) (g:=146) (args:= #[.slice (some ⟨g3,0,none⟩) p2.length c2,.slice (some ⟨g,(i+p2.length)*((aB 4)).sz,none⟩) (p0.length+p2.length-(i+p2.length)) (c0-(i+p2.length))]) hS (by kernel_rfl) hov λa hS=> ?_
 refine bU 7 1 [0,1,2,7,68] [] hS rfl (L':=[(0,.slice (some ⟨g,0,none⟩) (p0.length+p2.length) c0),(1,.int .i64 i),(2,.slice (some ⟨g3,0,none⟩) p2.length c2),(7,.int .i64 (p2.length:Int)),(68,.bool true)]) (As':=[.row (some ⟨g,0,none⟩) c0 40 ((aB 4)).sz c0 ds,bC (aB 4) 40 (some ⟨g3,0,none⟩) c2 p2]) (ob:=[]) (by kernel_rfl) trivial λa w hS=> ?_
 refine bF ?_
 refine hK14 _ _ ?_
 refine oP true hS.has (by kernel_rfl) (by kernel_rfl) (by kernel_rfl) (λ_=> ?_) (λhx=>by cases hx)
 refine bN (by kernel_rfl) λK15 hK15=> ?_
 obtain⟨Z,hZ⟩:∃Z,ds=(p0.take i).flatMap ((aB 4)).enc++(p0.drop i).flatMap ((aB 4)).enc++Z:=⟨ds.drop (p0.length*((aB 4)).sz),by rw[hXY];conv=>lhs;rw[<-List.take_append_drop (p0.length*((aB 4)).sz) ds,hd1]⟩
 have lds:ds.length=c0*((aB 4)).sz:=hd2
 have lZ:(p2.flatMap ((aB 4)).enc).length<=((p0.drop i).flatMap ((aB 4)).enc).length+Z.length:=by
  have h1:=lds
  rw[hZ,List.length_append,List.length_append,lX,lY] at h1
  rw[lV,lY]
  have h2:=Nat.mul_le_mul_right ((aB 4)).sz hle
  rw[Nat.add_mul] at h2
  have h3:i*((aB 4)).sz+(p0.length-i)*((aB 4)).sz=p0.length*((aB 4)).sz:=by rw[<-Nat.add_mul];congr 1;omega
  omega
 refine Gm 8 9 [.val (.slice (some ⟨g,0,none⟩) (p0.length+p2.length) c0),.val (.int .i64 i),.val (.int .i64 (p2.length:Int)),.val (.int .i64 ((i+p2.length:Nat):Int)),.val (.slice (some ⟨g,(i+p2.length)*((aB 4)).sz,none⟩) (p0.length+p2.length-(i+p2.length)) (c0-(i+p2.length))),.val (.slice (some ⟨g,0,none⟩) (p0.length+p2.length) c0),.val (.int .i64 i),.val (.slice (some ⟨g,i*((aB 4)).sz,none⟩) (p0.length+p2.length-i) (c0-i))] [] [(0,[]),(1,[]),(2,[]),(3,[.as 72 (.int .i64 ((i+p2.length:Nat):Int))]),(4,[.as 73 (.slice (some ⟨g,(i+p2.length)*((aB 4)).sz,none⟩) (p0.length+p2.length-(i+p2.length)) (c0-(i+p2.length)))]),(5,[]),(6,[]),(7,[.as 76 (.slice (some ⟨g,i*((aB 4)).sz,none⟩) (p0.length+p2.length-i) (c0-i))])] [] (ob:=[λ_=>Value.int .i64 (IntKind.wrap .i64 ((i:Int)+(p2.length:Int)))= .int .i64 ((i+p2.length:Nat):Int),λ_=>0<=((i+p2.length:Nat):Int)/\((i+p2.length:Nat):Int)<=((p0.length+p2.length:Nat):Int)/\((p0.length+p2.length:Nat):Int)<=(c0:Int),λ_=>Value.slice (slA (some ⟨g,0,none⟩) (i+p2.length) c0 ((aB 4)).sz) (p0.length+p2.length-(i+p2.length)) (c0-(i+p2.length))= .slice (some ⟨g,(i+p2.length)*((aB 4)).sz,none⟩) (p0.length+p2.length-(i+p2.length)) (c0-(i+p2.length)),λ_=>0<=(i:Int)/\(i:Int)<=((p0.length+p2.length:Nat):Int)/\((p0.length+p2.length:Nat):Int)<=(c0:Int),λ_=>Value.slice (slA (some ⟨g,0,none⟩) i c0 ((aB 4)).sz) (p0.length+p2.length-i) (c0-i)= .slice (some ⟨g,i*((aB 4)).sz,none⟩) (p0.length+p2.length-i) (c0-i)]) (by kernel_rfl) (by kernel_rfl) hS (by kernel_rfl) (λF N0=>by kernel_rfl) (by kernel_rfl) (by kernel_rfl) (by kernel_rfl) (by kernel_rfl) ⟨Bx.c (by rw[hw2]),Bx.c ⟨by omega,by omega,by omega⟩,Bx.c (by rw[hs2]),Bx.c ⟨by omega,by omega,by omega⟩,Bx.c (by rw[hs3]),trivial⟩ ?_ ?_
 ·exact trivial
 intro V a w e hS hq
 have hsrc:=fY (hS.st.own (.row (some ⟨g,0,none⟩) c0 40 ((aB 4)).sz c0 ds) (by simp)) (i*((aB 4)).sz) ((p0.drop i).flatMap ((aB 4)).enc).length
 have hdsd:(ds.drop (i*((aB 4)).sz)).take ((p0.drop i).flatMap ((aB 4)).enc).length=(p0.drop i).flatMap ((aB 4)).enc:=by
  rw[hZ,List.append_assoc,<-lX,List.drop_left,List.take_left]
 rw[hdsd] at hsrc
 have hmin2:Nat.min (p0.length+p2.length-i) (p0.length+p2.length-(i+p2.length))=p0.length-i:=by
  rw[show p0.length+p2.length-(i+p2.length)=p0.length-i from by omega];exact Nat.min_eq_right (by omega)
 have hfit2:(i+p2.length)*((aB 4)).sz+((p0.drop i).flatMap ((aB 4)).enc).length<=c0*((aB 4)).sz:=by rw[lY,<-Nat.add_mul];exact Nat.mul_le_mul_right _ (by omega)
 refine tM 8 rfl 0 (.row (some ⟨g,0,none⟩) c0 40 ((aB 4)).sz c0 (spl ds ((i+p2.length)*((aB 4)).sz) ((p0.drop i).flatMap ((aB 4)).enc))) (d:=some 77) (b:= .copy) (ts:= #[30,30]) (ty:=3) (vs:= #[.slice (some ⟨g,(i+p2.length)*((aB 4)).sz,none⟩) (p0.length+p2.length-(i+p2.length)) (c0-(i+p2.length)),.slice (some ⟨g,i*((aB 4)).sz,none⟩) (p0.length+p2.length-i) (c0-i)]) hS (by kernel_rfl) rfl (λhA=>oC (dT:=30) (sT:=30) (ty:=3) (inf:=Tryz.t40) (by kernel_rfl) (by kernel_rfl) rfl hA (by rw[hmin2,lY]) hsrc hfit2 hY1) rfl (by simp[Asn.fp]) λa w hS=> ?_
 refine bF ?_
 refine hK15 _ _ ?_
 refine bN (by kernel_rfl) λK16 hK16=> ?_
 refine bX 5 (by kernel_rfl) ?_
 refine bU 0 4 [0,80,81] [.as 80 (.slice (some ⟨g,i*((aB 4)).sz,none⟩) (p0.length+p2.length-i) (c0-i))] hS rfl (L':=[(0,.slice (some ⟨g,0,none⟩) (p0.length+p2.length) c0),(80,.slice (some ⟨g,i*((aB 4)).sz,none⟩) (p0.length+p2.length-i) (c0-i)),(81,.slice (some ⟨g3,0,none⟩) p2.length c2)]) (As':=[.row (some ⟨g,0,none⟩) c0 40 ((aB 4)).sz c0 (spl ds ((i+p2.length)*((aB 4)).sz) ((p0.drop i).flatMap ((aB 4)).enc)),bC (aB 4) 40 (some ⟨g3,0,none⟩) c2 p2]) (ob:=[λ_=>0<=(i:Int)/\(i:Int)<=((p0.length+p2.length:Nat):Int)/\((p0.length+p2.length:Nat):Int)<=(c0:Int),λ_=>Value.slice (slA (some ⟨g,0,none⟩) i c0 ((aB 4)).sz) (p0.length+p2.length-i) (c0-i)= .slice (some ⟨g,i*((aB 4)).sz,none⟩) (p0.length+p2.length-i) (c0-i)]) (by kernel_rfl) ⟨Bx.c ⟨by omega,by omega,by omega⟩,Bx.c (by rw[hs3]),trivial⟩ λa w hS=> ?_
 have hsrc:=fY (hS.st.own (bC (aB 4) 40 (some ⟨g3,0,none⟩) c2 p2) (by simp)) 0 (p2.flatMap ((aB 4)).enc).length
 rw[List.drop_zero,List.take_length] at hsrc
 have hfit1:i*((aB 4)).sz+(p2.flatMap ((aB 4)).enc).length<=c0*((aB 4)).sz:=by rw[lV,<-Nat.add_mul];exact Nat.mul_le_mul_right _ (by omega)
 have hmin1:Nat.min p2.length (p0.length+p2.length-i)=p2.length:=Nat.min_eq_left (by omega)
 refine tM 4 rfl 0 (.row (some ⟨g,0,none⟩) c0 40 ((aB 4)).sz c0 (spl (spl ds ((i+p2.length)*((aB 4)).sz) ((p0.drop i).flatMap ((aB 4)).enc)) (i*((aB 4)).sz) (p2.flatMap ((aB 4)).enc))) (d:=some 82) (b:= .copy) (ts:= #[30,30]) (ty:=3) (vs:= #[.slice (some ⟨g,i*((aB 4)).sz,none⟩) (p0.length+p2.length-i) (c0-i),.slice (some ⟨g3,0,none⟩) p2.length c2]) hS (by kernel_rfl) rfl (λhA=>oC (dT:=30) (sT:=30) (ty:=3) (inf:=Tryz.t40) (by kernel_rfl) (by kernel_rfl) rfl hA (by rw[hmin1,lV]) hsrc hfit1 hV1) rfl (by simp[Asn.fp]) λa w hS=> ?_
 have hfin:(spl (spl ds ((i+p2.length)*((aB 4)).sz) ((p0.drop i).flatMap ((aB 4)).enc)) (i*((aB 4)).sz) (p2.flatMap ((aB 4)).enc)).take ((p0.length+p2.length)*((aB 4)).sz)=r.flatMap ((aB 4)).enc:=by
  have:=L7 ((p0.take i).flatMap ((aB 4)).enc) ((p0.drop i).flatMap ((aB 4)).enc) (p2.flatMap ((aB 4)).enc) Z lZ
  rw[lX,lV,<-Nat.add_mul,<-hZ] at this
  rw[this,hre,List.take_left' (by rw[List.length_append,List.length_append,lX,lV,lY,<-Nat.add_mul,<-Nat.add_mul];congr 1;omega)]
 replace hS:=hS.same (B:=bC (aB 4) 40 (some ⟨g,0,none⟩) c0 r) 0 rfl (λhA=>lP hA hrl hle hfin) rfl (by simp[Asn.fp])
 refine bF ?_
 refine hK16 _ _ ?_
 refine bN (by kernel_rfl) λK17 hK17=> ?_
 refine bX 2 (by kernel_rfl) ?_
 refine bU 0 2 [6] [] hS rfl (L':=[(6,.slice (some ⟨g,0,none⟩) (p0.length+p2.length) c0)]) (As':=[bC (aB 4) 40 (some ⟨g,0,none⟩) c0 r,bC (aB 4) 40 (some ⟨g3,0,none⟩) c2 p2]) (ob:=[]) (by kernel_rfl) trivial λa w hS=> ?_
 refine bF ?_
 refine hK17 _ _ ?_
 refine tQ (by kernel_rfl) ?_
 try simp only[Exit.then,Exit.inBlock]
 refine uB hS [.tmp 6] [] (xs:=[.slice (some ⟨g,0,none⟩) (p0.length+p2.length) c0]) (ps:=[]) [0] [] rfl (by kernel_rfl) (λhA=>trivial) rfl (λF up=>trivial) ?_
 exact⟨some ⟨g,0,none⟩,c0,by rw[hrl];rfl,rfl,rfl⟩
def pA(n:Nat)(p1:Int)(q0 q1:List Row):Option (List Row):=Dy 40 q0 p1 q1
@[reducible] def sF:Ct tab:=⟨105,[.one (.own 0),.one (.d (.int .i64)),.one (.own 1)],[.row 40 (.st 2),.row 40 (.st 2)],[.one (.own 0)],[(none,.row 40 (.st 2))],List Row,λy=>(y,()),λy=>y.1,λ_=>rfl,λn x=>pA n x.1 x.2.1 x.2.2.1⟩
theorem BT:OkC Tryz.prog tab sF:=VA (t:= .st 2) (m:=4) (bytes:=40) aK rfl Tryz.call105 λp0 p1 p2 r h=>Bq p0 p1 p2 r h
end
end Go.Proofs.YtlcmdgpjiendmaaGreat
