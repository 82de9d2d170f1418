import Derived.Test.YtlcmdgpjiendmaaGreatTypes
import Derived.Test.YtlcmdgpjiendmaaGreatF4
namespace Go.Proofs.YtlcmdgpjiendmaaGreat
open Go Go.Bur Go.RowKit
set_option linter.unusedVariables false
set_option linter.unusedSimpArgs false
set_option maxRecDepth 100000
noncomputable section
def sR(n:Nat)(p0:aA)(p1:Int):Option (aA×Int):=
 (dG n 2 ([p0]:List aA)).bind λy1=>
 cond (y1 !=0)
 (some ((aA.mk 0 ([]:List Row) ([]:List Kid)),y1))
 ((kQ n p0 p1).bind λy2=>
 jn (fun(b3:Bool)=>
 cond b3
 (some ((aA.mk 0 ([]:List Row) ([]:List Kid)),2))
 ((cO n p0.kids).bind λy5=>
 (pJ n p1 (IntKind.wrap .i64 (p1+1)) y5).bind λy6=>
 (eW n y6).bind λy7=>
 (mO n y7).bind λy8=>
 some (y8.1,y8.2))) λk4=>
 cond (!y2)
 (k4 true)
 ((eL n p0).bind λy9=>
 k4 (decide (y9<=2))))
@[reducible] def Ci:Ct tab:=⟨112,[.st 4,.one (.d (.int .i64))],[],[.st 4,.one (.d (.int .i64))],[],(aA×Int),λy=>(y.1,y.2,()),λy=>(y.1,y.2.1),λ_=>rfl,λn x=>sR n x.1 x.2.1⟩
theorem I4:OkC Tryz.prog tab Ci:=aQ (W:=⟨Tryz.prog,tab,bE,[dK,wI,eM,sQ,iH,nV,jG],bG,dpO,false⟩) ⟨aK,⟨eG,Cg,fQ,Ch,jY,sC,kZ,trivial⟩,aN⟩ (by kernel_rfl) 35 Tryz.f112 .n Tryz.func112 Tryz.call112 rfl (by kernel_rfl) (by kernel_rfl) (by kernel_rfl) λn x=>by kernel_rfl
def lL(n:Nat)(p0:Int):Option (aA×aA×Key×Int):=
 some ((aA.mk 0 ([]:List Row) ([]:List Kid)),(aA.mk 0 ([]:List Row) ([]:List Kid)),(Key.mk 0 0),p0)
@[reducible] def Bl:Ct tab:=⟨155,[.one (.d (.int .i64))],[],[.st 4,.st 4,.st 1,.one (.d (.int .i64))],[],(aA×aA×Key×Int),λy=>(y.1,y.2.1,y.2.2.1,y.2.2.2,()),λy=>(y.1,y.2.1,y.2.2.1,y.2.2.2.1),λ_=>rfl,λn x=>lL n x.1⟩
theorem H4:OkC Tryz.prog tab Bl:=aQ (W:=⟨Tryz.prog,tab,bE,[],bG,dpO,false⟩) ⟨aK,trivial,aN⟩ (by kernel_rfl) 10 Tryz.f155 .n Tryz.func155 Tryz.call155 rfl (by kernel_rfl) (by kernel_rfl) (by kernel_rfl) λn x=>by kernel_rfl
def rT(n:Nat):Nat->(List Kid)×Int×Int×aA×(List (Int×Bool))×Unit->Option Bool:=aW λr2 ⟨v6,v7,v8,v9,v10,_⟩=>
 cond (decide (v8<v7))
 ((idx v6 v8).bind λx11=>
 (oB .i64 false v10 x11.page).bind λw12=>
 jn (fun(b13:Bool)=>
 cond b13
 (some false)
 ((AQ .i64 v10 x11.page true).bind λl15=>
 r2 (v6,v7,(IntKind.wrap .i64 (v8+1)),v9,l15,()))) λk14=>
 cond w12
 (k14 true)
 (jn (fun(b16:Bool)=>
 k14 b16) λk17=>
 cond (decide (v8>0))
 ((idx v9.kids (IntKind.wrap .i64 (v8-1))).bind λx18=>
 (dU n x18.least x11.least).bind λy19=>
 k17 (decide (y19>=0)))
 (k17 false)))
 (some true)
def yQ(n:Nat):Nat->Int×aA×Unit->Option Bool:=aW λr1 ⟨v1,v2,_⟩=>
 cond (decide (v1<(v2.rows.length:Int)))
 ((idx v2.rows (IntKind.wrap .i64 (v1-1))).bind λx3=>
 (idx v2.rows v1).bind λx4=>
 (dU n x3.key x4.key).bind λy5=>
 cond (decide (y5>=0))
 (some false)
 (r1 ((IntKind.wrap .i64 (v1+1)),v2,())))
 (rT n n (v2.kids,(v2.kids.length:Int),0,v2,([]:List (Int×Bool)),()))
def EG(n:Nat)(p0:aA):Option Bool:=
 yQ n n (1,p0,())
@[reducible] def Eg:Ct tab:=⟨156,[.st 4],[],[.one (.d .bool)],[],Bool,λy=>(y,()),λy=>y.1,λ_=>rfl,λn x=>EG n x.1⟩
theorem K2:OkC Tryz.prog tab Eg:=aQ (W:=⟨Tryz.prog,tab,bE,[fA],bG,dpO,false⟩) ⟨aK,⟨gC,trivial⟩,aN⟩ (by kernel_rfl) 63 Tryz.f156 (.sq .n (.sq (.sq .n (.bk none (.lp ⟨[(1,.one (.box 0 0)),(3,.one (.d (.int .i64)))],[.bst 4],[]⟩ .n))) (.sq .n (.sq (.sq .n (.bk none (.lp ⟨[(1,.one (.box 0 0)),(4,.one (.map 1)),(31,.one (.d (.sl (.st 3)))),(32,.one (.d (.int .i64))),(33,.one (.d (.int .i64)))],[.bst 4,.map .i64 3 4 .bool],[]⟩ .n))) .n)))) Tryz.func156 Tryz.call156 rfl (by kernel_rfl) (by kernel_rfl) (by kernel_rfl) λn x=>by kernel_rfl
def yR(n:Nat):Key×aA×aA×Key×aA×aA×aA×Unit->Option (aA×aA×Key×Int):=fun⟨v28,v29,v30,v31,v32,v33,v34,_⟩=>
 (vR n ([v33,v34]:List aA)).bind λy35=>
 jn (fun(b36:Bool)=>
 cond b36
 ((lL n 2).bind λy38=>
 some (y38.1,y38.2.1,y38.2.2.1,y38.2.2.2))
 (some (v33,v34,v28,0))) λk37=>
 cond (y35 !=0)
 (k37 true)
 ((EG n v32).bind λy39=>
 k37 (!y39))
def yS(n:Nat):Int×aA×aA×Key×aA×aA×Key×Unit->Option (aA×aA×Key×Int):=fun⟨v11,v12,v13,v14,v15,v16,v17,_⟩=>
 (nY n v12 v13 v14).bind λy18=>
 jn (yR n) λj2=>
 cond (v12.kind==1)
 ((jJ n y18.rows v11).bind λy40=>
 cond ((y40.2.length:Int)==0)
 ((lL n 2).bind λy41=>
 some (y41.1,y41.2.1,y41.2.2.1,y41.2.2.2))
 ((fZ n y40.1).bind λy42=>
 (fZ n y40.2).bind λy43=>
 (idx y40.2 0).bind λx44=>
 j2 (x44.key,v15,v16,v17,y18,y42,y43,())))
 ((jK n y18.kids v11).bind λy45=>
 (qL n (Key.mk 0 0) y45.2).bind λy46=>
 (eW n y45.1).bind λy47=>
 (eW n y46.2).bind λy48=>
 j2 (y46.1,v15,v16,v17,y18,y47,y48,()))
def AL(n:Nat)(p0:aA)(p1:aA)(p2:Key):Option (aA×aA×Key×Int):=
 (dG n 0 ([p0,p1]:List aA)).bind λy1=>
 cond (y1 !=0)
 ((lL n y1).bind λy2=>
 some (y2.1,y2.2.1,y2.2.2.1,y2.2.2.2))
 ((wE n p0 p1).bind λy3=>
 jn (fun(b4:Bool)=>
 cond b4
 ((lL n 2).bind λy6=>
 some (y6.1,y6.2.1,y6.2.2.1,y6.2.2.2))
 ((eL n p0).bind λy7=>
 (eL n p0).bind λy8=>
 (eL n p1).bind λy9=>
 jn (yS n) λj1=>
 cond (decide (y8>y9))
 ((eL n p0).bind λy49=>
 j1 ((IntKind.wrap .i64 (y49-1)),p0,p1,p2,(aA.mk 0 ([]:List Row) ([]:List Kid)),(aA.mk 0 ([]:List Row) ([]:List Kid)),(Key.mk 0 0),()))
 (j1 ((IntKind.wrap .i64 (y7+1)),p0,p1,p2,(aA.mk 0 ([]:List Row) ([]:List Kid)),(aA.mk 0 ([]:List Row) ([]:List Kid)),(Key.mk 0 0),())))) λk5=>
 cond (!y3)
 (k5 true)
 ((eL n p0).bind λy50=>
 (eL n p1).bind λy51=>
 k5 (y50==y51)))
@[reducible] def Eh:Ct tab:=⟨113,[.st 4,.st 4,.st 1],[],[.st 4,.st 4,.st 1,.one (.d (.int .i64))],[],(aA×aA×Key×Int),λy=>(y.1,y.2.1,y.2.2.1,y.2.2.2,()),λy=>(y.1,y.2.1,y.2.2.1,y.2.2.2.1),λ_=>rfl,λn x=>AL n x.1 x.2.1 x.2.2.1⟩
theorem K3:OkC Tryz.prog tab Eh:=aQ (W:=⟨Tryz.prog,tab,bE,[dK,Bl,yP,jG,wH,xX,Eg,tG,lA,tH,rI,iH],bG,dpO,false⟩) ⟨aK,⟨eG,H4,Ef,kZ,Cf,DM,K2,Bf,oX,Bg,xV,jY,trivial⟩,aN⟩ (by kernel_rfl) 127 Tryz.f113 (.sq .n (.sq .n (.sq .n (.sq .n (.sq .n (.sq (.sq .n (.cd (some ⟨[(3,.one (.box 0 0)),(4,.one (.box 1 0)),(5,.one (.box 2 0)),(6,.one (.box 3 0)),(7,.one (.box 4 0)),(8,.one (.box 5 0)),(10,.one (.fn 155 [])),(12,.one (.d (.int .i64)))],[.bst 4,.bst 4,.bst 1,.bst 4,.bst 4,.bst 1],[]⟩) .n .n)) (.sq .n (.sq .n (.sq (.sq .n (.cd (some ⟨[(5,.one (.box 0 0)),(6,.one (.box 1 0)),(7,.one (.box 2 0)),(8,.one (.box 3 0)),(10,.one (.fn 155 [])),(13,.one (.box 4 0)),(14,.one (.box 5 0)),(15,.one (.box 6 0))],[.bst 1,.bst 4,.bst 4,.bst 1,.bst 4,.bst 4,.bst 4],[]⟩) (.sq .n (.sq .n (.rg [74,75]))) .n)) .n))))))))) Tryz.func113 Tryz.call113 rfl (by kernel_rfl) (by kernel_rfl) (by kernel_rfl) λn x=>by kernel_rfl
def CW(n:Nat)(p0:aA)(p1:Int)(p2:Key):Option (aA×Int):=
 (dG n 2 ([p0]:List aA)).bind λy1=>
 cond (y1 !=0)
 (some ((aA.mk 0 ([]:List Row) ([]:List Kid)),y1))
 ((kQ n p0 p1).bind λy2=>
 cond (!y2)
 (some ((aA.mk 0 ([]:List Row) ([]:List Kid)),2))
 ((cO n p0.kids).bind λy3=>
 (idx y3 p1).bind λx4=>
 (idx y3 p1).bind λx5=>
 (put y3 p1 (Kid.mk p2 x5.page)).bind λl6=>
 (eW n l6).bind λy7=>
 (mO n y7).bind λy8=>
 some (y8.1,y8.2)))
@[reducible] def FD:Ct tab:=⟨114,[.st 4,.one (.d (.int .i64)),.st 1],[],[.st 4,.one (.d (.int .i64))],[],(aA×Int),λy=>(y.1,y.2,()),λy=>(y.1,y.2.1),λ_=>rfl,λn x=>CW n x.1 x.2.1 x.2.2.1⟩
theorem Nz:OkC Tryz.prog tab FD:=aQ (W:=⟨Tryz.prog,tab,bE,[dK,wI,eM,iH,nV],bG,dpO,false⟩) ⟨aK,⟨eG,Cg,fQ,jY,sC,trivial⟩,aN⟩ (by kernel_rfl) 35 Tryz.f114 .n Tryz.func114 Tryz.call114 rfl (by kernel_rfl) (by kernel_rfl) (by kernel_rfl) λn x=>by kernel_rfl
def nP(n:Nat):Int×Int×aA×(List aA)×(List aG)×Unit->Option (Bool×(List aA)×(List aG)):=fun⟨v3,v4,v5,v6,v7,_⟩=>
 (idx v5.kids (IntKind.wrap .i64 (v4-1))).bind λx8=>
 (idx v5.kids v4).bind λx9=>
 (idx v5.kids v4).bind λx10=>
 (idx v6 x8.page).bind λx11=>
 (idx v6 x8.page).bind λx12=>
 (idx v6 x9.page).bind λx13=>
 (idx v6 x9.page).bind λx14=>
 (CV n x12 x14 x10.least).bind λy15=>
 cond (y15.2==0)
 (jn (fun(b16:Bool)=>
 cond b16
 ((bL n v6 v7 ([(aF.mk 0 y15.1),(aF.mk x8.page (aA.mk 0 ([]:List Row) ([]:List Kid))),(aF.mk x9.page (aA.mk 0 ([]:List Row) ([]:List Kid)))]:List aF)).bind λy18=>
 some (true,y18.1,y18.2))
 ((sR n v5 v4).bind λy19=>
 (bL n v6 v7 ([(aF.mk v3 y19.1),(aF.mk x8.page y15.1),(aF.mk x9.page (aA.mk 0 ([]:List Row) ([]:List Kid)))]:List aF)).bind λy20=>
 some (false,y20.1,y20.2))) λk17=>
 cond (v3==0)
 (k17 ((v5.kids.length:Int)==2))
 (k17 false))
 ((AL n x12 x14 x10.least).bind λy21=>
 (CW n v5 v4 y21.2.2.1).bind λy22=>
 (bL n v6 v7 ([(aF.mk v3 y22.1),(aF.mk x8.page y21.1),(aF.mk x9.page y21.2.1)]:List aF)).bind λy23=>
 some (false,y23.1,y23.2))
def nC(n:Nat)(p1:Int)(p2:Int)(q1:List aA)(q2:List aG):Option (Bool×(List aA)×(List aG)):=
 (idx q1 p1).bind λx1=>
 (idx q1 p1).bind λx2=>
 jn (nP n) λj1=>
 cond ((IntKind.wrap .i64 (p2+1))==(x2.kids.length:Int))
 (j1 (p1,p2,x2,q1,q2,()))
 (j1 (p1,(IntKind.wrap .i64 (p2+1)),x2,q1,q2,()))
@[reducible] def wJ:Ct tab:=⟨68,[.one (.box 0 0),.one (.d (.int .i64)),.one (.d (.int .i64))],[.box [.own 1,.own 2],.row 47 (.st 4),.row 74 (.st 7)],[.one (.d .bool)],[(some 0,.box [.own 1,.own 2]),(none,.row 47 (.st 4)),(none,.row 74 (.st 7))],(Bool×(List aA)×(List aG)),λy=>(y.1,y.2.1,y.2.2,()),λy=>(y.1,y.2.1,y.2.2.1),λ_=>rfl,λn x=>nC n x.1 x.2.1 x.2.2.1 x.2.2.2.1⟩
theorem EH:OkC Tryz.prog tab wJ:=aQ (W:=⟨Tryz.prog,tab,bE,[FC,dX,Ci,Eh,FD],bG,dpO,false⟩) ⟨aK,⟨Ny,fC,I4,K3,Nz,trivial⟩,aN⟩ (by kernel_rfl) 138 Tryz.f68 (.sq .n (.sq .n (.sq .n (.sq (.sq .n (.cd (some ⟨[(0,.one (.box 0 0)),(1,.one (.d (.int .i64))),(7,.one (.box 1 0)),(8,.one (.d (.int .i64)))],[.box [.own 2,.own 3],.bst 4,.row 47 (.st 4),.row 74 (.st 7)],[(0,0)]⟩) .n .n)) .n)))) Tryz.func68 Tryz.call68 rfl (by kernel_rfl) (by kernel_rfl) (by kernel_rfl) λn x=>by kernel_rfl
theorem Bv{a0:Option Addr}{c0:Nat}(p0:List (Raw 4))(p1 p2:Int)(r:List (Raw 4))(h:Dx p0 p1 p2=some r):
  Bm Tryz.prog 115 #[.slice a0 p0.length c0,.int .i64 p1,.int .i64 p2] [bC (aB 4) 40 a0 c0 p0] [] λv A P=>∃(a:Option Addr) (c:Nat),v= .slice a r.length c/\A=[bC (aB 4) 40 a c r]/\P=[]:=by
 unfold Dx at h
 split at h
 case isFalse=>cases h
 rename_i hb
 obtain⟨hb0,hb1,hb2⟩:=hb
 obtain rfl:=Sw h
 obtain⟨i,hi⟩:∃i:Nat,p1=(i:Int):=⟨p1.toNat,by omega⟩
 obtain⟨j,hj⟩:∃j:Nat,p2=(j:Int):=⟨p2.toNat,by omega⟩
 subst hi hj
 simp only[Int.toNat_natCast]
 have hij:i<=j:=by omega
 have hjl:j<=p0.length:=by omega
 refine oE 33 Tryz.func115 Tryz.call115 rfl (by kernel_rfl) (by simp) λC a w hS=> ?_
 have hc:p0.length<=c0:=(C6 (hS.st.own _ (List.mem_cons_self ..))).2.1
 refine bN (by kernel_rfl) λK1 hK1=> ?_
 refine bX 1 (by kernel_rfl) ?_
 refine bU 0 1 [0,1,2] [] hS rfl (L':=[(0,.slice a0 p0.length c0),(1,.int .i64 i),(2,.int .i64 j)]) (As':=[bC (aB 4) 40 a0 c0 p0]) (ob:=[]) (by kernel_rfl) trivial λa w hS=> ?_
 refine bF ?_
 refine hK1 _ _ ?_
 refine bN (by kernel_rfl) λK2 hK2=> ?_
 refine bX 6 (by kernel_rfl) ?_
 refine bU 0 6 [0,1,2] [] hS rfl (L':=[(0,.slice a0 p0.length c0),(1,.int .i64 i),(2,.int .i64 j)]) (As':=[bC (aB 4) 40 a0 c0 p0]) (ob:=[λ_=>0<=(i:Int)/\(i:Int)<=(j:Int)/\(j:Int)<=(p0.length:Int)/\(p0.length:Int)<=(c0:Int)]) (by kernel_rfl) ⟨Bx.c ⟨hb0,hb1,hb2,by omega⟩,trivial⟩ λa w hS=> ?_
 refine bF ?_
 refine hK2 _ _ ?_
 refine bN (by kernel_rfl) λK3 hK3=> ?_
 refine bN (by kernel_rfl) λK4 hK4=> ?_
 refine bX 3 (by kernel_rfl) ?_
 refine bU 0 3 [0,1,2,16] [] hS rfl (L':=[(0,.slice a0 p0.length c0),(1,.int .i64 i),(2,.int .i64 j),(16,.bool ((i:Int)==(j:Int)))]) (As':=[bC (aB 4) 40 a0 c0 p0]) (ob:=[]) (by kernel_rfl) trivial λa w hS=> ?_
 refine bF ?_
 refine hK4 _ _ ?_
 refine oP ((i:Int)==(j:Int)) hS.has (by kernel_rfl) (by kernel_rfl) (by kernel_rfl) (λhq=> ?_) (λhq=> ?_)
 ·have hij:i=j:=by
   have:=of_decide_eq_true (p:=(i:Int)=(j:Int)) (by simpa using hq)
   omega
  subst hij
  refine bN (by kernel_rfl) λK5 hK5=> ?_
  refine bX 2 (by kernel_rfl) ?_
  refine bU 0 2 [6] [] hS rfl (L':=[(6,.slice a0 p0.length c0)]) (As':=[bC (aB 4) 40 a0 c0 p0]) (ob:=[]) (by kernel_rfl) trivial λa w hS=> ?_
  refine bF ?_
  refine hK5 _ _ ?_
  refine tQ (by kernel_rfl) ?_
  try simp only[Exit.then,Exit.inBlock]
  refine uB hS [.tmp 6] [] (xs:=[.slice a0 p0.length c0]) (ps:=[]) [0] [] rfl (by kernel_rfl) (λhA=>trivial) rfl (λF up=>trivial) ?_
  rw[List.take_append_drop]
  exact⟨a0,c0,rfl,rfl,rfl⟩
 ·have hne:i≠j:=λe=>by
   subst e
   simp at hq
  have hlt:i<j:=by omega
  obtain⟨g,rfl⟩:=qX (hS.st.own _ (List.mem_cons_self ..)) (by omega)
  refine tC (by kernel_rfl) ?_
  refine hK3 _ _ ?_
  refine bN (by kernel_rfl) λK5 hK5=> ?_
  refine bX 3 (by kernel_rfl) ?_
  refine bU 0 3 [0,1,2,7] [] hS rfl (L':=[(0,.slice (some ⟨g,0,none⟩) p0.length c0),(1,.int .i64 i),(2,.int .i64 j),(7,.int .i64 (p0.length:Int))]) (As':=[bC (aB 4) 40 (some ⟨g,0,none⟩) c0 p0]) (ob:=[]) (by kernel_rfl) trivial λa w hS=> ?_
  refine bF ?_
  refine hK5 _ _ ?_
  refine bN (by kernel_rfl) λK6 hK6=> ?_
  refine Gm 6 8 [.val (.slice (some ⟨g,0,none⟩) p0.length c0),.val (.int .i64 i),.val (.slice (slA (some ⟨g,0,none⟩) 0 c0 ((aB 4)).sz) i c0),.val (.slice (some ⟨g,0,none⟩) p0.length c0),.val (.int .i64 j),.val (.slice (slA (some ⟨g,0,none⟩) j c0 ((aB 4)).sz) (p0.length-j) (c0-j))] [] [(0,[]),(1,[]),(2,[]),(3,[]),(4,[]),(5,[])] [] (ob:=[λ_=>(0:Int)<=0/\(0:Int)<=(i:Int)/\(i:Int)<=(c0:Int),λ_=>0<=(j:Int)/\(j:Int)<=(p0.length:Int)/\(p0.length:Int)<=(c0:Int)]) (by kernel_rfl) (by kernel_rfl) hS (by kernel_rfl) (λF N0=>by kernel_rfl) (by kernel_rfl) (by kernel_rfl) (by kernel_rfl) (by kernel_rfl) ⟨Bx.c ⟨by omega,by omega,by omega⟩,Bx.c ⟨by omega,by omega,by omega⟩,trivial⟩ ?_ ?_
  ·exact trivial
  intro V a w e hS hq
  refine tM 6 rfl 0 (.row (some ⟨g,0,none⟩) c0 40 ((aB 4)).sz (i+(p0.length-j)) ((p0.flatMap ((aB 4)).enc).take (i*((aB 4)).sz)++(p0.flatMap ((aB 4)).enc).drop (j*((aB 4)).sz))) (d:=some 26) (b:= .append) (ts:= #[30,30]) (ty:=30) (vs:= #[.slice (slA (some ⟨g,0,none⟩) 0 c0 ((aB 4)).sz) i c0,.slice (slA (some ⟨g,0,none⟩) j c0 ((aB 4)).sz) (p0.length-j) (c0-j)]) hS (by kernel_rfl) rfl (λhA=>HK (t:=30) (ty:=30) (inf:=Tryz.t40) (by kernel_rfl) (by kernel_rfl) rfl hA (vK p0) hij hjl) rfl (by simp[Asn.fp]) λa w hS=> ?_
  have hn':p0.length-(i+(p0.length-j))=j-i:=by omega
  have hs0:slA (some (⟨g,0,none⟩:Addr)) (i+(p0.length-j)) c0 ((aB 4)).sz=some ⟨g,(i+(p0.length-j))*((aB 4)).sz,none⟩:=by
   unfold slA;rw[if_neg (by omega)];simp only[Option.map_some,dJ]
  refine bU 7 1 [0,7] [] hS rfl (L':=[(0,.slice (some ⟨g,0,none⟩) (i+(p0.length-j)) c0),(7,.int .i64 (p0.length:Int))]) (As':=[.row (some ⟨g,0,none⟩) c0 40 ((aB 4)).sz (i+(p0.length-j)) ((p0.flatMap ((aB 4)).enc).take (i*((aB 4)).sz)++(p0.flatMap ((aB 4)).enc).drop (j*((aB 4)).sz))]) (ob:=[]) (by kernel_rfl) trivial λa w hS=> ?_
  refine bF ?_
  refine hK6 _ _ ?_
  refine bN (by kernel_rfl) λK7 hK7=> ?_
  refine bX 6 (by kernel_rfl) ?_
  refine bU 0 5 [0,31] [.as 31 (.slice (some ⟨g,(i+(p0.length-j))*((aB 4)).sz,none⟩) (j-i) (c0-(i+(p0.length-j))))] hS rfl (L':=[(0,.slice (some ⟨g,0,none⟩) (i+(p0.length-j)) c0),(31,.slice (some ⟨g,(i+(p0.length-j))*((aB 4)).sz,none⟩) (j-i) (c0-(i+(p0.length-j))))]) (As':=[.row (some ⟨g,0,none⟩) c0 40 ((aB 4)).sz (i+(p0.length-j)) ((p0.flatMap ((aB 4)).enc).take (i*((aB 4)).sz)++(p0.flatMap ((aB 4)).enc).drop (j*((aB 4)).sz))]) (ob:=[λ_=>0<=((i+(p0.length-j):Nat):Int)/\((i+(p0.length-j):Nat):Int)<=(p0.length:Int)/\(p0.length:Int)<=(c0:Int),λ_=>Value.slice (slA (some ⟨g,0,none⟩) (i+(p0.length-j)) c0 ((aB 4)).sz) (p0.length-(i+(p0.length-j))) (c0-(i+(p0.length-j)))= .slice (some ⟨g,(i+(p0.length-j))*((aB 4)).sz,none⟩) (j-i) (c0-(i+(p0.length-j)))]) (by kernel_rfl) ⟨Bx.c ⟨by omega,by omega,by omega⟩,Bx.c (by rw[hs0,hn']),trivial⟩ λa w hS=> ?_
  obtain⟨ds,hd1,hd2,hd3,hd4⟩:=FT (hS.st.own _ (List.mem_cons_self ..))
  replace hS:=hS.same (B:= .row (some ⟨g,0,none⟩) c0 40 ((aB 4)).sz c0 ds) 0 rfl (λ_=>hd4) rfl (by simp[Asn.fp])
  refine tM 5 rfl 0 (.row (some ⟨g,0,none⟩) c0 40 ((aB 4)).sz c0 (spl ds ((i+(p0.length-j))*((aB 4)).sz) (Builtin.zeroCells ((Tryz.t40.zero).getD undef).cells (j-i)).toList)) (d:=none) (b:= .clear) (ts:= #[30]) (ty:=0) (vs:= #[.slice (some ⟨g,(i+(p0.length-j))*((aB 4)).sz,none⟩) (j-i) (c0-(i+(p0.length-j)))]) hS (by kernel_rfl) rfl (λhA=>Ei (t:=30) (ty:=0) (inf:=Tryz.t40) (by kernel_rfl) (by kernel_rfl) (by kernel_rfl) (by kernel_rfl) (Ew (by kernel_rfl)) hA (by rw[<-Nat.add_mul];exact Nat.mul_le_mul_right _ (by omega))) rfl (by simp[Asn.fp]) λa w hS=> ?_
  have hcut:(spl ds ((i+(p0.length-j))*((aB 4)).sz) (Builtin.zeroCells ((Tryz.t40.zero).getD undef).cells (j-i)).toList).take ((i+(p0.length-j))*((aB 4)).sz)=(p0.take i++p0.drop j).flatMap ((aB 4)).enc:=by
   have hle:(i+(p0.length-j))*((aB 4)).sz<=ds.length:=by rw[hd2];exact Nat.mul_le_mul_right _ hd3
   unfold spl
   rw[List.append_assoc,List.take_left' (by rw[List.length_take];omega),hd1,List.flatMap_append,zC,zD]
  have hlen:(p0.take i++p0.drop j).length=i+(p0.length-j):=by simp;omega
  replace hS:=hS.same (B:=bC (aB 4) 40 (some ⟨g,0,none⟩) c0 (p0.take i++p0.drop j)) 0 rfl (λhA=>by
   have:=N8 hA (i+(p0.length-j)) (by omega)
   rw[hcut] at this
   unfold bC
   rw[hlen]
   exact this) rfl (by simp[Asn.fp])
  refine bF ?_
  refine hK7 _ _ ?_
  refine bN (by kernel_rfl) λK8 hK8=> ?_
  refine bX 2 (by kernel_rfl) ?_
  refine bU 0 2 [6] [] hS rfl (L':=[(6,.slice (some ⟨g,0,none⟩) (i+(p0.length-j)) c0)]) (As':=[bC (aB 4) 40 (some ⟨g,0,none⟩) c0 (p0.take i++p0.drop j)]) (ob:=[]) (by kernel_rfl) trivial λa w hS=> ?_
  refine bF ?_
  refine hK8 _ _ ?_
  refine tQ (by kernel_rfl) ?_
  try simp only[Exit.then,Exit.inBlock]
  refine uB hS [.tmp 6] [] (xs:=[.slice (some ⟨g,0,none⟩) (i+(p0.length-j)) c0]) (ps:=[]) [0] [] rfl (by kernel_rfl) (λhA=>trivial) rfl (λF up=>trivial) ?_
  exact⟨some ⟨g,0,none⟩,c0,by rw[hlen];rfl,rfl,rfl⟩
def pK(n:Nat)(p1 p2:Int)(q0:List Row):Option (List Row):=Dx q0 p1 p2
@[reducible] def sS:Ct tab:=⟨115,[.one (.own 0),.one (.d (.int .i64)),.one (.d (.int .i64))],[.row 40 (.st 2)],[.one (.own 0)],[(none,.row 40 (.st 2))],List Row,λy=>(y,()),λy=>y.1,λ_=>rfl,λn x=>pK n x.1 x.2.1 x.2.2.1⟩
theorem Cj:OkC Tryz.prog tab sS:=Vz (t:= .st 2) (m:=4) aK rfl Tryz.call115 λp0 p1 p2 r h=>Bv p0 p1 p2 r h
def zN(n:Nat)(p0:aA)(p1:Key):Option (aA×Row×Int):=
 (BN n p0 p1).bind λy1=>
 cond (y1.2 !=0)
 (some ((aA.mk 0 ([]:List Row) ([]:List Kid)),(Row.mk (Key.mk 0 0) 0 ByteArray.empty),y1.2))
 ((zL n p0.rows p1).bind λy2=>
 (dV n p0.rows).bind λy3=>
 (pK n y2.1 (IntKind.wrap .i64 (y2.1+1)) y3).bind λy4=>
 (fZ n y4).bind λy5=>
 some (y5,y1.1,0))
@[reducible] def FE:Ct tab:=⟨69,[.st 4,.st 1],[],[.st 4,.st 2,.one (.d (.int .i64))],[],(aA×Row×Int),λy=>(y.1,y.2.1,y.2.2,()),λy=>(y.1,y.2.1,y.2.2.1),λ_=>rfl,λn x=>zN n x.1 x.2.1⟩
theorem NA:OkC Tryz.prog tab FE:=aQ (W:=⟨Tryz.prog,tab,bE,[BO,xG,iP,sS,lA],bG,dpO,false⟩) ⟨aK,⟨Hp,BM,lS,Cj,oX,trivial⟩,aN⟩ (by kernel_rfl) 38 Tryz.f69 .n Tryz.func69 Tryz.call69 rfl (by kernel_rfl) (by kernel_rfl) (by kernel_rfl) λn x=>by kernel_rfl
def FF(n:Nat)(r1:Int×Key×Row×Row×(List aA)×(List aG)×Unit->Option (Row×Int×(List aG))):Int×Key×Row×Row×(List aA)×(List aG)×Unit->Option (Row×Int×(List aG)):=fun⟨v23,v24,v25,v26,v27,v28,_⟩=>
 r1 (v23,v24,v25,v26,v27,v28,())
def pL(n:Nat):Nat->Int×Key×Row×Row×(List aA)×(List aG)×Unit->Option (Row×Int×(List aG)):=aW λr1 ⟨v3,v4,v5,v6,v7,v8,_⟩=>
 (idx v7 v3).bind λx9=>
 (idx v7 v3).bind λx10=>
 cond (x10.kind==2)
 (jn (FF n r1) λj2=>
 (idx v7 v3).bind λx29=>
 (idx v7 v3).bind λx30=>
 (kI n x30 v4).bind λy31=>
 (idx v7 v3).bind λx32=>
 (idx v7 v3).bind λx33=>
 (idx x33.kids y31.1).bind λx34=>
 (idx v7 x34.page).bind λx35=>
 (idx v7 x34.page).bind λx36=>
 (wD n x36).bind λy37=>
 cond y37
 ((nC n v3 y31.1 v7 v8).bind λy38=>
 cond y38.1
 (j2 (v3,v4,v5,v6,y38.2.1,y38.2.2,()))
 ((aY n (bQ.mk (aC.mk y38.2.1) y38.2.2) v3 v4).bind λy39=>
 j2 (y39,v4,v5,v6,y38.2.1,y38.2.2,())))
 (cond false
 (j2 (v3,v4,v5,v6,v7,v8,()))
 ((aY n (bQ.mk (aC.mk v7) v8) v3 v4).bind λy40=>
 j2 (y40,v4,v5,v6,v7,v8,()))))
 ((idx v7 v3).bind λx41=>
 (idx v7 v3).bind λx42=>
 (zN n x42 v4).bind λy43=>
 (bL n v7 v8 ([(aF.mk v3 y43.1)]:List aF)).bind λy44=>
 some (v6,0,y44.2))
def vC(n:Nat)(p0:aC)(p1:Key):Option (Row×Int×(List aG)):=
 (FB n p0 p1).bind λy1=>
 cond (y1.2 !=0)
 (some ((Row.mk (Key.mk 0 0) 0 ByteArray.empty),y1.2,([]:List aG)))
 ((kH n p0).bind λy2=>
 pL n n (0,p1,(Row.mk (Key.mk 0 0) 0 ByteArray.empty),y1.1,y2.1,y2.2,()))
@[reducible] def FG:Ct tab:=⟨33,[.st 5,.st 1],[],[.one (.own 0),.st 2,.one (.d (.int .i64))],[(none,.row 74 (.st 7))],(Row×Int×(List aG)),λy=>(y.1,y.2.1,y.2.2,()),λy=>(y.1,y.2.1,y.2.2.1),λ_=>rfl,λn x=>vC n x.1 x.2.1⟩
theorem NB:OkC Tryz.prog tab FG:=aQ (W:=⟨Tryz.prog,tab,bE,[Hw,rH,rZ,Ee,wJ,lR,FE,dX],bG,dpO,false⟩) ⟨aK,⟨Pa,xU,xF,K1,EH,tT,NA,fC,trivial⟩,aN⟩ (by kernel_rfl) 107 Tryz.f33 (.sq .n (.sq .n (.sq .n (.sq .n (.sq (.bk none (.lp ⟨[(3,.one (.box 0 0)),(5,.one (.box 1 0)),(7,.one (.box 2 0)),(9,.one (.box 3 0)),(10,.one (.d (.int .i64)))],[.bst 1,.bst 2,.bst 2,.box [.own 4,.own 5],.row 47 (.st 4),.row 74 (.st 7)],[]⟩ (.sq .n (.bk (some ⟨[(3,.one (.box 0 0)),(5,.one (.box 1 0)),(7,.one (.box 2 0)),(9,.one (.box 3 0)),(10,.one (.d (.int .i64)))],[.bst 1,.bst 2,.bst 2,.box [.own 4,.own 5],.row 47 (.st 4),.row 74 (.st 7)],[]⟩) (.sq .n (.sq (.sq (.rg [1000000]) .n) .n)))))) .n))))) Tryz.func33 Tryz.call33 rfl (by kernel_rfl) (by kernel_rfl) (by kernel_rfl) λn x=>by kernel_rfl
def slices_Sort_int(n:Nat)(q0:List Int):Option (List Int):=match Nat.ble q0.length 4611686018427387903 with|true=>some (jD q0)|false=>none
@[reducible] def wK:Ct tab:=S1 tab 75 3
theorem EI:OkC Tryz.prog tab wK:=aal Tryz.call75 ⟨λblk cap zs w hH hblk hlen=>Go.Proofs.AnyM.slices_Sort_int Tryz.sl75 blk 0 cap zs w hH hblk hlen,λp cap w=>Go.Proofs.AnyM.slices_Sort_int_none Tryz.sl75 p cap w⟩
def Hx(n:Nat)(r2:(List aG)×Int×Int×(List aF)×Int×Int×(List (Int×aA))×(List Int)×Unit->Option ((List aF))):(List aG)×Int×Int×(List aF)×Int×Int×(List (Int×aA))×(List Int)×aF×Unit->Option ((List aF)):=fun⟨v18,v19,v20,v21,v22,v23,v24,v25,v26,_⟩=>
 (some (E4 (pX tab (.int .i64)) v24 v26.page v26.content)).bind λl27=>
 r2 (v18,v19,v20,v21,v22,(IntKind.wrap .i64 (v23+1)),l27,v25,())
def xK(n:Nat)(r1:(List aG)×Int×Int×(List (Int×aA))×(List Int)×Unit->Option ((List aF))):Nat->(List aG)×Int×Int×(List aF)×Int×Int×(List (Int×aA))×(List Int)×Unit->Option ((List aF)):=aW λr2 ⟨v7,v8,v9,v10,v11,v12,v13,v14,_⟩=>
 cond (decide (v12<v11))
 ((idx v10 v12).bind λx15=>
 (some (orZ (aA.mk 0 ([]:List Row) ([]:List Kid)) (A8 (pX tab (.int .i64)) v13 x15.page))).bind λw16=>
 jn (Hx n r2) λj3=>
 cond (!(Xy (A8 (pX tab (.int .i64)) v13 x15.page)))
 ((app 8 v14 ([x15.page]:List Int)).bind λl28=>
 j3 (v7,v8,v9,v10,v11,v12,v13,l28,x15,()))
 (j3 (v7,v8,v9,v10,v11,v12,v13,v14,x15,())))
 (r1 (v7,v8,(IntKind.wrap .i64 (v9+1)),v13,v14,()))
def sU(n:Nat):Nat->Int×Int×(List (Int×aA))×(List aF)×(List Int)×Unit->Option ((List aF)):=aW λr4 ⟨v30,v31,v32,v33,v34,_⟩=>
 cond (decide (v31<v30))
 ((idx v34 v31).bind λx35=>
 (idx v34 v31).bind λx36=>
 (some (orZ (aA.mk 0 ([]:List Row) ([]:List Kid)) (A8 (pX tab (.int .i64)) v32 x36))).bind λw37=>
 (app 64 v33 ([(aF.mk x36 w37)]:List aF)).bind λl38=>
 r4 (v30,(IntKind.wrap .i64 (v31+1)),v32,l38,v34,()))
 (some v33)
def xL(n:Nat):Nat->(List aG)×Int×Int×(List (Int×aA))×(List Int)×Unit->Option ((List aF)):=aW λr1 ⟨v1,v2,v3,v4,v5,_⟩=>
 cond (decide (v3<v2))
 ((idx v1 v3).bind λx6=>
 xK n r1 n (v1,v2,v3,x6.sheets,(x6.sheets.length:Int),0,v4,v5,()))
 ((slices_Sort_int n v5).bind λy29=>
 sU n n ((y29.length:Int),0,v4,([]:List aF),y29,()))
def Ck(n:Nat)(p0:List aG):Option ((List aF)):=
 xL n n (p0,(p0.length:Int),0,([]:List (Int×aA)),([]:List Int),())
@[reducible] def Hy:Ct tab:=⟨41,[.one (.d (.sl (.st 7)))],[],[.one (.own 0)],[(none,.row 76 (.st 6))],((List aF)),λy=>(y,()),λy=>y.1,λ_=>rfl,λn x=>Ck n x.1⟩
theorem Pb:OkC Tryz.prog tab Hy:=aQ (W:=⟨Tryz.prog,tab,bE,[wK],bG,dpO,false⟩) ⟨aK,⟨EI,trivial⟩,aN⟩ (by kernel_rfl) 67 Tryz.f41 (.sq .n (.sq .n (.sq .n (.sq (.sq .n (.bk none (.lp ⟨[(3,.one (.map 0)),(4,.one (.own 1)),(15,.one (.d (.sl (.st 7)))),(16,.one (.d (.int .i64))),(17,.one (.d (.int .i64)))],[.dmap 3 47 (.int .i64) (.st 4),.row 3 (.int .i64)],[]⟩ (.sq .n (.sq .n (.sq (.bk none (.sq .n (.sq .n (.bk none (.lp ⟨[(3,.one (.map 0)),(4,.one (.own 1)),(15,.one (.d (.sl (.st 7)))),(16,.one (.d (.int .i64))),(17,.one (.d (.int .i64))),(22,.one (.d (.sl (.st 6)))),(23,.one (.d (.int .i64))),(24,.one (.d (.int .i64)))],[.dmap 3 47 (.int .i64) (.st 4),.row 3 (.int .i64)],[]⟩ (.sq .n (.sq .n (.sq (.bk none (.sq .n (.sq (.sq .n (.sq .n (.cd (some ⟨[(3,.one (.map 0)),(4,.one (.own 1)),(8,.one (.box 2 0)),(15,.one (.d (.sl (.st 7)))),(16,.one (.d (.int .i64))),(17,.one (.d (.int .i64))),(22,.one (.d (.sl (.st 6)))),(23,.one (.d (.int .i64))),(24,.one (.d (.int .i64)))],[.dmap 3 47 (.int .i64) (.st 4),.row 3 (.int .i64),.bst 6],[]⟩) .n .n))) .n))) .n)))))))) .n)))))) (.sq .n (.sq .n (.sq (.sq .n (.bk none (.lp ⟨[(3,.one (.map 0)),(11,.one (.own 1)),(51,.one (.own 2)),(52,.one (.d (.int .i64))),(53,.one (.d (.int .i64)))],[.dmap 3 47 (.int .i64) (.st 4),.row 76 (.st 6),.row 3 (.int .i64)],[]⟩ .n))) .n))))))) Tryz.func41 Tryz.call41 rfl (by kernel_rfl) (by kernel_rfl) (by kernel_rfl) λn x=>by kernel_rfl
def mD(n:Nat)(r2:Bool×(List Row)×Int×Int×Row×aC×(List aG)×aC×(List (Int×Bool))×Unit->Option Bool):Bool×(List Row)×(List Row)×Int×Int×Row×aC×(List aG)×aC×(List (Int×Bool))×aC×(List Row)×Unit->Option Bool:=fun⟨v68,v69,v70,v71,v72,v73,v74,v75,v76,v77,v78,v79,_⟩=>
 (wC n v79 v70).bind λy80=>
 cond (!y80)
 (some false)
 (r2 (v68,v69,v71,(IntKind.wrap .i64 (v72+1)),v73,v74,v75,v78,v77,()))
def tY(n:Nat)(j4:Bool×(List Row)×(List Row)×Int×Int×Row×aC×(List aG)×aC×(List (Int×Bool))×aC×(List Row)×Unit->Option Bool):Bool×(List Row)×Int×Int×Row×aC×(List aG)×aC×(List (Int×Bool))×aG×aC×(List Row)×(List Row)×Unit->Option Bool:=fun⟨v83,v84,v85,v86,v87,v88,v89,v90,v91,v92,v93,v94,v95,_⟩=>
 cond ((v92.sheets.length:Int) !=1)
 (some false)
 (j4 (v83,v84,v95,v85,v86,v87,v88,v89,v90,v91,v93,v94,()))
def bW(n:Nat)(r2:Bool×(List Row)×Int×Int×Row×aC×(List aG)×aC×(List (Int×Bool))×Unit->Option Bool):Nat->Bool×(List Row)×Int×Int×Int×(List aF)×Int×Int×Row×aC×(List aG)×aC×(List (Int×Bool))×aG×Unit->Option Bool:=aW λr3 ⟨v31,v32,v33,v34,v35,v36,v37,v38,v39,v40,v41,v42,v43,v44,_⟩=>
 cond (decide (v38<v37))
 ((idx v36 v38).bind λx45=>
 (AQ .i64 v43 x45.page true).bind λl46=>
 jn (fun(b47:Bool)=>
 cond b47
 (some false)
 (r3 (v31,v32,v33,v34,v35,v36,v37,(IntKind.wrap .i64 (v38+1)),v39,v40,v41,v42,l46,v44,()))) λk48=>
 cond (decide (v38>0))
 ((idx v44.sheets (IntKind.wrap .i64 (v38-1))).bind λx49=>
 k48 (decide (x49.page>=x45.page)))
 (k48 false))
 ((fN n v42 ([v44]:List aG)).bind λy50=>
 cond (y50.2 !=0)
 (some false)
 ((vB n y50.1).bind λy51=>
 cond (y51.1 !=0)
 (some false)
 (jn (mD n r2) λj4=>
 cond (v33==(IntKind.wrap .i64 ((v41.length:Int)-1)))
 ((wB n v32 v39).bind λy81=>
 jn (tY n j4) λj5=>
 cond v31
 ((mP n v32 v39.key).bind λy96=>
 j5 (v31,v32,v34,v35,v39,v40,v41,v42,v43,v44,y50.1,y51.2,y96,()))
 (j5 (v31,v32,v34,v35,v39,v40,v41,v42,v43,v44,y50.1,y51.2,y81,())))
 (j4 (v31,v32,v32,v34,v35,v39,v40,v41,v42,v43,y50.1,y51.2,())))))
def fS(n:Nat):Nat->Bool×(List Row)×Int×Int×Row×aC×(List aG)×aC×(List (Int×Bool))×Unit->Option Bool:=aW λr2 ⟨v20,v21,v22,v23,v24,v25,v26,v27,v28,_⟩=>
 cond (decide (v23<v22))
 ((idx v26 v23).bind λx29=>
 (idx v26 v23).bind λx30=>
 bW n r2 n (v20,v21,v23,v22,v23,x30.sheets,(x30.sheets.length:Int),0,v24,v25,v26,v27,v28,x30,()))
 ((Ck n v26).bind λy97=>
 (fN n v25 ([(aG.mk y97)]:List aG)).bind λy98=>
 jn (fun(b99:Bool)=>
 jn (fun(b101:Bool)=>
 some b101) λk102=>
 cond b99
 (k102 (decide (((qH v28).length:Int)<=12)))
 (k102 false)) λk100=>
 cond (y98.2==0)
 ((CU n y98.1 v27).bind λy103=>
 k100 y103)
 (k100 false))
def mF(n:Nat):Bool×Int×Row×aC×(List Row)×(List aG)×Unit->Option Bool:=fun⟨v6,v7,v8,v9,v10,v11,_⟩=>
 cond (v7 !=0)
 (jn (fun(b12:Bool)=>
 some b12) λk13=>
 cond ((v11.length:Int)==0)
 (jn (fun(b14:Bool)=>
 jn (fun(b16:Bool)=>
 k13 b16) λk17=>
 cond b14
 (k17 true)
 (jn (fun(b18:Bool)=>
 k17 b18) λk19=>
 cond (v7==6)
 (k19 (decide ((v10.length:Int)>=60)))
 (k19 false))) λk15=>
 cond (v7==4)
 (k15 true)
 (k15 (v7==151)))
 (k13 false))
 (fS n n (v6,v10,(v11.length:Int),0,v8,v9,v11,v9,([]:List (Int×Bool)),()))
def qT(n:Nat)(p0:oI)(p1:Row)(p2:Bool):Option Bool:=
 (xH n).bind λy1=>
 cond (!y1)
 (some false)
 (cond (decide ((p1.note.size:Int)>100))
 (some true)
 ((kE n p0).bind λy2=>
 (vB n y2).bind λy3=>
 cond (y3.1 !=0)
 (some false)
 (jn (mF n) λj1=>
 cond p2
 ((vC n y2 p1.key).bind λy104=>
 j1 (p2,y104.2.1,p1,y2,y3.2,y104.2.2,()))
 ((pB n y2 p1).bind λy105=>
 j1 (p2,y105.1,p1,y2,y3.2,y105.2,())))))
@[reducible] def Dv:Ct tab:=⟨10,[.st 0,.st 2,.one (.d .bool)],[],[.one (.d .bool)],[],Bool,λy=>(y,()),λy=>y.1,λ_=>rfl,λn x=>qT n x.1 x.2.1 x.2.2.1⟩
theorem Dw:OkC Tryz.prog tab Dv:=aQ (W:=⟨Tryz.prog,tab,bE,[B2,sL,AE,xY,Ed,yN,lF,Hy,FA,FG,BX],bG,dpO,false⟩) ⟨aK,⟨IZ,Cc,Fl,DQ,K0,Eb,qR,Pb,Nx,NB,Hv,trivial⟩,aN⟩ (by kernel_rfl) 170 Tryz.f10 (.sq .n (.sq .n (.sq .n (.sq .n (.sq .n (.sq .n (.sq .n (.sq (.sq .n (.cd (some ⟨[(2,.one (.d .bool)),(4,.one (.box 0 0)),(7,.one (.box 1 0)),(8,.one (.own 2)),(9,.one (.d (.int .i64))),(10,.one (.own 3))],[.bst 2,.bst 5,.row 40 (.st 2),.row 74 (.st 7)],[]⟩) .n .n)) (.sq .n (.sq .n (.sq .n (.sq (.sq .n (.bk none (.lp ⟨[(2,.one (.d .bool)),(4,.one (.box 0 0)),(7,.one (.box 1 0)),(8,.one (.d (.sl (.st 2)))),(10,.one (.own 2)),(11,.one (.box 3 0)),(12,.one (.map 4)),(76,.one (.own 2)),(77,.one (.d (.int .i64))),(78,.one (.d (.int .i64)))],[.bst 2,.bst 5,.row 74 (.st 7),.bst 5,.map .i64 3 4 .bool],[]⟩ (.sq .n (.sq .n (.sq (.bk none (.sq .n (.sq (.sq .n (.bk none (.lp ⟨[(2,.one (.d .bool)),(4,.one (.box 0 0)),(7,.one (.box 1 0)),(8,.one (.d (.sl (.st 2)))),(10,.one (.own 2)),(11,.one (.box 3 0)),(12,.one (.map 4)),(13,.one (.d (.int .i64))),(14,.one (.box 5 0)),(76,.one (.own 2)),(77,.one (.d (.int .i64))),(78,.one (.d (.int .i64))),(84,.one (.d (.sl (.st 6)))),(85,.one (.d (.int .i64))),(86,.one (.d (.int .i64)))],[.bst 2,.bst 5,.row 74 (.st 7),.bst 5,.map .i64 3 4 .bool,.bst 7],[]⟩ .n))) (.sq .n (.sq .n (.sq .n (.sq .n (.sq .n (.sq (.sq .n (.cd (some ⟨[(2,.one (.d .bool)),(4,.one (.box 0 0)),(7,.one (.box 1 0)),(8,.one (.d (.sl (.st 2)))),(10,.one (.own 2)),(11,.one (.box 3 0)),(12,.one (.map 4)),(17,.one (.box 5 0)),(19,.one (.own 6)),(20,.one (.d (.sl (.st 2)))),(76,.one (.own 2)),(77,.one (.d (.int .i64))),(78,.one (.d (.int .i64)))],[.bst 2,.bst 5,.row 74 (.st 7),.bst 5,.map .i64 3 4 .bool,.bst 5,.row 40 (.st 2)],[]⟩) (.sq (.sq .n (.sq .n (.cd (some ⟨[(2,.one (.d .bool)),(4,.one (.box 0 0)),(7,.one (.box 1 0)),(8,.one (.d (.sl (.st 2)))),(10,.one (.own 2)),(11,.one (.box 3 0)),(12,.one (.map 4)),(14,.one (.box 5 0)),(17,.one (.box 6 0)),(19,.one (.own 7)),(20,.one (.own 8)),(76,.one (.own 2)),(77,.one (.d (.int .i64))),(78,.one (.d (.int .i64)))],[.bst 2,.bst 5,.row 74 (.st 7),.bst 5,.map .i64 3 4 .bool,.bst 7,.bst 5,.row 40 (.st 2),.row 40 (.st 2)],[]⟩) .n .n))) .n) .n)) .n))))))))) .n)))))) (.sq (.rg [10]) .n))))))))))))) Tryz.func10 Tryz.call10 rfl (by kernel_rfl) (by kernel_rfl) (by kernel_rfl) λn x=>by kernel_rfl
end
end Go.Proofs.YtlcmdgpjiendmaaGreat
