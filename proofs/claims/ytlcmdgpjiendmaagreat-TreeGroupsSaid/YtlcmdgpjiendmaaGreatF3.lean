import Derived.Test.YtlcmdgpjiendmaaGreatTypes
import Derived.Test.YtlcmdgpjiendmaaGreatF2
namespace Go.Proofs.YtlcmdgpjiendmaaGreat
open Go Go.Bur Go.RowKit
set_option linter.unusedVariables false
set_option linter.unusedSimpArgs false
set_option maxRecDepth 100000
noncomputable section
def kL(n:Nat):Int×aA×aA×Key×aA×aA×Key×Unit->Option (aA×aA×Key×Bool):=fun⟨v9,v10,v11,v12,v13,v14,v15,_⟩=>
 (vU n v10 v11 v12).bind λy16=>
 (qP n y16 v9).bind λy17=>
 (eY n y17.2.1).bind λy18=>
 jn (fun(b19:Bool)=>
 jn (fun(b21:Bool)=>
 jn (fun(b23:Bool)=>
 cond b23
 (some ((aA.mk 0 ([]:List Row) ([]:List Kid)),(aA.mk 0 ([]:List Row) ([]:List Kid)),(Key.mk 0 0),false))
 (some (y17.1,y17.2.1,y17.2.2,true))) λk24=>
 cond b21
 (k24 true)
 ((sH n y17.2.1).bind λy25=>
 k24 (!y25))) λk22=>
 cond b19
 (k22 true)
 ((sH n y17.1).bind λy26=>
 k22 (!y26))) λk20=>
 cond (y18==0)
 (k20 true)
 ((B6 n y16).bind λy27=>
 k20 (!y27))
def xJ(n:Nat)(p0:aA)(p1:aA)(p2:Key):Option (aA×aA×Key×Bool):=
 jn (fun(b1:Bool)=>
 jn (fun(b3:Bool)=>
 cond b3
 (some ((aA.mk 0 ([]:List Row) ([]:List Kid)),(aA.mk 0 ([]:List Row) ([]:List Kid)),(Key.mk 0 0),false))
 ((eY n p0).bind λy5=>
 (eY n p0).bind λy6=>
 (eY n p1).bind λy7=>
 jn (kL n) λj1=>
 cond (decide (y6>y7))
 ((eY n p0).bind λy28=>
 j1 ((IntKind.wrap .i64 (y28-1)),p0,p1,p2,(aA.mk 0 ([]:List Row) ([]:List Kid)),(aA.mk 0 ([]:List Row) ([]:List Kid)),(Key.mk 0 0),()))
 (j1 ((IntKind.wrap .i64 (y5+1)),p0,p1,p2,(aA.mk 0 ([]:List Row) ([]:List Kid)),(aA.mk 0 ([]:List Row) ([]:List Kid)),(Key.mk 0 0),())))) λk4=>
 cond b1
 (k4 true)
 ((eY n p0).bind λy29=>
 (eY n p1).bind λy30=>
 k4 (y29==y30))) λk2=>
 cond (p0.kind !=p1.kind)
 (k2 true)
 (k2 (p0.kind==0))
@[reducible] def B8:Ct tab:=⟨123,[.st 4,.st 4,.st 1],[],[.st 4,.st 4,.st 1,.one (.d .bool)],[],(aA×aA×Key×Bool),λy=>(y.1,y.2.1,y.2.2.1,y.2.2.2,()),λy=>(y.1,y.2.1,y.2.2.1,y.2.2.2.1),λ_=>rfl,λn x=>xJ n x.1 x.2.1 x.2.2.1⟩
theorem I2:OkC Tryz.prog tab B8:=aQ (W:=⟨Tryz.prog,tab,bE,[rO,yF,AH,B5,B7],bG,dpO,false⟩) ⟨aK,⟨yD,DV,Fv,I0,I1,trivial⟩,aN⟩ (by kernel_rfl) 81 Tryz.f123 (.sq .n (.sq .n (.sq .n (.sq (.sq .n (.cd (some ⟨[(3,.one (.box 0 0)),(4,.one (.box 1 0)),(5,.one (.box 2 0)),(6,.one (.box 3 0)),(7,.one (.box 4 0)),(8,.one (.box 5 0)),(10,.one (.d (.int .i64)))],[.bst 4,.bst 4,.bst 1,.bst 4,.bst 4,.bst 1],[]⟩) .n .n)) .n)))) Tryz.func123 Tryz.call123 rfl (by kernel_rfl) (by kernel_rfl) (by kernel_rfl) λn x=>by kernel_rfl
def DY(n:Nat)(r1:Int×Int×aA×Key×aA×(List Kid)×Unit->Option aA):Int×Int×aA×Key×aA×(List Kid)×Kid×Unit->Option aA:=fun⟨v8,v9,v10,v11,v12,v13,v14,_⟩=>
 (app 24 v13 ([v14]:List Kid)).bind λl15=>
 r1 (v8,(IntKind.wrap .i64 (v9+1)),v10,v11,v12,l15,())
def yI(n:Nat):Nat->Int×Int×aA×Key×aA×(List Kid)×Unit->Option aA:=aW λr1 ⟨v1,v2,v3,v4,v5,v6,_⟩=>
 cond (decide (v2<(v3.kids.length:Int)))
 ((idx v3.kids v2).bind λx7=>
 jn (DY n r1) λj2=>
 cond (v2==v1)
 (j2 (v1,v2,v3,v4,v5,v6,(Kid.mk v4 x7.page),()))
 (j2 (v1,v2,v3,v4,v5,v6,x7,())))
 ((nX n v6).bind λy16=>
 some y16)
def EC(n:Nat)(p0:aA)(p1:Int)(p2:Key):Option aA:=
 yI n n (p1,0,p0,p2,(aA.mk 0 ([]:List Row) ([]:List Kid)),([]:List Kid),())
@[reducible] def DZ:Ct tab:=⟨124,[.st 4,.one (.d (.int .i64)),.st 1],[],[.st 4],[],aA,λy=>(y,()),λy=>y.1,λ_=>rfl,λn x=>EC n x.1 x.2.1 x.2.2.1⟩
theorem KT:OkC Tryz.prog tab DZ:=aQ (W:=⟨Tryz.prog,tab,bE,[kK],bG,dpO,false⟩) ⟨aK,⟨pD,trivial⟩,aN⟩ (by kernel_rfl) 33 Tryz.f124 (.sq .n (.sq .n (.sq (.sq .n (.bk none (.lp ⟨[(1,.one (.d (.int .i64))),(3,.one (.box 0 0)),(5,.one (.box 1 0)),(6,.one (.box 2 0)),(7,.one (.own 3)),(8,.one (.d (.int .i64)))],[.bst 4,.bst 1,.bst 4,.row 100 (.st 3)],[]⟩ (.sq .n (.sq (.bk none (.sq .n (.sq (.sq .n (.cd (some ⟨[(1,.one (.d (.int .i64))),(3,.one (.box 0 0)),(5,.one (.box 1 0)),(6,.one (.box 2 0)),(7,.one (.own 3)),(8,.one (.d (.int .i64))),(9,.one (.box 4 0))],[.bst 4,.bst 1,.bst 4,.row 100 (.st 3),.bst 3],[]⟩) .n .n)) .n))) .n))))) .n))) Tryz.func124 Tryz.call124 rfl (by kernel_rfl) (by kernel_rfl) (by kernel_rfl) λn x=>by kernel_rfl
def yJ(n:Nat):Int×Int×aC×aA×Unit->Option (Bool×(List aF)):=fun⟨v6,v7,v8,v9,_⟩=>
 (idx v9.kids (IntKind.wrap .i64 (v7-1))).bind λx10=>
 (idx v9.kids v7).bind λx11=>
 (idx v9.kids v7).bind λx12=>
 (idx v8.pages x10.page).bind λx13=>
 (idx v8.pages x11.page).bind λx14=>
 (vU n x13 x14 x12.least).bind λy15=>
 (eY n y15).bind λy16=>
 jn (fun(b17:Bool)=>
 jn (fun(b19:Bool)=>
 cond b19
 ((jL n ([(aF.mk 0 y15),(aF.mk x10.page (aA.mk 0 ([]:List Row) ([]:List Kid))),(aF.mk x11.page (aA.mk 0 ([]:List Row) ([]:List Kid)))]:List aF)).bind λy21=>
 some (true,y21))
 ((eY n y15).bind λy22=>
 cond (decide (y22<=4))
 ((AF n v9 v7).bind λy23=>
 (jL n ([(aF.mk v6 y23),(aF.mk x10.page y15),(aF.mk x11.page (aA.mk 0 ([]:List Row) ([]:List Kid)))]:List aF)).bind λy24=>
 some (false,y24))
 ((idx v8.pages x10.page).bind λx25=>
 (idx v8.pages x11.page).bind λx26=>
 (xJ n x25 x26 x12.least).bind λy27=>
 (EC n v9 v7 y27.2.2.1).bind λy28=>
 (jL n ([(aF.mk v6 y28),(aF.mk x10.page y27.1),(aF.mk x11.page y27.2.1)]:List aF)).bind λy29=>
 some (false,y29)))) λk20=>
 cond b17
 (k20 ((v9.kids.length:Int)==2))
 (k20 false)) λk18=>
 cond (decide (y16<=4))
 (k18 (v6==0))
 (k18 false)
def AI(n:Nat)(p0:aC)(p1:Int)(p2:Key):Option (Bool×(List aF)):=
 (idx p0.pages p1).bind λx1=>
 (nW n x1 p2).bind λy2=>
 (idx x1.kids y2).bind λx3=>
 (idx p0.pages x3.page).bind λx4=>
 (eY n x4).bind λy5=>
 cond (decide (y5>2))
 (some (false,([]:List aF)))
 (jn (yJ n) λj1=>
 cond ((IntKind.wrap .i64 (y2+1))==(x1.kids.length:Int))
 (j1 (p1,y2,p0,x1,()))
 (j1 (p1,(IntKind.wrap .i64 (y2+1)),p0,x1,())))
@[reducible] def D0:Ct tab:=⟨74,[.st 5,.one (.d (.int .i64)),.st 1],[],[.one (.own 0),.one (.d .bool)],[(none,.row 76 (.st 6))],(Bool×(List aF)),λy=>(y.1,y.2,()),λy=>(y.1,y.2.1),λ_=>rfl,λn x=>AI n x.1 x.2.1 x.2.2.1⟩
theorem KU:OkC Tryz.prog tab D0:=aQ (W:=⟨Tryz.prog,tab,bE,[pC,rO,yF,tJ,Bk,B8,DZ],bG,dpO,false⟩) ⟨aK,⟨uM,yD,DV,Bi,H3,I2,KT,trivial⟩,aN⟩ (by kernel_rfl) 145 Tryz.f74 (.sq .n (.sq .n (.sq .n (.sq .n (.sq .n (.sq (.sq .n (.cd (some ⟨[(1,.one (.d (.int .i64))),(3,.one (.box 0 0)),(8,.one (.box 1 0)),(10,.one (.d (.int .i64)))],[.bst 5,.bst 4],[]⟩) .n .n)) .n)))))) Tryz.func74 Tryz.call74 rfl (by kernel_rfl) (by kernel_rfl) (by kernel_rfl) λn x=>by kernel_rfl
def rQ(n:Nat):Nat->(List aF)×Int×aC×(List aA)×Unit->Option aC:=aW λr1 ⟨v2,v3,v4,v5,_⟩=>
 cond (decide (v3<(v2.length:Int)))
 ((idx v2 v3).bind λx6=>
 (idx v2 v3).bind λx7=>
 (idx v5 x6.page).bind λx8=>
 (put v5 x6.page x7.content).bind λl9=>
 r1 (v2,(IntKind.wrap .i64 (v3+1)),v4,l9,()))
 (some (aC.mk v5))
def gG(n:Nat)(p0:aC)(p1:List aF):Option aC:=
 (app 56 ([]:List aA) p0.pages).bind λl1=>
 rQ n n (p1,0,(aC.mk ([]:List aA)),l1,())
@[reducible] def rR:Ct tab:=⟨19,[.st 5,.one (.d (.sl (.st 6)))],[],[.st 5],[],aC,λy=>(y,()),λy=>y.1,λ_=>rfl,λn x=>gG n x.1 x.2.1⟩
theorem yK:OkC Tryz.prog tab rR:=aQ (W:=⟨Tryz.prog,tab,bE,[],bG,dpO,false⟩) ⟨aK,trivial,aN⟩ (by kernel_rfl) 32 Tryz.f19 (.sq .n (.sq .n (.sq (.sq .n (.bk none (.lp ⟨[(1,.one (.d (.sl (.st 6)))),(4,.one (.box 0 0)),(5,.one (.box 1 0)),(6,.one (.d (.int .i64)))],[.bst 5,.box [.own 2],.row 47 (.st 4)],[]⟩ .n))) .n))) Tryz.func19 Tryz.call19 rfl (by kernel_rfl) (by kernel_rfl) (by kernel_rfl) λn x=>by kernel_rfl
def zM(n:Nat)(r1:(List Row)×Int×Key×(List Row)×Unit->Option ((List Row))):(List Row)×Int×Key×(List Row)×Unit->Option ((List Row)):=fun⟨v8,v9,v10,v11,_⟩=>
 r1 (v8,(IntKind.wrap .i64 (v9+1)),v10,v11,())
def qQ(n:Nat):Nat->(List Row)×Int×Key×(List Row)×Unit->Option ((List Row)):=aW λr1 ⟨v1,v2,v3,v4,_⟩=>
 cond (decide (v2<(v1.length:Int)))
 ((idx v1 v2).bind λx5=>
 jn (zM n r1) λj2=>
 cond (!(Key.eqb x5.key v3))
 ((idx v1 v2).bind λx12=>
 (app 40 v4 ([x12]:List Row)).bind λl13=>
 j2 (v1,v2,v3,l13,()))
 (j2 (v1,v2,v3,v4,())))
 (some v4)
def mP(n:Nat)(p0:List Row)(p1:Key):Option ((List Row)):=
 qQ n n (p0,0,p1,([]:List Row),())
@[reducible] def lF:Ct tab:=⟨44,[.one (.d (.sl (.st 2))),.st 1],[],[.one (.own 0)],[(none,.row 40 (.st 2))],((List Row)),λy=>(y,()),λy=>y.1,λ_=>rfl,λn x=>mP n x.1 x.2.1⟩
theorem qR:OkC Tryz.prog tab lF:=aQ (W:=⟨Tryz.prog,tab,bE,[],bG,dpO,false⟩) ⟨aK,trivial,aN⟩ (by kernel_rfl) 28 Tryz.f44 (.sq .n (.sq .n (.sq (.sq .n (.bk none (.lp ⟨[(0,.one (.d (.sl (.st 2)))),(3,.one (.box 0 0)),(5,.one (.own 1)),(6,.one (.d (.int .i64)))],[.bst 1,.row 40 (.st 2)],[]⟩ (.sq .n (.sq (.bk none (.sq .n (.cd (some ⟨[(0,.one (.d (.sl (.st 2)))),(3,.one (.box 0 0)),(5,.one (.own 1)),(6,.one (.d (.int .i64)))],[.bst 1,.row 40 (.st 2)],[]⟩) .n .n))) .n))))) .n))) Tryz.func44 Tryz.call44 rfl (by kernel_rfl) (by kernel_rfl) (by kernel_rfl) λn x=>by kernel_rfl
def jZ(n:Nat):Int×aC×Key×(List aG)×Unit->Option ((List aG)):=fun⟨v31,v32,v33,v34,_⟩=>
 (idx v32.pages v31).bind λx35=>
 (mP n x35.rows v33).bind λy36=>
 (qM n y36).bind λy37=>
 (app 24 v34 ([(aG.mk ([(aF.mk v31 y37)]:List aF))]:List aG)).bind λl38=>
 some l38
def D3(n:Nat)(r2:Int×Int×aC×Key×(List aG)×Unit->Option ((List aG))):Int×Int×aC×Key×(List aG)×Unit->Option ((List aG)):=fun⟨v58,v59,v60,v61,v62,_⟩=>
 r2 (v58,(IntKind.wrap .i64 (v59+1)),v60,v61,v62,())
def yL(n:Nat)(r2:Int×Int×aC×Key×(List aG)×Unit->Option ((List aG))):Int×Int×Bool×aC×Key×(List aG)×Unit->Option ((List aG)):=fun⟨v48,v49,v50,v51,v52,v53,_⟩=>
 jn (D3 n r2) λj4=>
 cond (!v50)
 ((idx v51.pages v48).bind λx63=>
 (idx v51.pages v48).bind λx64=>
 (nW n x64 v52).bind λy65=>
 (idx x63.kids y65).bind λx66=>
 j4 (x66.page,v49,v51,v52,v53,()))
 (j4 (v48,v49,v51,v52,v53,()))
def mQ(n:Nat)(j1:Int×aC×Key×(List aG)×Unit->Option ((List aG))):Nat->Int×Int×aC×Key×(List aG)×Unit->Option ((List aG)):=aW λr2 ⟨v39,v40,v41,v42,v43,_⟩=>
 cond (decide (v40<40))
 ((idx v41.pages v39).bind λx44=>
 cond (x44.kind==1)
 (j1 (v39,v41,v42,v43,()))
 ((AI n v41 v39 v42).bind λy45=>
 jn (yL n r2) λj3=>
 cond (decide ((y45.2.length:Int)>0))
 ((app 24 v43 ([(aG.mk y45.2)]:List aG)).bind λl67=>
 (gG n v41 y45.2).bind λy68=>
 j3 (v39,v40,y45.1,y68,v42,l67,()))
 (j3 (v39,v40,y45.1,v41,v42,v43,()))))
 (j1 (v39,v41,v42,v43,()))
def qS(n:Nat)(p0:aC)(p1:Key):Option ((List aG)):=
 jn (jZ n) λj1=>
 mQ n j1 n (0,0,p0,p1,([]:List aG),())
@[reducible] def D4:Ct tab:=⟨37,[.st 5,.st 1],[],[.one (.own 0)],[(none,.row 74 (.st 7))],((List aG)),λy=>(y,()),λy=>y.1,λ_=>rfl,λn x=>qS n x.1 x.2.1⟩
theorem KV:OkC Tryz.prog tab D4:=aQ (W:=⟨Tryz.prog,tab,bE,[lF,rL,D0,pC,rR],bG,dpO,false⟩) ⟨aK,⟨qR,xZ,KU,uM,yK,trivial⟩,aN⟩ (by kernel_rfl) 75 Tryz.f37 (.sq .n (.sq .n (.sq .n (.sq (.sq .n (.bk (some ⟨[(2,.one (.box 0 0)),(3,.one (.box 1 0)),(5,.one (.own 2)),(6,.one (.d (.int .i64)))],[.bst 5,.bst 1,.row 74 (.st 7)],[]⟩) (.lp ⟨[(2,.one (.box 0 0)),(3,.one (.box 1 0)),(5,.one (.own 2)),(6,.one (.d (.int .i64))),(7,.one (.d (.int .i64)))],[.bst 5,.bst 1,.row 74 (.st 7)],[]⟩ (.sq .n (.sq (.bk none (.sq .n (.sq .n (.sq (.sq .n (.cd (some ⟨[(2,.one (.box 0 0)),(3,.one (.box 1 0)),(5,.one (.own 2)),(6,.one (.d (.int .i64))),(7,.one (.d (.int .i64))),(9,.one (.d .bool))],[.bst 5,.bst 1,.row 74 (.st 7)],[]⟩) .n .n)) (.sq .n (.cd (some ⟨[(2,.one (.box 0 0)),(3,.one (.box 1 0)),(5,.one (.own 2)),(6,.one (.d (.int .i64))),(7,.one (.d (.int .i64)))],[.bst 5,.bst 1,.row 74 (.st 7)],[]⟩) .n .n)))))) .n))))) .n)))) Tryz.func37 Tryz.call37 rfl (by kernel_rfl) (by kernel_rfl) (by kernel_rfl) λn x=>by kernel_rfl
def AJ(n:Nat)(r2:(List aG)×Int×Int×(List aF)×Unit->Option ((List aF))):(List aG)×Int×Int×(List aF)×Unit->Option ((List aF)):=fun⟨v29,v30,v31,v32,_⟩=>
 r2 (v29,v30,(IntKind.wrap .i64 (v31-1)),v32,())
def uO(n:Nat)(j3:(List aG)×Int×Int×(List aF)×Unit->Option ((List aF))):Nat->(List aG)×Int×Int×Int×(List aF)×aF×Unit->Option ((List aF)):=aW λr4 ⟨v35,v36,v37,v38,v39,v40,_⟩=>
 jn (fun(b41:Bool)=>
 cond b41
 (r4 (v35,v36,v37,(IntKind.wrap .i64 (v38+1)),v39,v40,()))
 (jn (fun(b43:Bool)=>
 cond b43
 (j3 (v35,v36,v37,v39,()))
 ((T4 v39 v38 v38).bind λl45=>
 (sub v39 v38 (v39.length:Int)).bind λl46=>
 (app 64 ([v40]:List aF) l46).bind λl47=>
 neL l47
 ((app 64 l45 l47).bind λl48=>
 j3 (v35,v36,v37,l48,())))) λk44=>
 cond (decide (v38<(v39.length:Int)))
 ((idx v39 v38).bind λx49=>
 (idx v39 v38).bind λx50=>
 k44 (x50.page==v40.page))
 (k44 false))) λk42=>
 cond (decide (v38<(v39.length:Int)))
 ((idx v39 v38).bind λx51=>
 (idx v39 v38).bind λx52=>
 k42 (decide (x52.page<v40.page)))
 (k42 false)
def uP(n:Nat)(r1:(List aG)×Int×(List aF)×Unit->Option ((List aF))):Nat->(List aG)×Int×Int×(List aF)×Unit->Option ((List aF)):=aW λr2 ⟨v5,v6,v7,v8,_⟩=>
 cond (decide (v7>=0))
 (jn (AJ n r2) λj3=>
 (idx v5 v6).bind λx33=>
 (idx x33.sheets v7).bind λx34=>
 uO n j3 n (v5,v6,v7,0,v8,x34,()))
 (r1 (v5,(IntKind.wrap .i64 (v6-1)),v8,()))
def uQ(n:Nat):Nat->(List aG)×Int×(List aF)×Unit->Option ((List aF)):=aW λr1 ⟨v1,v2,v3,_⟩=>
 cond (decide (v2>=0))
 ((idx v1 v2).bind λx4=>
 uP n r1 n (v1,v2,(IntKind.wrap .i64 ((x4.sheets.length:Int)-1)),v3,()))
 (some v3)
def lG(n:Nat)(p0:List aG):Option ((List aF)):=
 uQ n n (p0,(IntKind.wrap .i64 ((p0.length:Int)-1)),([]:List aF),())
@[reducible] def Fx:Ct tab:=⟨42,[.one (.d (.sl (.st 7)))],[],[.one (.own 0)],[(none,.row 76 (.st 6))],((List aF)),λy=>(y,()),λy=>y.1,λ_=>rfl,λn x=>lG n x.1⟩
theorem Nu:OkC Tryz.prog tab Fx:=aQ (W:=⟨Tryz.prog,tab,bE,[],bG,dpO,false⟩) ⟨aK,trivial,aN⟩ (by kernel_rfl) 76 Tryz.f42 (.sq .n (.sq .n (.sq (.sq .n (.bk none (.lp ⟨[(0,.one (.d (.sl (.st 7)))),(3,.one (.own 0)),(4,.one (.d (.int .i64)))],[.row 76 (.st 6)],[]⟩ (.sq .n (.sq (.bk none (.sq .n (.bk none (.lp ⟨[(0,.one (.d (.sl (.st 7)))),(3,.one (.own 0)),(4,.one (.d (.int .i64))),(5,.one (.d (.int .i64)))],[.row 76 (.st 6)],[]⟩ (.sq .n (.sq (.bk (some ⟨[(0,.one (.d (.sl (.st 7)))),(3,.one (.own 0)),(4,.one (.d (.int .i64))),(5,.one (.d (.int .i64)))],[.row 76 (.st 6)],[]⟩) (.sq .n (.sq .n (.sq (.bk none (.lp ⟨[(0,.one (.d (.sl (.st 7)))),(3,.one (.own 0)),(4,.one (.d (.int .i64))),(5,.one (.d (.int .i64))),(6,.one (.box 1 0)),(7,.one (.d (.int .i64)))],[.row 76 (.st 6),.bst 6],[]⟩ .n)) (.sq .n (.rg [3])))))) .n)))))) .n))))) .n))) Tryz.func42 Tryz.call42 rfl (by kernel_rfl) (by kernel_rfl) (by kernel_rfl) λn x=>by kernel_rfl
def D5(n:Nat)(r1:Int×aC×(List Int)×Unit->Option ((List Int))):Int×aC×(List Int)×Unit->Option ((List Int)):=fun⟨v6,v7,v8,_⟩=>
 r1 ((IntKind.wrap .i64 (v6+1)),v7,v8,())
def rS(n:Nat):Nat->Int×aC×(List Int)×Unit->Option ((List Int)):=aW λr1 ⟨v1,v2,v3,_⟩=>
 cond (decide (v1<64))
 ((idx v2.pages v1).bind λx4=>
 jn (D5 n r1) λj2=>
 cond (x4.kind==0)
 ((app 8 v3 ([v1]:List Int)).bind λl9=>
 j2 (v1,v2,l9,()))
 (j2 (v1,v2,v3,())))
 (some v3)
def ED(n:Nat)(p0:aC):Option ((List Int)):=
 rS n n (1,p0,([]:List Int),())
@[reducible] def D6:Ct tab:=⟨57,[.st 5],[],[.one (.own 0)],[(none,.row 3 (.int .i64))],((List Int)),λy=>(y,()),λy=>y.1,λ_=>rfl,λn x=>ED n x.1⟩
theorem KW:OkC Tryz.prog tab D6:=aQ (W:=⟨Tryz.prog,tab,bE,[],bG,dpO,false⟩) ⟨aK,trivial,aN⟩ (by kernel_rfl) 21 Tryz.f57 (.sq .n (.sq .n (.sq (.sq .n (.bk none (.lp ⟨[(1,.one (.box 0 0)),(3,.one (.own 1)),(4,.one (.d (.int .i64)))],[.bst 5,.row 3 (.int .i64)],[]⟩ (.sq .n (.sq (.bk none (.sq .n (.cd (some ⟨[(1,.one (.box 0 0)),(3,.one (.own 1)),(4,.one (.d (.int .i64)))],[.bst 5,.row 3 (.int .i64)],[]⟩) .n .n))) .n))))) .n))) Tryz.func57 Tryz.call57 rfl (by kernel_rfl) (by kernel_rfl) (by kernel_rfl) λn x=>by kernel_rfl
def vZ(n:Nat)(p0:aA):Option Bool:=
 jn (fun(b1:Bool)=>
 some b1) λk2=>
 cond (p0.kind !=0)
 ((eY n p0).bind λy3=>
 k2 (y3==4))
 (k2 false)
@[reducible] def D7:Ct tab:=⟨116,[.st 4],[],[.one (.d .bool)],[],Bool,λy=>(y,()),λy=>y.1,λ_=>rfl,λn x=>vZ n x.1⟩
theorem KX:OkC Tryz.prog tab D7:=aQ (W:=⟨Tryz.prog,tab,bE,[rO],bG,dpO,false⟩) ⟨aK,⟨yD,trivial⟩,aN⟩ (by kernel_rfl) 11 Tryz.f116 .n Tryz.func116 Tryz.call116 rfl (by kernel_rfl) (by kernel_rfl) (by kernel_rfl) λn x=>by kernel_rfl
def B9(n:Nat)(r1:Int×Int×Int×aA×Key×aA×(List Kid)×Unit->Option aA):Int×Int×Int×aA×Key×aA×(List Kid)×Unit->Option aA:=fun⟨v11,v12,v13,v14,v15,v16,v17,_⟩=>
 r1 (v11,v12,(IntKind.wrap .i64 (v13+1)),v14,v15,v16,v17,())
def wA(n:Nat):Nat->Int×Int×Int×aA×Key×aA×(List Kid)×Unit->Option aA:=aW λr1 ⟨v1,v2,v3,v4,v5,v6,v7,_⟩=>
 cond (decide (v3<(v4.kids.length:Int)))
 ((idx v4.kids v3).bind λx8=>
 (app 24 v7 ([x8]:List Kid)).bind λl9=>
 jn (B9 n r1) λj2=>
 cond (v3==v1)
 ((app 24 l9 ([(Kid.mk v5 v2)]:List Kid)).bind λl18=>
 j2 (v1,v2,v3,v4,v5,v6,l18,()))
 (j2 (v1,v2,v3,v4,v5,v6,l9,())))
 ((nX n v7).bind λy19=>
 some y19)
def Ca(n:Nat)(p0:aA)(p1:Int)(p2:Int)(p3:Key):Option aA:=
 wA n n (p1,p2,0,p0,p3,(aA.mk 0 ([]:List Row) ([]:List Kid)),([]:List Kid),())
@[reducible] def Cb:Ct tab:=⟨120,[.st 4,.one (.d (.int .i64)),.one (.d (.int .i64)),.st 1],[],[.st 4],[],aA,λy=>(y,()),λy=>y.1,λ_=>rfl,λn x=>Ca n x.1 x.2.1 x.2.2.1 x.2.2.2.1⟩
theorem I3:OkC Tryz.prog tab Cb:=aQ (W:=⟨Tryz.prog,tab,bE,[kK],bG,dpO,false⟩) ⟨aK,⟨pD,trivial⟩,aN⟩ (by kernel_rfl) 37 Tryz.f120 (.sq .n (.sq .n (.sq (.sq .n (.bk none (.lp ⟨[(1,.one (.d (.int .i64))),(2,.one (.d (.int .i64))),(4,.one (.box 0 0)),(7,.one (.box 1 0)),(8,.one (.box 2 0)),(9,.one (.own 3)),(10,.one (.d (.int .i64)))],[.bst 4,.bst 1,.bst 4,.row 100 (.st 3)],[]⟩ (.sq .n (.sq (.bk none (.sq .n (.sq .n (.cd (some ⟨[(1,.one (.d (.int .i64))),(2,.one (.d (.int .i64))),(4,.one (.box 0 0)),(7,.one (.box 1 0)),(8,.one (.box 2 0)),(9,.one (.own 3)),(10,.one (.d (.int .i64)))],[.bst 4,.bst 1,.bst 4,.row 100 (.st 3)],[]⟩) .n .n)))) .n))))) .n))) Tryz.func120 Tryz.call120 rfl (by kernel_rfl) (by kernel_rfl) (by kernel_rfl) λn x=>by kernel_rfl
def kM(n:Nat)(p0:aC)(p1:Int)(p2:Key):Option (Bool×(List aF)):=
 (idx p0.pages p1).bind λx1=>
 (ED n p0).bind λy2=>
 jn (fun(b3:Bool)=>
 cond b3
 (cond (decide ((y2.length:Int)<2))
 (some (false,([]:List aF)))
 ((qP n x1 2).bind λy5=>
 (idx y2 0).bind λx6=>
 (idx y2 0).bind λx7=>
 (idx y2 1).bind λx8=>
 (idx y2 1).bind λx9=>
 (nX n ([(Kid.mk (Key.mk 0 0) x7),(Kid.mk y5.2.2 x9)]:List Kid)).bind λy10=>
 (idx y2 0).bind λx11=>
 (idx y2 0).bind λx12=>
 (idx y2 1).bind λx13=>
 (idx y2 1).bind λx14=>
 some (true,([(aF.mk 0 y10),(aF.mk x12 y5.1),(aF.mk x14 y5.2.1)]:List aF))))
 (cond (x1.kind !=2)
 (some (true,([]:List aF)))
 ((nW n x1 p2).bind λy15=>
 (idx x1.kids y15).bind λx16=>
 (idx p0.pages x16.page).bind λx17=>
 (vZ n x17).bind λy18=>
 cond (!y18)
 (some (true,([]:List aF)))
 (cond ((y2.length:Int)==0)
 (some (false,([]:List aF)))
 ((idx p0.pages x16.page).bind λx19=>
 (qP n x19 2).bind λy20=>
 (idx y2 0).bind λx21=>
 (idx y2 0).bind λx22=>
 (Ca n x1 y15 x22 y20.2.2).bind λy23=>
 (idx y2 0).bind λx24=>
 (idx y2 0).bind λx25=>
 (jL n ([(aF.mk p1 y23),(aF.mk x16.page y20.1),(aF.mk x25 y20.2.1)]:List aF)).bind λy26=>
 some (true,y26)))))) λk4=>
 cond (p1==0)
 ((vZ n x1).bind λy27=>
 k4 y27)
 (k4 false)
@[reducible] def D8:Ct tab:=⟨71,[.st 5,.one (.d (.int .i64)),.st 1],[],[.one (.own 0),.one (.d .bool)],[(none,.row 76 (.st 6))],(Bool×(List aF)),λy=>(y.1,y.2,()),λy=>(y.1,y.2.1),λ_=>rfl,λn x=>kM n x.1 x.2.1 x.2.2.1⟩
theorem KY:OkC Tryz.prog tab D8:=aQ (W:=⟨Tryz.prog,tab,bE,[D6,AH,kK,pC,D7,Cb,tJ],bG,dpO,false⟩) ⟨aK,⟨KW,Fv,pD,uM,KX,I3,Bi,trivial⟩,aN⟩ (by kernel_rfl) 116 Tryz.f71 .n Tryz.func71 Tryz.call71 rfl (by kernel_rfl) (by kernel_rfl) (by kernel_rfl) λn x=>by kernel_rfl
def D9(n:Nat)(r1:Bool×Int×Row×(List Row)×(List Row)×Unit->Option ((List Row))):Bool×Int×Row×(List Row)×(List Row)×Unit->Option ((List Row)):=fun⟨v10,v11,v12,v13,v14,_⟩=>
 (idx v14 v11).bind λx15=>
 (idx v14 v11).bind λx16=>
 (app 40 v13 ([x16]:List Row)).bind λl17=>
 r1 (v10,(IntKind.wrap .i64 (v11+1)),v12,l17,v14,())
def Ea(n:Nat):(List Row)×Unit->Option ((List Row)):=fun⟨v23,_⟩=>
 some v23
def yM(n:Nat):Nat->Bool×Int×Row×(List Row)×(List Row)×Unit->Option ((List Row)):=aW λr1 ⟨v2,v3,v4,v5,v6,_⟩=>
 cond (decide (v3<(v6.length:Int)))
 (jn (fun(b7:Bool)=>
 jn (D9 n r1) λj2=>
 cond b7
 ((app 40 v5 ([v4]:List Row)).bind λl18=>
 j2 (true,v3,v4,l18,v6,()))
 (j2 (v2,v3,v4,v5,v6,()))) λk8=>
 cond (!v2)
 ((idx v6 v3).bind λx19=>
 (idx v6 v3).bind λx20=>
 (eH n v4.key x20.key).bind λy21=>
 k8 (decide (y21<0)))
 (k8 false))
 (jn (Ea n) λj3=>
 cond (!v2)
 ((app 40 v5 ([v4]:List Row)).bind λl24=>
 j3 (l24,()))
 (j3 (v5,())))
def wB(n:Nat)(p0:List Row)(p1:Row):Option ((List Row)):=
 (mP n p0 p1.key).bind λy1=>
 yM n n (false,0,p1,([]:List Row),y1,())
@[reducible] def yN:Ct tab:=⟨43,[.one (.d (.sl (.st 2))),.st 2],[],[.one (.own 0)],[(none,.row 40 (.st 2))],((List Row)),λy=>(y,()),λy=>y.1,λ_=>rfl,λn x=>wB n x.1 x.2.1⟩
theorem Eb:OkC Tryz.prog tab yN:=aQ (W:=⟨Tryz.prog,tab,bE,[lF,lD],bG,dpO,false⟩) ⟨aK,⟨qR,qO,trivial⟩,aN⟩ (by kernel_rfl) 50 Tryz.f43 (.sq .n (.sq .n (.sq .n (.sq .n (.sq (.sq .n (.bk none (.lp ⟨[(3,.one (.box 0 0)),(5,.one (.own 1)),(6,.one (.d .bool)),(7,.one (.own 2)),(8,.one (.d (.int .i64)))],[.bst 2,.row 40 (.st 2),.row 40 (.st 2)],[]⟩ (.sq .n (.sq (.bk none (.sq (.sq .n (.cd (some ⟨[(3,.one (.box 0 0)),(5,.one (.own 1)),(6,.one (.d .bool)),(7,.one (.own 2)),(8,.one (.d (.int .i64)))],[.bst 2,.row 40 (.st 2),.row 40 (.st 2)],[]⟩) .n .n)) .n)) .n))))) (.sq (.sq .n (.cd (some ⟨[(5,.one (.own 0))],[.row 40 (.st 2)],[]⟩) .n .n)) .n)))))) Tryz.func43 Tryz.call43 rfl (by kernel_rfl) (by kernel_rfl) (by kernel_rfl) λn x=>by kernel_rfl
def CT(n:Nat)(p0:aA)(p1:Row):Option (aA×Int):=
 (qN n p0.rows p1.key).bind λy1=>
 jn (fun(b2:Bool)=>
 cond b2
 (some ((aA.mk 0 ([]:List Row) ([]:List Kid)),6))
 ((wB n p0.rows p1).bind λy4=>
 (qM n y4).bind λy5=>
 some (y5,0))) λk3=>
 cond (decide (y1<0))
 (k3 ((p0.rows.length:Int)==4))
 (k3 false)
@[reducible] def Fy:Ct tab:=⟨73,[.st 4,.st 2],[],[.st 4,.one (.d (.int .i64))],[],(aA×Int),λy=>(y.1,y.2,()),λy=>(y.1,y.2.1),λ_=>rfl,λn x=>CT n x.1 x.2.1⟩
theorem Nv:OkC Tryz.prog tab Fy:=aQ (W:=⟨Tryz.prog,tab,bE,[rN,yN,rL],bG,dpO,false⟩) ⟨aK,⟨yC,Eb,xZ,trivial⟩,aN⟩ (by kernel_rfl) 24 Tryz.f73 .n Tryz.func73 Tryz.call73 rfl (by kernel_rfl) (by kernel_rfl) (by kernel_rfl) λn x=>by kernel_rfl
def jM(n:Nat):Int×aC×Row×(List aG)×Unit->Option (Int×(List aG)):=fun⟨v81,v82,v83,v84,_⟩=>
 (idx v82.pages v81).bind λx85=>
 (CT n x85 v83).bind λy86=>
 (app 24 v84 ([(aG.mk ([(aF.mk v81 y86.1)]:List aF))]:List aG)).bind λl87=>
 some (0,l87)
def uR(n:Nat)(r2:Bool×Int×Int×aC×Row×(List aG)×Unit->Option (Int×(List aG))):Bool×Int×Int×aC×Row×(List aG)×Unit->Option (Int×(List aG)):=fun⟨v127,v128,v129,v130,v131,v132,_⟩=>
 r2 (v127,v128,(IntKind.wrap .i64 (v129+1)),v130,v131,v132,())
def lH(n:Nat)(j1:Int×aC×Row×(List aG)×Unit->Option (Int×(List aG)))(j3:Bool×Int×Int×aC×Row×(List aG)×Unit->Option (Int×(List aG))):Bool×Int×Int×aC×Row×(List aG)×Unit->Option (Int×(List aG)):=fun⟨v144,v145,v146,v147,v148,v149,_⟩=>
 (idx v147.pages v145).bind λx150=>
 cond (x150.kind==1)
 (j1 (v145,v147,v148,v149,()))
 ((idx v147.pages v145).bind λx151=>
 (idx v147.pages v145).bind λx152=>
 (nW n x152 v148.key).bind λy153=>
 (idx x151.kids y153).bind λx154=>
 cond v144
 (j3 (v144,x154.page,v146,v147,v148,v149,()))
 (j3 (v144,x154.page,v146,v147,v148,v149,())))
def pG(n:Nat)(j4:Bool×Int×Int×aC×Row×(List aG)×Unit->Option (Int×(List aG))):Bool×Int×Int×aC×Row×(List aG)×Unit->Option (Int×(List aG)):=fun⟨v158,v159,v160,v161,v162,v163,_⟩=>
 j4 (v158,v159,v160,v161,v162,v163,())
def jN(n:Nat)(j1:Int×aC×Row×(List aG)×Unit->Option (Int×(List aG))):Nat->Bool×Int×Int×aC×Row×(List aG)×Unit->Option (Int×(List aG)):=aW λr2 ⟨v88,v89,v90,v91,v92,v93,_⟩=>
 cond (decide (v90<40))
 (jn (uR n r2) λj3=>
 jn (lH n j1 j3) λj4=>
 cond (!v88)
 ((kM n v91 v89 v92.key).bind λy155=>
 cond (!y155.1)
 (some (6,([]:List aG)))
 (jn (pG n j4) λj5=>
 cond (decide ((y155.2.length:Int)>0))
 ((app 24 v93 ([(aG.mk y155.2)]:List aG)).bind λl164=>
 (gG n v91 y155.2).bind λy165=>
 j5 (v88,v89,v90,y165,v92,l164,()))
 (j5 (v88,v89,v90,v91,v92,v93,()))))
 (j4 (v88,v89,v90,v91,v92,v93,())))
 (j1 (v89,v91,v92,v93,()))
def lI(n:Nat)(p0:aC)(p1:Row):Option (Int×(List aG)):=
 (nN n p0 0).bind λy1=>
 (qN n y1 p1.key).bind λy2=>
 jn (jM n) λj1=>
 jN n j1 n ((decide (y2>=0)),0,0,p0,p1,([]:List aG),())
@[reducible] def Fz:Ct tab:=⟨35,[.st 5,.st 2],[],[.one (.own 0),.one (.d (.int .i64))],[(none,.row 74 (.st 7))],(Int×(List aG)),λy=>(y.1,y.2,()),λy=>(y.1,y.2.1),λ_=>rfl,λn x=>lI n x.1 x.2.1⟩
theorem Nw:OkC Tryz.prog tab Fz:=aQ (W:=⟨Tryz.prog,tab,bE,[yA,rN,Fy,pC,D8,rR],bG,dpO,false⟩) ⟨aK,⟨DT,yC,Nv,uM,KY,yK,trivial⟩,aN⟩ (by kernel_rfl) 90 Tryz.f35 (.sq .n (.sq .n (.sq .n (.sq .n (.sq (.sq .n (.bk (some ⟨[(2,.one (.box 0 0)),(3,.one (.box 1 0)),(7,.one (.own 2)),(8,.one (.d (.int .i64)))],[.bst 5,.bst 2,.row 74 (.st 7)],[]⟩) (.lp ⟨[(2,.one (.box 0 0)),(3,.one (.box 1 0)),(6,.one (.d .bool)),(7,.one (.own 2)),(8,.one (.d (.int .i64))),(9,.one (.d (.int .i64)))],[.bst 5,.bst 2,.row 74 (.st 7)],[]⟩ (.sq .n (.sq (.bk (some ⟨[(2,.one (.box 0 0)),(3,.one (.box 1 0)),(6,.one (.d .bool)),(7,.one (.own 2)),(8,.one (.d (.int .i64))),(9,.one (.d (.int .i64)))],[.bst 5,.bst 2,.row 74 (.st 7)],[]⟩) (.sq (.sq .n (.cd (some ⟨[(2,.one (.box 0 0)),(3,.one (.box 1 0)),(6,.one (.d .bool)),(7,.one (.own 2)),(8,.one (.d (.int .i64))),(9,.one (.d (.int .i64)))],[.bst 5,.bst 2,.row 74 (.st 7)],[]⟩) (.sq .n (.sq .n (.sq .n (.cd (some ⟨[(2,.one (.box 0 0)),(3,.one (.box 1 0)),(6,.one (.d .bool)),(7,.one (.own 2)),(8,.one (.d (.int .i64))),(9,.one (.d (.int .i64)))],[.bst 5,.bst 2,.row 74 (.st 7)],[]⟩) .n .n)))) .n)) .n)) .n))))) .n))))) Tryz.func35 Tryz.call35 rfl (by kernel_rfl) (by kernel_rfl) (by kernel_rfl) λn x=>by kernel_rfl
def kN(n:Nat):aC×aC×Unit->Option aC:=fun⟨v76,v77,_⟩=>
 some v77
def sI(n:Nat)(r2:(List Int)×Int×Int×aC×aC×Unit->Option aC):(List Int)×Int×Int×aC×aC×Unit->Option aC:=fun⟨v115,v116,v117,v118,v119,_⟩=>
 r2 (v115,v116,(IntKind.wrap .i64 (v117+1)),v118,v119,())
def sJ(n:Nat)(j3:(List Int)×Int×Int×aC×aC×Unit->Option aC):(List Int)×Int×Int×aC×aC×Unit->Option aC:=fun⟨v130,v131,v132,v133,v134,_⟩=>
 j3 (v130,v131,v132,v133,v134,())
def sK(n:Nat)(j3:(List Int)×Int×Int×aC×aC×Unit->Option aC):(List Int)×Int×Int×aC×aC×Unit->Option aC:=fun⟨v143,v144,v145,v146,v147,_⟩=>
 j3 (v143,v144,v145,v146,v147,())
def hU(n:Nat)(j1:aC×aC×Unit->Option aC):Nat->(List Int)×Int×Int×aC×aC×Unit->Option aC:=aW λr2 ⟨v78,v79,v80,v81,v82,_⟩=>
 cond (decide (v80<v79))
 (jn (sI n r2) λj3=>
 (idx v78 v80).bind λx120=>
 cond (v80==90)
 (j1 (v81,v82,()))
 ((zG n (IntKind.wrap .u16 x120)).bind λy121=>
 (nN n v82 0).bind λy122=>
 (qN n y122 y121.key).bind λy123=>
 cond (decide (x120<0))
 ((zG n (IntKind.wrap .u16 (IntKind.wrap .i64 (0-x120)))).bind λy124=>
 (nN n v82 0).bind λy125=>
 (qN n y125 y124.key).bind λy126=>
 jn (sJ n j3) λj4=>
 cond (decide (y126>=0))
 ((qS n v82 y124.key).bind λy135=>
 (lG n y135).bind λy136=>
 (gG n v82 y136).bind λy137=>
 j4 (v78,v79,v80,v81,y137,()))
 (j4 (v78,v79,v80,v81,v82,())))
 (jn (fun(b138:Bool)=>
 jn (sK n j3) λj5=>
 cond b138
 ((lI n v82 y121).bind λy148=>
 (lG n y148.2).bind λy149=>
 (gG n v82 y149).bind λy150=>
 j5 (v78,v79,v80,v81,y150,()))
 (j5 (v78,v79,v80,v81,v82,()))) λk139=>
 cond (decide (y123>=0))
 (k139 true)
 ((nN n v82 0).bind λy151=>
 k139 (decide ((y151.length:Int)<60))))))
 (j1 (v81,v82,()))
def kE(n:Nat)(p0:oI):Option aC:=
 (Gx n).bind λy1=>
 jn (kN n) λj1=>
 hU n j1 n (p0.ids,(p0.ids.length:Int),0,(aC.mk ([]:List aA)),y1,())
@[reducible] def sL:Ct tab:=⟨12,[.st 0],[],[.st 5],[],aC,λy=>(y,()),λy=>y.1,λ_=>rfl,λn x=>kE n x.1⟩
theorem Cc:OkC Tryz.prog tab sL:=aQ (W:=⟨Tryz.prog,tab,bE,[Fo,Aq,yA,rN,D4,Fx,rR,Fz],bG,dpO,false⟩) ⟨aK,⟨Nt,Fh,DT,yC,KV,Nu,yK,Nw,trivial⟩,aN⟩ (by kernel_rfl) 68 Tryz.f12 (.sq .n (.sq .n (.sq (.sq .n (.bk (some ⟨[(2,.one (.box 0 0)),(3,.one (.box 1 0))],[.bst 5,.bst 5],[]⟩) (.lp ⟨[(2,.one (.box 0 0)),(3,.one (.box 1 0)),(12,.one (.d (.sl (.int .i64)))),(13,.one (.d (.int .i64))),(14,.one (.d (.int .i64)))],[.bst 5,.bst 5],[]⟩ (.sq .n (.sq .n (.sq (.bk (some ⟨[(2,.one (.box 0 0)),(3,.one (.box 1 0)),(12,.one (.d (.sl (.int .i64)))),(13,.one (.d (.int .i64))),(14,.one (.d (.int .i64)))],[.bst 5,.bst 5],[]⟩) (.sq .n (.sq .n (.sq .n (.sq .n (.sq (.sq .n (.cd none (.sq (.sq .n (.sq .n (.cd (some ⟨[(2,.one (.box 0 0)),(3,.one (.box 1 0)),(12,.one (.d (.sl (.int .i64)))),(13,.one (.d (.int .i64))),(14,.one (.d (.int .i64)))],[.bst 5,.bst 5],[]⟩) .n .n))) .n) .n)) (.sq .n (.cd (some ⟨[(2,.one (.box 0 0)),(3,.one (.box 1 0)),(12,.one (.d (.sl (.int .i64)))),(13,.one (.d (.int .i64))),(14,.one (.d (.int .i64)))],[.bst 5,.bst 5],[]⟩) (.sq .n (.rg [60])) .n)))))))) .n)))))) .n))) Tryz.func12 Tryz.call12 rfl (by kernel_rfl) (by kernel_rfl) (by kernel_rfl) λn x=>by kernel_rfl
def mB(n:Nat):Nat->(List Kid)×(List Kid)×Int×Int×Unit->Option Bool:=aW λr1 ⟨v1,v2,v3,v4,_⟩=>
 cond (decide (v4<v3))
 ((idx v1 v4).bind λx5=>
 (idx v2 v4).bind λx6=>
 cond (!(Kid.eqb x5 x6))
 (some false)
 (r1 (v1,v2,v3,(IntKind.wrap .i64 (v4+1)),())))
 (some true)
def lJ(n:Nat)(p0:List Kid)(p1:List Kid):Option Bool:=
 cond ((p0.length:Int) !=(p1.length:Int))
 (some false)
 (mB n n (p0,p1,(p0.length:Int),0,()))
@[reducible] def tW:Ct tab:=⟨82,[.one (.d (.sl (.st 3))),.one (.d (.sl (.st 3)))],[],[.one (.d .bool)],[],Bool,λy=>(y,()),λy=>y.1,λ_=>rfl,λn x=>lJ n x.1 x.2.1⟩
theorem Dr:OkC Tryz.prog tab tW:=aQ (W:=⟨Tryz.prog,tab,bE,[],bG,dpO,false⟩) ⟨aK,trivial,aN⟩ (by kernel_rfl) 26 Tryz.f82 (.sq .n (.sq .n (.sq (.sq .n (.bk none (.lp ⟨[(0,.one (.d (.sl (.st 3)))),(1,.one (.d (.sl (.st 3)))),(12,.one (.d (.int .i64))),(13,.one (.d (.int .i64)))],[],[]⟩ .n))) .n))) Tryz.func82 Tryz.call82 rfl (by kernel_rfl) (by kernel_rfl) (by kernel_rfl) λn x=>by kernel_rfl
def mC(n:Nat):Nat->(List Row)×(List Row)×Int×Int×Unit->Option Bool:=aW λr1 ⟨v1,v2,v3,v4,_⟩=>
 cond (decide (v4<v3))
 ((idx v1 v4).bind λx5=>
 (idx v2 v4).bind λx6=>
 cond (!(Row.eqb x5 x6))
 (some false)
 (r1 (v1,v2,v3,(IntKind.wrap .i64 (v4+1)),())))
 (some true)
def lK(n:Nat)(p0:List Row)(p1:List Row):Option Bool:=
 cond ((p0.length:Int) !=(p1.length:Int))
 (some false)
 (mC n n (p0,p1,(p0.length:Int),0,()))
@[reducible] def tX:Ct tab:=⟨81,[.one (.d (.sl (.st 2))),.one (.d (.sl (.st 2)))],[],[.one (.d .bool)],[],Bool,λy=>(y,()),λy=>y.1,λ_=>rfl,λn x=>lK n x.1 x.2.1⟩
theorem Ds:OkC Tryz.prog tab tX:=aQ (W:=⟨Tryz.prog,tab,bE,[],bG,dpO,false⟩) ⟨aK,trivial,aN⟩ (by kernel_rfl) 26 Tryz.f81 (.sq .n (.sq .n (.sq (.sq .n (.bk none (.lp ⟨[(0,.one (.d (.sl (.st 2)))),(1,.one (.d (.sl (.st 2)))),(12,.one (.d (.int .i64))),(13,.one (.d (.int .i64)))],[],[]⟩ .n))) .n))) Tryz.func81 Tryz.call81 rfl (by kernel_rfl) (by kernel_rfl) (by kernel_rfl) λn x=>by kernel_rfl
def AK(n:Nat)(p0:aA)(p1:aA):Option Bool:=
 jn (fun(b1:Bool)=>
 jn (fun(b3:Bool)=>
 some b3) λk4=>
 cond b1
 ((lJ n p0.kids p1.kids).bind λy5=>
 k4 y5)
 (k4 false)) λk2=>
 cond (p0.kind==p1.kind)
 ((lK n p0.rows p1.rows).bind λy6=>
 k2 y6)
 (k2 false)
@[reducible] def Ec:Ct tab:=⟨49,[.st 4,.st 4],[],[.one (.d .bool)],[],Bool,λy=>(y,()),λy=>y.1,λ_=>rfl,λn x=>AK n x.1 x.2.1⟩
theorem KZ:OkC Tryz.prog tab Ec:=aQ (W:=⟨Tryz.prog,tab,bE,[tW,tX],bG,dpO,false⟩) ⟨aK,⟨Dr,Ds,trivial⟩,aN⟩ (by kernel_rfl) 24 Tryz.f49 .n Tryz.func49 Tryz.call49 rfl (by kernel_rfl) (by kernel_rfl) (by kernel_rfl) λn x=>by kernel_rfl
def eR(n:Nat):Nat->(List aA)×(List aA)×Int×Int×Unit->Option Bool:=aW λr1 ⟨v1,v2,v3,v4,_⟩=>
 cond (decide (v4<v3))
 ((idx v2 v4).bind λx5=>
 (idx v1 v4).bind λx6=>
 (AK n x5 x6).bind λy7=>
 cond (!y7)
 (some false)
 (r1 (v1,v2,v3,(IntKind.wrap .i64 (v4+1)),())))
 (some true)
def dN(n:Nat)(p0:List aA)(p1:List aA):Option Bool:=
 cond ((p0.length:Int) !=(p1.length:Int))
 (some false)
 (eR n n (p1,p0,(p0.length:Int),0,()))
@[reducible] def iL:Ct tab:=⟨48,[.one (.d (.sl (.st 4))),.one (.d (.sl (.st 4))),.one (.fn 49 [])],[],[.one (.d .bool)],[],Bool,λy=>(y,()),λy=>y.1,λ_=>rfl,λn x=>dN n x.1 x.2.1⟩
theorem qA:OkC Tryz.prog tab iL:=aQ (W:=⟨Tryz.prog,tab,bE,[Ec],bG,dpO,false⟩) ⟨aK,⟨KZ,trivial⟩,aN⟩ (by kernel_rfl) 32 Tryz.f48 (.sq .n (.sq .n (.sq (.sq .n (.bk none (.lp ⟨[(1,.one (.d (.sl (.st 4)))),(2,.one (.fn 49 [])),(15,.one (.d (.sl (.st 4)))),(16,.one (.d (.int .i64))),(17,.one (.d (.int .i64)))],[],[]⟩ .n))) .n))) Tryz.func48 Tryz.call48 rfl (by kernel_rfl) (by kernel_rfl) (by kernel_rfl) λn x=>by kernel_rfl
def CU(n:Nat)(p0:aC)(p1:aC):Option Bool:=
 (dN n p0.pages p1.pages).bind λy1=>
 some y1
@[reducible] def FA:Ct tab:=⟨18,[.st 5,.st 5],[],[.one (.d .bool)],[],Bool,λy=>(y,()),λy=>y.1,λ_=>rfl,λn x=>CU n x.1 x.2.1⟩
theorem Nx:OkC Tryz.prog tab FA:=aQ (W:=⟨Tryz.prog,tab,bE,[iL],bG,dpO,false⟩) ⟨aK,⟨qA,trivial⟩,aN⟩ (by kernel_rfl) 10 Tryz.f18 .n Tryz.func18 Tryz.call18 rfl (by kernel_rfl) (by kernel_rfl) (by kernel_rfl) λn x=>by kernel_rfl
def FB(n:Nat)(p0:aC)(p1:Key):Option (Row×Int):=
 (jI n p0).bind λy1=>
 cond (y1 !=0)
 (some ((Row.mk (Key.mk 0 0) 0 ByteArray.empty),y1))
 ((BP n p0 p1).bind λy2=>
 some (y2.1,y2.2))
@[reducible] def Hw:Ct tab:=⟨22,[.st 5,.st 1],[],[.st 2,.one (.d (.int .i64))],[],(Row×Int),λy=>(y.1,y.2,()),λy=>(y.1,y.2.1),λ_=>rfl,λn x=>FB n x.1 x.2.1⟩
theorem Pa:OkC Tryz.prog tab Hw:=aQ (W:=⟨Tryz.prog,tab,bE,[mN,BQ],bG,dpO,false⟩) ⟨aK,⟨rG,Hq,trivial⟩,aN⟩ (by kernel_rfl) 18 Tryz.f22 .n Tryz.func22 Tryz.call22 rfl (by kernel_rfl) (by kernel_rfl) (by kernel_rfl) λn x=>by kernel_rfl
end
end Go.Proofs.YtlcmdgpjiendmaaGreat
