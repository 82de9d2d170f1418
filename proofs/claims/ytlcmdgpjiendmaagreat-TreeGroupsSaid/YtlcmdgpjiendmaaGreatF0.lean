import Derived.Test.YtlcmdgpjiendmaaGreatTypes
namespace Go.Proofs.YtlcmdgpjiendmaaGreat
open Go Go.Bur Go.RowKit
set_option linter.unusedVariables false
set_option linter.unusedSimpArgs false
set_option maxRecDepth 100000
noncomputable section
def O7(n:Nat):Option aC:=
 (idx (List.replicate 64 (aA.mk 0 ([]:List Row) ([]:List Kid))) 0).bind λx1=>
 (idx (List.replicate 64 (aA.mk 0 ([]:List Row) ([]:List Kid))) 0).bind λx2=>
 (put (List.replicate 64 (aA.mk 0 ([]:List Row) ([]:List Kid))) 0 (aA.mk 1 x2.rows x2.kids)).bind λl3=>
 some (aC.mk l3)
@[reducible] def Ho:Ct tab:=⟨24,[],[],[.st 5],[],aC,λy=>(y,()),λy=>y.1,λ_=>rfl,λn x=>O7 n⟩
theorem O8:OkC Tryz.prog tab Ho:=aQ (W:=⟨Tryz.prog,tab,bE,[],bG,dpO,false⟩) ⟨aK,trivial,aN⟩ (by kernel_rfl) 9 Tryz.f24 .n Tryz.func24 Tryz.call24 rfl (by kernel_rfl) (by kernel_rfl) (by kernel_rfl) λn x=>by kernel_rfl
def zG(n:Nat)(p0:Int):Option Row:=
 some (Row.mk (Key.mk 0 p0) 0 ByteArray.empty)
@[reducible] def Aq:Ct tab:=⟨45,[.one (.d (.int .u16))],[],[.st 2],[],Row,λy=>(y,()),λy=>y.1,λ_=>rfl,λn x=>zG n x.1⟩
theorem Fh:OkC Tryz.prog tab Aq:=aQ (W:=⟨Tryz.prog,tab,bE,[],bG,dpO,false⟩) ⟨aK,trivial,aN⟩ (by kernel_rfl) 6 Tryz.f45 .n Tryz.func45 Tryz.call45 rfl (by kernel_rfl) (by kernel_rfl) (by kernel_rfl) λn x=>by kernel_rfl
def rE(n:Nat)(p0:Int):Option Bool:=
 some (p0 !=p0)
@[reducible] def zH:Ct tab:=⟨150,[.one (.d (.int .i64))],[],[.one (.d .bool)],[],Bool,λy=>(y,()),λy=>y.1,λ_=>rfl,λn x=>rE n x.1⟩
theorem Gr:OkC Tryz.prog tab zH:=aQ (W:=⟨Tryz.prog,tab,bE,[],bG,dpO,false⟩) ⟨aK,trivial,aN⟩ (by kernel_rfl) 6 Tryz.f150 .n Tryz.func150 Tryz.call150 rfl (by kernel_rfl) (by kernel_rfl) (by kernel_rfl) λn x=>by kernel_rfl
def jQ(n:Nat)(p0:Int)(p1:Int):Option Int:=
 (rE n p0).bind λy1=>
 (rE n p1).bind λy2=>
 cond y1
 (cond y2
 (some 0)
 (some (-1)))
 (cond y2
 (some 1)
 (cond (decide (p0<p1))
 (some (-1))
 (cond (decide (p0>p1))
 (some 1)
 (some 0))))
@[reducible] def nJ:Ct tab:=⟨110,[.one (.d (.int .i64)),.one (.d (.int .i64))],[],[.one (.d (.int .i64))],[],Int,λy=>(y,()),λy=>y.1,λ_=>rfl,λn x=>jQ n x.1 x.2.1⟩
theorem vO:OkC Tryz.prog tab nJ:=aQ (W:=⟨Tryz.prog,tab,bE,[zH],bG,dpO,false⟩) ⟨aK,⟨Gr,trivial⟩,aN⟩ (by kernel_rfl) 20 Tryz.f110 .n Tryz.func110 Tryz.call110 rfl (by kernel_rfl) (by kernel_rfl) (by kernel_rfl) λn x=>by kernel_rfl
def kY(n:Nat)(p0:Int):Option Bool:=
 some (p0 !=p0)
@[reducible] def tR:Ct tab:=⟨170,[.one (.d (.int .u16))],[],[.one (.d .bool)],[],Bool,λy=>(y,()),λy=>y.1,λ_=>rfl,λn x=>kY n x.1⟩
theorem Dm:OkC Tryz.prog tab tR:=aQ (W:=⟨Tryz.prog,tab,bE,[],bG,dpO,false⟩) ⟨aK,trivial,aN⟩ (by kernel_rfl) 6 Tryz.f170 .n Tryz.func170 Tryz.call170 rfl (by kernel_rfl) (by kernel_rfl) (by kernel_rfl) λn x=>by kernel_rfl
def jF(n:Nat)(p0:Int)(p1:Int):Option Int:=
 (kY n p0).bind λy1=>
 (kY n p1).bind λy2=>
 cond y1
 (cond y2
 (some 0)
 (some (-1)))
 (cond y2
 (some 1)
 (cond (decide (p0<p1))
 (some (-1))
 (cond (decide (p0>p1))
 (some 1)
 (some 0))))
@[reducible] def qE:Ct tab:=⟨142,[.one (.d (.int .u16)),.one (.d (.int .u16))],[],[.one (.d (.int .i64))],[],Int,λy=>(y,()),λy=>y.1,λ_=>rfl,λn x=>jF n x.1 x.2.1⟩
theorem Bo:OkC Tryz.prog tab qE:=aQ (W:=⟨Tryz.prog,tab,bE,[tR],bG,dpO,false⟩) ⟨aK,⟨Dm,trivial⟩,aN⟩ (by kernel_rfl) 20 Tryz.f142 .n Tryz.func142 Tryz.call142 rfl (by kernel_rfl) (by kernel_rfl) (by kernel_rfl) λn x=>by kernel_rfl
def DF(n:Nat):Nat->Int×(List Int)×Int×Int×Unit->Option Int:=aW λr1 ⟨v1,v2,v3,v4,_⟩=>
 cond (decide (v4<v3))
 ((idx v2 v4).bind λx5=>
 cond (x5 !=v1)
 (some x5)
 (r1 (v1,v2,v3,(IntKind.wrap .i64 (v4+1)),())))
 (some v1)
def Av(n:Nat)(p0:List Int):Option Int:=
 DF n n (0,p0,(p0.length:Int),0,())
@[reducible] def DG:Ct tab:=⟨141,[.one (.d (.sl (.int .i64)))],[],[.one (.d (.int .i64))],[],Int,λy=>(y,()),λy=>y.1,λ_=>rfl,λn x=>Av n x.1⟩
theorem KK:OkC Tryz.prog tab DG:=aQ (W:=⟨Tryz.prog,tab,bE,[],bG,dpO,false⟩) ⟨aK,trivial,aN⟩ (by kernel_rfl) 18 Tryz.f141 (.sq .n (.sq .n (.sq (.sq .n (.bk none (.lp ⟨[(3,.one (.d (.int .i64))),(6,.one (.d (.sl (.int .i64)))),(7,.one (.d (.int .i64))),(8,.one (.d (.int .i64)))],[],[]⟩ .n))) .n))) Tryz.func141 Tryz.call141 rfl (by kernel_rfl) (by kernel_rfl) (by kernel_rfl) λn x=>by kernel_rfl
def dU(n:Nat)(p0:Key)(p1:Key):Option Int:=
 (jQ n p0.table p1.table).bind λy1=>
 (jF n p0.id p1.id).bind λy2=>
 (Av n ([y1,y2]:List Int)).bind λy3=>
 some y3
@[reducible] def fA:Ct tab:=⟨98,[.st 1,.st 1],[],[.one (.d (.int .i64))],[],Int,λy=>(y,()),λy=>y.1,λ_=>rfl,λn x=>dU n x.1 x.2.1⟩
theorem gC:OkC Tryz.prog tab fA:=aQ (W:=⟨Tryz.prog,tab,bE,[nJ,qE,DG],bG,dpO,false⟩) ⟨aK,⟨vO,Bo,KK,trivial⟩,aN⟩ (by kernel_rfl) 17 Tryz.f98 .n Tryz.func98 Tryz.call98 rfl (by kernel_rfl) (by kernel_rfl) (by kernel_rfl) λn x=>by kernel_rfl
def iQ(n:Nat)(p0:Key)(p1:Key):Option Bool:=
 (dU n p0 p1).bind λy1=>
 jn (fun(b2:Bool)=>
 some b2) λk3=>
 cond (decide (y1>=0))
 (k3 true)
 (k3 false)
@[reducible] def tS:Ct tab:=⟨128,[.st 1,.st 1,.one (.nptr)],[],[.one (.d .bool)],[],Bool,λy=>(y,()),λy=>y.1,λ_=>rfl,λn x=>iQ n x.1 x.2.1⟩
theorem Dp:OkC Tryz.prog tab tS:=aQ (W:=⟨Tryz.prog,tab,bE,[fA],bG,dpO,false⟩) ⟨aK,⟨gC,trivial⟩,aN⟩ (by kernel_rfl) 23 Tryz.f128 .n Tryz.func128 Tryz.call128 rfl (by kernel_rfl) (by kernel_rfl) (by kernel_rfl) λn x=>by kernel_rfl
def rX(n:Nat)(p0:Key)(p1:Key)(p2:Key):Option Bool:=
 (dU n p0 p1).bind λy1=>
 jn (fun(b2:Bool)=>
 some b2) λk3=>
 cond (decide (y1>=0))
 ((dU n p0 p2).bind λy4=>
 k3 (decide (y4<0)))
 (k3 false)
@[reducible] def BF:Ct tab:=⟨128,[.st 1,.st 1,.one (.ro (.st 1))],[],[.one (.d .bool)],[],Bool,λy=>(y,()),λy=>y.1,λ_=>rfl,λn x=>rX n x.1 x.2.1 x.2.2.1⟩
theorem IU:OkC Tryz.prog tab BF:=aQ (W:=⟨Tryz.prog,tab,bE,[fA],bG,dpO,false⟩) ⟨aK,⟨gC,trivial⟩,aN⟩ (by kernel_rfl) 23 Tryz.f128 .n Tryz.func128 Tryz.call128 rfl (by kernel_rfl) (by kernel_rfl) (by kernel_rfl) λn x=>by kernel_rfl
def uF(n:Nat)(p0:Row):Option Key:=
 some p0.key
@[reducible] def Bd:Ct tab:=⟨130,[.st 2],[],[.st 1],[],Key,λy=>(y,()),λy=>y.1,λ_=>rfl,λn x=>uF n x.1⟩
theorem H1:OkC Tryz.prog tab Bd:=aQ (W:=⟨Tryz.prog,tab,bE,[],bG,dpO,false⟩) ⟨aK,trivial,aN⟩ (by kernel_rfl) 5 Tryz.f130 .n Tryz.func130 Tryz.call130 rfl (by kernel_rfl) (by kernel_rfl) (by kernel_rfl) λn x=>by kernel_rfl
def rY(n:Nat)(p0:Int):Option Bool:=
 jn (fun(b1:Bool)=>
 some b1) λk2=>
 cond (decide (p0>=0))
 (k2 (decide (p0<3)))
 (k2 false)
@[reducible] def vP:Ct tab:=⟨91,[.one (.d (.int .i64))],[],[.one (.d .bool)],[],Bool,λy=>(y,()),λy=>y.1,λ_=>rfl,λn x=>rY n x.1⟩
theorem BG:OkC Tryz.prog tab vP:=aQ (W:=⟨Tryz.prog,tab,bE,[],bG,dpO,false⟩) ⟨aK,trivial,aN⟩ (by kernel_rfl) 9 Tryz.f91 .n Tryz.func91 Tryz.call91 rfl (by kernel_rfl) (by kernel_rfl) (by kernel_rfl) λn x=>by kernel_rfl
def gD(n:Nat)(p0:Row):Option Int:=
 (rY n p0.key.table).bind λy1=>
 jn (fun(b2:Bool)=>
 cond b2
 (some 151)
 (some 0)) λk3=>
 cond (!y1)
 (k3 true)
 (k3 (decide ((p0.note.size:Int)>8)))
@[reducible] def kC:Ct tab:=⟨58,[.st 2],[],[.one (.d (.int .i64))],[],Int,λy=>(y,()),λy=>y.1,λ_=>rfl,λn x=>gD n x.1⟩
theorem oQ:OkC Tryz.prog tab kC:=aQ (W:=⟨Tryz.prog,tab,bE,[vP],bG,dpO,false⟩) ⟨aK,⟨BG,trivial⟩,aN⟩ (by kernel_rfl) 14 Tryz.f58 .n Tryz.func58 Tryz.call58 rfl (by kernel_rfl) (by kernel_rfl) (by kernel_rfl) λn x=>by kernel_rfl
def uG(n:Nat)(p0:Int)(p1:Row):Option Bool:=
 (gD n p1).bind λy1=>
 some (y1==0)
@[reducible] def Be:Ct tab:=⟨131,[.one (.d (.int .i64)),.st 2],[],[.one (.d .bool)],[],Bool,λy=>(y,()),λy=>y.1,λ_=>rfl,λn x=>uG n x.1 x.2.1⟩
theorem H2:OkC Tryz.prog tab Be:=aQ (W:=⟨Tryz.prog,tab,bE,[kC],bG,dpO,false⟩) ⟨aK,⟨oQ,trivial⟩,aN⟩ (by kernel_rfl) 8 Tryz.f131 .n Tryz.func131 Tryz.call131 rfl (by kernel_rfl) (by kernel_rfl) (by kernel_rfl) λn x=>by kernel_rfl
def dL(n:Nat):Bool×Unit->Option Bool:=fun⟨v18,_⟩=>
 some v18
def fI(n:Nat)(j1:Bool×Unit->Option Bool):Nat->(List Row)×Bool×(List Row)×Int×Int×Unit->Option Bool:=aW λr2 ⟨v19,v20,v21,v22,v23,_⟩=>
 cond (decide (v23<v22))
 ((idx v21 v23).bind λx24=>
 jn (fun(b25:Bool)=>
 jn (fun(b27:Bool)=>
 cond (!b27)
 (j1 (b27,()))
 (r2 (v19,b27,v21,v22,(IntKind.wrap .i64 (v23+1)),()))) λk28=>
 cond b25
 (jn (fun(b29:Bool)=>
 k28 b29) λk30=>
 cond (v23==0)
 (k30 true)
 ((idx v19 (IntKind.wrap .i64 (v23-1))).bind λx31=>
 (uF n x31).bind λy32=>
 (uF n x24).bind λy33=>
 (dU n y32 y33).bind λy34=>
 k30 (decide (y34<0))))
 (k28 false)) λk26=>
 cond v20
 ((uG n v23 x24).bind λy35=>
 k26 y35)
 (k26 false))
 (j1 (v20,()))
def gO(n:Nat)(p0:List Row)(p1:Int):Option Bool:=
 jn (dL n) λj1=>
 fI n j1 n (p0,(decide ((p0.length:Int)<=p1)),p0,(p0.length:Int),0,())
@[reducible] def jR:Ct tab:=⟨129,[.one (.d (.sl (.st 2))),.one (.d (.int .i64)),.one (.fn 130 []),.one (.fn 131 [])],[],[.one (.d .bool)],[],Bool,λy=>(y,()),λy=>y.1,λ_=>rfl,λn x=>gO n x.1 x.2.1⟩
theorem tD:OkC Tryz.prog tab jR:=aQ (W:=⟨Tryz.prog,tab,bE,[Bd,fA,Be],bG,dpO,false⟩) ⟨aK,⟨H1,gC,H2,trivial⟩,aN⟩ (by kernel_rfl) 52 Tryz.f129 (.sq .n (.sq .n (.sq .n (.sq (.sq .n (.bk (some ⟨[(2,.one (.fn 130 [])),(3,.one (.fn 131 [])),(9,.one (.d .bool))],[],[]⟩) (.lp ⟨[(0,.one (.d (.sl (.st 2)))),(2,.one (.fn 130 [])),(3,.one (.fn 131 [])),(9,.one (.d .bool)),(16,.one (.d (.sl (.st 2)))),(17,.one (.d (.int .i64))),(18,.one (.d (.int .i64)))],[],[]⟩ .n))) .n)))) Tryz.func129 Tryz.call129 rfl (by kernel_rfl) (by kernel_rfl) (by kernel_rfl) λn x=>by kernel_rfl
def Aw(n:Nat)(p0:List Row):Option Bool:=
 (gO n p0 4).bind λy1=>
 some y1
@[reducible] def DH:Ct tab:=⟨83,[.one (.d (.sl (.st 2)))],[],[.one (.d .bool)],[],Bool,λy=>(y,()),λy=>y.1,λ_=>rfl,λn x=>Aw n x.1⟩
theorem KL:OkC Tryz.prog tab DH:=aQ (W:=⟨Tryz.prog,tab,bE,[jR],bG,dpO,false⟩) ⟨aK,⟨tD,trivial⟩,aN⟩ (by kernel_rfl) 5 Tryz.f83 .n Tryz.func83 Tryz.call83 rfl (by kernel_rfl) (by kernel_rfl) (by kernel_rfl) λn x=>by kernel_rfl
def rF(n:Nat)(p0:Int)(p1:Kid)(q1:List (Int×Bool)):Option (Bool×(List (Int×Bool))):=
 (oB .i64 false q1 p1.page).bind λw1=>
 (AQ .i64 q1 p1.page true).bind λl2=>
 jn (fun(b3:Bool)=>
 jn (fun(b5:Bool)=>
 jn (fun(b7:Bool)=>
 jn (fun(b9:Bool)=>
 some (b9,l2)) λk10=>
 cond b7
 (jn (fun(b11:Bool)=>
 k10 b11) λk12=>
 cond (decide (p0>0))
 (k12 true)
 (k12 (Key.eqb p1.least (Key.mk 0 0))))
 (k10 false)) λk8=>
 cond b5
 ((rY n p1.least.table).bind λy13=>
 k8 y13)
 (k8 false)) λk6=>
 cond b3
 (k6 (decide (p1.page<64)))
 (k6 false)) λk4=>
 cond (!w1)
 (k4 (decide (p1.page>0)))
 (k4 false)
@[reducible] def zI:Ct tab:=⟨134,[.one (.d (.int .i64)),.st 3,.one (.box 0 0)],[.box [.map 1],.map .i64 3 4 .bool],[.one (.d .bool)],[(some 0,.box [.map 1]),(some 1,.map .i64 3 4 .bool)],(Bool×(List (Int×Bool))),λy=>(y.1,y.2,()),λy=>(y.1,y.2.1),λ_=>rfl,λn x=>rF n x.1 x.2.1 x.2.2.1⟩
theorem Gu:OkC Tryz.prog tab zI:=aQ (W:=⟨Tryz.prog,tab,bE,[vP],bG,dpO,false⟩) ⟨aK,⟨BG,trivial⟩,aN⟩ (by kernel_rfl) 42 Tryz.f134 .n Tryz.func134 Tryz.call134 rfl (by kernel_rfl) (by kernel_rfl) (by kernel_rfl) λn x=>by kernel_rfl
def jW(n:Nat)(p0:Kid):Option Key:=
 some p0.least
@[reducible] def zJ:Ct tab:=⟨133,[.st 3],[],[.st 1],[],Key,λy=>(y,()),λy=>y.1,λ_=>rfl,λn x=>jW n x.1⟩
theorem Gv:OkC Tryz.prog tab zJ:=aQ (W:=⟨Tryz.prog,tab,bE,[],bG,dpO,false⟩) ⟨aK,trivial,aN⟩ (by kernel_rfl) 5 Tryz.f133 .n Tryz.func133 Tryz.call133 rfl (by kernel_rfl) (by kernel_rfl) (by kernel_rfl) λn x=>by kernel_rfl
def dM(n:Nat):Bool×(List (Int×Bool))×Unit->Option (Bool×(List (Int×Bool))):=fun⟨v17,v18,_⟩=>
 some (v17,v18)
def fJ(n:Nat)(j1:Bool×(List (Int×Bool))×Unit->Option (Bool×(List (Int×Bool)))):Nat->(List Kid)×Bool×(List Kid)×Int×Int×(List (Int×Bool))×Unit->Option (Bool×(List (Int×Bool))):=aW λr2 ⟨v19,v20,v21,v22,v23,v24,_⟩=>
 cond (decide (v23<v22))
 ((idx v21 v23).bind λx25=>
 cond v20
 ((rF n v23 x25 v24).bind λy26=>
 cond y26.1
 (cond (v23==0)
 (cond (!true)
 (j1 (true,y26.2,()))
 (r2 (v19,true,v21,v22,(IntKind.wrap .i64 (v23+1)),y26.2,())))
 ((idx v19 (IntKind.wrap .i64 (v23-1))).bind λx27=>
 (jW n x27).bind λy28=>
 (jW n x25).bind λy29=>
 (dU n y28 y29).bind λy30=>
 cond (!(decide (y30<0)))
 (j1 ((decide (y30<0)),y26.2,()))
 (r2 (v19,(decide (y30<0)),v21,v22,(IntKind.wrap .i64 (v23+1)),y26.2,()))))
 (cond (!false)
 (j1 (false,y26.2,()))
 (r2 (v19,false,v21,v22,(IntKind.wrap .i64 (v23+1)),y26.2,()))))
 (cond false
 (cond (v23==0)
 (cond (!true)
 (j1 (true,v24,()))
 (r2 (v19,true,v21,v22,(IntKind.wrap .i64 (v23+1)),v24,())))
 ((idx v19 (IntKind.wrap .i64 (v23-1))).bind λx31=>
 (jW n x31).bind λy32=>
 (jW n x25).bind λy33=>
 (dU n y32 y33).bind λy34=>
 cond (!(decide (y34<0)))
 (j1 ((decide (y34<0)),v24,()))
 (r2 (v19,(decide (y34<0)),v21,v22,(IntKind.wrap .i64 (v23+1)),v24,()))))
 (cond (!false)
 (j1 (false,v24,()))
 (r2 (v19,false,v21,v22,(IntKind.wrap .i64 (v23+1)),v24,())))))
 (j1 (v20,v24,()))
def gP(n:Nat)(p0:List Kid)(p1:Int)(q1:List (Int×Bool)):Option (Bool×(List (Int×Bool))):=
 jn (dM n) λj1=>
 fJ n j1 n (p0,(decide ((p0.length:Int)<=p1)),p0,(p0.length:Int),0,q1,())
@[reducible] def jS:Ct tab:=⟨132,[.one (.d (.sl (.st 3))),.one (.d (.int .i64)),.one (.fn 133 []),.one (.fn 134 [.bx 0])],[.box [.map 1],.map .i64 3 4 .bool],[.one (.d .bool)],[(some 0,.box [.map 1]),(some 1,.map .i64 3 4 .bool)],(Bool×(List (Int×Bool))),λy=>(y.1,y.2,()),λy=>(y.1,y.2.1),λ_=>rfl,λn x=>gP n x.1 x.2.1 x.2.2.1⟩
theorem tE:OkC Tryz.prog tab jS:=aQ (W:=⟨Tryz.prog,tab,bE,[zI,zJ,fA],bG,dpO,false⟩) ⟨aK,⟨Gu,Gv,gC,trivial⟩,aN⟩ (by kernel_rfl) 52 Tryz.f132 (.sq .n (.sq .n (.sq .n (.sq (.sq .n (.bk (some ⟨[(2,.one (.fn 133 [])),(3,.one (.fn 134 [.bx 0])),(9,.one (.d .bool))],[.box [.map 1],.map .i64 3 4 .bool],[(0,0),(1,1)]⟩) (.lp ⟨[(0,.one (.d (.sl (.st 3)))),(2,.one (.fn 133 [])),(3,.one (.fn 134 [.bx 0])),(9,.one (.d .bool)),(16,.one (.d (.sl (.st 3)))),(17,.one (.d (.int .i64))),(18,.one (.d (.int .i64)))],[.box [.map 1],.map .i64 3 4 .bool],[(0,0),(1,1)]⟩ (.sq .n (.sq .n (.sq (.bk none (.sq .n (.sq (.rg [1000000]) .n))) .n)))))) .n)))) Tryz.func132 Tryz.call132 rfl (by kernel_rfl) (by kernel_rfl) (by kernel_rfl) λn x=>by kernel_rfl
def xB(n:Nat)(p0:List Kid):Option Bool:=
 cond (decide ((p0.length:Int)>1))
 ((gP n p0 4 ([]:List (Int×Bool))).bind λy1=>
 some y1.1)
 (some false)
@[reducible] def BH:Ct tab:=⟨84,[.one (.d (.sl (.st 3)))],[],[.one (.d .bool)],[],Bool,λy=>(y,()),λy=>y.1,λ_=>rfl,λn x=>xB n x.1⟩
theorem IV:OkC Tryz.prog tab BH:=aQ (W:=⟨Tryz.prog,tab,bE,[jS],bG,dpO,false⟩) ⟨aK,⟨tE,trivial⟩,aN⟩ (by kernel_rfl) 13 Tryz.f84 (.sq .n (.sq .n (.sq (.rg [1000000]) .n))) Tryz.func84 Tryz.call84 rfl (by kernel_rfl) (by kernel_rfl) (by kernel_rfl) λn x=>by kernel_rfl
def BI(n:Nat):Bool×Unit->Option Int:=fun⟨v22,_⟩=>
 cond (!v22)
 (some 160)
 (some 0)
def BJ(n:Nat)(j1:Bool×Unit->Option Int):Bool×Unit->Option Int:=fun⟨v33,_⟩=>
 j1 (v33,())
def BK(n:Nat)(j2:Bool×Unit->Option Int):Bool×Unit->Option Int:=fun⟨v40,_⟩=>
 j2 (v40,())
def jA(n:Nat)(p0:aA):Option Int:=
 jn (BI n) λj1=>
 cond (p0.kind==0)
 (j1 (((IntKind.wrap .i64 ((p0.rows.length:Int)+(p0.kids.length:Int)))==0),()))
 (jn (BJ n j1) λj2=>
 cond (p0.kind==1)
 (jn (fun(b34:Bool)=>
 j2 (b34,())) λk35=>
 cond ((p0.kids.length:Int)==0)
 ((Aw n p0.rows).bind λy36=>
 k35 y36)
 (k35 false))
 (jn (BK n j2) λj3=>
 cond (p0.kind==2)
 (jn (fun(b41:Bool)=>
 j3 (b41,())) λk42=>
 cond ((p0.rows.length:Int)==0)
 ((xB n p0.kids).bind λy43=>
 k42 y43)
 (k42 false))
 (j3 (false,()))))
@[reducible] def iR:Ct tab:=⟨50,[.st 4],[],[.one (.d (.int .i64))],[],Int,λy=>(y,()),λy=>y.1,λ_=>rfl,λn x=>jA n x.1⟩
theorem kG:OkC Tryz.prog tab iR:=aQ (W:=⟨Tryz.prog,tab,bE,[DH,BH],bG,dpO,false⟩) ⟨aK,⟨KL,IV,trivial⟩,aN⟩ (by kernel_rfl) 40 Tryz.f50 (.sq .n (.sq .n (.sq (.sq .n (.bk none (.sq .n (.cd (some ⟨[(3,.one (.d .bool))],[],[]⟩) .n (.sq .n (.cd (some ⟨[(3,.one (.d .bool))],[],[]⟩) .n (.sq .n (.cd (some ⟨[(3,.one (.d .bool))],[],[]⟩) .n .n)))))))) .n))) Tryz.func50 Tryz.call50 rfl (by kernel_rfl) (by kernel_rfl) (by kernel_rfl) λn x=>by kernel_rfl
def eL(n:Nat)(p0:aA):Option Int:=
 some (IntKind.wrap .i64 ((p0.rows.length:Int)+(p0.kids.length:Int)))
@[reducible] def jG:Ct tab:=⟨51,[.st 4],[],[.one (.d (.int .i64))],[],Int,λy=>(y,()),λy=>y.1,λ_=>rfl,λn x=>eL n x.1⟩
theorem kZ:OkC Tryz.prog tab jG:=aQ (W:=⟨Tryz.prog,tab,bE,[],bG,dpO,false⟩) ⟨aK,trivial,aN⟩ (by kernel_rfl) 10 Tryz.f51 .n Tryz.func51 Tryz.call51 rfl (by kernel_rfl) (by kernel_rfl) (by kernel_rfl) λn x=>by kernel_rfl
def vA(n:Nat)(p0:aA):Option Int:=
 (jA n p0).bind λy1=>
 cond (y1 !=0)
 (some 0)
 ((eL n p0).bind λy2=>
 some y2)
@[reducible] def Ax:Ct tab:=⟨20,[.st 4],[],[.one (.d (.int .i64))],[],Int,λy=>(y,()),λy=>y.1,λ_=>rfl,λn x=>vA n x.1⟩
theorem Fi:OkC Tryz.prog tab Ax:=aQ (W:=⟨Tryz.prog,tab,bE,[iR,jG],bG,dpO,false⟩) ⟨aK,⟨kG,kZ,trivial⟩,aN⟩ (by kernel_rfl) 8 Tryz.f20 .n Tryz.func20 Tryz.call20 rfl (by kernel_rfl) (by kernel_rfl) (by kernel_rfl) λn x=>by kernel_rfl
def xC(n:Nat):Int×(List aA)×Int×(List (Int×Bool))×Unit->Option (Bool×(List aA)×Int×(List (Int×Bool))):=fun⟨v18,v19,v20,v21,_⟩=>
 some ((v20==v18),v19,v20,v21)
def oS(n:Nat)(self:Int×Int×Key×Key×(List aA)×Int×(List (Int×Bool))×Unit->Option (Bool×(List aA)×Int×(List (Int×Bool))))(r3:Int×Key×(List Kid)×Int×Int×(List aA)×Int×Key×aA×(List (Int×Bool))×Unit->Option (Bool×(List aA)×Int×(List (Int×Bool)))):Int×Key×Key×(List Kid)×Int×Int×(List aA)×Int×Key×aA×Kid×Key×(List (Int×Bool))×Unit->Option (Bool×(List aA)×Int×(List (Int×Bool))):=fun⟨v49,v50,v51,v52,v53,v54,v55,v56,v57,v58,v59,v60,v61,_⟩=>
 (self (v59.page,(IntKind.wrap .i64 (v49+1)),v60,v51,v55,v56,v61,())).bind λy62=>
 cond (!y62.1)
 (some (false,y62.2.1,y62.2.2.1,y62.2.2.2))
 (r3 (v49,v50,v52,v53,(IntKind.wrap .i64 (v54+1)),y62.2.1,y62.2.2.1,v57,v58,y62.2.2.2,()))
def oT(n:Nat)(self:Int×Int×Key×Key×(List aA)×Int×(List (Int×Bool))×Unit->Option (Bool×(List aA)×Int×(List (Int×Bool))))(r3:Int×Key×(List Kid)×Int×Int×(List aA)×Int×Key×aA×(List (Int×Bool))×Unit->Option (Bool×(List aA)×Int×(List (Int×Bool)))):Int×Key×Int×Key×(List Kid)×Int×Int×(List aA)×Int×Key×aA×Kid×Key×(List (Int×Bool))×Unit->Option (Bool×(List aA)×Int×(List (Int×Bool))):=fun⟨v34,v35,v36,v37,v38,v39,v40,v41,v42,v43,v44,v45,v46,v47,_⟩=>
 jn (oS n self r3) λj5=>
 cond (decide ((IntKind.wrap .i64 (v36+1))<(v44.kids.length:Int)))
 ((idx v44.kids (IntKind.wrap .i64 (v36+1))).bind λx63=>
 j5 (v34,v35,x63.least,v38,v39,v40,v41,v42,v43,v44,v45,v46,v47,()))
 (j5 (v34,v35,v37,v38,v39,v40,v41,v42,v43,v44,v45,v46,v47,()))
def gV(n:Nat)(self:Int×Int×Key×Key×(List aA)×Int×(List (Int×Bool))×Unit->Option (Bool×(List aA)×Int×(List (Int×Bool)))):Nat->Int×Key×(List Kid)×Int×Int×(List aA)×Int×Key×aA×(List (Int×Bool))×Unit->Option (Bool×(List aA)×Int×(List (Int×Bool))):=aW λr3 ⟨v22,v23,v24,v25,v26,v27,v28,v29,v30,v31,_⟩=>
 cond (decide (v26<v25))
 ((idx v24 v26).bind λx32=>
 jn (oT n self r3) λj4=>
 cond (decide (v26>0))
 ((rX n x32.least v29 v23).bind λy64=>
 cond (!y64)
 (some (false,v27,v28,v31))
 (j4 (v22,v23,v26,v23,v24,v25,v26,v27,v28,v29,v30,x32,x32.least,v31,())))
 (j4 (v22,v23,v26,v23,v24,v25,v26,v27,v28,v29,v30,x32,v29,v31,())))
 (some (true,v27,v28,v31))
def gW(n:Nat)(self:Int×Int×Key×Key×(List aA)×Int×(List (Int×Bool))×Unit->Option (Bool×(List aA)×Int×(List (Int×Bool)))):Nat->Int×Key×(List Row)×Int×Int×(List aA)×Int×Key×aA×(List (Int×Bool))×Unit->Option (Bool×(List aA)×Int×(List (Int×Bool))):=aW λr1 ⟨v6,v7,v8,v9,v10,v11,v12,v13,v14,v15,_⟩=>
 cond (decide (v10<v9))
 ((idx v8 v10).bind λx16=>
 (rX n x16.key v13 v7).bind λy17=>
 cond (!y17)
 (some (false,v11,v12,v15))
 (r1 (v6,v7,v8,v9,(IntKind.wrap .i64 (v10+1)),v11,v12,v13,v14,v15,())))
 (cond (v14.kind==1)
 (jn (xC n) λj2=>
 cond (v12==0)
 (j2 (v6,v11,v6,v15,()))
 (j2 (v6,v11,v12,v15,())))
 (gV n self n (v6,v7,v14.kids,(v14.kids.length:Int),0,v11,v12,v13,v14,v15,())))
def eV(n:Nat)(self:Int×Int×Key×Key×(List aA)×Int×(List (Int×Bool))×Unit->Option (Bool×(List aA)×Int×(List (Int×Bool))))(p1:Int)(p2:Int)(p3:Key)(p4:Key)(q0_0:List aA)(q0_1:Int)(q1:List (Int×Bool)):Option (Bool×(List aA)×Int×(List (Int×Bool))):=
 (oB .i64 false q1 p1).bind λw1=>
 cond w1
 (some (false,q0_0,q0_1,q1))
 ((AQ .i64 q1 p1 true).bind λl2=>
 (idx q0_0 p1).bind λx3=>
 jn (fun(b4:Bool)=>
 cond b4
 (some (false,q0_0,q0_1,l2))
 (gW n self n (p2,p4,x3.rows,(x3.rows.length:Int),0,q0_0,q0_1,p3,x3,l2,()))) λk5=>
 cond (x3.kind==0)
 (k5 true)
 (jn (fun(b65:Bool)=>
 k5 b65) λk66=>
 cond (p1 !=0)
 ((vA n x3).bind λy67=>
 k66 (decide (y67<2)))
 (k66 false)))
def vQ(n:Nat)(p1:Int)(p2:Int)(p3:Key)(p4:Key)(q0_0:List aA)(q0_1:Int)(q1:List (Int×Bool)):Option (Bool×(List aA)×Int×(List (Int×Bool))):=AN (λn self x=>eV n self x.1 x.2.1 x.2.2.1 x.2.2.2.1 x.2.2.2.2.1 x.2.2.2.2.2.1 x.2.2.2.2.2.2.1) n (p1,p2,p3,p4,q0_0,q0_1,q1,())
@[reducible] def xD:Ct tab:=⟨80,[.one (.box 0 0),.one (.d (.int .i64)),.one (.d (.int .i64)),.st 1,.one (.ro (.st 1))],[.box [.d (.sl (.st 4)),.map 1,.d (.int .i64)],.map .i64 3 4 .bool],[.one (.d .bool)],[(some 0,.box [.d (.sl (.st 4)),.map 1,.d (.int .i64)]),(some 1,.map .i64 3 4 .bool)],(Bool×(List aA)×Int×(List (Int×Bool))),λy=>(y.1,y.2.1,y.2.2.1,y.2.2.2,()),λy=>(y.1,y.2.1,y.2.2.1,y.2.2.2.1),λ_=>rfl,λn x=>vQ n x.1 x.2.1 x.2.2.1 x.2.2.2.1 x.2.2.2.2.1 x.2.2.2.2.2.1 x.2.2.2.2.2.2.1⟩
theorem Fj:OkC Tryz.prog tab xD:=NF (W:=⟨Tryz.prog,tab,bE,[BF,Ax],bG,dpO,true⟩) ⟨aK,⟨IU,Fi,trivial⟩,aN⟩ (by kernel_rfl) 122 Tryz.f80 (.sq .n (.sq .n (.sq .n (.sq .n (.sq .n (.sq (.sq .n (.bk none (.lp ⟨[(0,.one (.box 0 0)),(2,.one (.d (.int .i64))),(4,.one (.ro (.st 1))),(8,.one (.box 1 0)),(11,.one (.box 2 0)),(50,.one (.d (.sl (.st 2)))),(51,.one (.d (.int .i64))),(52,.one (.d (.int .i64)))],[.box [.d (.sl (.st 4)),.map 3,.d (.int .i64)],.bst 1,.bst 4,.map .i64 3 4 .bool],[(0,0),(1,3)]⟩ .n))) (.sq (.sq .n (.cd none (.sq (.sq .n (.cd (some ⟨[(0,.one (.box 0 0)),(2,.one (.d (.int .i64)))],[.box [.d (.sl (.st 4)),.map 1,.d (.int .i64)],.map .i64 3 4 .bool],[(0,0),(1,1)]⟩) .n .n)) .n) .n)) (.sq (.sq .n (.bk none (.lp ⟨[(0,.one (.box 0 0)),(2,.one (.d (.int .i64))),(4,.one (.ro (.st 1))),(8,.one (.box 1 0)),(11,.one (.box 2 0)),(82,.one (.d (.sl (.st 3)))),(83,.one (.d (.int .i64))),(84,.one (.d (.int .i64)))],[.box [.d (.sl (.st 4)),.map 3,.d (.int .i64)],.bst 1,.bst 4,.map .i64 3 4 .bool],[(0,0),(1,3)]⟩ (.sq .n (.sq .n (.sq (.bk none (.sq .n (.sq .n (.sq (.sq .n (.cd (some ⟨[(0,.one (.box 0 0)),(2,.one (.d (.int .i64))),(4,.one (.ro (.st 1))),(8,.one (.box 1 0)),(11,.one (.box 2 0)),(14,.one (.d (.int .i64))),(15,.one (.box 3 0)),(16,.one (.box 4 0)),(17,.one (.ro (.st 1))),(82,.one (.d (.sl (.st 3)))),(83,.one (.d (.int .i64))),(84,.one (.d (.int .i64)))],[.box [.d (.sl (.st 4)),.map 5,.d (.int .i64)],.bst 1,.bst 4,.bst 3,.bst 1,.map .i64 3 4 .bool],[(0,0),(1,5)]⟩) .n .n)) (.sq (.sq .n (.cd (some ⟨[(0,.one (.box 0 0)),(2,.one (.d (.int .i64))),(4,.one (.ro (.st 1))),(8,.one (.box 1 0)),(11,.one (.box 2 0)),(15,.one (.box 3 0)),(16,.one (.box 4 0)),(17,.one (.ro (.st 1))),(82,.one (.d (.sl (.st 3)))),(83,.one (.d (.int .i64))),(84,.one (.d (.int .i64)))],[.box [.d (.sl (.st 4)),.map 5,.d (.int .i64)],.bst 1,.bst 4,.bst 3,.bst 1,.map .i64 3 4 .bool],[(0,0),(1,5)]⟩) .n .n)) .n))))) .n)))))) .n)))))))) Tryz.func80 Tryz.call80 rfl (by kernel_rfl) (by kernel_rfl) (by kernel_rfl) (λn self x=>eV n self x.1 x.2.1 x.2.2.1 x.2.2.2.1 x.2.2.2.2.1 x.2.2.2.2.2.1 x.2.2.2.2.2.2.1) (λ_=>rfl) (λ_ _=>rfl) λself n x=>by kernel_rfl
def oU(n:Nat):Int×(List aA)×Int×(List (Int×Bool))×Unit->Option (Bool×(List aA)×Int×(List (Int×Bool))):=fun⟨v17,v18,v19,v20,_⟩=>
 some ((v19==v17),v18,v19,v20)
def jH(n:Nat)(self:Int×Int×Key×(List aA)×Int×(List (Int×Bool))×Unit->Option (Bool×(List aA)×Int×(List (Int×Bool))))(r3:Int×(List Kid)×Int×Int×(List aA)×Int×Key×aA×(List (Int×Bool))×Unit->Option (Bool×(List aA)×Int×(List (Int×Bool)))):Int×Int×(List Kid)×Int×Int×(List aA)×Int×Key×aA×Kid×Key×(List (Int×Bool))×Unit->Option (Bool×(List aA)×Int×(List (Int×Bool))):=fun⟨v32,v33,v34,v35,v36,v37,v38,v39,v40,v41,v42,v43,_⟩=>
 cond (decide ((IntKind.wrap .i64 (v33+1))<(v40.kids.length:Int)))
 ((idx v40.kids (IntKind.wrap .i64 (v33+1))).bind λx44=>
 (vQ n v41.page (IntKind.wrap .i64 (v32+1)) v42 x44.least v37 v38 v43).bind λy45=>
 cond (!y45.1)
 (some (false,y45.2.1,y45.2.2.1,y45.2.2.2))
 (r3 (v32,v34,v35,(IntKind.wrap .i64 (v36+1)),y45.2.1,y45.2.2.1,v39,v40,y45.2.2.2,())))
 ((self (v41.page,(IntKind.wrap .i64 (v32+1)),v42,v37,v38,v43,())).bind λy46=>
 cond (!y46.1)
 (some (false,y46.2.1,y46.2.2.1,y46.2.2.2))
 (r3 (v32,v34,v35,(IntKind.wrap .i64 (v36+1)),y46.2.1,y46.2.2.1,v39,v40,y46.2.2.2,())))
def eI(n:Nat)(self:Int×Int×Key×(List aA)×Int×(List (Int×Bool))×Unit->Option (Bool×(List aA)×Int×(List (Int×Bool)))):Nat->Int×(List Kid)×Int×Int×(List aA)×Int×Key×aA×(List (Int×Bool))×Unit->Option (Bool×(List aA)×Int×(List (Int×Bool))):=aW λr3 ⟨v21,v22,v23,v24,v25,v26,v27,v28,v29,_⟩=>
 cond (decide (v24<v23))
 ((idx v22 v24).bind λx30=>
 jn (jH n self r3) λj4=>
 cond (decide (v24>0))
 ((iQ n x30.least v27).bind λy47=>
 cond (!y47)
 (some (false,v25,v26,v29))
 (j4 (v21,v24,v22,v23,v24,v25,v26,v27,v28,x30,x30.least,v29,())))
 (j4 (v21,v24,v22,v23,v24,v25,v26,v27,v28,x30,v27,v29,())))
 (some (true,v25,v26,v29))
def eJ(n:Nat)(self:Int×Int×Key×(List aA)×Int×(List (Int×Bool))×Unit->Option (Bool×(List aA)×Int×(List (Int×Bool)))):Nat->Int×(List Row)×Int×Int×(List aA)×Int×Key×aA×(List (Int×Bool))×Unit->Option (Bool×(List aA)×Int×(List (Int×Bool))):=aW λr1 ⟨v6,v7,v8,v9,v10,v11,v12,v13,v14,_⟩=>
 cond (decide (v9<v8))
 ((idx v7 v9).bind λx15=>
 (iQ n x15.key v12).bind λy16=>
 cond (!y16)
 (some (false,v10,v11,v14))
 (r1 (v6,v7,v8,(IntKind.wrap .i64 (v9+1)),v10,v11,v12,v13,v14,())))
 (cond (v13.kind==1)
 (jn (oU n) λj2=>
 cond (v11==0)
 (j2 (v6,v10,v6,v14,()))
 (j2 (v6,v10,v11,v14,())))
 (eI n self n (v6,v13.kids,(v13.kids.length:Int),0,v10,v11,v12,v13,v14,())))
def cP(n:Nat)(self:Int×Int×Key×(List aA)×Int×(List (Int×Bool))×Unit->Option (Bool×(List aA)×Int×(List (Int×Bool))))(p1:Int)(p2:Int)(p3:Key)(q0_0:List aA)(q0_1:Int)(q1:List (Int×Bool)):Option (Bool×(List aA)×Int×(List (Int×Bool))):=
 (oB .i64 false q1 p1).bind λw1=>
 cond w1
 (some (false,q0_0,q0_1,q1))
 ((AQ .i64 q1 p1 true).bind λl2=>
 (idx q0_0 p1).bind λx3=>
 jn (fun(b4:Bool)=>
 cond b4
 (some (false,q0_0,q0_1,l2))
 (eJ n self n (p2,x3.rows,(x3.rows.length:Int),0,q0_0,q0_1,p3,x3,l2,()))) λk5=>
 cond (x3.kind==0)
 (k5 true)
 (jn (fun(b48:Bool)=>
 k5 b48) λk49=>
 cond (p1 !=0)
 ((vA n x3).bind λy50=>
 k49 (decide (y50<2)))
 (k49 false)))
def iO(n:Nat)(p1:Int)(p2:Int)(p3:Key)(q0_0:List aA)(q0_1:Int)(q1:List (Int×Bool)):Option (Bool×(List aA)×Int×(List (Int×Bool))):=AN (λn self x=>cP n self x.1 x.2.1 x.2.2.1 x.2.2.2.1 x.2.2.2.2.1 x.2.2.2.2.2.1) n (p1,p2,p3,q0_0,q0_1,q1,())
@[reducible] def oV:Ct tab:=⟨80,[.one (.box 0 0),.one (.d (.int .i64)),.one (.d (.int .i64)),.st 1,.one (.nptr)],[.box [.d (.sl (.st 4)),.map 1,.d (.int .i64)],.map .i64 3 4 .bool],[.one (.d .bool)],[(some 0,.box [.d (.sl (.st 4)),.map 1,.d (.int .i64)]),(some 1,.map .i64 3 4 .bool)],(Bool×(List aA)×Int×(List (Int×Bool))),λy=>(y.1,y.2.1,y.2.2.1,y.2.2.2,()),λy=>(y.1,y.2.1,y.2.2.1,y.2.2.2.1),λ_=>rfl,λn x=>iO n x.1 x.2.1 x.2.2.1 x.2.2.2.1 x.2.2.2.2.1 x.2.2.2.2.2.1⟩
theorem Ay:OkC Tryz.prog tab oV:=NF (W:=⟨Tryz.prog,tab,bE,[tS,xD,Ax],bG,dpO,true⟩) ⟨aK,⟨Dp,Fj,Fi,trivial⟩,aN⟩ (by kernel_rfl) 122 Tryz.f80 (.sq .n (.sq .n (.sq .n (.sq .n (.sq .n (.sq (.sq .n (.bk none (.lp ⟨[(0,.one (.box 0 0)),(2,.one (.d (.int .i64))),(4,.one (.nptr)),(8,.one (.box 1 0)),(11,.one (.box 2 0)),(50,.one (.d (.sl (.st 2)))),(51,.one (.d (.int .i64))),(52,.one (.d (.int .i64)))],[.box [.d (.sl (.st 4)),.map 3,.d (.int .i64)],.bst 1,.bst 4,.map .i64 3 4 .bool],[(0,0),(1,3)]⟩ .n))) (.sq (.sq .n (.cd none (.sq (.sq .n (.cd (some ⟨[(0,.one (.box 0 0)),(2,.one (.d (.int .i64)))],[.box [.d (.sl (.st 4)),.map 1,.d (.int .i64)],.map .i64 3 4 .bool],[(0,0),(1,1)]⟩) .n .n)) .n) .n)) (.sq (.sq .n (.bk none (.lp ⟨[(0,.one (.box 0 0)),(2,.one (.d (.int .i64))),(4,.one (.nptr)),(8,.one (.box 1 0)),(11,.one (.box 2 0)),(82,.one (.d (.sl (.st 3)))),(83,.one (.d (.int .i64))),(84,.one (.d (.int .i64)))],[.box [.d (.sl (.st 4)),.map 3,.d (.int .i64)],.bst 1,.bst 4,.map .i64 3 4 .bool],[(0,0),(1,3)]⟩ (.sq .n (.sq .n (.sq (.bk none (.sq .n (.sq .n (.sq (.sq .n (.cd (some ⟨[(0,.one (.box 0 0)),(2,.one (.d (.int .i64))),(4,.one (.nptr)),(8,.one (.box 1 0)),(11,.one (.box 2 0)),(14,.one (.d (.int .i64))),(15,.one (.box 3 0)),(16,.one (.box 4 0)),(17,.one (.nptr)),(82,.one (.d (.sl (.st 3)))),(83,.one (.d (.int .i64))),(84,.one (.d (.int .i64)))],[.box [.d (.sl (.st 4)),.map 5,.d (.int .i64)],.bst 1,.bst 4,.bst 3,.bst 1,.map .i64 3 4 .bool],[(0,0),(1,5)]⟩) .n .n)) .n)))) .n)))))) .n)))))))) Tryz.func80 Tryz.call80 rfl (by kernel_rfl) (by kernel_rfl) (by kernel_rfl) (λn self x=>cP n self x.1 x.2.1 x.2.2.1 x.2.2.2.1 x.2.2.2.2.1 x.2.2.2.2.2.1) (λ_=>rfl) (λ_ _=>rfl) λself n x=>by kernel_rfl
def xE(n:Nat)(p0:aA):Option Bool:=
 (jA n p0).bind λy1=>
 some (y1 !=0)
@[reducible] def BL:Ct tab:=⟨78,[.st 4],[],[.one (.d .bool)],[],Bool,λy=>(y,()),λy=>y.1,λ_=>rfl,λn x=>xE n x.1⟩
theorem IW:OkC Tryz.prog tab BL:=aQ (W:=⟨Tryz.prog,tab,bE,[iR],bG,dpO,false⟩) ⟨aK,⟨kG,trivial⟩,aN⟩ (by kernel_rfl) 6 Tryz.f78 .n Tryz.func78 Tryz.call78 rfl (by kernel_rfl) (by kernel_rfl) (by kernel_rfl) λn x=>by kernel_rfl
def cV(n:Nat):Nat->(List aA)×Int×Int×Unit->Option Int:=aW λr1 ⟨v1,v2,v3,_⟩=>
 cond (decide (v3<v2))
 ((idx v1 v3).bind λx4=>
 (xE n x4).bind λy5=>
 cond y5
 (some v3)
 (r1 (v1,v2,(IntKind.wrap .i64 (v3+1)),())))
 (some (-1))
def fK(n:Nat)(p0:List aA):Option Int:=
 cV n n (p0,(p0.length:Int),0,())
@[reducible] def iK:Ct tab:=⟨127,[.one (.d (.sl (.st 4))),.one (.fn 78 [])],[],[.one (.d (.int .i64))],[],Int,λy=>(y,()),λy=>y.1,λ_=>rfl,λn x=>fK n x.1⟩
theorem pZ:OkC Tryz.prog tab iK:=aQ (W:=⟨Tryz.prog,tab,bE,[BL],bG,dpO,false⟩) ⟨aK,⟨IW,trivial⟩,aN⟩ (by kernel_rfl) 19 Tryz.f127 (.sq .n (.sq (.sq .n (.bk none (.lp ⟨[(0,.one (.d (.sl (.st 4)))),(1,.one (.fn 78 [])),(7,.one (.d (.int .i64))),(8,.one (.d (.int .i64)))],[],[]⟩ .n))) .n)) Tryz.func127 Tryz.call127 rfl (by kernel_rfl) (by kernel_rfl) (by kernel_rfl) λn x=>by kernel_rfl
def cW(n:Nat)(p0:List aA):Option Bool:=
 (fK n p0).bind λy1=>
 some (decide (y1>=0))
@[reducible] def gF:Ct tab:=⟨79,[.one (.d (.sl (.st 4))),.one (.fn 78 [])],[],[.one (.d .bool)],[],Bool,λy=>(y,()),λy=>y.1,λ_=>rfl,λn x=>cW n x.1⟩
theorem nK:OkC Tryz.prog tab gF:=aQ (W:=⟨Tryz.prog,tab,bE,[iK],bG,dpO,false⟩) ⟨aK,⟨pZ,trivial⟩,aN⟩ (by kernel_rfl) 9 Tryz.f79 .n Tryz.func79 Tryz.call79 rfl (by kernel_rfl) (by kernel_rfl) (by kernel_rfl) λn x=>by kernel_rfl
def Nn(n:Nat):Nat->(List aA)×Int×Int×(List aA)×Int×(List (Int×Bool))×Unit->Option (Bool×(List aA)×Int×(List (Int×Bool))):=aW λr1 ⟨v1,v2,v3,v4,v5,v6,_⟩=>
 cond (decide (v3<v2))
 ((idx v1 v3).bind λx7=>
 (oB .i64 false v6 v3).bind λw8=>
 jn (fun(b9:Bool)=>
 cond b9
 (some (false,v4,v5,v6))
 (r1 (v1,v2,(IntKind.wrap .i64 (v3+1)),v4,v5,v6,()))) λk10=>
 cond (!w8)
 (k10 (x7.kind !=0))
 (k10 false))
 (some (true,v4,v5,v6))
def Np(n:Nat):Nat->(List aA)×Int×Int×(List aA)×Int×(List (Int×Bool))×Unit->Option (Bool×(List aA)×Int×(List (Int×Bool))):=aW λr2 ⟨v12,v13,v14,v15,v16,v17,_⟩=>
 cond (decide (v14<v13))
 ((idx v12 v14).bind λx18=>
 (oB .i64 false v17 v14).bind λw19=>
 jn (fun(b20:Bool)=>
 cond b20
 (some (false,v15,v16,v17))
 (r2 (v12,v13,(IntKind.wrap .i64 (v14+1)),v15,v16,v17,()))) λk21=>
 cond (!w19)
 (k21 (x18.kind !=0))
 (k21 false))
 (some (true,v15,v16,v17))
def Nq(n:Nat):Nat->(List aA)×Int×Int×(List aA)×Int×(List (Int×Bool))×Unit->Option (Bool×(List aA)×Int×(List (Int×Bool))):=aW λr3 ⟨v23,v24,v25,v26,v27,v28,_⟩=>
 cond (decide (v25<v24))
 ((idx v23 v25).bind λx29=>
 (oB .i64 false v28 v25).bind λw30=>
 jn (fun(b31:Bool)=>
 cond b31
 (some (false,v26,v27,v28))
 (r3 (v23,v24,(IntKind.wrap .i64 (v25+1)),v26,v27,v28,()))) λk32=>
 cond (!w30)
 (k32 (x29.kind !=0))
 (k32 false))
 (some (true,v26,v27,v28))
def uH(n:Nat):Nat->(List aA)×Int×Int×(List aA)×Int×(List (Int×Bool))×Unit->Option (Bool×(List aA)×Int×(List (Int×Bool))):=aW λr4 ⟨v34,v35,v36,v37,v38,v39,_⟩=>
 cond (decide (v36<v35))
 ((idx v34 v36).bind λx40=>
 (oB .i64 false v39 v36).bind λw41=>
 jn (fun(b42:Bool)=>
 cond b42
 (some (false,v37,v38,v39))
 (r4 (v34,v35,(IntKind.wrap .i64 (v36+1)),v37,v38,v39,()))) λk43=>
 cond (!w41)
 (k43 (x40.kind !=0))
 (k43 false))
 (some (true,v37,v38,v39))
def qJ(n:Nat)(p0:aC):Option (Bool×(List aA)×Int×(List (Int×Bool))):=
 cond ((p0.pages.length:Int) !=64)
 (cond true
 (cond true
 (some (false,p0.pages,0,([]:List (Int×Bool))))
 (Nn n n (p0.pages,(p0.pages.length:Int),0,p0.pages,0,([]:List (Int×Bool)),())))
 ((iO n 0 1 (Key.mk 0 0) p0.pages 0 ([]:List (Int×Bool))).bind λy11=>
 cond (!y11.1)
 (some (false,y11.2.1,y11.2.2.1,y11.2.2.2))
 (Np n n (p0.pages,(p0.pages.length:Int),0,y11.2.1,y11.2.2.1,y11.2.2.2,()))))
 ((cW n p0.pages).bind λy22=>
 cond y22
 (cond true
 (some (false,p0.pages,0,([]:List (Int×Bool))))
 (Nq n n (p0.pages,(p0.pages.length:Int),0,p0.pages,0,([]:List (Int×Bool)),())))
 ((iO n 0 1 (Key.mk 0 0) p0.pages 0 ([]:List (Int×Bool))).bind λy33=>
 cond (!y33.1)
 (some (false,y33.2.1,y33.2.2.1,y33.2.2.2))
 (uH n n (p0.pages,(p0.pages.length:Int),0,y33.2.1,y33.2.2.1,y33.2.2.2,()))))
@[reducible] def uI:Ct tab:=⟨47,[.st 5],[],[.one (.box 0 0),.one (.d .bool)],[(none,.box [.d (.sl (.st 4)),.map 1,.d (.int .i64)]),(none,.map .i64 3 4 .bool)],(Bool×(List aA)×Int×(List (Int×Bool))),λy=>(y.1,y.2.1,y.2.2.1,y.2.2.2,()),λy=>(y.1,y.2.1,y.2.2.1,y.2.2.2.1),λ_=>rfl,λn x=>qJ n x.1⟩
theorem Az:OkC Tryz.prog tab uI:=aQ (W:=⟨Tryz.prog,tab,bE,[oV,gF],bG,dpO,false⟩) ⟨aK,⟨Ay,nK,trivial⟩,aN⟩ (by kernel_rfl) 52 Tryz.f47 (.sq .n (.sq .n (.sq .n (.sq (.sq (.rg [1000000]) .n) (.sq (.sq .n (.bk none (.lp ⟨[(4,.one (.box 0 0)),(30,.one (.d (.sl (.st 4)))),(31,.one (.d (.int .i64))),(32,.one (.d (.int .i64)))],[.box [.d (.sl (.st 4)),.map 1,.d (.int .i64)],.map .i64 3 4 .bool],[]⟩ .n))) .n))))) Tryz.func47 Tryz.call47 rfl (by kernel_rfl) (by kernel_rfl) (by kernel_rfl) λn x=>by kernel_rfl
def jI(n:Nat)(p0:aC):Option Int:=
 (qJ n p0).bind λy1=>
 cond (!y1.1)
 (some 230)
 (some 0)
@[reducible] def mN:Ct tab:=⟨17,[.st 5],[],[.one (.d (.int .i64))],[],Int,λy=>(y,()),λy=>y.1,λ_=>rfl,λn x=>jI n x.1⟩
theorem rG:OkC Tryz.prog tab mN:=aQ (W:=⟨Tryz.prog,tab,bE,[uI],bG,dpO,false⟩) ⟨aK,⟨Az,trivial⟩,aN⟩ (by kernel_rfl) 12 Tryz.f17 .n Tryz.func17 Tryz.call17 rfl (by kernel_rfl) (by kernel_rfl) (by kernel_rfl) λn x=>by kernel_rfl
def fB(n:Nat)(p0:List aA):Option ((List aA)):=
 La p0.isEmpty
 (some ([]:List aA))
 ((app 56 ([]:List aA) p0).bind λl1=>
 some l1)
@[reducible] def nU:Ct tab:=⟨92,[.one (.d (.sl (.st 4)))],[],[.one (.own 0)],[(none,.row 47 (.st 4))],((List aA)),λy=>(y,()),λy=>y.1,λ_=>rfl,λn x=>fB n x.1⟩
theorem zK:OkC Tryz.prog tab nU:=aQ (W:=⟨Tryz.prog,tab,bE,[],bG,dpO,false⟩) ⟨aK,trivial,aN⟩ (by kernel_rfl) 8 Tryz.f92 .n Tryz.func92 Tryz.call92 rfl (by kernel_rfl) (by kernel_rfl) (by kernel_rfl) λn x=>by kernel_rfl
def kH(n:Nat)(p0:aC):Option ((List aA)×(List aG)):=
 (fB n p0.pages).bind λy1=>
 some (y1,([]:List aG))
@[reducible] def rH:Ct tab:=⟨59,[.st 5],[],[.one (.box 0 0)],[(none,.box [.own 1,.own 2]),(none,.row 47 (.st 4)),(none,.row 74 (.st 7))],((List aA)×(List aG)),λy=>(y.1,y.2,()),λy=>(y.1,y.2.1),λ_=>rfl,λn x=>kH n x.1⟩
theorem xU:OkC Tryz.prog tab rH:=aQ (W:=⟨Tryz.prog,tab,bE,[nU],bG,dpO,false⟩) ⟨aK,⟨zK,trivial⟩,aN⟩ (by kernel_rfl) 9 Tryz.f59 .n Tryz.func59 Tryz.call59 rfl (by kernel_rfl) (by kernel_rfl) (by kernel_rfl) λn x=>by kernel_rfl
def iE(n:Nat):Nat->Int×(List aA)×Int×Int×Unit->Option Int:=aW λr2 ⟨v8,v9,v10,v11,_⟩=>
 cond (decide (v11<v10))
 ((idx v9 v11).bind λx12=>
 jn (fun(b13:Bool)=>
 cond b13
 (some 211)
 (jn (fun(b15:Bool)=>
 cond b15
 (some 212)
 (r2 (v8,v9,v10,(IntKind.wrap .i64 (v11+1)),()))) λk16=>
 cond (v8==2)
 (k16 (x12.kind !=v8))
 (k16 false))) λk14=>
 cond (v8==1)
 (k14 (x12.kind !=v8))
 (k14 false))
 (some 0)
def jX(n:Nat):Nat->Int×(List aA)×(List aA)×Int×Int×Unit->Option Int:=aW λr1 ⟨v1,v2,v3,v4,v5,_⟩=>
 cond (decide (v5<v4))
 ((idx v3 v5).bind λx6=>
 (jA n x6).bind λy7=>
 cond (y7 !=0)
 (some y7)
 (r1 (v1,v2,v3,v4,(IntKind.wrap .i64 (v5+1)),())))
 (iE n n (v1,v2,(v2.length:Int),0,()))
def dG(n:Nat)(p0:Int)(p1:List aA):Option Int:=
 jX n n (p0,p1,p1,(p1.length:Int),0,())
@[reducible] def dK:Ct tab:=⟨96,[.one (.d (.int .i64)),.one (.d (.sl (.st 4)))],[],[.one (.d (.int .i64))],[],Int,λy=>(y,()),λy=>y.1,λ_=>rfl,λn x=>dG n x.1 x.2.1⟩
theorem eG:OkC Tryz.prog tab dK:=aQ (W:=⟨Tryz.prog,tab,bE,[iR],bG,dpO,false⟩) ⟨aK,⟨kG,trivial⟩,aN⟩ (by kernel_rfl) 47 Tryz.f96 (.sq .n (.sq (.sq .n (.bk none (.lp ⟨[(0,.one (.d (.int .i64))),(1,.one (.d (.sl (.st 4)))),(10,.one (.d (.sl (.st 4)))),(11,.one (.d (.int .i64))),(12,.one (.d (.int .i64)))],[],[]⟩ .n))) (.sq (.sq .n (.bk none (.lp ⟨[(0,.one (.d (.int .i64))),(22,.one (.d (.sl (.st 4)))),(23,.one (.d (.int .i64))),(24,.one (.d (.int .i64)))],[],[]⟩ .n))) .n))) Tryz.func96 Tryz.call96 rfl (by kernel_rfl) (by kernel_rfl) (by kernel_rfl) λn x=>by kernel_rfl
def AA(n:Nat)(p0:Kid)(p1:Key):Option Bool:=
 (dU n p0.least p1).bind λy1=>
 some (decide (y1>0))
@[reducible] def DI:Ct tab:=⟨97,[.st 3,.one (.ro (.st 1))],[],[.one (.d .bool)],[],Bool,λy=>(y,()),λy=>y.1,λ_=>rfl,λn x=>AA n x.1 x.2.1⟩
theorem KM:OkC Tryz.prog tab DI:=aQ (W:=⟨Tryz.prog,tab,bE,[fA],bG,dpO,false⟩) ⟨aK,⟨gC,trivial⟩,aN⟩ (by kernel_rfl) 9 Tryz.f97 .n Tryz.func97 Tryz.call97 rfl (by kernel_rfl) (by kernel_rfl) (by kernel_rfl) λn x=>by kernel_rfl
def eC(n:Nat):Nat->(List Kid)×Key×Int×Int×Unit->Option Int:=aW λr1 ⟨v1,v2,v3,v4,_⟩=>
 cond (decide (v4<v3))
 ((idx v1 v4).bind λx5=>
 (AA n x5 v2).bind λy6=>
 cond y6
 (some v4)
 (r1 (v1,v2,v3,(IntKind.wrap .i64 (v4+1)),())))
 (some (-1))
def iG(n:Nat)(p0:List Kid)(p1:Key):Option Int:=
 eC n n (p0,p1,(p0.length:Int),0,())
@[reducible] def kD:Ct tab:=⟨99,[.one (.d (.sl (.st 3))),.one (.fn 97 [.ro (.st 1)])],[],[.one (.d (.int .i64))],[],Int,λy=>(y,()),λy=>y.1,λ_=>rfl,λn x=>iG n x.1 x.2.1⟩
theorem uJ:OkC Tryz.prog tab kD:=aQ (W:=⟨Tryz.prog,tab,bE,[DI],bG,dpO,false⟩) ⟨aK,⟨KM,trivial⟩,aN⟩ (by kernel_rfl) 19 Tryz.f99 (.sq .n (.sq (.sq .n (.bk none (.lp ⟨[(0,.one (.d (.sl (.st 3)))),(1,.one (.fn 97 [.ro (.st 1)])),(7,.one (.d (.int .i64))),(8,.one (.d (.int .i64)))],[],[]⟩ .n))) .n)) Tryz.func99 Tryz.call99 rfl (by kernel_rfl) (by kernel_rfl) (by kernel_rfl) λn x=>by kernel_rfl
def kI(n:Nat)(p0:aA)(p1:Key):Option (Int×Int):=
 (dG n 2 ([p0]:List aA)).bind λy1=>
 cond (y1 !=0)
 (some (0,y1))
 ((sub p0.kids 1 (p0.kids.length:Int)).bind λl2=>
 (iG n l2 p1).bind λy3=>
 cond (decide (y3>=0))
 (some (y3,0))
 (some ((IntKind.wrap .i64 ((p0.kids.length:Int)-1)),0)))
@[reducible] def rZ:Ct tab:=⟨62,[.st 4,.st 1],[],[.one (.d (.int .i64)),.one (.d (.int .i64))],[],(Int×Int),λy=>(y.1,y.2,()),λy=>(y.1,y.2.1),λ_=>rfl,λn x=>kI n x.1 x.2.1⟩
theorem xF:OkC Tryz.prog tab rZ:=aQ (W:=⟨Tryz.prog,tab,bE,[dK,kD],bG,dpO,false⟩) ⟨aK,⟨eG,uJ,trivial⟩,aN⟩ (by kernel_rfl) 28 Tryz.f62 .n Tryz.func62 Tryz.call62 rfl (by kernel_rfl) (by kernel_rfl) (by kernel_rfl) λn x=>by kernel_rfl
def Ey(n:Nat)(p0:Row)(p1:Key):Option Bool:=
 some (Key.eqb p0.key p1)
@[reducible] def DK:Ct tab:=⟨145,[.st 2,.one (.ro (.st 1))],[],[.one (.d .bool)],[],Bool,λy=>(y,()),λy=>y.1,λ_=>rfl,λn x=>Ey n x.1 x.2.1⟩
theorem KN:OkC Tryz.prog tab DK:=aQ (W:=⟨Tryz.prog,tab,bE,[],bG,dpO,false⟩) ⟨aK,trivial,aN⟩ (by kernel_rfl) 8 Tryz.f145 .n Tryz.func145 Tryz.call145 rfl (by kernel_rfl) (by kernel_rfl) (by kernel_rfl) λn x=>by kernel_rfl
def fL(n:Nat):Nat->(List Row)×Key×Int×Int×Unit->Option Int:=aW λr1 ⟨v1,v2,v3,v4,_⟩=>
 cond (decide (v4<v3))
 ((idx v1 v4).bind λx5=>
 (Ey n x5 v2).bind λy6=>
 cond y6
 (some v4)
 (r1 (v1,v2,v3,(IntKind.wrap .i64 (v4+1)),())))
 (some (-1))
def gQ(n:Nat)(p0:List Row)(p1:Key):Option Int:=
 fL n n (p0,p1,(p0.length:Int),0,())
@[reducible] def jT:Ct tab:=⟨104,[.one (.d (.sl (.st 2))),.one (.fn 145 [.ro (.st 1)])],[],[.one (.d (.int .i64))],[],Int,λy=>(y,()),λy=>y.1,λ_=>rfl,λn x=>gQ n x.1 x.2.1⟩
theorem tF:OkC Tryz.prog tab jT:=aQ (W:=⟨Tryz.prog,tab,bE,[DK],bG,dpO,false⟩) ⟨aK,⟨KN,trivial⟩,aN⟩ (by kernel_rfl) 19 Tryz.f104 (.sq .n (.sq (.sq .n (.bk none (.lp ⟨[(0,.one (.d (.sl (.st 2)))),(1,.one (.fn 145 [.ro (.st 1)])),(7,.one (.d (.int .i64))),(8,.one (.d (.int .i64)))],[],[]⟩ .n))) .n)) Tryz.func104 Tryz.call104 rfl (by kernel_rfl) (by kernel_rfl) (by kernel_rfl) λn x=>by kernel_rfl
def zL(n:Nat)(p0:List Row)(p1:Key):Option (Int×Bool):=
 (gQ n p0 p1).bind λy1=>
 some ((if 0>y1 then 0 else y1),(decide (y1>=0)))
@[reducible] def xG:Ct tab:=⟨102,[.one (.d (.sl (.st 2))),.st 1],[],[.one (.d (.int .i64)),.one (.d .bool)],[],(Int×Bool),λy=>(y.1,y.2,()),λy=>(y.1,y.2.1),λ_=>rfl,λn x=>zL n x.1 x.2.1⟩
theorem BM:OkC Tryz.prog tab xG:=aQ (W:=⟨Tryz.prog,tab,bE,[jT],bG,dpO,false⟩) ⟨aK,⟨tF,trivial⟩,aN⟩ (by kernel_rfl) 14 Tryz.f102 .n Tryz.func102 Tryz.call102 rfl (by kernel_rfl) (by kernel_rfl) (by kernel_rfl) λn x=>by kernel_rfl
def BN(n:Nat)(p0:aA)(p1:Key):Option (Row×Int):=
 (dG n 1 ([p0]:List aA)).bind λy1=>
 cond (y1 !=0)
 (some ((Row.mk (Key.mk 0 0) 0 ByteArray.empty),y1))
 ((zL n p0.rows p1).bind λy2=>
 cond (!y2.2)
 (some ((Row.mk (Key.mk 0 0) 0 ByteArray.empty),4))
 ((idx p0.rows y2.1).bind λx3=>
 some (x3,0)))
@[reducible] def BO:Ct tab:=⟨85,[.st 4,.st 1],[],[.st 2,.one (.d (.int .i64))],[],(Row×Int),λy=>(y.1,y.2,()),λy=>(y.1,y.2.1),λ_=>rfl,λn x=>BN n x.1 x.2.1⟩
theorem Hp:OkC Tryz.prog tab BO:=aQ (W:=⟨Tryz.prog,tab,bE,[dK,xG],bG,dpO,false⟩) ⟨aK,⟨eG,BM,trivial⟩,aN⟩ (by kernel_rfl) 31 Tryz.f85 .n Tryz.func85 Tryz.call85 rfl (by kernel_rfl) (by kernel_rfl) (by kernel_rfl) λn x=>by kernel_rfl
def sA(n:Nat):Nat->aC×Key×Row×aA×Unit->Option (Row×Int):=aW λr1 ⟨v2,v3,v4,v5,_⟩=>
 cond (v5.kind==2)
 ((kI n v5 v3).bind λy6=>
 (idx v5.kids y6.1).bind λx7=>
 (idx v2.pages x7.page).bind λx8=>
 r1 (v2,v3,v4,x8,()))
 ((BN n v5 v3).bind λy9=>
 some (y9.1,y9.2))
def BP(n:Nat)(p0:aC)(p1:Key):Option (Row×Int):=
 (idx p0.pages 0).bind λx1=>
 sA n n (p0,p1,(Row.mk (Key.mk 0 0) 0 ByteArray.empty),x1,())
@[reducible] def BQ:Ct tab:=⟨52,[.st 5,.st 1],[],[.st 2,.one (.d (.int .i64))],[],(Row×Int),λy=>(y.1,y.2,()),λy=>(y.1,y.2.1),λ_=>rfl,λn x=>BP n x.1 x.2.1⟩
theorem Hq:OkC Tryz.prog tab BQ:=aQ (W:=⟨Tryz.prog,tab,bE,[rZ,BO],bG,dpO,false⟩) ⟨aK,⟨xF,Hp,trivial⟩,aN⟩ (by kernel_rfl) 37 Tryz.f52 (.sq .n (.sq .n (.sq (.bk none (.lp ⟨[(2,.one (.box 0 0)),(3,.one (.box 1 0)),(4,.one (.box 2 0)),(6,.one (.box 3 0))],[.bst 5,.bst 1,.bst 2,.bst 4],[]⟩ .n)) .n))) Tryz.func52 Tryz.call52 rfl (by kernel_rfl) (by kernel_rfl) (by kernel_rfl) λn x=>by kernel_rfl
def aY(n:Nat)(p0:bQ)(p1:Int)(p2:Key):Option Int:=
 (idx p0.f.pages p1).bind λx1=>
 (kI n x1 p2).bind λy2=>
 (idx p0.f.pages p1).bind λx3=>
 (idx x3.kids y2.1).bind λx4=>
 some x4.page
@[reducible] def lR:Ct tab:=⟨64,[.one (.ro (.st 8)),.one (.d (.int .i64)),.st 1],[],[.one (.d (.int .i64))],[],Int,λy=>(y,()),λy=>y.1,λ_=>rfl,λn x=>aY n x.1 x.2.1 x.2.2.1⟩
theorem tT:OkC Tryz.prog tab lR:=aQ (W:=⟨Tryz.prog,tab,bE,[rZ],bG,dpO,false⟩) ⟨aK,⟨xF,trivial⟩,aN⟩ (by kernel_rfl) 35 Tryz.f64 .n Tryz.func64 Tryz.call64 rfl (by kernel_rfl) (by kernel_rfl) (by kernel_rfl) λn x=>by kernel_rfl
def qK(n:Nat)(p0:aA):Option Bool:=
 jn (fun(b1:Bool)=>
 jn (fun(b3:Bool)=>
 some b3) λk4=>
 cond b1
 (k4 true)
 (jn (fun(b5:Bool)=>
 k4 b5) λk6=>
 cond (p0.kind==2)
 ((eL n p0).bind λy7=>
 k6 (y7==4))
 (k6 false))) λk2=>
 cond (p0.kind==1)
 ((eL n p0).bind λy8=>
 k2 (y8==4))
 (k2 false)
@[reducible] def oW:Ct tab:=⟨93,[.st 4],[],[.one (.d .bool)],[],Bool,λy=>(y,()),λy=>y.1,λ_=>rfl,λn x=>qK n x.1⟩
theorem uK:OkC Tryz.prog tab oW:=aQ (W:=⟨Tryz.prog,tab,bE,[jG],bG,dpO,false⟩) ⟨aK,⟨kZ,trivial⟩,aN⟩ (by kernel_rfl) 21 Tryz.f93 .n Tryz.func93 Tryz.call93 rfl (by kernel_rfl) (by kernel_rfl) (by kernel_rfl) λn x=>by kernel_rfl
end
end Go.Proofs.YtlcmdgpjiendmaaGreat
