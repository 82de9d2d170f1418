import Derived.Test.YtlcmdgpjiendmaaGreatTypes
import Derived.Test.YtlcmdgpjiendmaaGreatF1
namespace Go.Proofs.YtlcmdgpjiendmaaGreat
open Go Go.Bur Go.RowKit
set_option linter.unusedVariables false
set_option linter.unusedSimpArgs false
set_option maxRecDepth 100000
noncomputable section
def BU(n:Nat):aA×(List Row)×Unit->Option (aA×Int):=fun⟨v14,v15,_⟩=>
 (fZ n v15).bind λy16=>
 (mO n y16).bind λy17=>
 some (y17.1,y17.2)
def Hr(n:Nat)(j1:aA×(List Row)×Unit->Option (aA×Int)):Int×Row×aA×(List Row)×Unit->Option (aA×Int):=fun⟨v22,v23,v24,v25,_⟩=>
 (pA n v22 v25 ([v23]:List Row)).bind λy26=>
 j1 (v24,y26,())
def kJ(n:Nat)(p0:aA)(p1:Row):Option (aA×Int):=
 (dG n 1 ([p0]:List aA)).bind λy1=>
 cond (y1 !=0)
 (some ((aA.mk 0 ([]:List Row) ([]:List Kid)),y1))
 ((gD n p1).bind λy2=>
 cond (y2 !=0)
 (some ((aA.mk 0 ([]:List Row) ([]:List Kid)),y2))
 ((dV n p0.rows).bind λy3=>
 (zL n y3 p1.key).bind λy4=>
 jn (BU n) λj1=>
 cond y4.2
 ((idx y3 y4.1).bind λx18=>
 (put y3 y4.1 p1).bind λl19=>
 j1 ((aA.mk 0 ([]:List Row) ([]:List Kid)),l19,()))
 ((qK n p0).bind λy20=>
 cond y20
 (some ((aA.mk 0 ([]:List Row) ([]:List Kid)),6))
 ((gR n y3 p1).bind λy21=>
 jn (Hr n j1) λj2=>
 cond (decide (y21<0))
 (j2 ((y3.length:Int),p1,(aA.mk 0 ([]:List Row) ([]:List Kid)),y3,()))
 (j2 (y21,p1,(aA.mk 0 ([]:List Row) ([]:List Kid)),y3,()))))))
@[reducible] def Hs:Ct tab:=⟨65,[.st 4,.st 2],[],[.st 4,.one (.d (.int .i64))],[],(aA×Int),λy=>(y.1,y.2,()),λy=>(y.1,y.2.1),λ_=>rfl,λn x=>kJ n x.1 x.2.1⟩
theorem O9:OkC Tryz.prog tab Hs:=aQ (W:=⟨Tryz.prog,tab,bE,[dK,kC,iP,xG,lA,nV,oW,jU,sF],bG,dpO,false⟩) ⟨aK,⟨eG,oQ,lS,BM,oX,sC,uK,tI,BT,trivial⟩,aN⟩ (by kernel_rfl) 63 Tryz.f65 (.sq .n (.sq .n (.sq .n (.sq .n (.sq .n (.sq (.bk none (.sq .n (.cd (some ⟨[(4,.one (.box 0 0)),(8,.one (.own 1))],[.bst 4,.row 40 (.st 2)],[]⟩) .n (.sq .n (.cd none .n (.sq .n (.sq (.sq .n (.sq .n (.cd (some ⟨[(3,.one (.box 0 0)),(4,.one (.box 1 0)),(8,.one (.own 2)),(9,.one (.d (.int .i64)))],[.bst 2,.bst 4,.row 40 (.st 2)],[]⟩) .n .n))) .n))))))) .n)))))) Tryz.func65 Tryz.call65 rfl (by kernel_rfl) (by kernel_rfl) (by kernel_rfl) λn x=>by kernel_rfl
def eX(n:Nat)(q1:List aA)(q2:List aG):Option (Bool×(List aA)×(List aG)):=
 (idx q1 0).bind λx1=>
 (idx q1 0).bind λx2=>
 (nL n x2).bind λy3=>
 (dW n (bQ.mk (aC.mk q1) q2) ([]:List Int)).bind λy4=>
 (dW n (bQ.mk (aC.mk q1) q2) ([y4.1]:List Int)).bind λy5=>
 jn (fun(b6:Bool)=>
 cond b6
 (some (false,q1,q2))
 ((bL n q1 q2 ([(aF.mk 0 (aA.mk 2 ([]:List Row) ([(Kid.mk (Key.mk 0 0) y4.1),(Kid.mk y3.2.2.1 y5.1)]:List Kid))),(aF.mk y4.1 y3.1),(aF.mk y5.1 y3.2.1)]:List aF)).bind λy8=>
 some (true,y8.1,y8.2))) λk7=>
 cond (!y4.2)
 (k7 true)
 (k7 (!y5.2))
@[reducible] def qF:Ct tab:=⟨61,[.one (.box 0 0)],[.box [.own 1,.own 2],.row 47 (.st 4),.row 74 (.st 7)],[.one (.d .bool)],[(some 0,.box [.own 1,.own 2]),(none,.row 47 (.st 4)),(none,.row 74 (.st 7))],(Bool×(List aA)×(List aG)),λy=>(y.1,y.2.1,y.2.2,()),λy=>(y.1,y.2.1,y.2.2.1),λ_=>rfl,λn x=>eX n x.1 x.2.1⟩
theorem Br:OkC Tryz.prog tab qF:=aQ (W:=⟨Tryz.prog,tab,bE,[xW,lW,dX],bG,dpO,false⟩) ⟨aK,⟨DL,tV,fC,trivial⟩,aN⟩ (by kernel_rfl) 61 Tryz.f61 .n Tryz.func61 Tryz.call61 rfl (by kernel_rfl) (by kernel_rfl) (by kernel_rfl) λn x=>by kernel_rfl
def jC(n:Nat):Nat->Int×Int×Row×(List aA)×(List aG)×Unit->Option (Int×(List aG)):=aW λr1 ⟨v9,v10,v11,v12,v13,_⟩=>
 (idx v12 v9).bind λx14=>
 (idx v12 v9).bind λx15=>
 cond (x15.kind==2)
 ((idx v12 v9).bind λx16=>
 (idx v12 v9).bind λx17=>
 (kI n x17 v11.key).bind λy18=>
 cond (v10==4)
 ((idx v12 v9).bind λx19=>
 (idx v12 v9).bind λx20=>
 (idx x20.kids y18.1).bind λx21=>
 (idx v12 x21.page).bind λx22=>
 (idx v12 x21.page).bind λx23=>
 (lC n x23).bind λy24=>
 cond y24
 ((bV n v9 y18.1 v12 v13).bind λy25=>
 cond (!y25.1)
 (some (6,([]:List aG)))
 ((aY n (bQ.mk (aC.mk y25.2.1) y25.2.2) v9 v11.key).bind λy26=>
 r1 (y26,v10,v11,y25.2.1,y25.2.2,())))
 (cond false
 (some (6,([]:List aG)))
 ((aY n (bQ.mk (aC.mk v12) v13) v9 v11.key).bind λy27=>
 r1 (y27,v10,v11,v12,v13,()))))
 (cond false
 ((bV n v9 y18.1 v12 v13).bind λy28=>
 cond (!y28.1)
 (some (6,([]:List aG)))
 ((aY n (bQ.mk (aC.mk y28.2.1) y28.2.2) v9 v11.key).bind λy29=>
 r1 (y29,v10,v11,y28.2.1,y28.2.2,())))
 (cond false
 (some (6,([]:List aG)))
 ((aY n (bQ.mk (aC.mk v12) v13) v9 v11.key).bind λy30=>
 r1 (y30,v10,v11,v12,v13,())))))
 ((idx v12 v9).bind λx31=>
 (idx v12 v9).bind λx32=>
 (kJ n x32 v11).bind λy33=>
 (bL n v12 v13 ([(aF.mk v9 y33.1)]:List aF)).bind λy34=>
 some (0,y34.2))
def BV(n:Nat):Nat->Int×Int×Row×(List aA)×(List aG)×Unit->Option (Int×(List aG)):=aW λr2 ⟨v35,v36,v37,v38,v39,_⟩=>
 (idx v38 v35).bind λx40=>
 (idx v38 v35).bind λx41=>
 cond (x41.kind==2)
 ((idx v38 v35).bind λx42=>
 (idx v38 v35).bind λx43=>
 (kI n x43 v37.key).bind λy44=>
 cond (v36==4)
 ((idx v38 v35).bind λx45=>
 (idx v38 v35).bind λx46=>
 (idx x46.kids y44.1).bind λx47=>
 (idx v38 x47.page).bind λx48=>
 (idx v38 x47.page).bind λx49=>
 (lC n x49).bind λy50=>
 cond y50
 ((bV n v35 y44.1 v38 v39).bind λy51=>
 cond (!y51.1)
 (some (6,([]:List aG)))
 ((aY n (bQ.mk (aC.mk y51.2.1) y51.2.2) v35 v37.key).bind λy52=>
 r2 (y52,v36,v37,y51.2.1,y51.2.2,())))
 (cond false
 (some (6,([]:List aG)))
 ((aY n (bQ.mk (aC.mk v38) v39) v35 v37.key).bind λy53=>
 r2 (y53,v36,v37,v38,v39,()))))
 (cond false
 ((bV n v35 y44.1 v38 v39).bind λy54=>
 cond (!y54.1)
 (some (6,([]:List aG)))
 ((aY n (bQ.mk (aC.mk y54.2.1) y54.2.2) v35 v37.key).bind λy55=>
 r2 (y55,v36,v37,y54.2.1,y54.2.2,())))
 (cond false
 (some (6,([]:List aG)))
 ((aY n (bQ.mk (aC.mk v38) v39) v35 v37.key).bind λy56=>
 r2 (y56,v36,v37,v38,v39,())))))
 ((idx v38 v35).bind λx57=>
 (idx v38 v35).bind λx58=>
 (kJ n x58 v37).bind λy59=>
 (bL n v38 v39 ([(aF.mk v35 y59.1)]:List aF)).bind λy60=>
 some (0,y60.2))
def Hu(n:Nat):Nat->Int×Int×Row×(List aA)×(List aG)×Unit->Option (Int×(List aG)):=aW λr3 ⟨v62,v63,v64,v65,v66,_⟩=>
 (idx v65 v62).bind λx67=>
 (idx v65 v62).bind λx68=>
 cond (x68.kind==2)
 ((idx v65 v62).bind λx69=>
 (idx v65 v62).bind λx70=>
 (kI n x70 v64.key).bind λy71=>
 cond (v63==4)
 ((idx v65 v62).bind λx72=>
 (idx v65 v62).bind λx73=>
 (idx x73.kids y71.1).bind λx74=>
 (idx v65 x74.page).bind λx75=>
 (idx v65 x74.page).bind λx76=>
 (lC n x76).bind λy77=>
 cond y77
 ((bV n v62 y71.1 v65 v66).bind λy78=>
 cond (!y78.1)
 (some (6,([]:List aG)))
 ((aY n (bQ.mk (aC.mk y78.2.1) y78.2.2) v62 v64.key).bind λy79=>
 r3 (y79,v63,v64,y78.2.1,y78.2.2,())))
 (cond false
 (some (6,([]:List aG)))
 ((aY n (bQ.mk (aC.mk v65) v66) v62 v64.key).bind λy80=>
 r3 (y80,v63,v64,v65,v66,()))))
 (cond false
 ((bV n v62 y71.1 v65 v66).bind λy81=>
 cond (!y81.1)
 (some (6,([]:List aG)))
 ((aY n (bQ.mk (aC.mk y81.2.1) y81.2.2) v62 v64.key).bind λy82=>
 r3 (y82,v63,v64,y81.2.1,y81.2.2,())))
 (cond false
 (some (6,([]:List aG)))
 ((aY n (bQ.mk (aC.mk v65) v66) v62 v64.key).bind λy83=>
 r3 (y83,v63,v64,v65,v66,())))))
 ((idx v65 v62).bind λx84=>
 (idx v65 v62).bind λx85=>
 (kJ n x85 v64).bind λy86=>
 (bL n v65 v66 ([(aF.mk v62 y86.1)]:List aF)).bind λy87=>
 some (0,y87.2))
def BW(n:Nat):Nat->Int×Int×Row×(List aA)×(List aG)×Unit->Option (Int×(List aG)):=aW λr4 ⟨v88,v89,v90,v91,v92,_⟩=>
 (idx v91 v88).bind λx93=>
 (idx v91 v88).bind λx94=>
 cond (x94.kind==2)
 ((idx v91 v88).bind λx95=>
 (idx v91 v88).bind λx96=>
 (kI n x96 v90.key).bind λy97=>
 cond (v89==4)
 ((idx v91 v88).bind λx98=>
 (idx v91 v88).bind λx99=>
 (idx x99.kids y97.1).bind λx100=>
 (idx v91 x100.page).bind λx101=>
 (idx v91 x100.page).bind λx102=>
 (lC n x102).bind λy103=>
 cond y103
 ((bV n v88 y97.1 v91 v92).bind λy104=>
 cond (!y104.1)
 (some (6,([]:List aG)))
 ((aY n (bQ.mk (aC.mk y104.2.1) y104.2.2) v88 v90.key).bind λy105=>
 r4 (y105,v89,v90,y104.2.1,y104.2.2,())))
 (cond false
 (some (6,([]:List aG)))
 ((aY n (bQ.mk (aC.mk v91) v92) v88 v90.key).bind λy106=>
 r4 (y106,v89,v90,v91,v92,()))))
 (cond false
 ((bV n v88 y97.1 v91 v92).bind λy107=>
 cond (!y107.1)
 (some (6,([]:List aG)))
 ((aY n (bQ.mk (aC.mk y107.2.1) y107.2.2) v88 v90.key).bind λy108=>
 r4 (y108,v89,v90,y107.2.1,y107.2.2,())))
 (cond false
 (some (6,([]:List aG)))
 ((aY n (bQ.mk (aC.mk v91) v92) v88 v90.key).bind λy109=>
 r4 (y109,v89,v90,v91,v92,())))))
 ((idx v91 v88).bind λx110=>
 (idx v91 v88).bind λx111=>
 (kJ n x111 v90).bind λy112=>
 (bL n v91 v92 ([(aF.mk v88 y112.1)]:List aF)).bind λy113=>
 some (0,y113.2))
def pB(n:Nat)(p0:aC)(p1:Row):Option (Int×(List aG)):=
 (jI n p0).bind λy1=>
 cond (y1 !=0)
 (some (y1,([]:List aG)))
 ((gD n p1).bind λy2=>
 cond (y2 !=0)
 (some (y2,([]:List aG)))
 ((kH n p0).bind λy3=>
 (BP n p0 p1.key).bind λy4=>
 cond (y4.2==4)
 ((idx y3.1 0).bind λx5=>
 (idx y3.1 0).bind λx6=>
 (lC n x6).bind λy7=>
 cond y7
 ((eX n y3.1 y3.2).bind λy8=>
 cond (!y8.1)
 (some (6,([]:List aG)))
 (jC n n (0,y4.2,p1,y8.2.1,y8.2.2,())))
 (cond false
 (some (6,([]:List aG)))
 (BV n n (0,y4.2,p1,y3.1,y3.2,()))))
 (cond false
 ((eX n y3.1 y3.2).bind λy61=>
 cond (!y61.1)
 (some (6,([]:List aG)))
 (Hu n n (0,y4.2,p1,y61.2.1,y61.2.2,())))
 (cond false
 (some (6,([]:List aG)))
 (BW n n (0,y4.2,p1,y3.1,y3.2,()))))))
@[reducible] def BX:Ct tab:=⟨32,[.st 5,.st 2],[],[.one (.own 0),.one (.d (.int .i64))],[(none,.row 74 (.st 7))],(Int×(List aG)),λy=>(y.1,y.2,()),λy=>(y.1,y.2.1),λ_=>rfl,λn x=>pB n x.1 x.2.1⟩
theorem Hv:OkC Tryz.prog tab BX:=aQ (W:=⟨Tryz.prog,tab,bE,[mN,kC,rH,BQ,Fk,qF,rZ,sE,lR,Hs,dX],bG,dpO,false⟩) ⟨aK,⟨rG,oQ,xU,Hq,Nr,Br,xF,BS,tT,O9,fC,trivial⟩,aN⟩ (by kernel_rfl) 136 Tryz.f32 (.sq .n (.sq .n (.sq .n (.sq .n (.sq .n (.sq (.sq (.rg [1000000]) .n) (.sq (.bk none (.lp ⟨[(3,.one (.box 0 0)),(8,.one (.box 1 0)),(9,.one (.d (.int .i64))),(11,.one (.d (.int .i64)))],[.bst 2,.box [.own 2,.own 3],.row 47 (.st 4),.row 74 (.st 7)],[]⟩ (.sq .n (.bk none (.sq .n (.sq (.sq (.rg [1000000]) .n) .n)))))) .n))))))) Tryz.func32 Tryz.call32 rfl (by kernel_rfl) (by kernel_rfl) (by kernel_rfl) λn x=>by kernel_rfl
def rJ(n:Nat)(r1:(List aG)×Int×Int×aC×(List aA)×(List aG)×Unit->Option (aC×Int)):Nat->(List aG)×Int×Int×(List aF)×Int×Int×aC×(List aA)×(List aG)×Unit->Option (aC×Int):=aW λr2 ⟨v10,v11,v12,v13,v14,v15,v16,v17,v18,_⟩=>
 cond (decide (v15<v14))
 ((idx v13 v15).bind λx19=>
 jn (fun(b20:Bool)=>
 cond b20
 (some ((aC.mk ([]:List aA)),2))
 ((idx v17 x19.page).bind λx22=>
 (put v17 x19.page x19.content).bind λl23=>
 r2 (v10,v11,v12,v13,v14,(IntKind.wrap .i64 (v15+1)),v16,l23,v18,()))) λk21=>
 cond (decide (x19.page<0))
 (k21 true)
 (k21 (decide (x19.page>=64))))
 ((jI n (aC.mk v17)).bind λy24=>
 cond (y24 !=0)
 (some ((aC.mk ([]:List aA)),2))
 (r1 (v10,v11,(IntKind.wrap .i64 (v12+1)),v16,v17,v18,())))
def rK(n:Nat):Nat->(List aG)×Int×Int×aC×(List aA)×(List aG)×Unit->Option (aC×Int):=aW λr1 ⟨v3,v4,v5,v6,v7,v8,_⟩=>
 cond (decide (v5<v4))
 ((idx v3 v5).bind λx9=>
 rJ n r1 n (v3,v4,v5,x9.sheets,(x9.sheets.length:Int),0,v6,v7,v8,()))
 (some ((aC.mk v7),0))
def fN(n:Nat)(p0:aC)(p1:List aG):Option (aC×Int):=
 (jI n p0).bind λy1=>
 cond (y1 !=0)
 (some ((aC.mk ([]:List aA)),y1))
 ((kH n p0).bind λy2=>
 rK n n (p1,(p1.length:Int),0,(aC.mk ([]:List aA)),y2.1,y2.2,()))
@[reducible] def xY:Ct tab:=⟨39,[.st 5,.one (.d (.sl (.st 7)))],[],[.st 5,.one (.d (.int .i64))],[],(aC×Int),λy=>(y.1,y.2,()),λy=>(y.1,y.2.1),λ_=>rfl,λn x=>fN n x.1 x.2.1⟩
theorem DQ:OkC Tryz.prog tab xY:=aQ (W:=⟨Tryz.prog,tab,bE,[mN,rH],bG,dpO,false⟩) ⟨aK,⟨rG,xU,trivial⟩,aN⟩ (by kernel_rfl) 65 Tryz.f39 (.sq .n (.sq .n (.sq .n (.sq (.sq .n (.bk none (.lp ⟨[(4,.one (.box 0 0)),(7,.one (.box 1 0)),(20,.one (.d (.sl (.st 7)))),(21,.one (.d (.int .i64))),(22,.one (.d (.int .i64)))],[.bst 5,.box [.own 2,.own 3],.row 47 (.st 4),.row 74 (.st 7)],[]⟩ (.sq .n (.sq .n (.sq (.bk none (.sq .n (.sq (.sq .n (.bk none (.lp ⟨[(4,.one (.box 0 0)),(7,.one (.box 1 0)),(20,.one (.d (.sl (.st 7)))),(21,.one (.d (.int .i64))),(22,.one (.d (.int .i64))),(27,.one (.d (.sl (.st 6)))),(28,.one (.d (.int .i64))),(29,.one (.d (.int .i64)))],[.bst 5,.box [.own 2,.own 3],.row 47 (.st 4),.row 74 (.st 7)],[]⟩ .n))) .n))) .n)))))) .n)))) Tryz.func39 Tryz.call39 rfl (by kernel_rfl) (by kernel_rfl) (by kernel_rfl) λn x=>by kernel_rfl
def BZ(n:Nat)(p0:aC)(p1:Int):Option (aC×Int):=
 some (p0,p1)
@[reducible] def B0:Ct tab:=⟨46,[.st 5,.one (.d (.int .i64))],[],[.one (.fn 76 [.bx 0,.bx 1])],[(none,.bst 5),(none,.box [.d (.int .i64)])],(aC×Int),λy=>(y.1,y.2,()),λy=>(y.1,y.2.1),λ_=>rfl,λn x=>BZ n x.1 x.2.1⟩
theorem IX:OkC Tryz.prog tab B0:=aQ (W:=⟨Tryz.prog,tab,bE,[],bG,dpO,false⟩) ⟨aK,trivial,aN⟩ (by kernel_rfl) 6 Tryz.f46 .n Tryz.func46 Tryz.call46 rfl (by kernel_rfl) (by kernel_rfl) (by kernel_rfl) λn x=>by kernel_rfl
def cA(n:Nat)(self:Int×aC×(HL cK [.st 4]->HL cK [.sl (.st 2)]->Option (Nat×HL cK [.sl (.st 2)]))×Nat×(HL cK [.sl (.st 2)])×aC×Unit->Option (Bool×(HL cK [.st 4]->HL cK [.sl (.st 2)]->Option (Nat×HL cK [.sl (.st 2)]))×Nat×(HL cK [.sl (.st 2)])×aC)):Nat->(List Kid)×Int×Int×aC×(HL cK [.st 4]->HL cK [.sl (.st 2)]->Option (Nat×HL cK [.sl (.st 2)]))×Nat×(HL cK [.sl (.st 2)])×Unit->Option (Bool×(HL cK [.st 4]->HL cK [.sl (.st 2)]->Option (Nat×HL cK [.sl (.st 2)]))×Nat×(HL cK [.sl (.st 2)])×aC):=aW λr1 ⟨v3,v4,v5,v6,v7,v8,v9,_⟩=>
 cond (decide (v5<v4))
 ((idx v3 v5).bind λx10=>
 (self (x10.page,v6,v7,v8,v9,v6,())).bind λy11=>
 cond (!y11.1)
 (some (false,y11.2.1,y11.2.2.1,y11.2.2.2.1,y11.2.2.2.2))
 (r1 (v3,v4,(IntKind.wrap .i64 (v5+1)),y11.2.2.2.2,y11.2.1,y11.2.2.1,y11.2.2.2.1,())))
 (some (true,v7,v8,v9,v6))
def bR(n:Nat)(self:Int×aC×(HL cK [.st 4]->HL cK [.sl (.st 2)]->Option (Nat×HL cK [.sl (.st 2)]))×Nat×(HL cK [.sl (.st 2)])×aC×Unit->Option (Bool×(HL cK [.st 4]->HL cK [.sl (.st 2)]->Option (Nat×HL cK [.sl (.st 2)]))×Nat×(HL cK [.sl (.st 2)])×aC))(p0:Int)(p1:aC)(q1_0:HL cK [.st 4]->HL cK [.sl (.st 2)]->Option (Nat×HL cK [.sl (.st 2)]))(q1_1:Nat)(q1_2:HL cK [.sl (.st 2)])(q2:aC):Option (Bool×(HL cK [.st 4]->HL cK [.sl (.st 2)]->Option (Nat×HL cK [.sl (.st 2)]))×Nat×(HL cK [.sl (.st 2)])×aC):=
 (idx p1.pages p0).bind λx1=>
 cond (x1.kind==1)
 ((Ss q1_0 q1_1 (x1,()) q1_2).bind λy2=>
 some ((Nat.beq y2.1 0),q1_0,y2.1,y2.2,q2))
 (cA n self n (x1.kids,(x1.kids.length:Int),0,q2,q1_0,q1_1,q1_2,()))
def eD(n:Nat)(p0:Int)(p1:aC)(q1_0:HL cK [.st 4]->HL cK [.sl (.st 2)]->Option (Nat×HL cK [.sl (.st 2)]))(q1_1:Nat)(q1_2:HL cK [.sl (.st 2)])(q2:aC):Option (Bool×(HL cK [.st 4]->HL cK [.sl (.st 2)]->Option (Nat×HL cK [.sl (.st 2)]))×Nat×(HL cK [.sl (.st 2)])×aC):=AN (λn self x=>bR n self x.1 x.2.1 x.2.2.1 x.2.2.2.1 x.2.2.2.2.1 x.2.2.2.2.2.1) n (p0,p1,q1_0,q1_1,q1_2,q2,())
@[reducible] def fR:Ct tab:=⟨77,[.one (.d (.int .i64)),.one (.ro (.st 5)),.one (.box 0 0),.one (.box 2 0)],[.box [.yd 1],.opq [.st 4] [.sl (.st 2)],.box [.fn 77 [.ro (.st 5),.bx 0,.bx 2]]],[.one (.d .bool)],[(some 0,.box [.yd 1]),(some 1,.opq [.st 4] [.sl (.st 2)]),(some 2,.box [.fn 77 [.ro (.st 5),.bx 0,.bx 2]])],(Bool×(HL cK [.st 4]->HL cK [.sl (.st 2)]->Option (Nat×HL cK [.sl (.st 2)]))×Nat×(HL cK [.sl (.st 2)])×aC),λy=>(y.1,y.2.1,y.2.2.1,y.2.2.2.1,y.2.2.2.2,()),λy=>(y.1,y.2.1,y.2.2.1,y.2.2.2.1,y.2.2.2.2.1),λ_=>rfl,λn x=>eD n x.1 x.2.1 x.2.2.1 x.2.2.2.1 x.2.2.2.2.1 x.2.2.2.2.2.1⟩
theorem mA:OkC Tryz.prog tab fR:=NF (W:=⟨Tryz.prog,tab,bE,[],bG,dpO,false⟩) ⟨aK,trivial,aN⟩ (by kernel_rfl) 33 Tryz.f77 (.sq .n (.sq .n (.sq .n (.sq (.sq .n (.bk none (.lp ⟨[(2,.one (.box 0 0)),(3,.one (.box 1 0)),(21,.one (.d (.sl (.st 3)))),(22,.one (.d (.int .i64))),(23,.one (.d (.int .i64)))],[.box [.yd 2],.box [.fn 77 [.ro (.st 5),.bx 0,.bx 1]],.opq [.st 4] [.sl (.st 2)]],[(0,0),(1,2),(2,1)]⟩ .n))) .n)))) Tryz.func77 Tryz.call77 rfl (by kernel_rfl) (by kernel_rfl) (by kernel_rfl) (λn self x=>bR n self x.1 x.2.1 x.2.2.1 x.2.2.2.1 x.2.2.2.2.1 x.2.2.2.2.2.1) (λ_=>rfl) (λ_ _=>rfl) λself n x=>by kernel_rfl
def nM(n:Nat)(p1:aC)(p2:Int)(q0_0:HL cK [.st 4]->HL cK [.sl (.st 2)]->Option (Nat×HL cK [.sl (.st 2)]))(q0_1:Nat)(q0_2:HL cK [.sl (.st 2)]):Option ((HL cK [.st 4]->HL cK [.sl (.st 2)]->Option (Nat×HL cK [.sl (.st 2)]))×Nat×(HL cK [.sl (.st 2)])):=
 (eD n p2 p1 q0_0 q0_1 q0_2 p1).bind λy1=>
 some (y1.2.1,y1.2.2.1,y1.2.2.2.1)
@[reducible] def qG:Ct tab:=⟨76,[.one (.yd 0),.one (.ro (.st 5)),.one (.ro (.int .i64))],[.opq [.st 4] [.sl (.st 2)]],[],[(some 0,.opq [.st 4] [.sl (.st 2)])],((HL cK [.st 4]->HL cK [.sl (.st 2)]->Option (Nat×HL cK [.sl (.st 2)]))×Nat×(HL cK [.sl (.st 2)])),λy=>(y.1,y.2.1,y.2.2,()),λy=>(y.1,y.2.1,y.2.2.1),λ_=>rfl,λn x=>nM n x.1 x.2.1 x.2.2.1 x.2.2.2.1 x.2.2.2.2.1⟩
theorem Bt:OkC Tryz.prog tab qG:=aQ (W:=⟨Tryz.prog,tab,bE,[fR],bG,dpO,false⟩) ⟨aK,⟨mA,trivial⟩,aN⟩ (by kernel_rfl) 9 Tryz.f76 .n Tryz.func76 Tryz.call76 rfl (by kernel_rfl) (by kernel_rfl) (by kernel_rfl) λn x=>by kernel_rfl
def vB(n:Nat)(p0:aC):Option (Int×(List Row)):=
 (jI n p0).bind λy1=>
 cond (y1 !=0)
 (some (y1,([]:List Row)))
 ((BZ n p0 0).bind λy2=>
 (nM n y2.1 y2.2 (λy3 z4=>
 (app 40 z4.1 y3.1.rows).bind λl5=>
 some (0,(l5,()))) 0 (([]:List Row),())).bind λy6=>
 sel y6.2.1 [
 some (0,y6.2.2.1),
 some (0,([]:List Row)),
 some (0,y6.2.2.1)])
@[reducible] def AE:Ct tab:=⟨13,[.st 5],[],[.one (.own 0),.one (.d (.int .i64))],[(none,.row 40 (.st 2))],(Int×(List Row)),λy=>(y.1,y.2,()),λy=>(y.1,y.2.1),λ_=>rfl,λn x=>vB n x.1⟩
theorem Fl:OkC Tryz.prog tab AE:=aQ (W:=⟨Tryz.prog,tab,bE,[mN,B0,qG],bG,dpO,false⟩) ⟨aK,⟨rG,IX,Bt,trivial⟩,aN⟩ (by kernel_rfl) 20 Tryz.f13 (.sq .n (.sq .n (.sq .n (.sq (.sq .n (.bk none (.rf [(5,.one (.box 0 0))] [(2,.one (.own 2)),(3,.one (.d (.int .i64))),(13,.one (.fn 76 [.ro (.st 5),.ro (.int .i64)]))] [.box [.own 1],.row 40 (.st 2)] [.row 40 (.st 2)] [] 13 (.fn 76 [.ro (.st 5),.ro (.int .i64)]) [.st 4] .n .n))) .n)))) Tryz.func13 Tryz.call13 rfl (by kernel_rfl) (by kernel_rfl) (by kernel_rfl) λn x=>by kernel_rfl
def LL(n:Nat)(p0:aC):Option Int:=
 (qJ n p0).bind λy1=>
 cond (!y1.1)
 (some 0)
 (some (IntKind.wrap .i64 (64-((qH y1.2.2.2).length:Int))))
@[reducible] def Fm:Ct tab:=⟨14,[.st 5],[],[.one (.d (.int .i64))],[],Int,λy=>(y,()),λy=>y.1,λ_=>rfl,λn x=>LL n x.1⟩
theorem Ns:OkC Tryz.prog tab Fm:=aQ (W:=⟨Tryz.prog,tab,bE,[uI],bG,dpO,false⟩) ⟨aK,⟨Az,trivial⟩,aN⟩ (by kernel_rfl) 18 Tryz.f14 .n Tryz.func14 Tryz.call14 rfl (by kernel_rfl) (by kernel_rfl) (by kernel_rfl) λn x=>by kernel_rfl
def IY(n:Nat)(p0:aC):Option Int:=
 (qJ n p0).bind λy1=>
 cond (!y1.1)
 (some 0)
 (some y1.2.2.1)
@[reducible] def DR:Ct tab:=⟨15,[.st 5],[],[.one (.d (.int .i64))],[],Int,λy=>(y,()),λy=>y.1,λ_=>rfl,λn x=>IY n x.1⟩
theorem KQ:OkC Tryz.prog tab DR:=aQ (W:=⟨Tryz.prog,tab,bE,[uI],bG,dpO,false⟩) ⟨aK,⟨Az,trivial⟩,aN⟩ (by kernel_rfl) 16 Tryz.f15 .n Tryz.func15 Tryz.call15 rfl (by kernel_rfl) (by kernel_rfl) (by kernel_rfl) λn x=>by kernel_rfl
def B1(n:Nat):Nat->Int×aC×Unit->Option Bool:=aW λr1 ⟨v2,v3,_⟩=>
 cond (decide (v2<5))
 ((zG n (IntKind.wrap .u16 (v2+1))).bind λy4=>
 (pB n v3 y4).bind λy5=>
 cond (y5.1 !=0)
 (some false)
 ((fN n v3 y5.2).bind λy6=>
 cond (y6.2 !=0)
 (some false)
 (r1 ((IntKind.wrap .u16 (v2+1)),y6.1,()))))
 ((vB n v3).bind λy7=>
 jn (fun(b8:Bool)=>
 jn (fun(b10:Bool)=>
 jn (fun(b12:Bool)=>
 some b12) λk13=>
 cond b10
 ((LL n v3).bind λy14=>
 k13 (y14==61))
 (k13 false)) λk11=>
 cond b8
 ((IY n v3).bind λy15=>
 k11 (y15==2))
 (k11 false)) λk9=>
 cond (y7.1==0)
 (k9 ((y7.2.length:Int)==5))
 (k9 false))
def xH(n:Nat):Option Bool:=
 (O7 n).bind λy1=>
 B1 n n (0,y1,())
@[reducible] def B2:Ct tab:=⟨11,[],[],[.one (.d .bool)],[],Bool,λy=>(y,()),λy=>y.1,λ_=>rfl,λn x=>xH n⟩
theorem IZ:OkC Tryz.prog tab B2:=aQ (W:=⟨Tryz.prog,tab,bE,[Ho,Aq,BX,xY,AE,Fm,DR],bG,dpO,false⟩) ⟨aK,⟨O8,Fh,Hv,DQ,Fl,Ns,KQ,trivial⟩,aN⟩ (by kernel_rfl) 52 Tryz.f11 (.sq .n (.sq .n (.sq (.sq .n (.bk none (.lp ⟨[(1,.one (.box 0 0)),(8,.one (.d (.int .u16)))],[.bst 5],[]⟩ .n))) .n))) Tryz.func11 Tryz.call11 rfl (by kernel_rfl) (by kernel_rfl) (by kernel_rfl) λn x=>by kernel_rfl
def qM(n:Nat)(p0:List Row):Option aA:=
 some (aA.mk 1 p0 ([]:List Kid))
@[reducible] def rL:Ct tab:=⟨54,[.one (.d (.sl (.st 2)))],[],[.st 4],[],aA,λy=>(y,()),λy=>y.1,λ_=>rfl,λn x=>qM n x.1⟩
theorem xZ:OkC Tryz.prog tab rL:=aQ (W:=⟨Tryz.prog,tab,bE,[],bG,dpO,false⟩) ⟨aK,trivial,aN⟩ (by kernel_rfl) 5 Tryz.f54 .n Tryz.func54 Tryz.call54 rfl (by kernel_rfl) (by kernel_rfl) (by kernel_rfl) λn x=>by kernel_rfl
def Gx(n:Nat):Option aC:=
 (qM n ([]:List Row)).bind λy1=>
 (idx (List.replicate 64 (aA.mk 0 ([]:List Row) ([]:List Kid))) 0).bind λx2=>
 (put (List.replicate 64 (aA.mk 0 ([]:List Row) ([]:List Kid))) 0 y1).bind λl3=>
 some (aC.mk l3)
@[reducible] def Fo:Ct tab:=⟨25,[],[],[.st 5],[],aC,λy=>(y,()),λy=>y.1,λ_=>rfl,λn x=>Gx n⟩
theorem Nt:OkC Tryz.prog tab Fo:=aQ (W:=⟨Tryz.prog,tab,bE,[rL],bG,dpO,false⟩) ⟨aK,⟨xZ,trivial⟩,aN⟩ (by kernel_rfl) 9 Tryz.f25 .n Tryz.func25 Tryz.call25 rfl (by kernel_rfl) (by kernel_rfl) (by kernel_rfl) λn x=>by kernel_rfl
def rM(n:Nat)(self:aC×Int×Unit->Option ((List Row))):Nat->Int×aC×aA×(List Row)×Unit->Option ((List Row)):=aW λr1 ⟨v3,v4,v5,v6,_⟩=>
 cond (decide (v3<(v5.kids.length:Int)))
 ((idx v5.kids v3).bind λx7=>
 (self (v4,x7.page,())).bind λy8=>
 (app 40 v6 y8).bind λl9=>
 r1 ((IntKind.wrap .i64 (v3+1)),v4,v5,l9,()))
 (some v6)
def gY(n:Nat)(self:aC×Int×Unit->Option ((List Row)))(p0:aC)(p1:Int):Option ((List Row)):=
 (idx p0.pages p1).bind λx1=>
 (app 40 ([]:List Row) x1.rows).bind λl2=>
 rM n self n (0,p0,x1,l2,())
def nN(n:Nat)(p0:aC)(p1:Int):Option ((List Row)):=AN (λn self x=>gY n self x.1 x.2.1) n (p0,p1,())
@[reducible] def yA:Ct tab:=⟨27,[.st 5,.one (.d (.int .i64))],[],[.one (.own 0)],[(none,.row 40 (.st 2))],((List Row)),λy=>(y,()),λy=>y.1,λ_=>rfl,λn x=>nN n x.1 x.2.1⟩
theorem DT:OkC Tryz.prog tab yA:=NF (W:=⟨Tryz.prog,tab,bE,[],bG,dpO,false⟩) ⟨aK,trivial,aN⟩ (by kernel_rfl) 35 Tryz.f27 (.sq .n (.sq .n (.sq .n (.sq .n (.sq (.sq .n (.bk none (.lp ⟨[(2,.one (.box 0 0)),(5,.one (.box 1 0)),(6,.one (.own 2)),(7,.one (.d (.int .i64)))],[.bst 5,.bst 4,.row 40 (.st 2)],[]⟩ .n))) .n))))) Tryz.func27 Tryz.call27 rfl (by kernel_rfl) (by kernel_rfl) (by kernel_rfl) (λn self x=>gY n self x.1 x.2.1) (λ_=>rfl) (λ_ _=>rfl) λself n x=>by kernel_rfl
def yB(n:Nat):Nat->(List Row)×Int×Key×Unit->Option Int:=aW λr1 ⟨v1,v2,v3,_⟩=>
 cond (decide (v2<(v1.length:Int)))
 ((idx v1 v2).bind λx4=>
 cond (Key.eqb x4.key v3)
 (some v2)
 (r1 (v1,(IntKind.wrap .i64 (v2+1)),v3,())))
 (some (-1))
def qN(n:Nat)(p0:List Row)(p1:Key):Option Int:=
 yB n n (p0,0,p1,())
@[reducible] def rN:Ct tab:=⟨31,[.one (.d (.sl (.st 2))),.st 1],[],[.one (.d (.int .i64))],[],Int,λy=>(y,()),λy=>y.1,λ_=>rfl,λn x=>qN n x.1 x.2.1⟩
theorem yC:OkC Tryz.prog tab rN:=aQ (W:=⟨Tryz.prog,tab,bE,[],bG,dpO,false⟩) ⟨aK,trivial,aN⟩ (by kernel_rfl) 20 Tryz.f31 (.sq .n (.sq (.sq .n (.bk none (.lp ⟨[(0,.one (.d (.sl (.st 2)))),(3,.one (.box 0 0)),(5,.one (.d (.int .i64)))],[.bst 1],[]⟩ .n))) .n)) Tryz.func31 Tryz.call31 rfl (by kernel_rfl) (by kernel_rfl) (by kernel_rfl) λn x=>by kernel_rfl
def eH(n:Nat)(p0:Key)(p1:Key):Option Int:=
 cond (Key.eqb p0 p1)
 (some 0)
 (jn (fun(b1:Bool)=>
 cond b1
 (some (-1))
 (some 1)) λk2=>
 cond (decide (p0.table<p1.table))
 (k2 true)
 (jn (fun(b3:Bool)=>
 k2 b3) λk4=>
 cond (p0.table==p1.table)
 (k4 (decide (p0.id<p1.id)))
 (k4 false)))
@[reducible] def lD:Ct tab:=⟨16,[.st 1,.st 1],[],[.one (.d (.int .i64))],[],Int,λy=>(y,()),λy=>y.1,λ_=>rfl,λn x=>eH n x.1 x.2.1⟩
theorem qO:OkC Tryz.prog tab lD:=aQ (W:=⟨Tryz.prog,tab,bE,[],bG,dpO,false⟩) ⟨aK,trivial,aN⟩ (by kernel_rfl) 27 Tryz.f16 .n Tryz.func16 Tryz.call16 rfl (by kernel_rfl) (by kernel_rfl) (by kernel_rfl) λn x=>by kernel_rfl
def Fp(n:Nat)(r1:Int×Int×aA×Key×Unit->Option Int):Int×Int×aA×Key×Unit->Option Int:=fun⟨v7,v8,v9,v10,_⟩=>
 r1 (v7,(IntKind.wrap .i64 (v8+1)),v9,v10,())
def uL(n:Nat):Nat->Int×Int×aA×Key×Unit->Option Int:=aW λr1 ⟨v1,v2,v3,v4,_⟩=>
 cond (decide (v2<(v3.kids.length:Int)))
 ((idx v3.kids v2).bind λx5=>
 (eH n x5.least v4).bind λy6=>
 jn (Fp n r1) λj2=>
 cond (decide (y6<=0))
 (j2 (v2,v2,v3,v4,()))
 (j2 (v1,v2,v3,v4,())))
 (some v1)
def nW(n:Nat)(p0:aA)(p1:Key):Option Int:=
 uL n n (0,1,p0,p1,())
@[reducible] def pC:Ct tab:=⟨72,[.st 4,.st 1],[],[.one (.d (.int .i64))],[],Int,λy=>(y,()),λy=>y.1,λ_=>rfl,λn x=>nW n x.1 x.2.1⟩
theorem uM:OkC Tryz.prog tab pC:=aQ (W:=⟨Tryz.prog,tab,bE,[lD],bG,dpO,false⟩) ⟨aK,⟨qO,trivial⟩,aN⟩ (by kernel_rfl) 25 Tryz.f72 (.sq .n (.sq .n (.sq (.sq .n (.bk none (.lp ⟨[(2,.one (.box 0 0)),(3,.one (.box 1 0)),(5,.one (.d (.int .i64))),(6,.one (.d (.int .i64)))],[.bst 4,.bst 1],[]⟩ (.sq .n (.sq (.bk none (.sq .n (.cd (some ⟨[(2,.one (.box 0 0)),(3,.one (.box 1 0)),(5,.one (.d (.int .i64))),(6,.one (.d (.int .i64)))],[.bst 4,.bst 1],[]⟩) .n .n))) .n))))) .n))) Tryz.func72 Tryz.call72 rfl (by kernel_rfl) (by kernel_rfl) (by kernel_rfl) λn x=>by kernel_rfl
def eY(n:Nat)(p0:aA):Option Int:=
 some (IntKind.wrap .i64 ((p0.rows.length:Int)+(p0.kids.length:Int)))
@[reducible] def rO:Ct tab:=⟨88,[.st 4],[],[.one (.d (.int .i64))],[],Int,λy=>(y,()),λy=>y.1,λ_=>rfl,λn x=>eY n x.1⟩
theorem yD:OkC Tryz.prog tab rO:=aQ (W:=⟨Tryz.prog,tab,bE,[],bG,dpO,false⟩) ⟨aK,trivial,aN⟩ (by kernel_rfl) 10 Tryz.f88 .n Tryz.func88 Tryz.call88 rfl (by kernel_rfl) (by kernel_rfl) (by kernel_rfl) λn x=>by kernel_rfl
def DU(n:Nat)(r1:Int×aA×Key×aA×Int×(List Row)×(List Kid)×Unit->Option aA):Int×aA×Key×aA×Int×Kid×(List Row)×(List Kid)×Unit->Option aA:=fun⟨v12,v13,v14,v15,v16,v17,v18,v19,_⟩=>
 (app 24 v19 ([v17]:List Kid)).bind λl20=>
 r1 ((IntKind.wrap .i64 (v12+1)),v13,v14,v15,v16,v18,l20,())
def yE(n:Nat):Nat->Int×aA×Key×aA×Int×(List Row)×(List Kid)×Unit->Option aA:=aW λr1 ⟨v4,v5,v6,v7,v8,v9,v10,_⟩=>
 cond (decide (v4<(v5.kids.length:Int)))
 ((idx v5.kids v4).bind λx11=>
 jn (DU n r1) λj2=>
 cond (v4==0)
 (j2 (v4,v5,v6,v7,v8,(Kid.mk v6 x11.page),v9,v10,()))
 (j2 (v4,v5,v6,v7,v8,x11,v9,v10,())))
 (some (aA.mk v8 v9 v10))
def vU(n:Nat)(p0:aA)(p1:aA)(p2:Key):Option aA:=
 (app 40 ([]:List Row) p0.rows).bind λl1=>
 (app 40 l1 p1.rows).bind λl2=>
 (app 24 ([]:List Kid) p0.kids).bind λl3=>
 yE n n (0,p1,p2,(aA.mk 0 ([]:List Row) ([]:List Kid)),p0.kind,l2,l3,())
@[reducible] def yF:Ct tab:=⟨121,[.st 4,.st 4,.st 1],[],[.st 4],[],aA,λy=>(y,()),λy=>y.1,λ_=>rfl,λn x=>vU n x.1 x.2.1 x.2.2.1⟩
theorem DV:OkC Tryz.prog tab yF:=aQ (W:=⟨Tryz.prog,tab,bE,[],bG,dpO,false⟩) ⟨aK,trivial,aN⟩ (by kernel_rfl) 51 Tryz.f121 (.sq .n (.sq .n (.sq .n (.sq .n (.sq (.sq .n (.bk none (.lp ⟨[(4,.one (.box 0 0)),(5,.one (.box 1 0)),(6,.one (.box 2 0)),(7,.one (.box 3 0)),(8,.one (.d (.int .i64)))],[.bst 4,.bst 1,.bst 4,.box [.d (.int .i64),.own 4,.own 5],.row 40 (.st 2),.row 100 (.st 3)],[]⟩ (.sq .n (.sq (.bk none (.sq .n (.sq (.sq .n (.cd (some ⟨[(4,.one (.box 0 0)),(5,.one (.box 1 0)),(6,.one (.box 2 0)),(7,.one (.box 3 0)),(8,.one (.d (.int .i64))),(9,.one (.box 4 0))],[.bst 4,.bst 1,.bst 4,.box [.d (.int .i64),.own 5,.own 6],.bst 3,.row 40 (.st 2),.row 100 (.st 3)],[]⟩) .n .n)) .n))) .n))))) .n))))) Tryz.func121 Tryz.call121 rfl (by kernel_rfl) (by kernel_rfl) (by kernel_rfl) λn x=>by kernel_rfl
def Bh(n:Nat)(r2:(List aF)×Int×Int×(List aF)×Unit->Option ((List aF))):(List aF)×Int×Int×(List aF)×Unit->Option ((List aF)):=fun⟨v11,v12,v13,v14,_⟩=>
 r2 (v11,v12,(IntKind.wrap .i64 (v13+1)),v14,())
def mY(n:Nat)(r1:(List aF)×Int×(List aF)×Unit->Option ((List aF))):Nat->(List aF)×Int×Int×(List aF)×Unit->Option ((List aF)):=aW λr2 ⟨v4,v5,v6,v7,_⟩=>
 cond (decide (v6<(v4.length:Int)))
 ((idx v4 v6).bind λx8=>
 jn (Bh n r2) λj3=>
 cond (x8.page==v5)
 ((idx v4 v6).bind λx15=>
 (app 64 v7 ([x15]:List aF)).bind λl16=>
 j3 (v4,v5,v6,l16,()))
 (j3 (v4,v5,v6,v7,())))
 (r1 (v4,(IntKind.wrap .i64 (v5+1)),v7,()))
def mZ(n:Nat):Nat->(List aF)×Int×(List aF)×Unit->Option ((List aF)):=aW λr1 ⟨v1,v2,v3,_⟩=>
 cond (decide (v2<64))
 (mY n r1 n (v1,v2,0,v3,()))
 (some v3)
def jL(n:Nat)(p0:List aF):Option ((List aF)):=
 mZ n n (p0,0,([]:List aF),())
@[reducible] def tJ:Ct tab:=⟨119,[.one (.d (.sl (.st 6)))],[],[.one (.own 0)],[(none,.row 76 (.st 6))],((List aF)),λy=>(y,()),λy=>y.1,λ_=>rfl,λn x=>jL n x.1⟩
theorem Bi:OkC Tryz.prog tab tJ:=aQ (W:=⟨Tryz.prog,tab,bE,[],bG,dpO,false⟩) ⟨aK,trivial,aN⟩ (by kernel_rfl) 31 Tryz.f119 (.sq .n (.sq .n (.sq (.sq .n (.bk none (.lp ⟨[(0,.one (.d (.sl (.st 6)))),(3,.one (.own 0)),(4,.one (.d (.int .i64)))],[.row 76 (.st 6)],[]⟩ (.sq .n (.sq (.bk none (.sq .n (.bk none (.lp ⟨[(0,.one (.d (.sl (.st 6)))),(3,.one (.own 0)),(4,.one (.d (.int .i64))),(5,.one (.d (.int .i64)))],[.row 76 (.st 6)],[]⟩ (.sq .n (.sq (.bk none (.sq .n (.cd (some ⟨[(0,.one (.d (.sl (.st 6)))),(3,.one (.own 0)),(4,.one (.d (.int .i64))),(5,.one (.d (.int .i64)))],[.row 76 (.st 6)],[]⟩) .n .n))) .n)))))) .n))))) .n))) Tryz.func119 Tryz.call119 rfl (by kernel_rfl) (by kernel_rfl) (by kernel_rfl) λn x=>by kernel_rfl
def nX(n:Nat)(p0:List Kid):Option aA:=
 some (aA.mk 2 ([]:List Row) p0)
@[reducible] def kK:Ct tab:=⟨118,[.one (.d (.sl (.st 3)))],[],[.st 4],[],aA,λy=>(y,()),λy=>y.1,λ_=>rfl,λn x=>nX n x.1⟩
theorem pD:OkC Tryz.prog tab kK:=aQ (W:=⟨Tryz.prog,tab,bE,[],bG,dpO,false⟩) ⟨aK,trivial,aN⟩ (by kernel_rfl) 5 Tryz.f118 .n Tryz.func118 Tryz.call118 rfl (by kernel_rfl) (by kernel_rfl) (by kernel_rfl) λn x=>by kernel_rfl
def Bj(n:Nat)(r1:Int×Int×aA×aA×(List Kid)×Unit->Option aA):Int×Int×aA×aA×(List Kid)×Unit->Option aA:=fun⟨v8,v9,v10,v11,v12,_⟩=>
 r1 (v8,(IntKind.wrap .i64 (v9+1)),v10,v11,v12,())
def tK(n:Nat):Nat->Int×Int×aA×aA×(List Kid)×Unit->Option aA:=aW λr1 ⟨v1,v2,v3,v4,v5,_⟩=>
 cond (decide (v2<(v3.kids.length:Int)))
 (jn (Bj n r1) λj2=>
 cond (v2 !=v1)
 ((idx v3.kids v2).bind λx13=>
 (app 24 v5 ([x13]:List Kid)).bind λl14=>
 j2 (v1,v2,v3,v4,l14,()))
 (j2 (v1,v2,v3,v4,v5,())))
 ((nX n v5).bind λy15=>
 some y15)
def AF(n:Nat)(p0:aA)(p1:Int):Option aA:=
 tK n n (p1,0,p0,(aA.mk 0 ([]:List Row) ([]:List Kid)),([]:List Kid),())
@[reducible] def Bk:Ct tab:=⟨122,[.st 4,.one (.d (.int .i64))],[],[.st 4],[],aA,λy=>(y,()),λy=>y.1,λ_=>rfl,λn x=>AF n x.1 x.2.1⟩
theorem H3:OkC Tryz.prog tab Bk:=aQ (W:=⟨Tryz.prog,tab,bE,[kK],bG,dpO,false⟩) ⟨aK,⟨pD,trivial⟩,aN⟩ (by kernel_rfl) 27 Tryz.f122 (.sq .n (.sq .n (.sq (.sq .n (.bk none (.lp ⟨[(1,.one (.d (.int .i64))),(2,.one (.box 0 0)),(4,.one (.box 1 0)),(5,.one (.own 2)),(6,.one (.d (.int .i64)))],[.bst 4,.bst 4,.row 100 (.st 3)],[]⟩ (.sq .n (.sq (.bk none (.sq .n (.cd (some ⟨[(1,.one (.d (.int .i64))),(2,.one (.box 0 0)),(4,.one (.box 1 0)),(5,.one (.own 2)),(6,.one (.d (.int .i64)))],[.bst 4,.bst 4,.row 100 (.st 3)],[]⟩) .n .n))) .n))))) .n))) Tryz.func122 Tryz.call122 rfl (by kernel_rfl) (by kernel_rfl) (by kernel_rfl) λn x=>by kernel_rfl
def Fq(n:Nat)(r1:Int×Int×aA×aA×aA×Key×Int×Int×(List Row)×(List Kid)×(List Row)×(List Kid)×Unit->Option (aA×aA×Key)):Int×Int×aA×aA×aA×Key×Int×Int×(List Row)×(List Kid)×(List Row)×(List Kid)×Unit->Option (aA×aA×Key):=fun⟨v17,v18,v19,v20,v21,v22,v23,v24,v25,v26,v27,v28,_⟩=>
 r1 (v17,(IntKind.wrap .i64 (v18+1)),v19,v20,v21,v22,v23,v24,v25,v26,v27,v28,())
def Fs(n:Nat)(r3:Int×Int×aA×aA×aA×Key×Int×Int×(List Row)×(List Kid)×(List Row)×(List Kid)×Unit->Option (aA×aA×Key)):Int×Int×aA×aA×aA×Key×Int×Int×(List Row)×(List Kid)×(List Row)×(List Kid)×Unit->Option (aA×aA×Key):=fun⟨v49,v50,v51,v52,v53,v54,v55,v56,v57,v58,v59,v60,_⟩=>
 r3 (v49,(IntKind.wrap .i64 (v50+1)),v51,v52,v53,v54,v55,v56,v57,v58,v59,v60,())
def Ft(n:Nat):aA×aA×Key×Int×Int×Key×(List Row)×(List Kid)×(List Row)×(List Kid)×Unit->Option (aA×aA×Key):=fun⟨v82,v83,v84,v85,v86,v87,v88,v89,v90,v91,_⟩=>
 some ((aA.mk v85 v88 v89),(aA.mk v86 v90 v91),v87)
def Fu(n:Nat):aA×aA×Key×Int×Int×Key×(List Row)×(List Kid)×(List Row)×(List Kid)×Unit->Option (aA×aA×Key):=fun⟨v67,v68,v69,v70,v71,v72,v73,v74,v75,v76,_⟩=>
 jn (Ft n) λj6=>
 cond (decide ((v76.length:Int)>0))
 ((idx v76 0).bind λx92=>
 (idx v76 0).bind λx93=>
 (idx v76 0).bind λx94=>
 (idx v76 0).bind λx95=>
 (put v76 0 (Kid.mk (Key.mk 0 0) x95.page)).bind λl96=>
 j6 (v67,v68,v69,v70,v71,x93.least,v73,v74,v75,l96,()))
 (j6 (v67,v68,v69,v70,v71,v72,v73,v74,v75,v76,()))
def uN(n:Nat):Nat->Int×Int×aA×aA×aA×Key×Int×Int×(List Row)×(List Kid)×(List Row)×(List Kid)×Unit->Option (aA×aA×Key):=aW λr3 ⟨v33,v34,v35,v36,v37,v38,v39,v40,v41,v42,v43,v44,_⟩=>
 cond (decide (v34<(v35.kids.length:Int)))
 (jn (Fs n r3) λj4=>
 cond (decide (v34<v33))
 ((idx v35.kids v34).bind λx61=>
 (app 24 v42 ([x61]:List Kid)).bind λl62=>
 j4 (v33,v34,v35,v36,v37,v38,v39,v40,v41,l62,v43,v44,()))
 ((idx v35.kids v34).bind λx63=>
 (app 24 v44 ([x63]:List Kid)).bind λl64=>
 j4 (v33,v34,v35,v36,v37,v38,v39,v40,v41,v42,v43,l64,())))
 (jn (Fu n) λj5=>
 cond (decide ((v43.length:Int)>0))
 ((idx v43 0).bind λx97=>
 (idx v43 0).bind λx98=>
 j5 (v36,v37,v38,v39,v40,x98.key,v41,v42,v43,v44,()))
 (j5 (v36,v37,v38,v39,v40,(Key.mk 0 0),v41,v42,v43,v44,())))
def AG(n:Nat):Nat->Int×Int×aA×aA×aA×Key×Int×Int×(List Row)×(List Kid)×(List Row)×(List Kid)×Unit->Option (aA×aA×Key):=aW λr1 ⟨v1,v2,v3,v4,v5,v6,v7,v8,v9,v10,v11,v12,_⟩=>
 cond (decide (v2<(v3.rows.length:Int)))
 (jn (Fq n r1) λj2=>
 cond (decide (v2<v1))
 ((idx v3.rows v2).bind λx29=>
 (app 40 v9 ([x29]:List Row)).bind λl30=>
 j2 (v1,v2,v3,v4,v5,v6,v7,v8,l30,v10,v11,v12,()))
 ((idx v3.rows v2).bind λx31=>
 (app 40 v11 ([x31]:List Row)).bind λl32=>
 j2 (v1,v2,v3,v4,v5,v6,v7,v8,v9,v10,l32,v12,())))
 (uN n n (v1,0,v3,v4,v5,v6,v7,v8,v9,v10,v11,v12,()))
def qP(n:Nat)(p0:aA)(p1:Int):Option (aA×aA×Key):=
 AG n n (p1,0,p0,(aA.mk 0 ([]:List Row) ([]:List Kid)),(aA.mk 0 ([]:List Row) ([]:List Kid)),(Key.mk 0 0),p0.kind,p0.kind,([]:List Row),([]:List Kid),([]:List Row),([]:List Kid),())
@[reducible] def AH:Ct tab:=⟨117,[.st 4,.one (.d (.int .i64))],[],[.st 4,.st 4,.st 1],[],(aA×aA×Key),λy=>(y.1,y.2.1,y.2.2,()),λy=>(y.1,y.2.1,y.2.2.1),λ_=>rfl,λn x=>qP n x.1 x.2.1⟩
theorem Fv:OkC Tryz.prog tab AH:=aQ (W:=⟨Tryz.prog,tab,bE,[],bG,dpO,false⟩) ⟨aK,trivial,aN⟩ (by kernel_rfl) 104 Tryz.f117 (.sq .n (.sq .n (.sq .n (.sq .n (.sq (.sq .n (.bk none (.lp ⟨[(1,.one (.d (.int .i64))),(2,.one (.box 0 0)),(4,.one (.box 1 0)),(5,.one (.box 2 0)),(6,.one (.box 3 0)),(7,.one (.box 4 0)),(8,.one (.box 5 0)),(9,.one (.d (.int .i64)))],[.bst 4,.bst 4,.bst 4,.bst 1,.box [.d (.int .i64),.own 6,.own 7],.box [.d (.int .i64),.own 8,.own 9],.row 40 (.st 2),.row 100 (.st 3),.row 40 (.st 2),.row 100 (.st 3)],[]⟩ (.sq .n (.sq (.bk none (.sq .n (.cd (some ⟨[(1,.one (.d (.int .i64))),(2,.one (.box 0 0)),(4,.one (.box 1 0)),(5,.one (.box 2 0)),(6,.one (.box 3 0)),(7,.one (.box 4 0)),(8,.one (.box 5 0)),(9,.one (.d (.int .i64)))],[.bst 4,.bst 4,.bst 4,.bst 1,.box [.d (.int .i64),.own 6,.own 7],.box [.d (.int .i64),.own 8,.own 9],.row 40 (.st 2),.row 100 (.st 3),.row 40 (.st 2),.row 100 (.st 3)],[]⟩) .n .n))) .n))))) (.sq (.sq .n (.bk none (.lp ⟨[(1,.one (.d (.int .i64))),(2,.one (.box 0 0)),(4,.one (.box 1 0)),(5,.one (.box 2 0)),(6,.one (.box 3 0)),(7,.one (.box 4 0)),(8,.one (.box 5 0)),(10,.one (.d (.int .i64)))],[.bst 4,.bst 4,.bst 4,.bst 1,.box [.d (.int .i64),.own 6,.own 7],.box [.d (.int .i64),.own 8,.own 9],.row 40 (.st 2),.row 100 (.st 3),.row 40 (.st 2),.row 100 (.st 3)],[]⟩ (.sq .n (.sq (.bk none (.sq .n (.cd (some ⟨[(1,.one (.d (.int .i64))),(2,.one (.box 0 0)),(4,.one (.box 1 0)),(5,.one (.box 2 0)),(6,.one (.box 3 0)),(7,.one (.box 4 0)),(8,.one (.box 5 0)),(10,.one (.d (.int .i64)))],[.bst 4,.bst 4,.bst 4,.bst 1,.box [.d (.int .i64),.own 6,.own 7],.box [.d (.int .i64),.own 8,.own 9],.row 40 (.st 2),.row 100 (.st 3),.row 40 (.st 2),.row 100 (.st 3)],[]⟩) .n .n))) .n))))) (.sq .n (.sq (.sq .n (.cd (some ⟨[(4,.one (.box 0 0)),(5,.one (.box 1 0)),(6,.one (.box 2 0)),(7,.one (.box 3 0)),(8,.one (.box 4 0)),(11,.one (.box 5 0))],[.bst 4,.bst 4,.bst 1,.box [.d (.int .i64),.own 6,.own 7],.box [.d (.int .i64),.own 8,.own 9],.bst 1,.row 40 (.st 2),.row 100 (.st 3),.row 40 (.st 2),.row 100 (.st 3)],[]⟩) .n .n)) (.sq (.sq .n (.cd (some ⟨[(4,.one (.box 0 0)),(5,.one (.box 1 0)),(6,.one (.box 2 0)),(7,.one (.box 3 0)),(8,.one (.box 4 0)),(11,.one (.box 5 0))],[.bst 4,.bst 4,.bst 1,.box [.d (.int .i64),.own 6,.own 7],.box [.d (.int .i64),.own 8,.own 9],.bst 1,.row 40 (.st 2),.row 100 (.st 3),.row 40 (.st 2),.row 100 (.st 3)],[]⟩) .n .n)) .n))))))))) Tryz.func117 Tryz.call117 rfl (by kernel_rfl) (by kernel_rfl) (by kernel_rfl) λn x=>by kernel_rfl
def sG(n:Nat)(p0:Int):Option Bool:=
 jn (fun(b1:Bool)=>
 some b1) λk2=>
 cond (decide (p0>=0))
 (k2 (decide (p0<3)))
 (k2 false)
@[reducible] def vV:Ct tab:=⟨70,[.one (.d (.int .i64))],[],[.one (.d .bool)],[],Bool,λy=>(y,()),λy=>y.1,λ_=>rfl,λn x=>sG n x.1⟩
theorem B3:OkC Tryz.prog tab vV:=aQ (W:=⟨Tryz.prog,tab,bE,[],bG,dpO,false⟩) ⟨aK,trivial,aN⟩ (by kernel_rfl) 9 Tryz.f70 .n Tryz.func70 Tryz.call70 rfl (by kernel_rfl) (by kernel_rfl) (by kernel_rfl) λn x=>by kernel_rfl
def pE(n:Nat)(p0:Row):Option Bool:=
 (sG n p0.key.table).bind λy1=>
 jn (fun(b2:Bool)=>
 some b2) λk3=>
 cond y1
 (k3 (decide ((p0.note.size:Int)<=8)))
 (k3 false)
@[reducible] def xI:Ct tab:=⟨34,[.st 2],[],[.one (.d .bool)],[],Bool,λy=>(y,()),λy=>y.1,λ_=>rfl,λn x=>pE n x.1⟩
theorem Fw:OkC Tryz.prog tab xI:=aQ (W:=⟨Tryz.prog,tab,bE,[vV],bG,dpO,false⟩) ⟨aK,⟨B3,trivial⟩,aN⟩ (by kernel_rfl) 13 Tryz.f34 .n Tryz.func34 Tryz.call34 rfl (by kernel_rfl) (by kernel_rfl) (by kernel_rfl) λn x=>by kernel_rfl
def gZ(n:Nat)(p0:Key):Option Int:=
 some (IntKind.wrap .i64 ((IntKind.wrap .i64 (p0.table*65536))+(IntKind.wrap .i64 p0.id)))
@[reducible] def vW:Ct tab:=⟨135,[.st 1],[],[.one (.d (.int .i64))],[],Int,λy=>(y,()),λy=>y.1,λ_=>rfl,λn x=>gZ n x.1⟩
theorem B4:OkC Tryz.prog tab vW:=aQ (W:=⟨Tryz.prog,tab,bE,[],bG,dpO,false⟩) ⟨aK,trivial,aN⟩ (by kernel_rfl) 10 Tryz.f135 .n Tryz.func135 Tryz.call135 rfl (by kernel_rfl) (by kernel_rfl) (by kernel_rfl) λn x=>by kernel_rfl
def yG(n:Nat):Nat->(List Row)×(List Row)×Int×Int×Unit->Option Bool:=aW λr1 ⟨v1,v2,v3,v4,_⟩=>
 cond (decide (v4<v3))
 ((idx v2 v4).bind λx5=>
 (pE n x5).bind λy6=>
 jn (fun(b7:Bool)=>
 cond b7
 (some false)
 (r1 (v1,v2,v3,(IntKind.wrap .i64 (v4+1)),()))) λk8=>
 cond (!y6)
 (k8 true)
 (jn (fun(b9:Bool)=>
 k8 b9) λk10=>
 cond (decide (v4>0))
 ((idx v1 (IntKind.wrap .i64 (v4-1))).bind λx11=>
 (gZ n x11.key).bind λy12=>
 (gZ n x5.key).bind λy13=>
 k10 (decide (y12>=y13)))
 (k10 false)))
 (some (decide ((v1.length:Int)<=4)))
def EA(n:Nat)(p0:List Row):Option Bool:=
 yG n n (p0,p0,(p0.length:Int),0,())
@[reducible] def DW:Ct tab:=⟨86,[.one (.d (.sl (.st 2)))],[],[.one (.d .bool)],[],Bool,λy=>(y,()),λy=>y.1,λ_=>rfl,λn x=>EA n x.1⟩
theorem KR:OkC Tryz.prog tab DW:=aQ (W:=⟨Tryz.prog,tab,bE,[xI,vW],bG,dpO,false⟩) ⟨aK,⟨Fw,B4,trivial⟩,aN⟩ (by kernel_rfl) 36 Tryz.f86 (.sq .n (.sq (.sq .n (.bk none (.lp ⟨[(0,.one (.d (.sl (.st 2)))),(5,.one (.d (.sl (.st 2)))),(6,.one (.d (.int .i64))),(7,.one (.d (.int .i64)))],[],[]⟩ .n))) .n)) Tryz.func86 Tryz.call86 rfl (by kernel_rfl) (by kernel_rfl) (by kernel_rfl) λn x=>by kernel_rfl
def rP(n:Nat)(r1:(List Kid)×(List Kid)×Int×Int×Unit->Option Bool):Nat->(List Kid)×(List Kid)×Int×Int×(List Kid)×Int×Int×Kid×Unit->Option Bool:=aW λr2 ⟨v15,v16,v17,v18,v19,v20,v21,v22,_⟩=>
 cond (decide (v21<v20))
 ((idx v19 v21).bind λx23=>
 cond (x23.page==v22.page)
 (some false)
 (r2 (v15,v16,v17,v18,v19,v20,(IntKind.wrap .i64 (v21+1)),v22,())))
 (r1 (v15,v16,v17,(IntKind.wrap .i64 (v18+1)),()))
def yH(n:Nat):Nat->(List Kid)×(List Kid)×Int×Int×Unit->Option Bool:=aW λr1 ⟨v1,v2,v3,v4,_⟩=>
 cond (decide (v4<v3))
 ((idx v2 v4).bind λx5=>
 jn (fun(b6:Bool)=>
 jn (fun(b8:Bool)=>
 jn (fun(b10:Bool)=>
 jn (fun(b12:Bool)=>
 cond b12
 (some false)
 ((sub v1 0 v4).bind λl14=>
 rP n r1 n (v1,v2,v3,v4,l14,(l14.length:Int),0,x5,()))) λk13=>
 cond b10
 (k13 true)
 (jn (fun(b24:Bool)=>
 k13 b24) λk25=>
 cond (decide (v4>0))
 ((idx v1 (IntKind.wrap .i64 (v4-1))).bind λx26=>
 (gZ n x26.least).bind λy27=>
 (gZ n x5.least).bind λy28=>
 k25 (decide (y27>=y28)))
 (k25 false))) λk11=>
 cond b8
 (k11 true)
 (jn (fun(b29:Bool)=>
 k11 b29) λk30=>
 cond (v4==0)
 (k30 (!(Key.eqb x5.least (Key.mk 0 0))))
 (k30 false))) λk9=>
 cond b6
 (k9 true)
 ((sG n x5.least.table).bind λy31=>
 k9 (!y31))) λk7=>
 cond (decide (x5.page<1))
 (k7 true)
 (k7 (decide (x5.page>=64))))
 (jn (fun(b32:Bool)=>
 some b32) λk33=>
 cond (decide ((v1.length:Int)>=2))
 (k33 (decide ((v1.length:Int)<=4)))
 (k33 false))
def EB(n:Nat)(p0:List Kid):Option Bool:=
 yH n n (p0,p0,(p0.length:Int),0,())
@[reducible] def DX:Ct tab:=⟨87,[.one (.d (.sl (.st 3)))],[],[.one (.d .bool)],[],Bool,λy=>(y,()),λy=>y.1,λ_=>rfl,λn x=>EB n x.1⟩
theorem KS:OkC Tryz.prog tab DX:=aQ (W:=⟨Tryz.prog,tab,bE,[vW,vV],bG,dpO,false⟩) ⟨aK,⟨B4,B3,trivial⟩,aN⟩ (by kernel_rfl) 79 Tryz.f87 (.sq .n (.sq (.sq .n (.bk none (.lp ⟨[(0,.one (.d (.sl (.st 3)))),(7,.one (.d (.sl (.st 3)))),(8,.one (.d (.int .i64))),(9,.one (.d (.int .i64)))],[],[]⟩ (.sq .n (.sq .n (.sq (.bk none (.sq .n (.sq .n (.sq .n (.bk none (.lp ⟨[(0,.one (.d (.sl (.st 3)))),(4,.one (.box 0 0)),(7,.one (.d (.sl (.st 3)))),(8,.one (.d (.int .i64))),(9,.one (.d (.int .i64))),(58,.one (.d (.sl (.st 3)))),(59,.one (.d (.int .i64))),(60,.one (.d (.int .i64)))],[.bst 3],[]⟩ .n)))))) .n)))))) .n)) Tryz.func87 Tryz.call87 rfl (by kernel_rfl) (by kernel_rfl) (by kernel_rfl) λn x=>by kernel_rfl
def sH(n:Nat)(p0:aA):Option Bool:=
 cond (p0.kind==0)
 (jn (fun(b1:Bool)=>
 some b1) λk2=>
 cond ((p0.rows.length:Int)==0)
 (k2 ((p0.kids.length:Int)==0))
 (k2 false))
 (cond (p0.kind==1)
 (jn (fun(b3:Bool)=>
 some b3) λk4=>
 cond ((p0.kids.length:Int)==0)
 ((EA n p0.rows).bind λy5=>
 k4 y5)
 (k4 false))
 (cond (p0.kind==2)
 (jn (fun(b6:Bool)=>
 some b6) λk7=>
 cond ((p0.rows.length:Int)==0)
 ((EB n p0.kids).bind λy8=>
 k7 y8)
 (k7 false))
 (some false)))
@[reducible] def B5:Ct tab:=⟨55,[.st 4],[],[.one (.d .bool)],[],Bool,λy=>(y,()),λy=>y.1,λ_=>rfl,λn x=>sH n x.1⟩
theorem I0:OkC Tryz.prog tab B5:=aQ (W:=⟨Tryz.prog,tab,bE,[DW,DX],bG,dpO,false⟩) ⟨aK,⟨KR,KS,trivial⟩,aN⟩ (by kernel_rfl) 39 Tryz.f55 .n Tryz.func55 Tryz.call55 rfl (by kernel_rfl) (by kernel_rfl) (by kernel_rfl) λn x=>by kernel_rfl
def pF(n:Nat)(r2:Int×aA×Unit->Option Bool):Nat->Int×Int×aA×Unit->Option Bool:=aW λr3 ⟨v11,v12,v13,_⟩=>
 cond (decide (v12<v11))
 ((idx v13.kids v12).bind λx14=>
 (idx v13.kids v11).bind λx15=>
 cond (x14.page==x15.page)
 (some false)
 (r3 (v11,(IntKind.wrap .i64 (v12+1)),v13,())))
 (r2 ((IntKind.wrap .i64 (v11+1)),v13,()))
def vX(n:Nat):Nat->Int×aA×Unit->Option Bool:=aW λr2 ⟨v6,v7,_⟩=>
 cond (decide (v6<(v7.kids.length:Int)))
 ((idx v7.kids (IntKind.wrap .i64 (v6-1))).bind λx8=>
 (idx v7.kids v6).bind λx9=>
 (eH n x8.least x9.least).bind λy10=>
 cond (decide (y10>=0))
 (some false)
 (pF n r2 n (v6,0,v7,())))
 (some true)
def vY(n:Nat):Nat->Int×aA×Unit->Option Bool:=aW λr1 ⟨v1,v2,_⟩=>
 cond (decide (v1<(v2.rows.length:Int)))
 ((idx v2.rows (IntKind.wrap .i64 (v1-1))).bind λx3=>
 (idx v2.rows v1).bind λx4=>
 (eH n x3.key x4.key).bind λy5=>
 cond (decide (y5>=0))
 (some false)
 (r1 ((IntKind.wrap .i64 (v1+1)),v2,())))
 (vX n n (1,v2,()))
def B6(n:Nat)(p0:aA):Option Bool:=
 vY n n (1,p0,())
@[reducible] def B7:Ct tab:=⟨157,[.st 4],[],[.one (.d .bool)],[],Bool,λy=>(y,()),λy=>y.1,λ_=>rfl,λn x=>B6 n x.1⟩
theorem I1:OkC Tryz.prog tab B7:=aQ (W:=⟨Tryz.prog,tab,bE,[lD],bG,dpO,false⟩) ⟨aK,⟨qO,trivial⟩,aN⟩ (by kernel_rfl) 68 Tryz.f157 (.sq .n (.sq (.sq .n (.bk none (.lp ⟨[(1,.one (.box 0 0)),(3,.one (.d (.int .i64)))],[.bst 4],[]⟩ .n))) (.sq (.sq .n (.bk none (.lp ⟨[(1,.one (.box 0 0)),(4,.one (.d (.int .i64)))],[.bst 4],[]⟩ (.sq .n (.sq (.bk none (.sq .n (.sq .n (.bk none (.lp ⟨[(1,.one (.box 0 0)),(4,.one (.d (.int .i64))),(5,.one (.d (.int .i64)))],[.bst 4],[]⟩ .n))))) .n))))) .n))) Tryz.func157 Tryz.call157 rfl (by kernel_rfl) (by kernel_rfl) (by kernel_rfl) λn x=>by kernel_rfl
end
end Go.Proofs.YtlcmdgpjiendmaaGreat
