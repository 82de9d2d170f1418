import Derived.Test.YtlcmdgpjiendmaaGreatTypes
import Derived.Test.YtlcmdgpjiendmaaGreatF3
namespace Go.Proofs.YtlcmdgpjiendmaaGreat
open Go Go.Bur Go.RowKit
set_option linter.unusedVariables false
set_option linter.unusedSimpArgs false
set_option maxRecDepth 100000
noncomputable section
def ref13_Depths_l1(n:Nat)(self:Forest×Int×Int×Unit→Option ((List Int))):Nat→Int×Int×Forest×Content×(List Int)×Unit→Option ((List Int)):=loopF λr1 ⟨v4,v5,v6,v7,v8,_⟩=>
 cond (decide (v5<(v7.kids.length:Int)))
 ((idx v7.kids v5).bind λx9=>
 (self (v6,x9.page,(IntKind.wrap .i64 (v4+1)),())).bind λy10=>
 (app 8 v8 y10).bind λl11=>
 r1 (v4,(IntKind.wrap .i64 (v5+1)),v6,v7,l11,()))
 (some v8)
def ref13_Depths_b(n:Nat)(self:Forest×Int×Int×Unit→Option ((List Int)))(p0:Forest)(p1:Int)(p2:Int):Option ((List Int)):=
 (idx p0.pages p1).bind λx1=>
 jn (fun(b2:Bool)=>
 cond b2
 (some ([p2]:List Int))
 (ref13_Depths_l1 n self n (p2,0,p0,x1,([]:List Int),()))) λk3=>
 cond (x1.kind !=2)
 (k3 true)
 (k3 (decide (p2>8)))
def ref13_Depths(n:Nat)(p0:Forest)(p1:Int)(p2:Int):Option ((List Int)):=recF (λn self x=>ref13_Depths_b n self x.1 x.2.1 x.2.2.1) n (p0,p1,p2,())
@[reducible] def ref13_Depths_ct:Ct tab:=⟨30,[.st 5,.one (.d (.int .i64)),.one (.d (.int .i64))],[],[.one (.own 0)],[(none,.row 3 (.int .i64))],((List Int)),λy=>(y,()),λy=>y.1,λ_=>rfl,λn x=>ref13_Depths n x.1 x.2.1 x.2.2.1⟩
theorem ref13_Depths_ok:OkC Tryz.prog tab ref13_Depths_ct:=fn_rec (W:=⟨Tryz.prog,tab,tyOf,[],addO,dpO,false⟩) ⟨tabOk,trivial,addOk⟩ (by kernel_rfl) 44 Tryz.f30 (.sq (.n) (.sq (.n) (.sq (.n) (.sq (.n) (.sq (.sq (.n) (.bk none (.lp ⟨[(2,.one (.d (.int .i64))),(3,.one (.box 0 0)),(7,.one (.box 1 0)),(8,.one (.own 2)),(9,.one (.d (.int .i64)))],[.bst 5,.bst 4,.row 3 (.int .i64)],[]⟩ (.n)))) (.n)))))) Tryz.func30 Tryz.call30 rfl (by kernel_rfl) (by kernel_rfl) (by kernel_rfl) (λn self x=>ref13_Depths_b n self x.1 x.2.1 x.2.2.1) (λ_=>rfl) (λ_ _=>rfl) λself n x=>by kernel_rfl
def ref13_Right_l4(n:Nat):Nat→Int×(List Int)×Unit→Option Bool:=loopF λr4 ⟨v31,v32,_⟩=>
 cond (decide (v31<(v32.length:Int)))
 ((idx v32 v31).bind λx33=>
 (idx v32 v31).bind λx34=>
 (idx v32 0).bind λx35=>
 (idx v32 0).bind λx36=>
 cond (x34 !=x36)
 (some false)
 (r4 ((IntKind.wrap .i64 (v31+1)),v32,())))
 (some true)
def ref13_Right_l3(n:Nat):Nat→Int×Forest×(List Int)×Unit→Option Bool:=loopF λr3 ⟨v18,v19,v20,_⟩=>
 cond (decide (v18<64))
 ((idx v20 v18).bind λx21=>
 (idx v20 v18).bind λx22=>
 jn (fun(b23:Bool)=>
 cond b23
 (some false)
 (r3 ((IntKind.wrap .i64 (v18+1)),v19,v20,()))) λk24=>
 cond (decide (x22>1))
 (k24 true)
 ((idx v20 v18).bind λx25=>
 (idx v20 v18).bind λx26=>
 jn (fun(b27:Bool)=>
 k24 b27) λk28=>
 cond (x26==0)
 ((idx v19.pages v18).bind λx29=>
 k28 (x29.kind !=0))
 (k28 false)))
 ((ref13_Depths n v19 0 1).bind λy30=>
 ref13_Right_l4 n n (1,y30,()))
def ref13_Right_l2(n:Nat):Nat→Int×Forest×(List Int)×(List Int)×Unit→Option Bool:=loopF λr2 ⟨v6,v7,v8,v9,_⟩=>
 cond (decide (v6<(v8.length:Int)))
 ((idx v8 v6).bind λx10=>
 (idx v8 v6).bind λx11=>
 (idx v8 v6).bind λx12=>
 (idx v8 v6).bind λx13=>
 (idx v9 x13).bind λx14=>
 (idx v9 x13).bind λx15=>
 (idx v9 x11).bind λx16=>
 (put v9 x11 (IntKind.wrap .i64 (x15+1))).bind λl17=>
 r2 ((IntKind.wrap .i64 (v6+1)),v7,v8,l17,()))
 (ref13_Right_l3 n n (0,v7,v9,()))
def ref13_Right_l1(n:Nat):Nat→Int×Forest×Unit→Option Bool:=loopF λr1 ⟨v1,v2,_⟩=>
 cond (decide (v1<64))
 ((idx v2.pages v1).bind λx3=>
 (ref06_Right n x3).bind λy4=>
 cond (!y4)
 (some false)
 (r1 ((IntKind.wrap .i64 (v1+1)),v2,())))
 ((ref13_Pages n v2 0 (ref13_Bound.mk (Key.mk 0 0) (Key.mk 0 0) false) 8).bind λy5=>
 cond ((y5.length:Int)==0)
 (some false)
 (ref13_Right_l2 n n (0,v2,y5,(List.replicate 64 0),())))
def ref13_Right(n:Nat)(p0:Forest):Option Bool:=
 cond ((p0.pages.length:Int) !=64)
 (some false)
 (ref13_Right_l1 n n (0,p0,()))
@[reducible] def ref13_Right_ct:Ct tab:=⟨26,[.st 5],[],[.one (.d .bool)],[],Bool,λy=>(y,()),λy=>y.1,λ_=>rfl,λn x=>ref13_Right n x.1⟩
theorem ref13_Right_ok:OkC Tryz.prog tab ref13_Right_ct:=fn_ok (W:=⟨Tryz.prog,tab,tyOf,[ref06_Right_ct,ref13_Pages_ct,ref13_Depths_ct],addO,dpO,false⟩) ⟨tabOk,⟨ref06_Right_ok,ref13_Pages_ok,ref13_Depths_ok,trivial⟩,addOk⟩ (by kernel_rfl) 93 Tryz.f26 (.sq (.n) (.sq (.n) (.sq (.sq (.n) (.bk none (.lp ⟨[(1,.one (.box 0 0)),(3,.one (.d (.int .i64)))],[.bst 5],[]⟩ (.n)))) (.sq (.n) (.sq (.n) (.sq (.n) (.sq (.sq (.n) (.bk none (.lp ⟨[(1,.one (.box 0 0)),(4,.one (.own 1)),(5,.one (.own 2)),(6,.one (.d (.int .i64)))],[.bst 5,.row 3 (.int .i64),.row 3 (.int .i64)],[]⟩ (.n)))) (.sq (.sq (.n) (.bk none (.lp ⟨[(1,.one (.box 0 0)),(5,.one (.own 1)),(7,.one (.d (.int .i64)))],[.bst 5,.row 3 (.int .i64)],[]⟩ (.n)))) (.sq (.n) (.sq (.sq (.n) (.bk none (.lp ⟨[(8,.one (.own 0)),(9,.one (.d (.int .i64)))],[.row 3 (.int .i64)],[]⟩ (.n)))) (.n))))))))))) Tryz.func26 Tryz.call26 rfl (by kernel_rfl) (by kernel_rfl) (by kernel_rfl) λn x=>by kernel_rfl
end
end Go.Proofs.YtlcmdgpjiendmaaGreat
