import Derived.Test.YtlcmdgpjiendmaaGreatTypes
namespace Go.Proofs.YtlcmdgpjiendmaaGreat
open Go Go.Bur Go.RowKit
set_option linter.unusedVariables false
set_option linter.unusedSimpArgs false
set_option maxRecDepth 100000
noncomputable section
def tree_New(n:Nat):Option Forest:=
 (idx (List.replicate 64 (Content.mk 0 ([]:List Row) ([]:List Kid))) 0).bind λx1=>
 (idx (List.replicate 64 (Content.mk 0 ([]:List Row) ([]:List Kid))) 0).bind λx2=>
 (put (List.replicate 64 (Content.mk 0 ([]:List Row) ([]:List Kid))) 0 (Content.mk 1 x2.rows x2.kids)).bind λl3=>
 some (Forest.mk l3)
@[reducible] def tree_New_ct:Ct tab:=⟨24,[],[],[.st 5],[],Forest,λy=>(y,()),λy=>y.1,λ_=>rfl,λn x=>tree_New n⟩
theorem tree_New_ok:OkC Tryz.prog tab tree_New_ct:=fn_ok (W:=⟨Tryz.prog,tab,tyOf,[],addO,dpO,false⟩) ⟨tabOk,trivial,addOk⟩ (by kernel_rfl) 9 Tryz.f24 (.n) Tryz.func24 Tryz.call24 rfl (by kernel_rfl) (by kernel_rfl) (by kernel_rfl) λn x=>by kernel_rfl
def law13_row(n:Nat)(p0:Int):Option Row:=
 some (Row.mk (Key.mk 0 p0) 0 ByteArray.empty)
@[reducible] def law13_row_ct:Ct tab:=⟨45,[.one (.d (.int .u16))],[],[.st 2],[],Row,λy=>(y,()),λy=>y.1,λ_=>rfl,λn x=>law13_row n x.1⟩
theorem law13_row_ok:OkC Tryz.prog tab law13_row_ct:=fn_ok (W:=⟨Tryz.prog,tab,tyOf,[],addO,dpO,false⟩) ⟨tabOk,trivial,addOk⟩ (by kernel_rfl) 6 Tryz.f45 (.n) Tryz.func45 Tryz.call45 rfl (by kernel_rfl) (by kernel_rfl) (by kernel_rfl) λn x=>by kernel_rfl
def cmp_isNaN_int(n:Nat)(p0:Int):Option Bool:=
 some (p0 !=p0)
@[reducible] def cmp_isNaN_int_ct:Ct tab:=⟨150,[.one (.d (.int .i64))],[],[.one (.d .bool)],[],Bool,λy=>(y,()),λy=>y.1,λ_=>rfl,λn x=>cmp_isNaN_int n x.1⟩
theorem cmp_isNaN_int_ok:OkC Tryz.prog tab cmp_isNaN_int_ct:=fn_ok (W:=⟨Tryz.prog,tab,tyOf,[],addO,dpO,false⟩) ⟨tabOk,trivial,addOk⟩ (by kernel_rfl) 6 Tryz.f150 (.n) Tryz.func150 Tryz.call150 rfl (by kernel_rfl) (by kernel_rfl) (by kernel_rfl) λn x=>by kernel_rfl
def cmp_Compare_int(n:Nat)(p0:Int)(p1:Int):Option Int:=
 (cmp_isNaN_int n p0).bind λy1=>
 (cmp_isNaN_int n p1).bind λy2=>
 cond y1
 (cond y2
 (some 0)
 (some (-1)))
 (cond y2
 (some 1)
 (cond (decide (p0<p1))
 (some (-1))
 (cond (decide (p0>p1))
 (some 1)
 (some 0))))
@[reducible] def cmp_Compare_int_ct:Ct tab:=⟨110,[.one (.d (.int .i64)),.one (.d (.int .i64))],[],[.one (.d (.int .i64))],[],Int,λy=>(y,()),λy=>y.1,λ_=>rfl,λn x=>cmp_Compare_int n x.1 x.2.1⟩
theorem cmp_Compare_int_ok:OkC Tryz.prog tab cmp_Compare_int_ct:=fn_ok (W:=⟨Tryz.prog,tab,tyOf,[cmp_isNaN_int_ct],addO,dpO,false⟩) ⟨tabOk,⟨cmp_isNaN_int_ok,trivial⟩,addOk⟩ (by kernel_rfl) 20 Tryz.f110 (.n) Tryz.func110 Tryz.call110 rfl (by kernel_rfl) (by kernel_rfl) (by kernel_rfl) λn x=>by kernel_rfl
def cmp_isNaN_uint16(n:Nat)(p0:Int):Option Bool:=
 some (p0 !=p0)
@[reducible] def cmp_isNaN_uint16_ct:Ct tab:=⟨170,[.one (.d (.int .u16))],[],[.one (.d .bool)],[],Bool,λy=>(y,()),λy=>y.1,λ_=>rfl,λn x=>cmp_isNaN_uint16 n x.1⟩
theorem cmp_isNaN_uint16_ok:OkC Tryz.prog tab cmp_isNaN_uint16_ct:=fn_ok (W:=⟨Tryz.prog,tab,tyOf,[],addO,dpO,false⟩) ⟨tabOk,trivial,addOk⟩ (by kernel_rfl) 6 Tryz.f170 (.n) Tryz.func170 Tryz.call170 rfl (by kernel_rfl) (by kernel_rfl) (by kernel_rfl) λn x=>by kernel_rfl
def cmp_Compare_uint16(n:Nat)(p0:Int)(p1:Int):Option Int:=
 (cmp_isNaN_uint16 n p0).bind λy1=>
 (cmp_isNaN_uint16 n p1).bind λy2=>
 cond y1
 (cond y2
 (some 0)
 (some (-1)))
 (cond y2
 (some 1)
 (cond (decide (p0<p1))
 (some (-1))
 (cond (decide (p0>p1))
 (some 1)
 (some 0))))
@[reducible] def cmp_Compare_uint16_ct:Ct tab:=⟨142,[.one (.d (.int .u16)),.one (.d (.int .u16))],[],[.one (.d (.int .i64))],[],Int,λy=>(y,()),λy=>y.1,λ_=>rfl,λn x=>cmp_Compare_uint16 n x.1 x.2.1⟩
theorem cmp_Compare_uint16_ok:OkC Tryz.prog tab cmp_Compare_uint16_ct:=fn_ok (W:=⟨Tryz.prog,tab,tyOf,[cmp_isNaN_uint16_ct],addO,dpO,false⟩) ⟨tabOk,⟨cmp_isNaN_uint16_ok,trivial⟩,addOk⟩ (by kernel_rfl) 20 Tryz.f142 (.n) Tryz.func142 Tryz.call142 rfl (by kernel_rfl) (by kernel_rfl) (by kernel_rfl) λn x=>by kernel_rfl
def cmp_Or_int_l1(n:Nat):Nat→Int×(List Int)×Int×Int×Unit→Option Int:=loopF λr1 ⟨v1,v2,v3,v4,_⟩=>
 cond (decide (v4<v3))
 ((idx v2 v4).bind λx5=>
 cond (x5 !=v1)
 (some x5)
 (r1 (v1,v2,v3,(IntKind.wrap .i64 (v4+1)),())))
 (some v1)
def cmp_Or_int(n:Nat)(p0:List Int):Option Int:=
 cmp_Or_int_l1 n n (0,p0,(p0.length:Int),0,())
@[reducible] def cmp_Or_int_ct:Ct tab:=⟨141,[.one (.d (.sl (.int .i64)))],[],[.one (.d (.int .i64))],[],Int,λy=>(y,()),λy=>y.1,λ_=>rfl,λn x=>cmp_Or_int n x.1⟩
theorem cmp_Or_int_ok:OkC Tryz.prog tab cmp_Or_int_ct:=fn_ok (W:=⟨Tryz.prog,tab,tyOf,[],addO,dpO,false⟩) ⟨tabOk,trivial,addOk⟩ (by kernel_rfl) 18 Tryz.f141 (.sq (.n) (.sq (.n) (.sq (.sq (.n) (.bk none (.lp ⟨[(3,.one (.d (.int .i64))),(6,.one (.d (.sl (.int .i64)))),(7,.one (.d (.int .i64))),(8,.one (.d (.int .i64)))],[],[]⟩ (.n)))) (.n)))) Tryz.func141 Tryz.call141 rfl (by kernel_rfl) (by kernel_rfl) (by kernel_rfl) λn x=>by kernel_rfl
def row_Compare(n:Nat)(p0:Key)(p1:Key):Option Int:=
 (cmp_Compare_int n p0.table p1.table).bind λy1=>
 (cmp_Compare_uint16 n p0.id p1.id).bind λy2=>
 (cmp_Or_int n ([y1,y2]:List Int)).bind λy3=>
 some y3
@[reducible] def row_Compare_ct:Ct tab:=⟨98,[.st 1,.st 1],[],[.one (.d (.int .i64))],[],Int,λy=>(y,()),λy=>y.1,λ_=>rfl,λn x=>row_Compare n x.1 x.2.1⟩
theorem row_Compare_ok:OkC Tryz.prog tab row_Compare_ct:=fn_ok (W:=⟨Tryz.prog,tab,tyOf,[cmp_Compare_int_ct,cmp_Compare_uint16_ct,cmp_Or_int_ct],addO,dpO,false⟩) ⟨tabOk,⟨cmp_Compare_int_ok,cmp_Compare_uint16_ok,cmp_Or_int_ok,trivial⟩,addOk⟩ (by kernel_rfl) 17 Tryz.f98 (.n) Tryz.func98 Tryz.call98 rfl (by kernel_rfl) (by kernel_rfl) (by kernel_rfl) λn x=>by kernel_rfl
def tree_within_fnil(n:Nat)(p0:Key)(p1:Key):Option Bool:=
 (row_Compare n p0 p1).bind λy1=>
 jn (fun(b2:Bool)=>
 some b2) λk3=>
 cond (decide (y1≥0))
 (k3 true)
 (k3 false)
@[reducible] def tree_within_fnil_ct:Ct tab:=⟨128,[.st 1,.st 1,.one (.nptr)],[],[.one (.d .bool)],[],Bool,λy=>(y,()),λy=>y.1,λ_=>rfl,λn x=>tree_within_fnil n x.1 x.2.1⟩
theorem tree_within_fnil_ok:OkC Tryz.prog tab tree_within_fnil_ct:=fn_ok (W:=⟨Tryz.prog,tab,tyOf,[row_Compare_ct],addO,dpO,false⟩) ⟨tabOk,⟨row_Compare_ok,trivial⟩,addOk⟩ (by kernel_rfl) 23 Tryz.f128 (.n) Tryz.func128 Tryz.call128 rfl (by kernel_rfl) (by kernel_rfl) (by kernel_rfl) λn x=>by kernel_rfl
def tree_within(n:Nat)(p0:Key)(p1:Key)(p2:Key):Option Bool:=
 (row_Compare n p0 p1).bind λy1=>
 jn (fun(b2:Bool)=>
 some b2) λk3=>
 cond (decide (y1≥0))
 ((row_Compare n p0 p2).bind λy4=>
 k3 (decide (y4<0)))
 (k3 false)
@[reducible] def tree_within_ct:Ct tab:=⟨128,[.st 1,.st 1,.one (.ro (.st 1))],[],[.one (.d .bool)],[],Bool,λy=>(y,()),λy=>y.1,λ_=>rfl,λn x=>tree_within n x.1 x.2.1 x.2.2.1⟩
theorem tree_within_ok:OkC Tryz.prog tab tree_within_ct:=fn_ok (W:=⟨Tryz.prog,tab,tyOf,[row_Compare_ct],addO,dpO,false⟩) ⟨tabOk,⟨row_Compare_ok,trivial⟩,addOk⟩ (by kernel_rfl) 23 Tryz.f128 (.n) Tryz.func128 Tryz.call128 rfl (by kernel_rfl) (by kernel_rfl) (by kernel_rfl) λn x=>by kernel_rfl
def codec_leaf_1(n:Nat)(p0:Row):Option Key:=
 some p0.key
@[reducible] def codec_leaf_1_ct:Ct tab:=⟨130,[.st 2],[],[.st 1],[],Key,λy=>(y,()),λy=>y.1,λ_=>rfl,λn x=>codec_leaf_1 n x.1⟩
theorem codec_leaf_1_ok:OkC Tryz.prog tab codec_leaf_1_ct:=fn_ok (W:=⟨Tryz.prog,tab,tyOf,[],addO,dpO,false⟩) ⟨tabOk,trivial,addOk⟩ (by kernel_rfl) 5 Tryz.f130 (.n) Tryz.func130 Tryz.call130 rfl (by kernel_rfl) (by kernel_rfl) (by kernel_rfl) λn x=>by kernel_rfl
def codec_table(n:Nat)(p0:Int):Option Bool:=
 jn (fun(b1:Bool)=>
 some b1) λk2=>
 cond (decide (p0≥0))
 (k2 (decide (p0<3)))
 (k2 false)
@[reducible] def codec_table_ct:Ct tab:=⟨91,[.one (.d (.int .i64))],[],[.one (.d .bool)],[],Bool,λy=>(y,()),λy=>y.1,λ_=>rfl,λn x=>codec_table n x.1⟩
theorem codec_table_ok:OkC Tryz.prog tab codec_table_ct:=fn_ok (W:=⟨Tryz.prog,tab,tyOf,[],addO,dpO,false⟩) ⟨tabOk,trivial,addOk⟩ (by kernel_rfl) 9 Tryz.f91 (.n) Tryz.func91 Tryz.call91 rfl (by kernel_rfl) (by kernel_rfl) (by kernel_rfl) λn x=>by kernel_rfl
def codec_CheckRow(n:Nat)(p0:Row):Option Int:=
 (codec_table n p0.key.table).bind λy1=>
 jn (fun(b2:Bool)=>
 cond b2
 (some 151)
 (some 0)) λk3=>
 cond (!y1)
 (k3 true)
 (k3 (decide ((p0.note.size:Int)>8)))
@[reducible] def codec_CheckRow_ct:Ct tab:=⟨58,[.st 2],[],[.one (.d (.int .i64))],[],Int,λy=>(y,()),λy=>y.1,λ_=>rfl,λn x=>codec_CheckRow n x.1⟩
theorem codec_CheckRow_ok:OkC Tryz.prog tab codec_CheckRow_ct:=fn_ok (W:=⟨Tryz.prog,tab,tyOf,[codec_table_ct],addO,dpO,false⟩) ⟨tabOk,⟨codec_table_ok,trivial⟩,addOk⟩ (by kernel_rfl) 14 Tryz.f58 (.n) Tryz.func58 Tryz.call58 rfl (by kernel_rfl) (by kernel_rfl) (by kernel_rfl) λn x=>by kernel_rfl
def codec_leaf_2(n:Nat)(p0:Int)(p1:Row):Option Bool:=
 (codec_CheckRow n p1).bind λy1=>
 some (y1==0)
@[reducible] def codec_leaf_2_ct:Ct tab:=⟨131,[.one (.d (.int .i64)),.st 2],[],[.one (.d .bool)],[],Bool,λy=>(y,()),λy=>y.1,λ_=>rfl,λn x=>codec_leaf_2 n x.1 x.2.1⟩
theorem codec_leaf_2_ok:OkC Tryz.prog tab codec_leaf_2_ct:=fn_ok (W:=⟨Tryz.prog,tab,tyOf,[codec_CheckRow_ct],addO,dpO,false⟩) ⟨tabOk,⟨codec_CheckRow_ok,trivial⟩,addOk⟩ (by kernel_rfl) 8 Tryz.f131 (.n) Tryz.func131 Tryz.call131 rfl (by kernel_rfl) (by kernel_rfl) (by kernel_rfl) λn x=>by kernel_rfl
def codec_rises_Row_f130_f131_j1(n:Nat):Bool×Unit→Option Bool:=fun⟨v18,_⟩=>
 some v18
def codec_rises_Row_f130_f131_l2(n:Nat)(j1:Bool×Unit→Option Bool):Nat→(List Row)×Bool×(List Row)×Int×Int×Unit→Option Bool:=loopF λr2 ⟨v19,v20,v21,v22,v23,_⟩=>
 cond (decide (v23<v22))
 ((idx v21 v23).bind λx24=>
 jn (fun(b25:Bool)=>
 jn (fun(b27:Bool)=>
 cond (!b27)
 (j1 (b27,()))
 (r2 (v19,b27,v21,v22,(IntKind.wrap .i64 (v23+1)),()))) λk28=>
 cond b25
 (jn (fun(b29:Bool)=>
 k28 b29) λk30=>
 cond (v23==0)
 (k30 true)
 ((idx v19 (IntKind.wrap .i64 (v23-1))).bind λx31=>
 (codec_leaf_1 n x31).bind λy32=>
 (codec_leaf_1 n x24).bind λy33=>
 (row_Compare n y32 y33).bind λy34=>
 k30 (decide (y34<0))))
 (k28 false)) λk26=>
 cond v20
 ((codec_leaf_2 n v23 x24).bind λy35=>
 k26 y35)
 (k26 false))
 (j1 (v20,()))
def codec_rises_Row_f130_f131(n:Nat)(p0:List Row)(p1:Int):Option Bool:=
 jn (codec_rises_Row_f130_f131_j1 n) λj1=>
 codec_rises_Row_f130_f131_l2 n j1 n (p0,(decide ((p0.length:Int)≤p1)),p0,(p0.length:Int),0,())
@[reducible] def codec_rises_Row_f130_f131_ct:Ct tab:=⟨129,[.one (.d (.sl (.st 2))),.one (.d (.int .i64)),.one (.fn 130 []),.one (.fn 131 [])],[],[.one (.d .bool)],[],Bool,λy=>(y,()),λy=>y.1,λ_=>rfl,λn x=>codec_rises_Row_f130_f131 n x.1 x.2.1⟩
theorem codec_rises_Row_f130_f131_ok:OkC Tryz.prog tab codec_rises_Row_f130_f131_ct:=fn_ok (W:=⟨Tryz.prog,tab,tyOf,[codec_leaf_1_ct,row_Compare_ct,codec_leaf_2_ct],addO,dpO,false⟩) ⟨tabOk,⟨codec_leaf_1_ok,row_Compare_ok,codec_leaf_2_ok,trivial⟩,addOk⟩ (by kernel_rfl) 52 Tryz.f129 (.sq (.n) (.sq (.n) (.sq (.n) (.sq (.sq (.n) (.bk (some ⟨[(2,.one (.fn 130 [])),(3,.one (.fn 131 [])),(9,.one (.d .bool))],[],[]⟩) (.lp ⟨[(0,.one (.d (.sl (.st 2)))),(2,.one (.fn 130 [])),(3,.one (.fn 131 [])),(9,.one (.d .bool)),(16,.one (.d (.sl (.st 2)))),(17,.one (.d (.int .i64))),(18,.one (.d (.int .i64)))],[],[]⟩ (.n)))) (.n))))) Tryz.func129 Tryz.call129 rfl (by kernel_rfl) (by kernel_rfl) (by kernel_rfl) λn x=>by kernel_rfl
def codec_leaf(n:Nat)(p0:List Row):Option Bool:=
 (codec_rises_Row_f130_f131 n p0 4).bind λy1=>
 some y1
@[reducible] def codec_leaf_ct:Ct tab:=⟨83,[.one (.d (.sl (.st 2)))],[],[.one (.d .bool)],[],Bool,λy=>(y,()),λy=>y.1,λ_=>rfl,λn x=>codec_leaf n x.1⟩
theorem codec_leaf_ok:OkC Tryz.prog tab codec_leaf_ct:=fn_ok (W:=⟨Tryz.prog,tab,tyOf,[codec_rises_Row_f130_f131_ct],addO,dpO,false⟩) ⟨tabOk,⟨codec_rises_Row_f130_f131_ok,trivial⟩,addOk⟩ (by kernel_rfl) 5 Tryz.f83 (.n) Tryz.func83 Tryz.call83 rfl (by kernel_rfl) (by kernel_rfl) (by kernel_rfl) λn x=>by kernel_rfl
def codec_inner_2(n:Nat)(p0:Int)(p1:Kid)(q1:List (Int×Bool)):Option (Bool×(List (Int×Bool))):=
 (mlook .i64 false q1 p1.page).bind λw1=>
 (mput .i64 q1 p1.page true).bind λl2=>
 jn (fun(b3:Bool)=>
 jn (fun(b5:Bool)=>
 jn (fun(b7:Bool)=>
 jn (fun(b9:Bool)=>
 some (b9,l2)) λk10=>
 cond b7
 (jn (fun(b11:Bool)=>
 k10 b11) λk12=>
 cond (decide (p0>0))
 (k12 true)
 (k12 (Key.eqb p1.least (Key.mk 0 0))))
 (k10 false)) λk8=>
 cond b5
 ((codec_table n p1.least.table).bind λy13=>
 k8 y13)
 (k8 false)) λk6=>
 cond b3
 (k6 (decide (p1.page<64)))
 (k6 false)) λk4=>
 cond (!w1)
 (k4 (decide (p1.page>0)))
 (k4 false)
@[reducible] def codec_inner_2_ct:Ct tab:=⟨134,[.one (.d (.int .i64)),.st 3,.one (.box 0 0)],[.box [.map 1],.map .i64 3 4 .bool],[.one (.d .bool)],[(some 0,.box [.map 1]),(some 1,.map .i64 3 4 .bool)],(Bool×(List (Int×Bool))),λy=>(y.1,y.2,()),λy=>(y.1,y.2.1),λ_=>rfl,λn x=>codec_inner_2 n x.1 x.2.1 x.2.2.1⟩
theorem codec_inner_2_ok:OkC Tryz.prog tab codec_inner_2_ct:=fn_ok (W:=⟨Tryz.prog,tab,tyOf,[codec_table_ct],addO,dpO,false⟩) ⟨tabOk,⟨codec_table_ok,trivial⟩,addOk⟩ (by kernel_rfl) 42 Tryz.f134 (.n) Tryz.func134 Tryz.call134 rfl (by kernel_rfl) (by kernel_rfl) (by kernel_rfl) λn x=>by kernel_rfl
def codec_inner_1(n:Nat)(p0:Kid):Option Key:=
 some p0.least
@[reducible] def codec_inner_1_ct:Ct tab:=⟨133,[.st 3],[],[.st 1],[],Key,λy=>(y,()),λy=>y.1,λ_=>rfl,λn x=>codec_inner_1 n x.1⟩
theorem codec_inner_1_ok:OkC Tryz.prog tab codec_inner_1_ct:=fn_ok (W:=⟨Tryz.prog,tab,tyOf,[],addO,dpO,false⟩) ⟨tabOk,trivial,addOk⟩ (by kernel_rfl) 5 Tryz.f133 (.n) Tryz.func133 Tryz.call133 rfl (by kernel_rfl) (by kernel_rfl) (by kernel_rfl) λn x=>by kernel_rfl
def codec_rises_Kid_f133_f134_j1(n:Nat):Bool×(List (Int×Bool))×Unit→Option (Bool×(List (Int×Bool))):=fun⟨v17,v18,_⟩=>
 some (v17,v18)
def codec_rises_Kid_f133_f134_l2(n:Nat)(j1:Bool×(List (Int×Bool))×Unit→Option (Bool×(List (Int×Bool)))):Nat→(List Kid)×Bool×(List Kid)×Int×Int×(List (Int×Bool))×Unit→Option (Bool×(List (Int×Bool))):=loopF λr2 ⟨v19,v20,v21,v22,v23,v24,_⟩=>
 cond (decide (v23<v22))
 ((idx v21 v23).bind λx25=>
 cond v20
 ((codec_inner_2 n v23 x25 v24).bind λy26=>
 cond y26.1
 (cond (v23==0)
 (cond (!true)
 (j1 (true,y26.2,()))
 (r2 (v19,true,v21,v22,(IntKind.wrap .i64 (v23+1)),y26.2,())))
 ((idx v19 (IntKind.wrap .i64 (v23-1))).bind λx27=>
 (codec_inner_1 n x27).bind λy28=>
 (codec_inner_1 n x25).bind λy29=>
 (row_Compare n y28 y29).bind λy30=>
 cond (!(decide (y30<0)))
 (j1 ((decide (y30<0)),y26.2,()))
 (r2 (v19,(decide (y30<0)),v21,v22,(IntKind.wrap .i64 (v23+1)),y26.2,()))))
 (cond (!false)
 (j1 (false,y26.2,()))
 (r2 (v19,false,v21,v22,(IntKind.wrap .i64 (v23+1)),y26.2,()))))
 (cond false
 (cond (v23==0)
 (cond (!true)
 (j1 (true,v24,()))
 (r2 (v19,true,v21,v22,(IntKind.wrap .i64 (v23+1)),v24,())))
 ((idx v19 (IntKind.wrap .i64 (v23-1))).bind λx31=>
 (codec_inner_1 n x31).bind λy32=>
 (codec_inner_1 n x25).bind λy33=>
 (row_Compare n y32 y33).bind λy34=>
 cond (!(decide (y34<0)))
 (j1 ((decide (y34<0)),v24,()))
 (r2 (v19,(decide (y34<0)),v21,v22,(IntKind.wrap .i64 (v23+1)),v24,()))))
 (cond (!false)
 (j1 (false,v24,()))
 (r2 (v19,false,v21,v22,(IntKind.wrap .i64 (v23+1)),v24,())))))
 (j1 (v20,v24,()))
def codec_rises_Kid_f133_f134(n:Nat)(p0:List Kid)(p1:Int)(q1:List (Int×Bool)):Option (Bool×(List (Int×Bool))):=
 jn (codec_rises_Kid_f133_f134_j1 n) λj1=>
 codec_rises_Kid_f133_f134_l2 n j1 n (p0,(decide ((p0.length:Int)≤p1)),p0,(p0.length:Int),0,q1,())
@[reducible] def codec_rises_Kid_f133_f134_ct:Ct tab:=⟨132,[.one (.d (.sl (.st 3))),.one (.d (.int .i64)),.one (.fn 133 []),.one (.fn 134 [.bx 0])],[.box [.map 1],.map .i64 3 4 .bool],[.one (.d .bool)],[(some 0,.box [.map 1]),(some 1,.map .i64 3 4 .bool)],(Bool×(List (Int×Bool))),λy=>(y.1,y.2,()),λy=>(y.1,y.2.1),λ_=>rfl,λn x=>codec_rises_Kid_f133_f134 n x.1 x.2.1 x.2.2.1⟩
theorem codec_rises_Kid_f133_f134_ok:OkC Tryz.prog tab codec_rises_Kid_f133_f134_ct:=fn_ok (W:=⟨Tryz.prog,tab,tyOf,[codec_inner_2_ct,codec_inner_1_ct,row_Compare_ct],addO,dpO,false⟩) ⟨tabOk,⟨codec_inner_2_ok,codec_inner_1_ok,row_Compare_ok,trivial⟩,addOk⟩ (by kernel_rfl) 52 Tryz.f132 (.sq (.n) (.sq (.n) (.sq (.n) (.sq (.sq (.n) (.bk (some ⟨[(2,.one (.fn 133 [])),(3,.one (.fn 134 [.bx 0])),(9,.one (.d .bool))],[.box [.map 1],.map .i64 3 4 .bool],[(0,0),(1,1)]⟩) (.lp ⟨[(0,.one (.d (.sl (.st 3)))),(2,.one (.fn 133 [])),(3,.one (.fn 134 [.bx 0])),(9,.one (.d .bool)),(16,.one (.d (.sl (.st 3)))),(17,.one (.d (.int .i64))),(18,.one (.d (.int .i64)))],[.box [.map 1],.map .i64 3 4 .bool],[(0,0),(1,1)]⟩ (.sq (.n) (.sq (.n) (.sq (.bk none (.sq (.n) (.sq (.rg [1000000]) (.n)))) (.n))))))) (.n))))) Tryz.func132 Tryz.call132 rfl (by kernel_rfl) (by kernel_rfl) (by kernel_rfl) λn x=>by kernel_rfl
def codec_inner(n:Nat)(p0:List Kid):Option Bool:=
 cond (decide ((p0.length:Int)>1))
 ((codec_rises_Kid_f133_f134 n p0 4 ([]:List (Int×Bool))).bind λy1=>
 some y1.1)
 (some false)
@[reducible] def codec_inner_ct:Ct tab:=⟨84,[.one (.d (.sl (.st 3)))],[],[.one (.d .bool)],[],Bool,λy=>(y,()),λy=>y.1,λ_=>rfl,λn x=>codec_inner n x.1⟩
theorem codec_inner_ok:OkC Tryz.prog tab codec_inner_ct:=fn_ok (W:=⟨Tryz.prog,tab,tyOf,[codec_rises_Kid_f133_f134_ct],addO,dpO,false⟩) ⟨tabOk,⟨codec_rises_Kid_f133_f134_ok,trivial⟩,addOk⟩ (by kernel_rfl) 13 Tryz.f84 (.sq (.n) (.sq (.n) (.sq (.rg [1000000]) (.n)))) Tryz.func84 Tryz.call84 rfl (by kernel_rfl) (by kernel_rfl) (by kernel_rfl) λn x=>by kernel_rfl
def codec_Check_j1(n:Nat):Bool×Unit→Option Int:=fun⟨v22,_⟩=>
 cond (!v22)
 (some 160)
 (some 0)
def codec_Check_j2(n:Nat)(j1:Bool×Unit→Option Int):Bool×Unit→Option Int:=fun⟨v33,_⟩=>
 j1 (v33,())
def codec_Check_j3(n:Nat)(j2:Bool×Unit→Option Int):Bool×Unit→Option Int:=fun⟨v40,_⟩=>
 j2 (v40,())
def codec_Check(n:Nat)(p0:Content):Option Int:=
 jn (codec_Check_j1 n) λj1=>
 cond (p0.kind==0)
 (j1 (((IntKind.wrap .i64 ((p0.rows.length:Int)+(p0.kids.length:Int)))==0),()))
 (jn (codec_Check_j2 n j1) λj2=>
 cond (p0.kind==1)
 (jn (fun(b34:Bool)=>
 j2 (b34,())) λk35=>
 cond ((p0.kids.length:Int)==0)
 ((codec_leaf n p0.rows).bind λy36=>
 k35 y36)
 (k35 false))
 (jn (codec_Check_j3 n j2) λj3=>
 cond (p0.kind==2)
 (jn (fun(b41:Bool)=>
 j3 (b41,())) λk42=>
 cond ((p0.rows.length:Int)==0)
 ((codec_inner n p0.kids).bind λy43=>
 k42 y43)
 (k42 false))
 (j3 (false,()))))
@[reducible] def codec_Check_ct:Ct tab:=⟨50,[.st 4],[],[.one (.d (.int .i64))],[],Int,λy=>(y,()),λy=>y.1,λ_=>rfl,λn x=>codec_Check n x.1⟩
theorem codec_Check_ok:OkC Tryz.prog tab codec_Check_ct:=fn_ok (W:=⟨Tryz.prog,tab,tyOf,[codec_leaf_ct,codec_inner_ct],addO,dpO,false⟩) ⟨tabOk,⟨codec_leaf_ok,codec_inner_ok,trivial⟩,addOk⟩ (by kernel_rfl) 40 Tryz.f50 (.sq (.n) (.sq (.n) (.sq (.sq (.n) (.bk none (.sq (.n) (.cd (some ⟨[(3,.one (.d .bool))],[],[]⟩) (.n) (.sq (.n) (.cd (some ⟨[(3,.one (.d .bool))],[],[]⟩) (.n) (.sq (.n) (.cd (some ⟨[(3,.one (.d .bool))],[],[]⟩) (.n) (.n))))))))) (.n)))) Tryz.func50 Tryz.call50 rfl (by kernel_rfl) (by kernel_rfl) (by kernel_rfl) λn x=>by kernel_rfl
def page_size(n:Nat)(p0:Content):Option Int:=
 some (IntKind.wrap .i64 ((p0.rows.length:Int)+(p0.kids.length:Int)))
@[reducible] def page_size_ct:Ct tab:=⟨51,[.st 4],[],[.one (.d (.int .i64))],[],Int,λy=>(y,()),λy=>y.1,λ_=>rfl,λn x=>page_size n x.1⟩
theorem page_size_ok:OkC Tryz.prog tab page_size_ct:=fn_ok (W:=⟨Tryz.prog,tab,tyOf,[],addO,dpO,false⟩) ⟨tabOk,trivial,addOk⟩ (by kernel_rfl) 10 Tryz.f51 (.n) Tryz.func51 Tryz.call51 rfl (by kernel_rfl) (by kernel_rfl) (by kernel_rfl) λn x=>by kernel_rfl
def page_Size(n:Nat)(p0:Content):Option Int:=
 (codec_Check n p0).bind λy1=>
 cond (y1 !=0)
 (some 0)
 ((page_size n p0).bind λy2=>
 some y2)
@[reducible] def page_Size_ct:Ct tab:=⟨20,[.st 4],[],[.one (.d (.int .i64))],[],Int,λy=>(y,()),λy=>y.1,λ_=>rfl,λn x=>page_Size n x.1⟩
theorem page_Size_ok:OkC Tryz.prog tab page_Size_ct:=fn_ok (W:=⟨Tryz.prog,tab,tyOf,[codec_Check_ct,page_size_ct],addO,dpO,false⟩) ⟨tabOk,⟨codec_Check_ok,page_size_ok,trivial⟩,addOk⟩ (by kernel_rfl) 8 Tryz.f20 (.n) Tryz.func20 Tryz.call20 rfl (by kernel_rfl) (by kernel_rfl) (by kernel_rfl) λn x=>by kernel_rfl
def tree_walk_page_j2(n:Nat):Int×(List Content)×Int×(List (Int×Bool))×Unit→Option (Bool×(List Content)×Int×(List (Int×Bool))):=fun⟨v18,v19,v20,v21,_⟩=>
 some ((v20==v18),v19,v20,v21)
def tree_walk_page_j5(n:Nat)(self:Int×Int×Key×Key×(List Content)×Int×(List (Int×Bool))×Unit→Option (Bool×(List Content)×Int×(List (Int×Bool))))(r3:Int×Key×(List Kid)×Int×Int×(List Content)×Int×Key×Content×(List (Int×Bool))×Unit→Option (Bool×(List Content)×Int×(List (Int×Bool)))):Int×Key×Key×(List Kid)×Int×Int×(List Content)×Int×Key×Content×Kid×Key×(List (Int×Bool))×Unit→Option (Bool×(List Content)×Int×(List (Int×Bool))):=fun⟨v49,v50,v51,v52,v53,v54,v55,v56,v57,v58,v59,v60,v61,_⟩=>
 (self (v59.page,(IntKind.wrap .i64 (v49+1)),v60,v51,v55,v56,v61,())).bind λy62=>
 cond (!y62.1)
 (some (false,y62.2.1,y62.2.2.1,y62.2.2.2))
 (r3 (v49,v50,v52,v53,(IntKind.wrap .i64 (v54+1)),y62.2.1,y62.2.2.1,v57,v58,y62.2.2.2,()))
def tree_walk_page_j4(n:Nat)(self:Int×Int×Key×Key×(List Content)×Int×(List (Int×Bool))×Unit→Option (Bool×(List Content)×Int×(List (Int×Bool))))(r3:Int×Key×(List Kid)×Int×Int×(List Content)×Int×Key×Content×(List (Int×Bool))×Unit→Option (Bool×(List Content)×Int×(List (Int×Bool)))):Int×Key×Int×Key×(List Kid)×Int×Int×(List Content)×Int×Key×Content×Kid×Key×(List (Int×Bool))×Unit→Option (Bool×(List Content)×Int×(List (Int×Bool))):=fun⟨v34,v35,v36,v37,v38,v39,v40,v41,v42,v43,v44,v45,v46,v47,_⟩=>
 jn (tree_walk_page_j5 n self r3) λj5=>
 cond (decide ((IntKind.wrap .i64 (v36+1))<(v44.kids.length:Int)))
 ((idx v44.kids (IntKind.wrap .i64 (v36+1))).bind λx63=>
 j5 (v34,v35,x63.least,v38,v39,v40,v41,v42,v43,v44,v45,v46,v47,()))
 (j5 (v34,v35,v37,v38,v39,v40,v41,v42,v43,v44,v45,v46,v47,()))
def tree_walk_page_l3(n:Nat)(self:Int×Int×Key×Key×(List Content)×Int×(List (Int×Bool))×Unit→Option (Bool×(List Content)×Int×(List (Int×Bool)))):Nat→Int×Key×(List Kid)×Int×Int×(List Content)×Int×Key×Content×(List (Int×Bool))×Unit→Option (Bool×(List Content)×Int×(List (Int×Bool))):=loopF λr3 ⟨v22,v23,v24,v25,v26,v27,v28,v29,v30,v31,_⟩=>
 cond (decide (v26<v25))
 ((idx v24 v26).bind λx32=>
 jn (tree_walk_page_j4 n self r3) λj4=>
 cond (decide (v26>0))
 ((tree_within n x32.least v29 v23).bind λy64=>
 cond (!y64)
 (some (false,v27,v28,v31))
 (j4 (v22,v23,v26,v23,v24,v25,v26,v27,v28,v29,v30,x32,x32.least,v31,())))
 (j4 (v22,v23,v26,v23,v24,v25,v26,v27,v28,v29,v30,x32,v29,v31,())))
 (some (true,v27,v28,v31))
def tree_walk_page_l1(n:Nat)(self:Int×Int×Key×Key×(List Content)×Int×(List (Int×Bool))×Unit→Option (Bool×(List Content)×Int×(List (Int×Bool)))):Nat→Int×Key×(List Row)×Int×Int×(List Content)×Int×Key×Content×(List (Int×Bool))×Unit→Option (Bool×(List Content)×Int×(List (Int×Bool))):=loopF λr1 ⟨v6,v7,v8,v9,v10,v11,v12,v13,v14,v15,_⟩=>
 cond (decide (v10<v9))
 ((idx v8 v10).bind λx16=>
 (tree_within n x16.key v13 v7).bind λy17=>
 cond (!y17)
 (some (false,v11,v12,v15))
 (r1 (v6,v7,v8,v9,(IntKind.wrap .i64 (v10+1)),v11,v12,v13,v14,v15,())))
 (cond (v14.kind==1)
 (jn (tree_walk_page_j2 n) λj2=>
 cond (v12==0)
 (j2 (v6,v11,v6,v15,()))
 (j2 (v6,v11,v12,v15,())))
 (tree_walk_page_l3 n self n (v6,v7,v14.kids,(v14.kids.length:Int),0,v11,v12,v13,v14,v15,())))
def tree_walk_page_b(n:Nat)(self:Int×Int×Key×Key×(List Content)×Int×(List (Int×Bool))×Unit→Option (Bool×(List Content)×Int×(List (Int×Bool))))(p1:Int)(p2:Int)(p3:Key)(p4:Key)(q0_0:List Content)(q0_1:Int)(q1:List (Int×Bool)):Option (Bool×(List Content)×Int×(List (Int×Bool))):=
 (mlook .i64 false q1 p1).bind λw1=>
 cond w1
 (some (false,q0_0,q0_1,q1))
 ((mput .i64 q1 p1 true).bind λl2=>
 (idx q0_0 p1).bind λx3=>
 jn (fun(b4:Bool)=>
 cond b4
 (some (false,q0_0,q0_1,l2))
 (tree_walk_page_l1 n self n (p2,p4,x3.rows,(x3.rows.length:Int),0,q0_0,q0_1,p3,x3,l2,()))) λk5=>
 cond (x3.kind==0)
 (k5 true)
 (jn (fun(b65:Bool)=>
 k5 b65) λk66=>
 cond (p1 !=0)
 ((page_Size n x3).bind λy67=>
 k66 (decide (y67<2)))
 (k66 false)))
def tree_walk_page(n:Nat)(p1:Int)(p2:Int)(p3:Key)(p4:Key)(q0_0:List Content)(q0_1:Int)(q1:List (Int×Bool)):Option (Bool×(List Content)×Int×(List (Int×Bool))):=recF (λn self x=>tree_walk_page_b n self x.1 x.2.1 x.2.2.1 x.2.2.2.1 x.2.2.2.2.1 x.2.2.2.2.2.1 x.2.2.2.2.2.2.1) n (p1,p2,p3,p4,q0_0,q0_1,q1,())
@[reducible] def tree_walk_page_ct:Ct tab:=⟨80,[.one (.box 0 0),.one (.d (.int .i64)),.one (.d (.int .i64)),.st 1,.one (.ro (.st 1))],[.box [.d (.sl (.st 4)),.map 1,.d (.int .i64)],.map .i64 3 4 .bool],[.one (.d .bool)],[(some 0,.box [.d (.sl (.st 4)),.map 1,.d (.int .i64)]),(some 1,.map .i64 3 4 .bool)],(Bool×(List Content)×Int×(List (Int×Bool))),λy=>(y.1,y.2.1,y.2.2.1,y.2.2.2,()),λy=>(y.1,y.2.1,y.2.2.1,y.2.2.2.1),λ_=>rfl,λn x=>tree_walk_page n x.1 x.2.1 x.2.2.1 x.2.2.2.1 x.2.2.2.2.1 x.2.2.2.2.2.1 x.2.2.2.2.2.2.1⟩
theorem tree_walk_page_ok:OkC Tryz.prog tab tree_walk_page_ct:=fn_rec (W:=⟨Tryz.prog,tab,tyOf,[tree_within_ct,page_Size_ct],addO,dpO,true⟩) ⟨tabOk,⟨tree_within_ok,page_Size_ok,trivial⟩,addOk⟩ (by kernel_rfl) 122 Tryz.f80 (.sq (.n) (.sq (.n) (.sq (.n) (.sq (.n) (.sq (.n) (.sq (.sq (.n) (.bk none (.lp ⟨[(0,.one (.box 0 0)),(2,.one (.d (.int .i64))),(4,.one (.ro (.st 1))),(8,.one (.box 1 0)),(11,.one (.box 2 0)),(50,.one (.d (.sl (.st 2)))),(51,.one (.d (.int .i64))),(52,.one (.d (.int .i64)))],[.box [.d (.sl (.st 4)),.map 3,.d (.int .i64)],.bst 1,.bst 4,.map .i64 3 4 .bool],[(0,0),(1,3)]⟩ (.n)))) (.sq (.sq (.n) (.cd none (.sq (.sq (.n) (.cd (some ⟨[(0,.one (.box 0 0)),(2,.one (.d (.int .i64)))],[.box [.d (.sl (.st 4)),.map 1,.d (.int .i64)],.map .i64 3 4 .bool],[(0,0),(1,1)]⟩) (.n) (.n))) (.n)) (.n))) (.sq (.sq (.n) (.bk none (.lp ⟨[(0,.one (.box 0 0)),(2,.one (.d (.int .i64))),(4,.one (.ro (.st 1))),(8,.one (.box 1 0)),(11,.one (.box 2 0)),(82,.one (.d (.sl (.st 3)))),(83,.one (.d (.int .i64))),(84,.one (.d (.int .i64)))],[.box [.d (.sl (.st 4)),.map 3,.d (.int .i64)],.bst 1,.bst 4,.map .i64 3 4 .bool],[(0,0),(1,3)]⟩ (.sq (.n) (.sq (.n) (.sq (.bk none (.sq (.n) (.sq (.n) (.sq (.sq (.n) (.cd (some ⟨[(0,.one (.box 0 0)),(2,.one (.d (.int .i64))),(4,.one (.ro (.st 1))),(8,.one (.box 1 0)),(11,.one (.box 2 0)),(14,.one (.d (.int .i64))),(15,.one (.box 3 0)),(16,.one (.box 4 0)),(17,.one (.ro (.st 1))),(82,.one (.d (.sl (.st 3)))),(83,.one (.d (.int .i64))),(84,.one (.d (.int .i64)))],[.box [.d (.sl (.st 4)),.map 5,.d (.int .i64)],.bst 1,.bst 4,.bst 3,.bst 1,.map .i64 3 4 .bool],[(0,0),(1,5)]⟩) (.n) (.n))) (.sq (.sq (.n) (.cd (some ⟨[(0,.one (.box 0 0)),(2,.one (.d (.int .i64))),(4,.one (.ro (.st 1))),(8,.one (.box 1 0)),(11,.one (.box 2 0)),(15,.one (.box 3 0)),(16,.one (.box 4 0)),(17,.one (.ro (.st 1))),(82,.one (.d (.sl (.st 3)))),(83,.one (.d (.int .i64))),(84,.one (.d (.int .i64)))],[.box [.d (.sl (.st 4)),.map 5,.d (.int .i64)],.bst 1,.bst 4,.bst 3,.bst 1,.map .i64 3 4 .bool],[(0,0),(1,5)]⟩) (.n) (.n))) (.n)))))) (.n))))))) (.n))))))))) Tryz.func80 Tryz.call80 rfl (by kernel_rfl) (by kernel_rfl) (by kernel_rfl) (λn self x=>tree_walk_page_b n self x.1 x.2.1 x.2.2.1 x.2.2.2.1 x.2.2.2.2.1 x.2.2.2.2.2.1 x.2.2.2.2.2.2.1) (λ_=>rfl) (λ_ _=>rfl) λself n x=>by kernel_rfl
def tree_walk_page_fnil_j2(n:Nat):Int×(List Content)×Int×(List (Int×Bool))×Unit→Option (Bool×(List Content)×Int×(List (Int×Bool))):=fun⟨v17,v18,v19,v20,_⟩=>
 some ((v19==v17),v18,v19,v20)
def tree_walk_page_fnil_j4(n:Nat)(self:Int×Int×Key×(List Content)×Int×(List (Int×Bool))×Unit→Option (Bool×(List Content)×Int×(List (Int×Bool))))(r3:Int×(List Kid)×Int×Int×(List Content)×Int×Key×Content×(List (Int×Bool))×Unit→Option (Bool×(List Content)×Int×(List (Int×Bool)))):Int×Int×(List Kid)×Int×Int×(List Content)×Int×Key×Content×Kid×Key×(List (Int×Bool))×Unit→Option (Bool×(List Content)×Int×(List (Int×Bool))):=fun⟨v32,v33,v34,v35,v36,v37,v38,v39,v40,v41,v42,v43,_⟩=>
 cond (decide ((IntKind.wrap .i64 (v33+1))<(v40.kids.length:Int)))
 ((idx v40.kids (IntKind.wrap .i64 (v33+1))).bind λx44=>
 (tree_walk_page n v41.page (IntKind.wrap .i64 (v32+1)) v42 x44.least v37 v38 v43).bind λy45=>
 cond (!y45.1)
 (some (false,y45.2.1,y45.2.2.1,y45.2.2.2))
 (r3 (v32,v34,v35,(IntKind.wrap .i64 (v36+1)),y45.2.1,y45.2.2.1,v39,v40,y45.2.2.2,())))
 ((self (v41.page,(IntKind.wrap .i64 (v32+1)),v42,v37,v38,v43,())).bind λy46=>
 cond (!y46.1)
 (some (false,y46.2.1,y46.2.2.1,y46.2.2.2))
 (r3 (v32,v34,v35,(IntKind.wrap .i64 (v36+1)),y46.2.1,y46.2.2.1,v39,v40,y46.2.2.2,())))
def tree_walk_page_fnil_l3(n:Nat)(self:Int×Int×Key×(List Content)×Int×(List (Int×Bool))×Unit→Option (Bool×(List Content)×Int×(List (Int×Bool)))):Nat→Int×(List Kid)×Int×Int×(List Content)×Int×Key×Content×(List (Int×Bool))×Unit→Option (Bool×(List Content)×Int×(List (Int×Bool))):=loopF λr3 ⟨v21,v22,v23,v24,v25,v26,v27,v28,v29,_⟩=>
 cond (decide (v24<v23))
 ((idx v22 v24).bind λx30=>
 jn (tree_walk_page_fnil_j4 n self r3) λj4=>
 cond (decide (v24>0))
 ((tree_within_fnil n x30.least v27).bind λy47=>
 cond (!y47)
 (some (false,v25,v26,v29))
 (j4 (v21,v24,v22,v23,v24,v25,v26,v27,v28,x30,x30.least,v29,())))
 (j4 (v21,v24,v22,v23,v24,v25,v26,v27,v28,x30,v27,v29,())))
 (some (true,v25,v26,v29))
def tree_walk_page_fnil_l1(n:Nat)(self:Int×Int×Key×(List Content)×Int×(List (Int×Bool))×Unit→Option (Bool×(List Content)×Int×(List (Int×Bool)))):Nat→Int×(List Row)×Int×Int×(List Content)×Int×Key×Content×(List (Int×Bool))×Unit→Option (Bool×(List Content)×Int×(List (Int×Bool))):=loopF λr1 ⟨v6,v7,v8,v9,v10,v11,v12,v13,v14,_⟩=>
 cond (decide (v9<v8))
 ((idx v7 v9).bind λx15=>
 (tree_within_fnil n x15.key v12).bind λy16=>
 cond (!y16)
 (some (false,v10,v11,v14))
 (r1 (v6,v7,v8,(IntKind.wrap .i64 (v9+1)),v10,v11,v12,v13,v14,())))
 (cond (v13.kind==1)
 (jn (tree_walk_page_fnil_j2 n) λj2=>
 cond (v11==0)
 (j2 (v6,v10,v6,v14,()))
 (j2 (v6,v10,v11,v14,())))
 (tree_walk_page_fnil_l3 n self n (v6,v13.kids,(v13.kids.length:Int),0,v10,v11,v12,v13,v14,())))
def tree_walk_page_fnil_b(n:Nat)(self:Int×Int×Key×(List Content)×Int×(List (Int×Bool))×Unit→Option (Bool×(List Content)×Int×(List (Int×Bool))))(p1:Int)(p2:Int)(p3:Key)(q0_0:List Content)(q0_1:Int)(q1:List (Int×Bool)):Option (Bool×(List Content)×Int×(List (Int×Bool))):=
 (mlook .i64 false q1 p1).bind λw1=>
 cond w1
 (some (false,q0_0,q0_1,q1))
 ((mput .i64 q1 p1 true).bind λl2=>
 (idx q0_0 p1).bind λx3=>
 jn (fun(b4:Bool)=>
 cond b4
 (some (false,q0_0,q0_1,l2))
 (tree_walk_page_fnil_l1 n self n (p2,x3.rows,(x3.rows.length:Int),0,q0_0,q0_1,p3,x3,l2,()))) λk5=>
 cond (x3.kind==0)
 (k5 true)
 (jn (fun(b48:Bool)=>
 k5 b48) λk49=>
 cond (p1 !=0)
 ((page_Size n x3).bind λy50=>
 k49 (decide (y50<2)))
 (k49 false)))
def tree_walk_page_fnil(n:Nat)(p1:Int)(p2:Int)(p3:Key)(q0_0:List Content)(q0_1:Int)(q1:List (Int×Bool)):Option (Bool×(List Content)×Int×(List (Int×Bool))):=recF (λn self x=>tree_walk_page_fnil_b n self x.1 x.2.1 x.2.2.1 x.2.2.2.1 x.2.2.2.2.1 x.2.2.2.2.2.1) n (p1,p2,p3,q0_0,q0_1,q1,())
@[reducible] def tree_walk_page_fnil_ct:Ct tab:=⟨80,[.one (.box 0 0),.one (.d (.int .i64)),.one (.d (.int .i64)),.st 1,.one (.nptr)],[.box [.d (.sl (.st 4)),.map 1,.d (.int .i64)],.map .i64 3 4 .bool],[.one (.d .bool)],[(some 0,.box [.d (.sl (.st 4)),.map 1,.d (.int .i64)]),(some 1,.map .i64 3 4 .bool)],(Bool×(List Content)×Int×(List (Int×Bool))),λy=>(y.1,y.2.1,y.2.2.1,y.2.2.2,()),λy=>(y.1,y.2.1,y.2.2.1,y.2.2.2.1),λ_=>rfl,λn x=>tree_walk_page_fnil n x.1 x.2.1 x.2.2.1 x.2.2.2.1 x.2.2.2.2.1 x.2.2.2.2.2.1⟩
theorem tree_walk_page_fnil_ok:OkC Tryz.prog tab tree_walk_page_fnil_ct:=fn_rec (W:=⟨Tryz.prog,tab,tyOf,[tree_within_fnil_ct,tree_walk_page_ct,page_Size_ct],addO,dpO,true⟩) ⟨tabOk,⟨tree_within_fnil_ok,tree_walk_page_ok,page_Size_ok,trivial⟩,addOk⟩ (by kernel_rfl) 122 Tryz.f80 (.sq (.n) (.sq (.n) (.sq (.n) (.sq (.n) (.sq (.n) (.sq (.sq (.n) (.bk none (.lp ⟨[(0,.one (.box 0 0)),(2,.one (.d (.int .i64))),(4,.one (.nptr)),(8,.one (.box 1 0)),(11,.one (.box 2 0)),(50,.one (.d (.sl (.st 2)))),(51,.one (.d (.int .i64))),(52,.one (.d (.int .i64)))],[.box [.d (.sl (.st 4)),.map 3,.d (.int .i64)],.bst 1,.bst 4,.map .i64 3 4 .bool],[(0,0),(1,3)]⟩ (.n)))) (.sq (.sq (.n) (.cd none (.sq (.sq (.n) (.cd (some ⟨[(0,.one (.box 0 0)),(2,.one (.d (.int .i64)))],[.box [.d (.sl (.st 4)),.map 1,.d (.int .i64)],.map .i64 3 4 .bool],[(0,0),(1,1)]⟩) (.n) (.n))) (.n)) (.n))) (.sq (.sq (.n) (.bk none (.lp ⟨[(0,.one (.box 0 0)),(2,.one (.d (.int .i64))),(4,.one (.nptr)),(8,.one (.box 1 0)),(11,.one (.box 2 0)),(82,.one (.d (.sl (.st 3)))),(83,.one (.d (.int .i64))),(84,.one (.d (.int .i64)))],[.box [.d (.sl (.st 4)),.map 3,.d (.int .i64)],.bst 1,.bst 4,.map .i64 3 4 .bool],[(0,0),(1,3)]⟩ (.sq (.n) (.sq (.n) (.sq (.bk none (.sq (.n) (.sq (.n) (.sq (.sq (.n) (.cd (some ⟨[(0,.one (.box 0 0)),(2,.one (.d (.int .i64))),(4,.one (.nptr)),(8,.one (.box 1 0)),(11,.one (.box 2 0)),(14,.one (.d (.int .i64))),(15,.one (.box 3 0)),(16,.one (.box 4 0)),(17,.one (.nptr)),(82,.one (.d (.sl (.st 3)))),(83,.one (.d (.int .i64))),(84,.one (.d (.int .i64)))],[.box [.d (.sl (.st 4)),.map 5,.d (.int .i64)],.bst 1,.bst 4,.bst 3,.bst 1,.map .i64 3 4 .bool],[(0,0),(1,5)]⟩) (.n) (.n))) (.n))))) (.n))))))) (.n))))))))) Tryz.func80 Tryz.call80 rfl (by kernel_rfl) (by kernel_rfl) (by kernel_rfl) (λn self x=>tree_walk_page_fnil_b n self x.1 x.2.1 x.2.2.1 x.2.2.2.1 x.2.2.2.2.1 x.2.2.2.2.2.1) (λ_=>rfl) (λ_ _=>rfl) λself n x=>by kernel_rfl
def tree_look_1(n:Nat)(p0:Content):Option Bool:=
 (codec_Check n p0).bind λy1=>
 some (y1 !=0)
@[reducible] def tree_look_1_ct:Ct tab:=⟨78,[.st 4],[],[.one (.d .bool)],[],Bool,λy=>(y,()),λy=>y.1,λ_=>rfl,λn x=>tree_look_1 n x.1⟩
theorem tree_look_1_ok:OkC Tryz.prog tab tree_look_1_ct:=fn_ok (W:=⟨Tryz.prog,tab,tyOf,[codec_Check_ct],addO,dpO,false⟩) ⟨tabOk,⟨codec_Check_ok,trivial⟩,addOk⟩ (by kernel_rfl) 6 Tryz.f78 (.n) Tryz.func78 Tryz.call78 rfl (by kernel_rfl) (by kernel_rfl) (by kernel_rfl) λn x=>by kernel_rfl
def slices_IndexFunc_Content_f78_l1(n:Nat):Nat→(List Content)×Int×Int×Unit→Option Int:=loopF λr1 ⟨v1,v2,v3,_⟩=>
 cond (decide (v3<v2))
 ((idx v1 v3).bind λx4=>
 (tree_look_1 n x4).bind λy5=>
 cond y5
 (some v3)
 (r1 (v1,v2,(IntKind.wrap .i64 (v3+1)),())))
 (some (-1))
def slices_IndexFunc_Content_f78(n:Nat)(p0:List Content):Option Int:=
 slices_IndexFunc_Content_f78_l1 n n (p0,(p0.length:Int),0,())
@[reducible] def slices_IndexFunc_Content_f78_ct:Ct tab:=⟨127,[.one (.d (.sl (.st 4))),.one (.fn 78 [])],[],[.one (.d (.int .i64))],[],Int,λy=>(y,()),λy=>y.1,λ_=>rfl,λn x=>slices_IndexFunc_Content_f78 n x.1⟩
theorem slices_IndexFunc_Content_f78_ok:OkC Tryz.prog tab slices_IndexFunc_Content_f78_ct:=fn_ok (W:=⟨Tryz.prog,tab,tyOf,[tree_look_1_ct],addO,dpO,false⟩) ⟨tabOk,⟨tree_look_1_ok,trivial⟩,addOk⟩ (by kernel_rfl) 19 Tryz.f127 (.sq (.n) (.sq (.sq (.n) (.bk none (.lp ⟨[(0,.one (.d (.sl (.st 4)))),(1,.one (.fn 78 [])),(7,.one (.d (.int .i64))),(8,.one (.d (.int .i64)))],[],[]⟩ (.n)))) (.n))) Tryz.func127 Tryz.call127 rfl (by kernel_rfl) (by kernel_rfl) (by kernel_rfl) λn x=>by kernel_rfl
def slices_ContainsFunc_Content_f78(n:Nat)(p0:List Content):Option Bool:=
 (slices_IndexFunc_Content_f78 n p0).bind λy1=>
 some (decide (y1≥0))
@[reducible] def slices_ContainsFunc_Content_f78_ct:Ct tab:=⟨79,[.one (.d (.sl (.st 4))),.one (.fn 78 [])],[],[.one (.d .bool)],[],Bool,λy=>(y,()),λy=>y.1,λ_=>rfl,λn x=>slices_ContainsFunc_Content_f78 n x.1⟩
theorem slices_ContainsFunc_Content_f78_ok:OkC Tryz.prog tab slices_ContainsFunc_Content_f78_ct:=fn_ok (W:=⟨Tryz.prog,tab,tyOf,[slices_IndexFunc_Content_f78_ct],addO,dpO,false⟩) ⟨tabOk,⟨slices_IndexFunc_Content_f78_ok,trivial⟩,addOk⟩ (by kernel_rfl) 9 Tryz.f79 (.n) Tryz.func79 Tryz.call79 rfl (by kernel_rfl) (by kernel_rfl) (by kernel_rfl) λn x=>by kernel_rfl
def tree_look_l1(n:Nat):Nat→(List Content)×Int×Int×(List Content)×Int×(List (Int×Bool))×Unit→Option (Bool×(List Content)×Int×(List (Int×Bool))):=loopF λr1 ⟨v1,v2,v3,v4,v5,v6,_⟩=>
 cond (decide (v3<v2))
 ((idx v1 v3).bind λx7=>
 (mlook .i64 false v6 v3).bind λw8=>
 jn (fun(b9:Bool)=>
 cond b9
 (some (false,v4,v5,v6))
 (r1 (v1,v2,(IntKind.wrap .i64 (v3+1)),v4,v5,v6,()))) λk10=>
 cond (!w8)
 (k10 (x7.kind !=0))
 (k10 false))
 (some (true,v4,v5,v6))
def tree_look_l2(n:Nat):Nat→(List Content)×Int×Int×(List Content)×Int×(List (Int×Bool))×Unit→Option (Bool×(List Content)×Int×(List (Int×Bool))):=loopF λr2 ⟨v12,v13,v14,v15,v16,v17,_⟩=>
 cond (decide (v14<v13))
 ((idx v12 v14).bind λx18=>
 (mlook .i64 false v17 v14).bind λw19=>
 jn (fun(b20:Bool)=>
 cond b20
 (some (false,v15,v16,v17))
 (r2 (v12,v13,(IntKind.wrap .i64 (v14+1)),v15,v16,v17,()))) λk21=>
 cond (!w19)
 (k21 (x18.kind !=0))
 (k21 false))
 (some (true,v15,v16,v17))
def tree_look_l3(n:Nat):Nat→(List Content)×Int×Int×(List Content)×Int×(List (Int×Bool))×Unit→Option (Bool×(List Content)×Int×(List (Int×Bool))):=loopF λr3 ⟨v23,v24,v25,v26,v27,v28,_⟩=>
 cond (decide (v25<v24))
 ((idx v23 v25).bind λx29=>
 (mlook .i64 false v28 v25).bind λw30=>
 jn (fun(b31:Bool)=>
 cond b31
 (some (false,v26,v27,v28))
 (r3 (v23,v24,(IntKind.wrap .i64 (v25+1)),v26,v27,v28,()))) λk32=>
 cond (!w30)
 (k32 (x29.kind !=0))
 (k32 false))
 (some (true,v26,v27,v28))
def tree_look_l4(n:Nat):Nat→(List Content)×Int×Int×(List Content)×Int×(List (Int×Bool))×Unit→Option (Bool×(List Content)×Int×(List (Int×Bool))):=loopF λr4 ⟨v34,v35,v36,v37,v38,v39,_⟩=>
 cond (decide (v36<v35))
 ((idx v34 v36).bind λx40=>
 (mlook .i64 false v39 v36).bind λw41=>
 jn (fun(b42:Bool)=>
 cond b42
 (some (false,v37,v38,v39))
 (r4 (v34,v35,(IntKind.wrap .i64 (v36+1)),v37,v38,v39,()))) λk43=>
 cond (!w41)
 (k43 (x40.kind !=0))
 (k43 false))
 (some (true,v37,v38,v39))
def tree_look(n:Nat)(p0:Forest):Option (Bool×(List Content)×Int×(List (Int×Bool))):=
 cond ((p0.pages.length:Int) !=64)
 (cond true
 (cond true
 (some (false,p0.pages,0,([]:List (Int×Bool))))
 (tree_look_l1 n n (p0.pages,(p0.pages.length:Int),0,p0.pages,0,([]:List (Int×Bool)),())))
 ((tree_walk_page_fnil n 0 1 (Key.mk 0 0) p0.pages 0 ([]:List (Int×Bool))).bind λy11=>
 cond (!y11.1)
 (some (false,y11.2.1,y11.2.2.1,y11.2.2.2))
 (tree_look_l2 n n (p0.pages,(p0.pages.length:Int),0,y11.2.1,y11.2.2.1,y11.2.2.2,()))))
 ((slices_ContainsFunc_Content_f78 n p0.pages).bind λy22=>
 cond y22
 (cond true
 (some (false,p0.pages,0,([]:List (Int×Bool))))
 (tree_look_l3 n n (p0.pages,(p0.pages.length:Int),0,p0.pages,0,([]:List (Int×Bool)),())))
 ((tree_walk_page_fnil n 0 1 (Key.mk 0 0) p0.pages 0 ([]:List (Int×Bool))).bind λy33=>
 cond (!y33.1)
 (some (false,y33.2.1,y33.2.2.1,y33.2.2.2))
 (tree_look_l4 n n (p0.pages,(p0.pages.length:Int),0,y33.2.1,y33.2.2.1,y33.2.2.2,()))))
@[reducible] def tree_look_ct:Ct tab:=⟨47,[.st 5],[],[.one (.box 0 0),.one (.d .bool)],[(none,.box [.d (.sl (.st 4)),.map 1,.d (.int .i64)]),(none,.map .i64 3 4 .bool)],(Bool×(List Content)×Int×(List (Int×Bool))),λy=>(y.1,y.2.1,y.2.2.1,y.2.2.2,()),λy=>(y.1,y.2.1,y.2.2.1,y.2.2.2.1),λ_=>rfl,λn x=>tree_look n x.1⟩
theorem tree_look_ok:OkC Tryz.prog tab tree_look_ct:=fn_ok (W:=⟨Tryz.prog,tab,tyOf,[tree_walk_page_fnil_ct,slices_ContainsFunc_Content_f78_ct],addO,dpO,false⟩) ⟨tabOk,⟨tree_walk_page_fnil_ok,slices_ContainsFunc_Content_f78_ok,trivial⟩,addOk⟩ (by kernel_rfl) 52 Tryz.f47 (.sq (.n) (.sq (.n) (.sq (.n) (.sq (.sq (.rg [1000000]) (.n)) (.sq (.sq (.n) (.bk none (.lp ⟨[(4,.one (.box 0 0)),(30,.one (.d (.sl (.st 4)))),(31,.one (.d (.int .i64))),(32,.one (.d (.int .i64)))],[.box [.d (.sl (.st 4)),.map 1,.d (.int .i64)],.map .i64 3 4 .bool],[]⟩ (.n)))) (.n)))))) Tryz.func47 Tryz.call47 rfl (by kernel_rfl) (by kernel_rfl) (by kernel_rfl) λn x=>by kernel_rfl
def tree_Check(n:Nat)(p0:Forest):Option Int:=
 (tree_look n p0).bind λy1=>
 cond (!y1.1)
 (some 230)
 (some 0)
@[reducible] def tree_Check_ct:Ct tab:=⟨17,[.st 5],[],[.one (.d (.int .i64))],[],Int,λy=>(y,()),λy=>y.1,λ_=>rfl,λn x=>tree_Check n x.1⟩
theorem tree_Check_ok:OkC Tryz.prog tab tree_Check_ct:=fn_ok (W:=⟨Tryz.prog,tab,tyOf,[tree_look_ct],addO,dpO,false⟩) ⟨tabOk,⟨tree_look_ok,trivial⟩,addOk⟩ (by kernel_rfl) 12 Tryz.f17 (.n) Tryz.func17 Tryz.call17 rfl (by kernel_rfl) (by kernel_rfl) (by kernel_rfl) λn x=>by kernel_rfl
def slices_Clone_Content(n:Nat)(p0:List Content):Option ((List Content)):=
 nilC p0.isEmpty
 (some ([]:List Content))
 ((app 56 ([]:List Content) p0).bind λl1=>
 some l1)
@[reducible] def slices_Clone_Content_ct:Ct tab:=⟨92,[.one (.d (.sl (.st 4)))],[],[.one (.own 0)],[(none,.row 47 (.st 4))],((List Content)),λy=>(y,()),λy=>y.1,λ_=>rfl,λn x=>slices_Clone_Content n x.1⟩
theorem slices_Clone_Content_ok:OkC Tryz.prog tab slices_Clone_Content_ct:=fn_ok (W:=⟨Tryz.prog,tab,tyOf,[],addO,dpO,false⟩) ⟨tabOk,trivial,addOk⟩ (by kernel_rfl) 8 Tryz.f92 (.n) Tryz.func92 Tryz.call92 rfl (by kernel_rfl) (by kernel_rfl) (by kernel_rfl) λn x=>by kernel_rfl
def tree_begun(n:Nat)(p0:Forest):Option ((List Content)×(List Group)):=
 (slices_Clone_Content n p0.pages).bind λy1=>
 some (y1,([]:List Group))
@[reducible] def tree_begun_ct:Ct tab:=⟨59,[.st 5],[],[.one (.box 0 0)],[(none,.box [.own 1,.own 2]),(none,.row 47 (.st 4)),(none,.row 74 (.st 7))],((List Content)×(List Group)),λy=>(y.1,y.2,()),λy=>(y.1,y.2.1),λ_=>rfl,λn x=>tree_begun n x.1⟩
theorem tree_begun_ok:OkC Tryz.prog tab tree_begun_ct:=fn_ok (W:=⟨Tryz.prog,tab,tyOf,[slices_Clone_Content_ct],addO,dpO,false⟩) ⟨tabOk,⟨slices_Clone_Content_ok,trivial⟩,addOk⟩ (by kernel_rfl) 9 Tryz.f59 (.n) Tryz.func59 Tryz.call59 rfl (by kernel_rfl) (by kernel_rfl) (by kernel_rfl) λn x=>by kernel_rfl
def page_asked_l2(n:Nat):Nat→Int×(List Content)×Int×Int×Unit→Option Int:=loopF λr2 ⟨v8,v9,v10,v11,_⟩=>
 cond (decide (v11<v10))
 ((idx v9 v11).bind λx12=>
 jn (fun(b13:Bool)=>
 cond b13
 (some 211)
 (jn (fun(b15:Bool)=>
 cond b15
 (some 212)
 (r2 (v8,v9,v10,(IntKind.wrap .i64 (v11+1)),()))) λk16=>
 cond (v8==2)
 (k16 (x12.kind !=v8))
 (k16 false))) λk14=>
 cond (v8==1)
 (k14 (x12.kind !=v8))
 (k14 false))
 (some 0)
def page_asked_l1(n:Nat):Nat→Int×(List Content)×(List Content)×Int×Int×Unit→Option Int:=loopF λr1 ⟨v1,v2,v3,v4,v5,_⟩=>
 cond (decide (v5<v4))
 ((idx v3 v5).bind λx6=>
 (codec_Check n x6).bind λy7=>
 cond (y7 !=0)
 (some y7)
 (r1 (v1,v2,v3,v4,(IntKind.wrap .i64 (v5+1)),())))
 (page_asked_l2 n n (v1,v2,(v2.length:Int),0,()))
def page_asked(n:Nat)(p0:Int)(p1:List Content):Option Int:=
 page_asked_l1 n n (p0,p1,p1,(p1.length:Int),0,())
@[reducible] def page_asked_ct:Ct tab:=⟨96,[.one (.d (.int .i64)),.one (.d (.sl (.st 4)))],[],[.one (.d (.int .i64))],[],Int,λy=>(y,()),λy=>y.1,λ_=>rfl,λn x=>page_asked n x.1 x.2.1⟩
theorem page_asked_ok:OkC Tryz.prog tab page_asked_ct:=fn_ok (W:=⟨Tryz.prog,tab,tyOf,[codec_Check_ct],addO,dpO,false⟩) ⟨tabOk,⟨codec_Check_ok,trivial⟩,addOk⟩ (by kernel_rfl) 47 Tryz.f96 (.sq (.n) (.sq (.sq (.n) (.bk none (.lp ⟨[(0,.one (.d (.int .i64))),(1,.one (.d (.sl (.st 4)))),(10,.one (.d (.sl (.st 4)))),(11,.one (.d (.int .i64))),(12,.one (.d (.int .i64)))],[],[]⟩ (.n)))) (.sq (.sq (.n) (.bk none (.lp ⟨[(0,.one (.d (.int .i64))),(22,.one (.d (.sl (.st 4)))),(23,.one (.d (.int .i64))),(24,.one (.d (.int .i64)))],[],[]⟩ (.n)))) (.n)))) Tryz.func96 Tryz.call96 rfl (by kernel_rfl) (by kernel_rfl) (by kernel_rfl) λn x=>by kernel_rfl
def page_Kid_1(n:Nat)(p0:Kid)(p1:Key):Option Bool:=
 (row_Compare n p0.least p1).bind λy1=>
 some (decide (y1>0))
@[reducible] def page_Kid_1_ct:Ct tab:=⟨97,[.st 3,.one (.ro (.st 1))],[],[.one (.d .bool)],[],Bool,λy=>(y,()),λy=>y.1,λ_=>rfl,λn x=>page_Kid_1 n x.1 x.2.1⟩
theorem page_Kid_1_ok:OkC Tryz.prog tab page_Kid_1_ct:=fn_ok (W:=⟨Tryz.prog,tab,tyOf,[row_Compare_ct],addO,dpO,false⟩) ⟨tabOk,⟨row_Compare_ok,trivial⟩,addOk⟩ (by kernel_rfl) 9 Tryz.f97 (.n) Tryz.func97 Tryz.call97 rfl (by kernel_rfl) (by kernel_rfl) (by kernel_rfl) λn x=>by kernel_rfl
def slices_IndexFunc_Kid_f97_l1(n:Nat):Nat→(List Kid)×Key×Int×Int×Unit→Option Int:=loopF λr1 ⟨v1,v2,v3,v4,_⟩=>
 cond (decide (v4<v3))
 ((idx v1 v4).bind λx5=>
 (page_Kid_1 n x5 v2).bind λy6=>
 cond y6
 (some v4)
 (r1 (v1,v2,v3,(IntKind.wrap .i64 (v4+1)),())))
 (some (-1))
def slices_IndexFunc_Kid_f97(n:Nat)(p0:List Kid)(p1:Key):Option Int:=
 slices_IndexFunc_Kid_f97_l1 n n (p0,p1,(p0.length:Int),0,())
@[reducible] def slices_IndexFunc_Kid_f97_ct:Ct tab:=⟨99,[.one (.d (.sl (.st 3))),.one (.fn 97 [.ro (.st 1)])],[],[.one (.d (.int .i64))],[],Int,λy=>(y,()),λy=>y.1,λ_=>rfl,λn x=>slices_IndexFunc_Kid_f97 n x.1 x.2.1⟩
theorem slices_IndexFunc_Kid_f97_ok:OkC Tryz.prog tab slices_IndexFunc_Kid_f97_ct:=fn_ok (W:=⟨Tryz.prog,tab,tyOf,[page_Kid_1_ct],addO,dpO,false⟩) ⟨tabOk,⟨page_Kid_1_ok,trivial⟩,addOk⟩ (by kernel_rfl) 19 Tryz.f99 (.sq (.n) (.sq (.sq (.n) (.bk none (.lp ⟨[(0,.one (.d (.sl (.st 3)))),(1,.one (.fn 97 [.ro (.st 1)])),(7,.one (.d (.int .i64))),(8,.one (.d (.int .i64)))],[],[]⟩ (.n)))) (.n))) Tryz.func99 Tryz.call99 rfl (by kernel_rfl) (by kernel_rfl) (by kernel_rfl) λn x=>by kernel_rfl
def page_Kid(n:Nat)(p0:Content)(p1:Key):Option (Int×Int):=
 (page_asked n 2 ([p0]:List Content)).bind λy1=>
 cond (y1 !=0)
 (some (0,y1))
 ((sub p0.kids 1 (p0.kids.length:Int)).bind λl2=>
 (slices_IndexFunc_Kid_f97 n l2 p1).bind λy3=>
 cond (decide (y3≥0))
 (some (y3,0))
 (some ((IntKind.wrap .i64 ((p0.kids.length:Int)-1)),0)))
@[reducible] def page_Kid_ct:Ct tab:=⟨62,[.st 4,.st 1],[],[.one (.d (.int .i64)),.one (.d (.int .i64))],[],(Int×Int),λy=>(y.1,y.2,()),λy=>(y.1,y.2.1),λ_=>rfl,λn x=>page_Kid n x.1 x.2.1⟩
theorem page_Kid_ok:OkC Tryz.prog tab page_Kid_ct:=fn_ok (W:=⟨Tryz.prog,tab,tyOf,[page_asked_ct,slices_IndexFunc_Kid_f97_ct],addO,dpO,false⟩) ⟨tabOk,⟨page_asked_ok,slices_IndexFunc_Kid_f97_ok,trivial⟩,addOk⟩ (by kernel_rfl) 28 Tryz.f62 (.n) Tryz.func62 Tryz.call62 rfl (by kernel_rfl) (by kernel_rfl) (by kernel_rfl) λn x=>by kernel_rfl
def row_Find_1(n:Nat)(p0:Row)(p1:Key):Option Bool:=
 some (Key.eqb p0.key p1)
@[reducible] def row_Find_1_ct:Ct tab:=⟨145,[.st 2,.one (.ro (.st 1))],[],[.one (.d .bool)],[],Bool,λy=>(y,()),λy=>y.1,λ_=>rfl,λn x=>row_Find_1 n x.1 x.2.1⟩
theorem row_Find_1_ok:OkC Tryz.prog tab row_Find_1_ct:=fn_ok (W:=⟨Tryz.prog,tab,tyOf,[],addO,dpO,false⟩) ⟨tabOk,trivial,addOk⟩ (by kernel_rfl) 8 Tryz.f145 (.n) Tryz.func145 Tryz.call145 rfl (by kernel_rfl) (by kernel_rfl) (by kernel_rfl) λn x=>by kernel_rfl
def slices_IndexFunc_Row_f145_l1(n:Nat):Nat→(List Row)×Key×Int×Int×Unit→Option Int:=loopF λr1 ⟨v1,v2,v3,v4,_⟩=>
 cond (decide (v4<v3))
 ((idx v1 v4).bind λx5=>
 (row_Find_1 n x5 v2).bind λy6=>
 cond y6
 (some v4)
 (r1 (v1,v2,v3,(IntKind.wrap .i64 (v4+1)),())))
 (some (-1))
def slices_IndexFunc_Row_f145(n:Nat)(p0:List Row)(p1:Key):Option Int:=
 slices_IndexFunc_Row_f145_l1 n n (p0,p1,(p0.length:Int),0,())
@[reducible] def slices_IndexFunc_Row_f145_ct:Ct tab:=⟨104,[.one (.d (.sl (.st 2))),.one (.fn 145 [.ro (.st 1)])],[],[.one (.d (.int .i64))],[],Int,λy=>(y,()),λy=>y.1,λ_=>rfl,λn x=>slices_IndexFunc_Row_f145 n x.1 x.2.1⟩
theorem slices_IndexFunc_Row_f145_ok:OkC Tryz.prog tab slices_IndexFunc_Row_f145_ct:=fn_ok (W:=⟨Tryz.prog,tab,tyOf,[row_Find_1_ct],addO,dpO,false⟩) ⟨tabOk,⟨row_Find_1_ok,trivial⟩,addOk⟩ (by kernel_rfl) 19 Tryz.f104 (.sq (.n) (.sq (.sq (.n) (.bk none (.lp ⟨[(0,.one (.d (.sl (.st 2)))),(1,.one (.fn 145 [.ro (.st 1)])),(7,.one (.d (.int .i64))),(8,.one (.d (.int .i64)))],[],[]⟩ (.n)))) (.n))) Tryz.func104 Tryz.call104 rfl (by kernel_rfl) (by kernel_rfl) (by kernel_rfl) λn x=>by kernel_rfl
def row_Find(n:Nat)(p0:List Row)(p1:Key):Option (Int×Bool):=
 (slices_IndexFunc_Row_f145 n p0 p1).bind λy1=>
 some ((if 0>y1 then 0 else y1),(decide (y1≥0)))
@[reducible] def row_Find_ct:Ct tab:=⟨102,[.one (.d (.sl (.st 2))),.st 1],[],[.one (.d (.int .i64)),.one (.d .bool)],[],(Int×Bool),λy=>(y.1,y.2,()),λy=>(y.1,y.2.1),λ_=>rfl,λn x=>row_Find n x.1 x.2.1⟩
theorem row_Find_ok:OkC Tryz.prog tab row_Find_ct:=fn_ok (W:=⟨Tryz.prog,tab,tyOf,[slices_IndexFunc_Row_f145_ct],addO,dpO,false⟩) ⟨tabOk,⟨slices_IndexFunc_Row_f145_ok,trivial⟩,addOk⟩ (by kernel_rfl) 14 Tryz.f102 (.n) Tryz.func102 Tryz.call102 rfl (by kernel_rfl) (by kernel_rfl) (by kernel_rfl) λn x=>by kernel_rfl
def page_Get(n:Nat)(p0:Content)(p1:Key):Option (Row×Int):=
 (page_asked n 1 ([p0]:List Content)).bind λy1=>
 cond (y1 !=0)
 (some ((Row.mk (Key.mk 0 0) 0 ByteArray.empty),y1))
 ((row_Find n p0.rows p1).bind λy2=>
 cond (!y2.2)
 (some ((Row.mk (Key.mk 0 0) 0 ByteArray.empty),4))
 ((idx p0.rows y2.1).bind λx3=>
 some (x3,0)))
@[reducible] def page_Get_ct:Ct tab:=⟨85,[.st 4,.st 1],[],[.st 2,.one (.d (.int .i64))],[],(Row×Int),λy=>(y.1,y.2,()),λy=>(y.1,y.2.1),λ_=>rfl,λn x=>page_Get n x.1 x.2.1⟩
theorem page_Get_ok:OkC Tryz.prog tab page_Get_ct:=fn_ok (W:=⟨Tryz.prog,tab,tyOf,[page_asked_ct,row_Find_ct],addO,dpO,false⟩) ⟨tabOk,⟨page_asked_ok,row_Find_ok,trivial⟩,addOk⟩ (by kernel_rfl) 31 Tryz.f85 (.n) Tryz.func85 Tryz.call85 rfl (by kernel_rfl) (by kernel_rfl) (by kernel_rfl) λn x=>by kernel_rfl
def tree_get_l1(n:Nat):Nat→Forest×Key×Row×Content×Unit→Option (Row×Int):=loopF λr1 ⟨v2,v3,v4,v5,_⟩=>
 cond (v5.kind==2)
 ((page_Kid n v5 v3).bind λy6=>
 (idx v5.kids y6.1).bind λx7=>
 (idx v2.pages x7.page).bind λx8=>
 r1 (v2,v3,v4,x8,()))
 ((page_Get n v5 v3).bind λy9=>
 some (y9.1,y9.2))
def tree_get(n:Nat)(p0:Forest)(p1:Key):Option (Row×Int):=
 (idx p0.pages 0).bind λx1=>
 tree_get_l1 n n (p0,p1,(Row.mk (Key.mk 0 0) 0 ByteArray.empty),x1,())
@[reducible] def tree_get_ct:Ct tab:=⟨52,[.st 5,.st 1],[],[.st 2,.one (.d (.int .i64))],[],(Row×Int),λy=>(y.1,y.2,()),λy=>(y.1,y.2.1),λ_=>rfl,λn x=>tree_get n x.1 x.2.1⟩
theorem tree_get_ok:OkC Tryz.prog tab tree_get_ct:=fn_ok (W:=⟨Tryz.prog,tab,tyOf,[page_Kid_ct,page_Get_ct],addO,dpO,false⟩) ⟨tabOk,⟨page_Kid_ok,page_Get_ok,trivial⟩,addOk⟩ (by kernel_rfl) 37 Tryz.f52 (.sq (.n) (.sq (.n) (.sq (.bk none (.lp ⟨[(2,.one (.box 0 0)),(3,.one (.box 1 0)),(4,.one (.box 2 0)),(6,.one (.box 3 0))],[.bst 5,.bst 1,.bst 2,.bst 4],[]⟩ (.n))) (.n)))) Tryz.func52 Tryz.call52 rfl (by kernel_rfl) (by kernel_rfl) (by kernel_rfl) λn x=>by kernel_rfl
def tree_change_down(n:Nat)(p0:tree_change)(p1:Int)(p2:Key):Option Int:=
 (idx p0.f.pages p1).bind λx1=>
 (page_Kid n x1 p2).bind λy2=>
 (idx p0.f.pages p1).bind λx3=>
 (idx x3.kids y2.1).bind λx4=>
 some x4.page
@[reducible] def tree_change_down_ct:Ct tab:=⟨64,[.one (.ro (.st 8)),.one (.d (.int .i64)),.st 1],[],[.one (.d (.int .i64))],[],Int,λy=>(y,()),λy=>y.1,λ_=>rfl,λn x=>tree_change_down n x.1 x.2.1 x.2.2.1⟩
theorem tree_change_down_ok:OkC Tryz.prog tab tree_change_down_ct:=fn_ok (W:=⟨Tryz.prog,tab,tyOf,[page_Kid_ct],addO,dpO,false⟩) ⟨tabOk,⟨page_Kid_ok,trivial⟩,addOk⟩ (by kernel_rfl) 35 Tryz.f64 (.n) Tryz.func64 Tryz.call64 rfl (by kernel_rfl) (by kernel_rfl) (by kernel_rfl) λn x=>by kernel_rfl
def page_full(n:Nat)(p0:Content):Option Bool:=
 jn (fun(b1:Bool)=>
 jn (fun(b3:Bool)=>
 some b3) λk4=>
 cond b1
 (k4 true)
 (jn (fun(b5:Bool)=>
 k4 b5) λk6=>
 cond (p0.kind==2)
 ((page_size n p0).bind λy7=>
 k6 (y7==4))
 (k6 false))) λk2=>
 cond (p0.kind==1)
 ((page_size n p0).bind λy8=>
 k2 (y8==4))
 (k2 false)
@[reducible] def page_full_ct:Ct tab:=⟨93,[.st 4],[],[.one (.d .bool)],[],Bool,λy=>(y,()),λy=>y.1,λ_=>rfl,λn x=>page_full n x.1⟩
theorem page_full_ok:OkC Tryz.prog tab page_full_ct:=fn_ok (W:=⟨Tryz.prog,tab,tyOf,[page_size_ct],addO,dpO,false⟩) ⟨tabOk,⟨page_size_ok,trivial⟩,addOk⟩ (by kernel_rfl) 21 Tryz.f93 (.n) Tryz.func93 Tryz.call93 rfl (by kernel_rfl) (by kernel_rfl) (by kernel_rfl) λn x=>by kernel_rfl
end
end Go.Proofs.YtlcmdgpjiendmaaGreat
