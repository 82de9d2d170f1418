import Derived.Test.YtlcmdgpjiendmaaGreatTypes
import Derived.Test.YtlcmdgpjiendmaaGreatF3
namespace Go.Proofs.YtlcmdgpjiendmaaGreat
open Go Go.Bur Go.RowKit
set_option linter.unusedVariables false
set_option linter.unusedSimpArgs false
set_option maxRecDepth 100000
noncomputable section
def ref13_Depths_l1 (n : Nat) (self : Forest × Int × Int × Unit → Option ((List Int))) : Nat → Int × Int × Forest × Content × (List Int) × Unit → Option ((List Int)) := loopF fun r1 ⟨v4, v5, v6, v7, v8, _⟩ =>
 cond (decide (v5 < (v7.kids.length : Int)))
 ((idx v7.kids v5).bind fun x9 =>
 (self (v6, x9.page, (IntKind.wrap .i64 (v4 + 1)), ())).bind fun y10 =>
 (app 8 v8 y10).bind fun l11 =>
 r1 (v4, (IntKind.wrap .i64 (v5 + 1)), v6, v7, l11, ()))
 (some v8)
def ref13_Depths_b (n : Nat) (self : Forest × Int × Int × Unit → Option ((List Int))) (p0 : Forest) (p1 : Int) (p2 : Int) : Option ((List Int)) :=
 (idx p0.pages p1).bind fun x1 =>
 jn (fun (b2 : Bool) =>
 cond b2
 (some ([p2] : List Int))
 (ref13_Depths_l1 n self n (p2, 0, p0, x1, ([] : List Int), ()))) fun k3 =>
 cond (x1.kind != 2)
 (k3 true)
 (k3 (decide (p2 > 8)))
def ref13_Depths (n : Nat) (p0 : Forest) (p1 : Int) (p2 : Int) : Option ((List Int)) := recF (fun n self x => ref13_Depths_b n self x.1 x.2.1 x.2.2.1) n (p0, p1, p2, ())
@[reducible] def ref13_Depths_ct : Ct tab := ⟨30, [.st 5, .one (.d (.int .i64)), .one (.d (.int .i64))], [], [.one (.own 0)], [(none, .row 3 (.int .i64))], ((List Int)), fun y => (y, ()), fun y => y.1, fun _ => rfl, fun n x => ref13_Depths n x.1 x.2.1 x.2.2.1⟩
theorem ref13_Depths_ok : OkC Tryz.prog tab ref13_Depths_ct := fn_rec (W := ⟨Tryz.prog, tab, tyOf, [], addO, dpO, false⟩) ⟨tabOk, trivial, addOk⟩ (by kernel_rfl) 44 Tryz.f30 (.sq (.n) (.sq (.n) (.sq (.n) (.sq (.n) (.sq (.sq (.n) (.bk none (.lp ⟨[(2, .one (.d (.int .i64))), (3, .one (.box 0 0)), (7, .one (.box 1 0)), (8, .one (.own 2)), (9, .one (.d (.int .i64)))], [.bst 5, .bst 4, .row 3 (.int .i64)], []⟩ (.n)))) (.n)))))) Tryz.func30 Tryz.call30 rfl (by kernel_rfl) (by kernel_rfl) (by kernel_rfl) (fun n self x => ref13_Depths_b n self x.1 x.2.1 x.2.2.1) (fun _ => rfl) (fun _ _ => rfl) fun self n x => by kernel_rfl
def ref13_Right_l4 (n : Nat) : Nat → Int × (List Int) × Unit → Option Bool := loopF fun r4 ⟨v31, v32, _⟩ =>
 cond (decide (v31 < (v32.length : Int)))
 ((idx v32 v31).bind fun x33 =>
 (idx v32 v31).bind fun x34 =>
 (idx v32 0).bind fun x35 =>
 (idx v32 0).bind fun x36 =>
 cond (x34 != x36)
 (some false)
 (r4 ((IntKind.wrap .i64 (v31 + 1)), v32, ())))
 (some true)
def ref13_Right_l3 (n : Nat) : Nat → Int × Forest × (List Int) × Unit → Option Bool := loopF fun r3 ⟨v18, v19, v20, _⟩ =>
 cond (decide (v18 < 64))
 ((idx v20 v18).bind fun x21 =>
 (idx v20 v18).bind fun x22 =>
 jn (fun (b23 : Bool) =>
 cond b23
 (some false)
 (r3 ((IntKind.wrap .i64 (v18 + 1)), v19, v20, ()))) fun k24 =>
 cond (decide (x22 > 1))
 (k24 true)
 ((idx v20 v18).bind fun x25 =>
 (idx v20 v18).bind fun x26 =>
 jn (fun (b27 : Bool) =>
 k24 b27) fun k28 =>
 cond (x26 == 0)
 ((idx v19.pages v18).bind fun x29 =>
 k28 (x29.kind != 0))
 (k28 false)))
 ((ref13_Depths n v19 0 1).bind fun y30 =>
 ref13_Right_l4 n n (1, y30, ()))
def ref13_Right_l2 (n : Nat) : Nat → Int × Forest × (List Int) × (List Int) × Unit → Option Bool := loopF fun r2 ⟨v6, v7, v8, v9, _⟩ =>
 cond (decide (v6 < (v8.length : Int)))
 ((idx v8 v6).bind fun x10 =>
 (idx v8 v6).bind fun x11 =>
 (idx v8 v6).bind fun x12 =>
 (idx v8 v6).bind fun x13 =>
 (idx v9 x13).bind fun x14 =>
 (idx v9 x13).bind fun x15 =>
 (idx v9 x11).bind fun x16 =>
 (put v9 x11 (IntKind.wrap .i64 (x15 + 1))).bind fun l17 =>
 r2 ((IntKind.wrap .i64 (v6 + 1)), v7, v8, l17, ()))
 (ref13_Right_l3 n n (0, v7, v9, ()))
def ref13_Right_l1 (n : Nat) : Nat → Int × Forest × Unit → Option Bool := loopF fun r1 ⟨v1, v2, _⟩ =>
 cond (decide (v1 < 64))
 ((idx v2.pages v1).bind fun x3 =>
 (ref06_Right n x3).bind fun y4 =>
 cond (!y4)
 (some false)
 (r1 ((IntKind.wrap .i64 (v1 + 1)), v2, ())))
 ((ref13_Pages n v2 0 (ref13_Bound.mk (Key.mk 0 0) (Key.mk 0 0) false) 8).bind fun y5 =>
 cond ((y5.length : Int) == 0)
 (some false)
 (ref13_Right_l2 n n (0, v2, y5, (List.replicate 64 0), ())))
def ref13_Right (n : Nat) (p0 : Forest) : Option Bool :=
 cond ((p0.pages.length : Int) != 64)
 (some false)
 (ref13_Right_l1 n n (0, p0, ()))
@[reducible] def ref13_Right_ct : Ct tab := ⟨26, [.st 5], [], [.one (.d .bool)], [], Bool, fun y => (y, ()), fun y => y.1, fun _ => rfl, fun n x => ref13_Right n x.1⟩
theorem ref13_Right_ok : OkC Tryz.prog tab ref13_Right_ct := fn_ok (W := ⟨Tryz.prog, tab, tyOf, [ref06_Right_ct, ref13_Pages_ct, ref13_Depths_ct], addO, dpO, false⟩) ⟨tabOk, ⟨ref06_Right_ok, ref13_Pages_ok, ref13_Depths_ok, trivial⟩, addOk⟩ (by kernel_rfl) 93 Tryz.f26 (.sq (.n) (.sq (.n) (.sq (.sq (.n) (.bk none (.lp ⟨[(1, .one (.box 0 0)), (3, .one (.d (.int .i64)))], [.bst 5], []⟩ (.n)))) (.sq (.n) (.sq (.n) (.sq (.n) (.sq (.sq (.n) (.bk none (.lp ⟨[(1, .one (.box 0 0)), (4, .one (.own 1)), (5, .one (.own 2)), (6, .one (.d (.int .i64)))], [.bst 5, .row 3 (.int .i64), .row 3 (.int .i64)], []⟩ (.n)))) (.sq (.sq (.n) (.bk none (.lp ⟨[(1, .one (.box 0 0)), (5, .one (.own 1)), (7, .one (.d (.int .i64)))], [.bst 5, .row 3 (.int .i64)], []⟩ (.n)))) (.sq (.n) (.sq (.sq (.n) (.bk none (.lp ⟨[(8, .one (.own 0)), (9, .one (.d (.int .i64)))], [.row 3 (.int .i64)], []⟩ (.n)))) (.n))))))))))) Tryz.func26 Tryz.call26 rfl (by kernel_rfl) (by kernel_rfl) (by kernel_rfl) fun n x => by kernel_rfl
def ref13_Free (n : Nat) (p0 : Forest) : Option Int :=
 (ref13_free n p0).bind fun y1 =>
 some (y1.length : Int)
@[reducible] def ref13_Free_ct : Ct tab := ⟨29, [.st 5], [], [.one (.d (.int .i64))], [], Int, fun y => (y, ()), fun y => y.1, fun _ => rfl, fun n x => ref13_Free n x.1⟩
theorem ref13_Free_ok : OkC Tryz.prog tab ref13_Free_ct := fn_ok (W := ⟨Tryz.prog, tab, tyOf, [ref13_free_ct], addO, dpO, false⟩) ⟨tabOk, ⟨ref13_free_ok, trivial⟩, addOk⟩ (by kernel_rfl) 6 Tryz.f29 (.n) Tryz.func29 Tryz.call29 rfl (by kernel_rfl) (by kernel_rfl) (by kernel_rfl) fun n x => by kernel_rfl
def ref05_Same_l1 (n : Nat) : Nat → (List Row) × (List Row) × Int × Unit → Option Bool := loopF fun r1 ⟨v1, v2, v3, _⟩ =>
 cond (decide (v3 < (v1.length : Int)))
 ((idx v1 v3).bind fun x4 =>
 (idx v2 v3).bind fun x5 =>
 cond (!(Row.eqb x4 x5))
 (some false)
 (r1 (v1, v2, (IntKind.wrap .i64 (v3 + 1)), ())))
 (some true)
def ref05_Same (n : Nat) (p0 : List Row) (p1 : List Row) : Option Bool :=
 cond ((p0.length : Int) != (p1.length : Int))
 (some false)
 (ref05_Same_l1 n n (p0, p1, 0, ()))
@[reducible] def ref05_Same_ct : Ct tab := ⟨28, [.one (.d (.sl (.st 2))), .one (.d (.sl (.st 2)))], [], [.one (.d .bool)], [], Bool, fun y => (y, ()), fun y => y.1, fun _ => rfl, fun n x => ref05_Same n x.1 x.2.1⟩
theorem ref05_Same_ok : OkC Tryz.prog tab ref05_Same_ct := fn_ok (W := ⟨Tryz.prog, tab, tyOf, [], addO, dpO, false⟩) ⟨tabOk, trivial, addOk⟩ (by kernel_rfl) 26 Tryz.f28 (.sq (.n) (.sq (.n) (.sq (.sq (.n) (.bk none (.lp ⟨[(0, .one (.d (.sl (.st 2)))), (1, .one (.d (.sl (.st 2)))), (5, .one (.d (.int .i64)))], [], []⟩ (.n)))) (.n)))) Tryz.func28 Tryz.call28 rfl (by kernel_rfl) (by kernel_rfl) (by kernel_rfl) fun n x => by kernel_rfl
def law13_TreeTells (n : Nat) (p0 : Forest) (p1 : Forest) (p2 : Key) : Option Bool :=
 (law13_wakes n).bind fun y1 =>
 cond (!y1)
 (some false)
 ((law13_over n p0).bind fun y2 =>
 jn (fun (b3 : Bool) =>
 cond b3
 (some true)
 ((tree_Check n p0).bind fun y5 =>
 (tree_Rows n p0).bind fun y6 =>
 (tree_Get n p0 p2).bind fun y7 =>
 (tree_Same n p0 p1).bind fun y8 =>
 (ref13_Same n p0 p1).bind fun y9 =>
 jn (fun (b10 : Bool) =>
 jn (fun (b12 : Bool) =>
 cond b12
 (some false)
 ((ref13_Right n p0).bind fun y14 =>
 cond (!y14)
 (jn (fun (b15 : Bool) =>
 jn (fun (b17 : Bool) =>
 jn (fun (b19 : Bool) =>
 jn (fun (b21 : Bool) =>
 jn (fun (b23 : Bool) =>
 jn (fun (b25 : Bool) =>
 some b25) fun k26 =>
 cond b23
 ((tree_Depth n p0).bind fun y27 =>
 k26 (y27 == 0))
 (k26 false)) fun k24 =>
 cond b21
 ((tree_Free n p0).bind fun y28 =>
 k24 (y28 == 0))
 (k24 false)) fun k22 =>
 cond b19
 (k22 (y7.2 == 230))
 (k22 false)) fun k20 =>
 cond b17
 (k20 (Row.eqb y7.1 (Row.mk (Key.mk 0 0) 0 ByteArray.empty)))
 (k20 false)) fun k18 =>
 cond b15
 (k18 (y6.1 == 230))
 (k18 false)) fun k16 =>
 cond (y5 == 230)
 (k16 ((y6.2.length : Int) == 0))
 (k16 false))
 ((ref13_Rows n p0 0).bind fun y29 =>
 cond (y5 != 0)
 (cond true
 (cond true
 (cond true
 (cond true
 (some false)
 ((ref05_Find n y29 p2).bind fun y30 =>
 cond (decide (y30 < 0))
 (jn (fun (b31 : Bool) =>
 some b31) fun k32 =>
 cond (Row.eqb y7.1 (Row.mk (Key.mk 0 0) 0 ByteArray.empty))
 (k32 (y7.2 == 4))
 (k32 false))
 (jn (fun (b33 : Bool) =>
 some b33) fun k34 =>
 cond (y7.2 == 0)
 ((idx y29 y30).bind fun x35 =>
 (idx y29 y30).bind fun x36 =>
 k34 (Row.eqb y7.1 x36))
 (k34 false))))
 ((tree_Depth n p0).bind fun y37 =>
 (ref13_Depths n p0 0 1).bind fun y38 =>
 (idx y38 0).bind fun x39 =>
 (idx y38 0).bind fun x40 =>
 cond (y37 != x40)
 (some false)
 ((ref05_Find n y29 p2).bind fun y41 =>
 cond (decide (y41 < 0))
 (jn (fun (b42 : Bool) =>
 some b42) fun k43 =>
 cond (Row.eqb y7.1 (Row.mk (Key.mk 0 0) 0 ByteArray.empty))
 (k43 (y7.2 == 4))
 (k43 false))
 (jn (fun (b44 : Bool) =>
 some b44) fun k45 =>
 cond (y7.2 == 0)
 ((idx y29 y41).bind fun x46 =>
 (idx y29 y41).bind fun x47 =>
 k45 (Row.eqb y7.1 x47))
 (k45 false)))))
 ((tree_Free n p0).bind fun y48 =>
 (ref13_Free n p0).bind fun y49 =>
 cond (y48 != y49)
 (cond true
 (some false)
 ((ref05_Find n y29 p2).bind fun y50 =>
 cond (decide (y50 < 0))
 (jn (fun (b51 : Bool) =>
 some b51) fun k52 =>
 cond (Row.eqb y7.1 (Row.mk (Key.mk 0 0) 0 ByteArray.empty))
 (k52 (y7.2 == 4))
 (k52 false))
 (jn (fun (b53 : Bool) =>
 some b53) fun k54 =>
 cond (y7.2 == 0)
 ((idx y29 y50).bind fun x55 =>
 (idx y29 y50).bind fun x56 =>
 k54 (Row.eqb y7.1 x56))
 (k54 false))))
 ((tree_Depth n p0).bind fun y57 =>
 (ref13_Depths n p0 0 1).bind fun y58 =>
 (idx y58 0).bind fun x59 =>
 (idx y58 0).bind fun x60 =>
 cond (y57 != x60)
 (some false)
 ((ref05_Find n y29 p2).bind fun y61 =>
 cond (decide (y61 < 0))
 (jn (fun (b62 : Bool) =>
 some b62) fun k63 =>
 cond (Row.eqb y7.1 (Row.mk (Key.mk 0 0) 0 ByteArray.empty))
 (k63 (y7.2 == 4))
 (k63 false))
 (jn (fun (b64 : Bool) =>
 some b64) fun k65 =>
 cond (y7.2 == 0)
 ((idx y29 y61).bind fun x66 =>
 (idx y29 y61).bind fun x67 =>
 k65 (Row.eqb y7.1 x67))
 (k65 false))))))
 ((ref05_Same n y6.2 y29).bind fun y68 =>
 cond (!y68)
 (cond true
 (cond true
 (some false)
 ((ref05_Find n y29 p2).bind fun y69 =>
 cond (decide (y69 < 0))
 (jn (fun (b70 : Bool) =>
 some b70) fun k71 =>
 cond (Row.eqb y7.1 (Row.mk (Key.mk 0 0) 0 ByteArray.empty))
 (k71 (y7.2 == 4))
 (k71 false))
 (jn (fun (b72 : Bool) =>
 some b72) fun k73 =>
 cond (y7.2 == 0)
 ((idx y29 y69).bind fun x74 =>
 (idx y29 y69).bind fun x75 =>
 k73 (Row.eqb y7.1 x75))
 (k73 false))))
 ((tree_Depth n p0).bind fun y76 =>
 (ref13_Depths n p0 0 1).bind fun y77 =>
 (idx y77 0).bind fun x78 =>
 (idx y77 0).bind fun x79 =>
 cond (y76 != x79)
 (some false)
 ((ref05_Find n y29 p2).bind fun y80 =>
 cond (decide (y80 < 0))
 (jn (fun (b81 : Bool) =>
 some b81) fun k82 =>
 cond (Row.eqb y7.1 (Row.mk (Key.mk 0 0) 0 ByteArray.empty))
 (k82 (y7.2 == 4))
 (k82 false))
 (jn (fun (b83 : Bool) =>
 some b83) fun k84 =>
 cond (y7.2 == 0)
 ((idx y29 y80).bind fun x85 =>
 (idx y29 y80).bind fun x86 =>
 k84 (Row.eqb y7.1 x86))
 (k84 false)))))
 ((tree_Free n p0).bind fun y87 =>
 (ref13_Free n p0).bind fun y88 =>
 cond (y87 != y88)
 (cond true
 (some false)
 ((ref05_Find n y29 p2).bind fun y89 =>
 cond (decide (y89 < 0))
 (jn (fun (b90 : Bool) =>
 some b90) fun k91 =>
 cond (Row.eqb y7.1 (Row.mk (Key.mk 0 0) 0 ByteArray.empty))
 (k91 (y7.2 == 4))
 (k91 false))
 (jn (fun (b92 : Bool) =>
 some b92) fun k93 =>
 cond (y7.2 == 0)
 ((idx y29 y89).bind fun x94 =>
 (idx y29 y89).bind fun x95 =>
 k93 (Row.eqb y7.1 x95))
 (k93 false))))
 ((tree_Depth n p0).bind fun y96 =>
 (ref13_Depths n p0 0 1).bind fun y97 =>
 (idx y97 0).bind fun x98 =>
 (idx y97 0).bind fun x99 =>
 cond (y96 != x99)
 (some false)
 ((ref05_Find n y29 p2).bind fun y100 =>
 cond (decide (y100 < 0))
 (jn (fun (b101 : Bool) =>
 some b101) fun k102 =>
 cond (Row.eqb y7.1 (Row.mk (Key.mk 0 0) 0 ByteArray.empty))
 (k102 (y7.2 == 4))
 (k102 false))
 (jn (fun (b103 : Bool) =>
 some b103) fun k104 =>
 cond (y7.2 == 0)
 ((idx y29 y100).bind fun x105 =>
 (idx y29 y100).bind fun x106 =>
 k104 (Row.eqb y7.1 x106))
 (k104 false)))))))
 (cond (y6.1 != 0)
 (cond true
 (cond true
 (cond true
 (some false)
 ((ref05_Find n y29 p2).bind fun y107 =>
 cond (decide (y107 < 0))
 (jn (fun (b108 : Bool) =>
 some b108) fun k109 =>
 cond (Row.eqb y7.1 (Row.mk (Key.mk 0 0) 0 ByteArray.empty))
 (k109 (y7.2 == 4))
 (k109 false))
 (jn (fun (b110 : Bool) =>
 some b110) fun k111 =>
 cond (y7.2 == 0)
 ((idx y29 y107).bind fun x112 =>
 (idx y29 y107).bind fun x113 =>
 k111 (Row.eqb y7.1 x113))
 (k111 false))))
 ((tree_Depth n p0).bind fun y114 =>
 (ref13_Depths n p0 0 1).bind fun y115 =>
 (idx y115 0).bind fun x116 =>
 (idx y115 0).bind fun x117 =>
 cond (y114 != x117)
 (some false)
 ((ref05_Find n y29 p2).bind fun y118 =>
 cond (decide (y118 < 0))
 (jn (fun (b119 : Bool) =>
 some b119) fun k120 =>
 cond (Row.eqb y7.1 (Row.mk (Key.mk 0 0) 0 ByteArray.empty))
 (k120 (y7.2 == 4))
 (k120 false))
 (jn (fun (b121 : Bool) =>
 some b121) fun k122 =>
 cond (y7.2 == 0)
 ((idx y29 y118).bind fun x123 =>
 (idx y29 y118).bind fun x124 =>
 k122 (Row.eqb y7.1 x124))
 (k122 false)))))
 ((tree_Free n p0).bind fun y125 =>
 (ref13_Free n p0).bind fun y126 =>
 cond (y125 != y126)
 (cond true
 (some false)
 ((ref05_Find n y29 p2).bind fun y127 =>
 cond (decide (y127 < 0))
 (jn (fun (b128 : Bool) =>
 some b128) fun k129 =>
 cond (Row.eqb y7.1 (Row.mk (Key.mk 0 0) 0 ByteArray.empty))
 (k129 (y7.2 == 4))
 (k129 false))
 (jn (fun (b130 : Bool) =>
 some b130) fun k131 =>
 cond (y7.2 == 0)
 ((idx y29 y127).bind fun x132 =>
 (idx y29 y127).bind fun x133 =>
 k131 (Row.eqb y7.1 x133))
 (k131 false))))
 ((tree_Depth n p0).bind fun y134 =>
 (ref13_Depths n p0 0 1).bind fun y135 =>
 (idx y135 0).bind fun x136 =>
 (idx y135 0).bind fun x137 =>
 cond (y134 != x137)
 (some false)
 ((ref05_Find n y29 p2).bind fun y138 =>
 cond (decide (y138 < 0))
 (jn (fun (b139 : Bool) =>
 some b139) fun k140 =>
 cond (Row.eqb y7.1 (Row.mk (Key.mk 0 0) 0 ByteArray.empty))
 (k140 (y7.2 == 4))
 (k140 false))
 (jn (fun (b141 : Bool) =>
 some b141) fun k142 =>
 cond (y7.2 == 0)
 ((idx y29 y138).bind fun x143 =>
 (idx y29 y138).bind fun x144 =>
 k142 (Row.eqb y7.1 x144))
 (k142 false))))))
 ((ref05_Same n y6.2 y29).bind fun y145 =>
 cond (!y145)
 (cond true
 (cond true
 (some false)
 ((ref05_Find n y29 p2).bind fun y146 =>
 cond (decide (y146 < 0))
 (jn (fun (b147 : Bool) =>
 some b147) fun k148 =>
 cond (Row.eqb y7.1 (Row.mk (Key.mk 0 0) 0 ByteArray.empty))
 (k148 (y7.2 == 4))
 (k148 false))
 (jn (fun (b149 : Bool) =>
 some b149) fun k150 =>
 cond (y7.2 == 0)
 ((idx y29 y146).bind fun x151 =>
 (idx y29 y146).bind fun x152 =>
 k150 (Row.eqb y7.1 x152))
 (k150 false))))
 ((tree_Depth n p0).bind fun y153 =>
 (ref13_Depths n p0 0 1).bind fun y154 =>
 (idx y154 0).bind fun x155 =>
 (idx y154 0).bind fun x156 =>
 cond (y153 != x156)
 (some false)
 ((ref05_Find n y29 p2).bind fun y157 =>
 cond (decide (y157 < 0))
 (jn (fun (b158 : Bool) =>
 some b158) fun k159 =>
 cond (Row.eqb y7.1 (Row.mk (Key.mk 0 0) 0 ByteArray.empty))
 (k159 (y7.2 == 4))
 (k159 false))
 (jn (fun (b160 : Bool) =>
 some b160) fun k161 =>
 cond (y7.2 == 0)
 ((idx y29 y157).bind fun x162 =>
 (idx y29 y157).bind fun x163 =>
 k161 (Row.eqb y7.1 x163))
 (k161 false)))))
 ((tree_Free n p0).bind fun y164 =>
 (ref13_Free n p0).bind fun y165 =>
 cond (y164 != y165)
 (cond true
 (some false)
 ((ref05_Find n y29 p2).bind fun y166 =>
 cond (decide (y166 < 0))
 (jn (fun (b167 : Bool) =>
 some b167) fun k168 =>
 cond (Row.eqb y7.1 (Row.mk (Key.mk 0 0) 0 ByteArray.empty))
 (k168 (y7.2 == 4))
 (k168 false))
 (jn (fun (b169 : Bool) =>
 some b169) fun k170 =>
 cond (y7.2 == 0)
 ((idx y29 y166).bind fun x171 =>
 (idx y29 y166).bind fun x172 =>
 k170 (Row.eqb y7.1 x172))
 (k170 false))))
 ((tree_Depth n p0).bind fun y173 =>
 (ref13_Depths n p0 0 1).bind fun y174 =>
 (idx y174 0).bind fun x175 =>
 (idx y174 0).bind fun x176 =>
 cond (y173 != x176)
 (some false)
 ((ref05_Find n y29 p2).bind fun y177 =>
 cond (decide (y177 < 0))
 (jn (fun (b178 : Bool) =>
 some b178) fun k179 =>
 cond (Row.eqb y7.1 (Row.mk (Key.mk 0 0) 0 ByteArray.empty))
 (k179 (y7.2 == 4))
 (k179 false))
 (jn (fun (b180 : Bool) =>
 some b180) fun k181 =>
 cond (y7.2 == 0)
 ((idx y29 y177).bind fun x182 =>
 (idx y29 y177).bind fun x183 =>
 k181 (Row.eqb y7.1 x183))
 (k181 false)))))))))) fun k13 =>
 cond b10
 (k13 true)
 ((tree_New n).bind fun y184 =>
 (ref13_New n).bind fun y185 =>
 (tree_Same n y184 y185).bind fun y186 =>
 k13 (!y186))) fun k11 =>
 cond (!(y8 == y9))
 (k11 true)
 ((tree_Same n p0 p0).bind fun y187 =>
 k11 (!y187)))) fun k4 =>
 cond y2
 (k4 true)
 ((law13_over n p1).bind fun y188 =>
 k4 y188))
@[reducible] def law13_TreeTells_ct : Ct tab := ⟨5, [.st 5, .st 5, .st 1], [], [.one (.d .bool)], [], Bool, fun y => (y, ()), fun y => y.1, fun _ => rfl, fun n x => law13_TreeTells n x.1 x.2.1 x.2.2.1⟩
theorem law13_TreeTells_ok : OkC Tryz.prog tab law13_TreeTells_ct := fn_ok (W := ⟨Tryz.prog, tab, tyOf, [law13_wakes_ct, law13_over_ct, tree_Check_ct, tree_Rows_ct, tree_Get_ct, tree_Same_ct, ref13_Same_ct, ref13_Right_ct, tree_Depth_ct, tree_Free_ct, ref13_Rows_ct, ref05_Find_ct, ref13_Depths_ct, ref13_Free_ct, ref05_Same_ct, tree_New_ct, ref13_New_ct], addO, dpO, false⟩) ⟨tabOk, ⟨law13_wakes_ok, law13_over_ok, tree_Check_ok, tree_Rows_ok, tree_Get_ok, tree_Same_ok, ref13_Same_ok, ref13_Right_ok, tree_Depth_ok, tree_Free_ok, ref13_Rows_ok, ref05_Find_ok, ref13_Depths_ok, ref13_Free_ok, ref05_Same_ok, tree_New_ok, ref13_New_ok, trivial⟩, addOk⟩ (by kernel_rfl) 139 Tryz.f5 (.sq (.n) (.sq (.n) (.sq (.n) (.sq (.n) (.sq (.n) (.sq (.n) (.sq (.n) (.sq (.n) (.sq (.n) (.sq (.sq (.rg [1000000]) (.n)) (.n))))))))))) Tryz.func5 Tryz.call5 rfl (by kernel_rfl) (by kernel_rfl) (by kernel_rfl) fun n x => by kernel_rfl
end
end Go.Proofs.YtlcmdgpjiendmaaGreat
