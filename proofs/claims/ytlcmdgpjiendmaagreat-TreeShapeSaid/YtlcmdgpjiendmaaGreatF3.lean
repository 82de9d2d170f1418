import Derived.Test.YtlcmdgpjiendmaaGreatTypes
import Derived.Test.YtlcmdgpjiendmaaGreatF2
namespace Go.Proofs.YtlcmdgpjiendmaaGreat
open Go Go.Bur Go.RowKit
set_option linter.unusedVariables false
set_option linter.unusedSimpArgs false
set_option maxRecDepth 100000
noncomputable section
def ref11_Level_j1 (n : Nat) : Int × Content × Content × Key × Content × Content × Key × Unit → Option (Content × Content × Key × Bool) := fun ⟨v9, v10, v11, v12, v13, v14, v15, _⟩ =>
 (ref11_Both n v10 v11 v12).bind fun y16 =>
 (ref11_Cut n y16 v9).bind fun y17 =>
 (ref11_Size n y17.2.1).bind fun y18 =>
 jn (fun (b19 : Bool) =>
 jn (fun (b21 : Bool) =>
 jn (fun (b23 : Bool) =>
 cond b23
 (some ((Content.mk 0 ([] : List Row) ([] : List Kid)), (Content.mk 0 ([] : List Row) ([] : List Kid)), (Key.mk 0 0), false))
 (some (y17.1, y17.2.1, y17.2.2, true))) fun k24 =>
 cond b21
 (k24 true)
 ((ref06_Right n y17.2.1).bind fun y25 =>
 k24 (!y25))) fun k22 =>
 cond b19
 (k22 true)
 ((ref06_Right n y17.1).bind fun y26 =>
 k22 (!y26))) fun k20 =>
 cond (y18 == 0)
 (k20 true)
 ((ref11_Rises n y16).bind fun y27 =>
 k20 (!y27))
def ref11_Level (n : Nat) (p0 : Content) (p1 : Content) (p2 : Key) : Option (Content × Content × Key × Bool) :=
 jn (fun (b1 : Bool) =>
 jn (fun (b3 : Bool) =>
 cond b3
 (some ((Content.mk 0 ([] : List Row) ([] : List Kid)), (Content.mk 0 ([] : List Row) ([] : List Kid)), (Key.mk 0 0), false))
 ((ref11_Size n p0).bind fun y5 =>
 (ref11_Size n p0).bind fun y6 =>
 (ref11_Size n p1).bind fun y7 =>
 jn (ref11_Level_j1 n) fun j1 =>
 cond (decide (y6 > y7))
 ((ref11_Size n p0).bind fun y28 =>
 j1 ((IntKind.wrap .i64 (y28 - 1)), p0, p1, p2, (Content.mk 0 ([] : List Row) ([] : List Kid)), (Content.mk 0 ([] : List Row) ([] : List Kid)), (Key.mk 0 0), ()))
 (j1 ((IntKind.wrap .i64 (y5 + 1)), p0, p1, p2, (Content.mk 0 ([] : List Row) ([] : List Kid)), (Content.mk 0 ([] : List Row) ([] : List Kid)), (Key.mk 0 0), ())))) fun k4 =>
 cond b1
 (k4 true)
 ((ref11_Size n p0).bind fun y29 =>
 (ref11_Size n p1).bind fun y30 =>
 k4 (y29 == y30))) fun k2 =>
 cond (p0.kind != p1.kind)
 (k2 true)
 (k2 (p0.kind == 0))
@[reducible] def ref11_Level_ct : Ct tab := ⟨123, [.st 4, .st 4, .st 1], [], [.st 4, .st 4, .st 1, .one (.d .bool)], [], (Content × Content × Key × Bool), fun y => (y.1, y.2.1, y.2.2.1, y.2.2.2, ()), fun y => (y.1, y.2.1, y.2.2.1, y.2.2.2.1), fun _ => rfl, fun n x => ref11_Level n x.1 x.2.1 x.2.2.1⟩
theorem ref11_Level_ok : OkC Tryz.prog tab ref11_Level_ct := fn_ok (W := ⟨Tryz.prog, tab, tyOf, [ref11_Size_ct, ref11_Both_ct, ref11_Cut_ct, ref06_Right_ct, ref11_Rises_ct], addO, dpO, false⟩) ⟨tabOk, ⟨ref11_Size_ok, ref11_Both_ok, ref11_Cut_ok, ref06_Right_ok, ref11_Rises_ok, trivial⟩, addOk⟩ (by kernel_rfl) 81 Tryz.f123 (.sq (.n) (.sq (.n) (.sq (.n) (.sq (.sq (.n) (.cd (some ⟨[(3, .one (.box 0 0)), (4, .one (.box 1 0)), (5, .one (.box 2 0)), (6, .one (.box 3 0)), (7, .one (.box 4 0)), (8, .one (.box 5 0)), (10, .one (.d (.int .i64)))], [.bst 4, .bst 4, .bst 1, .bst 4, .bst 4, .bst 1], []⟩) (.n) (.n))) (.n))))) Tryz.func123 Tryz.call123 rfl (by kernel_rfl) (by kernel_rfl) (by kernel_rfl) fun n x => by kernel_rfl
def ref11_Step_j2 (n : Nat) (r1 : Int × Int × Content × Key × Content × (List Kid) × Unit → Option Content) : Int × Int × Content × Key × Content × (List Kid) × Kid × Unit → Option Content := fun ⟨v8, v9, v10, v11, v12, v13, v14, _⟩ =>
 (app 24 v13 ([v14] : List Kid)).bind fun l15 =>
 r1 (v8, (IntKind.wrap .i64 (v9 + 1)), v10, v11, v12, l15, ())
def ref11_Step_l1 (n : Nat) : Nat → Int × Int × Content × Key × Content × (List Kid) × Unit → Option Content := loopF fun r1 ⟨v1, v2, v3, v4, v5, v6, _⟩ =>
 cond (decide (v2 < (v3.kids.length : Int)))
 ((idx v3.kids v2).bind fun x7 =>
 jn (ref11_Step_j2 n r1) fun j2 =>
 cond (v2 == v1)
 (j2 (v1, v2, v3, v4, v5, v6, (Kid.mk v4 x7.page), ()))
 (j2 (v1, v2, v3, v4, v5, v6, x7, ())))
 ((ref11_Inner n v6).bind fun y16 =>
 some y16)
def ref11_Step (n : Nat) (p0 : Content) (p1 : Int) (p2 : Key) : Option Content :=
 ref11_Step_l1 n n (p1, 0, p0, p2, (Content.mk 0 ([] : List Row) ([] : List Kid)), ([] : List Kid), ())
@[reducible] def ref11_Step_ct : Ct tab := ⟨124, [.st 4, .one (.d (.int .i64)), .st 1], [], [.st 4], [], Content, fun y => (y, ()), fun y => y.1, fun _ => rfl, fun n x => ref11_Step n x.1 x.2.1 x.2.2.1⟩
theorem ref11_Step_ok : OkC Tryz.prog tab ref11_Step_ct := fn_ok (W := ⟨Tryz.prog, tab, tyOf, [ref11_Inner_ct], addO, dpO, false⟩) ⟨tabOk, ⟨ref11_Inner_ok, trivial⟩, addOk⟩ (by kernel_rfl) 33 Tryz.f124 (.sq (.n) (.sq (.n) (.sq (.sq (.n) (.bk none (.lp ⟨[(1, .one (.d (.int .i64))), (3, .one (.box 0 0)), (5, .one (.box 1 0)), (6, .one (.box 2 0)), (7, .one (.own 3)), (8, .one (.d (.int .i64)))], [.bst 4, .bst 1, .bst 4, .row 100 (.st 3)], []⟩ (.sq (.n) (.sq (.bk none (.sq (.n) (.sq (.sq (.n) (.cd (some ⟨[(1, .one (.d (.int .i64))), (3, .one (.box 0 0)), (5, .one (.box 1 0)), (6, .one (.box 2 0)), (7, .one (.own 3)), (8, .one (.d (.int .i64))), (9, .one (.box 4 0))], [.bst 4, .bst 1, .bst 4, .row 100 (.st 3), .bst 3], []⟩) (.n) (.n))) (.n)))) (.n)))))) (.n)))) Tryz.func124 Tryz.call124 rfl (by kernel_rfl) (by kernel_rfl) (by kernel_rfl) fun n x => by kernel_rfl
def ref13_food_j1 (n : Nat) : Int × Int × Forest × Content × Unit → Option (Bool × (List Sheet)) := fun ⟨v6, v7, v8, v9, _⟩ =>
 (idx v9.kids (IntKind.wrap .i64 (v7 - 1))).bind fun x10 =>
 (idx v9.kids v7).bind fun x11 =>
 (idx v9.kids v7).bind fun x12 =>
 (idx v8.pages x10.page).bind fun x13 =>
 (idx v8.pages x11.page).bind fun x14 =>
 (ref11_Both n x13 x14 x12.least).bind fun y15 =>
 (ref11_Size n y15).bind fun y16 =>
 jn (fun (b17 : Bool) =>
 jn (fun (b19 : Bool) =>
 cond b19
 ((ref13_sorted n ([(Sheet.mk 0 y15), (Sheet.mk x10.page (Content.mk 0 ([] : List Row) ([] : List Kid))), (Sheet.mk x11.page (Content.mk 0 ([] : List Row) ([] : List Kid)))] : List Sheet)).bind fun y21 =>
 some (true, y21))
 ((ref11_Size n y15).bind fun y22 =>
 cond (decide (y22 ≤ 4))
 ((ref11_Disown n v9 v7).bind fun y23 =>
 (ref13_sorted n ([(Sheet.mk v6 y23), (Sheet.mk x10.page y15), (Sheet.mk x11.page (Content.mk 0 ([] : List Row) ([] : List Kid)))] : List Sheet)).bind fun y24 =>
 some (false, y24))
 ((idx v8.pages x10.page).bind fun x25 =>
 (idx v8.pages x11.page).bind fun x26 =>
 (ref11_Level n x25 x26 x12.least).bind fun y27 =>
 (ref11_Step n v9 v7 y27.2.2.1).bind fun y28 =>
 (ref13_sorted n ([(Sheet.mk v6 y28), (Sheet.mk x10.page y27.1), (Sheet.mk x11.page y27.2.1)] : List Sheet)).bind fun y29 =>
 some (false, y29)))) fun k20 =>
 cond b17
 (k20 ((v9.kids.length : Int) == 2))
 (k20 false)) fun k18 =>
 cond (decide (y16 ≤ 4))
 (k18 (v6 == 0))
 (k18 false)
def ref13_food (n : Nat) (p0 : Forest) (p1 : Int) (p2 : Key) : Option (Bool × (List Sheet)) :=
 (idx p0.pages p1).bind fun x1 =>
 (ref11_Kid n x1 p2).bind fun y2 =>
 (idx x1.kids y2).bind fun x3 =>
 (idx p0.pages x3.page).bind fun x4 =>
 (ref11_Size n x4).bind fun y5 =>
 cond (decide (y5 > 2))
 (some (false, ([] : List Sheet)))
 (jn (ref13_food_j1 n) fun j1 =>
 cond ((IntKind.wrap .i64 (y2 + 1)) == (x1.kids.length : Int))
 (j1 (p1, y2, p0, x1, ()))
 (j1 (p1, (IntKind.wrap .i64 (y2 + 1)), p0, x1, ())))
@[reducible] def ref13_food_ct : Ct tab := ⟨74, [.st 5, .one (.d (.int .i64)), .st 1], [], [.one (.own 0), .one (.d .bool)], [(none, .row 76 (.st 6))], (Bool × (List Sheet)), fun y => (y.1, y.2, ()), fun y => (y.1, y.2.1), fun _ => rfl, fun n x => ref13_food n x.1 x.2.1 x.2.2.1⟩
theorem ref13_food_ok : OkC Tryz.prog tab ref13_food_ct := fn_ok (W := ⟨Tryz.prog, tab, tyOf, [ref11_Kid_ct, ref11_Size_ct, ref11_Both_ct, ref13_sorted_ct, ref11_Disown_ct, ref11_Level_ct, ref11_Step_ct], addO, dpO, false⟩) ⟨tabOk, ⟨ref11_Kid_ok, ref11_Size_ok, ref11_Both_ok, ref13_sorted_ok, ref11_Disown_ok, ref11_Level_ok, ref11_Step_ok, trivial⟩, addOk⟩ (by kernel_rfl) 145 Tryz.f74 (.sq (.n) (.sq (.n) (.sq (.n) (.sq (.n) (.sq (.n) (.sq (.sq (.n) (.cd (some ⟨[(1, .one (.d (.int .i64))), (3, .one (.box 0 0)), (8, .one (.box 1 0)), (10, .one (.d (.int .i64)))], [.bst 5, .bst 4], []⟩) (.n) (.n))) (.n))))))) Tryz.func74 Tryz.call74 rfl (by kernel_rfl) (by kernel_rfl) (by kernel_rfl) fun n x => by kernel_rfl
def ref13_With_l1 (n : Nat) : Nat → (List Sheet) × Int × Forest × (List Content) × Unit → Option Forest := loopF fun r1 ⟨v2, v3, v4, v5, _⟩ =>
 cond (decide (v3 < (v2.length : Int)))
 ((idx v2 v3).bind fun x6 =>
 (idx v2 v3).bind fun x7 =>
 (idx v5 x6.page).bind fun x8 =>
 (put v5 x6.page x7.content).bind fun l9 =>
 r1 (v2, (IntKind.wrap .i64 (v3 + 1)), v4, l9, ()))
 (some (Forest.mk v5))
def ref13_With (n : Nat) (p0 : Forest) (p1 : List Sheet) : Option Forest :=
 (app 56 ([] : List Content) p0.pages).bind fun l1 =>
 ref13_With_l1 n n (p1, 0, (Forest.mk ([] : List Content)), l1, ())
@[reducible] def ref13_With_ct : Ct tab := ⟨19, [.st 5, .one (.d (.sl (.st 6)))], [], [.st 5], [], Forest, fun y => (y, ()), fun y => y.1, fun _ => rfl, fun n x => ref13_With n x.1 x.2.1⟩
theorem ref13_With_ok : OkC Tryz.prog tab ref13_With_ct := fn_ok (W := ⟨Tryz.prog, tab, tyOf, [], addO, dpO, false⟩) ⟨tabOk, trivial, addOk⟩ (by kernel_rfl) 32 Tryz.f19 (.sq (.n) (.sq (.n) (.sq (.sq (.n) (.bk none (.lp ⟨[(1, .one (.d (.sl (.st 6)))), (4, .one (.box 0 0)), (5, .one (.box 1 0)), (6, .one (.d (.int .i64)))], [.bst 5, .box [.own 2], .row 47 (.st 4)], []⟩ (.n)))) (.n)))) Tryz.func19 Tryz.call19 rfl (by kernel_rfl) (by kernel_rfl) (by kernel_rfl) fun n x => by kernel_rfl
def ref05_Without_j2 (n : Nat) (r1 : (List Row) × Int × Key × (List Row) × Unit → Option ((List Row))) : (List Row) × Int × Key × (List Row) × Unit → Option ((List Row)) := fun ⟨v8, v9, v10, v11, _⟩ =>
 r1 (v8, (IntKind.wrap .i64 (v9 + 1)), v10, v11, ())
def ref05_Without_l1 (n : Nat) : Nat → (List Row) × Int × Key × (List Row) × Unit → Option ((List Row)) := loopF fun r1 ⟨v1, v2, v3, v4, _⟩ =>
 cond (decide (v2 < (v1.length : Int)))
 ((idx v1 v2).bind fun x5 =>
 jn (ref05_Without_j2 n r1) fun j2 =>
 cond (!(Key.eqb x5.key v3))
 ((idx v1 v2).bind fun x12 =>
 (app 40 v4 ([x12] : List Row)).bind fun l13 =>
 j2 (v1, v2, v3, l13, ()))
 (j2 (v1, v2, v3, v4, ())))
 (some v4)
def ref05_Without (n : Nat) (p0 : List Row) (p1 : Key) : Option ((List Row)) :=
 ref05_Without_l1 n n (p0, 0, p1, ([] : List Row), ())
@[reducible] def ref05_Without_ct : Ct tab := ⟨44, [.one (.d (.sl (.st 2))), .st 1], [], [.one (.own 0)], [(none, .row 40 (.st 2))], ((List Row)), fun y => (y, ()), fun y => y.1, fun _ => rfl, fun n x => ref05_Without n x.1 x.2.1⟩
theorem ref05_Without_ok : OkC Tryz.prog tab ref05_Without_ct := fn_ok (W := ⟨Tryz.prog, tab, tyOf, [], addO, dpO, false⟩) ⟨tabOk, trivial, addOk⟩ (by kernel_rfl) 28 Tryz.f44 (.sq (.n) (.sq (.n) (.sq (.sq (.n) (.bk none (.lp ⟨[(0, .one (.d (.sl (.st 2)))), (3, .one (.box 0 0)), (5, .one (.own 1)), (6, .one (.d (.int .i64)))], [.bst 1, .row 40 (.st 2)], []⟩ (.sq (.n) (.sq (.bk none (.sq (.n) (.cd (some ⟨[(0, .one (.d (.sl (.st 2)))), (3, .one (.box 0 0)), (5, .one (.own 1)), (6, .one (.d (.int .i64)))], [.bst 1, .row 40 (.st 2)], []⟩) (.n) (.n)))) (.n)))))) (.n)))) Tryz.func44 Tryz.call44 rfl (by kernel_rfl) (by kernel_rfl) (by kernel_rfl) fun n x => by kernel_rfl
def ref13_Take_j1 (n : Nat) : Int × Forest × Key × (List Group) × Unit → Option ((List Group)) := fun ⟨v31, v32, v33, v34, _⟩ =>
 (idx v32.pages v31).bind fun x35 =>
 (ref05_Without n x35.rows v33).bind fun y36 =>
 (ref11_Leaf n y36).bind fun y37 =>
 (app 24 v34 ([(Group.mk ([(Sheet.mk v31 y37)] : List Sheet))] : List Group)).bind fun l38 =>
 some l38
def ref13_Take_j4 (n : Nat) (r2 : Int × Int × Forest × Key × (List Group) × Unit → Option ((List Group))) : Int × Int × Forest × Key × (List Group) × Unit → Option ((List Group)) := fun ⟨v58, v59, v60, v61, v62, _⟩ =>
 r2 (v58, (IntKind.wrap .i64 (v59 + 1)), v60, v61, v62, ())
def ref13_Take_j3 (n : Nat) (r2 : Int × Int × Forest × Key × (List Group) × Unit → Option ((List Group))) : Int × Int × Bool × Forest × Key × (List Group) × Unit → Option ((List Group)) := fun ⟨v48, v49, v50, v51, v52, v53, _⟩ =>
 jn (ref13_Take_j4 n r2) fun j4 =>
 cond (!v50)
 ((idx v51.pages v48).bind fun x63 =>
 (idx v51.pages v48).bind fun x64 =>
 (ref11_Kid n x64 v52).bind fun y65 =>
 (idx x63.kids y65).bind fun x66 =>
 j4 (x66.page, v49, v51, v52, v53, ()))
 (j4 (v48, v49, v51, v52, v53, ()))
def ref13_Take_l2 (n : Nat) (j1 : Int × Forest × Key × (List Group) × Unit → Option ((List Group))) : Nat → Int × Int × Forest × Key × (List Group) × Unit → Option ((List Group)) := loopF fun r2 ⟨v39, v40, v41, v42, v43, _⟩ =>
 cond (decide (v40 < 40))
 ((idx v41.pages v39).bind fun x44 =>
 cond (x44.kind == 1)
 (j1 (v39, v41, v42, v43, ()))
 ((ref13_food n v41 v39 v42).bind fun y45 =>
 jn (ref13_Take_j3 n r2) fun j3 =>
 cond (decide ((y45.2.length : Int) > 0))
 ((app 24 v43 ([(Group.mk y45.2)] : List Group)).bind fun l67 =>
 (ref13_With n v41 y45.2).bind fun y68 =>
 j3 (v39, v40, y45.1, y68, v42, l67, ()))
 (j3 (v39, v40, y45.1, v41, v42, v43, ()))))
 (j1 (v39, v41, v42, v43, ()))
def ref13_Take (n : Nat) (p0 : Forest) (p1 : Key) : Option ((List Group)) :=
 jn (ref13_Take_j1 n) fun j1 =>
 ref13_Take_l2 n j1 n (0, 0, p0, p1, ([] : List Group), ())
@[reducible] def ref13_Take_ct : Ct tab := ⟨37, [.st 5, .st 1], [], [.one (.own 0)], [(none, .row 74 (.st 7))], ((List Group)), fun y => (y, ()), fun y => y.1, fun _ => rfl, fun n x => ref13_Take n x.1 x.2.1⟩
theorem ref13_Take_ok : OkC Tryz.prog tab ref13_Take_ct := fn_ok (W := ⟨Tryz.prog, tab, tyOf, [ref05_Without_ct, ref11_Leaf_ct, ref13_food_ct, ref11_Kid_ct, ref13_With_ct], addO, dpO, false⟩) ⟨tabOk, ⟨ref05_Without_ok, ref11_Leaf_ok, ref13_food_ok, ref11_Kid_ok, ref13_With_ok, trivial⟩, addOk⟩ (by kernel_rfl) 75 Tryz.f37 (.sq (.n) (.sq (.n) (.sq (.n) (.sq (.sq (.n) (.bk (some ⟨[(2, .one (.box 0 0)), (3, .one (.box 1 0)), (5, .one (.own 2)), (6, .one (.d (.int .i64)))], [.bst 5, .bst 1, .row 74 (.st 7)], []⟩) (.lp ⟨[(2, .one (.box 0 0)), (3, .one (.box 1 0)), (5, .one (.own 2)), (6, .one (.d (.int .i64))), (7, .one (.d (.int .i64)))], [.bst 5, .bst 1, .row 74 (.st 7)], []⟩ (.sq (.n) (.sq (.bk none (.sq (.n) (.sq (.n) (.sq (.sq (.n) (.cd (some ⟨[(2, .one (.box 0 0)), (3, .one (.box 1 0)), (5, .one (.own 2)), (6, .one (.d (.int .i64))), (7, .one (.d (.int .i64))), (9, .one (.d .bool))], [.bst 5, .bst 1, .row 74 (.st 7)], []⟩) (.n) (.n))) (.sq (.n) (.cd (some ⟨[(2, .one (.box 0 0)), (3, .one (.box 1 0)), (5, .one (.own 2)), (6, .one (.d (.int .i64))), (7, .one (.d (.int .i64)))], [.bst 5, .bst 1, .row 74 (.st 7)], []⟩) (.n) (.n))))))) (.n)))))) (.n))))) Tryz.func37 Tryz.call37 rfl (by kernel_rfl) (by kernel_rfl) (by kernel_rfl) fun n x => by kernel_rfl
def ref13_Net_j3 (n : Nat) (r2 : (List Group) × Int × Int × (List Sheet) × Unit → Option ((List Sheet))) : (List Group) × Int × Int × (List Sheet) × Unit → Option ((List Sheet)) := fun ⟨v29, v30, v31, v32, _⟩ =>
 r2 (v29, v30, (IntKind.wrap .i64 (v31 - 1)), v32, ())
def ref13_Net_l4 (n : Nat) (j3 : (List Group) × Int × Int × (List Sheet) × Unit → Option ((List Sheet))) : Nat → (List Group) × Int × Int × Int × (List Sheet) × Sheet × Unit → Option ((List Sheet)) := loopF fun r4 ⟨v35, v36, v37, v38, v39, v40, _⟩ =>
 jn (fun (b41 : Bool) =>
 cond b41
 (r4 (v35, v36, v37, (IntKind.wrap .i64 (v38 + 1)), v39, v40, ()))
 (jn (fun (b43 : Bool) =>
 cond b43
 (j3 (v35, v36, v37, v39, ()))
 ((sub3 v39 v38 v38).bind fun l45 =>
 (sub v39 v38 (v39.length : Int)).bind fun l46 =>
 (app 64 ([v40] : List Sheet) l46).bind fun l47 =>
 neL l47
 ((app 64 l45 l47).bind fun l48 =>
 j3 (v35, v36, v37, l48, ())))) fun k44 =>
 cond (decide (v38 < (v39.length : Int)))
 ((idx v39 v38).bind fun x49 =>
 (idx v39 v38).bind fun x50 =>
 k44 (x50.page == v40.page))
 (k44 false))) fun k42 =>
 cond (decide (v38 < (v39.length : Int)))
 ((idx v39 v38).bind fun x51 =>
 (idx v39 v38).bind fun x52 =>
 k42 (decide (x52.page < v40.page)))
 (k42 false)
def ref13_Net_l2 (n : Nat) (r1 : (List Group) × Int × (List Sheet) × Unit → Option ((List Sheet))) : Nat → (List Group) × Int × Int × (List Sheet) × Unit → Option ((List Sheet)) := loopF fun r2 ⟨v5, v6, v7, v8, _⟩ =>
 cond (decide (v7 ≥ 0))
 (jn (ref13_Net_j3 n r2) fun j3 =>
 (idx v5 v6).bind fun x33 =>
 (idx x33.sheets v7).bind fun x34 =>
 ref13_Net_l4 n j3 n (v5, v6, v7, 0, v8, x34, ()))
 (r1 (v5, (IntKind.wrap .i64 (v6 - 1)), v8, ()))
def ref13_Net_l1 (n : Nat) : Nat → (List Group) × Int × (List Sheet) × Unit → Option ((List Sheet)) := loopF fun r1 ⟨v1, v2, v3, _⟩ =>
 cond (decide (v2 ≥ 0))
 ((idx v1 v2).bind fun x4 =>
 ref13_Net_l2 n r1 n (v1, v2, (IntKind.wrap .i64 ((x4.sheets.length : Int) - 1)), v3, ()))
 (some v3)
def ref13_Net (n : Nat) (p0 : List Group) : Option ((List Sheet)) :=
 ref13_Net_l1 n n (p0, (IntKind.wrap .i64 ((p0.length : Int) - 1)), ([] : List Sheet), ())
@[reducible] def ref13_Net_ct : Ct tab := ⟨42, [.one (.d (.sl (.st 7)))], [], [.one (.own 0)], [(none, .row 76 (.st 6))], ((List Sheet)), fun y => (y, ()), fun y => y.1, fun _ => rfl, fun n x => ref13_Net n x.1⟩
theorem ref13_Net_ok : OkC Tryz.prog tab ref13_Net_ct := fn_ok (W := ⟨Tryz.prog, tab, tyOf, [], addO, dpO, false⟩) ⟨tabOk, trivial, addOk⟩ (by kernel_rfl) 76 Tryz.f42 (.sq (.n) (.sq (.n) (.sq (.sq (.n) (.bk none (.lp ⟨[(0, .one (.d (.sl (.st 7)))), (3, .one (.own 0)), (4, .one (.d (.int .i64)))], [.row 76 (.st 6)], []⟩ (.sq (.n) (.sq (.bk none (.sq (.n) (.bk none (.lp ⟨[(0, .one (.d (.sl (.st 7)))), (3, .one (.own 0)), (4, .one (.d (.int .i64))), (5, .one (.d (.int .i64)))], [.row 76 (.st 6)], []⟩ (.sq (.n) (.sq (.bk (some ⟨[(0, .one (.d (.sl (.st 7)))), (3, .one (.own 0)), (4, .one (.d (.int .i64))), (5, .one (.d (.int .i64)))], [.row 76 (.st 6)], []⟩) (.sq (.n) (.sq (.n) (.sq (.bk none (.lp ⟨[(0, .one (.d (.sl (.st 7)))), (3, .one (.own 0)), (4, .one (.d (.int .i64))), (5, .one (.d (.int .i64))), (6, .one (.box 1 0)), (7, .one (.d (.int .i64)))], [.row 76 (.st 6), .bst 6], []⟩ (.n))) (.sq (.n) (.rg [3])))))) (.n))))))) (.n)))))) (.n)))) Tryz.func42 Tryz.call42 rfl (by kernel_rfl) (by kernel_rfl) (by kernel_rfl) fun n x => by kernel_rfl
def ref13_free_j2 (n : Nat) (r1 : Int × Forest × (List Int) × Unit → Option ((List Int))) : Int × Forest × (List Int) × Unit → Option ((List Int)) := fun ⟨v6, v7, v8, _⟩ =>
 r1 ((IntKind.wrap .i64 (v6 + 1)), v7, v8, ())
def ref13_free_l1 (n : Nat) : Nat → Int × Forest × (List Int) × Unit → Option ((List Int)) := loopF fun r1 ⟨v1, v2, v3, _⟩ =>
 cond (decide (v1 < 64))
 ((idx v2.pages v1).bind fun x4 =>
 jn (ref13_free_j2 n r1) fun j2 =>
 cond (x4.kind == 0)
 ((app 8 v3 ([v1] : List Int)).bind fun l9 =>
 j2 (v1, v2, l9, ()))
 (j2 (v1, v2, v3, ())))
 (some v3)
def ref13_free (n : Nat) (p0 : Forest) : Option ((List Int)) :=
 ref13_free_l1 n n (1, p0, ([] : List Int), ())
@[reducible] def ref13_free_ct : Ct tab := ⟨57, [.st 5], [], [.one (.own 0)], [(none, .row 3 (.int .i64))], ((List Int)), fun y => (y, ()), fun y => y.1, fun _ => rfl, fun n x => ref13_free n x.1⟩
theorem ref13_free_ok : OkC Tryz.prog tab ref13_free_ct := fn_ok (W := ⟨Tryz.prog, tab, tyOf, [], addO, dpO, false⟩) ⟨tabOk, trivial, addOk⟩ (by kernel_rfl) 21 Tryz.f57 (.sq (.n) (.sq (.n) (.sq (.sq (.n) (.bk none (.lp ⟨[(1, .one (.box 0 0)), (3, .one (.own 1)), (4, .one (.d (.int .i64)))], [.bst 5, .row 3 (.int .i64)], []⟩ (.sq (.n) (.sq (.bk none (.sq (.n) (.cd (some ⟨[(1, .one (.box 0 0)), (3, .one (.own 1)), (4, .one (.d (.int .i64)))], [.bst 5, .row 3 (.int .i64)], []⟩) (.n) (.n)))) (.n)))))) (.n)))) Tryz.func57 Tryz.call57 rfl (by kernel_rfl) (by kernel_rfl) (by kernel_rfl) fun n x => by kernel_rfl
def ref11_Full (n : Nat) (p0 : Content) : Option Bool :=
 jn (fun (b1 : Bool) =>
 some b1) fun k2 =>
 cond (p0.kind != 0)
 ((ref11_Size n p0).bind fun y3 =>
 k2 (y3 == 4))
 (k2 false)
@[reducible] def ref11_Full_ct : Ct tab := ⟨116, [.st 4], [], [.one (.d .bool)], [], Bool, fun y => (y, ()), fun y => y.1, fun _ => rfl, fun n x => ref11_Full n x.1⟩
theorem ref11_Full_ok : OkC Tryz.prog tab ref11_Full_ct := fn_ok (W := ⟨Tryz.prog, tab, tyOf, [ref11_Size_ct], addO, dpO, false⟩) ⟨tabOk, ⟨ref11_Size_ok, trivial⟩, addOk⟩ (by kernel_rfl) 11 Tryz.f116 (.n) Tryz.func116 Tryz.call116 rfl (by kernel_rfl) (by kernel_rfl) (by kernel_rfl) fun n x => by kernel_rfl
def ref11_Adopt_j2 (n : Nat) (r1 : Int × Int × Int × Content × Key × Content × (List Kid) × Unit → Option Content) : Int × Int × Int × Content × Key × Content × (List Kid) × Unit → Option Content := fun ⟨v11, v12, v13, v14, v15, v16, v17, _⟩ =>
 r1 (v11, v12, (IntKind.wrap .i64 (v13 + 1)), v14, v15, v16, v17, ())
def ref11_Adopt_l1 (n : Nat) : Nat → Int × Int × Int × Content × Key × Content × (List Kid) × Unit → Option Content := loopF fun r1 ⟨v1, v2, v3, v4, v5, v6, v7, _⟩ =>
 cond (decide (v3 < (v4.kids.length : Int)))
 ((idx v4.kids v3).bind fun x8 =>
 (app 24 v7 ([x8] : List Kid)).bind fun l9 =>
 jn (ref11_Adopt_j2 n r1) fun j2 =>
 cond (v3 == v1)
 ((app 24 l9 ([(Kid.mk v5 v2)] : List Kid)).bind fun l18 =>
 j2 (v1, v2, v3, v4, v5, v6, l18, ()))
 (j2 (v1, v2, v3, v4, v5, v6, l9, ())))
 ((ref11_Inner n v7).bind fun y19 =>
 some y19)
def ref11_Adopt (n : Nat) (p0 : Content) (p1 : Int) (p2 : Int) (p3 : Key) : Option Content :=
 ref11_Adopt_l1 n n (p1, p2, 0, p0, p3, (Content.mk 0 ([] : List Row) ([] : List Kid)), ([] : List Kid), ())
@[reducible] def ref11_Adopt_ct : Ct tab := ⟨120, [.st 4, .one (.d (.int .i64)), .one (.d (.int .i64)), .st 1], [], [.st 4], [], Content, fun y => (y, ()), fun y => y.1, fun _ => rfl, fun n x => ref11_Adopt n x.1 x.2.1 x.2.2.1 x.2.2.2.1⟩
theorem ref11_Adopt_ok : OkC Tryz.prog tab ref11_Adopt_ct := fn_ok (W := ⟨Tryz.prog, tab, tyOf, [ref11_Inner_ct], addO, dpO, false⟩) ⟨tabOk, ⟨ref11_Inner_ok, trivial⟩, addOk⟩ (by kernel_rfl) 37 Tryz.f120 (.sq (.n) (.sq (.n) (.sq (.sq (.n) (.bk none (.lp ⟨[(1, .one (.d (.int .i64))), (2, .one (.d (.int .i64))), (4, .one (.box 0 0)), (7, .one (.box 1 0)), (8, .one (.box 2 0)), (9, .one (.own 3)), (10, .one (.d (.int .i64)))], [.bst 4, .bst 1, .bst 4, .row 100 (.st 3)], []⟩ (.sq (.n) (.sq (.bk none (.sq (.n) (.sq (.n) (.cd (some ⟨[(1, .one (.d (.int .i64))), (2, .one (.d (.int .i64))), (4, .one (.box 0 0)), (7, .one (.box 1 0)), (8, .one (.box 2 0)), (9, .one (.own 3)), (10, .one (.d (.int .i64)))], [.bst 4, .bst 1, .bst 4, .row 100 (.st 3)], []⟩) (.n) (.n))))) (.n)))))) (.n)))) Tryz.func120 Tryz.call120 rfl (by kernel_rfl) (by kernel_rfl) (by kernel_rfl) fun n x => by kernel_rfl
def ref13_room (n : Nat) (p0 : Forest) (p1 : Int) (p2 : Key) : Option (Bool × (List Sheet)) :=
 (idx p0.pages p1).bind fun x1 =>
 (ref13_free n p0).bind fun y2 =>
 jn (fun (b3 : Bool) =>
 cond b3
 (cond (decide ((y2.length : Int) < 2))
 (some (false, ([] : List Sheet)))
 ((ref11_Cut n x1 2).bind fun y5 =>
 (idx y2 0).bind fun x6 =>
 (idx y2 0).bind fun x7 =>
 (idx y2 1).bind fun x8 =>
 (idx y2 1).bind fun x9 =>
 (ref11_Inner n ([(Kid.mk (Key.mk 0 0) x7), (Kid.mk y5.2.2 x9)] : List Kid)).bind fun y10 =>
 (idx y2 0).bind fun x11 =>
 (idx y2 0).bind fun x12 =>
 (idx y2 1).bind fun x13 =>
 (idx y2 1).bind fun x14 =>
 some (true, ([(Sheet.mk 0 y10), (Sheet.mk x12 y5.1), (Sheet.mk x14 y5.2.1)] : List Sheet))))
 (cond (x1.kind != 2)
 (some (true, ([] : List Sheet)))
 ((ref11_Kid n x1 p2).bind fun y15 =>
 (idx x1.kids y15).bind fun x16 =>
 (idx p0.pages x16.page).bind fun x17 =>
 (ref11_Full n x17).bind fun y18 =>
 cond (!y18)
 (some (true, ([] : List Sheet)))
 (cond ((y2.length : Int) == 0)
 (some (false, ([] : List Sheet)))
 ((idx p0.pages x16.page).bind fun x19 =>
 (ref11_Cut n x19 2).bind fun y20 =>
 (idx y2 0).bind fun x21 =>
 (idx y2 0).bind fun x22 =>
 (ref11_Adopt n x1 y15 x22 y20.2.2).bind fun y23 =>
 (idx y2 0).bind fun x24 =>
 (idx y2 0).bind fun x25 =>
 (ref13_sorted n ([(Sheet.mk p1 y23), (Sheet.mk x16.page y20.1), (Sheet.mk x25 y20.2.1)] : List Sheet)).bind fun y26 =>
 some (true, y26)))))) fun k4 =>
 cond (p1 == 0)
 ((ref11_Full n x1).bind fun y27 =>
 k4 y27)
 (k4 false)
@[reducible] def ref13_room_ct : Ct tab := ⟨71, [.st 5, .one (.d (.int .i64)), .st 1], [], [.one (.own 0), .one (.d .bool)], [(none, .row 76 (.st 6))], (Bool × (List Sheet)), fun y => (y.1, y.2, ()), fun y => (y.1, y.2.1), fun _ => rfl, fun n x => ref13_room n x.1 x.2.1 x.2.2.1⟩
theorem ref13_room_ok : OkC Tryz.prog tab ref13_room_ct := fn_ok (W := ⟨Tryz.prog, tab, tyOf, [ref13_free_ct, ref11_Cut_ct, ref11_Inner_ct, ref11_Kid_ct, ref11_Full_ct, ref11_Adopt_ct, ref13_sorted_ct], addO, dpO, false⟩) ⟨tabOk, ⟨ref13_free_ok, ref11_Cut_ok, ref11_Inner_ok, ref11_Kid_ok, ref11_Full_ok, ref11_Adopt_ok, ref13_sorted_ok, trivial⟩, addOk⟩ (by kernel_rfl) 116 Tryz.f71 (.n) Tryz.func71 Tryz.call71 rfl (by kernel_rfl) (by kernel_rfl) (by kernel_rfl) fun n x => by kernel_rfl
def ref05_With_j2 (n : Nat) (r1 : Bool × Int × Row × (List Row) × (List Row) × Unit → Option ((List Row))) : Bool × Int × Row × (List Row) × (List Row) × Unit → Option ((List Row)) := fun ⟨v10, v11, v12, v13, v14, _⟩ =>
 (idx v14 v11).bind fun x15 =>
 (idx v14 v11).bind fun x16 =>
 (app 40 v13 ([x16] : List Row)).bind fun l17 =>
 r1 (v10, (IntKind.wrap .i64 (v11 + 1)), v12, l17, v14, ())
def ref05_With_j3 (n : Nat) : (List Row) × Unit → Option ((List Row)) := fun ⟨v23, _⟩ =>
 some v23
def ref05_With_l1 (n : Nat) : Nat → Bool × Int × Row × (List Row) × (List Row) × Unit → Option ((List Row)) := loopF fun r1 ⟨v2, v3, v4, v5, v6, _⟩ =>
 cond (decide (v3 < (v6.length : Int)))
 (jn (fun (b7 : Bool) =>
 jn (ref05_With_j2 n r1) fun j2 =>
 cond b7
 ((app 40 v5 ([v4] : List Row)).bind fun l18 =>
 j2 (true, v3, v4, l18, v6, ()))
 (j2 (v2, v3, v4, v5, v6, ()))) fun k8 =>
 cond (!v2)
 ((idx v6 v3).bind fun x19 =>
 (idx v6 v3).bind fun x20 =>
 (ref05_Compare n v4.key x20.key).bind fun y21 =>
 k8 (decide (y21 < 0)))
 (k8 false))
 (jn (ref05_With_j3 n) fun j3 =>
 cond (!v2)
 ((app 40 v5 ([v4] : List Row)).bind fun l24 =>
 j3 (l24, ()))
 (j3 (v5, ())))
def ref05_With (n : Nat) (p0 : List Row) (p1 : Row) : Option ((List Row)) :=
 (ref05_Without n p0 p1.key).bind fun y1 =>
 ref05_With_l1 n n (false, 0, p1, ([] : List Row), y1, ())
@[reducible] def ref05_With_ct : Ct tab := ⟨43, [.one (.d (.sl (.st 2))), .st 2], [], [.one (.own 0)], [(none, .row 40 (.st 2))], ((List Row)), fun y => (y, ()), fun y => y.1, fun _ => rfl, fun n x => ref05_With n x.1 x.2.1⟩
theorem ref05_With_ok : OkC Tryz.prog tab ref05_With_ct := fn_ok (W := ⟨Tryz.prog, tab, tyOf, [ref05_Without_ct, ref05_Compare_ct], addO, dpO, false⟩) ⟨tabOk, ⟨ref05_Without_ok, ref05_Compare_ok, trivial⟩, addOk⟩ (by kernel_rfl) 50 Tryz.f43 (.sq (.n) (.sq (.n) (.sq (.n) (.sq (.n) (.sq (.sq (.n) (.bk none (.lp ⟨[(3, .one (.box 0 0)), (5, .one (.own 1)), (6, .one (.d .bool)), (7, .one (.own 2)), (8, .one (.d (.int .i64)))], [.bst 2, .row 40 (.st 2), .row 40 (.st 2)], []⟩ (.sq (.n) (.sq (.bk none (.sq (.sq (.n) (.cd (some ⟨[(3, .one (.box 0 0)), (5, .one (.own 1)), (6, .one (.d .bool)), (7, .one (.own 2)), (8, .one (.d (.int .i64)))], [.bst 2, .row 40 (.st 2), .row 40 (.st 2)], []⟩) (.n) (.n))) (.n))) (.n)))))) (.sq (.sq (.n) (.cd (some ⟨[(5, .one (.own 0))], [.row 40 (.st 2)], []⟩) (.n) (.n))) (.n))))))) Tryz.func43 Tryz.call43 rfl (by kernel_rfl) (by kernel_rfl) (by kernel_rfl) fun n x => by kernel_rfl
def ref11_Put (n : Nat) (p0 : Content) (p1 : Row) : Option (Content × Int) :=
 (ref05_Find n p0.rows p1.key).bind fun y1 =>
 jn (fun (b2 : Bool) =>
 cond b2
 (some ((Content.mk 0 ([] : List Row) ([] : List Kid)), 6))
 ((ref05_With n p0.rows p1).bind fun y4 =>
 (ref11_Leaf n y4).bind fun y5 =>
 some (y5, 0))) fun k3 =>
 cond (decide (y1 < 0))
 (k3 ((p0.rows.length : Int) == 4))
 (k3 false)
@[reducible] def ref11_Put_ct : Ct tab := ⟨73, [.st 4, .st 2], [], [.st 4, .one (.d (.int .i64))], [], (Content × Int), fun y => (y.1, y.2, ()), fun y => (y.1, y.2.1), fun _ => rfl, fun n x => ref11_Put n x.1 x.2.1⟩
theorem ref11_Put_ok : OkC Tryz.prog tab ref11_Put_ct := fn_ok (W := ⟨Tryz.prog, tab, tyOf, [ref05_Find_ct, ref05_With_ct, ref11_Leaf_ct], addO, dpO, false⟩) ⟨tabOk, ⟨ref05_Find_ok, ref05_With_ok, ref11_Leaf_ok, trivial⟩, addOk⟩ (by kernel_rfl) 24 Tryz.f73 (.n) Tryz.func73 Tryz.call73 rfl (by kernel_rfl) (by kernel_rfl) (by kernel_rfl) fun n x => by kernel_rfl
def ref13_Put_j1 (n : Nat) : Int × Forest × Row × (List Group) × Unit → Option (Int × (List Group)) := fun ⟨v81, v82, v83, v84, _⟩ =>
 (idx v82.pages v81).bind fun x85 =>
 (ref11_Put n x85 v83).bind fun y86 =>
 (app 24 v84 ([(Group.mk ([(Sheet.mk v81 y86.1)] : List Sheet))] : List Group)).bind fun l87 =>
 some (0, l87)
def ref13_Put_j3 (n : Nat) (r2 : Bool × Int × Int × Forest × Row × (List Group) × Unit → Option (Int × (List Group))) : Bool × Int × Int × Forest × Row × (List Group) × Unit → Option (Int × (List Group)) := fun ⟨v127, v128, v129, v130, v131, v132, _⟩ =>
 r2 (v127, v128, (IntKind.wrap .i64 (v129 + 1)), v130, v131, v132, ())
def ref13_Put_j4 (n : Nat) (j1 : Int × Forest × Row × (List Group) × Unit → Option (Int × (List Group))) (j3 : Bool × Int × Int × Forest × Row × (List Group) × Unit → Option (Int × (List Group))) : Bool × Int × Int × Forest × Row × (List Group) × Unit → Option (Int × (List Group)) := fun ⟨v144, v145, v146, v147, v148, v149, _⟩ =>
 (idx v147.pages v145).bind fun x150 =>
 cond (x150.kind == 1)
 (j1 (v145, v147, v148, v149, ()))
 ((idx v147.pages v145).bind fun x151 =>
 (idx v147.pages v145).bind fun x152 =>
 (ref11_Kid n x152 v148.key).bind fun y153 =>
 (idx x151.kids y153).bind fun x154 =>
 cond v144
 (j3 (v144, x154.page, v146, v147, v148, v149, ()))
 (j3 (v144, x154.page, v146, v147, v148, v149, ())))
def ref13_Put_j5 (n : Nat) (j4 : Bool × Int × Int × Forest × Row × (List Group) × Unit → Option (Int × (List Group))) : Bool × Int × Int × Forest × Row × (List Group) × Unit → Option (Int × (List Group)) := fun ⟨v158, v159, v160, v161, v162, v163, _⟩ =>
 j4 (v158, v159, v160, v161, v162, v163, ())
def ref13_Put_l2 (n : Nat) (j1 : Int × Forest × Row × (List Group) × Unit → Option (Int × (List Group))) : Nat → Bool × Int × Int × Forest × Row × (List Group) × Unit → Option (Int × (List Group)) := loopF fun r2 ⟨v88, v89, v90, v91, v92, v93, _⟩ =>
 cond (decide (v90 < 40))
 (jn (ref13_Put_j3 n r2) fun j3 =>
 jn (ref13_Put_j4 n j1 j3) fun j4 =>
 cond (!v88)
 ((ref13_room n v91 v89 v92.key).bind fun y155 =>
 cond (!y155.1)
 (some (6, ([] : List Group)))
 (jn (ref13_Put_j5 n j4) fun j5 =>
 cond (decide ((y155.2.length : Int) > 0))
 ((app 24 v93 ([(Group.mk y155.2)] : List Group)).bind fun l164 =>
 (ref13_With n v91 y155.2).bind fun y165 =>
 j5 (v88, v89, v90, y165, v92, l164, ()))
 (j5 (v88, v89, v90, v91, v92, v93, ()))))
 (j4 (v88, v89, v90, v91, v92, v93, ())))
 (j1 (v89, v91, v92, v93, ()))
def ref13_Put (n : Nat) (p0 : Forest) (p1 : Row) : Option (Int × (List Group)) :=
 (ref13_Rows n p0 0).bind fun y1 =>
 (ref05_Find n y1 p1.key).bind fun y2 =>
 jn (ref13_Put_j1 n) fun j1 =>
 ref13_Put_l2 n j1 n ((decide (y2 ≥ 0)), 0, 0, p0, p1, ([] : List Group), ())
@[reducible] def ref13_Put_ct : Ct tab := ⟨35, [.st 5, .st 2], [], [.one (.own 0), .one (.d (.int .i64))], [(none, .row 74 (.st 7))], (Int × (List Group)), fun y => (y.1, y.2, ()), fun y => (y.1, y.2.1), fun _ => rfl, fun n x => ref13_Put n x.1 x.2.1⟩
theorem ref13_Put_ok : OkC Tryz.prog tab ref13_Put_ct := fn_ok (W := ⟨Tryz.prog, tab, tyOf, [ref13_Rows_ct, ref05_Find_ct, ref11_Put_ct, ref11_Kid_ct, ref13_room_ct, ref13_With_ct], addO, dpO, false⟩) ⟨tabOk, ⟨ref13_Rows_ok, ref05_Find_ok, ref11_Put_ok, ref11_Kid_ok, ref13_room_ok, ref13_With_ok, trivial⟩, addOk⟩ (by kernel_rfl) 90 Tryz.f35 (.sq (.n) (.sq (.n) (.sq (.n) (.sq (.n) (.sq (.sq (.n) (.bk (some ⟨[(2, .one (.box 0 0)), (3, .one (.box 1 0)), (7, .one (.own 2)), (8, .one (.d (.int .i64)))], [.bst 5, .bst 2, .row 74 (.st 7)], []⟩) (.lp ⟨[(2, .one (.box 0 0)), (3, .one (.box 1 0)), (6, .one (.d .bool)), (7, .one (.own 2)), (8, .one (.d (.int .i64))), (9, .one (.d (.int .i64)))], [.bst 5, .bst 2, .row 74 (.st 7)], []⟩ (.sq (.n) (.sq (.bk (some ⟨[(2, .one (.box 0 0)), (3, .one (.box 1 0)), (6, .one (.d .bool)), (7, .one (.own 2)), (8, .one (.d (.int .i64))), (9, .one (.d (.int .i64)))], [.bst 5, .bst 2, .row 74 (.st 7)], []⟩) (.sq (.sq (.n) (.cd (some ⟨[(2, .one (.box 0 0)), (3, .one (.box 1 0)), (6, .one (.d .bool)), (7, .one (.own 2)), (8, .one (.d (.int .i64))), (9, .one (.d (.int .i64)))], [.bst 5, .bst 2, .row 74 (.st 7)], []⟩) (.sq (.n) (.sq (.n) (.sq (.n) (.cd (some ⟨[(2, .one (.box 0 0)), (3, .one (.box 1 0)), (6, .one (.d .bool)), (7, .one (.own 2)), (8, .one (.d (.int .i64))), (9, .one (.d (.int .i64)))], [.bst 5, .bst 2, .row 74 (.st 7)], []⟩) (.n) (.n))))) (.n))) (.n))) (.n)))))) (.n)))))) Tryz.func35 Tryz.call35 rfl (by kernel_rfl) (by kernel_rfl) (by kernel_rfl) fun n x => by kernel_rfl
def law13_Build_built_j1 (n : Nat) : Forest × Forest × Unit → Option Forest := fun ⟨v76, v77, _⟩ =>
 some v77
def law13_Build_built_j3 (n : Nat) (r2 : (List Int) × Int × Int × Forest × Forest × Unit → Option Forest) : (List Int) × Int × Int × Forest × Forest × Unit → Option Forest := fun ⟨v115, v116, v117, v118, v119, _⟩ =>
 r2 (v115, v116, (IntKind.wrap .i64 (v117 + 1)), v118, v119, ())
def law13_Build_built_j4 (n : Nat) (j3 : (List Int) × Int × Int × Forest × Forest × Unit → Option Forest) : (List Int) × Int × Int × Forest × Forest × Unit → Option Forest := fun ⟨v130, v131, v132, v133, v134, _⟩ =>
 j3 (v130, v131, v132, v133, v134, ())
def law13_Build_built_j5 (n : Nat) (j3 : (List Int) × Int × Int × Forest × Forest × Unit → Option Forest) : (List Int) × Int × Int × Forest × Forest × Unit → Option Forest := fun ⟨v143, v144, v145, v146, v147, _⟩ =>
 j3 (v143, v144, v145, v146, v147, ())
def law13_Build_built_l2 (n : Nat) (j1 : Forest × Forest × Unit → Option Forest) : Nat → (List Int) × Int × Int × Forest × Forest × Unit → Option Forest := loopF fun r2 ⟨v78, v79, v80, v81, v82, _⟩ =>
 cond (decide (v80 < v79))
 (jn (law13_Build_built_j3 n r2) fun j3 =>
 (idx v78 v80).bind fun x120 =>
 cond (v80 == 90)
 (j1 (v81, v82, ()))
 ((law13_row n (IntKind.wrap .u16 x120)).bind fun y121 =>
 (ref13_Rows n v82 0).bind fun y122 =>
 (ref05_Find n y122 y121.key).bind fun y123 =>
 cond (decide (x120 < 0))
 ((law13_row n (IntKind.wrap .u16 (IntKind.wrap .i64 (0 - x120)))).bind fun y124 =>
 (ref13_Rows n v82 0).bind fun y125 =>
 (ref05_Find n y125 y124.key).bind fun y126 =>
 jn (law13_Build_built_j4 n j3) fun j4 =>
 cond (decide (y126 ≥ 0))
 ((ref13_Take n v82 y124.key).bind fun y135 =>
 (ref13_Net n y135).bind fun y136 =>
 (ref13_With n v82 y136).bind fun y137 =>
 j4 (v78, v79, v80, v81, y137, ()))
 (j4 (v78, v79, v80, v81, v82, ())))
 (jn (fun (b138 : Bool) =>
 jn (law13_Build_built_j5 n j3) fun j5 =>
 cond b138
 ((ref13_Put n v82 y121).bind fun y148 =>
 (ref13_Net n y148.2).bind fun y149 =>
 (ref13_With n v82 y149).bind fun y150 =>
 j5 (v78, v79, v80, v81, y150, ()))
 (j5 (v78, v79, v80, v81, v82, ()))) fun k139 =>
 cond (decide (y123 ≥ 0))
 (k139 true)
 ((ref13_Rows n v82 0).bind fun y151 =>
 k139 (decide ((y151.length : Int) < 60))))))
 (j1 (v81, v82, ()))
def law13_Build_built (n : Nat) (p0 : law13_Build) : Option Forest :=
 (ref13_New n).bind fun y1 =>
 jn (law13_Build_built_j1 n) fun j1 =>
 law13_Build_built_l2 n j1 n (p0.ids, (p0.ids.length : Int), 0, (Forest.mk ([] : List Content)), y1, ())
@[reducible] def law13_Build_built_ct : Ct tab := ⟨12, [.st 0], [], [.st 5], [], Forest, fun y => (y, ()), fun y => y.1, fun _ => rfl, fun n x => law13_Build_built n x.1⟩
theorem law13_Build_built_ok : OkC Tryz.prog tab law13_Build_built_ct := fn_ok (W := ⟨Tryz.prog, tab, tyOf, [ref13_New_ct, law13_row_ct, ref13_Rows_ct, ref05_Find_ct, ref13_Take_ct, ref13_Net_ct, ref13_With_ct, ref13_Put_ct], addO, dpO, false⟩) ⟨tabOk, ⟨ref13_New_ok, law13_row_ok, ref13_Rows_ok, ref05_Find_ok, ref13_Take_ok, ref13_Net_ok, ref13_With_ok, ref13_Put_ok, trivial⟩, addOk⟩ (by kernel_rfl) 68 Tryz.f12 (.sq (.n) (.sq (.n) (.sq (.sq (.n) (.bk (some ⟨[(2, .one (.box 0 0)), (3, .one (.box 1 0))], [.bst 5, .bst 5], []⟩) (.lp ⟨[(2, .one (.box 0 0)), (3, .one (.box 1 0)), (12, .one (.d (.sl (.int .i64)))), (13, .one (.d (.int .i64))), (14, .one (.d (.int .i64)))], [.bst 5, .bst 5], []⟩ (.sq (.n) (.sq (.n) (.sq (.bk (some ⟨[(2, .one (.box 0 0)), (3, .one (.box 1 0)), (12, .one (.d (.sl (.int .i64)))), (13, .one (.d (.int .i64))), (14, .one (.d (.int .i64)))], [.bst 5, .bst 5], []⟩) (.sq (.n) (.sq (.n) (.sq (.n) (.sq (.n) (.sq (.sq (.n) (.cd none (.sq (.sq (.n) (.sq (.n) (.cd (some ⟨[(2, .one (.box 0 0)), (3, .one (.box 1 0)), (12, .one (.d (.sl (.int .i64)))), (13, .one (.d (.int .i64))), (14, .one (.d (.int .i64)))], [.bst 5, .bst 5], []⟩) (.n) (.n)))) (.n)) (.n))) (.sq (.n) (.cd (some ⟨[(2, .one (.box 0 0)), (3, .one (.box 1 0)), (12, .one (.d (.sl (.int .i64)))), (13, .one (.d (.int .i64))), (14, .one (.d (.int .i64)))], [.bst 5, .bst 5], []⟩) (.sq (.n) (.rg [60])) (.n))))))))) (.n))))))) (.n)))) Tryz.func12 Tryz.call12 rfl (by kernel_rfl) (by kernel_rfl) (by kernel_rfl) fun n x => by kernel_rfl
def slices_Equal_Kid_l1 (n : Nat) : Nat → (List Kid) × (List Kid) × Int × Int × Unit → Option Bool := loopF fun r1 ⟨v1, v2, v3, v4, _⟩ =>
 cond (decide (v4 < v3))
 ((idx v1 v4).bind fun x5 =>
 (idx v2 v4).bind fun x6 =>
 cond (!(Kid.eqb x5 x6))
 (some false)
 (r1 (v1, v2, v3, (IntKind.wrap .i64 (v4 + 1)), ())))
 (some true)
def slices_Equal_Kid (n : Nat) (p0 : List Kid) (p1 : List Kid) : Option Bool :=
 cond ((p0.length : Int) != (p1.length : Int))
 (some false)
 (slices_Equal_Kid_l1 n n (p0, p1, (p0.length : Int), 0, ()))
@[reducible] def slices_Equal_Kid_ct : Ct tab := ⟨82, [.one (.d (.sl (.st 3))), .one (.d (.sl (.st 3)))], [], [.one (.d .bool)], [], Bool, fun y => (y, ()), fun y => y.1, fun _ => rfl, fun n x => slices_Equal_Kid n x.1 x.2.1⟩
theorem slices_Equal_Kid_ok : OkC Tryz.prog tab slices_Equal_Kid_ct := fn_ok (W := ⟨Tryz.prog, tab, tyOf, [], addO, dpO, false⟩) ⟨tabOk, trivial, addOk⟩ (by kernel_rfl) 26 Tryz.f82 (.sq (.n) (.sq (.n) (.sq (.sq (.n) (.bk none (.lp ⟨[(0, .one (.d (.sl (.st 3)))), (1, .one (.d (.sl (.st 3)))), (12, .one (.d (.int .i64))), (13, .one (.d (.int .i64)))], [], []⟩ (.n)))) (.n)))) Tryz.func82 Tryz.call82 rfl (by kernel_rfl) (by kernel_rfl) (by kernel_rfl) fun n x => by kernel_rfl
def slices_Equal_Row_l1 (n : Nat) : Nat → (List Row) × (List Row) × Int × Int × Unit → Option Bool := loopF fun r1 ⟨v1, v2, v3, v4, _⟩ =>
 cond (decide (v4 < v3))
 ((idx v1 v4).bind fun x5 =>
 (idx v2 v4).bind fun x6 =>
 cond (!(Row.eqb x5 x6))
 (some false)
 (r1 (v1, v2, v3, (IntKind.wrap .i64 (v4 + 1)), ())))
 (some true)
def slices_Equal_Row (n : Nat) (p0 : List Row) (p1 : List Row) : Option Bool :=
 cond ((p0.length : Int) != (p1.length : Int))
 (some false)
 (slices_Equal_Row_l1 n n (p0, p1, (p0.length : Int), 0, ()))
@[reducible] def slices_Equal_Row_ct : Ct tab := ⟨81, [.one (.d (.sl (.st 2))), .one (.d (.sl (.st 2)))], [], [.one (.d .bool)], [], Bool, fun y => (y, ()), fun y => y.1, fun _ => rfl, fun n x => slices_Equal_Row n x.1 x.2.1⟩
theorem slices_Equal_Row_ok : OkC Tryz.prog tab slices_Equal_Row_ct := fn_ok (W := ⟨Tryz.prog, tab, tyOf, [], addO, dpO, false⟩) ⟨tabOk, trivial, addOk⟩ (by kernel_rfl) 26 Tryz.f81 (.sq (.n) (.sq (.n) (.sq (.sq (.n) (.bk none (.lp ⟨[(0, .one (.d (.sl (.st 2)))), (1, .one (.d (.sl (.st 2)))), (12, .one (.d (.int .i64))), (13, .one (.d (.int .i64)))], [], []⟩ (.n)))) (.n)))) Tryz.func81 Tryz.call81 rfl (by kernel_rfl) (by kernel_rfl) (by kernel_rfl) fun n x => by kernel_rfl
def codec_Same (n : Nat) (p0 : Content) (p1 : Content) : Option Bool :=
 jn (fun (b1 : Bool) =>
 jn (fun (b3 : Bool) =>
 some b3) fun k4 =>
 cond b1
 ((slices_Equal_Kid n p0.kids p1.kids).bind fun y5 =>
 k4 y5)
 (k4 false)) fun k2 =>
 cond (p0.kind == p1.kind)
 ((slices_Equal_Row n p0.rows p1.rows).bind fun y6 =>
 k2 y6)
 (k2 false)
@[reducible] def codec_Same_ct : Ct tab := ⟨49, [.st 4, .st 4], [], [.one (.d .bool)], [], Bool, fun y => (y, ()), fun y => y.1, fun _ => rfl, fun n x => codec_Same n x.1 x.2.1⟩
theorem codec_Same_ok : OkC Tryz.prog tab codec_Same_ct := fn_ok (W := ⟨Tryz.prog, tab, tyOf, [slices_Equal_Kid_ct, slices_Equal_Row_ct], addO, dpO, false⟩) ⟨tabOk, ⟨slices_Equal_Kid_ok, slices_Equal_Row_ok, trivial⟩, addOk⟩ (by kernel_rfl) 24 Tryz.f49 (.n) Tryz.func49 Tryz.call49 rfl (by kernel_rfl) (by kernel_rfl) (by kernel_rfl) fun n x => by kernel_rfl
def slices_EqualFunc_Content_f49_l1 (n : Nat) : Nat → (List Content) × (List Content) × Int × Int × Unit → Option Bool := loopF fun r1 ⟨v1, v2, v3, v4, _⟩ =>
 cond (decide (v4 < v3))
 ((idx v2 v4).bind fun x5 =>
 (idx v1 v4).bind fun x6 =>
 (codec_Same n x5 x6).bind fun y7 =>
 cond (!y7)
 (some false)
 (r1 (v1, v2, v3, (IntKind.wrap .i64 (v4 + 1)), ())))
 (some true)
def slices_EqualFunc_Content_f49 (n : Nat) (p0 : List Content) (p1 : List Content) : Option Bool :=
 cond ((p0.length : Int) != (p1.length : Int))
 (some false)
 (slices_EqualFunc_Content_f49_l1 n n (p1, p0, (p0.length : Int), 0, ()))
@[reducible] def slices_EqualFunc_Content_f49_ct : Ct tab := ⟨48, [.one (.d (.sl (.st 4))), .one (.d (.sl (.st 4))), .one (.fn 49 [])], [], [.one (.d .bool)], [], Bool, fun y => (y, ()), fun y => y.1, fun _ => rfl, fun n x => slices_EqualFunc_Content_f49 n x.1 x.2.1⟩
theorem slices_EqualFunc_Content_f49_ok : OkC Tryz.prog tab slices_EqualFunc_Content_f49_ct := fn_ok (W := ⟨Tryz.prog, tab, tyOf, [codec_Same_ct], addO, dpO, false⟩) ⟨tabOk, ⟨codec_Same_ok, trivial⟩, addOk⟩ (by kernel_rfl) 32 Tryz.f48 (.sq (.n) (.sq (.n) (.sq (.sq (.n) (.bk none (.lp ⟨[(1, .one (.d (.sl (.st 4)))), (2, .one (.fn 49 [])), (15, .one (.d (.sl (.st 4)))), (16, .one (.d (.int .i64))), (17, .one (.d (.int .i64)))], [], []⟩ (.n)))) (.n)))) Tryz.func48 Tryz.call48 rfl (by kernel_rfl) (by kernel_rfl) (by kernel_rfl) fun n x => by kernel_rfl
def tree_Same (n : Nat) (p0 : Forest) (p1 : Forest) : Option Bool :=
 (slices_EqualFunc_Content_f49 n p0.pages p1.pages).bind fun y1 =>
 some y1
@[reducible] def tree_Same_ct : Ct tab := ⟨18, [.st 5, .st 5], [], [.one (.d .bool)], [], Bool, fun y => (y, ()), fun y => y.1, fun _ => rfl, fun n x => tree_Same n x.1 x.2.1⟩
theorem tree_Same_ok : OkC Tryz.prog tab tree_Same_ct := fn_ok (W := ⟨Tryz.prog, tab, tyOf, [slices_EqualFunc_Content_f49_ct], addO, dpO, false⟩) ⟨tabOk, ⟨slices_EqualFunc_Content_f49_ok, trivial⟩, addOk⟩ (by kernel_rfl) 10 Tryz.f18 (.n) Tryz.func18 Tryz.call18 rfl (by kernel_rfl) (by kernel_rfl) (by kernel_rfl) fun n x => by kernel_rfl
def law13_TreeShape_j2 (n : Nat) (r1 : Int × (List Content) × Int × Int × Forest × Unit → Option Bool) : Int × (List Content) × Int × Int × Forest × Unit → Option Bool := fun ⟨v16, v17, v18, v19, v20, _⟩ =>
 r1 (v16, v17, v18, (IntKind.wrap .i64 (v19 + 1)), v20, ())
def law13_TreeShape_l1 (n : Nat) : Nat → Int × (List Content) × Int × Int × Forest × Unit → Option Bool := loopF fun r1 ⟨v6, v7, v8, v9, v10, _⟩ =>
 cond (decide (v9 < v8))
 ((idx v7 v9).bind fun x11 =>
 jn (fun (b12 : Bool) =>
 jn (fun (b14 : Bool) =>
 cond b14
 (some false)
 (jn (law13_TreeShape_j2 n r1) fun j2 =>
 cond (x11.kind == 1)
 (j2 ((IntKind.wrap .i64 (v6 + 1)), v7, v8, v9, v10, ()))
 (j2 (v6, v7, v8, v9, v10, ())))) fun k15 =>
 cond b12
 ((page_Size n x11).bind fun y21 =>
 k15 (decide (y21 < 2)))
 (k15 false)) fun k13 =>
 cond (x11.kind != 0)
 (k13 (v9 != 0))
 (k13 false))
 ((tree_Depth n v10).bind fun y22 =>
 (shlP .i64 1 (IntKind.wrap .i64 (2 * (IntKind.wrap .i64 (y22 - 1))))).bind fun z23 =>
 jn (fun (b24 : Bool) =>
 some b24) fun k25 =>
 cond (decide (v6 ≤ z23))
 ((tree_Depth n v10).bind fun y26 =>
 (shlP .i64 1 (IntKind.wrap .i64 (y26 - 1))).bind fun z27 =>
 k25 (decide (v6 ≥ z27)))
 (k25 false))
def law13_TreeShape (n : Nat) (p0 : law13_Build) : Option Bool :=
 (law13_wakes n).bind fun y1 =>
 cond (!y1)
 (some false)
 ((law13_Build_built n p0).bind fun y2 =>
 (tree_Check n y2).bind fun y3 =>
 jn (fun (b4 : Bool) =>
 cond b4
 (some false)
 (law13_TreeShape_l1 n n (0, y2.pages, (y2.pages.length : Int), 0, y2, ()))) fun k5 =>
 cond (y3 != 0)
 (k5 true)
 ((ref13_With n y2 ([] : List Sheet)).bind fun y28 =>
 (tree_Same n y2 y28).bind fun y29 =>
 k5 (!y29)))
@[reducible] def law13_TreeShape_ct : Ct tab := ⟨4, [.st 0], [], [.one (.d .bool)], [], Bool, fun y => (y, ()), fun y => y.1, fun _ => rfl, fun n x => law13_TreeShape n x.1⟩
theorem law13_TreeShape_ok : OkC Tryz.prog tab law13_TreeShape_ct := fn_ok (W := ⟨Tryz.prog, tab, tyOf, [law13_wakes_ct, law13_Build_built_ct, tree_Check_ct, page_Size_ct, tree_Depth_ct, ref13_With_ct, tree_Same_ct], addO, dpO, false⟩) ⟨tabOk, ⟨law13_wakes_ok, law13_Build_built_ok, tree_Check_ok, page_Size_ok, tree_Depth_ok, ref13_With_ok, tree_Same_ok, trivial⟩, addOk⟩ (by kernel_rfl) 62 Tryz.f4 (.sq (.n) (.sq (.n) (.sq (.n) (.sq (.n) (.sq (.n) (.sq (.sq (.n) (.bk none (.lp ⟨[(3, .one (.box 0 0)), (4, .one (.d (.int .i64))), (22, .one (.d (.sl (.st 4)))), (23, .one (.d (.int .i64))), (24, .one (.d (.int .i64)))], [.bst 5], []⟩ (.sq (.n) (.sq (.n) (.sq (.bk none (.sq (.n) (.sq (.n) (.sq (.n) (.cd (some ⟨[(3, .one (.box 0 0)), (4, .one (.d (.int .i64))), (22, .one (.d (.sl (.st 4)))), (23, .one (.d (.int .i64))), (24, .one (.d (.int .i64)))], [.bst 5], []⟩) (.n) (.n)))))) (.n))))))) (.n))))))) Tryz.func4 Tryz.call4 rfl (by kernel_rfl) (by kernel_rfl) (by kernel_rfl) fun n x => by kernel_rfl
end
end Go.Proofs.YtlcmdgpjiendmaaGreat
