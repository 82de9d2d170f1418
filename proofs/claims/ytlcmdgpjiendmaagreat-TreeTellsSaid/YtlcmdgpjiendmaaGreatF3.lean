import Derived.Test.YtlcmdgpjiendmaaGreatTypes
import Derived.Test.YtlcmdgpjiendmaaGreatF2
namespace Go.Proofs.YtlcmdgpjiendmaaGreat
open Go Go.Bur Go.RowKit
set_option linter.unusedVariables false
set_option linter.unusedSimpArgs false
set_option maxRecDepth 100000
noncomputable section
def ref13_free_j2 (n : Nat) (r1 : Int × Forest × (List Int) × Unit → Option ((List Int))) : Int × Forest × (List Int) × Unit → Option ((List Int)) := fun ⟨v6, v7, v8, _⟩ =>
 r1 ((IntKind.wrap .i64 (v6 + 1)), v7, v8, ())
def ref13_free_l1 (n : Nat) : Nat → Int × Forest × (List Int) × Unit → Option ((List Int)) := loopF fun r1 ⟨v1, v2, v3, _⟩ =>
 cond (decide (v1 < 64))
 ((idx v2.pages v1).bind fun x4 =>
 jn (ref13_free_j2 n r1) fun j2 =>
 cond (x4.kind == 0)
 ((app 8 v3 ([v1] : List Int)).bind fun l9 =>
 j2 (v1, v2, l9, ()))
 (j2 (v1, v2, v3, ())))
 (some v3)
def ref13_free (n : Nat) (p0 : Forest) : Option ((List Int)) :=
 ref13_free_l1 n n (1, p0, ([] : List Int), ())
@[reducible] def ref13_free_ct : Ct tab := ⟨57, [.st 5], [], [.one (.own 0)], [(none, .row 3 (.int .i64))], ((List Int)), fun y => (y, ()), fun y => y.1, fun _ => rfl, fun n x => ref13_free n x.1⟩
theorem ref13_free_ok : OkC Tryz.prog tab ref13_free_ct := fn_ok (W := ⟨Tryz.prog, tab, tyOf, [], addO, dpO, false⟩) ⟨tabOk, trivial, addOk⟩ (by kernel_rfl) 21 Tryz.f57 (.sq (.n) (.sq (.n) (.sq (.sq (.n) (.bk none (.lp ⟨[(1, .one (.box 0 0)), (3, .one (.own 1)), (4, .one (.d (.int .i64)))], [.bst 5, .row 3 (.int .i64)], []⟩ (.sq (.n) (.sq (.bk none (.sq (.n) (.cd (some ⟨[(1, .one (.box 0 0)), (3, .one (.own 1)), (4, .one (.d (.int .i64)))], [.bst 5, .row 3 (.int .i64)], []⟩) (.n) (.n)))) (.n)))))) (.n)))) Tryz.func57 Tryz.call57 rfl (by kernel_rfl) (by kernel_rfl) (by kernel_rfl) fun n x => by kernel_rfl
def slices_Equal_Kid_l1 (n : Nat) : Nat → (List Kid) × (List Kid) × Int × Int × Unit → Option Bool := loopF fun r1 ⟨v1, v2, v3, v4, _⟩ =>
 cond (decide (v4 < v3))
 ((idx v1 v4).bind fun x5 =>
 (idx v2 v4).bind fun x6 =>
 cond (!(Kid.eqb x5 x6))
 (some false)
 (r1 (v1, v2, v3, (IntKind.wrap .i64 (v4 + 1)), ())))
 (some true)
def slices_Equal_Kid (n : Nat) (p0 : List Kid) (p1 : List Kid) : Option Bool :=
 cond ((p0.length : Int) != (p1.length : Int))
 (some false)
 (slices_Equal_Kid_l1 n n (p0, p1, (p0.length : Int), 0, ()))
@[reducible] def slices_Equal_Kid_ct : Ct tab := ⟨82, [.one (.d (.sl (.st 3))), .one (.d (.sl (.st 3)))], [], [.one (.d .bool)], [], Bool, fun y => (y, ()), fun y => y.1, fun _ => rfl, fun n x => slices_Equal_Kid n x.1 x.2.1⟩
theorem slices_Equal_Kid_ok : OkC Tryz.prog tab slices_Equal_Kid_ct := fn_ok (W := ⟨Tryz.prog, tab, tyOf, [], addO, dpO, false⟩) ⟨tabOk, trivial, addOk⟩ (by kernel_rfl) 26 Tryz.f82 (.sq (.n) (.sq (.n) (.sq (.sq (.n) (.bk none (.lp ⟨[(0, .one (.d (.sl (.st 3)))), (1, .one (.d (.sl (.st 3)))), (12, .one (.d (.int .i64))), (13, .one (.d (.int .i64)))], [], []⟩ (.n)))) (.n)))) Tryz.func82 Tryz.call82 rfl (by kernel_rfl) (by kernel_rfl) (by kernel_rfl) fun n x => by kernel_rfl
def slices_Equal_Row_l1 (n : Nat) : Nat → (List Row) × (List Row) × Int × Int × Unit → Option Bool := loopF fun r1 ⟨v1, v2, v3, v4, _⟩ =>
 cond (decide (v4 < v3))
 ((idx v1 v4).bind fun x5 =>
 (idx v2 v4).bind fun x6 =>
 cond (!(Row.eqb x5 x6))
 (some false)
 (r1 (v1, v2, v3, (IntKind.wrap .i64 (v4 + 1)), ())))
 (some true)
def slices_Equal_Row (n : Nat) (p0 : List Row) (p1 : List Row) : Option Bool :=
 cond ((p0.length : Int) != (p1.length : Int))
 (some false)
 (slices_Equal_Row_l1 n n (p0, p1, (p0.length : Int), 0, ()))
@[reducible] def slices_Equal_Row_ct : Ct tab := ⟨81, [.one (.d (.sl (.st 2))), .one (.d (.sl (.st 2)))], [], [.one (.d .bool)], [], Bool, fun y => (y, ()), fun y => y.1, fun _ => rfl, fun n x => slices_Equal_Row n x.1 x.2.1⟩
theorem slices_Equal_Row_ok : OkC Tryz.prog tab slices_Equal_Row_ct := fn_ok (W := ⟨Tryz.prog, tab, tyOf, [], addO, dpO, false⟩) ⟨tabOk, trivial, addOk⟩ (by kernel_rfl) 26 Tryz.f81 (.sq (.n) (.sq (.n) (.sq (.sq (.n) (.bk none (.lp ⟨[(0, .one (.d (.sl (.st 2)))), (1, .one (.d (.sl (.st 2)))), (12, .one (.d (.int .i64))), (13, .one (.d (.int .i64)))], [], []⟩ (.n)))) (.n)))) Tryz.func81 Tryz.call81 rfl (by kernel_rfl) (by kernel_rfl) (by kernel_rfl) fun n x => by kernel_rfl
def codec_Same (n : Nat) (p0 : Content) (p1 : Content) : Option Bool :=
 jn (fun (b1 : Bool) =>
 jn (fun (b3 : Bool) =>
 some b3) fun k4 =>
 cond b1
 ((slices_Equal_Kid n p0.kids p1.kids).bind fun y5 =>
 k4 y5)
 (k4 false)) fun k2 =>
 cond (p0.kind == p1.kind)
 ((slices_Equal_Row n p0.rows p1.rows).bind fun y6 =>
 k2 y6)
 (k2 false)
@[reducible] def codec_Same_ct : Ct tab := ⟨49, [.st 4, .st 4], [], [.one (.d .bool)], [], Bool, fun y => (y, ()), fun y => y.1, fun _ => rfl, fun n x => codec_Same n x.1 x.2.1⟩
theorem codec_Same_ok : OkC Tryz.prog tab codec_Same_ct := fn_ok (W := ⟨Tryz.prog, tab, tyOf, [slices_Equal_Kid_ct, slices_Equal_Row_ct], addO, dpO, false⟩) ⟨tabOk, ⟨slices_Equal_Kid_ok, slices_Equal_Row_ok, trivial⟩, addOk⟩ (by kernel_rfl) 24 Tryz.f49 (.n) Tryz.func49 Tryz.call49 rfl (by kernel_rfl) (by kernel_rfl) (by kernel_rfl) fun n x => by kernel_rfl
def slices_EqualFunc_Content_f49_l1 (n : Nat) : Nat → (List Content) × (List Content) × Int × Int × Unit → Option Bool := loopF fun r1 ⟨v1, v2, v3, v4, _⟩ =>
 cond (decide (v4 < v3))
 ((idx v2 v4).bind fun x5 =>
 (idx v1 v4).bind fun x6 =>
 (codec_Same n x5 x6).bind fun y7 =>
 cond (!y7)
 (some false)
 (r1 (v1, v2, v3, (IntKind.wrap .i64 (v4 + 1)), ())))
 (some true)
def slices_EqualFunc_Content_f49 (n : Nat) (p0 : List Content) (p1 : List Content) : Option Bool :=
 cond ((p0.length : Int) != (p1.length : Int))
 (some false)
 (slices_EqualFunc_Content_f49_l1 n n (p1, p0, (p0.length : Int), 0, ()))
@[reducible] def slices_EqualFunc_Content_f49_ct : Ct tab := ⟨48, [.one (.d (.sl (.st 4))), .one (.d (.sl (.st 4))), .one (.fn 49 [])], [], [.one (.d .bool)], [], Bool, fun y => (y, ()), fun y => y.1, fun _ => rfl, fun n x => slices_EqualFunc_Content_f49 n x.1 x.2.1⟩
theorem slices_EqualFunc_Content_f49_ok : OkC Tryz.prog tab slices_EqualFunc_Content_f49_ct := fn_ok (W := ⟨Tryz.prog, tab, tyOf, [codec_Same_ct], addO, dpO, false⟩) ⟨tabOk, ⟨codec_Same_ok, trivial⟩, addOk⟩ (by kernel_rfl) 32 Tryz.f48 (.sq (.n) (.sq (.n) (.sq (.sq (.n) (.bk none (.lp ⟨[(1, .one (.d (.sl (.st 4)))), (2, .one (.fn 49 [])), (15, .one (.d (.sl (.st 4)))), (16, .one (.d (.int .i64))), (17, .one (.d (.int .i64)))], [], []⟩ (.n)))) (.n)))) Tryz.func48 Tryz.call48 rfl (by kernel_rfl) (by kernel_rfl) (by kernel_rfl) fun n x => by kernel_rfl
def tree_Same (n : Nat) (p0 : Forest) (p1 : Forest) : Option Bool :=
 (slices_EqualFunc_Content_f49 n p0.pages p1.pages).bind fun y1 =>
 some y1
@[reducible] def tree_Same_ct : Ct tab := ⟨18, [.st 5, .st 5], [], [.one (.d .bool)], [], Bool, fun y => (y, ()), fun y => y.1, fun _ => rfl, fun n x => tree_Same n x.1 x.2.1⟩
theorem tree_Same_ok : OkC Tryz.prog tab tree_Same_ct := fn_ok (W := ⟨Tryz.prog, tab, tyOf, [slices_EqualFunc_Content_f49_ct], addO, dpO, false⟩) ⟨tabOk, ⟨slices_EqualFunc_Content_f49_ok, trivial⟩, addOk⟩ (by kernel_rfl) 10 Tryz.f18 (.n) Tryz.func18 Tryz.call18 rfl (by kernel_rfl) (by kernel_rfl) (by kernel_rfl) fun n x => by kernel_rfl
def law13_over_l2 (n : Nat) (r1 : (List Content) × Int × Int × Unit → Option Bool) : Nat → (List Content) × Int × Int × (List Row) × Int × Int × Unit → Option Bool := loopF fun r2 ⟨v7, v8, v9, v10, v11, v12, _⟩ =>
 cond (decide (v12 < v11))
 ((idx v10 v12).bind fun x13 =>
 cond (decide ((x13.note.size : Int) > 100))
 (some true)
 (r2 (v7, v8, v9, v10, v11, (IntKind.wrap .i64 (v12 + 1)), ())))
 (r1 (v7, v8, (IntKind.wrap .i64 (v9 + 1)), ()))
def law13_over_l1 (n : Nat) : Nat → (List Content) × Int × Int × Unit → Option Bool := loopF fun r1 ⟨v1, v2, v3, _⟩ =>
 cond (decide (v3 < v2))
 ((idx v1 v3).bind fun x4 =>
 jn (fun (b5 : Bool) =>
 cond b5
 (some true)
 (law13_over_l2 n r1 n (v1, v2, v3, x4.rows, (x4.rows.length : Int), 0, ()))) fun k6 =>
 cond (decide ((x4.rows.length : Int) > 10))
 (k6 true)
 (k6 (decide ((x4.kids.length : Int) > 10))))
 (some false)
def law13_over (n : Nat) (p0 : Forest) : Option Bool :=
 cond (decide ((p0.pages.length : Int) > 70))
 (some true)
 (law13_over_l1 n n (p0.pages, (p0.pages.length : Int), 0, ()))
@[reducible] def law13_over_ct : Ct tab := ⟨21, [.st 5], [], [.one (.d .bool)], [], Bool, fun y => (y, ()), fun y => y.1, fun _ => rfl, fun n x => law13_over n x.1⟩
theorem law13_over_ok : OkC Tryz.prog tab law13_over_ct := fn_ok (W := ⟨Tryz.prog, tab, tyOf, [], addO, dpO, false⟩) ⟨tabOk, trivial, addOk⟩ (by kernel_rfl) 41 Tryz.f21 (.sq (.n) (.sq (.n) (.sq (.sq (.n) (.bk none (.lp ⟨[(12, .one (.d (.sl (.st 4)))), (13, .one (.d (.int .i64))), (14, .one (.d (.int .i64)))], [], []⟩ (.sq (.n) (.sq (.n) (.sq (.bk none (.sq (.n) (.sq (.n) (.sq (.n) (.bk none (.lp ⟨[(12, .one (.d (.sl (.st 4)))), (13, .one (.d (.int .i64))), (14, .one (.d (.int .i64))), (29, .one (.d (.sl (.st 2)))), (30, .one (.d (.int .i64))), (31, .one (.d (.int .i64)))], [], []⟩ (.n))))))) (.n))))))) (.n)))) Tryz.func21 Tryz.call21 rfl (by kernel_rfl) (by kernel_rfl) (by kernel_rfl) fun n x => by kernel_rfl
def tree_Get (n : Nat) (p0 : Forest) (p1 : Key) : Option (Row × Int) :=
 (tree_Check n p0).bind fun y1 =>
 cond (y1 != 0)
 (some ((Row.mk (Key.mk 0 0) 0 ByteArray.empty), y1))
 ((tree_get n p0 p1).bind fun y2 =>
 some (y2.1, y2.2))
@[reducible] def tree_Get_ct : Ct tab := ⟨22, [.st 5, .st 1], [], [.st 2, .one (.d (.int .i64))], [], (Row × Int), fun y => (y.1, y.2, ()), fun y => (y.1, y.2.1), fun _ => rfl, fun n x => tree_Get n x.1 x.2.1⟩
theorem tree_Get_ok : OkC Tryz.prog tab tree_Get_ct := fn_ok (W := ⟨Tryz.prog, tab, tyOf, [tree_Check_ct, tree_get_ct], addO, dpO, false⟩) ⟨tabOk, ⟨tree_Check_ok, tree_get_ok, trivial⟩, addOk⟩ (by kernel_rfl) 18 Tryz.f22 (.n) Tryz.func22 Tryz.call22 rfl (by kernel_rfl) (by kernel_rfl) (by kernel_rfl) fun n x => by kernel_rfl
def ref06_Same_l2 (n : Nat) : Nat → Int × Int × Content × Content × Unit → Option Bool := loopF fun r2 ⟨v11, v12, v13, v14, _⟩ =>
 cond (decide (v12 < v11))
 ((idx v13.kids v12).bind fun x15 =>
 (idx v14.kids v12).bind fun x16 =>
 cond (!(Kid.eqb x15 x16))
 (some false)
 (r2 (v11, (IntKind.wrap .i64 (v12 + 1)), v13, v14, ())))
 (some true)
def ref06_Same_l1 (n : Nat) : Nat → Int × Int × Content × Content × Unit → Option Bool := loopF fun r1 ⟨v5, v6, v7, v8, _⟩ =>
 cond (decide (v6 < v5))
 ((idx v7.rows v6).bind fun x9 =>
 (idx v8.rows v6).bind fun x10 =>
 cond (!(Row.eqb x9 x10))
 (some false)
 (r1 (v5, (IntKind.wrap .i64 (v6 + 1)), v7, v8, ())))
 (ref06_Same_l2 n n ((v7.kids.length : Int), 0, v7, v8, ()))
def ref06_Same (n : Nat) (p0 : Content) (p1 : Content) : Option Bool :=
 jn (fun (b1 : Bool) =>
 jn (fun (b3 : Bool) =>
 cond b3
 (some false)
 (ref06_Same_l1 n n ((p0.rows.length : Int), 0, p0, p1, ()))) fun k4 =>
 cond b1
 (k4 true)
 (k4 ((p0.kids.length : Int) != (p1.kids.length : Int)))) fun k2 =>
 cond (p0.kind != p1.kind)
 (k2 true)
 (k2 ((p0.rows.length : Int) != (p1.rows.length : Int)))
@[reducible] def ref06_Same_ct : Ct tab := ⟨53, [.st 4, .st 4], [], [.one (.d .bool)], [], Bool, fun y => (y, ()), fun y => y.1, fun _ => rfl, fun n x => ref06_Same n x.1 x.2.1⟩
theorem ref06_Same_ok : OkC Tryz.prog tab ref06_Same_ct := fn_ok (W := ⟨Tryz.prog, tab, tyOf, [], addO, dpO, false⟩) ⟨tabOk, trivial, addOk⟩ (by kernel_rfl) 66 Tryz.f53 (.sq (.n) (.sq (.n) (.sq (.sq (.n) (.bk none (.lp ⟨[(2, .one (.box 0 0)), (3, .one (.box 1 0)), (32, .one (.d (.int .i64))), (33, .one (.d (.int .i64)))], [.bst 4, .bst 4], []⟩ (.n)))) (.sq (.sq (.n) (.bk none (.lp ⟨[(2, .one (.box 0 0)), (3, .one (.box 1 0)), (50, .one (.d (.int .i64))), (51, .one (.d (.int .i64)))], [.bst 4, .bst 4], []⟩ (.n)))) (.n))))) Tryz.func53 Tryz.call53 rfl (by kernel_rfl) (by kernel_rfl) (by kernel_rfl) fun n x => by kernel_rfl
def ref13_Same_l1 (n : Nat) : Nat → Int × Forest × Forest × Unit → Option Bool := loopF fun r1 ⟨v1, v2, v3, _⟩ =>
 cond (decide (v1 < (v2.pages.length : Int)))
 ((idx v2.pages v1).bind fun x4 =>
 (idx v3.pages v1).bind fun x5 =>
 (ref06_Same n x4 x5).bind fun y6 =>
 cond (!y6)
 (some false)
 (r1 ((IntKind.wrap .i64 (v1 + 1)), v2, v3, ())))
 (some true)
def ref13_Same (n : Nat) (p0 : Forest) (p1 : Forest) : Option Bool :=
 cond ((p0.pages.length : Int) != (p1.pages.length : Int))
 (some false)
 (ref13_Same_l1 n n (0, p0, p1, ()))
@[reducible] def ref13_Same_ct : Ct tab := ⟨23, [.st 5, .st 5], [], [.one (.d .bool)], [], Bool, fun y => (y, ()), fun y => y.1, fun _ => rfl, fun n x => ref13_Same n x.1 x.2.1⟩
theorem ref13_Same_ok : OkC Tryz.prog tab ref13_Same_ct := fn_ok (W := ⟨Tryz.prog, tab, tyOf, [ref06_Same_ct], addO, dpO, false⟩) ⟨tabOk, ⟨ref06_Same_ok, trivial⟩, addOk⟩ (by kernel_rfl) 32 Tryz.f23 (.sq (.n) (.sq (.n) (.sq (.sq (.n) (.bk none (.lp ⟨[(2, .one (.box 0 0)), (3, .one (.box 1 0)), (5, .one (.d (.int .i64)))], [.bst 5, .bst 5], []⟩ (.n)))) (.n)))) Tryz.func23 Tryz.call23 rfl (by kernel_rfl) (by kernel_rfl) (by kernel_rfl) fun n x => by kernel_rfl
def ref13_holds (n : Nat) (p0 : ref13_Bound) (p1 : Key) : Option Bool :=
 (ref05_Compare n p1 p0.least).bind fun y1 =>
 jn (fun (b2 : Bool) =>
 some b2) fun k3 =>
 cond (decide (y1 ≥ 0))
 (jn (fun (b4 : Bool) =>
 k3 b4) fun k5 =>
 cond (!p0.ends)
 (k5 true)
 ((ref05_Compare n p1 p0.next).bind fun y6 =>
 k5 (decide (y6 < 0))))
 (k3 false)
@[reducible] def ref13_holds_ct : Ct tab := ⟨89, [.st 9, .st 1], [], [.one (.d .bool)], [], Bool, fun y => (y, ()), fun y => y.1, fun _ => rfl, fun n x => ref13_holds n x.1 x.2.1⟩
theorem ref13_holds_ok : OkC Tryz.prog tab ref13_holds_ct := fn_ok (W := ⟨Tryz.prog, tab, tyOf, [ref05_Compare_ct], addO, dpO, false⟩) ⟨tabOk, ⟨ref05_Compare_ok, trivial⟩, addOk⟩ (by kernel_rfl) 22 Tryz.f89 (.n) Tryz.func89 Tryz.call89 rfl (by kernel_rfl) (by kernel_rfl) (by kernel_rfl) fun n x => by kernel_rfl
def ref13_below_j2 (n : Nat) : ref13_Bound × ref13_Bound × Unit → Option ref13_Bound := fun ⟨v7, v8, _⟩ =>
 some v7
def ref13_below_j1 (n : Nat) : Int × ref13_Bound × Content × ref13_Bound × Unit → Option ref13_Bound := fun ⟨v2, v3, v4, v5, _⟩ =>
 jn (ref13_below_j2 n) fun j2 =>
 cond (decide ((IntKind.wrap .i64 (v2 + 1)) < (v4.kids.length : Int)))
 ((idx v4.kids (IntKind.wrap .i64 (v2 + 1))).bind fun x9 =>
 j2 ((ref13_Bound.mk v3.least x9.least true), v5, ()))
 (j2 (v3, v5, ()))
def ref13_below (n : Nat) (p0 : ref13_Bound) (p1 : Content) (p2 : Int) : Option ref13_Bound :=
 jn (ref13_below_j1 n) fun j1 =>
 cond (decide (p2 > 0))
 ((idx p1.kids p2).bind fun x10 =>
 j1 (p2, (ref13_Bound.mk x10.least p0.next p0.ends), p1, (ref13_Bound.mk (Key.mk 0 0) (Key.mk 0 0) false), ()))
 (j1 (p2, p0, p1, (ref13_Bound.mk (Key.mk 0 0) (Key.mk 0 0) false), ()))
@[reducible] def ref13_below_ct : Ct tab := ⟨90, [.st 9, .st 4, .one (.d (.int .i64))], [], [.st 9], [], ref13_Bound, fun y => (y, ()), fun y => y.1, fun _ => rfl, fun n x => ref13_below n x.1 x.2.1 x.2.2.1⟩
theorem ref13_below_ok : OkC Tryz.prog tab ref13_below_ct := fn_ok (W := ⟨Tryz.prog, tab, tyOf, [], addO, dpO, false⟩) ⟨tabOk, trivial, addOk⟩ (by kernel_rfl) 32 Tryz.f90 (.sq (.n) (.sq (.sq (.n) (.cd (some ⟨[(2, .one (.d (.int .i64))), (3, .one (.box 0 0)), (4, .one (.box 1 0)), (6, .one (.box 2 0))], [.bst 9, .bst 4, .bst 9], []⟩) (.n) (.n))) (.sq (.sq (.n) (.cd (some ⟨[(3, .one (.box 0 0)), (6, .one (.box 1 0))], [.bst 9, .bst 9], []⟩) (.n) (.n))) (.n)))) Tryz.func90 Tryz.call90 rfl (by kernel_rfl) (by kernel_rfl) (by kernel_rfl) fun n x => by kernel_rfl
def ref13_Pages_l2 (n : Nat) (self : Forest × Int × ref13_Bound × Int × Unit → Option ((List Int))) : Nat → Int × Int × Forest × ref13_Bound × Content × (List Int) × Unit → Option ((List Int)) := loopF fun r2 ⟨v14, v15, v16, v17, v18, v19, _⟩ =>
 cond (decide (v15 < (v18.kids.length : Int)))
 (jn (fun (b20 : Bool) =>
 cond b20
 (some ([] : List Int))
 ((idx v18.kids v15).bind fun x22 =>
 (ref13_below n v17 v18 v15).bind fun y23 =>
 (self (v16, x22.page, y23, (IntKind.wrap .i64 (v14 - 1)), ())).bind fun y24 =>
 cond ((y24.length : Int) == 0)
 (some ([] : List Int))
 ((app 8 v19 y24).bind fun l25 =>
 r2 (v14, (IntKind.wrap .i64 (v15 + 1)), v16, v17, v18, l25, ())))) fun k21 =>
 cond (decide (v15 > 0))
 ((idx v18.kids v15).bind fun x26 =>
 (ref13_holds n v17 x26.least).bind fun y27 =>
 k21 (!y27))
 (k21 false))
 (some v19)
def ref13_Pages_l1 (n : Nat) (self : Forest × Int × ref13_Bound × Int × Unit → Option ((List Int))) : Nat → Int × Int × Forest × ref13_Bound × Content × (List Int) × Unit → Option ((List Int)) := loopF fun r1 ⟨v6, v7, v8, v9, v10, v11, _⟩ =>
 cond (decide (v7 < (v10.rows.length : Int)))
 ((idx v10.rows v7).bind fun x12 =>
 (ref13_holds n v9 x12.key).bind fun y13 =>
 cond (!y13)
 (some ([] : List Int))
 (r1 (v6, (IntKind.wrap .i64 (v7 + 1)), v8, v9, v10, v11, ())))
 (ref13_Pages_l2 n self n (v6, 0, v8, v9, v10, v11, ()))
def ref13_Pages_b (n : Nat) (self : Forest × Int × ref13_Bound × Int × Unit → Option ((List Int))) (p0 : Forest) (p1 : Int) (p2 : ref13_Bound) (p3 : Int) : Option ((List Int)) :=
 (idx p0.pages p1).bind fun x1 =>
 jn (fun (b2 : Bool) =>
 jn (fun (b4 : Bool) =>
 cond b4
 (some ([] : List Int))
 (ref13_Pages_l1 n self n (p3, 0, p0, p2, x1, ([p1] : List Int), ()))) fun k5 =>
 cond b2
 (k5 true)
 (jn (fun (b28 : Bool) =>
 k5 b28) fun k29 =>
 cond (p1 != 0)
 ((ref11_Size n x1).bind fun y30 =>
 k29 (decide (y30 < 2)))
 (k29 false))) fun k3 =>
 cond (x1.kind == 0)
 (k3 true)
 (k3 (p3 == 0))
def ref13_Pages (n : Nat) (p0 : Forest) (p1 : Int) (p2 : ref13_Bound) (p3 : Int) : Option ((List Int)) := recF (fun n self x => ref13_Pages_b n self x.1 x.2.1 x.2.2.1 x.2.2.2.1) n (p0, p1, p2, p3, ())
@[reducible] def ref13_Pages_ct : Ct tab := ⟨56, [.st 5, .one (.d (.int .i64)), .st 9, .one (.d (.int .i64))], [], [.one (.own 0)], [(none, .row 3 (.int .i64))], ((List Int)), fun y => (y, ()), fun y => y.1, fun _ => rfl, fun n x => ref13_Pages n x.1 x.2.1 x.2.2.1 x.2.2.2.1⟩
theorem ref13_Pages_ok : OkC Tryz.prog tab ref13_Pages_ct := fn_rec (W := ⟨Tryz.prog, tab, tyOf, [ref13_holds_ct, ref13_below_ct, ref11_Size_ct], addO, dpO, false⟩) ⟨tabOk, ⟨ref13_holds_ok, ref13_below_ok, ref11_Size_ok, trivial⟩, addOk⟩ (by kernel_rfl) 94 Tryz.f56 (.sq (.n) (.sq (.n) (.sq (.n) (.sq (.n) (.sq (.sq (.n) (.bk none (.lp ⟨[(3, .one (.d (.int .i64))), (4, .one (.box 0 0)), (6, .one (.box 1 0)), (9, .one (.box 2 0)), (10, .one (.own 3)), (11, .one (.d (.int .i64)))], [.bst 5, .bst 9, .bst 4, .row 3 (.int .i64)], []⟩ (.n)))) (.sq (.sq (.n) (.bk none (.lp ⟨[(3, .one (.d (.int .i64))), (4, .one (.box 0 0)), (6, .one (.box 1 0)), (9, .one (.box 2 0)), (10, .one (.own 3)), (12, .one (.d (.int .i64)))], [.bst 5, .bst 9, .bst 4, .row 3 (.int .i64)], []⟩ (.n)))) (.n))))))) Tryz.func56 Tryz.call56 rfl (by kernel_rfl) (by kernel_rfl) (by kernel_rfl) (fun n self x => ref13_Pages_b n self x.1 x.2.1 x.2.2.1 x.2.2.2.1) (fun _ => rfl) (fun _ _ => rfl) fun self n x => by kernel_rfl
end
end Go.Proofs.YtlcmdgpjiendmaaGreat
