import Derived.Test.YtndehfninoimgaaGreatTypes
import Derived.Test.YtndehfninoimgaaGreatF1
namespace Go.Proofs.YtndehfninoimgaaGreat
open Go Go.Bur Go.RowKit
set_option linter.unusedVariables false
set_option linter.unusedSimpArgs false
set_option maxRecDepth 100000
noncomputable section
def locks_stands_j1 (n : Nat) : Int × Int × Bool × Int × Wait × (List Hold) × (List Wait) × Unit → Option (Int × Bool × Int × (List Hold) × (List Wait)) := fun ⟨v10, v11, v12, v13, v14, v15, v16, _⟩ =>
 (slices_Insert_Wait n v10 v16 ([v14] : List Wait)).bind fun y17 =>
 some (v11, v12, v13, v15, y17)
def locks_stands_j2 (n : Nat) (j1 : Int × Int × Bool × Int × Wait × (List Hold) × (List Wait) × Unit → Option (Int × Bool × Int × (List Hold) × (List Wait))) : Int × Int × Bool × Int × Wait × (List Hold) × (List Wait) × Unit → Option (Int × Bool × Int × (List Hold) × (List Wait)) := fun ⟨v19, v20, v21, v22, v23, v24, v25, _⟩ =>
 j1 (v19, v20, v21, v22, v23, v24, v25, ())
def locks_stands (n : Nat) (p1 : Wait) (q0_0 : Int) (q0_1 : Bool) (q0_2 : Int) (q1 : List Hold) (q2 : List Wait) : Option (Int × Bool × Int × (List Hold) × (List Wait)) :=
 (locks_conversion n p1).bind fun y1 =>
 jn (locks_stands_j1 n) fun j1 =>
 cond y1
 ((slices_IndexFunc_Wait_f107 n q2).bind fun y18 =>
 jn (locks_stands_j2 n j1) fun j2 =>
 cond (decide (y18 ≥ 0))
 (j2 (y18, q0_0, q0_1, q0_2, p1, q1, q2, ()))
 (j2 ((q2.length : Int), q0_0, q0_1, q0_2, p1, q1, q2, ())))
 (j1 ((q2.length : Int), q0_0, q0_1, q0_2, p1, q1, q2, ()))
@[reducible] def locks_stands_ct : Ct tab := ⟨65, [.one (.box 0 0), .st 2], [.box [.d (.int .i64), .d .bool, .d (.int .u16), .own 1, .own 2], .row 45 (.st 1), .row 47 (.st 2)], [], [(some 0, .box [.d (.int .i64), .d .bool, .d (.int .u16), .own 1, .own 2]), (none, .row 45 (.st 1)), (none, .row 47 (.st 2))], (Int × Bool × Int × (List Hold) × (List Wait)), fun y => (y.1, y.2.1, y.2.2.1, y.2.2.2.1, y.2.2.2.2, ()), fun y => (y.1, y.2.1, y.2.2.1, y.2.2.2.1, y.2.2.2.2.1), fun _ => rfl, fun n x => locks_stands n x.1 x.2.1 x.2.2.1 x.2.2.2.1 x.2.2.2.2.1 x.2.2.2.2.2.1⟩
theorem locks_stands_ok : OkC Tryz.prog tab locks_stands_ct := fn_ok (W := ⟨Tryz.prog, tab, tyOf, [locks_conversion_ct, slices_Insert_Wait_ct, slices_IndexFunc_Wait_f107_ct], addO, dpO, false⟩) ⟨tabOk, ⟨locks_conversion_ok, slices_Insert_Wait_ok, slices_IndexFunc_Wait_f107_ok, trivial⟩, addOk⟩ (by kernel_rfl) 32 Tryz.f65 (.sq (.n) (.sq (.n) (.sq (.sq (.n) (.cd (some ⟨[(0, .one (.box 0 0)), (3, .one (.box 1 0)), (4, .one (.d (.int .i64)))], [.box [.d (.int .i64), .d .bool, .d (.int .u16), .own 2, .own 3], .bst 2, .row 45 (.st 1), .row 47 (.st 2)], [(0, 0)]⟩) (.sq (.n) (.sq (.n) (.cd (some ⟨[(0, .one (.box 0 0)), (3, .one (.box 1 0)), (4, .one (.d (.int .i64)))], [.box [.d (.int .i64), .d .bool, .d (.int .u16), .own 2, .own 3], .bst 2, .row 45 (.st 1), .row 47 (.st 2)], [(0, 0)]⟩) (.n) (.n)))) (.n))) (.n)))) Tryz.func65 Tryz.call65 rfl (by kernel_rfl) (by kernel_rfl) (by kernel_rfl) fun n x => by kernel_rfl
def locks_of (n : Nat) (p0 : Res) (p1 : Int) : Option Bool :=
 cond p0.isKey
 (jn (fun (b1 : Bool) =>
 some b1) fun k2 =>
 cond (p1 != 0)
 ((mode_OfKeys n p1).bind fun y3 =>
 k2 y3)
 (k2 false))
 (jn (fun (b4 : Bool) =>
 some b4) fun k5 =>
 cond (p1 != 0)
 ((mode_OfTables n p1).bind fun y6 =>
 k5 y6)
 (k5 false))
@[reducible] def locks_of_ct : Ct tab := ⟨57, [.st 0, .one (.d (.int .i64))], [], [.one (.d .bool)], [], Bool, fun y => (y, ()), fun y => y.1, fun _ => rfl, fun n x => locks_of n x.1 x.2.1⟩
theorem locks_of_ok : OkC Tryz.prog tab locks_of_ct := fn_ok (W := ⟨Tryz.prog, tab, tyOf, [mode_OfKeys_ct, mode_OfTables_ct], addO, dpO, false⟩) ⟨tabOk, ⟨mode_OfKeys_ok, mode_OfTables_ok, trivial⟩, addOk⟩ (by kernel_rfl) 19 Tryz.f57 (.n) Tryz.func57 Tryz.call57 rfl (by kernel_rfl) (by kernel_rfl) (by kernel_rfl) fun n x => by kernel_rfl
def locks_txn (n : Nat) (p0 : Int) : Option Bool :=
 jn (fun (b1 : Bool) =>
 some b1) fun k2 =>
 cond (decide (p0 ≥ 1))
 (k2 (decide (p0 ≤ 1073741824)))
 (k2 false)
@[reducible] def locks_txn_ct : Ct tab := ⟨82, [.one (.d (.int .i64))], [], [.one (.d .bool)], [], Bool, fun y => (y, ()), fun y => y.1, fun _ => rfl, fun n x => locks_txn n x.1⟩
theorem locks_txn_ok : OkC Tryz.prog tab locks_txn_ct := fn_ok (W := ⟨Tryz.prog, tab, tyOf, [], addO, dpO, false⟩) ⟨tabOk, trivial, addOk⟩ (by kernel_rfl) 9 Tryz.f82 (.n) Tryz.func82 Tryz.call82 rfl (by kernel_rfl) (by kernel_rfl) (by kernel_rfl) fun n x => by kernel_rfl
def locks_waiters_l1 (n : Nat) : Nat → Bool × (List Wait) × Int × Int × (List (Int × Bool)) × Queue × Unit → Option (Bool × (List (Int × Bool))) := loopF fun r1 ⟨v1, v2, v3, v4, v5, v6, _⟩ =>
 cond (decide (v4 < v3))
 ((idx v2 v4).bind fun x7 =>
 (locks_txn n x7.txn).bind fun y8 =>
 jn (fun (b9 : Bool) =>
 jn (fun (b11 : Bool) =>
 jn (fun (b13 : Bool) =>
 jn (fun (b15 : Bool) =>
 jn (fun (b17 : Bool) =>
 jn (fun (b19 : Bool) =>
 jn (fun (b21 : Bool) =>
 cond b21
 (some (false, v5))
 ((mput .i64 v5 x7.txn true).bind fun l23 =>
 jn (fun (b24 : Bool) =>
 r1 (b24, v2, v3, (IntKind.wrap .i64 (v4 + 1)), l23, v6, ())) fun k25 =>
 cond v1
 (k25 true)
 ((locks_conversion n x7).bind fun y26 =>
 k25 (!y26)))) fun k22 =>
 cond (!b19)
 (k22 true)
 (jn (fun (b27 : Bool) =>
 k22 b27) fun k28 =>
 cond (v4 == 0)
 ((locks_goes n v6 x7.txn x7.mode).bind fun y29 =>
 k28 y29)
 (k28 false))) fun k20 =>
 cond b17
 (jn (fun (b30 : Bool) =>
 k20 (!b30)) fun k31 =>
 cond v1
 ((locks_conversion n x7).bind fun y32 =>
 k31 y32)
 (k31 false))
 (k20 false)) fun k18 =>
 cond b15
 ((mode_Covers n x7.mode x7.held).bind fun y33 =>
 k18 y33)
 (k18 false)) fun k16 =>
 cond b13
 ((mode_Covers n x7.held x7.mode).bind fun y34 =>
 k16 (!y34))
 (k16 false)) fun k14 =>
 cond b11
 ((locks_held n v6 x7.txn).bind fun y35 =>
 k14 (x7.held == y35))
 (k14 false)) fun k12 =>
 cond b9
 ((locks_of n v6.res x7.mode).bind fun y36 =>
 k12 y36)
 (k12 false)) fun k10 =>
 cond y8
 ((mlook .i64 false v5 x7.txn).bind fun w37 =>
 k10 (!w37))
 (k10 false))
 (some (true, v5))
def locks_waiters (n : Nat) (p0 : Queue) (q0 : List (Int × Bool)) : Option (Bool × (List (Int × Bool))) :=
 locks_waiters_l1 n n (false, p0.waiters, (p0.waiters.length : Int), 0, q0, p0, ())
@[reducible] def locks_waiters_ct : Ct tab := ⟨38, [.st 3, .one (.map 0)], [.map .i64 3 4 .bool], [.one (.d .bool)], [(some 0, .map .i64 3 4 .bool)], (Bool × (List (Int × Bool))), fun y => (y.1, y.2, ()), fun y => (y.1, y.2.1), fun _ => rfl, fun n x => locks_waiters n x.1 x.2.1⟩
theorem locks_waiters_ok : OkC Tryz.prog tab locks_waiters_ct := fn_ok (W := ⟨Tryz.prog, tab, tyOf, [locks_txn_ct, locks_conversion_ct, locks_goes_ct, mode_Covers_ct, locks_held_ct, locks_of_ct], addO, dpO, false⟩) ⟨tabOk, ⟨locks_txn_ok, locks_conversion_ok, locks_goes_ok, mode_Covers_ok, locks_held_ok, locks_of_ok, trivial⟩, addOk⟩ (by kernel_rfl) 91 Tryz.f38 (.sq (.n) (.sq (.n) (.sq (.sq (.n) (.bk none (.lp ⟨[(1, .one (.map 0)), (2, .one (.box 1 0)), (5, .one (.d .bool)), (10, .one (.d (.sl (.st 2)))), (11, .one (.d (.int .i64))), (12, .one (.d (.int .i64)))], [.map .i64 3 4 .bool, .bst 3], [(0, 0)]⟩ (.n)))) (.n)))) Tryz.func38 Tryz.call38 rfl (by kernel_rfl) (by kernel_rfl) (by kernel_rfl) fun n x => by kernel_rfl
def locks_holders_l1 (n : Nat) : Nat → Int × (List Hold) × Int × Int × Queue × Unit → Option Bool := loopF fun r1 ⟨v1, v2, v3, v4, v5, _⟩ =>
 cond (decide (v4 < v3))
 ((idx v2 v4).bind fun x6 =>
 (locks_txn n x6.txn).bind fun y7 =>
 jn (fun (b8 : Bool) =>
 jn (fun (b10 : Bool) =>
 jn (fun (b12 : Bool) =>
 cond b12
 (some false)
 (r1 (x6.txn, v2, v3, (IntKind.wrap .i64 (v4 + 1)), v5, ()))) fun k13 =>
 cond b10
 (k13 true)
 ((locks_goes n v5 x6.txn x6.mode).bind fun y14 =>
 k13 (!y14))) fun k11 =>
 cond b8
 (k11 true)
 ((locks_of n v5.res x6.mode).bind fun y15 =>
 k11 (!y15))) fun k9 =>
 cond (!y7)
 (k9 true)
 (k9 (decide (x6.txn ≤ v1))))
 (some (decide (v1 > 0)))
def locks_holders (n : Nat) (p0 : Queue) : Option Bool :=
 locks_holders_l1 n n (0, p0.holders, (p0.holders.length : Int), 0, p0, ())
@[reducible] def locks_holders_ct : Ct tab := ⟨37, [.st 3], [], [.one (.d .bool)], [], Bool, fun y => (y, ()), fun y => y.1, fun _ => rfl, fun n x => locks_holders n x.1⟩
theorem locks_holders_ok : OkC Tryz.prog tab locks_holders_ct := fn_ok (W := ⟨Tryz.prog, tab, tyOf, [locks_txn_ct, locks_goes_ct, locks_of_ct], addO, dpO, false⟩) ⟨tabOk, ⟨locks_txn_ok, locks_goes_ok, locks_of_ok, trivial⟩, addOk⟩ (by kernel_rfl) 45 Tryz.f37 (.sq (.n) (.sq (.n) (.sq (.sq (.n) (.bk none (.lp ⟨[(1, .one (.box 0 0)), (3, .one (.d (.int .i64))), (7, .one (.d (.sl (.st 1)))), (8, .one (.d (.int .i64))), (9, .one (.d (.int .i64)))], [.bst 3], []⟩ (.n)))) (.n)))) Tryz.func37 Tryz.call37 rfl (by kernel_rfl) (by kernel_rfl) (by kernel_rfl) fun n x => by kernel_rfl
def locks_Check_l1 (n : Nat) : Nat → (List Queue) × Int × Int × Locks × (List (Int × Bool)) × Unit → Option Int := loopF fun r1 ⟨v1, v2, v3, v4, v5, _⟩ =>
 cond (decide (v3 < v2))
 ((idx v1 v3).bind fun x6 =>
 (locks_locked n x6.res).bind fun y7 =>
 cond (!y7)
 (cond true
 (cond true
 (cond true
 (some 180)
 (r1 (v1, v2, (IntKind.wrap .i64 (v3 + 1)), v4, v5, ())))
 ((locks_waiters n x6 v5).bind fun y8 =>
 cond (!y8.1)
 (some 180)
 (r1 (v1, v2, (IntKind.wrap .i64 (v3 + 1)), v4, y8.2, ()))))
 ((locks_holders n x6).bind fun y9 =>
 cond (!y9)
 (cond true
 (some 180)
 (r1 (v1, v2, (IntKind.wrap .i64 (v3 + 1)), v4, v5, ())))
 ((locks_waiters n x6 v5).bind fun y10 =>
 cond (!y10.1)
 (some 180)
 (r1 (v1, v2, (IntKind.wrap .i64 (v3 + 1)), v4, y10.2, ())))))
 (cond (decide (v3 > 0))
 ((idx v4.queues (IntKind.wrap .i64 (v3 - 1))).bind fun x11 =>
 (locks_compare n x11.res x6.res).bind fun y12 =>
 cond (decide (y12 ≥ 0))
 (cond true
 (cond true
 (some 180)
 (r1 (v1, v2, (IntKind.wrap .i64 (v3 + 1)), v4, v5, ())))
 ((locks_waiters n x6 v5).bind fun y13 =>
 cond (!y13.1)
 (some 180)
 (r1 (v1, v2, (IntKind.wrap .i64 (v3 + 1)), v4, y13.2, ()))))
 ((locks_holders n x6).bind fun y14 =>
 cond (!y14)
 (cond true
 (some 180)
 (r1 (v1, v2, (IntKind.wrap .i64 (v3 + 1)), v4, v5, ())))
 ((locks_waiters n x6 v5).bind fun y15 =>
 cond (!y15.1)
 (some 180)
 (r1 (v1, v2, (IntKind.wrap .i64 (v3 + 1)), v4, y15.2, ())))))
 (cond false
 (cond true
 (cond true
 (some 180)
 (r1 (v1, v2, (IntKind.wrap .i64 (v3 + 1)), v4, v5, ())))
 ((locks_waiters n x6 v5).bind fun y16 =>
 cond (!y16.1)
 (some 180)
 (r1 (v1, v2, (IntKind.wrap .i64 (v3 + 1)), v4, y16.2, ()))))
 ((locks_holders n x6).bind fun y17 =>
 cond (!y17)
 (cond true
 (some 180)
 (r1 (v1, v2, (IntKind.wrap .i64 (v3 + 1)), v4, v5, ())))
 ((locks_waiters n x6 v5).bind fun y18 =>
 cond (!y18.1)
 (some 180)
 (r1 (v1, v2, (IntKind.wrap .i64 (v3 + 1)), v4, y18.2, ())))))))
 (some 0)
def locks_Check (n : Nat) (p0 : Locks) : Option Int :=
 cond (decide ((p0.queues.length : Int) > 500))
 (some 180)
 (locks_Check_l1 n n (p0.queues, (p0.queues.length : Int), 0, p0, ([] : List (Int × Bool)), ()))
@[reducible] def locks_Check_ct : Ct tab := ⟨15, [.st 4], [], [.one (.d (.int .i64))], [], Int, fun y => (y, ()), fun y => y.1, fun _ => rfl, fun n x => locks_Check n x.1⟩
theorem locks_Check_ok : OkC Tryz.prog tab locks_Check_ct := fn_ok (W := ⟨Tryz.prog, tab, tyOf, [locks_locked_ct, locks_waiters_ct, locks_holders_ct, locks_compare_ct], addO, dpO, false⟩) ⟨tabOk, ⟨locks_locked_ok, locks_waiters_ok, locks_holders_ok, locks_compare_ok, trivial⟩, addOk⟩ (by kernel_rfl) 52 Tryz.f15 (.sq (.n) (.sq (.n) (.sq (.n) (.sq (.sq (.n) (.bk none (.lp ⟨[(1, .one (.box 0 0)), (3, .one (.map 1)), (12, .one (.d (.sl (.st 3)))), (13, .one (.d (.int .i64))), (14, .one (.d (.int .i64)))], [.bst 4, .map .i64 3 4 .bool], []⟩ (.sq (.n) (.sq (.n) (.sq (.bk none (.sq (.n) (.sq (.rg [1000000]) (.n)))) (.n))))))) (.n))))) Tryz.func15 Tryz.call15 rfl (by kernel_rfl) (by kernel_rfl) (by kernel_rfl) fun n x => by kernel_rfl
def slices_Clone_Queue (n : Nat) (p0 : List Queue) : Option ((List Queue)) :=
 nilC p0.isEmpty
 (some ([] : List Queue))
 ((app 64 ([] : List Queue) p0).bind fun l1 =>
 some l1)
@[reducible] def slices_Clone_Queue_ct : Ct tab := ⟨93, [.one (.d (.sl (.st 3)))], [], [.one (.own 0)], [(none, .row 43 (.st 3))], ((List Queue)), fun y => (y, ()), fun y => y.1, fun _ => rfl, fun n x => slices_Clone_Queue n x.1⟩
theorem slices_Clone_Queue_ok : OkC Tryz.prog tab slices_Clone_Queue_ct := fn_ok (W := ⟨Tryz.prog, tab, tyOf, [], addO, dpO, false⟩) ⟨tabOk, trivial, addOk⟩ (by kernel_rfl) 8 Tryz.f93 (.n) Tryz.func93 Tryz.call93 rfl (by kernel_rfl) (by kernel_rfl) (by kernel_rfl) fun n x => by kernel_rfl
def slices_Clone_Hold (n : Nat) (p0 : List Hold) : Option ((List Hold)) :=
 nilC p0.isEmpty
 (some ([] : List Hold))
 ((app 16 ([] : List Hold) p0).bind fun l1 =>
 some l1)
@[reducible] def slices_Clone_Hold_ct : Ct tab := ⟨94, [.one (.d (.sl (.st 1)))], [], [.one (.own 0)], [(none, .row 45 (.st 1))], ((List Hold)), fun y => (y, ()), fun y => y.1, fun _ => rfl, fun n x => slices_Clone_Hold n x.1⟩
theorem slices_Clone_Hold_ok : OkC Tryz.prog tab slices_Clone_Hold_ct := fn_ok (W := ⟨Tryz.prog, tab, tyOf, [], addO, dpO, false⟩) ⟨tabOk, trivial, addOk⟩ (by kernel_rfl) 8 Tryz.f94 (.n) Tryz.func94 Tryz.call94 rfl (by kernel_rfl) (by kernel_rfl) (by kernel_rfl) fun n x => by kernel_rfl
def slices_Clone_Wait (n : Nat) (p0 : List Wait) : Option ((List Wait)) :=
 nilC p0.isEmpty
 (some ([] : List Wait))
 ((app 24 ([] : List Wait) p0).bind fun l1 =>
 some l1)
@[reducible] def slices_Clone_Wait_ct : Ct tab := ⟨95, [.one (.d (.sl (.st 2)))], [], [.one (.own 0)], [(none, .row 47 (.st 2))], ((List Wait)), fun y => (y, ()), fun y => y.1, fun _ => rfl, fun n x => slices_Clone_Wait n x.1⟩
theorem slices_Clone_Wait_ok : OkC Tryz.prog tab slices_Clone_Wait_ct := fn_ok (W := ⟨Tryz.prog, tab, tyOf, [], addO, dpO, false⟩) ⟨tabOk, trivial, addOk⟩ (by kernel_rfl) 8 Tryz.f95 (.n) Tryz.func95 Tryz.call95 rfl (by kernel_rfl) (by kernel_rfl) (by kernel_rfl) fun n x => by kernel_rfl
def locks_Ask_1_j1 (n : Nat) : Int × Res × Int × Int × Int × (List Queue) × Unit → Option (Int × Res × Int × Int × Int × (List Queue)) := fun ⟨v7, v8, v9, v10, v11, v12, _⟩ =>
 (idx v12 v7).bind fun x13 =>
 (sameI v7 v7).bind fun u14 =>
 (locks_held n x13 v10).bind fun y15 =>
 (mode_Covers n y15 v9).bind fun y16 =>
 cond y16
 (some (0, v8, v9, v10, 1, (List.set v12 (Int.toNat v7) x13)))
 ((mode_Sup n y15 v9).bind fun y17 =>
 cond (y17.2 != 0)
 (some (2, v8, v9, v10, 1, (List.set v12 (Int.toNat v7) x13)))
 ((locks_goes n x13 v10 y17.1).bind fun y18 =>
 jn (fun (b19 : Bool) =>
 cond b19
 ((locks_holds n v10 y17.1 x13.res.table x13.res.isKey x13.res.id x13.holders x13.waiters).bind fun y21 =>
 some (0, v8, v9, v10, 2, (List.set v12 (Int.toNat v7) (Queue.mk (Res.mk y21.1 y21.2.1 y21.2.2.1) y21.2.2.2.1 y21.2.2.2.2))))
 ((locks_stands n (Wait.mk v10 y17.1 y15) x13.res.table x13.res.isKey x13.res.id x13.holders x13.waiters).bind fun y22 =>
 some (0, v8, v9, v10, 3, (List.set v12 (Int.toNat v7) (Queue.mk (Res.mk y22.1 y22.2.1 y22.2.2.1) y22.2.2.2.1 y22.2.2.2.2))))) fun k20 =>
 cond y18
 (jn (fun (b23 : Bool) =>
 k20 b23) fun k24 =>
 cond (y15 != 0)
 (k24 true)
 (k24 ((x13.waiters.length : Int) == 0)))
 (k20 false)))
def locks_Ask_1 (n : Nat) (q1 : List Queue) (q2 : Res) (q3 : Int) (q4 : Int) (q5 : Int) : Option (Int × Res × Int × Int × Int × (List Queue)) :=
 (locks_locked n q2).bind fun y1 =>
 jn (fun (b2 : Bool) =>
 cond b2
 (some (2, q2, q3, q4, q5, q1))
 ((locks_waits n (Locks.mk q1) q4).bind fun y4 =>
 cond y4.2.2
 (some (181, q2, q3, q4, q5, q1))
 ((slices_BinarySearchFunc_Res_f59 n q1 q2).bind fun y5 =>
 jn (locks_Ask_1_j1 n) fun j1 =>
 cond (!y5.2)
 (cond (decide ((q1.length : Int) ≥ 500))
 (some (6, q2, q3, q4, q5, q1))
 ((slices_Insert_Queue n y5.1 q1 ([(Queue.mk q2 ([] : List Hold) ([] : List Wait))] : List Queue)).bind fun y25 =>
 j1 (y5.1, q2, q3, q4, q5, y25, ())))
 (j1 (y5.1, q2, q3, q4, q5, q1, ()))))) fun k3 =>
 cond (!y1)
 (k3 true)
 ((locks_of n q2 q3).bind fun y26 =>
 k3 (!y26))
@[reducible] def locks_Ask_1_ct : Ct tab := ⟨56, [.one (.box 0 0), .one (.box 2 0), .one (.box 3 0), .one (.box 4 0), .one (.box 5 0)], [.box [.own 1], .deep 43 (.st 3) [none, none, none, some 45, some 47], .bst 0, .box [.d (.int .i64)], .box [.d (.int .i64)], .box [.d (.int .i64)]], [.one (.d (.int .i64))], [(some 0, .box [.own 5]), (some 2, .bst 0), (some 3, .box [.d (.int .i64)]), (some 4, .box [.d (.int .i64)]), (some 5, .box [.d (.int .i64)]), (none, .deep 43 (.st 3) [none, none, none, some 45, some 47])], (Int × Res × Int × Int × Int × (List Queue)), fun y => (y.1, y.2.1, y.2.2.1, y.2.2.2.1, y.2.2.2.2.1, y.2.2.2.2.2, ()), fun y => (y.1, y.2.1, y.2.2.1, y.2.2.2.1, y.2.2.2.2.1, y.2.2.2.2.2.1), fun _ => rfl, fun n x => locks_Ask_1 n x.1 x.2.1 x.2.2.1 x.2.2.2.1 x.2.2.2.2.1⟩
theorem locks_Ask_1_ok : OkC Tryz.prog tab locks_Ask_1_ct := fn_ok (W := ⟨Tryz.prog, tab, tyOf, [locks_locked_ct, locks_waits_ct, slices_BinarySearchFunc_Res_f59_ct, locks_held_ct, mode_Covers_ct, mode_Sup_ct, locks_goes_ct, locks_holds_ct, locks_stands_ct, slices_Insert_Queue_ct, locks_of_ct], addO, dpO, false⟩) ⟨tabOk, ⟨locks_locked_ok, locks_waits_ok, slices_BinarySearchFunc_Res_f59_ok, locks_held_ok, mode_Covers_ok, mode_Sup_ok, locks_goes_ok, locks_holds_ok, locks_stands_ok, slices_Insert_Queue_ok, locks_of_ok, trivial⟩, addOk⟩ (by kernel_rfl) 114 Tryz.f56 (.sq (.n) (.sq (.n) (.sq (.n) (.sq (.n) (.sq (.sq (.n) (.cd (some ⟨[(0, .one (.box 0 0)), (1, .one (.box 1 0)), (2, .one (.box 2 0)), (3, .one (.box 3 0)), (4, .one (.box 4 0)), (10, .one (.d (.int .i64)))], [.box [.own 5], .bst 0, .box [.d (.int .i64)], .box [.d (.int .i64)], .box [.d (.int .i64)], .deep 43 (.st 3) [none, none, none, some 45, some 47]], [(0, 0), (2, 1), (3, 2), (4, 3), (5, 4)]⟩) (.n) (.n))) (.sq (.gs [.foc 5 10] (.n)) (.n))))))) Tryz.func56 Tryz.call56 rfl (by kernel_rfl) (by kernel_rfl) (by kernel_rfl) fun n x => by kernel_rfl
def locks_with_f56_l1 (n : Nat) : Nat → Int × Int × Res × Int × Int × Int × Locks × Nat × (List Queue) × Unit → Option (Locks × Int × Res × Int × Int × Int) := loopF fun r1 ⟨v4, v5, v6, v7, v8, v9, v10, v11, v12, _⟩ =>
 cond (decide (v5 < v4))
 ((idxM v12 v5 v11).bind fun x13 =>
 (sameI v5 v5).bind fun u14 =>
 (slices_Clone_Hold n x13.holders).bind fun y15 =>
 (slices_Clone_Wait n x13.waiters).bind fun y16 =>
 r1 (v4, (IntKind.wrap .i64 (v5 + 1)), v6, v7, v8, v9, v10, (v11 + 1), (List.set v12 (Int.toNat v5) (Queue.mk x13.res y15 y16)), ()))
 ((sameN v11 (v12).length).bind fun u17 =>
 (locks_Ask_1 n v12 v6 v7 v8 v9).bind fun y18 =>
 cond (y18.1 != 0)
 (some ((Locks.mk ([] : List Queue)), y18.1, y18.2.1, y18.2.2.1, y18.2.2.2.1, y18.2.2.2.2.1))
 (some ((Locks.mk y18.2.2.2.2.2), 0, y18.2.1, y18.2.2.1, y18.2.2.2.1, y18.2.2.2.2.1)))
def locks_with_f56 (n : Nat) (p0 : Locks) (p1 : Int) (q0 : Res) (q1 : Int) (q2 : Int) (q3 : Int) : Option (Locks × Int × Res × Int × Int × Int) :=
 (locks_Check n p0).bind fun y1 =>
 cond (y1 != 0)
 (some ((Locks.mk ([] : List Queue)), y1, q0, q1, q2, q3))
 ((locks_txn n p1).bind fun y2 =>
 cond (!y2)
 (some ((Locks.mk ([] : List Queue)), 2, q0, q1, q2, q3))
 ((slices_Clone_Queue n p0.queues).bind fun y3 =>
 locks_with_f56_l1 n n ((y3.length : Int), 0, q0, q1, q2, q3, (Locks.mk ([] : List Queue)), 0, y3, ())))
@[reducible] def locks_with_f56_ct : Ct tab := ⟨55, [.st 4, .one (.d (.int .i64)), .one (.fn 56 [.bx 0, .bx 1, .bx 2, .bx 3])], [.bst 0, .box [.d (.int .i64)], .box [.d (.int .i64)], .box [.d (.int .i64)]], [.st 4, .one (.d (.int .i64))], [(some 0, .bst 0), (some 1, .box [.d (.int .i64)]), (some 2, .box [.d (.int .i64)]), (some 3, .box [.d (.int .i64)])], (Locks × Int × Res × Int × Int × Int), fun y => (y.1, y.2.1, y.2.2.1, y.2.2.2.1, y.2.2.2.2.1, y.2.2.2.2.2, ()), fun y => (y.1, y.2.1, y.2.2.1, y.2.2.2.1, y.2.2.2.2.1, y.2.2.2.2.2.1), fun _ => rfl, fun n x => locks_with_f56 n x.1 x.2.1 x.2.2.1 x.2.2.2.1 x.2.2.2.2.1 x.2.2.2.2.2.1⟩
theorem locks_with_f56_ok : OkC Tryz.prog tab locks_with_f56_ct := fn_ok (W := ⟨Tryz.prog, tab, tyOf, [locks_Check_ct, locks_txn_ct, slices_Clone_Queue_ct, slices_Clone_Hold_ct, slices_Clone_Wait_ct, locks_Ask_1_ct], addO, dpO, false⟩) ⟨tabOk, ⟨locks_Check_ok, locks_txn_ok, slices_Clone_Queue_ok, slices_Clone_Hold_ok, slices_Clone_Wait_ok, locks_Ask_1_ok, trivial⟩, addOk⟩ (by kernel_rfl) 61 Tryz.f55 (.sq (.n) (.sq (.n) (.sq (.n) (.sq (.n) (.sq (.sq (.gs [.dpn 6 [none, none, none, some 45, some 47]] (.n)) (.bk none (.lp ⟨[(2, .one (.fn 56 [.bx 0, .bx 1, .bx 2, .bx 3])), (6, .one (.box 4 0)), (9, .one (.box 5 0)), (29, .one (.d (.int .i64))), (30, .one (.d (.int .i64)))], [.bst 0, .box [.d (.int .i64)], .box [.d (.int .i64)], .box [.d (.int .i64)], .bst 4, .box [.own 6], .pdeep 43 (.st 3) [none, none, none, some 45, some 47]], [(0, 0), (1, 1), (2, 2), (3, 3)]⟩ (.sq (.n) (.sq (.n) (.sq (.bk none (.sq (.n) (.sq (.gs [.foc 6 10] (.n)) (.n)))) (.n))))))) (.sq (.sq (.gs [.fin 6] (.n)) (.n)) (.n))))))) Tryz.func55 Tryz.call55 rfl (by kernel_rfl) (by kernel_rfl) (by kernel_rfl) fun n x => by kernel_rfl
def locks_Ask_j1 (n : Nat) : Int × Locks × Int × Locks × Unit → Option (Locks × Int × Int) := fun ⟨v2, v3, v4, v5, _⟩ =>
 some (v5, v4, v2)
def locks_Ask (n : Nat) (p0 : Locks) (p1 : Int) (p2 : Res) (p3 : Int) : Option (Locks × Int × Int) :=
 (locks_with_f56 n p0 p1 p2 p3 p1 0).bind fun y1 =>
 jn (locks_Ask_j1 n) fun j1 =>
 cond (y1.2.1 != 0)
 (j1 (y1.2.1, (Locks.mk ([] : List Queue)), 0, y1.1, ()))
 (j1 (y1.2.1, (Locks.mk ([] : List Queue)), y1.2.2.2.2.2, y1.1, ()))
@[reducible] def locks_Ask_ct : Ct tab := ⟨28, [.st 4, .one (.d (.int .i64)), .st 0, .one (.d (.int .i64))], [], [.st 4, .one (.d (.int .i64)), .one (.d (.int .i64))], [], (Locks × Int × Int), fun y => (y.1, y.2.1, y.2.2, ()), fun y => (y.1, y.2.1, y.2.2.1), fun _ => rfl, fun n x => locks_Ask n x.1 x.2.1 x.2.2.1 x.2.2.2.1⟩
theorem locks_Ask_ok : OkC Tryz.prog tab locks_Ask_ct := fn_ok (W := ⟨Tryz.prog, tab, tyOf, [locks_with_f56_ct], addO, dpO, false⟩) ⟨tabOk, ⟨locks_with_f56_ok, trivial⟩, addOk⟩ (by kernel_rfl) 26 Tryz.f28 (.sq (.n) (.sq (.n) (.sq (.n) (.sq (.sq (.n) (.cd (some ⟨[(8, .one (.box 0 0)), (11, .one (.box 1 0)), (12, .one (.box 2 0)), (13, .one (.d (.int .i64)))], [.bst 4, .box [.d (.int .i64)], .bst 4], []⟩) (.n) (.n))) (.n))))) Tryz.func28 Tryz.call28 rfl (by kernel_rfl) (by kernel_rfl) (by kernel_rfl) fun n x => by kernel_rfl
def slices_Sort_int (n : Nat) (q0 : List Int) : Option (List Int) := match Nat.ble q0.length 4611686018427387903 with | true => some (sortZ q0) | false => none
@[reducible] def slices_Sort_int_ct : Ct tab := srtCt tab 51 3
theorem slices_Sort_int_ok : OkC Tryz.prog tab slices_Sort_int_ct := srt_ok Tryz.call51 ⟨fun blk cap zs w hH hblk hlen => Go.Proofs.AnyM.slices_Sort_int Tryz.sl51 blk 0 cap zs w hH hblk hlen, fun p cap w => Go.Proofs.AnyM.slices_Sort_int_none Tryz.sl51 p cap w⟩
def slices_Compact_int (n : Nat) (q0 : List Int) : Option (List Int) := match Nat.ble q0.length 4611686018427387903 with | true => some (cpZ q0) | false => none
@[reducible] def slices_Compact_int_ct : Ct tab := cptCt tab 52 3
theorem slices_Compact_int_ok : OkC Tryz.prog tab slices_Compact_int_ct := cpt_ok Tryz.call52 ⟨fun blk cap zs w hH hl hc => Go.Proofs.AnyG.slices_Compact_int Tryz.sl52 blk 0 cap zs w hH (by omega) hc, fun p cap w => Go.Proofs.AnyG.slices_Compact_int_empty Tryz.sl52 p cap w⟩
def locks_Blockers_j2 (n : Nat) (r1 : Int × Int × (List Hold) × Int × Int × Queue × (List Int) × Unit → Option ((List Int))) : Int × Int × (List Hold) × Int × Int × Queue × (List Int) × Unit → Option ((List Int)) := fun ⟨v16, v17, v18, v19, v20, v21, v22, _⟩ =>
 r1 (v16, v17, v18, v19, (IntKind.wrap .i64 (v20 + 1)), v21, v22, ())
def locks_Blockers_l3 (n : Nat) : Nat → (List Wait) × Int × Int × (List Int) × Unit → Option ((List Int)) := loopF fun r3 ⟨v27, v28, v29, v30, _⟩ =>
 cond (decide (v29 < v28))
 ((idx v27 v29).bind fun x31 =>
 (app 8 v30 ([x31.txn] : List Int)).bind fun l32 =>
 r3 (v27, v28, (IntKind.wrap .i64 (v29 + 1)), l32, ()))
 ((slices_Sort_int n v30).bind fun y33 =>
 (slices_Compact_int n y33).bind fun y34 =>
 some y34)
def locks_Blockers_l1 (n : Nat) : Nat → Int × Int × (List Hold) × Int × Int × Queue × (List Int) × Unit → Option ((List Int)) := loopF fun r1 ⟨v5, v6, v7, v8, v9, v10, v11, _⟩ =>
 cond (decide (v9 < v8))
 ((idx v7 v9).bind fun x12 =>
 jn (fun (b13 : Bool) =>
 jn (locks_Blockers_j2 n r1) fun j2 =>
 cond b13
 ((app 8 v11 ([x12.txn] : List Int)).bind fun l23 =>
 j2 (v5, v6, v7, v8, v9, v10, l23, ()))
 (j2 (v5, v6, v7, v8, v9, v10, v11, ()))) fun k14 =>
 cond (x12.txn != v5)
 ((idx v10.waiters v6).bind fun x24 =>
 (mode_Goes n x12.mode x24.mode).bind fun y25 =>
 k14 (!y25))
 (k14 false))
 ((sub v10.waiters 0 v6).bind fun l26 =>
 locks_Blockers_l3 n n (l26, (l26.length : Int), 0, v11, ()))
def locks_Blockers (n : Nat) (p0 : Locks) (p1 : Int) : Option ((List Int)) :=
 (locks_waits n p0 p1).bind fun y1 =>
 jn (fun (b2 : Bool) =>
 cond b2
 (some ([] : List Int))
 ((idx p0.queues y1.1).bind fun x4 =>
 locks_Blockers_l1 n n (p1, y1.2.1, x4.holders, (x4.holders.length : Int), 0, x4, ([] : List Int), ()))) fun k3 =>
 cond (!y1.2.2)
 (k3 true)
 ((locks_Check n p0).bind fun y35 =>
 k3 (y35 != 0))
@[reducible] def locks_Blockers_ct : Ct tab := ⟨23, [.st 4, .one (.d (.int .i64))], [], [.one (.own 0)], [(none, .row 3 (.int .i64))], ((List Int)), fun y => (y, ()), fun y => y.1, fun _ => rfl, fun n x => locks_Blockers n x.1 x.2.1⟩
theorem locks_Blockers_ok : OkC Tryz.prog tab locks_Blockers_ct := fn_ok (W := ⟨Tryz.prog, tab, tyOf, [locks_waits_ct, mode_Goes_ct, slices_Sort_int_ct, slices_Compact_int_ct, locks_Check_ct], addO, dpO, false⟩) ⟨tabOk, ⟨locks_waits_ok, mode_Goes_ok, slices_Sort_int_ok, slices_Compact_int_ok, locks_Check_ok, trivial⟩, addOk⟩ (by kernel_rfl) 81 Tryz.f23 (.sq (.n) (.sq (.n) (.sq (.n) (.sq (.n) (.sq (.n) (.sq (.sq (.n) (.bk none (.lp ⟨[(1, .one (.d (.int .i64))), (6, .one (.d (.int .i64))), (8, .one (.box 0 0)), (9, .one (.own 1)), (34, .one (.d (.sl (.st 1)))), (35, .one (.d (.int .i64))), (36, .one (.d (.int .i64)))], [.bst 3, .row 3 (.int .i64)], []⟩ (.sq (.n) (.sq (.n) (.sq (.bk none (.sq (.n) (.sq (.n) (.cd (some ⟨[(1, .one (.d (.int .i64))), (6, .one (.d (.int .i64))), (8, .one (.box 0 0)), (9, .one (.own 1)), (34, .one (.d (.sl (.st 1)))), (35, .one (.d (.int .i64))), (36, .one (.d (.int .i64)))], [.bst 3, .row 3 (.int .i64)], []⟩) (.n) (.n))))) (.n))))))) (.sq (.sq (.n) (.bk none (.lp ⟨[(9, .one (.own 0)), (65, .one (.d (.sl (.st 2)))), (66, .one (.d (.int .i64))), (67, .one (.d (.int .i64)))], [.row 3 (.int .i64)], []⟩ (.n)))) (.n)))))))) Tryz.func23 Tryz.call23 rfl (by kernel_rfl) (by kernel_rfl) (by kernel_rfl) fun n x => by kernel_rfl
def locks_without_1 (n : Nat) (p0 : Wait) (p1 : Int) : Option Bool :=
 some (p0.txn == p1)
@[reducible] def locks_without_1_ct : Ct tab := ⟨110, [.st 2, .one (.ro (.int .i64))], [], [.one (.d .bool)], [], Bool, fun y => (y, ()), fun y => y.1, fun _ => rfl, fun n x => locks_without_1 n x.1 x.2.1⟩
theorem locks_without_1_ok : OkC Tryz.prog tab locks_without_1_ct := fn_ok (W := ⟨Tryz.prog, tab, tyOf, [], addO, dpO, false⟩) ⟨tabOk, trivial, addOk⟩ (by kernel_rfl) 8 Tryz.f110 (.n) Tryz.func110 Tryz.call110 rfl (by kernel_rfl) (by kernel_rfl) (by kernel_rfl) fun n x => by kernel_rfl
def slices_IndexFunc_Wait_f110_l1 (n : Nat) : Nat → (List Wait) × Int × Int × Int × Unit → Option Int := loopF fun r1 ⟨v1, v2, v3, v4, _⟩ =>
 cond (decide (v4 < v3))
 ((idx v1 v4).bind fun x5 =>
 (locks_without_1 n x5 v2).bind fun y6 =>
 cond y6
 (some v4)
 (r1 (v1, v2, v3, (IntKind.wrap .i64 (v4 + 1)), ())))
 (some (-1))
def slices_IndexFunc_Wait_f110 (n : Nat) (p0 : List Wait) (p1 : Int) : Option Int :=
 slices_IndexFunc_Wait_f110_l1 n n (p0, p1, (p0.length : Int), 0, ())
@[reducible] def slices_IndexFunc_Wait_f110_ct : Ct tab := ⟨87, [.one (.d (.sl (.st 2))), .one (.fn 110 [.ro (.int .i64)])], [], [.one (.d (.int .i64))], [], Int, fun y => (y, ()), fun y => y.1, fun _ => rfl, fun n x => slices_IndexFunc_Wait_f110 n x.1 x.2.1⟩
theorem slices_IndexFunc_Wait_f110_ok : OkC Tryz.prog tab slices_IndexFunc_Wait_f110_ct := fn_ok (W := ⟨Tryz.prog, tab, tyOf, [locks_without_1_ct], addO, dpO, false⟩) ⟨tabOk, ⟨locks_without_1_ok, trivial⟩, addOk⟩ (by kernel_rfl) 19 Tryz.f87 (.sq (.n) (.sq (.sq (.n) (.bk none (.lp ⟨[(0, .one (.d (.sl (.st 2)))), (1, .one (.fn 110 [.ro (.int .i64)])), (7, .one (.d (.int .i64))), (8, .one (.d (.int .i64)))], [], []⟩ (.n)))) (.n))) Tryz.func87 Tryz.call87 rfl (by kernel_rfl) (by kernel_rfl) (by kernel_rfl) fun n x => by kernel_rfl
theorem slices_DeleteFunc_Wait_raw {a0 : Option Addr} {c0 gd : Nat} {cv : List Value} {Pf PI : List (World → Prop)} (p0 : List (Raw 3)) (bs : List Bool) (hbl : bs.length = p0.length) (ix : Int)
    (hI : Meets Tryz.prog 87 #[.slice a0 p0.length c0, .func (.func gd) #[] cv.toArray] [] PI fun v A P => v = .int .i64 ix ∧ A = [] ∧ P = [])
    (hPI : ∀ (F : List Nat) (w : World), AllB F w Pf → Bx F w (fun w => (rowF (rawF 3) 47 a0 c0 p0).holds w) → AllB F w PI)
    (hix : (ix = -1 ∧ ∀ y ∈ bs, y = false) ∨ ∃ k : Nat, ix = (k : Int) ∧ bs[k]? = some true ∧ ∀ y ∈ bs.take k, y = false)
    (hD : ∀ (j : Nat) (x : (Raw 3)) (y : Bool), p0[j]? = some x → bs[j]? = some y → Meets Tryz.prog gd (([Value.agg x.1.toArray] ++ cv).toArray) [] Pf fun v A P => v = .bool y ∧ A = [] ∧ P = []) (hsm : p0.length < 4611686018427387904) :
    Meets Tryz.prog 109 #[.slice a0 p0.length c0, .func (.func gd) #[] cv.toArray] [rowF (rawF 3) 47 a0 c0 p0] Pf fun v A P => ∃ (a : Option Addr) (c : Nat), v = .slice a (keepF p0 bs).length c ∧ A = [rowF (rawF 3) 47 a c (keepF p0 bs)] ∧ P = [] := by
  have len : ∀ x : (Raw 3), ∃ v0 v1 v2, x.1 = [v0, v1, v2] := fun x => by
    have h := x.2.1
    generalize x.1 = l at h ⊢
    match l, h with
    | [v0, v1, v2], _ => exact ⟨v0, v1, v2, rfl⟩
  refine meets_enter 42 Tryz.func109 Tryz.call109 rfl (by kernel_rfl) (by simp) fun C a w hS => ?_
  have hc : p0.length ≤ c0 := (row_len (hS.st.own _ (List.mem_cons_self ..))).2.1
  have hfs : ∀ {F : List Nat} {a : Act} {w : World} {L : Env} {As : List Asn}, Sy C 42 a w L As Pf → Up C As w F → AllB F w Pf := fun {F a w L As} hS up => by
    have key : ∀ l : List (World → Prop), (∀ p ∈ l, Bx F w p) → AllB F w l := fun l => by
      induction l with
      | nil => intro _; trivial
      | cons p r ih => intro h; exact ⟨h p (by simp), ih fun q hq => h q (by simp [hq])⟩
    exact key _ fun p hp => up (hS.st.per p hp)
  refine k_seq (by kernel_rfl) fun K1 hK1 => ?_
  refine k_reg 1 (by kernel_rfl) ?_
  refine r_run 0 1 [0, 1] [] hS rfl (L' := [(0, .slice a0 p0.length c0), (1, .func (.func gd) #[] cv.toArray)]) (As' := [rowF (rawF 3) 47 a0 c0 p0]) (ob := []) (by kernel_rfl) trivial fun a w hS => ?_
  refine wl_end ?_
  refine hK1 _ _ ?_
  refine k_seq (by kernel_rfl) fun K2 hK2 => ?_
  refine k_reg 4 (by kernel_rfl) ?_
  refine r_run 0 2 [0, 1, 8, 9] [] hS rfl (L' := [(0, .slice a0 p0.length c0), (1, .func (.func gd) #[] cv.toArray), (8, .slice a0 p0.length c0), (9, .func (.func gd) #[] cv.toArray)]) (As' := [rowF (rawF 3) 47 a0 c0 p0]) (ob := []) (by kernel_rfl) trivial fun a w hS => ?_
  refine r_callX 2 rfl (d := some 10) (g := 87) (args := #[.slice a0 p0.length c0, .func (.func gd) #[] cv.toArray]) [] [0] hS (by kernel_rfl) rfl rfl hI (fun F up le => hPI F _ (hfs hS up) (le 0 rfl _ fun _ h => h)) ?_
  rintro v A' P' a w ⟨rfl, rfl, rfl⟩ hS
  refine r_run 3 1 [0, 1, 5] [] hS rfl (L' := [(0, .slice a0 p0.length c0), (1, .func (.func gd) #[] cv.toArray), (5, .int .i64 ix)]) (As' := [rowF (rawF 3) 47 a0 c0 p0]) (ob := []) (by kernel_rfl) trivial fun a w hS => ?_
  refine wl_end ?_
  refine hK2 _ _ ?_
  refine k_seq (by kernel_rfl) fun K3 hK3 => ?_
  refine k_seq (by kernel_rfl) fun K4 hK4 => ?_
  refine k_reg 2 (by kernel_rfl) ?_
  refine r_run 0 2 [0, 1, 5, 12] [] hS rfl (L' := [(0, .slice a0 p0.length c0), (1, .func (.func gd) #[] cv.toArray), (5, .int .i64 ix), (12, .bool (ix == (-1 : Int)))]) (As' := [rowF (rawF 3) 47 a0 c0 p0]) (ob := []) (by kernel_rfl) trivial fun a w hS => ?_
  refine wl_end ?_
  refine hK4 _ _ ?_
  refine k_cond (ix == (-1 : Int)) hS.has (by kernel_rfl) (by kernel_rfl) (by kernel_rfl) (fun hq => ?_) (fun hq => ?_)
  · have hall : keepF p0 bs = p0 := by
      have hq : ix = -1 := of_decide_eq_true (p := ix = (-1 : Int)) (by simpa using hq)
      rcases hix with ⟨_, h⟩ | ⟨k, h, _⟩
      · exact keepF_all hbl h
      · omega
    rw [hall]
    refine k_seq (by kernel_rfl) fun K5 hK5 => ?_
    refine k_reg 2 (by kernel_rfl) ?_
    refine r_run 0 2 [4] [] hS rfl (L' := [(4, .slice a0 p0.length c0)]) (As' := [rowF (rawF 3) 47 a0 c0 p0]) (ob := []) (by kernel_rfl) trivial fun a w hS => ?_
    refine wl_end ?_
    refine hK5 _ _ ?_
    refine k_ret (by kernel_rfl) ?_
    try simp only [Exit.then, Exit.inBlock]
    refine r_ret hS [.tmp 4] [] (xs := [.slice a0 p0.length c0]) (ps := []) [0] [] rfl (by kernel_rfl) (fun hA => trivial) rfl (fun F up => trivial) ?_
    exact ⟨a0, c0, rfl, rfl, rfl⟩
  · have hne : ix ≠ -1 := fun e => by rw [e] at hq; simp at hq
    obtain ⟨k0, rfl, hb0, htk⟩ : ∃ k : Nat, ix = (k : Int) ∧ bs[k]? = some true ∧ ∀ y ∈ bs.take k, y = false := hix.resolve_left fun h => hne h.1
    obtain ⟨hk0, _⟩ := List.getElem?_eq_some_iff.1 hb0
    rw [hbl] at hk0
    obtain ⟨g, rfl⟩ := row_block (hS.st.own _ (List.mem_cons_self ..)) (by omega)
    refine k_skip (by kernel_rfl) ?_
    refine hK3 _ _ ?_
    refine k_seq (by kernel_rfl) fun K5 hK5 => ?_
    refine k_seq (by kernel_rfl) fun K6 hK6 => ?_
    refine k_reg 3 (by kernel_rfl) ?_
    refine r_run 0 3 [0, 1, 5, 6] [.as 15 (.int .i64 ((k0 + 1 : Nat) : Int))] hS rfl (L' := [(0, .slice (some ⟨g, 0, none⟩) p0.length c0), (1, .func (.func gd) #[] cv.toArray), (5, .int .i64 (k0 : Int)), (6, .int .i64 ((k0 + 1 : Nat) : Int))]) (As' := [rowF (rawF 3) 47 (some ⟨g, 0, none⟩) c0 p0]) (ob := [fun _ => Value.int .i64 (IntKind.wrap .i64 ((k0 : Int) + 1)) = .int .i64 ((k0 + 1 : Nat) : Int)]) (by kernel_rfl) ⟨Bx.c (congrArg (Value.int .i64) (wrap_s (by omega))), trivial⟩ fun a w hS => ?_
    refine wl_end ?_
    refine hK6 _ _ ?_
    refine k_blk (by kernel_rfl) ?_
    refine k_loop (by kernel_rfl) (fun q a w => ∃ (i j : Nat) (cur : List (Raw 3)), q + j = p0.length ∧ i < j ∧ cur.length = p0.length ∧ cur.take i = keepF (p0.take j) (bs.take j) ∧ cur.drop j = p0.drop j ∧ Sy C 42 a w [(0, .slice (some ⟨g, 0, none⟩) p0.length c0), (1, .func (.func gd) #[] cv.toArray), (5, .int .i64 (i : Int)), (6, .int .i64 (j : Int))] [rowF (rawF 3) 47 (some ⟨g, 0, none⟩) c0 cur] Pf)
      (p0.length - (k0 + 1)) ⟨k0, k0 + 1, p0, by omega, by omega, rfl, ?_, rfl, hS⟩ ?_
    · obtain ⟨x0, hx0⟩ : ∃ x, p0[k0]? = some x := ⟨_, List.getElem?_eq_getElem hk0⟩
      rw [List.take_add_one, List.take_add_one, hx0, hb0]
      simp only [Option.toList_some]
      rw [keepF_snoc (by rw [List.length_take, List.length_take, hbl]), keepF_all (by rw [List.length_take, List.length_take, hbl]) htk]
      simp
    · rintro q a w ⟨i, j, cur, hqj, hij, hcl, htake, hdrop, hS⟩ K hK
      have hil : i ≤ p0.length := by omega
      refine k_seq (by kernel_rfl) fun K7 hK7 => ?_
      refine k_seq (by kernel_rfl) fun K8 hK8 => ?_
      refine k_reg 4 (by kernel_rfl) ?_
      refine r_run 0 4 [0, 1, 5, 6, 19] [] hS rfl (L' := [(0, .slice (some ⟨g, 0, none⟩) p0.length c0), (1, .func (.func gd) #[] cv.toArray), (5, .int .i64 (i : Int)), (6, .int .i64 (j : Int)), (19, .bool (decide ((j : Int) < (p0.length : Int))))]) (As' := [rowF (rawF 3) 47 (some ⟨g, 0, none⟩) c0 cur]) (ob := []) (by kernel_rfl) trivial fun a w hS => ?_
      refine wl_end ?_
      refine hK8 _ _ ?_
      refine k_cond (decide ((j : Int) < (p0.length : Int))) hS.has (by kernel_rfl) (by kernel_rfl) (by kernel_rfl) (fun hq => ?_) (fun hq => ?_)
      · have hjl : j < p0.length := by have := of_decide_eq_true hq; omega
        obtain ⟨x, hxj⟩ : ∃ x, cur[j]? = some x := ⟨_, List.getElem?_eq_getElem (by omega)⟩
        have hxp : p0[j]? = some x := by
          have h1 : (cur.drop j)[0]? = some x := by rw [List.getElem?_drop]; simpa using hxj
          rw [hdrop, List.getElem?_drop] at h1
          simpa using h1
        obtain ⟨yb, hyb⟩ : ∃ y, bs[j]? = some y := ⟨_, List.getElem?_eq_getElem (by omega)⟩
        have hd := hD j x yb hxp hyb
        have hidx : idx cur (j : Int) = some x := by unfold idx; rw [if_pos (by omega)]; simpa using hxj
        obtain ⟨v0, v1, v2, hxv⟩ := len x
        rw [hxv] at hd
        have hone : ∀ u ∈ [v0, v1, v2], u.oneCell' = true := fun u hu => x.2.2 u (by rw [hxv]; exact hu)
        refine k_skip (by kernel_rfl) ?_
        refine hK7 _ _ ?_
        refine k_seq (by kernel_rfl) fun K9 hK9 => ?_
        refine k_blk (by kernel_rfl) ?_
        refine k_seq (by kernel_rfl) fun K10 hK10 => ?_
        refine k_reg 6 (by kernel_rfl) ?_
        refine r_run1 0 6 [0, 1, 5, 6, 7] [.row 0 [v0, v1, v2], .own 0 0] hS rfl (L' := fun u0 => [(0, .slice (some ⟨g, 0, none⟩) p0.length c0), (1, .func (.func gd) #[] cv.toArray), (5, .int .i64 (i : Int)), (6, .int .i64 (j : Int)), (7, newVal u0 none)]) (As' := fun u0 => [.box u0 [v0, v1, v2], rowF (rawF 3) 47 (some ⟨g, 0, none⟩) c0 cur])
          (ob := fun u0 => [fun _ => Inb (some ⟨g, 0, none⟩) p0.length (j : Int), fun _ => LoadOk (rowF (rawF 3) 47 (some ⟨g, 0, none⟩) c0 cur) ((baseOf (some ⟨g, 0, none⟩)).add ((j : Int).toNat * 3)) [v0, v1, v2], fun _ => (⟨u0, 0, none⟩ : Addr) = (⟨u0, 0, none⟩ : Addr).add 0, fun _ => ∀ u ∈ [v0, v1, v2], u.oneCell' = true]) (fun u0 => by kernel_rfl) (fun u0 => ⟨Bx.c ⟨by omega, by omega, by simp⟩, Bx.c (by have := loadRow (F := (rawF 3)) (e := 47) (a := some ⟨g, 0, none⟩) (c := c0) hidx; rw [← hxv]; exact this), Bx.c (add_zero' _).symm, Bx.c hone, trivial⟩) fun u0 a w hS => ?_
        refine wl_end ?_
        refine hK10 _ _ ?_
        refine k_seq (by kernel_rfl) fun K11 hK11 => ?_
        refine k_reg 4 (by kernel_rfl) ?_
        refine r_run 0 2 [0, 1, 5, 6, 7, 26, 27] [.own 0 0] hS rfl (L' := [(0, .slice (some ⟨g, 0, none⟩) p0.length c0), (1, .func (.func gd) #[] cv.toArray), (5, .int .i64 (i : Int)), (6, .int .i64 (j : Int)), (7, newVal u0 none), (26, .func (.func gd) #[] cv.toArray), (27, .agg #[v0, v1, v2])]) (As' := [.box u0 [v0, v1, v2], rowF (rawF 3) 47 (some ⟨g, 0, none⟩) c0 cur]) (ob := [fun _ => (⟨u0, 0, none⟩ : Addr) = (⟨u0, 0, none⟩ : Addr).add 0]) (by kernel_rfl) ⟨Bx.c (add_zero' _).symm, trivial⟩ fun a w hS => ?_
        refine r_call 2 rfl (d := some 28) (g := gd) (args := ([Value.agg #[v0, v1, v2]] ++ cv).toArray) [] hS (by kernel_rfl) rfl hd (fun F up => hfs hS up) ?_
        rintro v A' P' a w ⟨rfl, rfl, rfl⟩ hS
        refine r_run 3 1 [0, 1, 5, 6, 7, 29] [] hS rfl (L' := [(0, .slice (some ⟨g, 0, none⟩) p0.length c0), (1, .func (.func gd) #[] cv.toArray), (5, .int .i64 (i : Int)), (6, .int .i64 (j : Int)), (7, newVal u0 none), (29, .bool (!yb))]) (As' := [.box u0 [v0, v1, v2], rowF (rawF 3) 47 (some ⟨g, 0, none⟩) c0 cur]) (ob := []) (by kernel_rfl) trivial fun a w hS => ?_
        refine wl_end ?_
        refine hK11 _ _ ?_
        have hnext : ∀ (i' : Nat) (cur' : List (Raw 3)) (a : Act) (w : World), i' < j + 1 → cur'.length = p0.length → cur'.take i' = keepF (p0.take (j + 1)) (bs.take (j + 1)) → cur'.drop (j + 1) = p0.drop (j + 1) →
            Sy C 42 a w [(0, .slice (some ⟨g, 0, none⟩) p0.length c0), (1, .func (.func gd) #[] cv.toArray), (5, .int .i64 (i' : Int)), (6, .int .i64 (j : Int))] [rowF (rawF 3) 47 (some ⟨g, 0, none⟩) c0 cur'] Pf → K9 a w := fun i' cur' a w h1 h2 h3 h4 hS => by
          refine hK9 _ _ ?_
          refine k_reg 3 (by kernel_rfl) ?_
          refine r_run 0 3 [0, 1, 5, 6] [.as 21 (.int .i64 ((j + 1 : Nat) : Int))] hS rfl (L' := [(0, .slice (some ⟨g, 0, none⟩) p0.length c0), (1, .func (.func gd) #[] cv.toArray), (5, .int .i64 (i' : Int)), (6, .int .i64 ((j + 1 : Nat) : Int))]) (As' := [rowF (rawF 3) 47 (some ⟨g, 0, none⟩) c0 cur']) (ob := [fun _ => Value.int .i64 (IntKind.wrap .i64 ((j : Int) + 1)) = .int .i64 ((j + 1 : Nat) : Int)]) (by kernel_rfl) ⟨Bx.c (congrArg (Value.int .i64) (wrap_s (by omega))), trivial⟩ fun a w hS => ?_
          refine wl_end ?_
          exact hK (q - 1) _ _ (by omega) ⟨i', j + 1, cur', by omega, h1, h2, h3, h4, hS⟩
        have hpt : keepF (p0.take (j + 1)) (bs.take (j + 1)) = keepF (p0.take j) (bs.take j) ++ cond yb [] [x] := by
          rw [List.take_add_one, List.take_add_one, hxp, hyb]
          exact keepF_snoc (by rw [List.length_take, List.length_take, hbl])
        have hdr : ∀ cur' : List (Raw 3), cur'.drop j = x :: p0.drop (j + 1) → cur'.drop (j + 1) = p0.drop (j + 1) := fun cur' h => by
          rw [← List.drop_drop, h]; rfl
        have hpd : p0.drop j = x :: p0.drop (j + 1) := by
          rw [List.drop_eq_getElem_cons hjl]
          obtain ⟨_, he⟩ := List.getElem?_eq_some_iff.1 hxp
          rw [he]
        refine k_cond (!yb) hS.has (by kernel_rfl) (by kernel_rfl) (by kernel_rfl) (fun hbx => ?_) (fun hbx => ?_)
        · have hput : put cur (i : Int) x = some (cur.set i x) := by unfold put; rw [if_pos (by omega)]; rfl
          obtain ⟨y, hyi⟩ : ∃ y, idx cur (i : Int) = some y := ⟨cur[i]'(by omega), by unfold idx; rw [if_pos (by omega)]; simp⟩
          refine k_seq (by kernel_rfl) fun K12 hK12 => ?_
          refine k_reg 5 (by kernel_rfl) ?_
          refine r_run 0 5 [0, 1, 5, 6] [.own 0 0, .put 1 (rowF (rawF 3) 47 (some ⟨g, 0, none⟩) c0 (cur.set i x))] hS rfl (L' := [(0, .slice (some ⟨g, 0, none⟩) p0.length c0), (1, .func (.func gd) #[] cv.toArray), (5, .int .i64 (i : Int)), (6, .int .i64 (j : Int))]) (As' := [.box u0 [v0, v1, v2], rowF (rawF 3) 47 (some ⟨g, 0, none⟩) c0 (cur.set i x)])
            (ob := [fun _ => (⟨u0, 0, none⟩ : Addr) = (⟨u0, 0, none⟩ : Addr).add 0, fun _ => Inb (some ⟨g, 0, none⟩) p0.length (i : Int), fun _ => PutOk (rowF (rawF 3) 47 (some ⟨g, 0, none⟩) c0 cur) (rowF (rawF 3) 47 (some ⟨g, 0, none⟩) c0 (cur.set i x)) ((baseOf (some ⟨g, 0, none⟩)).add ((i : Int).toNat * 3)) [v0, v1, v2]]) (by kernel_rfl) ⟨Bx.c (add_zero' _).symm, Bx.c ⟨by omega, by omega, by simp⟩, Bx.c (by have := putRow (F := (rawF 3)) (e := 47) (a := some ⟨g, 0, none⟩) (c := c0) hyi hput (sl := (cur.set i x).length) (by simp); rw [← hxv]; exact this), trivial⟩ fun a w hS => ?_
          refine wl_end ?_
          refine hK12 _ _ ?_
          refine k_reg 3 (by kernel_rfl) ?_
          refine r_run 0 3 [0, 1, 5, 6] [.as 35 (.int .i64 ((i + 1 : Nat) : Int))] hS rfl (L' := [(0, .slice (some ⟨g, 0, none⟩) p0.length c0), (1, .func (.func gd) #[] cv.toArray), (5, .int .i64 ((i + 1 : Nat) : Int)), (6, .int .i64 (j : Int))]) (As' := [.box u0 [v0, v1, v2], rowF (rawF 3) 47 (some ⟨g, 0, none⟩) c0 (cur.set i x)]) (ob := [fun _ => Value.int .i64 (IntKind.wrap .i64 ((i : Int) + 1)) = .int .i64 ((i + 1 : Nat) : Int)]) (by kernel_rfl) ⟨Bx.c (congrArg (Value.int .i64) (wrap_s (by omega))), trivial⟩ fun a w hS => ?_
          refine wl_end ?_
          refine hnext (i + 1) (cur.set i x) _ _ (by omega) (by simp [hcl]) ?_ ?_ ((hS.perm (List.Perm.swap _ _ _)).sub (As := [_]) (Bs := [_]) fun _ h => h)
          · have hyf : yb = false := by simpa using hbx
            rw [hpt, ← htake, hyf, List.take_add_one, List.take_set_of_le (Nat.le_refl _), List.getElem?_set_self (by omega)]; rfl
          · exact hdr _ (by rw [List.drop_set_of_lt hij, hdrop, hpd])
        · refine k_skip (by kernel_rfl) ?_
          have hyt : yb = true := by simpa using hbx
          refine hnext i cur _ _ (by omega) hcl ?_ (hdr _ (by rw [hdrop, hpd])) (((hS.perm (List.Perm.swap _ _ _)).sub (As := [_]) (Bs := [_]) fun _ h => h).env4)
          rw [hpt, ← htake, hyt]
          simp
      · have hjl : j = p0.length := by have := of_decide_eq_false hq; omega
        subst hjl
        rw [List.take_length, show bs.take p0.length = bs from by rw [← hbl]; exact List.take_length] at htake
        refine k_exit 0 (by kernel_rfl) ?_
        try simp only [Exit.then, Exit.inBlock, if_true]
        refine hK5 _ _ ?_
        have hil2 : i = (keepF p0 bs).length := by rw [← htake, List.length_take]; omega
        have hs0 : slA (some (⟨g, 0, none⟩ : Addr)) i c0 ((rawF 3)).sz = some ⟨g, i * ((rawF 3)).sz, none⟩ := by
          unfold slA; rw [if_neg (by omega)]; simp only [Option.map_some, addr_add0]
        have hs1 : slA (some (⟨g, 0, none⟩ : Addr)) 0 c0 ((rawF 3)).sz = some ⟨g, 0, none⟩ := by
          unfold slA; rw [if_neg (by omega)]; simp only [Option.map_some, Nat.zero_mul, addr_add0]
        refine k_seq (by kernel_rfl) fun K7 hK7 => ?_
        refine k_reg 4 (by kernel_rfl) ?_
        refine r_run 0 3 [0, 5, 38] [.as 38 (.slice (some ⟨g, i * ((rawF 3)).sz, none⟩) (p0.length - i) (c0 - i))] hS rfl (L' := [(0, .slice (some ⟨g, 0, none⟩) p0.length c0), (5, .int .i64 (i : Int)), (38, .slice (some ⟨g, i * ((rawF 3)).sz, none⟩) (p0.length - i) (c0 - i))]) (As' := [rowF (rawF 3) 47 (some ⟨g, 0, none⟩) c0 cur]) (ob := [fun _ => 0 ≤ (i : Int) ∧ (i : Int) ≤ (p0.length : Int) ∧ (p0.length : Int) ≤ (c0 : Int), fun _ => Value.slice (slA (some ⟨g, 0, none⟩) i c0 ((rawF 3)).sz) (p0.length - i) (c0 - i) = .slice (some ⟨g, i * ((rawF 3)).sz, none⟩) (p0.length - i) (c0 - i)]) (by kernel_rfl) ⟨Bx.c ⟨by omega, by omega, by omega⟩, Bx.c (by rw [hs0]), trivial⟩ fun a w hS => ?_
        obtain ⟨ds, hd1, hd2, hd3, hd4⟩ := row_full (hS.st.own _ (List.mem_cons_self ..))
        replace hS := hS.same (B := .row (some ⟨g, 0, none⟩) c0 47 ((rawF 3)).sz c0 ds) 0 rfl (fun _ => hd4) rfl (by simp [Asn.fp])
        refine r_bltS 3 rfl 0 (.row (some ⟨g, 0, none⟩) c0 47 ((rawF 3)).sz c0 (spl ds (i * ((rawF 3)).sz) (Builtin.zeroCells ((Tryz.t47.zero).getD undef).cells (p0.length - i)).toList)) (d := none) (b := .clear) (ts := #[41]) (ty := 0) (vs := #[.slice (some ⟨g, i * ((rawF 3)).sz, none⟩) (p0.length - i) (c0 - i)]) hS (by kernel_rfl) rfl (fun hA => run_clear_row (t := 41) (ty := 0) (inf := Tryz.t47) (by kernel_rfl) (by kernel_rfl) (by kernel_rfl) (by kernel_rfl) (oneAll (by kernel_rfl)) hA (by rw [← Nat.add_mul]; exact Nat.mul_le_mul_right _ (by omega))) rfl (by simp [Asn.fp]) fun a w hS => ?_
        have hcut : (spl ds (i * ((rawF 3)).sz) (Builtin.zeroCells ((Tryz.t47.zero).getD undef).cells (p0.length - i)).toList).take (i * ((rawF 3)).sz) = (keepF p0 bs).flatMap ((rawF 3)).enc := by
          have hle : i * ((rawF 3)).sz ≤ ds.length := by rw [hd2]; exact Nat.mul_le_mul_right _ (by omega)
          have hle2 : i * ((rawF 3)).sz ≤ cur.length * ((rawF 3)).sz := Nat.mul_le_mul_right _ (by omega)
          unfold spl
          rw [List.append_assoc, List.take_left' (by rw [List.length_take]; omega), ← htake, flat_take, ← hd1, List.take_take, Nat.min_eq_left hle2]
        have hlen : (keepF p0 bs).length = i := by rw [← htake, List.length_take]; omega
        replace hS := hS.same (B := rowF (rawF 3) 47 (some ⟨g, 0, none⟩) c0 (keepF p0 bs)) 0 rfl (fun hA => by
          have := row_cut hA i (by omega)
          rw [hcut] at this
          unfold rowF
          rw [hlen]
          exact this) rfl (by simp [Asn.fp])
        refine wl_end ?_
        refine hK7 _ _ ?_
        refine k_seq (by kernel_rfl) fun K8 hK8 => ?_
        refine k_reg 4 (by kernel_rfl) ?_
        refine r_run 0 4 [4] [.as 41 (.slice (some ⟨g, 0, none⟩) i c0)] hS rfl (L' := [(4, .slice (some ⟨g, 0, none⟩) i c0)]) (As' := [rowF (rawF 3) 47 (some ⟨g, 0, none⟩) c0 (keepF p0 bs)]) (ob := [fun _ => (0 : Int) ≤ 0 ∧ (0 : Int) ≤ (i : Int) ∧ (i : Int) ≤ (c0 : Int), fun _ => Value.slice (slA (some ⟨g, 0, none⟩) 0 c0 ((rawF 3)).sz) (i - 0) (c0 - 0) = .slice (some ⟨g, 0, none⟩) i c0]) (by kernel_rfl) ⟨Bx.c ⟨by omega, by omega, by omega⟩, Bx.c (by rw [hs1]; rfl), trivial⟩ fun a w hS => ?_
        refine wl_end ?_
        refine hK8 _ _ ?_
        refine k_ret (by kernel_rfl) ?_
        try simp only [Exit.then, Exit.inBlock]
        refine r_ret hS [.tmp 4] [] (xs := [.slice (some ⟨g, 0, none⟩) i c0]) (ps := []) [0] [] rfl (by kernel_rfl) (fun hA => trivial) rfl (fun F up => trivial) ?_
        exact ⟨some ⟨g, 0, none⟩, c0, by rw [hlen]; rfl, rfl, rfl⟩
def slices_DeleteFunc_Wait_f110 (n : Nat) (p1_0 : Int) (q0 : List Wait) : Option (List Wait) := (slices_IndexFunc_Wait_f110 n q0 p1_0).bind fun z => delF (fun y => locks_without_1 n y p1_0) z q0
@[reducible] def slices_DeleteFunc_Wait_f110_ct : Ct tab := ⟨109, [.one (.own 0), .one (.fn 110 [.ro (.int .i64)])], [.row 47 (.st 2)], [.one (.own 0)], [(none, .row 47 (.st 2))], List Wait, fun y => (y, ()), fun y => y.1, fun _ => rfl, fun n x => slices_DeleteFunc_Wait_f110 n x.1 x.2.1⟩
theorem slices_DeleteFunc_Wait_f110_ok : OkC Tryz.prog tab slices_DeleteFunc_Wait_f110_ct := dlf_ok (i := 2) (cs := [.ro (.int .i64)]) (fI := fun n x => slices_IndexFunc_Wait_f110 n x.2.1 x.1) (fD := fun n x y => locks_without_1 n y x.1) (m := 3) tabOk rfl rfl Tryz.call109 Tryz.call87 Tryz.call110
  (fun n x z hz R w Ps v cv hst hv hcv => Calls.mono (slices_IndexFunc_Wait_f110_ok.2 n (x.2.1, x.1, ()) z hz R w rho0 [] Ps [v, .func (.func 110) #[] cv.toArray] hst (fun j g h => by cases h) ⟨hv, ⟨cv, rfl, hcv⟩, trivial⟩ trivial) fun e w' h => by
    obtain ⟨v1, ρ1, As1, Ps1, h1, h2, h3, _⟩ := h
    exact ⟨h1.trans (congrArg Ending.returned (show v1 = .int .i64 z from h2.1)), h3⟩)
  (fun n x y b hb R w Ps v cv hst hv hcv => Calls.mono (locks_without_1_ok.2 n (y, x.1, ()) b hb R w rho0 [] Ps (v :: cv) hst (fun j g h => by cases h) ⟨hv, capLs_rel hcv⟩ trivial) fun e w' h => by
    obtain ⟨v1, ρ1, As1, Ps1, h1, h2, h3, _⟩ := h
    exact ⟨h1.trans (congrArg Ending.returned (show v1 = .bool b from h2.1)), h3⟩) slices_DeleteFunc_Wait_raw
def locks_without_2 (n : Nat) (p0 : Hold) (p1 : Int) : Option Bool :=
 some (p0.txn == p1)
@[reducible] def locks_without_2_ct : Ct tab := ⟨112, [.st 1, .one (.ro (.int .i64))], [], [.one (.d .bool)], [], Bool, fun y => (y, ()), fun y => y.1, fun _ => rfl, fun n x => locks_without_2 n x.1 x.2.1⟩
theorem locks_without_2_ok : OkC Tryz.prog tab locks_without_2_ct := fn_ok (W := ⟨Tryz.prog, tab, tyOf, [], addO, dpO, false⟩) ⟨tabOk, trivial, addOk⟩ (by kernel_rfl) 8 Tryz.f112 (.n) Tryz.func112 Tryz.call112 rfl (by kernel_rfl) (by kernel_rfl) (by kernel_rfl) fun n x => by kernel_rfl
def slices_IndexFunc_Hold_f112_l1 (n : Nat) : Nat → (List Hold) × Int × Int × Int × Unit → Option Int := loopF fun r1 ⟨v1, v2, v3, v4, _⟩ =>
 cond (decide (v4 < v3))
 ((idx v1 v4).bind fun x5 =>
 (locks_without_2 n x5 v2).bind fun y6 =>
 cond y6
 (some v4)
 (r1 (v1, v2, v3, (IntKind.wrap .i64 (v4 + 1)), ())))
 (some (-1))
def slices_IndexFunc_Hold_f112 (n : Nat) (p0 : List Hold) (p1 : Int) : Option Int :=
 slices_IndexFunc_Hold_f112_l1 n n (p0, p1, (p0.length : Int), 0, ())
@[reducible] def slices_IndexFunc_Hold_f112_ct : Ct tab := ⟨100, [.one (.d (.sl (.st 1))), .one (.fn 112 [.ro (.int .i64)])], [], [.one (.d (.int .i64))], [], Int, fun y => (y, ()), fun y => y.1, fun _ => rfl, fun n x => slices_IndexFunc_Hold_f112 n x.1 x.2.1⟩
theorem slices_IndexFunc_Hold_f112_ok : OkC Tryz.prog tab slices_IndexFunc_Hold_f112_ct := fn_ok (W := ⟨Tryz.prog, tab, tyOf, [locks_without_2_ct], addO, dpO, false⟩) ⟨tabOk, ⟨locks_without_2_ok, trivial⟩, addOk⟩ (by kernel_rfl) 19 Tryz.f100 (.sq (.n) (.sq (.sq (.n) (.bk none (.lp ⟨[(0, .one (.d (.sl (.st 1)))), (1, .one (.fn 112 [.ro (.int .i64)])), (7, .one (.d (.int .i64))), (8, .one (.d (.int .i64)))], [], []⟩ (.n)))) (.n))) Tryz.func100 Tryz.call100 rfl (by kernel_rfl) (by kernel_rfl) (by kernel_rfl) fun n x => by kernel_rfl
theorem slices_DeleteFunc_Hold_raw {a0 : Option Addr} {c0 gd : Nat} {cv : List Value} {Pf PI : List (World → Prop)} (p0 : List (Raw 2)) (bs : List Bool) (hbl : bs.length = p0.length) (ix : Int)
    (hI : Meets Tryz.prog 100 #[.slice a0 p0.length c0, .func (.func gd) #[] cv.toArray] [] PI fun v A P => v = .int .i64 ix ∧ A = [] ∧ P = [])
    (hPI : ∀ (F : List Nat) (w : World), AllB F w Pf → Bx F w (fun w => (rowF (rawF 2) 45 a0 c0 p0).holds w) → AllB F w PI)
    (hix : (ix = -1 ∧ ∀ y ∈ bs, y = false) ∨ ∃ k : Nat, ix = (k : Int) ∧ bs[k]? = some true ∧ ∀ y ∈ bs.take k, y = false)
    (hD : ∀ (j : Nat) (x : (Raw 2)) (y : Bool), p0[j]? = some x → bs[j]? = some y → Meets Tryz.prog gd (([Value.agg x.1.toArray] ++ cv).toArray) [] Pf fun v A P => v = .bool y ∧ A = [] ∧ P = []) (hsm : p0.length < 4611686018427387904) :
    Meets Tryz.prog 111 #[.slice a0 p0.length c0, .func (.func gd) #[] cv.toArray] [rowF (rawF 2) 45 a0 c0 p0] Pf fun v A P => ∃ (a : Option Addr) (c : Nat), v = .slice a (keepF p0 bs).length c ∧ A = [rowF (rawF 2) 45 a c (keepF p0 bs)] ∧ P = [] := by
  have len : ∀ x : (Raw 2), ∃ v0 v1, x.1 = [v0, v1] := fun x => by
    have h := x.2.1
    generalize x.1 = l at h ⊢
    match l, h with
    | [v0, v1], _ => exact ⟨v0, v1, rfl⟩
  refine meets_enter 42 Tryz.func111 Tryz.call111 rfl (by kernel_rfl) (by simp) fun C a w hS => ?_
  have hc : p0.length ≤ c0 := (row_len (hS.st.own _ (List.mem_cons_self ..))).2.1
  have hfs : ∀ {F : List Nat} {a : Act} {w : World} {L : Env} {As : List Asn}, Sy C 42 a w L As Pf → Up C As w F → AllB F w Pf := fun {F a w L As} hS up => by
    have key : ∀ l : List (World → Prop), (∀ p ∈ l, Bx F w p) → AllB F w l := fun l => by
      induction l with
      | nil => intro _; trivial
      | cons p r ih => intro h; exact ⟨h p (by simp), ih fun q hq => h q (by simp [hq])⟩
    exact key _ fun p hp => up (hS.st.per p hp)
  refine k_seq (by kernel_rfl) fun K1 hK1 => ?_
  refine k_reg 1 (by kernel_rfl) ?_
  refine r_run 0 1 [0, 1] [] hS rfl (L' := [(0, .slice a0 p0.length c0), (1, .func (.func gd) #[] cv.toArray)]) (As' := [rowF (rawF 2) 45 a0 c0 p0]) (ob := []) (by kernel_rfl) trivial fun a w hS => ?_
  refine wl_end ?_
  refine hK1 _ _ ?_
  refine k_seq (by kernel_rfl) fun K2 hK2 => ?_
  refine k_reg 4 (by kernel_rfl) ?_
  refine r_run 0 2 [0, 1, 8, 9] [] hS rfl (L' := [(0, .slice a0 p0.length c0), (1, .func (.func gd) #[] cv.toArray), (8, .slice a0 p0.length c0), (9, .func (.func gd) #[] cv.toArray)]) (As' := [rowF (rawF 2) 45 a0 c0 p0]) (ob := []) (by kernel_rfl) trivial fun a w hS => ?_
  refine r_callX 2 rfl (d := some 10) (g := 100) (args := #[.slice a0 p0.length c0, .func (.func gd) #[] cv.toArray]) [] [0] hS (by kernel_rfl) rfl rfl hI (fun F up le => hPI F _ (hfs hS up) (le 0 rfl _ fun _ h => h)) ?_
  rintro v A' P' a w ⟨rfl, rfl, rfl⟩ hS
  refine r_run 3 1 [0, 1, 5] [] hS rfl (L' := [(0, .slice a0 p0.length c0), (1, .func (.func gd) #[] cv.toArray), (5, .int .i64 ix)]) (As' := [rowF (rawF 2) 45 a0 c0 p0]) (ob := []) (by kernel_rfl) trivial fun a w hS => ?_
  refine wl_end ?_
  refine hK2 _ _ ?_
  refine k_seq (by kernel_rfl) fun K3 hK3 => ?_
  refine k_seq (by kernel_rfl) fun K4 hK4 => ?_
  refine k_reg 2 (by kernel_rfl) ?_
  refine r_run 0 2 [0, 1, 5, 12] [] hS rfl (L' := [(0, .slice a0 p0.length c0), (1, .func (.func gd) #[] cv.toArray), (5, .int .i64 ix), (12, .bool (ix == (-1 : Int)))]) (As' := [rowF (rawF 2) 45 a0 c0 p0]) (ob := []) (by kernel_rfl) trivial fun a w hS => ?_
  refine wl_end ?_
  refine hK4 _ _ ?_
  refine k_cond (ix == (-1 : Int)) hS.has (by kernel_rfl) (by kernel_rfl) (by kernel_rfl) (fun hq => ?_) (fun hq => ?_)
  · have hall : keepF p0 bs = p0 := by
      have hq : ix = -1 := of_decide_eq_true (p := ix = (-1 : Int)) (by simpa using hq)
      rcases hix with ⟨_, h⟩ | ⟨k, h, _⟩
      · exact keepF_all hbl h
      · omega
    rw [hall]
    refine k_seq (by kernel_rfl) fun K5 hK5 => ?_
    refine k_reg 2 (by kernel_rfl) ?_
    refine r_run 0 2 [4] [] hS rfl (L' := [(4, .slice a0 p0.length c0)]) (As' := [rowF (rawF 2) 45 a0 c0 p0]) (ob := []) (by kernel_rfl) trivial fun a w hS => ?_
    refine wl_end ?_
    refine hK5 _ _ ?_
    refine k_ret (by kernel_rfl) ?_
    try simp only [Exit.then, Exit.inBlock]
    refine r_ret hS [.tmp 4] [] (xs := [.slice a0 p0.length c0]) (ps := []) [0] [] rfl (by kernel_rfl) (fun hA => trivial) rfl (fun F up => trivial) ?_
    exact ⟨a0, c0, rfl, rfl, rfl⟩
  · have hne : ix ≠ -1 := fun e => by rw [e] at hq; simp at hq
    obtain ⟨k0, rfl, hb0, htk⟩ : ∃ k : Nat, ix = (k : Int) ∧ bs[k]? = some true ∧ ∀ y ∈ bs.take k, y = false := hix.resolve_left fun h => hne h.1
    obtain ⟨hk0, _⟩ := List.getElem?_eq_some_iff.1 hb0
    rw [hbl] at hk0
    obtain ⟨g, rfl⟩ := row_block (hS.st.own _ (List.mem_cons_self ..)) (by omega)
    refine k_skip (by kernel_rfl) ?_
    refine hK3 _ _ ?_
    refine k_seq (by kernel_rfl) fun K5 hK5 => ?_
    refine k_seq (by kernel_rfl) fun K6 hK6 => ?_
    refine k_reg 3 (by kernel_rfl) ?_
    refine r_run 0 3 [0, 1, 5, 6] [.as 15 (.int .i64 ((k0 + 1 : Nat) : Int))] hS rfl (L' := [(0, .slice (some ⟨g, 0, none⟩) p0.length c0), (1, .func (.func gd) #[] cv.toArray), (5, .int .i64 (k0 : Int)), (6, .int .i64 ((k0 + 1 : Nat) : Int))]) (As' := [rowF (rawF 2) 45 (some ⟨g, 0, none⟩) c0 p0]) (ob := [fun _ => Value.int .i64 (IntKind.wrap .i64 ((k0 : Int) + 1)) = .int .i64 ((k0 + 1 : Nat) : Int)]) (by kernel_rfl) ⟨Bx.c (congrArg (Value.int .i64) (wrap_s (by omega))), trivial⟩ fun a w hS => ?_
    refine wl_end ?_
    refine hK6 _ _ ?_
    refine k_blk (by kernel_rfl) ?_
    refine k_loop (by kernel_rfl) (fun q a w => ∃ (i j : Nat) (cur : List (Raw 2)), q + j = p0.length ∧ i < j ∧ cur.length = p0.length ∧ cur.take i = keepF (p0.take j) (bs.take j) ∧ cur.drop j = p0.drop j ∧ Sy C 42 a w [(0, .slice (some ⟨g, 0, none⟩) p0.length c0), (1, .func (.func gd) #[] cv.toArray), (5, .int .i64 (i : Int)), (6, .int .i64 (j : Int))] [rowF (rawF 2) 45 (some ⟨g, 0, none⟩) c0 cur] Pf)
      (p0.length - (k0 + 1)) ⟨k0, k0 + 1, p0, by omega, by omega, rfl, ?_, rfl, hS⟩ ?_
    · obtain ⟨x0, hx0⟩ : ∃ x, p0[k0]? = some x := ⟨_, List.getElem?_eq_getElem hk0⟩
      rw [List.take_add_one, List.take_add_one, hx0, hb0]
      simp only [Option.toList_some]
      rw [keepF_snoc (by rw [List.length_take, List.length_take, hbl]), keepF_all (by rw [List.length_take, List.length_take, hbl]) htk]
      simp
    · rintro q a w ⟨i, j, cur, hqj, hij, hcl, htake, hdrop, hS⟩ K hK
      have hil : i ≤ p0.length := by omega
      refine k_seq (by kernel_rfl) fun K7 hK7 => ?_
      refine k_seq (by kernel_rfl) fun K8 hK8 => ?_
      refine k_reg 4 (by kernel_rfl) ?_
      refine r_run 0 4 [0, 1, 5, 6, 19] [] hS rfl (L' := [(0, .slice (some ⟨g, 0, none⟩) p0.length c0), (1, .func (.func gd) #[] cv.toArray), (5, .int .i64 (i : Int)), (6, .int .i64 (j : Int)), (19, .bool (decide ((j : Int) < (p0.length : Int))))]) (As' := [rowF (rawF 2) 45 (some ⟨g, 0, none⟩) c0 cur]) (ob := []) (by kernel_rfl) trivial fun a w hS => ?_
      refine wl_end ?_
      refine hK8 _ _ ?_
      refine k_cond (decide ((j : Int) < (p0.length : Int))) hS.has (by kernel_rfl) (by kernel_rfl) (by kernel_rfl) (fun hq => ?_) (fun hq => ?_)
      · have hjl : j < p0.length := by have := of_decide_eq_true hq; omega
        obtain ⟨x, hxj⟩ : ∃ x, cur[j]? = some x := ⟨_, List.getElem?_eq_getElem (by omega)⟩
        have hxp : p0[j]? = some x := by
          have h1 : (cur.drop j)[0]? = some x := by rw [List.getElem?_drop]; simpa using hxj
          rw [hdrop, List.getElem?_drop] at h1
          simpa using h1
        obtain ⟨yb, hyb⟩ : ∃ y, bs[j]? = some y := ⟨_, List.getElem?_eq_getElem (by omega)⟩
        have hd := hD j x yb hxp hyb
        have hidx : idx cur (j : Int) = some x := by unfold idx; rw [if_pos (by omega)]; simpa using hxj
        obtain ⟨v0, v1, hxv⟩ := len x
        rw [hxv] at hd
        have hone : ∀ u ∈ [v0, v1], u.oneCell' = true := fun u hu => x.2.2 u (by rw [hxv]; exact hu)
        refine k_skip (by kernel_rfl) ?_
        refine hK7 _ _ ?_
        refine k_seq (by kernel_rfl) fun K9 hK9 => ?_
        refine k_blk (by kernel_rfl) ?_
        refine k_seq (by kernel_rfl) fun K10 hK10 => ?_
        refine k_reg 6 (by kernel_rfl) ?_
        refine r_run1 0 6 [0, 1, 5, 6, 7] [.row 0 [v0, v1], .own 0 0] hS rfl (L' := fun u0 => [(0, .slice (some ⟨g, 0, none⟩) p0.length c0), (1, .func (.func gd) #[] cv.toArray), (5, .int .i64 (i : Int)), (6, .int .i64 (j : Int)), (7, newVal u0 none)]) (As' := fun u0 => [.box u0 [v0, v1], rowF (rawF 2) 45 (some ⟨g, 0, none⟩) c0 cur])
          (ob := fun u0 => [fun _ => Inb (some ⟨g, 0, none⟩) p0.length (j : Int), fun _ => LoadOk (rowF (rawF 2) 45 (some ⟨g, 0, none⟩) c0 cur) ((baseOf (some ⟨g, 0, none⟩)).add ((j : Int).toNat * 2)) [v0, v1], fun _ => (⟨u0, 0, none⟩ : Addr) = (⟨u0, 0, none⟩ : Addr).add 0, fun _ => ∀ u ∈ [v0, v1], u.oneCell' = true]) (fun u0 => by kernel_rfl) (fun u0 => ⟨Bx.c ⟨by omega, by omega, by simp⟩, Bx.c (by have := loadRow (F := (rawF 2)) (e := 45) (a := some ⟨g, 0, none⟩) (c := c0) hidx; rw [← hxv]; exact this), Bx.c (add_zero' _).symm, Bx.c hone, trivial⟩) fun u0 a w hS => ?_
        refine wl_end ?_
        refine hK10 _ _ ?_
        refine k_seq (by kernel_rfl) fun K11 hK11 => ?_
        refine k_reg 4 (by kernel_rfl) ?_
        refine r_run 0 2 [0, 1, 5, 6, 7, 26, 27] [.own 0 0] hS rfl (L' := [(0, .slice (some ⟨g, 0, none⟩) p0.length c0), (1, .func (.func gd) #[] cv.toArray), (5, .int .i64 (i : Int)), (6, .int .i64 (j : Int)), (7, newVal u0 none), (26, .func (.func gd) #[] cv.toArray), (27, .agg #[v0, v1])]) (As' := [.box u0 [v0, v1], rowF (rawF 2) 45 (some ⟨g, 0, none⟩) c0 cur]) (ob := [fun _ => (⟨u0, 0, none⟩ : Addr) = (⟨u0, 0, none⟩ : Addr).add 0]) (by kernel_rfl) ⟨Bx.c (add_zero' _).symm, trivial⟩ fun a w hS => ?_
        refine r_call 2 rfl (d := some 28) (g := gd) (args := ([Value.agg #[v0, v1]] ++ cv).toArray) [] hS (by kernel_rfl) rfl hd (fun F up => hfs hS up) ?_
        rintro v A' P' a w ⟨rfl, rfl, rfl⟩ hS
        refine r_run 3 1 [0, 1, 5, 6, 7, 29] [] hS rfl (L' := [(0, .slice (some ⟨g, 0, none⟩) p0.length c0), (1, .func (.func gd) #[] cv.toArray), (5, .int .i64 (i : Int)), (6, .int .i64 (j : Int)), (7, newVal u0 none), (29, .bool (!yb))]) (As' := [.box u0 [v0, v1], rowF (rawF 2) 45 (some ⟨g, 0, none⟩) c0 cur]) (ob := []) (by kernel_rfl) trivial fun a w hS => ?_
        refine wl_end ?_
        refine hK11 _ _ ?_
        have hnext : ∀ (i' : Nat) (cur' : List (Raw 2)) (a : Act) (w : World), i' < j + 1 → cur'.length = p0.length → cur'.take i' = keepF (p0.take (j + 1)) (bs.take (j + 1)) → cur'.drop (j + 1) = p0.drop (j + 1) →
            Sy C 42 a w [(0, .slice (some ⟨g, 0, none⟩) p0.length c0), (1, .func (.func gd) #[] cv.toArray), (5, .int .i64 (i' : Int)), (6, .int .i64 (j : Int))] [rowF (rawF 2) 45 (some ⟨g, 0, none⟩) c0 cur'] Pf → K9 a w := fun i' cur' a w h1 h2 h3 h4 hS => by
          refine hK9 _ _ ?_
          refine k_reg 3 (by kernel_rfl) ?_
          refine r_run 0 3 [0, 1, 5, 6] [.as 21 (.int .i64 ((j + 1 : Nat) : Int))] hS rfl (L' := [(0, .slice (some ⟨g, 0, none⟩) p0.length c0), (1, .func (.func gd) #[] cv.toArray), (5, .int .i64 (i' : Int)), (6, .int .i64 ((j + 1 : Nat) : Int))]) (As' := [rowF (rawF 2) 45 (some ⟨g, 0, none⟩) c0 cur']) (ob := [fun _ => Value.int .i64 (IntKind.wrap .i64 ((j : Int) + 1)) = .int .i64 ((j + 1 : Nat) : Int)]) (by kernel_rfl) ⟨Bx.c (congrArg (Value.int .i64) (wrap_s (by omega))), trivial⟩ fun a w hS => ?_
          refine wl_end ?_
          exact hK (q - 1) _ _ (by omega) ⟨i', j + 1, cur', by omega, h1, h2, h3, h4, hS⟩
        have hpt : keepF (p0.take (j + 1)) (bs.take (j + 1)) = keepF (p0.take j) (bs.take j) ++ cond yb [] [x] := by
          rw [List.take_add_one, List.take_add_one, hxp, hyb]
          exact keepF_snoc (by rw [List.length_take, List.length_take, hbl])
        have hdr : ∀ cur' : List (Raw 2), cur'.drop j = x :: p0.drop (j + 1) → cur'.drop (j + 1) = p0.drop (j + 1) := fun cur' h => by
          rw [← List.drop_drop, h]; rfl
        have hpd : p0.drop j = x :: p0.drop (j + 1) := by
          rw [List.drop_eq_getElem_cons hjl]
          obtain ⟨_, he⟩ := List.getElem?_eq_some_iff.1 hxp
          rw [he]
        refine k_cond (!yb) hS.has (by kernel_rfl) (by kernel_rfl) (by kernel_rfl) (fun hbx => ?_) (fun hbx => ?_)
        · have hput : put cur (i : Int) x = some (cur.set i x) := by unfold put; rw [if_pos (by omega)]; rfl
          obtain ⟨y, hyi⟩ : ∃ y, idx cur (i : Int) = some y := ⟨cur[i]'(by omega), by unfold idx; rw [if_pos (by omega)]; simp⟩
          refine k_seq (by kernel_rfl) fun K12 hK12 => ?_
          refine k_reg 5 (by kernel_rfl) ?_
          refine r_run 0 5 [0, 1, 5, 6] [.own 0 0, .put 1 (rowF (rawF 2) 45 (some ⟨g, 0, none⟩) c0 (cur.set i x))] hS rfl (L' := [(0, .slice (some ⟨g, 0, none⟩) p0.length c0), (1, .func (.func gd) #[] cv.toArray), (5, .int .i64 (i : Int)), (6, .int .i64 (j : Int))]) (As' := [.box u0 [v0, v1], rowF (rawF 2) 45 (some ⟨g, 0, none⟩) c0 (cur.set i x)])
            (ob := [fun _ => (⟨u0, 0, none⟩ : Addr) = (⟨u0, 0, none⟩ : Addr).add 0, fun _ => Inb (some ⟨g, 0, none⟩) p0.length (i : Int), fun _ => PutOk (rowF (rawF 2) 45 (some ⟨g, 0, none⟩) c0 cur) (rowF (rawF 2) 45 (some ⟨g, 0, none⟩) c0 (cur.set i x)) ((baseOf (some ⟨g, 0, none⟩)).add ((i : Int).toNat * 2)) [v0, v1]]) (by kernel_rfl) ⟨Bx.c (add_zero' _).symm, Bx.c ⟨by omega, by omega, by simp⟩, Bx.c (by have := putRow (F := (rawF 2)) (e := 45) (a := some ⟨g, 0, none⟩) (c := c0) hyi hput (sl := (cur.set i x).length) (by simp); rw [← hxv]; exact this), trivial⟩ fun a w hS => ?_
          refine wl_end ?_
          refine hK12 _ _ ?_
          refine k_reg 3 (by kernel_rfl) ?_
          refine r_run 0 3 [0, 1, 5, 6] [.as 35 (.int .i64 ((i + 1 : Nat) : Int))] hS rfl (L' := [(0, .slice (some ⟨g, 0, none⟩) p0.length c0), (1, .func (.func gd) #[] cv.toArray), (5, .int .i64 ((i + 1 : Nat) : Int)), (6, .int .i64 (j : Int))]) (As' := [.box u0 [v0, v1], rowF (rawF 2) 45 (some ⟨g, 0, none⟩) c0 (cur.set i x)]) (ob := [fun _ => Value.int .i64 (IntKind.wrap .i64 ((i : Int) + 1)) = .int .i64 ((i + 1 : Nat) : Int)]) (by kernel_rfl) ⟨Bx.c (congrArg (Value.int .i64) (wrap_s (by omega))), trivial⟩ fun a w hS => ?_
          refine wl_end ?_
          refine hnext (i + 1) (cur.set i x) _ _ (by omega) (by simp [hcl]) ?_ ?_ ((hS.perm (List.Perm.swap _ _ _)).sub (As := [_]) (Bs := [_]) fun _ h => h)
          · have hyf : yb = false := by simpa using hbx
            rw [hpt, ← htake, hyf, List.take_add_one, List.take_set_of_le (Nat.le_refl _), List.getElem?_set_self (by omega)]; rfl
          · exact hdr _ (by rw [List.drop_set_of_lt hij, hdrop, hpd])
        · refine k_skip (by kernel_rfl) ?_
          have hyt : yb = true := by simpa using hbx
          refine hnext i cur _ _ (by omega) hcl ?_ (hdr _ (by rw [hdrop, hpd])) (((hS.perm (List.Perm.swap _ _ _)).sub (As := [_]) (Bs := [_]) fun _ h => h).env4)
          rw [hpt, ← htake, hyt]
          simp
      · have hjl : j = p0.length := by have := of_decide_eq_false hq; omega
        subst hjl
        rw [List.take_length, show bs.take p0.length = bs from by rw [← hbl]; exact List.take_length] at htake
        refine k_exit 0 (by kernel_rfl) ?_
        try simp only [Exit.then, Exit.inBlock, if_true]
        refine hK5 _ _ ?_
        have hil2 : i = (keepF p0 bs).length := by rw [← htake, List.length_take]; omega
        have hs0 : slA (some (⟨g, 0, none⟩ : Addr)) i c0 ((rawF 2)).sz = some ⟨g, i * ((rawF 2)).sz, none⟩ := by
          unfold slA; rw [if_neg (by omega)]; simp only [Option.map_some, addr_add0]
        have hs1 : slA (some (⟨g, 0, none⟩ : Addr)) 0 c0 ((rawF 2)).sz = some ⟨g, 0, none⟩ := by
          unfold slA; rw [if_neg (by omega)]; simp only [Option.map_some, Nat.zero_mul, addr_add0]
        refine k_seq (by kernel_rfl) fun K7 hK7 => ?_
        refine k_reg 4 (by kernel_rfl) ?_
        refine r_run 0 3 [0, 5, 38] [.as 38 (.slice (some ⟨g, i * ((rawF 2)).sz, none⟩) (p0.length - i) (c0 - i))] hS rfl (L' := [(0, .slice (some ⟨g, 0, none⟩) p0.length c0), (5, .int .i64 (i : Int)), (38, .slice (some ⟨g, i * ((rawF 2)).sz, none⟩) (p0.length - i) (c0 - i))]) (As' := [rowF (rawF 2) 45 (some ⟨g, 0, none⟩) c0 cur]) (ob := [fun _ => 0 ≤ (i : Int) ∧ (i : Int) ≤ (p0.length : Int) ∧ (p0.length : Int) ≤ (c0 : Int), fun _ => Value.slice (slA (some ⟨g, 0, none⟩) i c0 ((rawF 2)).sz) (p0.length - i) (c0 - i) = .slice (some ⟨g, i * ((rawF 2)).sz, none⟩) (p0.length - i) (c0 - i)]) (by kernel_rfl) ⟨Bx.c ⟨by omega, by omega, by omega⟩, Bx.c (by rw [hs0]), trivial⟩ fun a w hS => ?_
        obtain ⟨ds, hd1, hd2, hd3, hd4⟩ := row_full (hS.st.own _ (List.mem_cons_self ..))
        replace hS := hS.same (B := .row (some ⟨g, 0, none⟩) c0 45 ((rawF 2)).sz c0 ds) 0 rfl (fun _ => hd4) rfl (by simp [Asn.fp])
        refine r_bltS 3 rfl 0 (.row (some ⟨g, 0, none⟩) c0 45 ((rawF 2)).sz c0 (spl ds (i * ((rawF 2)).sz) (Builtin.zeroCells ((Tryz.t45.zero).getD undef).cells (p0.length - i)).toList)) (d := none) (b := .clear) (ts := #[40]) (ty := 0) (vs := #[.slice (some ⟨g, i * ((rawF 2)).sz, none⟩) (p0.length - i) (c0 - i)]) hS (by kernel_rfl) rfl (fun hA => run_clear_row (t := 40) (ty := 0) (inf := Tryz.t45) (by kernel_rfl) (by kernel_rfl) (by kernel_rfl) (by kernel_rfl) (oneAll (by kernel_rfl)) hA (by rw [← Nat.add_mul]; exact Nat.mul_le_mul_right _ (by omega))) rfl (by simp [Asn.fp]) fun a w hS => ?_
        have hcut : (spl ds (i * ((rawF 2)).sz) (Builtin.zeroCells ((Tryz.t45.zero).getD undef).cells (p0.length - i)).toList).take (i * ((rawF 2)).sz) = (keepF p0 bs).flatMap ((rawF 2)).enc := by
          have hle : i * ((rawF 2)).sz ≤ ds.length := by rw [hd2]; exact Nat.mul_le_mul_right _ (by omega)
          have hle2 : i * ((rawF 2)).sz ≤ cur.length * ((rawF 2)).sz := Nat.mul_le_mul_right _ (by omega)
          unfold spl
          rw [List.append_assoc, List.take_left' (by rw [List.length_take]; omega), ← htake, flat_take, ← hd1, List.take_take, Nat.min_eq_left hle2]
        have hlen : (keepF p0 bs).length = i := by rw [← htake, List.length_take]; omega
        replace hS := hS.same (B := rowF (rawF 2) 45 (some ⟨g, 0, none⟩) c0 (keepF p0 bs)) 0 rfl (fun hA => by
          have := row_cut hA i (by omega)
          rw [hcut] at this
          unfold rowF
          rw [hlen]
          exact this) rfl (by simp [Asn.fp])
        refine wl_end ?_
        refine hK7 _ _ ?_
        refine k_seq (by kernel_rfl) fun K8 hK8 => ?_
        refine k_reg 4 (by kernel_rfl) ?_
        refine r_run 0 4 [4] [.as 41 (.slice (some ⟨g, 0, none⟩) i c0)] hS rfl (L' := [(4, .slice (some ⟨g, 0, none⟩) i c0)]) (As' := [rowF (rawF 2) 45 (some ⟨g, 0, none⟩) c0 (keepF p0 bs)]) (ob := [fun _ => (0 : Int) ≤ 0 ∧ (0 : Int) ≤ (i : Int) ∧ (i : Int) ≤ (c0 : Int), fun _ => Value.slice (slA (some ⟨g, 0, none⟩) 0 c0 ((rawF 2)).sz) (i - 0) (c0 - 0) = .slice (some ⟨g, 0, none⟩) i c0]) (by kernel_rfl) ⟨Bx.c ⟨by omega, by omega, by omega⟩, Bx.c (by rw [hs1]; rfl), trivial⟩ fun a w hS => ?_
        refine wl_end ?_
        refine hK8 _ _ ?_
        refine k_ret (by kernel_rfl) ?_
        try simp only [Exit.then, Exit.inBlock]
        refine r_ret hS [.tmp 4] [] (xs := [.slice (some ⟨g, 0, none⟩) i c0]) (ps := []) [0] [] rfl (by kernel_rfl) (fun hA => trivial) rfl (fun F up => trivial) ?_
        exact ⟨some ⟨g, 0, none⟩, c0, by rw [hlen]; rfl, rfl, rfl⟩
def slices_DeleteFunc_Hold_f112 (n : Nat) (p1_0 : Int) (q0 : List Hold) : Option (List Hold) := (slices_IndexFunc_Hold_f112 n q0 p1_0).bind fun z => delF (fun y => locks_without_2 n y p1_0) z q0
@[reducible] def slices_DeleteFunc_Hold_f112_ct : Ct tab := ⟨111, [.one (.own 0), .one (.fn 112 [.ro (.int .i64)])], [.row 45 (.st 1)], [.one (.own 0)], [(none, .row 45 (.st 1))], List Hold, fun y => (y, ()), fun y => y.1, fun _ => rfl, fun n x => slices_DeleteFunc_Hold_f112 n x.1 x.2.1⟩
theorem slices_DeleteFunc_Hold_f112_ok : OkC Tryz.prog tab slices_DeleteFunc_Hold_f112_ct := dlf_ok (i := 1) (cs := [.ro (.int .i64)]) (fI := fun n x => slices_IndexFunc_Hold_f112 n x.2.1 x.1) (fD := fun n x y => locks_without_2 n y x.1) (m := 2) tabOk rfl rfl Tryz.call111 Tryz.call100 Tryz.call112
  (fun n x z hz R w Ps v cv hst hv hcv => Calls.mono (slices_IndexFunc_Hold_f112_ok.2 n (x.2.1, x.1, ()) z hz R w rho0 [] Ps [v, .func (.func 112) #[] cv.toArray] hst (fun j g h => by cases h) ⟨hv, ⟨cv, rfl, hcv⟩, trivial⟩ trivial) fun e w' h => by
    obtain ⟨v1, ρ1, As1, Ps1, h1, h2, h3, _⟩ := h
    exact ⟨h1.trans (congrArg Ending.returned (show v1 = .int .i64 z from h2.1)), h3⟩)
  (fun n x y b hb R w Ps v cv hst hv hcv => Calls.mono (locks_without_2_ok.2 n (y, x.1, ()) b hb R w rho0 [] Ps (v :: cv) hst (fun j g h => by cases h) ⟨hv, capLs_rel hcv⟩ trivial) fun e w' h => by
    obtain ⟨v1, ρ1, As1, Ps1, h1, h2, h3, _⟩ := h
    exact ⟨h1.trans (congrArg Ending.returned (show v1 = .bool b from h2.1)), h3⟩) slices_DeleteFunc_Hold_raw
end
end Go.Proofs.YtndehfninoimgaaGreat
