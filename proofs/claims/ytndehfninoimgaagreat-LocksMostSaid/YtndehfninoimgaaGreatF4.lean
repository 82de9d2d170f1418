import Derived.Test.YtndehfninoimgaaGreatTypes
import Derived.Test.YtndehfninoimgaaGreatF3
namespace Go.Proofs.YtndehfninoimgaaGreat
open Go Go.Bur Go.RowKit
set_option linter.unusedVariables false
set_option linter.unusedSimpArgs false
set_option maxRecDepth 100000
noncomputable section
def ref08_held_l1 (n : Nat) : Nat → Int × (List Hold) × Int × Int × Unit → Option Int := loopF fun r1 ⟨v1, v2, v3, v4, _⟩ =>
 cond (decide (v4 < v3))
 ((idx v2 v4).bind fun x5 =>
 cond (x5.txn == v1)
 (some x5.mode)
 (r1 (v1, v2, v3, (IntKind.wrap .i64 (v4 + 1)), ())))
 (some 0)
def ref08_held (n : Nat) (p0 : Queue) (p1 : Int) : Option Int :=
 ref08_held_l1 n n (p1, p0.holders, (p0.holders.length : Int), 0, ())
@[reducible] def ref08_held_ct : Ct tab := ⟨53, [.st 3, .one (.d (.int .i64))], [], [.one (.d (.int .i64))], [], Int, fun y => (y, ()), fun y => y.1, fun _ => rfl, fun n x => ref08_held n x.1 x.2.1⟩
theorem ref08_held_ok : OkC Tryz.prog tab ref08_held_ct := fn_ok (W := ⟨Tryz.prog, tab, tyOf, [], addO, dpO, false⟩) ⟨tabOk, trivial, addOk⟩ (by kernel_rfl) 21 Tryz.f53 (.sq (.n) (.sq (.sq (.n) (.bk none (.lp ⟨[(1, .one (.d (.int .i64))), (8, .one (.d (.sl (.st 1)))), (9, .one (.d (.int .i64))), (10, .one (.d (.int .i64)))], [], []⟩ (.n)))) (.n))) Tryz.func53 Tryz.call53 rfl (by kernel_rfl) (by kernel_rfl) (by kernel_rfl) fun n x => by kernel_rfl
def ref08_RightQueue_l3 (n : Nat) (r2 : (List Wait) × Int × Int × Queue × Unit → Option Bool) : Nat → (List Wait) × Int × Int × (List Wait) × Int × Int × Queue × Wait × Unit → Option Bool := loopF fun r3 ⟨v40, v41, v42, v43, v44, v45, v46, v47, _⟩ =>
 cond (decide (v45 < v44))
 ((idx v43 v45).bind fun x48 =>
 cond (x48.txn == v47.txn)
 (some false)
 (r3 (v40, v41, v42, v43, v44, (IntKind.wrap .i64 (v45 + 1)), v46, v47, ())))
 (r2 (v40, v41, (IntKind.wrap .i64 (v42 + 1)), v46, ()))
def ref08_RightQueue_l2 (n : Nat) : Nat → (List Wait) × Int × Int × Queue × Unit → Option Bool := loopF fun r2 ⟨v21, v22, v23, v24, _⟩ =>
 cond (decide (v23 < v22))
 ((idx v21 v23).bind fun x25 =>
 (ref08_txn n x25.txn).bind fun y26 =>
 jn (fun (b27 : Bool) =>
 jn (fun (b29 : Bool) =>
 jn (fun (b31 : Bool) =>
 jn (fun (b33 : Bool) =>
 cond b33
 (some false)
 (jn (fun (b35 : Bool) =>
 jn (fun (b37 : Bool) =>
 cond b37
 (some false)
 ((sub v24.waiters 0 v23).bind fun l39 =>
 ref08_RightQueue_l3 n r2 n (v21, v22, v23, l39, (l39.length : Int), 0, v24, x25, ()))) fun k38 =>
 cond b35
 ((idx v24.waiters (IntKind.wrap .i64 (v23 - 1))).bind fun x49 =>
 k38 (x49.held == 0))
 (k38 false)) fun k36 =>
 cond (decide (v23 > 0))
 (k36 (x25.held != 0))
 (k36 false))) fun k34 =>
 cond b31
 (k34 true)
 ((ref07_Covers n x25.mode x25.held).bind fun y50 =>
 k34 (!y50))) fun k32 =>
 cond b29
 (k32 true)
 ((ref07_Covers n x25.held x25.mode).bind fun y51 =>
 k32 y51)) fun k30 =>
 cond b27
 (k30 true)
 ((ref08_held n v24 x25.txn).bind fun y52 =>
 k30 (x25.held != y52))) fun k28 =>
 cond (!y26)
 (k28 true)
 ((ref08_RightMode n v24.res x25.mode).bind fun y53 =>
 k28 (!y53)))
 (jn (fun (b54 : Bool) =>
 some b54) fun k55 =>
 cond ((v24.waiters.length : Int) == 0)
 (k55 true)
 ((idx v24.waiters 0).bind fun x56 =>
 (idx v24.waiters 0).bind fun x57 =>
 (ref08_goes n v24 x56.txn x57.mode).bind fun y58 =>
 k55 (!y58)))
def ref08_RightQueue_l1 (n : Nat) : Nat → (List Hold) × Int × Int × Queue × Unit → Option Bool := loopF fun r1 ⟨v4, v5, v6, v7, _⟩ =>
 cond (decide (v6 < v5))
 ((idx v4 v6).bind fun x8 =>
 (ref08_txn n x8.txn).bind fun y9 =>
 jn (fun (b10 : Bool) =>
 jn (fun (b12 : Bool) =>
 jn (fun (b14 : Bool) =>
 cond b14
 (some false)
 (r1 (v4, v5, (IntKind.wrap .i64 (v6 + 1)), v7, ()))) fun k15 =>
 cond b12
 (k15 true)
 ((ref08_goes n v7 x8.txn x8.mode).bind fun y16 =>
 k15 (!y16))) fun k13 =>
 cond b10
 (k13 true)
 ((ref08_RightMode n v7.res x8.mode).bind fun y17 =>
 k13 (!y17))) fun k11 =>
 cond (!y9)
 (k11 true)
 (jn (fun (b18 : Bool) =>
 k11 b18) fun k19 =>
 cond (decide (v6 > 0))
 ((idx v7.holders (IntKind.wrap .i64 (v6 - 1))).bind fun x20 =>
 k19 (decide (x20.txn ≥ x8.txn)))
 (k19 false)))
 (ref08_RightQueue_l2 n n (v7.waiters, (v7.waiters.length : Int), 0, v7, ()))
def ref08_RightQueue (n : Nat) (p0 : Queue) : Option Bool :=
 (ref08_RightRes n p0.res).bind fun y1 =>
 jn (fun (b2 : Bool) =>
 cond b2
 (some false)
 (ref08_RightQueue_l1 n n (p0.holders, (p0.holders.length : Int), 0, p0, ()))) fun k3 =>
 cond (!y1)
 (k3 true)
 (k3 ((p0.holders.length : Int) == 0))
@[reducible] def ref08_RightQueue_ct : Ct tab := ⟨45, [.st 3], [], [.one (.d .bool)], [], Bool, fun y => (y, ()), fun y => y.1, fun _ => rfl, fun n x => ref08_RightQueue n x.1⟩
theorem ref08_RightQueue_ok : OkC Tryz.prog tab ref08_RightQueue_ct := fn_ok (W := ⟨Tryz.prog, tab, tyOf, [ref08_RightRes_ct, ref08_txn_ct, ref08_goes_ct, ref08_RightMode_ct, ref07_Covers_ct, ref08_held_ct], addO, dpO, false⟩) ⟨tabOk, ⟨ref08_RightRes_ok, ref08_txn_ok, ref08_goes_ok, ref08_RightMode_ok, ref07_Covers_ok, ref08_held_ok, trivial⟩, addOk⟩ (by kernel_rfl) 161 Tryz.f45 (.sq (.n) (.sq (.n) (.sq (.sq (.n) (.bk none (.lp ⟨[(1, .one (.box 0 0)), (20, .one (.d (.sl (.st 1)))), (21, .one (.d (.int .i64))), (22, .one (.d (.int .i64)))], [.bst 3], []⟩ (.n)))) (.sq (.sq (.n) (.bk none (.lp ⟨[(1, .one (.box 0 0)), (66, .one (.d (.sl (.st 2)))), (67, .one (.d (.int .i64))), (68, .one (.d (.int .i64)))], [.bst 3], []⟩ (.sq (.n) (.sq (.n) (.sq (.bk none (.sq (.n) (.sq (.n) (.sq (.n) (.sq (.n) (.bk none (.lp ⟨[(1, .one (.box 0 0)), (6, .one (.box 1 0)), (66, .one (.d (.sl (.st 2)))), (67, .one (.d (.int .i64))), (68, .one (.d (.int .i64))), (129, .one (.d (.sl (.st 2)))), (130, .one (.d (.int .i64))), (131, .one (.d (.int .i64)))], [.bst 3, .bst 2], []⟩ (.n)))))))) (.n))))))) (.n))))) Tryz.func45 Tryz.call45 rfl (by kernel_rfl) (by kernel_rfl) (by kernel_rfl) fun n x => by kernel_rfl
def ref08_order_j1 (n : Nat) : Int × Unit → Option Int := fun ⟨v1, _⟩ =>
 some v1
def ref08_order (n : Nat) (p0 : Res) : Option Int :=
 jn (ref08_order_j1 n) fun j1 =>
 cond p0.isKey
 (j1 ((IntKind.wrap .i64 ((IntKind.wrap .i64 (p0.table * 100000)) + (IntKind.wrap .i64 (1 + (IntKind.wrap .i64 p0.id))))), ()))
 (j1 ((IntKind.wrap .i64 (p0.table * 100000)), ()))
@[reducible] def ref08_order_ct : Ct tab := ⟨46, [.st 0], [], [.one (.d (.int .i64))], [], Int, fun y => (y, ()), fun y => y.1, fun _ => rfl, fun n x => ref08_order n x.1⟩
theorem ref08_order_ok : OkC Tryz.prog tab ref08_order_ct := fn_ok (W := ⟨Tryz.prog, tab, tyOf, [], addO, dpO, false⟩) ⟨tabOk, trivial, addOk⟩ (by kernel_rfl) 16 Tryz.f46 (.sq (.n) (.sq (.n) (.sq (.sq (.n) (.cd (some ⟨[(3, .one (.d (.int .i64)))], [], []⟩) (.n) (.n))) (.n)))) Tryz.func46 Tryz.call46 rfl (by kernel_rfl) (by kernel_rfl) (by kernel_rfl) fun n x => by kernel_rfl
def ref08_Right_l2 (n : Nat) (r1 : (List Queue) × Int × Int × Locks × (List (Int × Bool)) × Unit → Option Bool) : Nat → (List Queue) × Int × Int × (List Wait) × Int × Int × Locks × (List (Int × Bool)) × Unit → Option Bool := loopF fun r2 ⟨v10, v11, v12, v13, v14, v15, v16, v17, _⟩ =>
 cond (decide (v15 < v14))
 ((idx v13 v15).bind fun x18 =>
 (mlook .i64 false v17 x18.txn).bind fun w19 =>
 cond w19
 (some false)
 ((mput .i64 v17 x18.txn true).bind fun l20 =>
 r2 (v10, v11, v12, v13, v14, (IntKind.wrap .i64 (v15 + 1)), v16, l20, ())))
 (r1 (v10, v11, (IntKind.wrap .i64 (v12 + 1)), v16, v17, ()))
def ref08_Right_l1 (n : Nat) : Nat → (List Queue) × Int × Int × Locks × (List (Int × Bool)) × Unit → Option Bool := loopF fun r1 ⟨v1, v2, v3, v4, v5, _⟩ =>
 cond (decide (v3 < v2))
 ((idx v1 v3).bind fun x6 =>
 (ref08_RightQueue n x6).bind fun y7 =>
 jn (fun (b8 : Bool) =>
 cond b8
 (some false)
 (ref08_Right_l2 n r1 n (v1, v2, v3, x6.waiters, (x6.waiters.length : Int), 0, v4, v5, ()))) fun k9 =>
 cond (!y7)
 (k9 true)
 (jn (fun (b21 : Bool) =>
 k9 b21) fun k22 =>
 cond (decide (v3 > 0))
 ((idx v4.queues (IntKind.wrap .i64 (v3 - 1))).bind fun x23 =>
 (ref08_order n x23.res).bind fun y24 =>
 (ref08_order n x6.res).bind fun y25 =>
 k22 (decide (y24 ≥ y25)))
 (k22 false)))
 (some true)
def ref08_Right (n : Nat) (p0 : Locks) : Option Bool :=
 cond (decide ((p0.queues.length : Int) > 500))
 (some false)
 (ref08_Right_l1 n n (p0.queues, (p0.queues.length : Int), 0, p0, ([] : List (Int × Bool)), ()))
@[reducible] def ref08_Right_ct : Ct tab := ⟨20, [.st 4], [], [.one (.d .bool)], [], Bool, fun y => (y, ()), fun y => y.1, fun _ => rfl, fun n x => ref08_Right n x.1⟩
theorem ref08_Right_ok : OkC Tryz.prog tab ref08_Right_ct := fn_ok (W := ⟨Tryz.prog, tab, tyOf, [ref08_RightQueue_ct, ref08_order_ct], addO, dpO, false⟩) ⟨tabOk, ⟨ref08_RightQueue_ok, ref08_order_ok, trivial⟩, addOk⟩ (by kernel_rfl) 58 Tryz.f20 (.sq (.n) (.sq (.n) (.sq (.n) (.sq (.sq (.n) (.bk none (.lp ⟨[(1, .one (.box 0 0)), (3, .one (.map 1)), (14, .one (.d (.sl (.st 3)))), (15, .one (.d (.int .i64))), (16, .one (.d (.int .i64)))], [.bst 4, .map .i64 3 4 .bool], []⟩ (.sq (.n) (.sq (.n) (.sq (.bk none (.sq (.n) (.sq (.n) (.sq (.n) (.bk none (.lp ⟨[(1, .one (.box 0 0)), (3, .one (.map 1)), (14, .one (.d (.sl (.st 3)))), (15, .one (.d (.int .i64))), (16, .one (.d (.int .i64))), (43, .one (.d (.sl (.st 2)))), (44, .one (.d (.int .i64))), (45, .one (.d (.int .i64)))], [.bst 4, .map .i64 3 4 .bool], []⟩ (.n))))))) (.n))))))) (.n))))) Tryz.func20 Tryz.call20 rfl (by kernel_rfl) (by kernel_rfl) (by kernel_rfl) fun n x => by kernel_rfl
def ref08_holds_j3 (n : Nat) (r1 : Int × Int × Bool × (List Hold) × Int × Int × Queue × Queue × (List Hold) × Unit → Option Queue) : Int × Int × Bool × (List Hold) × Int × Int × Queue × Queue × (List Hold) × Unit → Option Queue := fun ⟨v25, v26, v27, v28, v29, v30, v31, v32, v33, _⟩ =>
 r1 (v25, v26, v27, v28, v29, (IntKind.wrap .i64 (v30 + 1)), v31, v32, v33, ())
def ref08_holds_j2 (n : Nat) (r1 : Int × Int × Bool × (List Hold) × Int × Int × Queue × Queue × (List Hold) × Unit → Option Queue) : Int × Int × Bool × (List Hold) × Int × Int × Queue × Queue × (List Hold) × Hold × Unit → Option Queue := fun ⟨v14, v15, v16, v17, v18, v19, v20, v21, v22, v23, _⟩ =>
 jn (ref08_holds_j3 n r1) fun j3 =>
 cond (v23.txn != v14)
 ((app 16 v22 ([v23] : List Hold)).bind fun l34 =>
 j3 (v14, v15, v16, v17, v18, v19, v20, v21, l34, ()))
 (j3 (v14, v15, v16, v17, v18, v19, v20, v21, v22, ()))
def ref08_holds_j4 (n : Nat) : Queue × Queue × (List Hold) × Unit → Option Queue := fun ⟨v37, v38, v39, _⟩ =>
 some (Queue.mk v37.res v39 v37.waiters)
def ref08_holds_l1 (n : Nat) : Nat → Int × Int × Bool × (List Hold) × Int × Int × Queue × Queue × (List Hold) × Unit → Option Queue := loopF fun r1 ⟨v1, v2, v3, v4, v5, v6, v7, v8, v9, _⟩ =>
 cond (decide (v6 < v5))
 ((idx v4 v6).bind fun x10 =>
 jn (fun (b11 : Bool) =>
 jn (ref08_holds_j2 n r1) fun j2 =>
 cond b11
 ((app 16 v9 ([(Hold.mk v1 v2)] : List Hold)).bind fun l35 =>
 j2 (v1, v2, true, v4, v5, v6, v7, v8, l35, x10, ()))
 (j2 (v1, v2, v3, v4, v5, v6, v7, v8, v9, x10, ()))) fun k12 =>
 cond (!v3)
 (k12 (decide (x10.txn ≥ v1)))
 (k12 false))
 (jn (ref08_holds_j4 n) fun j4 =>
 cond (!v3)
 ((app 16 v9 ([(Hold.mk v1 v2)] : List Hold)).bind fun l40 =>
 j4 (v7, v8, l40, ()))
 (j4 (v7, v8, v9, ())))
def ref08_holds (n : Nat) (p0 : Queue) (p1 : Int) (p2 : Int) : Option Queue :=
 ref08_holds_l1 n n (p1, p2, false, p0.holders, (p0.holders.length : Int), 0, p0, (Queue.mk (Res.mk 0 false 0) ([] : List Hold) ([] : List Wait)), ([] : List Hold), ())
@[reducible] def ref08_holds_ct : Ct tab := ⟨76, [.st 3, .one (.d (.int .i64)), .one (.d (.int .i64))], [], [.st 3], [], Queue, fun y => (y, ()), fun y => y.1, fun _ => rfl, fun n x => ref08_holds n x.1 x.2.1 x.2.2.1⟩
theorem ref08_holds_ok : OkC Tryz.prog tab ref08_holds_ct := fn_ok (W := ⟨Tryz.prog, tab, tyOf, [], addO, dpO, false⟩) ⟨tabOk, trivial, addOk⟩ (by kernel_rfl) 52 Tryz.f76 (.sq (.n) (.sq (.n) (.sq (.n) (.sq (.sq (.n) (.bk none (.lp ⟨[(1, .one (.d (.int .i64))), (2, .one (.d (.int .i64))), (3, .one (.box 0 0)), (6, .one (.box 1 0)), (7, .one (.own 2)), (8, .one (.d .bool)), (12, .one (.d (.sl (.st 1)))), (13, .one (.d (.int .i64))), (14, .one (.d (.int .i64)))], [.bst 3, .bst 3, .row 45 (.st 1)], []⟩ (.sq (.n) (.sq (.n) (.sq (.bk none (.sq (.n) (.sq (.sq (.n) (.cd (some ⟨[(1, .one (.d (.int .i64))), (2, .one (.d (.int .i64))), (3, .one (.box 0 0)), (6, .one (.box 1 0)), (7, .one (.own 2)), (8, .one (.d .bool)), (10, .one (.box 3 0)), (12, .one (.d (.sl (.st 1)))), (13, .one (.d (.int .i64))), (14, .one (.d (.int .i64)))], [.bst 3, .bst 3, .row 45 (.st 1), .bst 1], []⟩) (.n) (.n))) (.sq (.n) (.cd (some ⟨[(1, .one (.d (.int .i64))), (2, .one (.d (.int .i64))), (3, .one (.box 0 0)), (6, .one (.box 1 0)), (7, .one (.own 2)), (8, .one (.d .bool)), (12, .one (.d (.sl (.st 1)))), (13, .one (.d (.int .i64))), (14, .one (.d (.int .i64)))], [.bst 3, .bst 3, .row 45 (.st 1)], []⟩) (.n) (.n)))))) (.n))))))) (.sq (.sq (.n) (.cd (some ⟨[(3, .one (.box 0 0)), (6, .one (.box 1 0)), (7, .one (.own 2))], [.bst 3, .bst 3, .row 45 (.st 1)], []⟩) (.n) (.n))) (.n)))))) Tryz.func76 Tryz.call76 rfl (by kernel_rfl) (by kernel_rfl) (by kernel_rfl) fun n x => by kernel_rfl
def ref08_pumped_l1 (n : Nat) : Nat → Queue × Queue × (List Int) × Unit → Option (Queue × (List Int)) := loopF fun r1 ⟨v1, v2, v3, _⟩ =>
 jn (fun (b4 : Bool) =>
 cond b4
 ((idx v1.waiters 0).bind fun x6 =>
 (ref08_holds n v1 x6.txn x6.mode).bind fun y7 =>
 (sub y7.waiters 1 (y7.waiters.length : Int)).bind fun l8 =>
 (app 8 v3 ([x6.txn] : List Int)).bind fun l9 =>
 r1 ((Queue.mk y7.res y7.holders l8), v2, l9, ()))
 (some (v1, v3))) fun k5 =>
 cond (decide ((v1.waiters.length : Int) > 0))
 ((idx v1.waiters 0).bind fun x10 =>
 (idx v1.waiters 0).bind fun x11 =>
 (ref08_goes n v1 x10.txn x11.mode).bind fun y12 =>
 k5 y12)
 (k5 false)
def ref08_pumped (n : Nat) (p0 : Queue) : Option (Queue × (List Int)) :=
 ref08_pumped_l1 n n (p0, (Queue.mk (Res.mk 0 false 0) ([] : List Hold) ([] : List Wait)), ([] : List Int), ())
@[reducible] def ref08_pumped_ct : Ct tab := ⟨116, [.st 3], [], [.st 3, .one (.own 0)], [(none, .row 3 (.int .i64))], (Queue × (List Int)), fun y => (y.1, y.2, ()), fun y => (y.1, y.2.1), fun _ => rfl, fun n x => ref08_pumped n x.1⟩
theorem ref08_pumped_ok : OkC Tryz.prog tab ref08_pumped_ct := fn_ok (W := ⟨Tryz.prog, tab, tyOf, [ref08_holds_ct, ref08_goes_ct], addO, dpO, false⟩) ⟨tabOk, ⟨ref08_holds_ok, ref08_goes_ok, trivial⟩, addOk⟩ (by kernel_rfl) 45 Tryz.f116 (.sq (.n) (.sq (.n) (.sq (.bk none (.lp ⟨[(1, .one (.box 0 0)), (2, .one (.box 1 0)), (4, .one (.own 2))], [.bst 3, .bst 3, .row 3 (.int .i64)], []⟩ (.n))) (.n)))) Tryz.func116 Tryz.call116 rfl (by kernel_rfl) (by kernel_rfl) (by kernel_rfl) fun n x => by kernel_rfl
def ref08_without_j3 (n : Nat) (r2 : Int × Bool × (List Queue) × Int × Int × (List Hold) × Int × Int × Locks × (List Int) × Queue × Int × Bool × Int × (List Queue) × (List Hold) × (List Wait) × Unit → Option (Locks × (List Int))) : Int × Bool × (List Queue) × Int × Int × (List Hold) × Int × Int × Locks × (List Int) × Queue × Int × Bool × Int × (List Queue) × (List Hold) × (List Wait) × Unit → Option (Locks × (List Int)) := fun ⟨v31, v32, v33, v34, v35, v36, v37, v38, v39, v40, v41, v42, v43, v44, v45, v46, v47, _⟩ =>
 r2 (v31, v32, v33, v34, v35, v36, v37, (IntKind.wrap .i64 (v38 + 1)), v39, v40, v41, v42, v43, v44, v45, v46, v47, ())
def ref08_without_j5 (n : Nat) (r4 : Int × Bool × (List Queue) × Int × Int × (List Wait) × Int × Int × Locks × (List Int) × Int × Bool × Int × (List Queue) × (List Hold) × (List Wait) × Unit → Option (Locks × (List Int))) : Int × Bool × (List Queue) × Int × Int × (List Wait) × Int × Int × Locks × (List Int) × Int × Bool × Int × (List Queue) × (List Hold) × (List Wait) × Unit → Option (Locks × (List Int)) := fun ⟨v67, v68, v69, v70, v71, v72, v73, v74, v75, v76, v77, v78, v79, v80, v81, v82, _⟩ =>
 r4 (v67, v68, v69, v70, v71, v72, v73, (IntKind.wrap .i64 (v74 + 1)), v75, v76, v77, v78, v79, v80, v81, v82, ())
def ref08_without_j6 (n : Nat) (r1 : Int × Bool × (List Queue) × Int × Int × Locks × (List Int) × (List Queue) × Unit → Option (Locks × (List Int))) : Int × Bool × (List Queue) × Int × Int × Locks × (List Int) × (List Queue) × Unit → Option (Locks × (List Int)) := fun ⟨v87, v88, v89, v90, v91, v92, v93, v94, _⟩ =>
 r1 (v87, v88, v89, v90, (IntKind.wrap .i64 (v91 + 1)), v92, v93, v94, ())
def ref08_without_l4 (n : Nat) (r1 : Int × Bool × (List Queue) × Int × Int × Locks × (List Int) × (List Queue) × Unit → Option (Locks × (List Int))) : Nat → Int × Bool × (List Queue) × Int × Int × (List Wait) × Int × Int × Locks × (List Int) × Int × Bool × Int × (List Queue) × (List Hold) × (List Wait) × Unit → Option (Locks × (List Int)) := loopF fun r4 ⟨v49, v50, v51, v52, v53, v54, v55, v56, v57, v58, v59, v60, v61, v62, v63, v64, _⟩ =>
 cond (decide (v56 < v55))
 ((idx v54 v56).bind fun x65 =>
 jn (ref08_without_j5 n r4) fun j5 =>
 cond (x65.txn != v49)
 ((app 24 v64 ([x65] : List Wait)).bind fun l83 =>
 j5 (v49, v50, v51, v52, v53, v54, v55, v56, v57, v58, v59, v60, v61, v62, v63, l83, ()))
 (j5 (v49, v50, v51, v52, v53, v54, v55, v56, v57, v58, v59, v60, v61, v62, v63, v64, ())))
 ((ref08_pumped n (Queue.mk (Res.mk v59 v60 v61) v63 v64)).bind fun y84 =>
 (app 8 v58 y84.2).bind fun l85 =>
 jn (ref08_without_j6 n r1) fun j6 =>
 cond (decide ((y84.1.holders.length : Int) > 0))
 ((app 64 v62 ([y84.1] : List Queue)).bind fun l95 =>
 j6 (v49, v50, v51, v52, v53, v57, l85, l95, ()))
 (j6 (v49, v50, v51, v52, v53, v57, l85, v62, ())))
def ref08_without_l2 (n : Nat) (r1 : Int × Bool × (List Queue) × Int × Int × Locks × (List Int) × (List Queue) × Unit → Option (Locks × (List Int))) : Nat → Int × Bool × (List Queue) × Int × Int × (List Hold) × Int × Int × Locks × (List Int) × Queue × Int × Bool × Int × (List Queue) × (List Hold) × (List Wait) × Unit → Option (Locks × (List Int)) := loopF fun r2 ⟨v10, v11, v12, v13, v14, v15, v16, v17, v18, v19, v20, v21, v22, v23, v24, v25, v26, _⟩ =>
 cond (decide (v17 < v16))
 ((idx v15 v17).bind fun x27 =>
 jn (fun (b28 : Bool) =>
 jn (ref08_without_j3 n r2) fun j3 =>
 cond b28
 ((app 16 v25 ([x27] : List Hold)).bind fun l48 =>
 j3 (v10, v11, v12, v13, v14, v15, v16, v17, v18, v19, v20, v21, v22, v23, v24, l48, v26, ()))
 (j3 (v10, v11, v12, v13, v14, v15, v16, v17, v18, v19, v20, v21, v22, v23, v24, v25, v26, ()))) fun k29 =>
 cond (x27.txn != v10)
 (k29 true)
 (k29 (!v11)))
 (ref08_without_l4 n r1 n (v10, v11, v12, v13, v14, v20.waiters, (v20.waiters.length : Int), 0, v18, v19, v21, v22, v23, v24, v25, v26, ()))
def ref08_without_l1 (n : Nat) : Nat → Int × Bool × (List Queue) × Int × Int × Locks × (List Int) × (List Queue) × Unit → Option (Locks × (List Int)) := loopF fun r1 ⟨v1, v2, v3, v4, v5, v6, v7, v8, _⟩ =>
 cond (decide (v5 < v4))
 ((idx v3 v5).bind fun x9 =>
 ref08_without_l2 n r1 n (v1, v2, v3, v4, v5, x9.holders, (x9.holders.length : Int), 0, v6, v7, x9, x9.res.table, x9.res.isKey, x9.res.id, v8, ([] : List Hold), ([] : List Wait), ()))
 (some ((Locks.mk v8), v7))
def ref08_without (n : Nat) (p0 : Locks) (p1 : Int) (p2 : Bool) : Option (Locks × (List Int)) :=
 ref08_without_l1 n n (p1, p2, p0.queues, (p0.queues.length : Int), 0, (Locks.mk ([] : List Queue)), ([] : List Int), ([] : List Queue), ())
@[reducible] def ref08_without_ct : Ct tab := ⟨70, [.st 4, .one (.d (.int .i64)), .one (.d .bool)], [], [.st 4, .one (.own 0)], [(none, .row 3 (.int .i64))], (Locks × (List Int)), fun y => (y.1, y.2, ()), fun y => (y.1, y.2.1), fun _ => rfl, fun n x => ref08_without n x.1 x.2.1 x.2.2.1⟩
theorem ref08_without_ok : OkC Tryz.prog tab ref08_without_ct := fn_ok (W := ⟨Tryz.prog, tab, tyOf, [ref08_pumped_ct], addO, dpO, false⟩) ⟨tabOk, ⟨ref08_pumped_ok, trivial⟩, addOk⟩ (by kernel_rfl) 89 Tryz.f70 (.sq (.n) (.sq (.n) (.sq (.n) (.sq (.sq (.n) (.bk none (.lp ⟨[(1, .one (.d (.int .i64))), (2, .one (.d .bool)), (6, .one (.box 0 0)), (8, .one (.box 1 0)), (9, .one (.own 2)), (19, .one (.d (.sl (.st 3)))), (20, .one (.d (.int .i64))), (21, .one (.d (.int .i64)))], [.bst 4, .box [.own 3], .row 3 (.int .i64), .row 43 (.st 3)], []⟩ (.sq (.n) (.sq (.n) (.sq (.bk none (.sq (.n) (.sq (.n) (.sq (.sq (.n) (.bk none (.lp ⟨[(1, .one (.d (.int .i64))), (2, .one (.d .bool)), (6, .one (.box 0 0)), (8, .one (.box 1 0)), (9, .one (.own 2)), (11, .one (.box 3 0)), (12, .one (.box 4 0)), (19, .one (.d (.sl (.st 3)))), (20, .one (.d (.int .i64))), (21, .one (.d (.int .i64))), (29, .one (.d (.sl (.st 1)))), (30, .one (.d (.int .i64))), (31, .one (.d (.int .i64)))], [.bst 4, .box [.own 5], .row 3 (.int .i64), .bst 3, .box [.d (.int .i64), .d .bool, .d (.int .u16), .own 6, .own 7], .row 43 (.st 3), .row 45 (.st 1), .row 47 (.st 2)], []⟩ (.sq (.n) (.sq (.n) (.sq (.bk none (.sq (.n) (.sq (.n) (.cd (some ⟨[(1, .one (.d (.int .i64))), (2, .one (.d .bool)), (6, .one (.box 0 0)), (8, .one (.box 1 0)), (9, .one (.own 2)), (11, .one (.box 3 0)), (12, .one (.box 4 0)), (19, .one (.d (.sl (.st 3)))), (20, .one (.d (.int .i64))), (21, .one (.d (.int .i64))), (29, .one (.d (.sl (.st 1)))), (30, .one (.d (.int .i64))), (31, .one (.d (.int .i64)))], [.bst 4, .box [.own 5], .row 3 (.int .i64), .bst 3, .box [.d (.int .i64), .d .bool, .d (.int .u16), .own 6, .own 7], .row 43 (.st 3), .row 45 (.st 1), .row 47 (.st 2)], []⟩) (.n) (.n))))) (.n))))))) (.sq (.sq (.n) (.bk none (.lp ⟨[(1, .one (.d (.int .i64))), (2, .one (.d .bool)), (6, .one (.box 0 0)), (8, .one (.box 1 0)), (9, .one (.own 2)), (12, .one (.box 3 0)), (19, .one (.d (.sl (.st 3)))), (20, .one (.d (.int .i64))), (21, .one (.d (.int .i64))), (51, .one (.d (.sl (.st 2)))), (52, .one (.d (.int .i64))), (53, .one (.d (.int .i64)))], [.bst 4, .box [.own 4], .row 3 (.int .i64), .box [.d (.int .i64), .d .bool, .d (.int .u16), .own 5, .own 6], .row 43 (.st 3), .row 45 (.st 1), .row 47 (.st 2)], []⟩ (.sq (.n) (.sq (.n) (.sq (.bk none (.sq (.n) (.sq (.n) (.cd (some ⟨[(1, .one (.d (.int .i64))), (2, .one (.d .bool)), (6, .one (.box 0 0)), (8, .one (.box 1 0)), (9, .one (.own 2)), (12, .one (.box 3 0)), (19, .one (.d (.sl (.st 3)))), (20, .one (.d (.int .i64))), (21, .one (.d (.int .i64))), (51, .one (.d (.sl (.st 2)))), (52, .one (.d (.int .i64))), (53, .one (.d (.int .i64)))], [.bst 4, .box [.own 4], .row 3 (.int .i64), .box [.d (.int .i64), .d .bool, .d (.int .u16), .own 5, .own 6], .row 43 (.st 3), .row 45 (.st 1), .row 47 (.st 2)], []⟩) (.n) (.n))))) (.n))))))) (.sq (.n) (.sq (.n) (.sq (.n) (.cd (some ⟨[(1, .one (.d (.int .i64))), (2, .one (.d .bool)), (6, .one (.box 0 0)), (8, .one (.box 1 0)), (9, .one (.own 2)), (19, .one (.d (.sl (.st 3)))), (20, .one (.d (.int .i64))), (21, .one (.d (.int .i64)))], [.bst 4, .box [.own 3], .row 3 (.int .i64), .row 43 (.st 3)], []⟩) (.n) (.n)))))))))) (.n))))))) (.n))))) Tryz.func70 Tryz.call70 rfl (by kernel_rfl) (by kernel_rfl) (by kernel_rfl) fun n x => by kernel_rfl
def ref08_Release (n : Nat) (p0 : Locks) (p1 : Int) : Option (Locks × Int × (List Int)) :=
 (ref08_txn n p1).bind fun y1 =>
 cond (!y1)
 (some ((Locks.mk ([] : List Queue)), 2, ([] : List Int)))
 ((ref08_without n p0 p1 true).bind fun y2 =>
 some (y2.1, 0, y2.2))
@[reducible] def ref08_Release_ct : Ct tab := ⟨32, [.st 4, .one (.d (.int .i64))], [], [.st 4, .one (.own 0), .one (.d (.int .i64))], [(none, .row 3 (.int .i64))], (Locks × Int × (List Int)), fun y => (y.1, y.2.1, y.2.2, ()), fun y => (y.1, y.2.1, y.2.2.1), fun _ => rfl, fun n x => ref08_Release n x.1 x.2.1⟩
theorem ref08_Release_ok : OkC Tryz.prog tab ref08_Release_ct := fn_ok (W := ⟨Tryz.prog, tab, tyOf, [ref08_txn_ct, ref08_without_ct], addO, dpO, false⟩) ⟨tabOk, ⟨ref08_txn_ok, ref08_without_ok, trivial⟩, addOk⟩ (by kernel_rfl) 21 Tryz.f32 (.n) Tryz.func32 Tryz.call32 rfl (by kernel_rfl) (by kernel_rfl) (by kernel_rfl) fun n x => by kernel_rfl
def ref08_Waits_l2 (n : Nat) (r1 : Int × (List Queue) × Int × Int × Res × Unit → Option (Res × Int × Bool)) : Nat → Int × (List Queue) × Int × Int × (List Wait) × Int × Int × Res × Queue × Unit → Option (Res × Int × Bool) := loopF fun r2 ⟨v7, v8, v9, v10, v11, v12, v13, v14, v15, _⟩ =>
 cond (decide (v13 < v12))
 ((idx v11 v13).bind fun x16 =>
 cond (x16.txn == v7)
 (some (v15.res, x16.mode, true))
 (r2 (v7, v8, v9, v10, v11, v12, (IntKind.wrap .i64 (v13 + 1)), v14, v15, ())))
 (r1 (v7, v8, v9, (IntKind.wrap .i64 (v10 + 1)), v14, ()))
def ref08_Waits_l1 (n : Nat) : Nat → Int × (List Queue) × Int × Int × Res × Unit → Option (Res × Int × Bool) := loopF fun r1 ⟨v1, v2, v3, v4, v5, _⟩ =>
 cond (decide (v4 < v3))
 ((idx v2 v4).bind fun x6 =>
 ref08_Waits_l2 n r1 n (v1, v2, v3, v4, x6.waiters, (x6.waiters.length : Int), 0, v5, x6, ()))
 (some ((Res.mk 0 false 0), 0, false))
def ref08_Waits (n : Nat) (p0 : Locks) (p1 : Int) : Option (Res × Int × Bool) :=
 ref08_Waits_l1 n n (p1, p0.queues, (p0.queues.length : Int), 0, (Res.mk 0 false 0), ())
@[reducible] def ref08_Waits_ct : Ct tab := ⟨24, [.st 4, .one (.d (.int .i64))], [], [.st 0, .one (.d (.int .i64)), .one (.d .bool)], [], (Res × Int × Bool), fun y => (y.1, y.2.1, y.2.2, ()), fun y => (y.1, y.2.1, y.2.2.1), fun _ => rfl, fun n x => ref08_Waits n x.1 x.2.1⟩
theorem ref08_Waits_ok : OkC Tryz.prog tab ref08_Waits_ct := fn_ok (W := ⟨Tryz.prog, tab, tyOf, [], addO, dpO, false⟩) ⟨tabOk, trivial, addOk⟩ (by kernel_rfl) 36 Tryz.f24 (.sq (.n) (.sq (.sq (.n) (.bk none (.lp ⟨[(1, .one (.d (.int .i64))), (4, .one (.box 0 0)), (12, .one (.d (.sl (.st 3)))), (13, .one (.d (.int .i64))), (14, .one (.d (.int .i64)))], [.bst 0], []⟩ (.sq (.n) (.sq (.n) (.sq (.bk none (.sq (.n) (.sq (.n) (.bk none (.lp ⟨[(1, .one (.d (.int .i64))), (4, .one (.box 0 0)), (8, .one (.box 1 0)), (12, .one (.d (.sl (.st 3)))), (13, .one (.d (.int .i64))), (14, .one (.d (.int .i64))), (19, .one (.d (.sl (.st 2)))), (20, .one (.d (.int .i64))), (21, .one (.d (.int .i64)))], [.bst 0, .bst 3], []⟩ (.n)))))) (.n))))))) (.n))) Tryz.func24 Tryz.call24 rfl (by kernel_rfl) (by kernel_rfl) (by kernel_rfl) fun n x => by kernel_rfl
def ref08_Leave (n : Nat) (p0 : Locks) (p1 : Int) : Option (Locks × Int × (List Int)) :=
 (ref08_txn n p1).bind fun y1 =>
 cond (!y1)
 (some ((Locks.mk ([] : List Queue)), 2, ([] : List Int)))
 ((ref08_Waits n p0 p1).bind fun y2 =>
 cond (!y2.2.2)
 (some ((Locks.mk ([] : List Queue)), 4, ([] : List Int)))
 ((ref08_without n p0 p1 false).bind fun y3 =>
 some (y3.1, 0, y3.2)))
@[reducible] def ref08_Leave_ct : Ct tab := ⟨33, [.st 4, .one (.d (.int .i64))], [], [.st 4, .one (.own 0), .one (.d (.int .i64))], [(none, .row 3 (.int .i64))], (Locks × Int × (List Int)), fun y => (y.1, y.2.1, y.2.2, ()), fun y => (y.1, y.2.1, y.2.2.1), fun _ => rfl, fun n x => ref08_Leave n x.1 x.2.1⟩
theorem ref08_Leave_ok : OkC Tryz.prog tab ref08_Leave_ct := fn_ok (W := ⟨Tryz.prog, tab, tyOf, [ref08_txn_ct, ref08_Waits_ct, ref08_without_ct], addO, dpO, false⟩) ⟨tabOk, ⟨ref08_txn_ok, ref08_Waits_ok, ref08_without_ok, trivial⟩, addOk⟩ (by kernel_rfl) 34 Tryz.f33 (.n) Tryz.func33 Tryz.call33 rfl (by kernel_rfl) (by kernel_rfl) (by kernel_rfl) fun n x => by kernel_rfl
def ref08_copied (n : Nat) (p0 : Queue) : Option Queue :=
 (app 16 ([] : List Hold) p0.holders).bind fun l1 =>
 (app 24 ([] : List Wait) p0.waiters).bind fun l2 =>
 some (Queue.mk p0.res l1 l2)
@[reducible] def ref08_copied_ct : Ct tab := ⟨30, [.st 3], [], [.st 3], [], Queue, fun y => (y, ()), fun y => y.1, fun _ => rfl, fun n x => ref08_copied n x.1⟩
theorem ref08_copied_ok : OkC Tryz.prog tab ref08_copied_ct := fn_ok (W := ⟨Tryz.prog, tab, tyOf, [], addO, dpO, false⟩) ⟨tabOk, trivial, addOk⟩ (by kernel_rfl) 14 Tryz.f30 (.n) Tryz.func30 Tryz.call30 rfl (by kernel_rfl) (by kernel_rfl) (by kernel_rfl) fun n x => by kernel_rfl
def ref07_Sup_j3 (n : Nat) (r2 : Int × Int × Int × Bool × Int × Unit → Option Int) : Int × Int × Int × Bool × Int × Unit → Option Int := fun ⟨v17, v18, v19, v20, v21, _⟩ =>
 r2 (v17, v18, v19, v20, (IntKind.wrap .i64 (v21 + 1)), ())
def ref07_Sup_l2 (n : Nat) (r1 : Int × Int × Int × Unit → Option Int) : Nat → Int × Int × Int × Bool × Int × Unit → Option Int := loopF fun r2 ⟨v7, v8, v9, v10, v11, _⟩ =>
 cond (decide (v11 ≤ 6))
 ((ref07_Covers n v11 v7).bind fun y12 =>
 jn (fun (b13 : Bool) =>
 jn (fun (b15 : Bool) =>
 jn (ref07_Sup_j3 n r2) fun j3 =>
 cond b15
 (j3 (v7, v8, v9, false, v11, ()))
 (j3 (v7, v8, v9, v10, v11, ()))) fun k16 =>
 cond b13
 ((ref07_Covers n v11 v9).bind fun y22 =>
 k16 (!y22))
 (k16 false)) fun k14 =>
 cond y12
 ((ref07_Covers n v11 v8).bind fun y23 =>
 k14 y23)
 (k14 false))
 (cond v10
 (some v9)
 (r1 (v7, v8, (IntKind.wrap .i64 (v9 + 1)), ())))
def ref07_Sup_l1 (n : Nat) : Nat → Int × Int × Int × Unit → Option Int := loopF fun r1 ⟨v1, v2, v3, _⟩ =>
 cond (decide (v3 ≤ 6))
 ((ref07_Covers n v3 v1).bind fun y4 =>
 jn (fun (b5 : Bool) =>
 ref07_Sup_l2 n r1 n (v1, v2, v3, b5, 0, ())) fun k6 =>
 cond y4
 ((ref07_Covers n v3 v2).bind fun y24 =>
 k6 y24)
 (k6 false))
 (some 5)
def ref07_Sup (n : Nat) (p0 : Int) (p1 : Int) : Option Int :=
 ref07_Sup_l1 n n (p0, p1, 0, ())
@[reducible] def ref07_Sup_ct : Ct tab := ⟨74, [.one (.d (.int .i64)), .one (.d (.int .i64))], [], [.one (.d (.int .i64))], [], Int, fun y => (y, ()), fun y => y.1, fun _ => rfl, fun n x => ref07_Sup n x.1 x.2.1⟩
theorem ref07_Sup_ok : OkC Tryz.prog tab ref07_Sup_ct := fn_ok (W := ⟨Tryz.prog, tab, tyOf, [ref07_Covers_ct], addO, dpO, false⟩) ⟨tabOk, ⟨ref07_Covers_ok, trivial⟩, addOk⟩ (by kernel_rfl) 40 Tryz.f74 (.sq (.n) (.sq (.sq (.n) (.bk none (.lp ⟨[(0, .one (.d (.int .i64))), (1, .one (.d (.int .i64))), (5, .one (.d (.int .i64)))], [], []⟩ (.sq (.n) (.sq (.bk none (.sq (.n) (.sq (.sq (.n) (.bk none (.lp ⟨[(0, .one (.d (.int .i64))), (1, .one (.d (.int .i64))), (5, .one (.d (.int .i64))), (6, .one (.d .bool)), (7, .one (.d (.int .i64)))], [], []⟩ (.sq (.n) (.sq (.bk none (.sq (.n) (.cd (some ⟨[(0, .one (.d (.int .i64))), (1, .one (.d (.int .i64))), (5, .one (.d (.int .i64))), (6, .one (.d .bool)), (7, .one (.d (.int .i64)))], [], []⟩) (.n) (.n)))) (.n)))))) (.n)))) (.n)))))) (.n))) Tryz.func74 Tryz.call74 rfl (by kernel_rfl) (by kernel_rfl) (by kernel_rfl) fun n x => by kernel_rfl
def ref08_waits_j2 (n : Nat) (r1 : Bool × (List Wait) × Int × Int × Queue × Wait × Queue × (List Wait) × Unit → Option Queue) : Bool × (List Wait) × Int × Int × Queue × Wait × Queue × (List Wait) × Wait × Unit → Option Queue := fun ⟨v15, v16, v17, v18, v19, v20, v21, v22, v23, _⟩ =>
 (app 24 v22 ([v23] : List Wait)).bind fun l24 =>
 r1 (v15, v16, v17, (IntKind.wrap .i64 (v18 + 1)), v19, v20, v21, l24, ())
def ref08_waits_j3 (n : Nat) : Queue × Queue × (List Wait) × Unit → Option Queue := fun ⟨v27, v28, v29, _⟩ =>
 some (Queue.mk v27.res v27.holders v29)
def ref08_waits_l1 (n : Nat) : Nat → Bool × (List Wait) × Int × Int × Queue × Wait × Queue × (List Wait) × Unit → Option Queue := loopF fun r1 ⟨v1, v2, v3, v4, v5, v6, v7, v8, _⟩ =>
 cond (decide (v4 < v3))
 ((idx v2 v4).bind fun x9 =>
 jn (fun (b10 : Bool) =>
 jn (fun (b12 : Bool) =>
 jn (ref08_waits_j2 n r1) fun j2 =>
 cond b12
 ((app 24 v8 ([v6] : List Wait)).bind fun l25 =>
 j2 (true, v2, v3, v4, v5, v6, v7, l25, x9, ()))
 (j2 (v1, v2, v3, v4, v5, v6, v7, v8, x9, ()))) fun k13 =>
 cond b10
 (k13 (x9.held == 0))
 (k13 false)) fun k11 =>
 cond (!v1)
 (k11 (v6.held != 0))
 (k11 false))
 (jn (ref08_waits_j3 n) fun j3 =>
 cond (!v1)
 ((app 24 v8 ([v6] : List Wait)).bind fun l30 =>
 j3 (v5, v7, l30, ()))
 (j3 (v5, v7, v8, ())))
def ref08_waits (n : Nat) (p0 : Queue) (p1 : Wait) : Option Queue :=
 ref08_waits_l1 n n (false, p0.waiters, (p0.waiters.length : Int), 0, p0, p1, (Queue.mk (Res.mk 0 false 0) ([] : List Hold) ([] : List Wait)), ([] : List Wait), ())
@[reducible] def ref08_waits_ct : Ct tab := ⟨77, [.st 3, .st 2], [], [.st 3], [], Queue, fun y => (y, ()), fun y => y.1, fun _ => rfl, fun n x => ref08_waits n x.1 x.2.1⟩
theorem ref08_waits_ok : OkC Tryz.prog tab ref08_waits_ct := fn_ok (W := ⟨Tryz.prog, tab, tyOf, [], addO, dpO, false⟩) ⟨tabOk, trivial, addOk⟩ (by kernel_rfl) 46 Tryz.f77 (.sq (.n) (.sq (.n) (.sq (.n) (.sq (.sq (.n) (.bk none (.lp ⟨[(2, .one (.box 0 0)), (3, .one (.box 1 0)), (4, .one (.box 2 0)), (5, .one (.own 3)), (6, .one (.d .bool)), (10, .one (.d (.sl (.st 2)))), (11, .one (.d (.int .i64))), (12, .one (.d (.int .i64)))], [.bst 3, .bst 2, .bst 3, .row 47 (.st 2)], []⟩ (.sq (.n) (.sq (.n) (.sq (.bk none (.sq (.n) (.sq (.sq (.n) (.cd (some ⟨[(2, .one (.box 0 0)), (3, .one (.box 1 0)), (4, .one (.box 2 0)), (5, .one (.own 3)), (6, .one (.d .bool)), (8, .one (.box 4 0)), (10, .one (.d (.sl (.st 2)))), (11, .one (.d (.int .i64))), (12, .one (.d (.int .i64)))], [.bst 3, .bst 2, .bst 3, .row 47 (.st 2), .bst 2], []⟩) (.n) (.n))) (.n)))) (.n))))))) (.sq (.sq (.n) (.cd (some ⟨[(2, .one (.box 0 0)), (4, .one (.box 1 0)), (5, .one (.own 2))], [.bst 3, .bst 3, .row 47 (.st 2)], []⟩) (.n) (.n))) (.n)))))) Tryz.func77 Tryz.call77 rfl (by kernel_rfl) (by kernel_rfl) (by kernel_rfl) fun n x => by kernel_rfl
def ref08_Ask_j2 (n : Nat) (r1 : Int × Int × Int × (List Queue) × Int × Int × Locks × Res × Locks × Queue × Unit → Option (Locks × Int × Int)) : Int × Int × Int × (List Queue) × Int × Int × Locks × Res × Locks × Queue × Unit → Option (Locks × Int × Int) := fun ⟨v19, v20, v21, v22, v23, v24, v25, v26, v27, v28, _⟩ =>
 r1 (v19, v20, v21, v22, v23, (IntKind.wrap .i64 (v24 + 1)), v25, v26, v27, v28, ())
def ref08_Ask_j6 (n : Nat) (r4 : Int × Bool × (List Queue) × Int × Int × Res × Locks × Queue × (List Queue) × Unit → Option (Locks × Int × Int)) : Int × Bool × (List Queue) × Int × Int × Res × Locks × Queue × (List Queue) × Unit → Option (Locks × Int × Int) := fun ⟨v69, v70, v71, v72, v73, v74, v75, v76, v77, _⟩ =>
 r4 (v69, v70, v71, v72, (IntKind.wrap .i64 (v73 + 1)), v74, v75, v76, v77, ())
def ref08_Ask_j5 (n : Nat) (r4 : Int × Bool × (List Queue) × Int × Int × Res × Locks × Queue × (List Queue) × Unit → Option (Locks × Int × Int)) : Int × Bool × (List Queue) × Int × Int × Res × Locks × Queue × Queue × (List Queue) × Unit → Option (Locks × Int × Int) := fun ⟨v58, v59, v60, v61, v62, v63, v64, v65, v66, v67, _⟩ =>
 jn (ref08_Ask_j6 n r4) fun j6 =>
 cond (!(Res.eqb v66.res v63))
 ((app 64 v67 ([v66] : List Queue)).bind fun l78 =>
 j6 (v58, v59, v60, v61, v62, v63, v64, v65, l78, ()))
 (j6 (v58, v59, v60, v61, v62, v63, v64, v65, v67, ()))
def ref08_Ask_j7 (n : Nat) : Int × Locks × (List Queue) × Unit → Option (Locks × Int × Int) := fun ⟨v83, v84, v85, _⟩ =>
 some ((Locks.mk v85), v83, 0)
def ref08_Ask_l4 (n : Nat) : Nat → Int × Bool × (List Queue) × Int × Int × Res × Locks × Queue × (List Queue) × Unit → Option (Locks × Int × Int) := loopF fun r4 ⟨v45, v46, v47, v48, v49, v50, v51, v52, v53, _⟩ =>
 cond (decide (v49 < v48))
 ((idx v47 v49).bind fun x54 =>
 jn (fun (b55 : Bool) =>
 jn (ref08_Ask_j5 n r4) fun j5 =>
 cond b55
 ((app 64 v53 ([v52] : List Queue)).bind fun l79 =>
 j5 (v45, true, v47, v48, v49, v50, v51, v52, x54, l79, ()))
 (j5 (v45, v46, v47, v48, v49, v50, v51, v52, x54, v53, ()))) fun k56 =>
 cond (!v46)
 ((ref08_order n x54.res).bind fun y80 =>
 (ref08_order n v50).bind fun y81 =>
 k56 (decide (y80 ≥ y81)))
 (k56 false))
 (jn (ref08_Ask_j7 n) fun j7 =>
 cond (!v46)
 ((app 64 v53 ([v52] : List Queue)).bind fun l86 =>
 j7 (v45, v51, l86, ()))
 (j7 (v45, v51, v53, ())))
def ref08_Ask_j3 (n : Nat) : Int × Locks × Res × Locks × Queue × Unit → Option (Locks × Int × Int) := fun ⟨v40, v41, v42, v43, v44, _⟩ =>
 ref08_Ask_l4 n n (v40, false, v41.queues, (v41.queues.length : Int), 0, v42, v43, v44, ([] : List Queue), ())
def ref08_Ask_l1 (n : Nat) : Nat → Int × Int × Int × (List Queue) × Int × Int × Locks × Res × Locks × Queue × Unit → Option (Locks × Int × Int) := loopF fun r1 ⟨v7, v8, v9, v10, v11, v12, v13, v14, v15, v16, _⟩ =>
 cond (decide (v12 < v11))
 ((idx v10 v12).bind fun x17 =>
 jn (ref08_Ask_j2 n r1) fun j2 =>
 cond (Res.eqb x17.res v14)
 ((ref08_copied n x17).bind fun y29 =>
 j2 (v7, v8, v12, v10, v11, v12, v13, v14, v15, y29, ()))
 (j2 (v7, v8, v9, v10, v11, v12, v13, v14, v15, v16, ())))
 ((ref08_held n v16 v7).bind fun y30 =>
 (ref07_Covers n y30 v8).bind fun y31 =>
 cond y31
 (some (v13, 1, 0))
 ((ref07_Sup n y30 v8).bind fun y32 =>
 jn (fun (b33 : Bool) =>
 cond b33
 (some ((Locks.mk ([] : List Queue)), 0, 6))
 ((ref08_goes n v16 v7 y32).bind fun y35 =>
 jn (fun (b36 : Bool) =>
 jn (ref08_Ask_j3 n) fun j3 =>
 cond b36
 ((ref08_holds n v16 v7 y32).bind fun y87 =>
 j3 (2, v13, v14, v15, y87, ()))
 ((ref08_waits n v16 (Wait.mk v7 y32 y30)).bind fun y88 =>
 j3 (3, v13, v14, v15, y88, ()))) fun k37 =>
 cond y35
 (jn (fun (b89 : Bool) =>
 k37 b89) fun k90 =>
 cond (y30 != 0)
 (k90 true)
 (k90 ((v16.waiters.length : Int) == 0)))
 (k37 false))) fun k34 =>
 cond (decide (v9 < 0))
 (k34 (decide ((v13.queues.length : Int) ≥ 500)))
 (k34 false)))
def ref08_Ask (n : Nat) (p0 : Locks) (p1 : Int) (p2 : Res) (p3 : Int) : Option (Locks × Int × Int) :=
 (ref08_txn n p1).bind fun y1 =>
 jn (fun (b2 : Bool) =>
 jn (fun (b4 : Bool) =>
 cond b4
 (some ((Locks.mk ([] : List Queue)), 0, 2))
 ((ref08_Waits n p0 p1).bind fun y6 =>
 cond y6.2.2
 (some ((Locks.mk ([] : List Queue)), 0, 181))
 (ref08_Ask_l1 n n (p1, p3, (-1), p0.queues, (p0.queues.length : Int), 0, p0, p2, (Locks.mk ([] : List Queue)), (Queue.mk p2 ([] : List Hold) ([] : List Wait)), ())))) fun k5 =>
 cond b2
 (k5 true)
 ((ref08_RightMode n p2 p3).bind fun y91 =>
 k5 (!y91))) fun k3 =>
 cond (!y1)
 (k3 true)
 ((ref08_RightRes n p2).bind fun y92 =>
 k3 (!y92))
@[reducible] def ref08_Ask_ct : Ct tab := ⟨34, [.st 4, .one (.d (.int .i64)), .st 0, .one (.d (.int .i64))], [], [.st 4, .one (.d (.int .i64)), .one (.d (.int .i64))], [], (Locks × Int × Int), fun y => (y.1, y.2.1, y.2.2, ()), fun y => (y.1, y.2.1, y.2.2.1), fun _ => rfl, fun n x => ref08_Ask n x.1 x.2.1 x.2.2.1 x.2.2.2.1⟩
theorem ref08_Ask_ok : OkC Tryz.prog tab ref08_Ask_ct := fn_ok (W := ⟨Tryz.prog, tab, tyOf, [ref08_txn_ct, ref08_Waits_ct, ref08_copied_ct, ref08_held_ct, ref07_Covers_ct, ref07_Sup_ct, ref08_goes_ct, ref08_order_ct, ref08_holds_ct, ref08_waits_ct, ref08_RightMode_ct, ref08_RightRes_ct], addO, dpO, false⟩) ⟨tabOk, ⟨ref08_txn_ok, ref08_Waits_ok, ref08_copied_ok, ref08_held_ok, ref07_Covers_ok, ref07_Sup_ok, ref08_goes_ok, ref08_order_ok, ref08_holds_ok, ref08_waits_ok, ref08_RightMode_ok, ref08_RightRes_ok, trivial⟩, addOk⟩ (by kernel_rfl) 154 Tryz.f34 (.sq (.n) (.sq (.n) (.sq (.n) (.sq (.n) (.sq (.n) (.sq (.sq (.n) (.bk none (.lp ⟨[(1, .one (.d (.int .i64))), (3, .one (.d (.int .i64))), (4, .one (.box 0 0)), (6, .one (.box 1 0)), (8, .one (.box 2 0)), (14, .one (.d (.int .i64))), (15, .one (.box 3 0)), (52, .one (.d (.sl (.st 3)))), (53, .one (.d (.int .i64))), (54, .one (.d (.int .i64)))], [.bst 4, .bst 0, .bst 4, .bst 3], []⟩ (.sq (.n) (.sq (.n) (.sq (.bk none (.sq (.n) (.sq (.n) (.cd (some ⟨[(1, .one (.d (.int .i64))), (3, .one (.d (.int .i64))), (4, .one (.box 0 0)), (6, .one (.box 1 0)), (8, .one (.box 2 0)), (14, .one (.d (.int .i64))), (15, .one (.box 3 0)), (52, .one (.d (.sl (.st 3)))), (53, .one (.d (.int .i64))), (54, .one (.d (.int .i64)))], [.bst 4, .bst 0, .bst 4, .bst 3], []⟩) (.n) (.n))))) (.n))))))) (.sq (.n) (.sq (.n) (.sq (.n) (.sq (.n) (.sq (.n) (.sq (.sq (.n) (.cd (some ⟨[(4, .one (.box 0 0)), (6, .one (.box 1 0)), (8, .one (.box 2 0)), (15, .one (.box 3 0)), (20, .one (.d (.int .i64)))], [.bst 4, .bst 0, .bst 4, .bst 3], []⟩) (.n) (.n))) (.sq (.n) (.sq (.n) (.sq (.sq (.n) (.bk none (.lp ⟨[(6, .one (.box 0 0)), (8, .one (.box 1 0)), (15, .one (.box 2 0)), (20, .one (.d (.int .i64))), (21, .one (.box 3 0)), (22, .one (.d .bool)), (111, .one (.d (.sl (.st 3)))), (112, .one (.d (.int .i64))), (113, .one (.d (.int .i64)))], [.bst 0, .bst 4, .bst 3, .box [.own 4], .row 43 (.st 3)], []⟩ (.sq (.n) (.sq (.n) (.sq (.bk none (.sq (.n) (.sq (.sq (.n) (.cd (some ⟨[(6, .one (.box 0 0)), (8, .one (.box 1 0)), (15, .one (.box 2 0)), (20, .one (.d (.int .i64))), (21, .one (.box 3 0)), (22, .one (.d .bool)), (24, .one (.box 4 0)), (111, .one (.d (.sl (.st 3)))), (112, .one (.d (.int .i64))), (113, .one (.d (.int .i64)))], [.bst 0, .bst 4, .bst 3, .box [.own 5], .bst 3, .row 43 (.st 3)], []⟩) (.n) (.n))) (.sq (.n) (.cd (some ⟨[(6, .one (.box 0 0)), (8, .one (.box 1 0)), (15, .one (.box 2 0)), (20, .one (.d (.int .i64))), (21, .one (.box 3 0)), (22, .one (.d .bool)), (111, .one (.d (.sl (.st 3)))), (112, .one (.d (.int .i64))), (113, .one (.d (.int .i64)))], [.bst 0, .bst 4, .bst 3, .box [.own 4], .row 43 (.st 3)], []⟩) (.n) (.n)))))) (.n))))))) (.sq (.sq (.n) (.cd (some ⟨[(8, .one (.box 0 0)), (20, .one (.d (.int .i64))), (21, .one (.box 1 0))], [.bst 4, .box [.own 2], .row 43 (.st 3)], []⟩) (.n) (.n))) (.n))))))))))))))))) Tryz.func34 Tryz.call34 rfl (by kernel_rfl) (by kernel_rfl) (by kernel_rfl) fun n x => by kernel_rfl
def law08_Op_wants_j1 (n : Nat) : (List Queue) × Int × Int × (List Int) × Unit → Option law08_told := fun ⟨v12, v13, v14, v15, _⟩ =>
 some (law08_told.mk (Locks.mk v12) v13 v15 v14)
def law08_Op_wants_j2 (n : Nat) (j1 : (List Queue) × Int × Int × (List Int) × Unit → Option law08_told) : (List Queue) × Int × Int × (List Int) × Unit → Option law08_told := fun ⟨v19, v20, v21, v22, _⟩ =>
 j1 (v19, v20, v21, v22, ())
def law08_Op_wants (n : Nat) (p0 : law08_Op) (p1 : Locks) : Option law08_told :=
 (ref08_Right n p1).bind fun y1 =>
 cond (!y1)
 (some (law08_told.mk (Locks.mk ([] : List Queue)) 0 ([] : List Int) 180))
 ((remP (IntKind.wrap .u64 p0.kind) 7).bind fun z2 =>
 jn (law08_Op_wants_j1 n) fun j1 =>
 cond (z2 == 5)
 ((ref08_Release n p1 p0.txn).bind fun y16 =>
 j1 (y16.1.queues, 0, y16.2.1, y16.2.2, ()))
 (jn (law08_Op_wants_j2 n j1) fun j2 =>
 cond (z2 == 6)
 ((ref08_Leave n p1 p0.txn).bind fun y23 =>
 j2 (y23.1.queues, 0, y23.2.1, y23.2.2, ()))
 ((ref08_Ask n p1 p0.txn p0.res p0.mode).bind fun y24 =>
 j2 (y24.1.queues, y24.2.1, y24.2.2, ([] : List Int), ()))))
@[reducible] def law08_Op_wants_ct : Ct tab := ⟨12, [.st 6, .st 4], [], [.st 7], [], law08_told, fun y => (y, ()), fun y => y.1, fun _ => rfl, fun n x => law08_Op_wants n x.1 x.2.1⟩
theorem law08_Op_wants_ok : OkC Tryz.prog tab law08_Op_wants_ct := fn_ok (W := ⟨Tryz.prog, tab, tyOf, [ref08_Right_ct, ref08_Release_ct, ref08_Leave_ct, ref08_Ask_ct], addO, dpO, false⟩) ⟨tabOk, ⟨ref08_Right_ok, ref08_Release_ok, ref08_Leave_ok, ref08_Ask_ok, trivial⟩, addOk⟩ (by kernel_rfl) 56 Tryz.f12 (.sq (.n) (.sq (.n) (.sq (.sq (.n) (.bk none (.sq (.n) (.cd (some ⟨[(4, .one (.box 0 0))], [.box [.d (.sl (.st 3)), .d (.int .i64), .own 1, .d (.int .i64)], .row 3 (.int .i64)], []⟩) (.n) (.sq (.n) (.cd (some ⟨[(4, .one (.box 0 0))], [.box [.d (.sl (.st 3)), .d (.int .i64), .own 1, .d (.int .i64)], .row 3 (.int .i64)], []⟩) (.n) (.n))))))) (.n)))) Tryz.func12 Tryz.call12 rfl (by kernel_rfl) (by kernel_rfl) (by kernel_rfl) fun n x => by kernel_rfl
def ref08_Same_l3 (n : Nat) (r1 : (List Queue) × Int × Int × Locks × Unit → Option Bool) : Nat → (List Queue) × Int × Int × Int × Int × Locks × Queue × Queue × Unit → Option Bool := loopF fun r3 ⟨v21, v22, v23, v24, v25, v26, v27, v28, _⟩ =>
 cond (decide (v25 < v24))
 ((idx v27.waiters v25).bind fun x29 =>
 (idx v28.waiters v25).bind fun x30 =>
 cond (!(Wait.eqb x29 x30))
 (some false)
 (r3 (v21, v22, v23, v24, (IntKind.wrap .i64 (v25 + 1)), v26, v27, v28, ())))
 (r1 (v21, v22, (IntKind.wrap .i64 (v23 + 1)), v26, ()))
def ref08_Same_l2 (n : Nat) (r1 : (List Queue) × Int × Int × Locks × Unit → Option Bool) : Nat → (List Queue) × Int × Int × Int × Int × Locks × Queue × Queue × Unit → Option Bool := loopF fun r2 ⟨v11, v12, v13, v14, v15, v16, v17, v18, _⟩ =>
 cond (decide (v15 < v14))
 ((idx v17.holders v15).bind fun x19 =>
 (idx v18.holders v15).bind fun x20 =>
 cond (!(Hold.eqb x19 x20))
 (some false)
 (r2 (v11, v12, v13, v14, (IntKind.wrap .i64 (v15 + 1)), v16, v17, v18, ())))
 (ref08_Same_l3 n r1 n (v11, v12, v13, (v17.waiters.length : Int), 0, v16, v17, v18, ()))
def ref08_Same_l1 (n : Nat) : Nat → (List Queue) × Int × Int × Locks × Unit → Option Bool := loopF fun r1 ⟨v1, v2, v3, v4, _⟩ =>
 cond (decide (v3 < v2))
 ((idx v1 v3).bind fun x5 =>
 (idx v4.queues v3).bind fun x6 =>
 jn (fun (b7 : Bool) =>
 jn (fun (b9 : Bool) =>
 cond b9
 (some false)
 (ref08_Same_l2 n r1 n (v1, v2, v3, (x5.holders.length : Int), 0, v4, x5, x6, ()))) fun k10 =>
 cond b7
 (k10 true)
 (k10 ((x5.waiters.length : Int) != (x6.waiters.length : Int)))) fun k8 =>
 cond (!(Res.eqb x5.res x6.res))
 (k8 true)
 (k8 ((x5.holders.length : Int) != (x6.holders.length : Int))))
 (some true)
def ref08_Same (n : Nat) (p0 : Locks) (p1 : Locks) : Option Bool :=
 cond ((p0.queues.length : Int) != (p1.queues.length : Int))
 (some false)
 (ref08_Same_l1 n n (p0.queues, (p0.queues.length : Int), 0, p1, ()))
@[reducible] def ref08_Same_ct : Ct tab := ⟨14, [.st 4, .st 4], [], [.one (.d .bool)], [], Bool, fun y => (y, ()), fun y => y.1, fun _ => rfl, fun n x => ref08_Same n x.1 x.2.1⟩
theorem ref08_Same_ok : OkC Tryz.prog tab ref08_Same_ct := fn_ok (W := ⟨Tryz.prog, tab, tyOf, [], addO, dpO, false⟩) ⟨tabOk, trivial, addOk⟩ (by kernel_rfl) 90 Tryz.f14 (.sq (.n) (.sq (.n) (.sq (.sq (.n) (.bk none (.lp ⟨[(3, .one (.box 0 0)), (18, .one (.d (.sl (.st 3)))), (19, .one (.d (.int .i64))), (20, .one (.d (.int .i64)))], [.bst 4], []⟩ (.sq (.n) (.sq (.n) (.sq (.bk none (.sq (.n) (.sq (.n) (.sq (.n) (.sq (.sq (.n) (.bk none (.lp ⟨[(3, .one (.box 0 0)), (6, .one (.box 1 0)), (7, .one (.box 2 0)), (18, .one (.d (.sl (.st 3)))), (19, .one (.d (.int .i64))), (20, .one (.d (.int .i64))), (55, .one (.d (.int .i64))), (56, .one (.d (.int .i64)))], [.bst 4, .bst 3, .bst 3], []⟩ (.n)))) (.sq (.n) (.bk none (.lp ⟨[(3, .one (.box 0 0)), (6, .one (.box 1 0)), (7, .one (.box 2 0)), (18, .one (.d (.sl (.st 3)))), (19, .one (.d (.int .i64))), (20, .one (.d (.int .i64))), (73, .one (.d (.int .i64))), (74, .one (.d (.int .i64)))], [.bst 4, .bst 3, .bst 3], []⟩ (.n))))))))) (.n))))))) (.n)))) Tryz.func14 Tryz.call14 rfl (by kernel_rfl) (by kernel_rfl) (by kernel_rfl) fun n x => by kernel_rfl
def law08_LocksMost_j2 (n : Nat) : law08_Op × (List Queue) × Unit → Option Bool := fun ⟨v9, v10, _⟩ =>
 (law08_Op_run n v9 (Locks.mk v10)).bind fun y11 =>
 (law08_Op_wants n v9 (Locks.mk v10)).bind fun y12 =>
 jn (fun (b13 : Bool) =>
 jn (fun (b15 : Bool) =>
 some b15) fun k16 =>
 cond b13
 ((ref08_Same n y11.l y12.l).bind fun y17 =>
 k16 y17)
 (k16 false)) fun k14 =>
 cond (y11.e == y12.e)
 (k14 (y11.what == y12.what))
 (k14 false)
def law08_LocksMost_l1 (n : Nat) : Nat → Bool × Int × Int × (List Queue) × Unit → Option Bool := loopF fun r1 ⟨v4, v5, v6, v7, _⟩ =>
 cond (decide (v6 < v5))
 ((app 64 v7 ([(Queue.mk (Res.mk 0 true (IntKind.wrap .u16 v6)) ([(Hold.mk 1 3)] : List Hold) ([] : List Wait))] : List Queue)).bind fun l8 =>
 r1 (v4, v5, (IntKind.wrap .i64 (v6 + 1)), l8, ()))
 (jn (law08_LocksMost_j2 n) fun j2 =>
 cond v4
 (j2 ((law08_Op.mk 0 2 3 (Res.mk 0 true 3)), v7, ()))
 (j2 ((law08_Op.mk 0 2 1 (Res.mk 1 false 0)), v7, ())))
def law08_LocksMost (n : Nat) (p0 : Int) (p1 : Bool) : Option Bool :=
 (law08_wakes n).bind fun y1 =>
 cond (!y1)
 (some false)
 ((remP p0 3).bind fun z2 =>
 (remP (IntKind.wrap .i64 (z2 + 3)) 3).bind fun z3 =>
 law08_LocksMost_l1 n n (p1, (IntKind.wrap .i64 (499 + z3)), 0, ([] : List Queue), ()))
@[reducible] def law08_LocksMost_ct : Ct tab := ⟨4, [.one (.d (.int .i64)), .one (.d .bool)], [], [.one (.d .bool)], [], Bool, fun y => (y, ()), fun y => y.1, fun _ => rfl, fun n x => law08_LocksMost n x.1 x.2.1⟩
theorem law08_LocksMost_ok : OkC Tryz.prog tab law08_LocksMost_ct := fn_ok (W := ⟨Tryz.prog, tab, tyOf, [law08_wakes_ct, law08_Op_run_ct, law08_Op_wants_ct, ref08_Same_ct], addO, dpO, false⟩) ⟨tabOk, ⟨law08_wakes_ok, law08_Op_run_ok, law08_Op_wants_ok, ref08_Same_ok, trivial⟩, addOk⟩ (by kernel_rfl) 64 Tryz.f4 (.sq (.n) (.sq (.n) (.sq (.n) (.sq (.n) (.sq (.sq (.n) (.bk none (.lp ⟨[(1, .one (.d .bool)), (5, .one (.box 0 0)), (18, .one (.d (.int .i64))), (19, .one (.d (.int .i64)))], [.box [.own 1], .row 43 (.st 3)], []⟩ (.n)))) (.sq (.n) (.sq (.sq (.n) (.cd (some ⟨[(5, .one (.box 0 0)), (8, .one (.box 1 0))], [.box [.own 2], .bst 6, .row 43 (.st 3)], []⟩) (.n) (.n))) (.sq (.gs [.frz 2] (.n)) (.n))))))))) Tryz.func4 Tryz.call4 rfl (by kernel_rfl) (by kernel_rfl) (by kernel_rfl) fun n x => by kernel_rfl
end
end Go.Proofs.YtndehfninoimgaaGreat
