/- Functions of the program: plain twins and their contracts, printed by program. -/
import Derived.Test.YtndehfninoimgaaGreatTypes
import Derived.Test.YtndehfninoimgaaGreatF3
namespace Go.Proofs.YtndehfninoimgaaGreat
open Go Go.Bur Go.RowKit
set_option linter.unusedVariables false
set_option linter.unusedSimpArgs false
set_option maxRecDepth 100000
noncomputable section
/-! bursary bursaryref08.held -/
def ref08_held_l1 (n : Nat) : Nat → Int × (List Hold) × Int × Int × Unit → Option Int := loopF fun r1 ⟨v1, v2, v3, v4, _⟩ =>
    cond (decide (v4 < v3))
      ((idx v2 v4).bind fun x5 =>
      cond (x5.txn == v1)
        (some x5.mode)
        (r1 (v1, v2, v3, (IntKind.wrap .i64 (v4 + 1)), ())))
      (some 0)
def ref08_held (n : Nat) (p0 : Queue) (p1 : Int) : Option Int :=
  ref08_held_l1 n n (p1, p0.holders, (p0.holders.length : Int), 0, ())
@[reducible] def ref08_held_ct : Ct tab := ⟨53, [.st 3, .one (.d (.int .i64))], [], [.one (.d (.int .i64))], [], Int, fun y => (y, ()), fun y => y.1, fun _ => rfl, fun n x => ref08_held n x.1 x.2.1⟩
theorem ref08_held_ok : OkC Tryz.prog tab ref08_held_ct := fn_ok (W := ⟨Tryz.prog, tab, tyOf, [], addO, dpO, false⟩) ⟨tabOk, trivial, addOk⟩ (by kernel_rfl) 21 Tryz.f53 (.sq (.n) (.sq (.sq (.n) (.bk none (.lp ⟨[(1, .one (.d (.int .i64))), (8, .one (.d (.sl (.st 1)))), (9, .one (.d (.int .i64))), (10, .one (.d (.int .i64)))], [], []⟩ (.n)))) (.n))) Tryz.func53 Tryz.call53 rfl (by kernel_rfl) (by kernel_rfl) (by kernel_rfl) fun n x => by kernel_rfl

/-! bursary bursaryref08.RightQueue -/
def ref08_RightQueue_l3 (n : Nat) (r2 : (List Wait) × Int × Int × Queue × Unit → Option Bool) : Nat → (List Wait) × Int × Int × (List Wait) × Int × Int × Queue × Wait × Unit → Option Bool := loopF fun r3 ⟨v40, v41, v42, v43, v44, v45, v46, v47, _⟩ =>
    cond (decide (v45 < v44))
      ((idx v43 v45).bind fun x48 =>
      cond (x48.txn == v47.txn)
        (some false)
        (r3 (v40, v41, v42, v43, v44, (IntKind.wrap .i64 (v45 + 1)), v46, v47, ())))
      (r2 (v40, v41, (IntKind.wrap .i64 (v42 + 1)), v46, ()))
def ref08_RightQueue_l2 (n : Nat) : Nat → (List Wait) × Int × Int × Queue × Unit → Option Bool := loopF fun r2 ⟨v21, v22, v23, v24, _⟩ =>
    cond (decide (v23 < v22))
      ((idx v21 v23).bind fun x25 =>
      (ref08_txn n x25.txn).bind fun y26 =>
      jn (fun (b27 : Bool) =>
          jn (fun (b29 : Bool) =>
              jn (fun (b31 : Bool) =>
                  jn (fun (b33 : Bool) =>
                      cond b33
                        (some false)
                        (jn (fun (b35 : Bool) =>
                            jn (fun (b37 : Bool) =>
                                cond b37
                                  (some false)
                                  ((sub v24.waiters 0 v23).bind fun l39 =>
                                  ref08_RightQueue_l3 n r2 n (v21, v22, v23, l39, (l39.length : Int), 0, v24, x25, ()))) fun k38 =>
                            cond b35
                              ((idx v24.waiters (IntKind.wrap .i64 (v23 - 1))).bind fun x49 =>
                              k38 (x49.held == 0))
                              (k38 false)) fun k36 =>
                        cond (decide (v23 > 0))
                          (k36 (x25.held != 0))
                          (k36 false))) fun k34 =>
                  cond b31
                    (k34 true)
                    ((ref07_Covers n x25.mode x25.held).bind fun y50 =>
                    k34 (!y50))) fun k32 =>
              cond b29
                (k32 true)
                ((ref07_Covers n x25.held x25.mode).bind fun y51 =>
                k32 y51)) fun k30 =>
          cond b27
            (k30 true)
            ((ref08_held n v24 x25.txn).bind fun y52 =>
            k30 (x25.held != y52))) fun k28 =>
      cond (!y26)
        (k28 true)
        ((ref08_RightMode n v24.res x25.mode).bind fun y53 =>
        k28 (!y53)))
      (jn (fun (b54 : Bool) =>
          some b54) fun k55 =>
      cond ((v24.waiters.length : Int) == 0)
        (k55 true)
        ((idx v24.waiters 0).bind fun x56 =>
        (idx v24.waiters 0).bind fun x57 =>
        (ref08_goes n v24 x56.txn x57.mode).bind fun y58 =>
        k55 (!y58)))
def ref08_RightQueue_l1 (n : Nat) : Nat → (List Hold) × Int × Int × Queue × Unit → Option Bool := loopF fun r1 ⟨v4, v5, v6, v7, _⟩ =>
    cond (decide (v6 < v5))
      ((idx v4 v6).bind fun x8 =>
      (ref08_txn n x8.txn).bind fun y9 =>
      jn (fun (b10 : Bool) =>
          jn (fun (b12 : Bool) =>
              jn (fun (b14 : Bool) =>
                  cond b14
                    (some false)
                    (r1 (v4, v5, (IntKind.wrap .i64 (v6 + 1)), v7, ()))) fun k15 =>
              cond b12
                (k15 true)
                ((ref08_goes n v7 x8.txn x8.mode).bind fun y16 =>
                k15 (!y16))) fun k13 =>
          cond b10
            (k13 true)
            ((ref08_RightMode n v7.res x8.mode).bind fun y17 =>
            k13 (!y17))) fun k11 =>
      cond (!y9)
        (k11 true)
        (jn (fun (b18 : Bool) =>
            k11 b18) fun k19 =>
        cond (decide (v6 > 0))
          ((idx v7.holders (IntKind.wrap .i64 (v6 - 1))).bind fun x20 =>
          k19 (decide (x20.txn ≥ x8.txn)))
          (k19 false)))
      (ref08_RightQueue_l2 n n (v7.waiters, (v7.waiters.length : Int), 0, v7, ()))
def ref08_RightQueue (n : Nat) (p0 : Queue) : Option Bool :=
  (ref08_RightRes n p0.res).bind fun y1 =>
  jn (fun (b2 : Bool) =>
      cond b2
        (some false)
        (ref08_RightQueue_l1 n n (p0.holders, (p0.holders.length : Int), 0, p0, ()))) fun k3 =>
  cond (!y1)
    (k3 true)
    (k3 ((p0.holders.length : Int) == 0))
@[reducible] def ref08_RightQueue_ct : Ct tab := ⟨45, [.st 3], [], [.one (.d .bool)], [], Bool, fun y => (y, ()), fun y => y.1, fun _ => rfl, fun n x => ref08_RightQueue n x.1⟩
theorem ref08_RightQueue_ok : OkC Tryz.prog tab ref08_RightQueue_ct := fn_ok (W := ⟨Tryz.prog, tab, tyOf, [ref08_RightRes_ct, ref08_txn_ct, ref08_goes_ct, ref08_RightMode_ct, ref07_Covers_ct, ref08_held_ct], addO, dpO, false⟩) ⟨tabOk, ⟨ref08_RightRes_ok, ref08_txn_ok, ref08_goes_ok, ref08_RightMode_ok, ref07_Covers_ok, ref08_held_ok, trivial⟩, addOk⟩ (by kernel_rfl) 161 Tryz.f45 (.sq (.n) (.sq (.n) (.sq (.sq (.n) (.bk none (.lp ⟨[(1, .one (.box 0 0)), (20, .one (.d (.sl (.st 1)))), (21, .one (.d (.int .i64))), (22, .one (.d (.int .i64)))], [.bst 3], []⟩ (.n)))) (.sq (.sq (.n) (.bk none (.lp ⟨[(1, .one (.box 0 0)), (66, .one (.d (.sl (.st 2)))), (67, .one (.d (.int .i64))), (68, .one (.d (.int .i64)))], [.bst 3], []⟩ (.sq (.n) (.sq (.n) (.sq (.bk none (.sq (.n) (.sq (.n) (.sq (.n) (.sq (.n) (.bk none (.lp ⟨[(1, .one (.box 0 0)), (6, .one (.box 1 0)), (66, .one (.d (.sl (.st 2)))), (67, .one (.d (.int .i64))), (68, .one (.d (.int .i64))), (129, .one (.d (.sl (.st 2)))), (130, .one (.d (.int .i64))), (131, .one (.d (.int .i64)))], [.bst 3, .bst 2], []⟩ (.n)))))))) (.n))))))) (.n))))) Tryz.func45 Tryz.call45 rfl (by kernel_rfl) (by kernel_rfl) (by kernel_rfl) fun n x => by kernel_rfl

/-! bursary bursaryref08.order -/
def ref08_order_j1 (n : Nat) : Int × Unit → Option Int := fun ⟨v1, _⟩ =>
    some v1
def ref08_order (n : Nat) (p0 : Res) : Option Int :=
  jn (ref08_order_j1 n) fun j1 =>
  cond p0.isKey
    (j1 ((IntKind.wrap .i64 ((IntKind.wrap .i64 (p0.table * 100000)) + (IntKind.wrap .i64 (1 + (IntKind.wrap .i64 p0.id))))), ()))
    (j1 ((IntKind.wrap .i64 (p0.table * 100000)), ()))
@[reducible] def ref08_order_ct : Ct tab := ⟨46, [.st 0], [], [.one (.d (.int .i64))], [], Int, fun y => (y, ()), fun y => y.1, fun _ => rfl, fun n x => ref08_order n x.1⟩
theorem ref08_order_ok : OkC Tryz.prog tab ref08_order_ct := fn_ok (W := ⟨Tryz.prog, tab, tyOf, [], addO, dpO, false⟩) ⟨tabOk, trivial, addOk⟩ (by kernel_rfl) 16 Tryz.f46 (.sq (.n) (.sq (.n) (.sq (.sq (.n) (.cd (some ⟨[(3, .one (.d (.int .i64)))], [], []⟩) (.n) (.n))) (.n)))) Tryz.func46 Tryz.call46 rfl (by kernel_rfl) (by kernel_rfl) (by kernel_rfl) fun n x => by kernel_rfl

/-! bursary bursaryref08.Right -/
def ref08_Right_l2 (n : Nat) (r1 : (List Queue) × Int × Int × Locks × (List (Int × Bool)) × Unit → Option Bool) : Nat → (List Queue) × Int × Int × (List Wait) × Int × Int × Locks × (List (Int × Bool)) × Unit → Option Bool := loopF fun r2 ⟨v10, v11, v12, v13, v14, v15, v16, v17, _⟩ =>
    cond (decide (v15 < v14))
      ((idx v13 v15).bind fun x18 =>
      (mlook .i64 false v17 x18.txn).bind fun w19 =>
      cond w19
        (some false)
        ((mput .i64 v17 x18.txn true).bind fun l20 =>
        r2 (v10, v11, v12, v13, v14, (IntKind.wrap .i64 (v15 + 1)), v16, l20, ())))
      (r1 (v10, v11, (IntKind.wrap .i64 (v12 + 1)), v16, v17, ()))
def ref08_Right_l1 (n : Nat) : Nat → (List Queue) × Int × Int × Locks × (List (Int × Bool)) × Unit → Option Bool := loopF fun r1 ⟨v1, v2, v3, v4, v5, _⟩ =>
    cond (decide (v3 < v2))
      ((idx v1 v3).bind fun x6 =>
      (ref08_RightQueue n x6).bind fun y7 =>
      jn (fun (b8 : Bool) =>
          cond b8
            (some false)
            (ref08_Right_l2 n r1 n (v1, v2, v3, x6.waiters, (x6.waiters.length : Int), 0, v4, v5, ()))) fun k9 =>
      cond (!y7)
        (k9 true)
        (jn (fun (b21 : Bool) =>
            k9 b21) fun k22 =>
        cond (decide (v3 > 0))
          ((idx v4.queues (IntKind.wrap .i64 (v3 - 1))).bind fun x23 =>
          (ref08_order n x23.res).bind fun y24 =>
          (ref08_order n x6.res).bind fun y25 =>
          k22 (decide (y24 ≥ y25)))
          (k22 false)))
      (some true)
def ref08_Right (n : Nat) (p0 : Locks) : Option Bool :=
  cond (decide ((p0.queues.length : Int) > 500))
    (some false)
    (ref08_Right_l1 n n (p0.queues, (p0.queues.length : Int), 0, p0, ([] : List (Int × Bool)), ()))
@[reducible] def ref08_Right_ct : Ct tab := ⟨20, [.st 4], [], [.one (.d .bool)], [], Bool, fun y => (y, ()), fun y => y.1, fun _ => rfl, fun n x => ref08_Right n x.1⟩
theorem ref08_Right_ok : OkC Tryz.prog tab ref08_Right_ct := fn_ok (W := ⟨Tryz.prog, tab, tyOf, [ref08_RightQueue_ct, ref08_order_ct], addO, dpO, false⟩) ⟨tabOk, ⟨ref08_RightQueue_ok, ref08_order_ok, trivial⟩, addOk⟩ (by kernel_rfl) 58 Tryz.f20 (.sq (.n) (.sq (.n) (.sq (.n) (.sq (.sq (.n) (.bk none (.lp ⟨[(1, .one (.box 0 0)), (3, .one (.map 1)), (14, .one (.d (.sl (.st 3)))), (15, .one (.d (.int .i64))), (16, .one (.d (.int .i64)))], [.bst 4, .map .i64 3 4 .bool], []⟩ (.sq (.n) (.sq (.n) (.sq (.bk none (.sq (.n) (.sq (.n) (.sq (.n) (.bk none (.lp ⟨[(1, .one (.box 0 0)), (3, .one (.map 1)), (14, .one (.d (.sl (.st 3)))), (15, .one (.d (.int .i64))), (16, .one (.d (.int .i64))), (43, .one (.d (.sl (.st 2)))), (44, .one (.d (.int .i64))), (45, .one (.d (.int .i64)))], [.bst 4, .map .i64 3 4 .bool], []⟩ (.n))))))) (.n))))))) (.n))))) Tryz.func20 Tryz.call20 rfl (by kernel_rfl) (by kernel_rfl) (by kernel_rfl) fun n x => by kernel_rfl

/-! bursary bursaryref08.holds -/
/-! bursary bursaryref08.pumped -/
/-! bursary bursaryref08.without -/
/-! bursary bursaryref08.Release -/
/-! bursary bursaryref08.Waits -/
def ref08_Waits_l2 (n : Nat) (r1 : Int × (List Queue) × Int × Int × Res × Unit → Option (Res × Int × Bool)) : Nat → Int × (List Queue) × Int × Int × (List Wait) × Int × Int × Res × Queue × Unit → Option (Res × Int × Bool) := loopF fun r2 ⟨v7, v8, v9, v10, v11, v12, v13, v14, v15, _⟩ =>
    cond (decide (v13 < v12))
      ((idx v11 v13).bind fun x16 =>
      cond (x16.txn == v7)
        (some (v15.res, x16.mode, true))
        (r2 (v7, v8, v9, v10, v11, v12, (IntKind.wrap .i64 (v13 + 1)), v14, v15, ())))
      (r1 (v7, v8, v9, (IntKind.wrap .i64 (v10 + 1)), v14, ()))
def ref08_Waits_l1 (n : Nat) : Nat → Int × (List Queue) × Int × Int × Res × Unit → Option (Res × Int × Bool) := loopF fun r1 ⟨v1, v2, v3, v4, v5, _⟩ =>
    cond (decide (v4 < v3))
      ((idx v2 v4).bind fun x6 =>
      ref08_Waits_l2 n r1 n (v1, v2, v3, v4, x6.waiters, (x6.waiters.length : Int), 0, v5, x6, ()))
      (some ((Res.mk 0 false 0), 0, false))
def ref08_Waits (n : Nat) (p0 : Locks) (p1 : Int) : Option (Res × Int × Bool) :=
  ref08_Waits_l1 n n (p1, p0.queues, (p0.queues.length : Int), 0, (Res.mk 0 false 0), ())
@[reducible] def ref08_Waits_ct : Ct tab := ⟨24, [.st 4, .one (.d (.int .i64))], [], [.st 0, .one (.d (.int .i64)), .one (.d .bool)], [], (Res × Int × Bool), fun y => (y.1, y.2.1, y.2.2, ()), fun y => (y.1, y.2.1, y.2.2.1), fun _ => rfl, fun n x => ref08_Waits n x.1 x.2.1⟩
theorem ref08_Waits_ok : OkC Tryz.prog tab ref08_Waits_ct := fn_ok (W := ⟨Tryz.prog, tab, tyOf, [], addO, dpO, false⟩) ⟨tabOk, trivial, addOk⟩ (by kernel_rfl) 36 Tryz.f24 (.sq (.n) (.sq (.sq (.n) (.bk none (.lp ⟨[(1, .one (.d (.int .i64))), (4, .one (.box 0 0)), (12, .one (.d (.sl (.st 3)))), (13, .one (.d (.int .i64))), (14, .one (.d (.int .i64)))], [.bst 0], []⟩ (.sq (.n) (.sq (.n) (.sq (.bk none (.sq (.n) (.sq (.n) (.bk none (.lp ⟨[(1, .one (.d (.int .i64))), (4, .one (.box 0 0)), (8, .one (.box 1 0)), (12, .one (.d (.sl (.st 3)))), (13, .one (.d (.int .i64))), (14, .one (.d (.int .i64))), (19, .one (.d (.sl (.st 2)))), (20, .one (.d (.int .i64))), (21, .one (.d (.int .i64)))], [.bst 0, .bst 3], []⟩ (.n)))))) (.n))))))) (.n))) Tryz.func24 Tryz.call24 rfl (by kernel_rfl) (by kernel_rfl) (by kernel_rfl) fun n x => by kernel_rfl

/-! bursary bursaryref08.Leave -/
/-! bursary bursaryref08.copied -/
/-! bursary bursaryref07.Sup -/
/-! bursary bursaryref08.waits -/
/-! bursary bursaryref08.Ask -/
/-!  bursary bursarylaw08.Op .wants -/
/-! bursary locks.Waits -/
def locks_Waits (n : Nat) (p0 : Locks) (p1 : Int) : Option (Res × Int × Bool) :=
  (locks_waits n p0 p1).bind fun y1 =>
  jn (fun (b2 : Bool) =>
      cond b2
        (some ((Res.mk 0 false 0), 0, false))
        ((idx p0.queues y1.1).bind fun x4 =>
        (idx p0.queues y1.1).bind fun x5 =>
        (idx x5.waiters y1.2.1).bind fun x6 =>
        some (x4.res, x6.mode, true))) fun k3 =>
  cond (!y1.2.2)
    (k3 true)
    ((locks_Check n p0).bind fun y7 =>
    k3 (y7 != 0))
@[reducible] def locks_Waits_ct : Ct tab := ⟨19, [.st 4, .one (.d (.int .i64))], [], [.st 0, .one (.d (.int .i64)), .one (.d .bool)], [], (Res × Int × Bool), fun y => (y.1, y.2.1, y.2.2, ()), fun y => (y.1, y.2.1, y.2.2.1), fun _ => rfl, fun n x => locks_Waits n x.1 x.2.1⟩
theorem locks_Waits_ok : OkC Tryz.prog tab locks_Waits_ct := fn_ok (W := ⟨Tryz.prog, tab, tyOf, [locks_waits_ct, locks_Check_ct], addO, dpO, false⟩) ⟨tabOk, ⟨locks_waits_ok, locks_Check_ok, trivial⟩, addOk⟩ (by kernel_rfl) 41 Tryz.f19 (.n) Tryz.func19 Tryz.call19 rfl (by kernel_rfl) (by kernel_rfl) (by kernel_rfl) fun n x => by kernel_rfl

/-! bursary bursarylaw08.safe -/
/-! bursary bursarylaw08.LocksSafe -/
/-! bursary bursarylaw08.few -/
def law08_few_j1 (n : Nat) : Locks × (List Queue) × Unit → Option Locks := fun ⟨v12, v13, _⟩ =>
    some (Locks.mk v13)
def law08_few_l2 (n : Nat) (j1 : Locks × (List Queue) × Unit → Option Locks) : Nat → (List Queue) × Int × Int × Locks × (List Queue) × Unit → Option Locks := loopF fun r2 ⟨v14, v15, v16, v17, v18, _⟩ =>
    cond (decide (v16 < v15))
      ((idx v14 v16).bind fun x19 =>
      cond (decide (v16 > 500))
        (j1 (v17, v18, ()))
        ((sub x19.holders 0 (if 20 < (x19.holders.length : Int) then 20 else (x19.holders.length : Int))).bind fun l20 =>
        (app 16 ([] : List Hold) l20).bind fun l21 =>
        (sub x19.waiters 0 (if 20 < (x19.waiters.length : Int) then 20 else (x19.waiters.length : Int))).bind fun l22 =>
        (app 24 ([] : List Wait) l22).bind fun l23 =>
        (app 64 v18 ([(Queue.mk x19.res l21 l23)] : List Queue)).bind fun l24 =>
        r2 (v14, v15, (IntKind.wrap .i64 (v16 + 1)), v17, l24, ())))
      (j1 (v17, v18, ()))
def law08_few (n : Nat) (p0 : Locks) : Option Locks :=
  jn (law08_few_j1 n) fun j1 =>
  law08_few_l2 n j1 n (p0.queues, (p0.queues.length : Int), 0, (Locks.mk ([] : List Queue)), ([] : List Queue), ())
@[reducible] def law08_few_ct : Ct tab := ⟨9, [.st 4], [], [.st 4], [], Locks, fun y => (y, ()), fun y => y.1, fun _ => rfl, fun n x => law08_few n x.1⟩
theorem law08_few_ok : OkC Tryz.prog tab law08_few_ct := fn_ok (W := ⟨Tryz.prog, tab, tyOf, [], addO, dpO, false⟩) ⟨tabOk, trivial, addOk⟩ (by kernel_rfl) 44 Tryz.f9 (.sq (.n) (.sq (.n) (.sq (.sq (.n) (.bk (some ⟨[(2, .one (.box 0 0)), (3, .one (.box 1 0))], [.bst 4, .box [.own 2], .row 43 (.st 3)], []⟩) (.lp ⟨[(2, .one (.box 0 0)), (3, .one (.box 1 0)), (7, .one (.d (.sl (.st 3)))), (8, .one (.d (.int .i64))), (9, .one (.d (.int .i64)))], [.bst 4, .box [.own 2], .row 43 (.st 3)], []⟩ (.n)))) (.n)))) Tryz.func9 Tryz.call9 rfl (by kernel_rfl) (by kernel_rfl) (by kernel_rfl) fun n x => by kernel_rfl

/-! bursary bursarylaw08.LocksAlone -/
end
end Go.Proofs.YtndehfninoimgaaGreat
