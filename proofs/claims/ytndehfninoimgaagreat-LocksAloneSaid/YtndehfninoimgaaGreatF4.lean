/- Functions of the program: plain twins and their contracts, printed by program. -/
import Derived.Test.YtndehfninoimgaaGreatTypes
import Derived.Test.YtndehfninoimgaaGreatF3
namespace Go.Proofs.YtndehfninoimgaaGreat
open Go Go.Bur Go.RowKit
set_option linter.unusedVariables false
set_option linter.unusedSimpArgs false
set_option maxRecDepth 100000
noncomputable section
/-! bursary bursaryref08.held -/
/-! bursary bursaryref08.RightQueue -/
/-! bursary bursaryref08.order -/
/-! bursary bursaryref08.Right -/
/-! bursary bursaryref08.holds -/
/-! bursary bursaryref08.pumped -/
/-! bursary bursaryref08.without -/
/-! bursary bursaryref08.Release -/
/-! bursary bursaryref08.Waits -/
/-! bursary bursaryref08.Leave -/
/-! bursary bursaryref08.copied -/
/-! bursary bursaryref07.Sup -/
/-! bursary bursaryref08.waits -/
/-! bursary bursaryref08.Ask -/
/-!  bursary bursarylaw08.Op .wants -/
/-! bursary locks.Waits -/
def locks_Waits (n : Nat) (p0 : Locks) (p1 : Int) : Option (Res × Int × Bool) :=
  (locks_waits n p0 p1).bind fun y1 =>
  jn (fun (b2 : Bool) =>
      cond b2
        (some ((Res.mk 0 false 0), 0, false))
        ((idx p0.queues y1.1).bind fun x4 =>
        (idx p0.queues y1.1).bind fun x5 =>
        (idx x5.waiters y1.2.1).bind fun x6 =>
        some (x4.res, x6.mode, true))) fun k3 =>
  cond (!y1.2.2)
    (k3 true)
    ((locks_Check n p0).bind fun y7 =>
    k3 (y7 != 0))
@[reducible] def locks_Waits_ct : Ct tab := ⟨19, [.st 4, .one (.d (.int .i64))], [], [.st 0, .one (.d (.int .i64)), .one (.d .bool)], [], (Res × Int × Bool), fun y => (y.1, y.2.1, y.2.2, ()), fun y => (y.1, y.2.1, y.2.2.1), fun _ => rfl, fun n x => locks_Waits n x.1 x.2.1⟩
theorem locks_Waits_ok : OkC Tryz.prog tab locks_Waits_ct := fn_ok (W := ⟨Tryz.prog, tab, tyOf, [locks_waits_ct, locks_Check_ct], addO, dpO, false⟩) ⟨tabOk, ⟨locks_waits_ok, locks_Check_ok, trivial⟩, addOk⟩ (by kernel_rfl) 41 Tryz.f19 (.n) Tryz.func19 Tryz.call19 rfl (by kernel_rfl) (by kernel_rfl) (by kernel_rfl) fun n x => by kernel_rfl

/-! bursary bursarylaw08.safe -/
/-! bursary bursarylaw08.LocksSafe -/
/-! bursary bursarylaw08.few -/
def law08_few_j1 (n : Nat) : Locks × (List Queue) × Unit → Option Locks := fun ⟨v12, v13, _⟩ =>
    some (Locks.mk v13)
def law08_few_l2 (n : Nat) (j1 : Locks × (List Queue) × Unit → Option Locks) : Nat → (List Queue) × Int × Int × Locks × (List Queue) × Unit → Option Locks := loopF fun r2 ⟨v14, v15, v16, v17, v18, _⟩ =>
    cond (decide (v16 < v15))
      ((idx v14 v16).bind fun x19 =>
      cond (decide (v16 > 500))
        (j1 (v17, v18, ()))
        ((sub x19.holders 0 (if 20 < (x19.holders.length : Int) then 20 else (x19.holders.length : Int))).bind fun l20 =>
        (app 16 ([] : List Hold) l20).bind fun l21 =>
        (sub x19.waiters 0 (if 20 < (x19.waiters.length : Int) then 20 else (x19.waiters.length : Int))).bind fun l22 =>
        (app 24 ([] : List Wait) l22).bind fun l23 =>
        (app 64 v18 ([(Queue.mk x19.res l21 l23)] : List Queue)).bind fun l24 =>
        r2 (v14, v15, (IntKind.wrap .i64 (v16 + 1)), v17, l24, ())))
      (j1 (v17, v18, ()))
def law08_few (n : Nat) (p0 : Locks) : Option Locks :=
  jn (law08_few_j1 n) fun j1 =>
  law08_few_l2 n j1 n (p0.queues, (p0.queues.length : Int), 0, (Locks.mk ([] : List Queue)), ([] : List Queue), ())
@[reducible] def law08_few_ct : Ct tab := ⟨9, [.st 4], [], [.st 4], [], Locks, fun y => (y, ()), fun y => y.1, fun _ => rfl, fun n x => law08_few n x.1⟩
theorem law08_few_ok : OkC Tryz.prog tab law08_few_ct := fn_ok (W := ⟨Tryz.prog, tab, tyOf, [], addO, dpO, false⟩) ⟨tabOk, trivial, addOk⟩ (by kernel_rfl) 44 Tryz.f9 (.sq (.n) (.sq (.n) (.sq (.sq (.n) (.bk (some ⟨[(2, .one (.box 0 0)), (3, .one (.box 1 0))], [.bst 4, .box [.own 2], .row 43 (.st 3)], []⟩) (.lp ⟨[(2, .one (.box 0 0)), (3, .one (.box 1 0)), (7, .one (.d (.sl (.st 3)))), (8, .one (.d (.int .i64))), (9, .one (.d (.int .i64)))], [.bst 4, .box [.own 2], .row 43 (.st 3)], []⟩ (.n)))) (.n)))) Tryz.func9 Tryz.call9 rfl (by kernel_rfl) (by kernel_rfl) (by kernel_rfl) fun n x => by kernel_rfl

/-! bursary bursarylaw08.LocksAlone -/
def law08_LocksAlone_j2 (n : Nat) (r1 : Bool × (List Queue) × Int × Int × law08_Op × law08_told × Unit → Option Bool) : Bool × (List Queue) × Int × Int × law08_Op × law08_told × Unit → Option Bool := fun ⟨v28, v29, v30, v31, v32, v33, _⟩ =>
    r1 (v28, v29, v30, (IntKind.wrap .i64 (v31 + 1)), v32, v33, ())
def law08_LocksAlone_l3 (n : Nat) (j2 : Bool × (List Queue) × Int × Int × law08_Op × law08_told × Unit → Option Bool) : Nat → Bool × (List Queue) × Int × Int × (List Hold) × Int × Int × law08_Op × law08_told × Queue × Unit → Option Bool := loopF fun r3 ⟨v35, v36, v37, v38, v39, v40, v41, v42, v43, v44, _⟩ =>
    cond (decide (v41 < v40))
      ((idx v39 v41).bind fun x45 =>
      jn (fun (b46 : Bool) =>
          r3 (b46, v36, v37, v38, v39, v40, (IntKind.wrap .i64 (v41 + 1)), v42, v43, v44, ())) fun k47 =>
      cond v35
        (k47 true)
        (k47 (x45.txn != v42.txn)))
      (jn (fun (b48 : Bool) =>
          j2 (b48, v36, v37, v38, v42, v43, ())) fun k49 =>
      cond v35
        (k49 true)
        (k49 (decide ((v44.waiters.length : Int) > 0))))
def law08_LocksAlone_l1 (n : Nat) : Nat → Bool × (List Queue) × Int × Int × law08_Op × law08_told × Unit → Option Bool := loopF fun r1 ⟨v6, v7, v8, v9, v10, v11, _⟩ =>
    cond (decide (v9 < v8))
      (jn (law08_LocksAlone_j2 n r1) fun j2 =>
      (idx v7 v9).bind fun x34 =>
      cond (!(Res.eqb x34.res v10.res))
        (j2 (v6, v7, v8, v9, v10, v11, ()))
        (law08_LocksAlone_l3 n j2 n (v6, v7, v8, v9, x34.holders, (x34.holders.length : Int), 0, v10, v11, x34, ())))
      ((locks_Mode n v11.l v10.txn v10.res).bind fun y50 =>
      (locks_Waits n v11.l v10.txn).bind fun y51 =>
      cond y51.2.2
        (jn (fun (b52 : Bool) =>
            jn (fun (b54 : Bool) =>
                jn (fun (b56 : Bool) =>
                    jn (fun (b58 : Bool) =>
                        some b58) fun k59 =>
                    cond b56
                      ((mode_Covers n y50 v10.mode).bind fun y60 =>
                      k59 (!y60))
                      (k59 false)) fun k57 =>
                cond b54
                  ((mode_Covers n y51.2.1 v10.mode).bind fun y61 =>
                  k57 y61)
                  (k57 false)) fun k55 =>
            cond b52
              (k55 (Res.eqb y51.1 v10.res))
              (k55 false)) fun k53 =>
        cond v6
          (k53 (v11.what == 3))
          (k53 false))
        (jn (fun (b62 : Bool) =>
            some b62) fun k63 =>
        cond (v11.what != 3)
          ((mode_Covers n y50 v10.mode).bind fun y64 =>
          k63 y64)
          (k63 false)))
def law08_LocksAlone (n : Nat) (p0 : Locks) (p1 : law08_Op) : Option Bool :=
  (law08_wakes n).bind fun y1 =>
  cond (!y1)
    (some false)
    ((law08_few n p0).bind fun y2 =>
    (law08_Op_run n p1 y2).bind fun y3 =>
    jn (fun (b4 : Bool) =>
        cond b4
          (some true)
          (law08_LocksAlone_l1 n n (false, y2.queues, (y2.queues.length : Int), 0, p1, y3, ()))) fun k5 =>
    cond (y3.e != 0)
      (k5 true)
      ((remP (IntKind.wrap .u64 p1.kind) 7).bind fun z65 =>
      k5 (decide (z65 > 4))))
@[reducible] def law08_LocksAlone_ct : Ct tab := ⟨6, [.st 4, .st 6], [], [.one (.d .bool)], [], Bool, fun y => (y, ()), fun y => y.1, fun _ => rfl, fun n x => law08_LocksAlone n x.1 x.2.1⟩
theorem law08_LocksAlone_ok : OkC Tryz.prog tab law08_LocksAlone_ct := fn_ok (W := ⟨Tryz.prog, tab, tyOf, [law08_wakes_ct, law08_few_ct, law08_Op_run_ct, locks_Mode_ct, locks_Waits_ct, mode_Covers_ct], addO, dpO, false⟩) ⟨tabOk, ⟨law08_wakes_ok, law08_few_ok, law08_Op_run_ok, locks_Mode_ok, locks_Waits_ok, mode_Covers_ok, trivial⟩, addOk⟩ (by kernel_rfl) 120 Tryz.f6 (.sq (.n) (.sq (.n) (.sq (.n) (.sq (.n) (.sq (.n) (.sq (.n) (.sq (.sq (.n) (.bk none (.lp ⟨[(3, .one (.box 0 0)), (6, .one (.box 1 0)), (7, .one (.d .bool)), (34, .one (.d (.sl (.st 3)))), (35, .one (.d (.int .i64))), (36, .one (.d (.int .i64)))], [.bst 6, .bst 7], []⟩ (.sq (.n) (.sq (.n) (.sq (.bk (some ⟨[(3, .one (.box 0 0)), (6, .one (.box 1 0)), (7, .one (.d .bool)), (34, .one (.d (.sl (.st 3)))), (35, .one (.d (.int .i64))), (36, .one (.d (.int .i64)))], [.bst 6, .bst 7], []⟩) (.sq (.n) (.sq (.n) (.sq (.sq (.n) (.bk none (.lp ⟨[(3, .one (.box 0 0)), (6, .one (.box 1 0)), (7, .one (.d .bool)), (9, .one (.box 2 0)), (34, .one (.d (.sl (.st 3)))), (35, .one (.d (.int .i64))), (36, .one (.d (.int .i64))), (46, .one (.d (.sl (.st 1)))), (47, .one (.d (.int .i64))), (48, .one (.d (.int .i64)))], [.bst 6, .bst 7, .bst 3], []⟩ (.n)))) (.n))))) (.n))))))) (.n)))))))) Tryz.func6 Tryz.call6 rfl (by kernel_rfl) (by kernel_rfl) (by kernel_rfl) fun n x => by kernel_rfl

end
end Go.Proofs.YtndehfninoimgaaGreat
