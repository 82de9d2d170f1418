/- Functions of the program: plain twins and their contracts, printed by program. -/
import Derived.Test.YtndehfninoimgaaGreatTypes
import Derived.Test.YtndehfninoimgaaGreatF3
namespace Go.Proofs.YtndehfninoimgaaGreat
open Go Go.Bur Go.RowKit
set_option linter.unusedVariables false
set_option linter.unusedSimpArgs false
set_option maxRecDepth 100000
noncomputable section
/-! bursary bursaryref08.held -/
/-! bursary bursaryref08.RightQueue -/
/-! bursary bursaryref08.order -/
/-! bursary bursaryref08.Right -/
/-! bursary bursaryref08.holds -/
/-! bursary bursaryref08.pumped -/
/-! bursary bursaryref08.without -/
/-! bursary bursaryref08.Release -/
/-! bursary bursaryref08.Waits -/
/-! bursary bursaryref08.Leave -/
/-! bursary bursaryref08.copied -/
/-! bursary bursaryref07.Sup -/
/-! bursary bursaryref08.waits -/
/-! bursary bursaryref08.Ask -/
/-!  bursary bursarylaw08.Op .wants -/
/-! bursary locks.Waits -/
def locks_Waits (n : Nat) (p0 : Locks) (p1 : Int) : Option (Res × Int × Bool) :=
  (locks_waits n p0 p1).bind fun y1 =>
  jn (fun (b2 : Bool) =>
      cond b2
        (some ((Res.mk 0 false 0), 0, false))
        ((idx p0.queues y1.1).bind fun x4 =>
        (idx p0.queues y1.1).bind fun x5 =>
        (idx x5.waiters y1.2.1).bind fun x6 =>
        some (x4.res, x6.mode, true))) fun k3 =>
  cond (!y1.2.2)
    (k3 true)
    ((locks_Check n p0).bind fun y7 =>
    k3 (y7 != 0))
@[reducible] def locks_Waits_ct : Ct tab := ⟨19, [.st 4, .one (.d (.int .i64))], [], [.st 0, .one (.d (.int .i64)), .one (.d .bool)], [], (Res × Int × Bool), fun y => (y.1, y.2.1, y.2.2, ()), fun y => (y.1, y.2.1, y.2.2.1), fun _ => rfl, fun n x => locks_Waits n x.1 x.2.1⟩
theorem locks_Waits_ok : OkC Tryz.prog tab locks_Waits_ct := fn_ok (W := ⟨Tryz.prog, tab, tyOf, [locks_waits_ct, locks_Check_ct], addO, dpO, false⟩) ⟨tabOk, ⟨locks_waits_ok, locks_Check_ok, trivial⟩, addOk⟩ (by kernel_rfl) 41 Tryz.f19 (.n) Tryz.func19 Tryz.call19 rfl (by kernel_rfl) (by kernel_rfl) (by kernel_rfl) fun n x => by kernel_rfl

/-! bursary bursarylaw08.safe -/
def law08_safe_l3 (n : Nat) (r2 : (List Queue) × Int × Int × (List Hold) × Int × Int × Locks × Queue × Unit → Option Bool) : Nat → (List Queue) × Int × Int × (List Hold) × Int × Int × (List Hold) × Int × Int × Locks × Queue × Hold × Unit → Option Bool := loopF fun r3 ⟨v16, v17, v18, v19, v20, v21, v22, v23, v24, v25, v26, v27, _⟩ =>
    cond (decide (v24 < v23))
      ((idx v22 v24).bind fun x28 =>
      (mode_Goes n v27.mode x28.mode).bind fun y29 =>
      cond (!y29)
        (some false)
        (r3 (v16, v17, v18, v19, v20, v21, v22, v23, (IntKind.wrap .i64 (v24 + 1)), v25, v26, v27, ())))
      (r2 (v16, v17, v18, v19, v20, (IntKind.wrap .i64 (v21 + 1)), v25, v26, ()))
def law08_safe_l4 (n : Nat) (r1 : (List Queue) × Int × Int × Locks × Unit → Option Bool) : Nat → (List Queue) × Int × Int × (List Wait) × Int × Int × Locks × Unit → Option Bool := loopF fun r4 ⟨v30, v31, v32, v33, v34, v35, v36, _⟩ =>
    cond (decide (v35 < v34))
      ((idx v33 v35).bind fun x37 =>
      (locks_Blockers n v36 x37.txn).bind fun y38 =>
      cond ((y38.length : Int) == 0)
        (some false)
        (r4 (v30, v31, v32, v33, v34, (IntKind.wrap .i64 (v35 + 1)), v36, ())))
      (r1 (v30, v31, (IntKind.wrap .i64 (v32 + 1)), v36, ()))
def law08_safe_l2 (n : Nat) (r1 : (List Queue) × Int × Int × Locks × Unit → Option Bool) : Nat → (List Queue) × Int × Int × (List Hold) × Int × Int × Locks × Queue × Unit → Option Bool := loopF fun r2 ⟨v6, v7, v8, v9, v10, v11, v12, v13, _⟩ =>
    cond (decide (v11 < v10))
      ((idx v9 v11).bind fun x14 =>
      (sub v13.holders 0 v11).bind fun l15 =>
      law08_safe_l3 n r2 n (v6, v7, v8, v9, v10, v11, l15, (l15.length : Int), 0, v12, v13, x14, ()))
      (law08_safe_l4 n r1 n (v6, v7, v8, v13.waiters, (v13.waiters.length : Int), 0, v12, ()))
def law08_safe_l1 (n : Nat) : Nat → (List Queue) × Int × Int × Locks × Unit → Option Bool := loopF fun r1 ⟨v1, v2, v3, v4, _⟩ =>
    cond (decide (v3 < v2))
      ((idx v1 v3).bind fun x5 =>
      law08_safe_l2 n r1 n (v1, v2, v3, x5.holders, (x5.holders.length : Int), 0, v4, x5, ()))
      (some true)
def law08_safe (n : Nat) (p0 : Locks) : Option Bool :=
  law08_safe_l1 n n (p0.queues, (p0.queues.length : Int), 0, p0, ())
@[reducible] def law08_safe_ct : Ct tab := ⟨16, [.st 4], [], [.one (.d .bool)], [], Bool, fun y => (y, ()), fun y => y.1, fun _ => rfl, fun n x => law08_safe n x.1⟩
theorem law08_safe_ok : OkC Tryz.prog tab law08_safe_ct := fn_ok (W := ⟨Tryz.prog, tab, tyOf, [mode_Goes_ct, locks_Blockers_ct], addO, dpO, false⟩) ⟨tabOk, ⟨mode_Goes_ok, locks_Blockers_ok, trivial⟩, addOk⟩ (by kernel_rfl) 58 Tryz.f16 (.sq (.n) (.sq (.sq (.n) (.bk none (.lp ⟨[(1, .one (.box 0 0)), (12, .one (.d (.sl (.st 3)))), (13, .one (.d (.int .i64))), (14, .one (.d (.int .i64)))], [.bst 4], []⟩ (.sq (.n) (.sq (.n) (.sq (.bk none (.sq (.n) (.sq (.sq (.n) (.bk none (.lp ⟨[(1, .one (.box 0 0)), (4, .one (.box 1 0)), (12, .one (.d (.sl (.st 3)))), (13, .one (.d (.int .i64))), (14, .one (.d (.int .i64))), (19, .one (.d (.sl (.st 1)))), (20, .one (.d (.int .i64))), (21, .one (.d (.int .i64)))], [.bst 4, .bst 3], []⟩ (.sq (.n) (.sq (.n) (.sq (.bk none (.sq (.n) (.sq (.n) (.bk none (.lp ⟨[(1, .one (.box 0 0)), (4, .one (.box 1 0)), (6, .one (.box 2 0)), (12, .one (.d (.sl (.st 3)))), (13, .one (.d (.int .i64))), (14, .one (.d (.int .i64))), (19, .one (.d (.sl (.st 1)))), (20, .one (.d (.int .i64))), (21, .one (.d (.int .i64))), (29, .one (.d (.sl (.st 1)))), (30, .one (.d (.int .i64))), (31, .one (.d (.int .i64)))], [.bst 4, .bst 3, .bst 1], []⟩ (.n)))))) (.n))))))) (.sq (.n) (.bk none (.lp ⟨[(1, .one (.box 0 0)), (12, .one (.d (.sl (.st 3)))), (13, .one (.d (.int .i64))), (14, .one (.d (.int .i64))), (44, .one (.d (.sl (.st 2)))), (45, .one (.d (.int .i64))), (46, .one (.d (.int .i64)))], [.bst 4], []⟩ (.n))))))) (.n))))))) (.n))) Tryz.func16 Tryz.call16 rfl (by kernel_rfl) (by kernel_rfl) (by kernel_rfl) fun n x => by kernel_rfl

/-! bursary bursarylaw08.LocksSafe -/
def law08_LocksSafe_j1 (n : Nat) : Unit → Option Bool := fun _ =>
    some true
def law08_LocksSafe_j3 (n : Nat) (r2 : (List law08_Op) × Int × Int × Locks × Unit → Option Bool) : (List law08_Op) × Int × Int × Locks × Unit → Option Bool := fun ⟨v185, v186, v187, v188, _⟩ =>
    r2 (v185, v186, (IntKind.wrap .i64 (v187 + 1)), v188, ())
def law08_LocksSafe_l5 (n : Nat) (r4 : (List law08_Op) × Int × Int × (List Queue) × Int × Int × Locks × law08_Op × law08_told × Unit → Option Bool) : Nat → (List law08_Op) × Int × Int × (List Queue) × Int × Int × (List Hold) × Int × Int × Locks × law08_Op × law08_told × Queue × Unit → Option Bool := loopF fun r5 ⟨v204, v205, v206, v207, v208, v209, v210, v211, v212, v213, v214, v215, v216, _⟩ =>
    cond (decide (v212 < v211))
      ((idx v210 v212).bind fun x217 =>
      (locks_Mode n v215.l x217.txn v216.res).bind fun y218 =>
      (remP (IntKind.wrap .u64 v214.kind) 7).bind fun z219 =>
      jn (fun (b220 : Bool) =>
          jn (fun (b222 : Bool) =>
              jn (fun (b224 : Bool) =>
                  cond b224
                    (some false)
                    (r5 (v204, v205, v206, v207, v208, v209, v210, v211, (IntKind.wrap .i64 (v212 + 1)), v213, v214, v215, v216, ()))) fun k225 =>
              cond b222
                (k225 true)
                (jn (fun (b226 : Bool) =>
                    k225 b226) fun k227 =>
                cond (!b220)
                  ((mode_Covers n y218 x217.mode).bind fun y228 =>
                  k227 (!y228))
                  (k227 false))) fun k223 =>
          cond b220
            (k223 (y218 != 0))
            (k223 false)) fun k221 =>
      cond (z219 == 5)
        (k221 (x217.txn == v214.txn))
        (k221 false))
      (r4 (v204, v205, v206, v207, v208, (IntKind.wrap .i64 (v209 + 1)), v213, v214, v215, ()))
def law08_LocksSafe_l6 (n : Nat) (j3 : (List law08_Op) × Int × Int × Locks × Unit → Option Bool) : Nat → (List law08_Op) × Int × Int × (List Int) × Int × Int × Locks × law08_told × Unit → Option Bool := loopF fun r6 ⟨v229, v230, v231, v232, v233, v234, v235, v236, _⟩ =>
    cond (decide (v234 < v233))
      ((idx v232 v234).bind fun x237 =>
      (locks_Waits n v235 x237).bind fun y238 =>
      (locks_Waits n v236.l x237).bind fun y239 =>
      jn (fun (b240 : Bool) =>
          jn (fun (b242 : Bool) =>
              cond b242
                (some false)
                (r6 (v229, v230, v231, v232, v233, (IntKind.wrap .i64 (v234 + 1)), v235, v236, ()))) fun k243 =>
          cond b240
            (k243 true)
            ((locks_Mode n v236.l x237 y238.1).bind fun y244 =>
            k243 (y244 != y238.2.1))) fun k241 =>
      cond (!y238.2.2)
        (k241 true)
        (k241 y239.2.2))
      (j3 (v229, v230, v231, v236.l, ()))
def law08_LocksSafe_l4 (n : Nat) (j3 : (List law08_Op) × Int × Int × Locks × Unit → Option Bool) : Nat → (List law08_Op) × Int × Int × (List Queue) × Int × Int × Locks × law08_Op × law08_told × Unit → Option Bool := loopF fun r4 ⟨v194, v195, v196, v197, v198, v199, v200, v201, v202, _⟩ =>
    cond (decide (v199 < v198))
      ((idx v197 v199).bind fun x203 =>
      law08_LocksSafe_l5 n r4 n (v194, v195, v196, v197, v198, v199, x203.holders, (x203.holders.length : Int), 0, v200, v201, v202, x203, ()))
      (law08_LocksSafe_l6 n j3 n (v194, v195, v196, v202.granted, (v202.granted.length : Int), 0, v200, v202, ()))
def law08_LocksSafe_l2 (n : Nat) (j1 : Unit → Option Bool) : Nat → (List law08_Op) × Int × Int × Locks × Unit → Option Bool := loopF fun r2 ⟨v124, v125, v126, v127, _⟩ =>
    cond (decide (v126 < v125))
      (jn (law08_LocksSafe_j3 n r2) fun j3 =>
      (idx v124 v126).bind fun x189 =>
      cond (v126 == 60)
        (j1 (()))
        ((law08_Op_run n x189 v127).bind fun y190 =>
        cond (y190.e != 0)
          (j3 (v124, v125, v126, v127, ()))
          ((locks_Check n y190.l).bind fun y191 =>
          jn (fun (b192 : Bool) =>
              cond b192
                (some false)
                (law08_LocksSafe_l4 n j3 n (v124, v125, v126, v127.queues, (v127.queues.length : Int), 0, v127, x189, y190, ()))) fun k193 =>
          cond (y191 != 0)
            (k193 true)
            ((law08_safe n y190.l).bind fun y245 =>
            k193 (!y245)))))
      (j1 (()))
def law08_LocksSafe (n : Nat) (p0 : List law08_Op) : Option Bool :=
  (law08_wakes n).bind fun y1 =>
  cond (!y1)
    (some false)
    (jn (law08_LocksSafe_j1 n) fun j1 =>
    law08_LocksSafe_l2 n j1 n (p0, (p0.length : Int), 0, (Locks.mk ([] : List Queue)), ()))
@[reducible] def law08_LocksSafe_ct : Ct tab := ⟨5, [.one (.d (.sl (.st 6)))], [], [.one (.d .bool)], [], Bool, fun y => (y, ()), fun y => y.1, fun _ => rfl, fun n x => law08_LocksSafe n x.1⟩
theorem law08_LocksSafe_ok : OkC Tryz.prog tab law08_LocksSafe_ct := fn_ok (W := ⟨Tryz.prog, tab, tyOf, [law08_wakes_ct, law08_Op_run_ct, locks_Check_ct, locks_Mode_ct, mode_Covers_ct, locks_Waits_ct, law08_safe_ct], addO, dpO, false⟩) ⟨tabOk, ⟨law08_wakes_ok, law08_Op_run_ok, locks_Check_ok, locks_Mode_ok, mode_Covers_ok, locks_Waits_ok, law08_safe_ok, trivial⟩, addOk⟩ (by kernel_rfl) 139 Tryz.f5 (.sq (.n) (.sq (.n) (.sq (.n) (.sq (.sq (.n) (.bk (some ⟨[], [], []⟩) (.lp ⟨[(3, .one (.box 0 0)), (23, .one (.d (.sl (.st 6)))), (24, .one (.d (.int .i64))), (25, .one (.d (.int .i64)))], [.bst 4], []⟩ (.sq (.n) (.sq (.n) (.sq (.bk (some ⟨[(3, .one (.box 0 0)), (23, .one (.d (.sl (.st 6)))), (24, .one (.d (.int .i64))), (25, .one (.d (.int .i64)))], [.bst 4], []⟩) (.sq (.n) (.sq (.n) (.sq (.n) (.sq (.n) (.sq (.n) (.sq (.sq (.n) (.bk none (.lp ⟨[(3, .one (.box 0 0)), (5, .one (.box 1 0)), (6, .one (.box 2 0)), (23, .one (.d (.sl (.st 6)))), (24, .one (.d (.int .i64))), (25, .one (.d (.int .i64))), (49, .one (.d (.sl (.st 3)))), (50, .one (.d (.int .i64))), (51, .one (.d (.int .i64)))], [.bst 4, .bst 6, .bst 7], []⟩ (.sq (.n) (.sq (.n) (.sq (.bk none (.sq (.n) (.sq (.n) (.bk none (.lp ⟨[(3, .one (.box 0 0)), (5, .one (.box 1 0)), (6, .one (.box 2 0)), (8, .one (.box 3 0)), (23, .one (.d (.sl (.st 6)))), (24, .one (.d (.int .i64))), (25, .one (.d (.int .i64))), (49, .one (.d (.sl (.st 3)))), (50, .one (.d (.int .i64))), (51, .one (.d (.int .i64))), (56, .one (.d (.sl (.st 1)))), (57, .one (.d (.int .i64))), (58, .one (.d (.int .i64)))], [.bst 4, .bst 6, .bst 7, .bst 3], []⟩ (.n)))))) (.n))))))) (.sq (.sq (.n) (.bk none (.lp ⟨[(3, .one (.box 0 0)), (6, .one (.box 1 0)), (23, .one (.d (.sl (.st 6)))), (24, .one (.d (.int .i64))), (25, .one (.d (.int .i64))), (100, .one (.d (.sl (.int .i64)))), (101, .one (.d (.int .i64))), (102, .one (.d (.int .i64)))], [.bst 4, .bst 7], []⟩ (.n)))) (.n))))))))) (.n))))))) (.n))))) Tryz.func5 Tryz.call5 rfl (by kernel_rfl) (by kernel_rfl) (by kernel_rfl) fun n x => by kernel_rfl

/-! bursary bursarylaw08.few -/
/-! bursary bursarylaw08.LocksAlone -/
end
end Go.Proofs.YtndehfninoimgaaGreat
