/- Functions of the program: plain twins and their contracts, printed by program. -/
import Derived.Test.YtegnflodgnfffaaGreatTypes
import Derived.Test.YtegnflodgnfffaaGreatF2
namespace Go.Proofs.YtegnflodgnfffaaGreat
open Go Go.Bur Go.RowKit
set_option linter.unusedVariables false
set_option linter.unusedSimpArgs false
set_option maxRecDepth 100000
noncomputable section
/-! bursary escrow.byKey -/
/-! bursary escrow.Check -/
/-! bursary escrow.whole -/
/-! bursary escrow.shares -/
/-! bursary escrow.shares 1 -/
/-! bursary escrow.end -/
/-! bursary escrow.Ends -/
/-! bursary judge.Within -/
/-! bursary bursaryref05.Right -/
/-! bursary bursaryref10.key -/
/-! bursary bursaryref10.Of -/
/-! bursary bursaryref10.Plus -/
/-! bursary bursaryref10.ends -/
/-! bursary bursaryref10.Small -/
/-! bursary bursaryref10.RightPending -/
/-! bursary bursaryref10.order -/
/-! bursary bursaryref10.Right -/
/-! bursary bursaryref05.KeyError -/
/-! bursary bursaryref10.Ends -/
/-! bursary bursaryref27.Within -/
/-! bursary bursarylaw27.overEscrow -/
/-! bursary bursarylaw27.JudgeBounds -/
/-! bursary bursarylaw27.overLocks -/
def law27_overLocks_l1 (n : Nat) : Nat → (List Queue) × Int × Int × Unit → Option Bool := loopF fun r1 ⟨v1, v2, v3, _⟩ =>
    cond (decide (v3 < v2))
      ((idx v1 v3).bind fun x4 =>
      jn (fun (b5 : Bool) =>
          cond b5
            (some true)
            (r1 (v1, v2, (IntKind.wrap .i64 (v3 + 1)), ()))) fun k6 =>
      cond (decide ((x4.holders.length : Int) > 30))
        (k6 true)
        (k6 (decide ((x4.waiters.length : Int) > 30))))
      (some false)
def law27_overLocks (n : Nat) (p0 : Locks) : Option Bool :=
  cond (decide ((p0.queues.length : Int) > 60))
    (some true)
    (law27_overLocks_l1 n n (p0.queues, (p0.queues.length : Int), 0, ()))
@[reducible] def law27_overLocks_ct : Ct tab := ⟨11, [.st 21], [], [.one (.d .bool)], [], Bool, fun y => (y, ()), fun y => y.1, fun _ => rfl, fun n x => law27_overLocks n x.1⟩
theorem law27_overLocks_ok : OkC Tryz.prog tab law27_overLocks_ct := fn_ok (W := ⟨Tryz.prog, tab, tyOf, [], addO, dpO, false⟩) ⟨tabOk, trivial, addOk⟩ (by kernel_rfl) 27 Tryz.f11 (.sq (.n) (.sq (.n) (.sq (.sq (.n) (.bk none (.lp ⟨[(10, .one (.d (.sl (.st 20)))), (11, .one (.d (.int .i64))), (12, .one (.d (.int .i64)))], [], []⟩ (.n)))) (.n)))) Tryz.func11 Tryz.call11 rfl (by kernel_rfl) (by kernel_rfl) (by kernel_rfl) fun n x => by kernel_rfl

/-! bursary locks.locked -/
def locks_locked (n : Nat) (p0 : Res) : Option Bool :=
  jn (fun (b1 : Bool) =>
      jn (fun (b3 : Bool) =>
          some b3) fun k4 =>
      cond b1
        (jn (fun (b5 : Bool) =>
            k4 b5) fun k6 =>
        cond p0.isKey
          (k6 true)
          (k6 (p0.id == 0)))
        (k4 false)) fun k2 =>
  cond (decide (p0.table ≥ 0))
    (k2 (decide (p0.table < 3)))
    (k2 false)
@[reducible] def locks_locked_ct : Ct tab := ⟨57, [.st 17], [], [.one (.d .bool)], [], Bool, fun y => (y, ()), fun y => y.1, fun _ => rfl, fun n x => locks_locked n x.1⟩
theorem locks_locked_ok : OkC Tryz.prog tab locks_locked_ct := fn_ok (W := ⟨Tryz.prog, tab, tyOf, [], addO, dpO, false⟩) ⟨tabOk, trivial, addOk⟩ (by kernel_rfl) 20 Tryz.f57 (.n) Tryz.func57 Tryz.call57 rfl (by kernel_rfl) (by kernel_rfl) (by kernel_rfl) fun n x => by kernel_rfl

/-! bursary locks.txn -/
def locks_txn (n : Nat) (p0 : Int) : Option Bool :=
  jn (fun (b1 : Bool) =>
      some b1) fun k2 =>
  cond (decide (p0 ≥ 1))
    (k2 (decide (p0 ≤ 1073741824)))
    (k2 false)
@[reducible] def locks_txn_ct : Ct tab := ⟨97, [.one (.d (.int .i64))], [], [.one (.d .bool)], [], Bool, fun y => (y, ()), fun y => y.1, fun _ => rfl, fun n x => locks_txn n x.1⟩
theorem locks_txn_ok : OkC Tryz.prog tab locks_txn_ct := fn_ok (W := ⟨Tryz.prog, tab, tyOf, [], addO, dpO, false⟩) ⟨tabOk, trivial, addOk⟩ (by kernel_rfl) 9 Tryz.f97 (.n) Tryz.func97 Tryz.call97 rfl (by kernel_rfl) (by kernel_rfl) (by kernel_rfl) fun n x => by kernel_rfl

/-! bursary locks.conversion -/
def locks_conversion (n : Nat) (p0 : Wait) : Option Bool :=
  some (p0.held != 0)
@[reducible] def locks_conversion_ct : Ct tab := ⟨102, [.st 19], [], [.one (.d .bool)], [], Bool, fun y => (y, ()), fun y => y.1, fun _ => rfl, fun n x => locks_conversion n x.1⟩
theorem locks_conversion_ok : OkC Tryz.prog tab locks_conversion_ct := fn_ok (W := ⟨Tryz.prog, tab, tyOf, [], addO, dpO, false⟩) ⟨tabOk, trivial, addOk⟩ (by kernel_rfl) 6 Tryz.f102 (.n) Tryz.func102 Tryz.call102 rfl (by kernel_rfl) (by kernel_rfl) (by kernel_rfl) fun n x => by kernel_rfl

/-! bursary mode.is -/
def mode_is (n : Nat) (p0 : Int) : Option Bool :=
  jn (fun (b1 : Bool) =>
      some b1) fun k2 =>
  cond (decide (p0 ≥ 0))
    (k2 (decide (p0 < 7)))
    (k2 false)
@[reducible] def mode_is_ct : Ct tab := ⟨134, [.one (.d (.int .i64))], [], [.one (.d .bool)], [], Bool, fun y => (y, ()), fun y => y.1, fun _ => rfl, fun n x => mode_is n x.1⟩
theorem mode_is_ok : OkC Tryz.prog tab mode_is_ct := fn_ok (W := ⟨Tryz.prog, tab, tyOf, [], addO, dpO, false⟩) ⟨tabOk, trivial, addOk⟩ (by kernel_rfl) 9 Tryz.f134 (.n) Tryz.func134 Tryz.call134 rfl (by kernel_rfl) (by kernel_rfl) (by kernel_rfl) fun n x => by kernel_rfl

/-! bursary mode.set -/
def mode_set_l1 (n : Nat) : Nat → Int × (List Int) × Int × Int × Unit → Option Int := loopF fun r1 ⟨v1, v2, v3, v4, _⟩ =>
    cond (decide (v4 < v3))
      ((idx v2 v4).bind fun x5 =>
      (shlP .i64 1 x5).bind fun z6 =>
      r1 ((orV .i64 v1 z6), v2, v3, (IntKind.wrap .i64 (v4 + 1)), ()))
      (some v1)
def mode_set (n : Nat) (p0 : List Int) : Option Int :=
  mode_set_l1 n n (0, p0, (p0.length : Int), 0, ())
@[reducible] def mode_set_ct : Ct tab := ⟨158, [.one (.d (.sl (.int .i64)))], [], [.one (.d (.int .i64))], [], Int, fun y => (y, ()), fun y => y.1, fun _ => rfl, fun n x => mode_set n x.1⟩
theorem mode_set_ok : OkC Tryz.prog tab mode_set_ct := fn_ok (W := ⟨Tryz.prog, tab, tyOf, [], addO, dpO, false⟩) ⟨tabOk, trivial, addOk⟩ (by kernel_rfl) 18 Tryz.f158 (.sq (.n) (.sq (.n) (.sq (.sq (.n) (.bk none (.lp ⟨[(3, .one (.d (.int .i64))), (6, .one (.d (.sl (.int .i64)))), (7, .one (.d (.int .i64))), (8, .one (.d (.int .i64)))], [], []⟩ (.n)))) (.n)))) Tryz.func158 Tryz.call158 rfl (by kernel_rfl) (by kernel_rfl) (by kernel_rfl) fun n x => by kernel_rfl

/-! bursary mode.goes -/
def mode_goes (n : Nat) (p0 : Int) : Option Int :=
  (mode_set n ([0, 1, 2, 3, 4, 5, 6] : List Int)).bind fun y1 =>
  (mode_set n ([0, 1, 2, 3, 4] : List Int)).bind fun y2 =>
  (mode_set n ([0, 1, 2] : List Int)).bind fun y3 =>
  (mode_set n ([0, 1, 3] : List Int)).bind fun y4 =>
  (mode_set n ([0, 1] : List Int)).bind fun y5 =>
  (mode_set n ([0] : List Int)).bind fun y6 =>
  (mode_set n ([0, 6] : List Int)).bind fun y7 =>
  cond (decide (p0 = 0))
    (some y1)
    (cond (decide (p0 = 1))
      (some y2)
      (cond (decide (p0 = 2))
        (some y3)
        (cond (decide (p0 = 3))
          (some y4)
          (cond (decide (p0 = 4))
            (some y5)
            (cond (decide (p0 = 5))
              (some y6)
              (cond (decide (p0 = 6))
                (some y7)
                (none)))))))
@[reducible] def mode_goes_ct : Ct tab := ⟨150, [.one (.d (.int .i64))], [], [.one (.d (.int .i64))], [], Int, fun y => (y, ()), fun y => y.1, fun _ => rfl, fun n x => mode_goes n x.1⟩
theorem mode_goes_ok : OkC Tryz.prog tab mode_goes_ct := fn_ok (W := ⟨Tryz.prog, tab, tyOf, [mode_set_ct], addO, dpO, false⟩) ⟨tabOk, ⟨mode_set_ok, trivial⟩, addOk⟩ (by kernel_rfl) 22 Tryz.f150 (.sq (.n) (.sq (.n) (.sq (.rs [(0, 7)] []) (.n)))) Tryz.func150 Tryz.call150 rfl (by kernel_rfl) (by kernel_rfl) (by kernel_rfl) fun n x => by kernel_rfl

/-! bursary mode.has -/
def mode_has (n : Nat) (p0 : Int) (p1 : Int) : Option Bool :=
  (shrP .i64 p0 p1).bind fun z1 =>
  some ((andV .i64 z1 1) == 1)
@[reducible] def mode_has_ct : Ct tab := ⟨135, [.one (.d (.int .i64)), .one (.d (.int .i64))], [], [.one (.d .bool)], [], Bool, fun y => (y, ()), fun y => y.1, fun _ => rfl, fun n x => mode_has n x.1 x.2.1⟩
theorem mode_has_ok : OkC Tryz.prog tab mode_has_ct := fn_ok (W := ⟨Tryz.prog, tab, tyOf, [], addO, dpO, false⟩) ⟨tabOk, trivial, addOk⟩ (by kernel_rfl) 10 Tryz.f135 (.n) Tryz.func135 Tryz.call135 rfl (by kernel_rfl) (by kernel_rfl) (by kernel_rfl) fun n x => by kernel_rfl

/-! bursary mode.Goes -/
def mode_Goes (n : Nat) (p0 : Int) (p1 : Int) : Option Bool :=
  (mode_is n p0).bind fun y1 =>
  jn (fun (b2 : Bool) =>
      jn (fun (b4 : Bool) =>
          some b4) fun k5 =>
      cond b2
        ((mode_goes n p0).bind fun y6 =>
        (mode_has n y6 p1).bind fun y7 =>
        k5 y7)
        (k5 false)) fun k3 =>
  cond y1
    ((mode_is n p1).bind fun y8 =>
    k3 y8)
    (k3 false)
@[reducible] def mode_Goes_ct : Ct tab := ⟨106, [.one (.d (.int .i64)), .one (.d (.int .i64))], [], [.one (.d .bool)], [], Bool, fun y => (y, ()), fun y => y.1, fun _ => rfl, fun n x => mode_Goes n x.1 x.2.1⟩
theorem mode_Goes_ok : OkC Tryz.prog tab mode_Goes_ct := fn_ok (W := ⟨Tryz.prog, tab, tyOf, [mode_is_ct, mode_goes_ct, mode_has_ct], addO, dpO, false⟩) ⟨tabOk, ⟨mode_is_ok, mode_goes_ok, mode_has_ok, trivial⟩, addOk⟩ (by kernel_rfl) 17 Tryz.f106 (.n) Tryz.func106 Tryz.call106 rfl (by kernel_rfl) (by kernel_rfl) (by kernel_rfl) fun n x => by kernel_rfl

/-! bursary locks.goes 1 -/
def locks_goes_1 (n : Nat) (p0 : Hold) (p1 : Int) (p2 : Int) : Option Bool :=
  jn (fun (b1 : Bool) =>
      some b1) fun k2 =>
  cond (p0.txn != p1)
    ((mode_Goes n p0.mode p2).bind fun y3 =>
    k2 (!y3))
    (k2 false)
@[reducible] def locks_goes_1_ct : Ct tab := ⟨131, [.st 18, .one (.ro (.int .i64)), .one (.ro (.int .i64))], [], [.one (.d .bool)], [], Bool, fun y => (y, ()), fun y => y.1, fun _ => rfl, fun n x => locks_goes_1 n x.1 x.2.1 x.2.2.1⟩
theorem locks_goes_1_ok : OkC Tryz.prog tab locks_goes_1_ct := fn_ok (W := ⟨Tryz.prog, tab, tyOf, [mode_Goes_ct], addO, dpO, false⟩) ⟨tabOk, ⟨mode_Goes_ok, trivial⟩, addOk⟩ (by kernel_rfl) 16 Tryz.f131 (.n) Tryz.func131 Tryz.call131 rfl (by kernel_rfl) (by kernel_rfl) (by kernel_rfl) fun n x => by kernel_rfl

/-! slices.IndexFunc   bursary api.Hold bursary api.Hold  -/
def slices_IndexFunc_Hold_f131_l1 (n : Nat) : Nat → (List Hold) × Int × Int × Int × Int × Unit → Option Int := loopF fun r1 ⟨v1, v2, v3, v4, v5, _⟩ =>
    cond (decide (v5 < v4))
      ((idx v1 v5).bind fun x6 =>
      (locks_goes_1 n x6 v2 v3).bind fun y7 =>
      cond y7
        (some v5)
        (r1 (v1, v2, v3, v4, (IntKind.wrap .i64 (v5 + 1)), ())))
      (some (-1))
def slices_IndexFunc_Hold_f131 (n : Nat) (p0 : List Hold) (p1_0 : Int) (p1_1 : Int) : Option Int :=
  slices_IndexFunc_Hold_f131_l1 n n (p0, p1_0, p1_1, (p0.length : Int), 0, ())
@[reducible] def slices_IndexFunc_Hold_f131_ct : Ct tab := ⟨132, [.one (.d (.sl (.st 18))), .one (.fn 131 [.ro (.int .i64), .ro (.int .i64)])], [], [.one (.d (.int .i64))], [], Int, fun y => (y, ()), fun y => y.1, fun _ => rfl, fun n x => slices_IndexFunc_Hold_f131 n x.1 x.2.1 x.2.2.1⟩
theorem slices_IndexFunc_Hold_f131_ok : OkC Tryz.prog tab slices_IndexFunc_Hold_f131_ct := fn_ok (W := ⟨Tryz.prog, tab, tyOf, [locks_goes_1_ct], addO, dpO, false⟩) ⟨tabOk, ⟨locks_goes_1_ok, trivial⟩, addOk⟩ (by kernel_rfl) 19 Tryz.f132 (.sq (.n) (.sq (.sq (.n) (.bk none (.lp ⟨[(0, .one (.d (.sl (.st 18)))), (1, .one (.fn 131 [.ro (.int .i64), .ro (.int .i64)])), (7, .one (.d (.int .i64))), (8, .one (.d (.int .i64)))], [], []⟩ (.n)))) (.n))) Tryz.func132 Tryz.call132 rfl (by kernel_rfl) (by kernel_rfl) (by kernel_rfl) fun n x => by kernel_rfl

/-! slices.ContainsFunc   bursary api.Hold bursary api.Hold  -/
def slices_ContainsFunc_Hold_f131 (n : Nat) (p0 : List Hold) (p1_0 : Int) (p1_1 : Int) : Option Bool :=
  (slices_IndexFunc_Hold_f131 n p0 p1_0 p1_1).bind fun y1 =>
  some (decide (y1 ≥ 0))
@[reducible] def slices_ContainsFunc_Hold_f131_ct : Ct tab := ⟨130, [.one (.d (.sl (.st 18))), .one (.fn 131 [.ro (.int .i64), .ro (.int .i64)])], [], [.one (.d .bool)], [], Bool, fun y => (y, ()), fun y => y.1, fun _ => rfl, fun n x => slices_ContainsFunc_Hold_f131 n x.1 x.2.1 x.2.2.1⟩
theorem slices_ContainsFunc_Hold_f131_ok : OkC Tryz.prog tab slices_ContainsFunc_Hold_f131_ct := fn_ok (W := ⟨Tryz.prog, tab, tyOf, [slices_IndexFunc_Hold_f131_ct], addO, dpO, false⟩) ⟨tabOk, ⟨slices_IndexFunc_Hold_f131_ok, trivial⟩, addOk⟩ (by kernel_rfl) 9 Tryz.f130 (.n) Tryz.func130 Tryz.call130 rfl (by kernel_rfl) (by kernel_rfl) (by kernel_rfl) fun n x => by kernel_rfl

/-! bursary locks.goes -/
def locks_goes (n : Nat) (p0 : Queue) (p1 : Int) (p2 : Int) : Option Bool :=
  (slices_ContainsFunc_Hold_f131 n p0.holders p1 p2).bind fun y1 =>
  some (!y1)
@[reducible] def locks_goes_ct : Ct tab := ⟨99, [.st 20, .one (.d (.int .i64)), .one (.d (.int .i64))], [], [.one (.d .bool)], [], Bool, fun y => (y, ()), fun y => y.1, fun _ => rfl, fun n x => locks_goes n x.1 x.2.1 x.2.2.1⟩
theorem locks_goes_ok : OkC Tryz.prog tab locks_goes_ct := fn_ok (W := ⟨Tryz.prog, tab, tyOf, [slices_ContainsFunc_Hold_f131_ct], addO, dpO, false⟩) ⟨tabOk, ⟨slices_ContainsFunc_Hold_f131_ok, trivial⟩, addOk⟩ (by kernel_rfl) 12 Tryz.f99 (.n) Tryz.func99 Tryz.call99 rfl (by kernel_rfl) (by kernel_rfl) (by kernel_rfl) fun n x => by kernel_rfl

/-! bursary mode.covers -/
def mode_covers (n : Nat) (p0 : Int) : Option Int :=
  (mode_set n ([0] : List Int)).bind fun y1 =>
  (mode_set n ([0, 1] : List Int)).bind fun y2 =>
  (mode_set n ([0, 1, 2] : List Int)).bind fun y3 =>
  (mode_set n ([0, 1, 3] : List Int)).bind fun y4 =>
  (mode_set n ([0, 1, 2, 3, 4] : List Int)).bind fun y5 =>
  (mode_set n ([0, 1, 2, 3, 4, 5, 6] : List Int)).bind fun y6 =>
  (mode_set n ([0, 6] : List Int)).bind fun y7 =>
  cond (decide (p0 = 0))
    (some y1)
    (cond (decide (p0 = 1))
      (some y2)
      (cond (decide (p0 = 2))
        (some y3)
        (cond (decide (p0 = 3))
          (some y4)
          (cond (decide (p0 = 4))
            (some y5)
            (cond (decide (p0 = 5))
              (some y6)
              (cond (decide (p0 = 6))
                (some y7)
                (none)))))))
@[reducible] def mode_covers_ct : Ct tab := ⟨136, [.one (.d (.int .i64))], [], [.one (.d (.int .i64))], [], Int, fun y => (y, ()), fun y => y.1, fun _ => rfl, fun n x => mode_covers n x.1⟩
theorem mode_covers_ok : OkC Tryz.prog tab mode_covers_ct := fn_ok (W := ⟨Tryz.prog, tab, tyOf, [mode_set_ct], addO, dpO, false⟩) ⟨tabOk, ⟨mode_set_ok, trivial⟩, addOk⟩ (by kernel_rfl) 22 Tryz.f136 (.sq (.n) (.sq (.n) (.sq (.rs [(0, 7)] []) (.n)))) Tryz.func136 Tryz.call136 rfl (by kernel_rfl) (by kernel_rfl) (by kernel_rfl) fun n x => by kernel_rfl

/-! bursary mode.Covers -/
def mode_Covers (n : Nat) (p0 : Int) (p1 : Int) : Option Bool :=
  (mode_is n p0).bind fun y1 =>
  jn (fun (b2 : Bool) =>
      jn (fun (b4 : Bool) =>
          some b4) fun k5 =>
      cond b2
        ((mode_covers n p0).bind fun y6 =>
        (mode_has n y6 p1).bind fun y7 =>
        k5 y7)
        (k5 false)) fun k3 =>
  cond y1
    ((mode_is n p1).bind fun y8 =>
    k3 y8)
    (k3 false)
@[reducible] def mode_Covers_ct : Ct tab := ⟨101, [.one (.d (.int .i64)), .one (.d (.int .i64))], [], [.one (.d .bool)], [], Bool, fun y => (y, ()), fun y => y.1, fun _ => rfl, fun n x => mode_Covers n x.1 x.2.1⟩
theorem mode_Covers_ok : OkC Tryz.prog tab mode_Covers_ct := fn_ok (W := ⟨Tryz.prog, tab, tyOf, [mode_is_ct, mode_covers_ct, mode_has_ct], addO, dpO, false⟩) ⟨tabOk, ⟨mode_is_ok, mode_covers_ok, mode_has_ok, trivial⟩, addOk⟩ (by kernel_rfl) 17 Tryz.f101 (.n) Tryz.func101 Tryz.call101 rfl (by kernel_rfl) (by kernel_rfl) (by kernel_rfl) fun n x => by kernel_rfl

/-! bursary locks.held 1 -/
def locks_held_1 (n : Nat) (p0 : Hold) (p1 : Int) : Option Bool :=
  some (p0.txn == p1)
@[reducible] def locks_held_1_ct : Ct tab := ⟨133, [.st 18, .one (.ro (.int .i64))], [], [.one (.d .bool)], [], Bool, fun y => (y, ()), fun y => y.1, fun _ => rfl, fun n x => locks_held_1 n x.1 x.2.1⟩
theorem locks_held_1_ok : OkC Tryz.prog tab locks_held_1_ct := fn_ok (W := ⟨Tryz.prog, tab, tyOf, [], addO, dpO, false⟩) ⟨tabOk, trivial, addOk⟩ (by kernel_rfl) 8 Tryz.f133 (.n) Tryz.func133 Tryz.call133 rfl (by kernel_rfl) (by kernel_rfl) (by kernel_rfl) fun n x => by kernel_rfl

/-! slices.IndexFunc   bursary api.Hold bursary api.Hold  -/
def slices_IndexFunc_Hold_f133_l1 (n : Nat) : Nat → (List Hold) × Int × Int × Int × Unit → Option Int := loopF fun r1 ⟨v1, v2, v3, v4, _⟩ =>
    cond (decide (v4 < v3))
      ((idx v1 v4).bind fun x5 =>
      (locks_held_1 n x5 v2).bind fun y6 =>
      cond y6
        (some v4)
        (r1 (v1, v2, v3, (IntKind.wrap .i64 (v4 + 1)), ())))
      (some (-1))
def slices_IndexFunc_Hold_f133 (n : Nat) (p0 : List Hold) (p1 : Int) : Option Int :=
  slices_IndexFunc_Hold_f133_l1 n n (p0, p1, (p0.length : Int), 0, ())
@[reducible] def slices_IndexFunc_Hold_f133_ct : Ct tab := ⟨132, [.one (.d (.sl (.st 18))), .one (.fn 133 [.ro (.int .i64)])], [], [.one (.d (.int .i64))], [], Int, fun y => (y, ()), fun y => y.1, fun _ => rfl, fun n x => slices_IndexFunc_Hold_f133 n x.1 x.2.1⟩
theorem slices_IndexFunc_Hold_f133_ok : OkC Tryz.prog tab slices_IndexFunc_Hold_f133_ct := fn_ok (W := ⟨Tryz.prog, tab, tyOf, [locks_held_1_ct], addO, dpO, false⟩) ⟨tabOk, ⟨locks_held_1_ok, trivial⟩, addOk⟩ (by kernel_rfl) 19 Tryz.f132 (.sq (.n) (.sq (.sq (.n) (.bk none (.lp ⟨[(0, .one (.d (.sl (.st 18)))), (1, .one (.fn 133 [.ro (.int .i64)])), (7, .one (.d (.int .i64))), (8, .one (.d (.int .i64)))], [], []⟩ (.n)))) (.n))) Tryz.func132 Tryz.call132 rfl (by kernel_rfl) (by kernel_rfl) (by kernel_rfl) fun n x => by kernel_rfl

/-! bursary locks.held -/
def locks_held (n : Nat) (p0 : Queue) (p1 : Int) : Option Int :=
  (slices_IndexFunc_Hold_f133 n p0.holders p1).bind fun y1 =>
  cond (decide (y1 < 0))
    (some 0)
    ((idx p0.holders y1).bind fun x2 =>
    some x2.mode)
@[reducible] def locks_held_ct : Ct tab := ⟨100, [.st 20, .one (.d (.int .i64))], [], [.one (.d (.int .i64))], [], Int, fun y => (y, ()), fun y => y.1, fun _ => rfl, fun n x => locks_held n x.1 x.2.1⟩
theorem locks_held_ok : OkC Tryz.prog tab locks_held_ct := fn_ok (W := ⟨Tryz.prog, tab, tyOf, [slices_IndexFunc_Hold_f133_ct], addO, dpO, false⟩) ⟨tabOk, ⟨slices_IndexFunc_Hold_f133_ok, trivial⟩, addOk⟩ (by kernel_rfl) 18 Tryz.f100 (.n) Tryz.func100 Tryz.call100 rfl (by kernel_rfl) (by kernel_rfl) (by kernel_rfl) fun n x => by kernel_rfl

/-! bursary mode.OfKeys -/
def mode_OfKeys (n : Nat) (p0 : Int) : Option Bool :=
  (mode_is n p0).bind fun y1 =>
  jn (fun (b2 : Bool) =>
      some b2) fun k3 =>
  cond y1
    ((mode_set n ([0, 3, 5, 6] : List Int)).bind fun y4 =>
    (mode_has n y4 p0).bind fun y5 =>
    k3 y5)
    (k3 false)
@[reducible] def mode_OfKeys_ct : Ct tab := ⟨128, [.one (.d (.int .i64))], [], [.one (.d .bool)], [], Bool, fun y => (y, ()), fun y => y.1, fun _ => rfl, fun n x => mode_OfKeys n x.1⟩
theorem mode_OfKeys_ok : OkC Tryz.prog tab mode_OfKeys_ct := fn_ok (W := ⟨Tryz.prog, tab, tyOf, [mode_is_ct, mode_set_ct, mode_has_ct], addO, dpO, false⟩) ⟨tabOk, ⟨mode_is_ok, mode_set_ok, mode_has_ok, trivial⟩, addOk⟩ (by kernel_rfl) 11 Tryz.f128 (.n) Tryz.func128 Tryz.call128 rfl (by kernel_rfl) (by kernel_rfl) (by kernel_rfl) fun n x => by kernel_rfl

/-! bursary mode.OfTables -/
def mode_OfTables (n : Nat) (p0 : Int) : Option Bool :=
  (mode_is n p0).bind fun y1 =>
  jn (fun (b2 : Bool) =>
      some b2) fun k3 =>
  cond y1
    (k3 (p0 != 6))
    (k3 false)
@[reducible] def mode_OfTables_ct : Ct tab := ⟨129, [.one (.d (.int .i64))], [], [.one (.d .bool)], [], Bool, fun y => (y, ()), fun y => y.1, fun _ => rfl, fun n x => mode_OfTables n x.1⟩
theorem mode_OfTables_ok : OkC Tryz.prog tab mode_OfTables_ct := fn_ok (W := ⟨Tryz.prog, tab, tyOf, [mode_is_ct], addO, dpO, false⟩) ⟨tabOk, ⟨mode_is_ok, trivial⟩, addOk⟩ (by kernel_rfl) 9 Tryz.f129 (.n) Tryz.func129 Tryz.call129 rfl (by kernel_rfl) (by kernel_rfl) (by kernel_rfl) fun n x => by kernel_rfl

/-! bursary locks.of -/
def locks_of (n : Nat) (p0 : Res) (p1 : Int) : Option Bool :=
  cond p0.isKey
    (jn (fun (b1 : Bool) =>
        some b1) fun k2 =>
    cond (p1 != 0)
      ((mode_OfKeys n p1).bind fun y3 =>
      k2 y3)
      (k2 false))
    (jn (fun (b4 : Bool) =>
        some b4) fun k5 =>
    cond (p1 != 0)
      ((mode_OfTables n p1).bind fun y6 =>
      k5 y6)
      (k5 false))
@[reducible] def locks_of_ct : Ct tab := ⟨98, [.st 17, .one (.d (.int .i64))], [], [.one (.d .bool)], [], Bool, fun y => (y, ()), fun y => y.1, fun _ => rfl, fun n x => locks_of n x.1 x.2.1⟩
theorem locks_of_ok : OkC Tryz.prog tab locks_of_ct := fn_ok (W := ⟨Tryz.prog, tab, tyOf, [mode_OfKeys_ct, mode_OfTables_ct], addO, dpO, false⟩) ⟨tabOk, ⟨mode_OfKeys_ok, mode_OfTables_ok, trivial⟩, addOk⟩ (by kernel_rfl) 19 Tryz.f98 (.n) Tryz.func98 Tryz.call98 rfl (by kernel_rfl) (by kernel_rfl) (by kernel_rfl) fun n x => by kernel_rfl

/-! bursary locks.waiters -/
def locks_waiters_l1 (n : Nat) : Nat → Bool × (List Wait) × Int × Int × (List (Int × Bool)) × Queue × Unit → Option (Bool × (List (Int × Bool))) := loopF fun r1 ⟨v1, v2, v3, v4, v5, v6, _⟩ =>
    cond (decide (v4 < v3))
      ((idx v2 v4).bind fun x7 =>
      (locks_txn n x7.txn).bind fun y8 =>
      jn (fun (b9 : Bool) =>
          jn (fun (b11 : Bool) =>
              jn (fun (b13 : Bool) =>
                  jn (fun (b15 : Bool) =>
                      jn (fun (b17 : Bool) =>
                          jn (fun (b19 : Bool) =>
                              jn (fun (b21 : Bool) =>
                                  cond b21
                                    (some (false, v5))
                                    ((mput .i64 v5 x7.txn true).bind fun l23 =>
                                    jn (fun (b24 : Bool) =>
                                        r1 (b24, v2, v3, (IntKind.wrap .i64 (v4 + 1)), l23, v6, ())) fun k25 =>
                                    cond v1
                                      (k25 true)
                                      ((locks_conversion n x7).bind fun y26 =>
                                      k25 (!y26)))) fun k22 =>
                              cond (!b19)
                                (k22 true)
                                (jn (fun (b27 : Bool) =>
                                    k22 b27) fun k28 =>
                                cond (v4 == 0)
                                  ((locks_goes n v6 x7.txn x7.mode).bind fun y29 =>
                                  k28 y29)
                                  (k28 false))) fun k20 =>
                          cond b17
                            (jn (fun (b30 : Bool) =>
                                k20 (!b30)) fun k31 =>
                            cond v1
                              ((locks_conversion n x7).bind fun y32 =>
                              k31 y32)
                              (k31 false))
                            (k20 false)) fun k18 =>
                      cond b15
                        ((mode_Covers n x7.mode x7.held).bind fun y33 =>
                        k18 y33)
                        (k18 false)) fun k16 =>
                  cond b13
                    ((mode_Covers n x7.held x7.mode).bind fun y34 =>
                    k16 (!y34))
                    (k16 false)) fun k14 =>
              cond b11
                ((locks_held n v6 x7.txn).bind fun y35 =>
                k14 (x7.held == y35))
                (k14 false)) fun k12 =>
          cond b9
            ((locks_of n v6.res x7.mode).bind fun y36 =>
            k12 y36)
            (k12 false)) fun k10 =>
      cond y8
        ((mlook .i64 false v5 x7.txn).bind fun w37 =>
        k10 (!w37))
        (k10 false))
      (some (true, v5))
def locks_waiters (n : Nat) (p0 : Queue) (q0 : List (Int × Bool)) : Option (Bool × (List (Int × Bool))) :=
  locks_waiters_l1 n n (false, p0.waiters, (p0.waiters.length : Int), 0, q0, p0, ())
@[reducible] def locks_waiters_ct : Ct tab := ⟨60, [.st 20, .one (.map 0)], [.map .i64 3 4 .bool], [.one (.d .bool)], [(some 0, .map .i64 3 4 .bool)], (Bool × (List (Int × Bool))), fun y => (y.1, y.2, ()), fun y => (y.1, y.2.1), fun _ => rfl, fun n x => locks_waiters n x.1 x.2.1⟩
theorem locks_waiters_ok : OkC Tryz.prog tab locks_waiters_ct := fn_ok (W := ⟨Tryz.prog, tab, tyOf, [locks_txn_ct, locks_conversion_ct, locks_goes_ct, mode_Covers_ct, locks_held_ct, locks_of_ct], addO, dpO, false⟩) ⟨tabOk, ⟨locks_txn_ok, locks_conversion_ok, locks_goes_ok, mode_Covers_ok, locks_held_ok, locks_of_ok, trivial⟩, addOk⟩ (by kernel_rfl) 91 Tryz.f60 (.sq (.n) (.sq (.n) (.sq (.sq (.n) (.bk none (.lp ⟨[(1, .one (.map 0)), (2, .one (.box 1 0)), (5, .one (.d .bool)), (10, .one (.d (.sl (.st 19)))), (11, .one (.d (.int .i64))), (12, .one (.d (.int .i64)))], [.map .i64 3 4 .bool, .bst 20], [(0, 0)]⟩ (.n)))) (.n)))) Tryz.func60 Tryz.call60 rfl (by kernel_rfl) (by kernel_rfl) (by kernel_rfl) fun n x => by kernel_rfl

/-! bursary locks.holders -/
def locks_holders_l1 (n : Nat) : Nat → Int × (List Hold) × Int × Int × Queue × Unit → Option Bool := loopF fun r1 ⟨v1, v2, v3, v4, v5, _⟩ =>
    cond (decide (v4 < v3))
      ((idx v2 v4).bind fun x6 =>
      (locks_txn n x6.txn).bind fun y7 =>
      jn (fun (b8 : Bool) =>
          jn (fun (b10 : Bool) =>
              jn (fun (b12 : Bool) =>
                  cond b12
                    (some false)
                    (r1 (x6.txn, v2, v3, (IntKind.wrap .i64 (v4 + 1)), v5, ()))) fun k13 =>
              cond b10
                (k13 true)
                ((locks_goes n v5 x6.txn x6.mode).bind fun y14 =>
                k13 (!y14))) fun k11 =>
          cond b8
            (k11 true)
            ((locks_of n v5.res x6.mode).bind fun y15 =>
            k11 (!y15))) fun k9 =>
      cond (!y7)
        (k9 true)
        (k9 (decide (x6.txn ≤ v1))))
      (some (decide (v1 > 0)))
def locks_holders (n : Nat) (p0 : Queue) : Option Bool :=
  locks_holders_l1 n n (0, p0.holders, (p0.holders.length : Int), 0, p0, ())
@[reducible] def locks_holders_ct : Ct tab := ⟨59, [.st 20], [], [.one (.d .bool)], [], Bool, fun y => (y, ()), fun y => y.1, fun _ => rfl, fun n x => locks_holders n x.1⟩
theorem locks_holders_ok : OkC Tryz.prog tab locks_holders_ct := fn_ok (W := ⟨Tryz.prog, tab, tyOf, [locks_txn_ct, locks_goes_ct, locks_of_ct], addO, dpO, false⟩) ⟨tabOk, ⟨locks_txn_ok, locks_goes_ok, locks_of_ok, trivial⟩, addOk⟩ (by kernel_rfl) 45 Tryz.f59 (.sq (.n) (.sq (.n) (.sq (.sq (.n) (.bk none (.lp ⟨[(1, .one (.box 0 0)), (3, .one (.d (.int .i64))), (7, .one (.d (.sl (.st 18)))), (8, .one (.d (.int .i64))), (9, .one (.d (.int .i64)))], [.bst 20], []⟩ (.n)))) (.n)))) Tryz.func59 Tryz.call59 rfl (by kernel_rfl) (by kernel_rfl) (by kernel_rfl) fun n x => by kernel_rfl

/-! bursary locks.compare 1 -/
def locks_compare_1 (n : Nat) (p0 : Res) : Option Int :=
  cond p0.isKey
    (some 1)
    (some 0)
@[reducible] def locks_compare_1_ct : Ct tab := ⟨93, [.st 17], [], [.one (.d (.int .i64))], [], Int, fun y => (y, ()), fun y => y.1, fun _ => rfl, fun n x => locks_compare_1 n x.1⟩
theorem locks_compare_1_ok : OkC Tryz.prog tab locks_compare_1_ct := fn_ok (W := ⟨Tryz.prog, tab, tyOf, [], addO, dpO, false⟩) ⟨tabOk, trivial, addOk⟩ (by kernel_rfl) 5 Tryz.f93 (.n) Tryz.func93 Tryz.call93 rfl (by kernel_rfl) (by kernel_rfl) (by kernel_rfl) fun n x => by kernel_rfl

/-! bursary locks.compare -/
def locks_compare (n : Nat) (p0 : Res) (p1 : Res) : Option Int :=
  (cmp_Compare_int n p0.table p1.table).bind fun y1 =>
  (locks_compare_1 n p0).bind fun y2 =>
  (locks_compare_1 n p1).bind fun y3 =>
  (cmp_Compare_int n y2 y3).bind fun y4 =>
  (cmp_Compare_uint16 n p0.id p1.id).bind fun y5 =>
  (cmp_Or_int n ([y1, y4, y5] : List Int)).bind fun y6 =>
  some y6
@[reducible] def locks_compare_ct : Ct tab := ⟨58, [.st 17, .st 17], [], [.one (.d (.int .i64))], [], Int, fun y => (y, ()), fun y => y.1, fun _ => rfl, fun n x => locks_compare n x.1 x.2.1⟩
theorem locks_compare_ok : OkC Tryz.prog tab locks_compare_ct := fn_ok (W := ⟨Tryz.prog, tab, tyOf, [cmp_Compare_int_ct, locks_compare_1_ct, cmp_Compare_uint16_ct, cmp_Or_int_ct], addO, dpO, false⟩) ⟨tabOk, ⟨cmp_Compare_int_ok, locks_compare_1_ok, cmp_Compare_uint16_ok, cmp_Or_int_ok, trivial⟩, addOk⟩ (by kernel_rfl) 25 Tryz.f58 (.n) Tryz.func58 Tryz.call58 rfl (by kernel_rfl) (by kernel_rfl) (by kernel_rfl) fun n x => by kernel_rfl

/-! bursary locks.Check -/
def locks_Check_l1 (n : Nat) : Nat → (List Queue) × Int × Int × Locks × (List (Int × Bool)) × Unit → Option Int := loopF fun r1 ⟨v1, v2, v3, v4, v5, _⟩ =>
    cond (decide (v3 < v2))
      ((idx v1 v3).bind fun x6 =>
      (locks_locked n x6.res).bind fun y7 =>
      cond (!y7)
        (cond true
          (cond true
            (cond true
              (some 180)
              (r1 (v1, v2, (IntKind.wrap .i64 (v3 + 1)), v4, v5, ())))
            ((locks_waiters n x6 v5).bind fun y8 =>
            cond (!y8.1)
              (some 180)
              (r1 (v1, v2, (IntKind.wrap .i64 (v3 + 1)), v4, y8.2, ()))))
          ((locks_holders n x6).bind fun y9 =>
          cond (!y9)
            (cond true
              (some 180)
              (r1 (v1, v2, (IntKind.wrap .i64 (v3 + 1)), v4, v5, ())))
            ((locks_waiters n x6 v5).bind fun y10 =>
            cond (!y10.1)
              (some 180)
              (r1 (v1, v2, (IntKind.wrap .i64 (v3 + 1)), v4, y10.2, ())))))
        (cond (decide (v3 > 0))
          ((idx v4.queues (IntKind.wrap .i64 (v3 - 1))).bind fun x11 =>
          (locks_compare n x11.res x6.res).bind fun y12 =>
          cond (decide (y12 ≥ 0))
            (cond true
              (cond true
                (some 180)
                (r1 (v1, v2, (IntKind.wrap .i64 (v3 + 1)), v4, v5, ())))
              ((locks_waiters n x6 v5).bind fun y13 =>
              cond (!y13.1)
                (some 180)
                (r1 (v1, v2, (IntKind.wrap .i64 (v3 + 1)), v4, y13.2, ()))))
            ((locks_holders n x6).bind fun y14 =>
            cond (!y14)
              (cond true
                (some 180)
                (r1 (v1, v2, (IntKind.wrap .i64 (v3 + 1)), v4, v5, ())))
              ((locks_waiters n x6 v5).bind fun y15 =>
              cond (!y15.1)
                (some 180)
                (r1 (v1, v2, (IntKind.wrap .i64 (v3 + 1)), v4, y15.2, ())))))
          (cond false
            (cond true
              (cond true
                (some 180)
                (r1 (v1, v2, (IntKind.wrap .i64 (v3 + 1)), v4, v5, ())))
              ((locks_waiters n x6 v5).bind fun y16 =>
              cond (!y16.1)
                (some 180)
                (r1 (v1, v2, (IntKind.wrap .i64 (v3 + 1)), v4, y16.2, ()))))
            ((locks_holders n x6).bind fun y17 =>
            cond (!y17)
              (cond true
                (some 180)
                (r1 (v1, v2, (IntKind.wrap .i64 (v3 + 1)), v4, v5, ())))
              ((locks_waiters n x6 v5).bind fun y18 =>
              cond (!y18.1)
                (some 180)
                (r1 (v1, v2, (IntKind.wrap .i64 (v3 + 1)), v4, y18.2, ())))))))
      (some 0)
def locks_Check (n : Nat) (p0 : Locks) : Option Int :=
  cond (decide ((p0.queues.length : Int) > 500))
    (some 180)
    (locks_Check_l1 n n (p0.queues, (p0.queues.length : Int), 0, p0, ([] : List (Int × Bool)), ()))
@[reducible] def locks_Check_ct : Ct tab := ⟨30, [.st 21], [], [.one (.d (.int .i64))], [], Int, fun y => (y, ()), fun y => y.1, fun _ => rfl, fun n x => locks_Check n x.1⟩
theorem locks_Check_ok : OkC Tryz.prog tab locks_Check_ct := fn_ok (W := ⟨Tryz.prog, tab, tyOf, [locks_locked_ct, locks_waiters_ct, locks_holders_ct, locks_compare_ct], addO, dpO, false⟩) ⟨tabOk, ⟨locks_locked_ok, locks_waiters_ok, locks_holders_ok, locks_compare_ok, trivial⟩, addOk⟩ (by kernel_rfl) 52 Tryz.f30 (.sq (.n) (.sq (.n) (.sq (.n) (.sq (.sq (.n) (.bk none (.lp ⟨[(1, .one (.box 0 0)), (3, .one (.map 1)), (12, .one (.d (.sl (.st 20)))), (13, .one (.d (.int .i64))), (14, .one (.d (.int .i64)))], [.bst 21, .map .i64 3 4 .bool], []⟩ (.sq (.n) (.sq (.n) (.sq (.bk none (.sq (.n) (.sq (.rg [1000000]) (.n)))) (.n))))))) (.n))))) Tryz.func30 Tryz.call30 rfl (by kernel_rfl) (by kernel_rfl) (by kernel_rfl) fun n x => by kernel_rfl

/-! slices.Clone   int int  -/
def slices_Clone_int (n : Nat) (p0 : List Int) : Option ((List Int)) :=
  nilC p0.isEmpty
    (some ([] : List Int))
    ((app 8 ([] : List Int) p0).bind fun l1 =>
    some l1)
@[reducible] def slices_Clone_int_ct : Ct tab := ⟨61, [.one (.d (.sl (.int .i64)))], [], [.one (.own 0)], [(none, .row 3 (.int .i64))], ((List Int)), fun y => (y, ()), fun y => y.1, fun _ => rfl, fun n x => slices_Clone_int n x.1⟩
theorem slices_Clone_int_ok : OkC Tryz.prog tab slices_Clone_int_ct := fn_ok (W := ⟨Tryz.prog, tab, tyOf, [], addO, dpO, false⟩) ⟨tabOk, trivial, addOk⟩ (by kernel_rfl) 8 Tryz.f61 (.n) Tryz.func61 Tryz.call61 rfl (by kernel_rfl) (by kernel_rfl) (by kernel_rfl) fun n x => by kernel_rfl

end
end Go.Proofs.YtegnflodgnfffaaGreat
