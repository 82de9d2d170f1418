/- Functions of the program: plain twins and their contracts, printed by program. -/
import Derived.Test.YtegnflodgnfffaaGreatTypes
import Derived.Test.YtegnflodgnfffaaGreatF1
namespace Go.Proofs.YtegnflodgnfffaaGreat
open Go Go.Bur Go.RowKit
set_option linter.unusedVariables false
set_option linter.unusedSimpArgs false
set_option maxRecDepth 100000
noncomputable section
/-!   bursary ideal.turn .note -/
def ideal_turn_note (n : Nat) (q0_0 : List Bounds) (q0_1 : Int) (q0_2 : Int) (q0_3 : Int) (q0_4 : Int) (q0_5 : Int) (q0_6 : Int) (q0_7 : ByteArray) (q0_8 : Int) (q1 : List Row) : Option (Answer × (List Bounds) × Int × Int × Int × Int × Int × Int × ByteArray × Int × (List Row)) :=
  (ideal_turn_found_f184 n (Key.mk q0_2 q0_3) q0_0 q0_1 q0_2 q0_3 q0_4 q0_5 q0_6 q0_7 q0_8 q1).bind fun y1 =>
  some (y1.1, y1.2.1, y1.2.2.1, y1.2.2.2.1, y1.2.2.2.2.1, y1.2.2.2.2.2.1, y1.2.2.2.2.2.2.1, y1.2.2.2.2.2.2.2.1, y1.2.2.2.2.2.2.2.2.1, y1.2.2.2.2.2.2.2.2.2.1, y1.2.2.2.2.2.2.2.2.2.2)
@[reducible] def ideal_turn_note_ct : Ct tab := ⟨170, [.one (.box 0 0)], [.box [.d (.sl (.st 0)), .own 1, .d (.int .i64), .d (.int .i64), .d (.int .u16), .d (.int .i64), .d (.int .u16), .d (.int .i64), .d .str, .d (.int .i64)], .row 102 (.st 6)], [.st 8], [(some 0, .box [.d (.sl (.st 0)), .own 1, .d (.int .i64), .d (.int .i64), .d (.int .u16), .d (.int .i64), .d (.int .u16), .d (.int .i64), .d .str, .d (.int .i64)]), (none, .row 102 (.st 6))], (Answer × (List Bounds) × Int × Int × Int × Int × Int × Int × ByteArray × Int × (List Row)), fun y => (y.1, y.2.1, y.2.2.1, y.2.2.2.1, y.2.2.2.2.1, y.2.2.2.2.2.1, y.2.2.2.2.2.2.1, y.2.2.2.2.2.2.2.1, y.2.2.2.2.2.2.2.2.1, y.2.2.2.2.2.2.2.2.2.1, y.2.2.2.2.2.2.2.2.2.2, ()), fun y => (y.1, y.2.1, y.2.2.1, y.2.2.2.1, y.2.2.2.2.1, y.2.2.2.2.2.1, y.2.2.2.2.2.2.1, y.2.2.2.2.2.2.2.1, y.2.2.2.2.2.2.2.2.1, y.2.2.2.2.2.2.2.2.2.1, y.2.2.2.2.2.2.2.2.2.2.1), fun _ => rfl, fun n x => ideal_turn_note n x.1 x.2.1 x.2.2.1 x.2.2.2.1 x.2.2.2.2.1 x.2.2.2.2.2.1 x.2.2.2.2.2.2.1 x.2.2.2.2.2.2.2.1 x.2.2.2.2.2.2.2.2.1 x.2.2.2.2.2.2.2.2.2.1⟩
theorem ideal_turn_note_ok : OkC Tryz.prog tab ideal_turn_note_ct := fn_ok (W := ⟨Tryz.prog, tab, tyOf, [ideal_turn_found_f184_ct], addO, dpO, false⟩) ⟨tabOk, ⟨ideal_turn_found_f184_ok, trivial⟩, addOk⟩ (by kernel_rfl) 11 Tryz.f170 (.n) Tryz.func170 Tryz.call170 rfl (by kernel_rfl) (by kernel_rfl) (by kernel_rfl) fun n x => by kernel_rfl

/-!   bursary ideal.turn .set 1 -/
def ideal_turn_set_1 (n : Nat) (p0 : Int) (q1_0 : List Bounds) (q1_1 : Int) (q1_2 : Int) (q1_3 : Int) (q1_4 : Int) (q1_5 : Int) (q1_6 : Int) (q1_7 : ByteArray) (q1_8 : Int) (q2 : List Row) : Option (Answer × (List Bounds) × Int × Int × Int × Int × Int × Int × ByteArray × Int × (List Row)) :=
  (idx q2 p0).bind fun x1 =>
  (idx q2 p0).bind fun x2 =>
  (put q2 p0 (Row.mk x2.key q1_6 x2.note)).bind fun l3 =>
  some ((Answer.mk 0 ([] : List Row) 0), q1_0, q1_1, q1_2, q1_3, q1_4, q1_5, q1_6, q1_7, q1_8, l3)
@[reducible] def ideal_turn_set_1_ct : Ct tab := ⟨185, [.one (.d (.int .i64)), .one (.box 0 0)], [.box [.box 1 0], .box [.d (.sl (.st 0)), .own 2, .d (.int .i64), .d (.int .i64), .d (.int .u16), .d (.int .i64), .d (.int .u16), .d (.int .i64), .d .str, .d (.int .i64)], .row 102 (.st 6)], [.st 8], [(some 0, .box [.box 1 0]), (some 1, .box [.d (.sl (.st 0)), .own 2, .d (.int .i64), .d (.int .i64), .d (.int .u16), .d (.int .i64), .d (.int .u16), .d (.int .i64), .d .str, .d (.int .i64)]), (none, .row 102 (.st 6))], (Answer × (List Bounds) × Int × Int × Int × Int × Int × Int × ByteArray × Int × (List Row)), fun y => (y.1, y.2.1, y.2.2.1, y.2.2.2.1, y.2.2.2.2.1, y.2.2.2.2.2.1, y.2.2.2.2.2.2.1, y.2.2.2.2.2.2.2.1, y.2.2.2.2.2.2.2.2.1, y.2.2.2.2.2.2.2.2.2.1, y.2.2.2.2.2.2.2.2.2.2, ()), fun y => (y.1, y.2.1, y.2.2.1, y.2.2.2.1, y.2.2.2.2.1, y.2.2.2.2.2.1, y.2.2.2.2.2.2.1, y.2.2.2.2.2.2.2.1, y.2.2.2.2.2.2.2.2.1, y.2.2.2.2.2.2.2.2.2.1, y.2.2.2.2.2.2.2.2.2.2.1), fun _ => rfl, fun n x => ideal_turn_set_1 n x.1 x.2.1 x.2.2.1 x.2.2.2.1 x.2.2.2.2.1 x.2.2.2.2.2.1 x.2.2.2.2.2.2.1 x.2.2.2.2.2.2.2.1 x.2.2.2.2.2.2.2.2.1 x.2.2.2.2.2.2.2.2.2.1 x.2.2.2.2.2.2.2.2.2.2.1⟩
theorem ideal_turn_set_1_ok : OkC Tryz.prog tab ideal_turn_set_1_ct := fn_ok (W := ⟨Tryz.prog, tab, tyOf, [], addO, dpO, false⟩) ⟨tabOk, trivial, addOk⟩ (by kernel_rfl) 17 Tryz.f185 (.n) Tryz.func185 Tryz.call185 rfl (by kernel_rfl) (by kernel_rfl) (by kernel_rfl) fun n x => by kernel_rfl

/-!   bursary ideal.turn .found -/
def ideal_turn_found_f185 (n : Nat) (p1 : Key) (q0_0 : List Bounds) (q0_1 : Int) (q0_2 : Int) (q0_3 : Int) (q0_4 : Int) (q0_5 : Int) (q0_6 : Int) (q0_7 : ByteArray) (q0_8 : Int) (q1 : List Row) : Option (Answer × (List Bounds) × Int × Int × Int × Int × Int × Int × ByteArray × Int × (List Row)) :=
  (row_Find n q1 p1).bind fun y1 =>
  cond (!y1.2)
    (some ((Answer.mk 4 ([] : List Row) 0), q0_0, q0_1, q0_2, q0_3, q0_4, q0_5, q0_6, q0_7, q0_8, q1))
    ((ideal_turn_set_1 n y1.1 q0_0 q0_1 q0_2 q0_3 q0_4 q0_5 q0_6 q0_7 q0_8 q1).bind fun y2 =>
    some (y2.1, y2.2.1, y2.2.2.1, y2.2.2.2.1, y2.2.2.2.2.1, y2.2.2.2.2.2.1, y2.2.2.2.2.2.2.1, y2.2.2.2.2.2.2.2.1, y2.2.2.2.2.2.2.2.2.1, y2.2.2.2.2.2.2.2.2.2.1, y2.2.2.2.2.2.2.2.2.2.2))
@[reducible] def ideal_turn_found_f185_ct : Ct tab := ⟨176, [.one (.box 0 0), .st 2, .one (.fn 185 [.bx 2])], [.box [.d (.sl (.st 0)), .own 1, .d (.int .i64), .d (.int .i64), .d (.int .u16), .d (.int .i64), .d (.int .u16), .d (.int .i64), .d .str, .d (.int .i64)], .row 102 (.st 6), .box [.box 0 0]], [.st 8], [(some 0, .box [.d (.sl (.st 0)), .own 2, .d (.int .i64), .d (.int .i64), .d (.int .u16), .d (.int .i64), .d (.int .u16), .d (.int .i64), .d .str, .d (.int .i64)]), (some 2, .box [.box 0 0]), (none, .row 102 (.st 6))], (Answer × (List Bounds) × Int × Int × Int × Int × Int × Int × ByteArray × Int × (List Row)), fun y => (y.1, y.2.1, y.2.2.1, y.2.2.2.1, y.2.2.2.2.1, y.2.2.2.2.2.1, y.2.2.2.2.2.2.1, y.2.2.2.2.2.2.2.1, y.2.2.2.2.2.2.2.2.1, y.2.2.2.2.2.2.2.2.2.1, y.2.2.2.2.2.2.2.2.2.2, ()), fun y => (y.1, y.2.1, y.2.2.1, y.2.2.2.1, y.2.2.2.2.1, y.2.2.2.2.2.1, y.2.2.2.2.2.2.1, y.2.2.2.2.2.2.2.1, y.2.2.2.2.2.2.2.2.1, y.2.2.2.2.2.2.2.2.2.1, y.2.2.2.2.2.2.2.2.2.2.1), fun _ => rfl, fun n x => ideal_turn_found_f185 n x.1 x.2.1 x.2.2.1 x.2.2.2.1 x.2.2.2.2.1 x.2.2.2.2.2.1 x.2.2.2.2.2.2.1 x.2.2.2.2.2.2.2.1 x.2.2.2.2.2.2.2.2.1 x.2.2.2.2.2.2.2.2.2.1 x.2.2.2.2.2.2.2.2.2.2.1⟩
theorem ideal_turn_found_f185_ok : OkC Tryz.prog tab ideal_turn_found_f185_ct := fn_ok (W := ⟨Tryz.prog, tab, tyOf, [row_Find_ct, ideal_turn_set_1_ct], addO, dpO, false⟩) ⟨tabOk, ⟨row_Find_ok, ideal_turn_set_1_ok, trivial⟩, addOk⟩ (by kernel_rfl) 24 Tryz.f176 (.n) Tryz.func176 Tryz.call176 rfl (by kernel_rfl) (by kernel_rfl) (by kernel_rfl) fun n x => by kernel_rfl

/-!   bursary ideal.turn .set -/
def ideal_turn_set (n : Nat) (q0_0 : List Bounds) (q0_1 : Int) (q0_2 : Int) (q0_3 : Int) (q0_4 : Int) (q0_5 : Int) (q0_6 : Int) (q0_7 : ByteArray) (q0_8 : Int) (q1 : List Row) : Option (Answer × (List Bounds) × Int × Int × Int × Int × Int × Int × ByteArray × Int × (List Row)) :=
  (ideal_turn_fits n (Key.mk q0_2 q0_3) q0_6 q0_0 q0_1 q0_2 q0_3 q0_4 q0_5 q0_6 q0_7 q0_8 q1).bind fun y1 =>
  cond (!y1.1)
    (some ((Answer.mk 152 ([] : List Row) 0), y1.2.1, y1.2.2.1, y1.2.2.2.1, y1.2.2.2.2.1, y1.2.2.2.2.2.1, y1.2.2.2.2.2.2.1, y1.2.2.2.2.2.2.2.1, y1.2.2.2.2.2.2.2.2.1, y1.2.2.2.2.2.2.2.2.2.1, y1.2.2.2.2.2.2.2.2.2.2))
    ((ideal_turn_found_f185 n (Key.mk y1.2.2.2.1 y1.2.2.2.2.1) y1.2.1 y1.2.2.1 y1.2.2.2.1 y1.2.2.2.2.1 y1.2.2.2.2.2.1 y1.2.2.2.2.2.2.1 y1.2.2.2.2.2.2.2.1 y1.2.2.2.2.2.2.2.2.1 y1.2.2.2.2.2.2.2.2.2.1 y1.2.2.2.2.2.2.2.2.2.2).bind fun y2 =>
    some (y2.1, y2.2.1, y2.2.2.1, y2.2.2.2.1, y2.2.2.2.2.1, y2.2.2.2.2.2.1, y2.2.2.2.2.2.2.1, y2.2.2.2.2.2.2.2.1, y2.2.2.2.2.2.2.2.2.1, y2.2.2.2.2.2.2.2.2.2.1, y2.2.2.2.2.2.2.2.2.2.2))
@[reducible] def ideal_turn_set_ct : Ct tab := ⟨171, [.one (.box 0 0)], [.box [.d (.sl (.st 0)), .own 1, .d (.int .i64), .d (.int .i64), .d (.int .u16), .d (.int .i64), .d (.int .u16), .d (.int .i64), .d .str, .d (.int .i64)], .row 102 (.st 6)], [.st 8], [(some 0, .box [.d (.sl (.st 0)), .own 1, .d (.int .i64), .d (.int .i64), .d (.int .u16), .d (.int .i64), .d (.int .u16), .d (.int .i64), .d .str, .d (.int .i64)]), (none, .row 102 (.st 6))], (Answer × (List Bounds) × Int × Int × Int × Int × Int × Int × ByteArray × Int × (List Row)), fun y => (y.1, y.2.1, y.2.2.1, y.2.2.2.1, y.2.2.2.2.1, y.2.2.2.2.2.1, y.2.2.2.2.2.2.1, y.2.2.2.2.2.2.2.1, y.2.2.2.2.2.2.2.2.1, y.2.2.2.2.2.2.2.2.2.1, y.2.2.2.2.2.2.2.2.2.2, ()), fun y => (y.1, y.2.1, y.2.2.1, y.2.2.2.1, y.2.2.2.2.1, y.2.2.2.2.2.1, y.2.2.2.2.2.2.1, y.2.2.2.2.2.2.2.1, y.2.2.2.2.2.2.2.2.1, y.2.2.2.2.2.2.2.2.2.1, y.2.2.2.2.2.2.2.2.2.2.1), fun _ => rfl, fun n x => ideal_turn_set n x.1 x.2.1 x.2.2.1 x.2.2.2.1 x.2.2.2.2.1 x.2.2.2.2.2.1 x.2.2.2.2.2.2.1 x.2.2.2.2.2.2.2.1 x.2.2.2.2.2.2.2.2.1 x.2.2.2.2.2.2.2.2.2.1⟩
theorem ideal_turn_set_ok : OkC Tryz.prog tab ideal_turn_set_ct := fn_ok (W := ⟨Tryz.prog, tab, tyOf, [ideal_turn_fits_ct, ideal_turn_found_f185_ct], addO, dpO, false⟩) ⟨tabOk, ⟨ideal_turn_fits_ok, ideal_turn_found_f185_ok, trivial⟩, addOk⟩ (by kernel_rfl) 25 Tryz.f171 (.n) Tryz.func171 Tryz.call171 rfl (by kernel_rfl) (by kernel_rfl) (by kernel_rfl) fun n x => by kernel_rfl

/-! bursary row.Plus -/
def row_Plus (n : Nat) (p0 : Int) (p1 : Int) : Option (Int × Bool) :=
  jn (fun (b1 : Bool) =>
      cond b1
        (some (0, false))
        (some ((IntKind.wrap .i64 (p0 + p1)), true))) fun k2 =>
  cond (!((decide ((IntKind.wrap .i64 (p0 + p1)) > p0)) == (decide (p1 > 0))))
    (k2 (p1 != 0))
    (k2 false)
@[reducible] def row_Plus_ct : Ct tab := ⟨194, [.one (.d (.int .i64)), .one (.d (.int .i64))], [], [.one (.d (.int .i64)), .one (.d .bool)], [], (Int × Bool), fun y => (y.1, y.2, ()), fun y => (y.1, y.2.1), fun _ => rfl, fun n x => row_Plus n x.1 x.2.1⟩
theorem row_Plus_ok : OkC Tryz.prog tab row_Plus_ct := fn_ok (W := ⟨Tryz.prog, tab, tyOf, [], addO, dpO, false⟩) ⟨tabOk, trivial, addOk⟩ (by kernel_rfl) 21 Tryz.f194 (.n) Tryz.func194 Tryz.call194 rfl (by kernel_rfl) (by kernel_rfl) (by kernel_rfl) fun n x => by kernel_rfl

/-!   bursary ideal.turn .sum -/
def ideal_turn_sum (n : Nat) (p1 : Int) (p2 : Int) (q0_0 : List Bounds) (q0_1 : Int) (q0_2 : Int) (q0_3 : Int) (q0_4 : Int) (q0_5 : Int) (q0_6 : Int) (q0_7 : ByteArray) (q0_8 : Int) (q1 : List Row) : Option (Int × Bool × (List Bounds) × Int × Int × Int × Int × Int × Int × ByteArray × Int × (List Row)) :=
  (idx q1 p1).bind fun x1 =>
  (idx q1 p1).bind fun x2 =>
  (row_Plus n x2.val p2).bind fun y3 =>
  cond y3.2
    ((idx q1 p1).bind fun x4 =>
    (idx q1 p1).bind fun x5 =>
    (ideal_turn_fits n x5.key y3.1 q0_0 q0_1 q0_2 q0_3 q0_4 q0_5 q0_6 q0_7 q0_8 q1).bind fun y6 =>
    some (y3.1, y6.1, y6.2.1, y6.2.2.1, y6.2.2.2.1, y6.2.2.2.2.1, y6.2.2.2.2.2.1, y6.2.2.2.2.2.2.1, y6.2.2.2.2.2.2.2.1, y6.2.2.2.2.2.2.2.2.1, y6.2.2.2.2.2.2.2.2.2.1, y6.2.2.2.2.2.2.2.2.2.2))
    (some (y3.1, false, q0_0, q0_1, q0_2, q0_3, q0_4, q0_5, q0_6, q0_7, q0_8, q1))
@[reducible] def ideal_turn_sum_ct : Ct tab := ⟨187, [.one (.box 0 0), .one (.d (.int .i64)), .one (.d (.int .i64))], [.box [.d (.sl (.st 0)), .own 1, .d (.int .i64), .d (.int .i64), .d (.int .u16), .d (.int .i64), .d (.int .u16), .d (.int .i64), .d .str, .d (.int .i64)], .row 102 (.st 6)], [.one (.d (.int .i64)), .one (.d .bool)], [(some 0, .box [.d (.sl (.st 0)), .own 1, .d (.int .i64), .d (.int .i64), .d (.int .u16), .d (.int .i64), .d (.int .u16), .d (.int .i64), .d .str, .d (.int .i64)]), (none, .row 102 (.st 6))], (Int × Bool × (List Bounds) × Int × Int × Int × Int × Int × Int × ByteArray × Int × (List Row)), fun y => (y.1, y.2.1, y.2.2.1, y.2.2.2.1, y.2.2.2.2.1, y.2.2.2.2.2.1, y.2.2.2.2.2.2.1, y.2.2.2.2.2.2.2.1, y.2.2.2.2.2.2.2.2.1, y.2.2.2.2.2.2.2.2.2.1, y.2.2.2.2.2.2.2.2.2.2.1, y.2.2.2.2.2.2.2.2.2.2.2, ()), fun y => (y.1, y.2.1, y.2.2.1, y.2.2.2.1, y.2.2.2.2.1, y.2.2.2.2.2.1, y.2.2.2.2.2.2.1, y.2.2.2.2.2.2.2.1, y.2.2.2.2.2.2.2.2.1, y.2.2.2.2.2.2.2.2.2.1, y.2.2.2.2.2.2.2.2.2.2.1, y.2.2.2.2.2.2.2.2.2.2.2.1), fun _ => rfl, fun n x => ideal_turn_sum n x.1 x.2.1 x.2.2.1 x.2.2.2.1 x.2.2.2.2.1 x.2.2.2.2.2.1 x.2.2.2.2.2.2.1 x.2.2.2.2.2.2.2.1 x.2.2.2.2.2.2.2.2.1 x.2.2.2.2.2.2.2.2.2.1 x.2.2.2.2.2.2.2.2.2.2.1 x.2.2.2.2.2.2.2.2.2.2.2.1⟩
theorem ideal_turn_sum_ok : OkC Tryz.prog tab ideal_turn_sum_ct := fn_ok (W := ⟨Tryz.prog, tab, tyOf, [row_Plus_ct, ideal_turn_fits_ct], addO, dpO, false⟩) ⟨tabOk, ⟨row_Plus_ok, ideal_turn_fits_ok, trivial⟩, addOk⟩ (by kernel_rfl) 38 Tryz.f187 (.sq (.n) (.sq (.n) (.sq (.rg [1000000]) (.n)))) Tryz.func187 Tryz.call187 rfl (by kernel_rfl) (by kernel_rfl) (by kernel_rfl) fun n x => by kernel_rfl

/-!   bursary ideal.turn .add 1 -/
def ideal_turn_add_1 (n : Nat) (p0 : Int) (q1_0 : List Bounds) (q1_1 : Int) (q1_2 : Int) (q1_3 : Int) (q1_4 : Int) (q1_5 : Int) (q1_6 : Int) (q1_7 : ByteArray) (q1_8 : Int) (q2 : List Row) : Option (Answer × (List Bounds) × Int × Int × Int × Int × Int × Int × ByteArray × Int × (List Row)) :=
  (ideal_turn_sum n p0 q1_6 q1_0 q1_1 q1_2 q1_3 q1_4 q1_5 q1_6 q1_7 q1_8 q2).bind fun y1 =>
  cond (!y1.2.1)
    (some ((Answer.mk 152 ([] : List Row) 0), y1.2.2.1, y1.2.2.2.1, y1.2.2.2.2.1, y1.2.2.2.2.2.1, y1.2.2.2.2.2.2.1, y1.2.2.2.2.2.2.2.1, y1.2.2.2.2.2.2.2.2.1, y1.2.2.2.2.2.2.2.2.2.1, y1.2.2.2.2.2.2.2.2.2.2.1, y1.2.2.2.2.2.2.2.2.2.2.2))
    ((idx y1.2.2.2.2.2.2.2.2.2.2.2 p0).bind fun x2 =>
    (idx y1.2.2.2.2.2.2.2.2.2.2.2 p0).bind fun x3 =>
    (put y1.2.2.2.2.2.2.2.2.2.2.2 p0 (Row.mk x3.key y1.1 x3.note)).bind fun l4 =>
    some ((Answer.mk 0 ([] : List Row) 0), y1.2.2.1, y1.2.2.2.1, y1.2.2.2.2.1, y1.2.2.2.2.2.1, y1.2.2.2.2.2.2.1, y1.2.2.2.2.2.2.2.1, y1.2.2.2.2.2.2.2.2.1, y1.2.2.2.2.2.2.2.2.2.1, y1.2.2.2.2.2.2.2.2.2.2.1, l4))
@[reducible] def ideal_turn_add_1_ct : Ct tab := ⟨186, [.one (.d (.int .i64)), .one (.box 0 0)], [.box [.box 1 0], .box [.d (.sl (.st 0)), .own 2, .d (.int .i64), .d (.int .i64), .d (.int .u16), .d (.int .i64), .d (.int .u16), .d (.int .i64), .d .str, .d (.int .i64)], .row 102 (.st 6)], [.st 8], [(some 0, .box [.box 1 0]), (some 1, .box [.d (.sl (.st 0)), .own 2, .d (.int .i64), .d (.int .i64), .d (.int .u16), .d (.int .i64), .d (.int .u16), .d (.int .i64), .d .str, .d (.int .i64)]), (none, .row 102 (.st 6))], (Answer × (List Bounds) × Int × Int × Int × Int × Int × Int × ByteArray × Int × (List Row)), fun y => (y.1, y.2.1, y.2.2.1, y.2.2.2.1, y.2.2.2.2.1, y.2.2.2.2.2.1, y.2.2.2.2.2.2.1, y.2.2.2.2.2.2.2.1, y.2.2.2.2.2.2.2.2.1, y.2.2.2.2.2.2.2.2.2.1, y.2.2.2.2.2.2.2.2.2.2, ()), fun y => (y.1, y.2.1, y.2.2.1, y.2.2.2.1, y.2.2.2.2.1, y.2.2.2.2.2.1, y.2.2.2.2.2.2.1, y.2.2.2.2.2.2.2.1, y.2.2.2.2.2.2.2.2.1, y.2.2.2.2.2.2.2.2.2.1, y.2.2.2.2.2.2.2.2.2.2.1), fun _ => rfl, fun n x => ideal_turn_add_1 n x.1 x.2.1 x.2.2.1 x.2.2.2.1 x.2.2.2.2.1 x.2.2.2.2.2.1 x.2.2.2.2.2.2.1 x.2.2.2.2.2.2.2.1 x.2.2.2.2.2.2.2.2.1 x.2.2.2.2.2.2.2.2.2.1 x.2.2.2.2.2.2.2.2.2.2.1⟩
theorem ideal_turn_add_1_ok : OkC Tryz.prog tab ideal_turn_add_1_ct := fn_ok (W := ⟨Tryz.prog, tab, tyOf, [ideal_turn_sum_ct], addO, dpO, false⟩) ⟨tabOk, ⟨ideal_turn_sum_ok, trivial⟩, addOk⟩ (by kernel_rfl) 29 Tryz.f186 (.n) Tryz.func186 Tryz.call186 rfl (by kernel_rfl) (by kernel_rfl) (by kernel_rfl) fun n x => by kernel_rfl

/-!   bursary ideal.turn .found -/
def ideal_turn_found_f186 (n : Nat) (p1 : Key) (q0_0 : List Bounds) (q0_1 : Int) (q0_2 : Int) (q0_3 : Int) (q0_4 : Int) (q0_5 : Int) (q0_6 : Int) (q0_7 : ByteArray) (q0_8 : Int) (q1 : List Row) : Option (Answer × (List Bounds) × Int × Int × Int × Int × Int × Int × ByteArray × Int × (List Row)) :=
  (row_Find n q1 p1).bind fun y1 =>
  cond (!y1.2)
    (some ((Answer.mk 4 ([] : List Row) 0), q0_0, q0_1, q0_2, q0_3, q0_4, q0_5, q0_6, q0_7, q0_8, q1))
    ((ideal_turn_add_1 n y1.1 q0_0 q0_1 q0_2 q0_3 q0_4 q0_5 q0_6 q0_7 q0_8 q1).bind fun y2 =>
    some (y2.1, y2.2.1, y2.2.2.1, y2.2.2.2.1, y2.2.2.2.2.1, y2.2.2.2.2.2.1, y2.2.2.2.2.2.2.1, y2.2.2.2.2.2.2.2.1, y2.2.2.2.2.2.2.2.2.1, y2.2.2.2.2.2.2.2.2.2.1, y2.2.2.2.2.2.2.2.2.2.2))
@[reducible] def ideal_turn_found_f186_ct : Ct tab := ⟨176, [.one (.box 0 0), .st 2, .one (.fn 186 [.bx 2])], [.box [.d (.sl (.st 0)), .own 1, .d (.int .i64), .d (.int .i64), .d (.int .u16), .d (.int .i64), .d (.int .u16), .d (.int .i64), .d .str, .d (.int .i64)], .row 102 (.st 6), .box [.box 0 0]], [.st 8], [(some 0, .box [.d (.sl (.st 0)), .own 2, .d (.int .i64), .d (.int .i64), .d (.int .u16), .d (.int .i64), .d (.int .u16), .d (.int .i64), .d .str, .d (.int .i64)]), (some 2, .box [.box 0 0]), (none, .row 102 (.st 6))], (Answer × (List Bounds) × Int × Int × Int × Int × Int × Int × ByteArray × Int × (List Row)), fun y => (y.1, y.2.1, y.2.2.1, y.2.2.2.1, y.2.2.2.2.1, y.2.2.2.2.2.1, y.2.2.2.2.2.2.1, y.2.2.2.2.2.2.2.1, y.2.2.2.2.2.2.2.2.1, y.2.2.2.2.2.2.2.2.2.1, y.2.2.2.2.2.2.2.2.2.2, ()), fun y => (y.1, y.2.1, y.2.2.1, y.2.2.2.1, y.2.2.2.2.1, y.2.2.2.2.2.1, y.2.2.2.2.2.2.1, y.2.2.2.2.2.2.2.1, y.2.2.2.2.2.2.2.2.1, y.2.2.2.2.2.2.2.2.2.1, y.2.2.2.2.2.2.2.2.2.2.1), fun _ => rfl, fun n x => ideal_turn_found_f186 n x.1 x.2.1 x.2.2.1 x.2.2.2.1 x.2.2.2.2.1 x.2.2.2.2.2.1 x.2.2.2.2.2.2.1 x.2.2.2.2.2.2.2.1 x.2.2.2.2.2.2.2.2.1 x.2.2.2.2.2.2.2.2.2.1 x.2.2.2.2.2.2.2.2.2.2.1⟩
theorem ideal_turn_found_f186_ok : OkC Tryz.prog tab ideal_turn_found_f186_ct := fn_ok (W := ⟨Tryz.prog, tab, tyOf, [row_Find_ct, ideal_turn_add_1_ct], addO, dpO, false⟩) ⟨tabOk, ⟨row_Find_ok, ideal_turn_add_1_ok, trivial⟩, addOk⟩ (by kernel_rfl) 24 Tryz.f176 (.n) Tryz.func176 Tryz.call176 rfl (by kernel_rfl) (by kernel_rfl) (by kernel_rfl) fun n x => by kernel_rfl

/-!   bursary ideal.turn .add -/
def ideal_turn_add (n : Nat) (q0_0 : List Bounds) (q0_1 : Int) (q0_2 : Int) (q0_3 : Int) (q0_4 : Int) (q0_5 : Int) (q0_6 : Int) (q0_7 : ByteArray) (q0_8 : Int) (q1 : List Row) : Option (Answer × (List Bounds) × Int × Int × Int × Int × Int × Int × ByteArray × Int × (List Row)) :=
  (ideal_turn_found_f186 n (Key.mk q0_2 q0_3) q0_0 q0_1 q0_2 q0_3 q0_4 q0_5 q0_6 q0_7 q0_8 q1).bind fun y1 =>
  some (y1.1, y1.2.1, y1.2.2.1, y1.2.2.2.1, y1.2.2.2.2.1, y1.2.2.2.2.2.1, y1.2.2.2.2.2.2.1, y1.2.2.2.2.2.2.2.1, y1.2.2.2.2.2.2.2.2.1, y1.2.2.2.2.2.2.2.2.2.1, y1.2.2.2.2.2.2.2.2.2.2)
@[reducible] def ideal_turn_add_ct : Ct tab := ⟨172, [.one (.box 0 0)], [.box [.d (.sl (.st 0)), .own 1, .d (.int .i64), .d (.int .i64), .d (.int .u16), .d (.int .i64), .d (.int .u16), .d (.int .i64), .d .str, .d (.int .i64)], .row 102 (.st 6)], [.st 8], [(some 0, .box [.d (.sl (.st 0)), .own 1, .d (.int .i64), .d (.int .i64), .d (.int .u16), .d (.int .i64), .d (.int .u16), .d (.int .i64), .d .str, .d (.int .i64)]), (none, .row 102 (.st 6))], (Answer × (List Bounds) × Int × Int × Int × Int × Int × Int × ByteArray × Int × (List Row)), fun y => (y.1, y.2.1, y.2.2.1, y.2.2.2.1, y.2.2.2.2.1, y.2.2.2.2.2.1, y.2.2.2.2.2.2.1, y.2.2.2.2.2.2.2.1, y.2.2.2.2.2.2.2.2.1, y.2.2.2.2.2.2.2.2.2.1, y.2.2.2.2.2.2.2.2.2.2, ()), fun y => (y.1, y.2.1, y.2.2.1, y.2.2.2.1, y.2.2.2.2.1, y.2.2.2.2.2.1, y.2.2.2.2.2.2.1, y.2.2.2.2.2.2.2.1, y.2.2.2.2.2.2.2.2.1, y.2.2.2.2.2.2.2.2.2.1, y.2.2.2.2.2.2.2.2.2.2.1), fun _ => rfl, fun n x => ideal_turn_add n x.1 x.2.1 x.2.2.1 x.2.2.2.1 x.2.2.2.2.1 x.2.2.2.2.2.1 x.2.2.2.2.2.2.1 x.2.2.2.2.2.2.2.1 x.2.2.2.2.2.2.2.2.1 x.2.2.2.2.2.2.2.2.2.1⟩
theorem ideal_turn_add_ok : OkC Tryz.prog tab ideal_turn_add_ct := fn_ok (W := ⟨Tryz.prog, tab, tyOf, [ideal_turn_found_f186_ct], addO, dpO, false⟩) ⟨tabOk, ⟨ideal_turn_found_f186_ok, trivial⟩, addOk⟩ (by kernel_rfl) 11 Tryz.f172 (.n) Tryz.func172 Tryz.call172 rfl (by kernel_rfl) (by kernel_rfl) (by kernel_rfl) fun n x => by kernel_rfl

/-!   bursary ideal.turn .move 1 1 -/
def ideal_turn_move_1_1 (n : Nat) (p0 : Int) (q1_0 : List Bounds) (q1_1 : Int) (q1_2 : Int) (q1_3 : Int) (q1_4 : Int) (q1_5 : Int) (q1_6 : Int) (q1_7 : ByteArray) (q1_8 : Int) (q2 : List Row) (q3 : Int) : Option (Answer × (List Bounds) × Int × Int × Int × Int × Int × Int × ByteArray × Int × Int × (List Row)) :=
  (ideal_turn_sum n q3 (IntKind.wrap .i64 (0 - q1_6)) q1_0 q1_1 q1_2 q1_3 q1_4 q1_5 q1_6 q1_7 q1_8 q2).bind fun y1 =>
  (ideal_turn_sum n p0 y1.2.2.2.2.2.2.2.2.1 y1.2.2.1 y1.2.2.2.1 y1.2.2.2.2.1 y1.2.2.2.2.2.1 y1.2.2.2.2.2.2.1 y1.2.2.2.2.2.2.2.1 y1.2.2.2.2.2.2.2.2.1 y1.2.2.2.2.2.2.2.2.2.1 y1.2.2.2.2.2.2.2.2.2.2.1 y1.2.2.2.2.2.2.2.2.2.2.2).bind fun y2 =>
  jn (fun (b3 : Bool) =>
      cond b3
        (some ((Answer.mk 152 ([] : List Row) 0), y2.2.2.1, y2.2.2.2.1, y2.2.2.2.2.1, y2.2.2.2.2.2.1, y2.2.2.2.2.2.2.1, y2.2.2.2.2.2.2.2.1, y2.2.2.2.2.2.2.2.2.1, y2.2.2.2.2.2.2.2.2.2.1, y2.2.2.2.2.2.2.2.2.2.2.1, q3, y2.2.2.2.2.2.2.2.2.2.2.2))
        ((idx y2.2.2.2.2.2.2.2.2.2.2.2 q3).bind fun x5 =>
        (idx y2.2.2.2.2.2.2.2.2.2.2.2 q3).bind fun x6 =>
        (put y2.2.2.2.2.2.2.2.2.2.2.2 q3 (Row.mk x6.key y1.1 x6.note)).bind fun l7 =>
        (idx l7 p0).bind fun x8 =>
        (idx l7 p0).bind fun x9 =>
        (put l7 p0 (Row.mk x9.key y2.1 x9.note)).bind fun l10 =>
        some ((Answer.mk 0 ([] : List Row) 0), y2.2.2.1, y2.2.2.2.1, y2.2.2.2.2.1, y2.2.2.2.2.2.1, y2.2.2.2.2.2.2.1, y2.2.2.2.2.2.2.2.1, y2.2.2.2.2.2.2.2.2.1, y2.2.2.2.2.2.2.2.2.2.1, y2.2.2.2.2.2.2.2.2.2.2.1, q3, l10))) fun k4 =>
  cond (!y1.2.1)
    (k4 true)
    (k4 (!y2.2.1))
@[reducible] def ideal_turn_move_1_1_ct : Ct tab := ⟨189, [.one (.d (.int .i64)), .one (.box 0 0), .one (.box 3 0)], [.box [.box 1 0], .box [.d (.sl (.st 0)), .own 2, .d (.int .i64), .d (.int .i64), .d (.int .u16), .d (.int .i64), .d (.int .u16), .d (.int .i64), .d .str, .d (.int .i64)], .row 102 (.st 6), .box [.d (.int .i64)]], [.st 8], [(some 0, .box [.box 1 0]), (some 1, .box [.d (.sl (.st 0)), .own 3, .d (.int .i64), .d (.int .i64), .d (.int .u16), .d (.int .i64), .d (.int .u16), .d (.int .i64), .d .str, .d (.int .i64)]), (some 3, .box [.d (.int .i64)]), (none, .row 102 (.st 6))], (Answer × (List Bounds) × Int × Int × Int × Int × Int × Int × ByteArray × Int × Int × (List Row)), fun y => (y.1, y.2.1, y.2.2.1, y.2.2.2.1, y.2.2.2.2.1, y.2.2.2.2.2.1, y.2.2.2.2.2.2.1, y.2.2.2.2.2.2.2.1, y.2.2.2.2.2.2.2.2.1, y.2.2.2.2.2.2.2.2.2.1, y.2.2.2.2.2.2.2.2.2.2.1, y.2.2.2.2.2.2.2.2.2.2.2, ()), fun y => (y.1, y.2.1, y.2.2.1, y.2.2.2.1, y.2.2.2.2.1, y.2.2.2.2.2.1, y.2.2.2.2.2.2.1, y.2.2.2.2.2.2.2.1, y.2.2.2.2.2.2.2.2.1, y.2.2.2.2.2.2.2.2.2.1, y.2.2.2.2.2.2.2.2.2.2.1, y.2.2.2.2.2.2.2.2.2.2.2.1), fun _ => rfl, fun n x => ideal_turn_move_1_1 n x.1 x.2.1 x.2.2.1 x.2.2.2.1 x.2.2.2.2.1 x.2.2.2.2.2.1 x.2.2.2.2.2.2.1 x.2.2.2.2.2.2.2.1 x.2.2.2.2.2.2.2.2.1 x.2.2.2.2.2.2.2.2.2.1 x.2.2.2.2.2.2.2.2.2.2.1 x.2.2.2.2.2.2.2.2.2.2.2.1⟩
theorem ideal_turn_move_1_1_ok : OkC Tryz.prog tab ideal_turn_move_1_1_ct := fn_ok (W := ⟨Tryz.prog, tab, tyOf, [ideal_turn_sum_ct], addO, dpO, false⟩) ⟨tabOk, ⟨ideal_turn_sum_ok, trivial⟩, addOk⟩ (by kernel_rfl) 56 Tryz.f189 (.n) Tryz.func189 Tryz.call189 rfl (by kernel_rfl) (by kernel_rfl) (by kernel_rfl) fun n x => by kernel_rfl

/-!   bursary ideal.turn .found -/
def ideal_turn_found_f189 (n : Nat) (p1 : Key) (q0_0 : List Bounds) (q0_1 : Int) (q0_2 : Int) (q0_3 : Int) (q0_4 : Int) (q0_5 : Int) (q0_6 : Int) (q0_7 : ByteArray) (q0_8 : Int) (q1 : List Row) (q3 : Int) : Option (Answer × (List Bounds) × Int × Int × Int × Int × Int × Int × ByteArray × Int × Int × (List Row)) :=
  (row_Find n q1 p1).bind fun y1 =>
  cond (!y1.2)
    (some ((Answer.mk 4 ([] : List Row) 0), q0_0, q0_1, q0_2, q0_3, q0_4, q0_5, q0_6, q0_7, q0_8, q3, q1))
    ((ideal_turn_move_1_1 n y1.1 q0_0 q0_1 q0_2 q0_3 q0_4 q0_5 q0_6 q0_7 q0_8 q1 q3).bind fun y2 =>
    some (y2.1, y2.2.1, y2.2.2.1, y2.2.2.2.1, y2.2.2.2.2.1, y2.2.2.2.2.2.1, y2.2.2.2.2.2.2.1, y2.2.2.2.2.2.2.2.1, y2.2.2.2.2.2.2.2.2.1, y2.2.2.2.2.2.2.2.2.2.1, y2.2.2.2.2.2.2.2.2.2.2.1, y2.2.2.2.2.2.2.2.2.2.2.2))
@[reducible] def ideal_turn_found_f189_ct : Ct tab := ⟨176, [.one (.box 0 0), .st 2, .one (.fn 189 [.bx 2, .bx 3])], [.box [.d (.sl (.st 0)), .own 1, .d (.int .i64), .d (.int .i64), .d (.int .u16), .d (.int .i64), .d (.int .u16), .d (.int .i64), .d .str, .d (.int .i64)], .row 102 (.st 6), .box [.box 0 0], .box [.d (.int .i64)]], [.st 8], [(some 0, .box [.d (.sl (.st 0)), .own 3, .d (.int .i64), .d (.int .i64), .d (.int .u16), .d (.int .i64), .d (.int .u16), .d (.int .i64), .d .str, .d (.int .i64)]), (some 2, .box [.box 0 0]), (some 3, .box [.d (.int .i64)]), (none, .row 102 (.st 6))], (Answer × (List Bounds) × Int × Int × Int × Int × Int × Int × ByteArray × Int × Int × (List Row)), fun y => (y.1, y.2.1, y.2.2.1, y.2.2.2.1, y.2.2.2.2.1, y.2.2.2.2.2.1, y.2.2.2.2.2.2.1, y.2.2.2.2.2.2.2.1, y.2.2.2.2.2.2.2.2.1, y.2.2.2.2.2.2.2.2.2.1, y.2.2.2.2.2.2.2.2.2.2.1, y.2.2.2.2.2.2.2.2.2.2.2, ()), fun y => (y.1, y.2.1, y.2.2.1, y.2.2.2.1, y.2.2.2.2.1, y.2.2.2.2.2.1, y.2.2.2.2.2.2.1, y.2.2.2.2.2.2.2.1, y.2.2.2.2.2.2.2.2.1, y.2.2.2.2.2.2.2.2.2.1, y.2.2.2.2.2.2.2.2.2.2.1, y.2.2.2.2.2.2.2.2.2.2.2.1), fun _ => rfl, fun n x => ideal_turn_found_f189 n x.1 x.2.1 x.2.2.1 x.2.2.2.1 x.2.2.2.2.1 x.2.2.2.2.2.1 x.2.2.2.2.2.2.1 x.2.2.2.2.2.2.2.1 x.2.2.2.2.2.2.2.2.1 x.2.2.2.2.2.2.2.2.2.1 x.2.2.2.2.2.2.2.2.2.2.1 x.2.2.2.2.2.2.2.2.2.2.2.1⟩
theorem ideal_turn_found_f189_ok : OkC Tryz.prog tab ideal_turn_found_f189_ct := fn_ok (W := ⟨Tryz.prog, tab, tyOf, [row_Find_ct, ideal_turn_move_1_1_ct], addO, dpO, false⟩) ⟨tabOk, ⟨row_Find_ok, ideal_turn_move_1_1_ok, trivial⟩, addOk⟩ (by kernel_rfl) 24 Tryz.f176 (.n) Tryz.func176 Tryz.call176 rfl (by kernel_rfl) (by kernel_rfl) (by kernel_rfl) fun n x => by kernel_rfl

/-!   bursary ideal.turn .move 1 -/
def ideal_turn_move_1 (n : Nat) (p0 : Int) (q1_0 : List Bounds) (q1_1 : Int) (q1_2 : Int) (q1_3 : Int) (q1_4 : Int) (q1_5 : Int) (q1_6 : Int) (q1_7 : ByteArray) (q1_8 : Int) (q2 : List Row) : Option (Answer × (List Bounds) × Int × Int × Int × Int × Int × Int × ByteArray × Int × (List Row)) :=
  (ideal_turn_found_f189 n (Key.mk q1_4 q1_5) q1_0 q1_1 q1_2 q1_3 q1_4 q1_5 q1_6 q1_7 q1_8 q2 p0).bind fun y1 =>
  some (y1.1, y1.2.1, y1.2.2.1, y1.2.2.2.1, y1.2.2.2.2.1, y1.2.2.2.2.2.1, y1.2.2.2.2.2.2.1, y1.2.2.2.2.2.2.2.1, y1.2.2.2.2.2.2.2.2.1, y1.2.2.2.2.2.2.2.2.2.1, y1.2.2.2.2.2.2.2.2.2.2.2)
@[reducible] def ideal_turn_move_1_ct : Ct tab := ⟨188, [.one (.d (.int .i64)), .one (.box 0 0)], [.box [.box 1 0], .box [.d (.sl (.st 0)), .own 2, .d (.int .i64), .d (.int .i64), .d (.int .u16), .d (.int .i64), .d (.int .u16), .d (.int .i64), .d .str, .d (.int .i64)], .row 102 (.st 6)], [.st 8], [(some 0, .box [.box 1 0]), (some 1, .box [.d (.sl (.st 0)), .own 2, .d (.int .i64), .d (.int .i64), .d (.int .u16), .d (.int .i64), .d (.int .u16), .d (.int .i64), .d .str, .d (.int .i64)]), (none, .row 102 (.st 6))], (Answer × (List Bounds) × Int × Int × Int × Int × Int × Int × ByteArray × Int × (List Row)), fun y => (y.1, y.2.1, y.2.2.1, y.2.2.2.1, y.2.2.2.2.1, y.2.2.2.2.2.1, y.2.2.2.2.2.2.1, y.2.2.2.2.2.2.2.1, y.2.2.2.2.2.2.2.2.1, y.2.2.2.2.2.2.2.2.2.1, y.2.2.2.2.2.2.2.2.2.2, ()), fun y => (y.1, y.2.1, y.2.2.1, y.2.2.2.1, y.2.2.2.2.1, y.2.2.2.2.2.1, y.2.2.2.2.2.2.1, y.2.2.2.2.2.2.2.1, y.2.2.2.2.2.2.2.2.1, y.2.2.2.2.2.2.2.2.2.1, y.2.2.2.2.2.2.2.2.2.2.1), fun _ => rfl, fun n x => ideal_turn_move_1 n x.1 x.2.1 x.2.2.1 x.2.2.2.1 x.2.2.2.2.1 x.2.2.2.2.2.1 x.2.2.2.2.2.2.1 x.2.2.2.2.2.2.2.1 x.2.2.2.2.2.2.2.2.1 x.2.2.2.2.2.2.2.2.2.1 x.2.2.2.2.2.2.2.2.2.2.1⟩
theorem ideal_turn_move_1_ok : OkC Tryz.prog tab ideal_turn_move_1_ct := fn_ok (W := ⟨Tryz.prog, tab, tyOf, [ideal_turn_found_f189_ct], addO, dpO, false⟩) ⟨tabOk, ⟨ideal_turn_found_f189_ok, trivial⟩, addOk⟩ (by kernel_rfl) 12 Tryz.f188 (.n) Tryz.func188 Tryz.call188 rfl (by kernel_rfl) (by kernel_rfl) (by kernel_rfl) fun n x => by kernel_rfl

/-!   bursary ideal.turn .found -/
def ideal_turn_found_f188 (n : Nat) (p1 : Key) (q0_0 : List Bounds) (q0_1 : Int) (q0_2 : Int) (q0_3 : Int) (q0_4 : Int) (q0_5 : Int) (q0_6 : Int) (q0_7 : ByteArray) (q0_8 : Int) (q1 : List Row) : Option (Answer × (List Bounds) × Int × Int × Int × Int × Int × Int × ByteArray × Int × (List Row)) :=
  (row_Find n q1 p1).bind fun y1 =>
  cond (!y1.2)
    (some ((Answer.mk 4 ([] : List Row) 0), q0_0, q0_1, q0_2, q0_3, q0_4, q0_5, q0_6, q0_7, q0_8, q1))
    ((ideal_turn_move_1 n y1.1 q0_0 q0_1 q0_2 q0_3 q0_4 q0_5 q0_6 q0_7 q0_8 q1).bind fun y2 =>
    some (y2.1, y2.2.1, y2.2.2.1, y2.2.2.2.1, y2.2.2.2.2.1, y2.2.2.2.2.2.1, y2.2.2.2.2.2.2.1, y2.2.2.2.2.2.2.2.1, y2.2.2.2.2.2.2.2.2.1, y2.2.2.2.2.2.2.2.2.2.1, y2.2.2.2.2.2.2.2.2.2.2))
@[reducible] def ideal_turn_found_f188_ct : Ct tab := ⟨176, [.one (.box 0 0), .st 2, .one (.fn 188 [.bx 2])], [.box [.d (.sl (.st 0)), .own 1, .d (.int .i64), .d (.int .i64), .d (.int .u16), .d (.int .i64), .d (.int .u16), .d (.int .i64), .d .str, .d (.int .i64)], .row 102 (.st 6), .box [.box 0 0]], [.st 8], [(some 0, .box [.d (.sl (.st 0)), .own 2, .d (.int .i64), .d (.int .i64), .d (.int .u16), .d (.int .i64), .d (.int .u16), .d (.int .i64), .d .str, .d (.int .i64)]), (some 2, .box [.box 0 0]), (none, .row 102 (.st 6))], (Answer × (List Bounds) × Int × Int × Int × Int × Int × Int × ByteArray × Int × (List Row)), fun y => (y.1, y.2.1, y.2.2.1, y.2.2.2.1, y.2.2.2.2.1, y.2.2.2.2.2.1, y.2.2.2.2.2.2.1, y.2.2.2.2.2.2.2.1, y.2.2.2.2.2.2.2.2.1, y.2.2.2.2.2.2.2.2.2.1, y.2.2.2.2.2.2.2.2.2.2, ()), fun y => (y.1, y.2.1, y.2.2.1, y.2.2.2.1, y.2.2.2.2.1, y.2.2.2.2.2.1, y.2.2.2.2.2.2.1, y.2.2.2.2.2.2.2.1, y.2.2.2.2.2.2.2.2.1, y.2.2.2.2.2.2.2.2.2.1, y.2.2.2.2.2.2.2.2.2.2.1), fun _ => rfl, fun n x => ideal_turn_found_f188 n x.1 x.2.1 x.2.2.1 x.2.2.2.1 x.2.2.2.2.1 x.2.2.2.2.2.1 x.2.2.2.2.2.2.1 x.2.2.2.2.2.2.2.1 x.2.2.2.2.2.2.2.2.1 x.2.2.2.2.2.2.2.2.2.1 x.2.2.2.2.2.2.2.2.2.2.1⟩
theorem ideal_turn_found_f188_ok : OkC Tryz.prog tab ideal_turn_found_f188_ct := fn_ok (W := ⟨Tryz.prog, tab, tyOf, [row_Find_ct, ideal_turn_move_1_ct], addO, dpO, false⟩) ⟨tabOk, ⟨row_Find_ok, ideal_turn_move_1_ok, trivial⟩, addOk⟩ (by kernel_rfl) 24 Tryz.f176 (.n) Tryz.func176 Tryz.call176 rfl (by kernel_rfl) (by kernel_rfl) (by kernel_rfl) fun n x => by kernel_rfl

/-!   bursary ideal.turn .move -/
def ideal_turn_move (n : Nat) (q0_0 : List Bounds) (q0_1 : Int) (q0_2 : Int) (q0_3 : Int) (q0_4 : Int) (q0_5 : Int) (q0_6 : Int) (q0_7 : ByteArray) (q0_8 : Int) (q1 : List Row) : Option (Answer × (List Bounds) × Int × Int × Int × Int × Int × Int × ByteArray × Int × (List Row)) :=
  (ideal_turn_found_f188 n (Key.mk q0_2 q0_3) q0_0 q0_1 q0_2 q0_3 q0_4 q0_5 q0_6 q0_7 q0_8 q1).bind fun y1 =>
  some (y1.1, y1.2.1, y1.2.2.1, y1.2.2.2.1, y1.2.2.2.2.1, y1.2.2.2.2.2.1, y1.2.2.2.2.2.2.1, y1.2.2.2.2.2.2.2.1, y1.2.2.2.2.2.2.2.2.1, y1.2.2.2.2.2.2.2.2.2.1, y1.2.2.2.2.2.2.2.2.2.2)
@[reducible] def ideal_turn_move_ct : Ct tab := ⟨173, [.one (.box 0 0)], [.box [.d (.sl (.st 0)), .own 1, .d (.int .i64), .d (.int .i64), .d (.int .u16), .d (.int .i64), .d (.int .u16), .d (.int .i64), .d .str, .d (.int .i64)], .row 102 (.st 6)], [.st 8], [(some 0, .box [.d (.sl (.st 0)), .own 1, .d (.int .i64), .d (.int .i64), .d (.int .u16), .d (.int .i64), .d (.int .u16), .d (.int .i64), .d .str, .d (.int .i64)]), (none, .row 102 (.st 6))], (Answer × (List Bounds) × Int × Int × Int × Int × Int × Int × ByteArray × Int × (List Row)), fun y => (y.1, y.2.1, y.2.2.1, y.2.2.2.1, y.2.2.2.2.1, y.2.2.2.2.2.1, y.2.2.2.2.2.2.1, y.2.2.2.2.2.2.2.1, y.2.2.2.2.2.2.2.2.1, y.2.2.2.2.2.2.2.2.2.1, y.2.2.2.2.2.2.2.2.2.2, ()), fun y => (y.1, y.2.1, y.2.2.1, y.2.2.2.1, y.2.2.2.2.1, y.2.2.2.2.2.1, y.2.2.2.2.2.2.1, y.2.2.2.2.2.2.2.1, y.2.2.2.2.2.2.2.2.1, y.2.2.2.2.2.2.2.2.2.1, y.2.2.2.2.2.2.2.2.2.2.1), fun _ => rfl, fun n x => ideal_turn_move n x.1 x.2.1 x.2.2.1 x.2.2.2.1 x.2.2.2.2.1 x.2.2.2.2.2.1 x.2.2.2.2.2.2.1 x.2.2.2.2.2.2.2.1 x.2.2.2.2.2.2.2.2.1 x.2.2.2.2.2.2.2.2.2.1⟩
theorem ideal_turn_move_ok : OkC Tryz.prog tab ideal_turn_move_ct := fn_ok (W := ⟨Tryz.prog, tab, tyOf, [ideal_turn_found_f188_ct], addO, dpO, false⟩) ⟨tabOk, ⟨ideal_turn_found_f188_ok, trivial⟩, addOk⟩ (by kernel_rfl) 11 Tryz.f173 (.n) Tryz.func173 Tryz.call173 rfl (by kernel_rfl) (by kernel_rfl) (by kernel_rfl) fun n x => by kernel_rfl

/-! bursary ideal.does -/
def ideal_does (n : Nat) (p0 : Schema) (p1 : List Row) (p2 : Request) : Option (Answer × (List Row)) :=
  (slices_Clone_Row n p1).bind fun y1 =>
  cond (decide (p2.kind = 1))
    ((ideal_turn_read n p0.tables p2.kind p2.key.table p2.key.id p2.to.table p2.to.id p2.val p2.note p2.n y1).bind fun y2 =>
    some (y2.1, y2.2.2.2.2.2.2.2.2.2.2))
    (cond (decide (p2.kind = 2))
      ((ideal_turn_scan n p0.tables p2.kind p2.key.table p2.key.id p2.to.table p2.to.id p2.val p2.note p2.n y1).bind fun y3 =>
      some (y3.1, y3.2.2.2.2.2.2.2.2.2.2))
      (cond (decide (p2.kind = 3))
        ((ideal_turn_insert n p0.tables p2.kind p2.key.table p2.key.id p2.to.table p2.to.id p2.val p2.note p2.n y1).bind fun y4 =>
        some (y4.1, y4.2.2.2.2.2.2.2.2.2.2))
        (cond (decide (p2.kind = 4))
          ((ideal_turn_remove n p0.tables p2.kind p2.key.table p2.key.id p2.to.table p2.to.id p2.val p2.note p2.n y1).bind fun y5 =>
          some (y5.1, y5.2.2.2.2.2.2.2.2.2.2))
          (cond (decide (p2.kind = 5))
            ((ideal_turn_note n p0.tables p2.kind p2.key.table p2.key.id p2.to.table p2.to.id p2.val p2.note p2.n y1).bind fun y6 =>
            some (y6.1, y6.2.2.2.2.2.2.2.2.2.2))
            (cond (decide (p2.kind = 6))
              ((ideal_turn_set n p0.tables p2.kind p2.key.table p2.key.id p2.to.table p2.to.id p2.val p2.note p2.n y1).bind fun y7 =>
              some (y7.1, y7.2.2.2.2.2.2.2.2.2.2))
              (cond (decide (p2.kind = 7))
                ((ideal_turn_add n p0.tables p2.kind p2.key.table p2.key.id p2.to.table p2.to.id p2.val p2.note p2.n y1).bind fun y8 =>
                some (y8.1, y8.2.2.2.2.2.2.2.2.2.2))
                (cond (decide (p2.kind = 8))
                  ((ideal_turn_move n p0.tables p2.kind p2.key.table p2.key.id p2.to.table p2.to.id p2.val p2.note p2.n y1).bind fun y9 =>
                  some (y9.1, y9.2.2.2.2.2.2.2.2.2.2))
                  (none))))))))
@[reducible] def ideal_does_ct : Ct tab := ⟨157, [.st 1, .one (.d (.sl (.st 6))), .st 7], [], [.one (.own 0), .st 8], [(none, .row 102 (.st 6))], (Answer × (List Row)), fun y => (y.1, y.2, ()), fun y => (y.1, y.2.1), fun _ => rfl, fun n x => ideal_does n x.1 x.2.1 x.2.2.1⟩
theorem ideal_does_ok : OkC Tryz.prog tab ideal_does_ct := fn_ok (W := ⟨Tryz.prog, tab, tyOf, [slices_Clone_Row_ct, ideal_turn_read_ct, ideal_turn_scan_ct, ideal_turn_insert_ct, ideal_turn_remove_ct, ideal_turn_note_ct, ideal_turn_set_ct, ideal_turn_add_ct, ideal_turn_move_ct], addO, dpO, false⟩) ⟨tabOk, ⟨slices_Clone_Row_ok, ideal_turn_read_ok, ideal_turn_scan_ok, ideal_turn_insert_ok, ideal_turn_remove_ok, ideal_turn_note_ok, ideal_turn_set_ok, ideal_turn_add_ok, ideal_turn_move_ok, trivial⟩, addOk⟩ (by kernel_rfl) 45 Tryz.f157 (.n) Tryz.func157 Tryz.call157 rfl (by kernel_rfl) (by kernel_rfl) (by kernel_rfl) fun n x => by kernel_rfl

/-! bursary ideal.Step -/
def ideal_Step (n : Nat) (p0 : Serial) (p1 : Request) : Option (Serial × Answer) :=
  (ideal_Check n p0).bind fun y1 =>
  cond (y1 != 0)
    (some (p0, (Answer.mk 251 ([] : List Row) 0)))
    (cond p0.over
      (some (p0, (Answer.mk 252 ([] : List Row) 0)))
      ((ideal_CheckRequest n p0.schema p1).bind fun y2 =>
      cond (y2 != 0)
        (some (p0, (Answer.mk 250 ([] : List Row) 0)))
        (cond (decide (p1.kind > 8))
          ((ideal_step n p0 p1).bind fun y3 =>
          some (y3.1, y3.2))
          ((ideal_does n p0.schema p0.rows p1).bind fun y4 =>
          some ((Serial.mk p0.schema y4.2 p0.begun p0.marks p0.over), y4.1)))))
@[reducible] def ideal_Step_ct : Ct tab := ⟨122, [.st 12, .st 7], [], [.st 12, .st 8], [], (Serial × Answer), fun y => (y.1, y.2, ()), fun y => (y.1, y.2.1), fun _ => rfl, fun n x => ideal_Step n x.1 x.2.1⟩
theorem ideal_Step_ok : OkC Tryz.prog tab ideal_Step_ct := fn_ok (W := ⟨Tryz.prog, tab, tyOf, [ideal_Check_ct, ideal_CheckRequest_ct, ideal_step_ct, ideal_does_ct], addO, dpO, false⟩) ⟨tabOk, ⟨ideal_Check_ok, ideal_CheckRequest_ok, ideal_step_ok, ideal_does_ok, trivial⟩, addOk⟩ (by kernel_rfl) 49 Tryz.f122 (.n) Tryz.func122 Tryz.call122 rfl (by kernel_rfl) (by kernel_rfl) (by kernel_rfl) fun n x => by kernel_rfl

/-! slices.Equal   bursary api.Row bursary api.Row  -/
def slices_Equal_Row_l1 (n : Nat) : Nat → (List Row) × (List Row) × Int × Int × Unit → Option Bool := loopF fun r1 ⟨v1, v2, v3, v4, _⟩ =>
    cond (decide (v4 < v3))
      ((idx v1 v4).bind fun x5 =>
      (idx v2 v4).bind fun x6 =>
      cond (!(Row.eqb x5 x6))
        (some false)
        (r1 (v1, v2, v3, (IntKind.wrap .i64 (v4 + 1)), ())))
      (some true)
def slices_Equal_Row (n : Nat) (p0 : List Row) (p1 : List Row) : Option Bool :=
  cond ((p0.length : Int) != (p1.length : Int))
    (some false)
    (slices_Equal_Row_l1 n n (p0, p1, (p0.length : Int), 0, ()))
@[reducible] def slices_Equal_Row_ct : Ct tab := ⟨83, [.one (.d (.sl (.st 6))), .one (.d (.sl (.st 6)))], [], [.one (.d .bool)], [], Bool, fun y => (y, ()), fun y => y.1, fun _ => rfl, fun n x => slices_Equal_Row n x.1 x.2.1⟩
theorem slices_Equal_Row_ok : OkC Tryz.prog tab slices_Equal_Row_ct := fn_ok (W := ⟨Tryz.prog, tab, tyOf, [], addO, dpO, false⟩) ⟨tabOk, trivial, addOk⟩ (by kernel_rfl) 26 Tryz.f83 (.sq (.n) (.sq (.n) (.sq (.sq (.n) (.bk none (.lp ⟨[(0, .one (.d (.sl (.st 6)))), (1, .one (.d (.sl (.st 6)))), (12, .one (.d (.int .i64))), (13, .one (.d (.int .i64)))], [], []⟩ (.n)))) (.n)))) Tryz.func83 Tryz.call83 rfl (by kernel_rfl) (by kernel_rfl) (by kernel_rfl) fun n x => by kernel_rfl

/-! bursary row.Same -/
def row_Same (n : Nat) (p0 : List Row) (p1 : List Row) : Option Bool :=
  (slices_Equal_Row n p0 p1).bind fun y1 =>
  some y1
@[reducible] def row_Same_ct : Ct tab := ⟨42, [.one (.d (.sl (.st 6))), .one (.d (.sl (.st 6)))], [], [.one (.d .bool)], [], Bool, fun y => (y, ()), fun y => y.1, fun _ => rfl, fun n x => row_Same n x.1 x.2.1⟩
theorem row_Same_ok : OkC Tryz.prog tab row_Same_ct := fn_ok (W := ⟨Tryz.prog, tab, tyOf, [slices_Equal_Row_ct], addO, dpO, false⟩) ⟨tabOk, ⟨slices_Equal_Row_ok, trivial⟩, addOk⟩ (by kernel_rfl) 8 Tryz.f42 (.n) Tryz.func42 Tryz.call42 rfl (by kernel_rfl) (by kernel_rfl) (by kernel_rfl) fun n x => by kernel_rfl

/-! bursary ideal.SameAnswer -/
def ideal_SameAnswer (n : Nat) (p0 : Answer) (p1 : Answer) : Option Bool :=
  jn (fun (b1 : Bool) =>
      jn (fun (b3 : Bool) =>
          some b3) fun k4 =>
      cond b1
        ((row_Same n p0.rows p1.rows).bind fun y5 =>
        k4 y5)
        (k4 false)) fun k2 =>
  cond (p0.err == p1.err)
    (k2 (p0.n == p1.n))
    (k2 false)
@[reducible] def ideal_SameAnswer_ct : Ct tab := ⟨123, [.st 8, .st 8], [], [.one (.d .bool)], [], Bool, fun y => (y, ()), fun y => y.1, fun _ => rfl, fun n x => ideal_SameAnswer n x.1 x.2.1⟩
theorem ideal_SameAnswer_ok : OkC Tryz.prog tab ideal_SameAnswer_ct := fn_ok (W := ⟨Tryz.prog, tab, tyOf, [row_Same_ct], addO, dpO, false⟩) ⟨tabOk, ⟨row_Same_ok, trivial⟩, addOk⟩ (by kernel_rfl) 24 Tryz.f123 (.n) Tryz.func123 Tryz.call123 rfl (by kernel_rfl) (by kernel_rfl) (by kernel_rfl) fun n x => by kernel_rfl

/-!   bursary judge.run .plays -/
def judge_run_plays_j1 (n : Nat) : Int × Bool × judge_run × Unit → Option (Nat × HL tabT [.int .i64, .bool, .st 13]) := fun ⟨v8, v9, v10, _⟩ =>
    some (0, (v8, v9, v10, ()))
def judge_run_plays (n : Nat) (p1 : History) (p2 : Int) (q0 : judge_run) : Option (Int × Bool × judge_run) :=
  (ideal_Begin n p1.schema q0.serial.rows).bind fun y1 =>
  (judge_of n p1 p2).bind fun y2 =>
  (judge_of_1_fyd0 n y2.1 y2.2 (fun y3 z4 =>
        jn (judge_run_plays_j1 n) fun j1 =>
        (judge_Passes n y3.2.1).bind fun y11 =>
        cond y11
          (j1 (z4.1, z4.2.1, z4.2.2.1, ()))
          ((ideal_Step n z4.2.2.1.serial y3.2.1.request).bind fun y12 =>
          (ideal_SameAnswer n y12.2 y3.2.1.answer).bind fun y13 =>
          cond (!y13)
            (some (1, (y3.1, false, z4.2.2.1, ())))
            (j1 (z4.1, z4.2.1, (judge_run.mk y12.1), ())))) 0 (0, false, (judge_run.mk y1.1), ())).bind fun y14 =>
  sel y14.2.1 [
    some (0, true, y14.2.2.2.2.1),
    some (y14.2.2.1, y14.2.2.2.1, y14.2.2.2.2.1),
    some (0, true, y14.2.2.2.2.1)]
@[reducible] def judge_run_plays_ct : Ct tab := ⟨82, [.one (.box 0 0), .st 10, .one (.d (.int .i64))], [.bst 13], [.one (.d (.int .i64)), .one (.d .bool)], [(some 0, .bst 13)], (Int × Bool × judge_run), fun y => (y.1, y.2.1, y.2.2, ()), fun y => (y.1, y.2.1, y.2.2.1), fun _ => rfl, fun n x => judge_run_plays n x.1 x.2.1 x.2.2.1⟩
theorem judge_run_plays_ok : OkC Tryz.prog tab judge_run_plays_ct := fn_ok (W := ⟨Tryz.prog, tab, tyOf, [ideal_Begin_ct, judge_of_ct, judge_Passes_ct, ideal_Step_ct, ideal_SameAnswer_ct, judge_of_1_fyd0_ct], addO, dpO, false⟩) ⟨tabOk, ⟨ideal_Begin_ok, judge_of_ok, judge_Passes_ok, ideal_Step_ok, ideal_SameAnswer_ok, judge_of_1_fyd0_ok, trivial⟩, addOk⟩ (by kernel_rfl) 53 Tryz.f82 (.sq (.n) (.sq (.n) (.sq (.sq (.n) (.bk none (.rf [(3, .one (.box 0 0)), (6, .one (.box 1 0)), (7, .one (.box 2 0))] [(0, .one (.box 3 0)), (28, .one (.fn 154 [.ro (.st 10), .ro (.int .i64)]))] [.box [.box 3 0], .box [.d (.int .i64)], .box [.d .bool], .bst 13] [] [(0, 3)] 28 (.fn 154 [.ro (.st 10), .ro (.int .i64)]) [.int .i64, .st 9] (.n) (.bk (some ⟨[(3, .one (.box 0 0)), (6, .one (.box 1 0)), (7, .one (.box 2 0))], [.box [.box 3 0], .box [.d (.int .i64)], .box [.d .bool], .bst 13], [(0, 0), (1, 1), (2, 2), (3, 3)]⟩) (.n))))) (.n)))) Tryz.func82 Tryz.call82 rfl (by kernel_rfl) (by kernel_rfl) (by kernel_rfl) fun n x => by kernel_rfl

/-! bursary judge.Replay -/
def judge_Replay_l1 (n : Nat) : Nat → (List Int) × Int × Int × History × judge_run × Unit → Option (Int × Int × (List Row)) := loopF fun r1 ⟨v3, v4, v5, v6, v7, _⟩ =>
    cond (decide (v5 < v4))
      ((idx v3 v5).bind fun x8 =>
      (judge_run_plays n v6 x8 v7).bind fun y9 =>
      cond (!y9.2.1)
        (some (y9.1, 371, ([] : List Row)))
        (r1 (v3, v4, (IntKind.wrap .i64 (v5 + 1)), v6, y9.2.2, ())))
      ((slices_Clone_Row n v7.serial.rows).bind fun y10 =>
      some (0, 0, y10))
def judge_Replay (n : Nat) (p0 : History) (p1 : List Int) : Option (Int × Int × (List Row)) :=
  (judge_Check n p0).bind fun y1 =>
  cond (y1 != 0)
    (some (0, y1, ([] : List Row)))
    ((slices_Clone_Row n p0.begun).bind fun y2 =>
    judge_Replay_l1 n n (p1, (p1.length : Int), 0, p0, (judge_run.mk (Serial.mk (Schema.mk ([] : List Bounds)) y2 ([] : List Row) ([] : List (List Row)) false)), ()))
@[reducible] def judge_Replay_ct : Ct tab := ⟨40, [.st 10, .one (.d (.sl (.int .i64)))], [], [.one (.own 0), .one (.d (.int .i64)), .one (.d (.int .i64))], [(none, .row 102 (.st 6))], (Int × Int × (List Row)), fun y => (y.1, y.2.1, y.2.2, ()), fun y => (y.1, y.2.1, y.2.2.1), fun _ => rfl, fun n x => judge_Replay n x.1 x.2.1⟩
theorem judge_Replay_ok : OkC Tryz.prog tab judge_Replay_ct := fn_ok (W := ⟨Tryz.prog, tab, tyOf, [judge_Check_ct, slices_Clone_Row_ct, judge_run_plays_ct], addO, dpO, false⟩) ⟨tabOk, ⟨judge_Check_ok, slices_Clone_Row_ok, judge_run_plays_ok, trivial⟩, addOk⟩ (by kernel_rfl) 47 Tryz.f40 (.sq (.n) (.sq (.n) (.sq (.n) (.sq (.sq (.n) (.bk none (.lp ⟨[(2, .one (.box 0 0)), (8, .one (.box 1 0)), (24, .one (.d (.sl (.int .i64)))), (25, .one (.d (.int .i64))), (26, .one (.d (.int .i64)))], [.bst 10, .bst 13], []⟩ (.n)))) (.n))))) Tryz.func40 Tryz.call40 rfl (by kernel_rfl) (by kernel_rfl) (by kernel_rfl) fun n x => by kernel_rfl

/-! bursary judge.Judge -/
def judge_Judge (n : Nat) (p0 : History) (p1 : List Row) : Option (Int × Int) :=
  (judge_order n p0).bind fun y1 =>
  (judge_Replay n p0 y1).bind fun y2 =>
  cond (y2.2.1 != 0)
    (some (y2.1, y2.2.1))
    ((row_Same n y2.2.2 p1).bind fun y3 =>
    cond (!y3)
      (some ((p0.entries.length : Int), 372))
      (some (0, 0)))
@[reducible] def judge_Judge_ct : Ct tab := ⟨21, [.st 10, .one (.d (.sl (.st 6)))], [], [.one (.d (.int .i64)), .one (.d (.int .i64))], [], (Int × Int), fun y => (y.1, y.2, ()), fun y => (y.1, y.2.1), fun _ => rfl, fun n x => judge_Judge n x.1 x.2.1⟩
theorem judge_Judge_ok : OkC Tryz.prog tab judge_Judge_ct := fn_ok (W := ⟨Tryz.prog, tab, tyOf, [judge_order_ct, judge_Replay_ct, row_Same_ct], addO, dpO, false⟩) ⟨tabOk, ⟨judge_order_ok, judge_Replay_ok, row_Same_ok, trivial⟩, addOk⟩ (by kernel_rfl) 30 Tryz.f21 (.n) Tryz.func21 Tryz.call21 rfl (by kernel_rfl) (by kernel_rfl) (by kernel_rfl) fun n x => by kernel_rfl

/-! bursary bursarylaw27.wakes -/
def law27_wakes (n : Nat) : Option Bool :=
  (law27_one n 4).bind fun y1 =>
  (law27_one n 9).bind fun y2 =>
  (law27_add n 2 3).bind fun y3 =>
  (law27_add n 1 2).bind fun y4 =>
  (law27_commit n 1).bind fun y5 =>
  (law27_commit n 2).bind fun y6 =>
  (judge_Judge n (History.mk y1.1 y1.2 ([y3, y4, y5, y6] : List Entry)) y2.2).bind fun y7 =>
  (judge_Judge n (History.mk y1.1 y1.2 ([y3, y4, y5, y6] : List Entry)) y1.2).bind fun y8 =>
  jn (fun (b9 : Bool) =>
      jn (fun (b11 : Bool) =>
          jn (fun (b13 : Bool) =>
              some b13) fun k14 =>
          cond b11
            (k14 (y8.2 == 372))
            (k14 false)) fun k12 =>
      cond b9
        (k12 (y8.1 == 4))
        (k12 false)) fun k10 =>
  cond (y7.1 == 0)
    (k10 (y7.2 == 0))
    (k10 false)
@[reducible] def law27_wakes_ct : Ct tab := ⟨5, [], [], [.one (.d .bool)], [], Bool, fun y => (y, ()), fun y => y.1, fun _ => rfl, fun n x => law27_wakes n⟩
theorem law27_wakes_ok : OkC Tryz.prog tab law27_wakes_ct := fn_ok (W := ⟨Tryz.prog, tab, tyOf, [law27_one_ct, law27_add_ct, law27_commit_ct, judge_Judge_ct], addO, dpO, false⟩) ⟨tabOk, ⟨law27_one_ok, law27_add_ok, law27_commit_ok, judge_Judge_ok, trivial⟩, addOk⟩ (by kernel_rfl) 52 Tryz.f5 (.n) Tryz.func5 Tryz.call5 rfl (by kernel_rfl) (by kernel_rfl) (by kernel_rfl) fun n x => by kernel_rfl

/-! bursary escrow.key -/
/-! bursary escrow.txn -/
/-! bursary escrow.least -/
/-! bursary escrow.shares -/
/-! bursary escrow.shares 1 -/
/-! bursary escrow.of -/
/-! bursary escrow.sum -/
/-! bursary escrow.end -/
/-!  bursary escrow.wide .small -/
/-! bursary escrow.most -/
/-! bursary escrow.shares -/
/-! bursary escrow.shares 1 -/
/-! bursary escrow.end -/
/-! bursary escrow.right -/
end
end Go.Proofs.YtegnflodgnfffaaGreat
