/- Functions of the program: plain twins and their contracts, printed by program. -/
import Derived.Test.YtlfjoaipbpendaaGreatDoorTypes
import Derived.Test.YtlfjoaipbpendaaGreatDoorF2
namespace Go.Proofs.YtlfjoaipbpendaaGreatDoor
open Go Go.Bur Go.RowKit
set_option linter.unusedVariables false
set_option linter.unusedSimpArgs false
set_option maxRecDepth 100000
noncomputable section
/-!   bursary ideal.turn .remove 1 -/
def ideal_turn_remove_1 (n : Nat) (p0 : Int) (q1_0 : List Bounds) (q1_1 : Int) (q1_2 : Int) (q1_3 : Int) (q1_4 : Int) (q1_5 : Int) (q1_6 : Int) (q1_7 : ByteArray) (q1_8 : Int) (q2 : List Row) : Option (Answer × (List Bounds) × Int × Int × Int × Int × Int × Int × ByteArray × Int × (List Row)) :=
  (slices_Delete_Row n p0 (IntKind.wrap .i64 (p0 + 1)) q2).bind fun y1 =>
  some ((Answer.mk 0 ([] : List Row) 0), q1_0, q1_1, q1_2, q1_3, q1_4, q1_5, q1_6, q1_7, q1_8, y1)
@[reducible] def ideal_turn_remove_1_ct : Ct tab := ⟨113, [.one (.d (.int .i64)), .one (.box 0 0)], [.box [.box 1 0], .box [.d (.sl (.st 0)), .own 2, .d (.int .i64), .d (.int .i64), .d (.int .u16), .d (.int .i64), .d (.int .u16), .d (.int .i64), .d .str, .d (.int .i64)], .row 67 (.st 9)], [.st 11], [(some 0, .box [.box 1 0]), (some 1, .box [.d (.sl (.st 0)), .own 2, .d (.int .i64), .d (.int .i64), .d (.int .u16), .d (.int .i64), .d (.int .u16), .d (.int .i64), .d .str, .d (.int .i64)]), (none, .row 67 (.st 9))], (Answer × (List Bounds) × Int × Int × Int × Int × Int × Int × ByteArray × Int × (List Row)), fun y => (y.1, y.2.1, y.2.2.1, y.2.2.2.1, y.2.2.2.2.1, y.2.2.2.2.2.1, y.2.2.2.2.2.2.1, y.2.2.2.2.2.2.2.1, y.2.2.2.2.2.2.2.2.1, y.2.2.2.2.2.2.2.2.2.1, y.2.2.2.2.2.2.2.2.2.2, ()), fun y => (y.1, y.2.1, y.2.2.1, y.2.2.2.1, y.2.2.2.2.1, y.2.2.2.2.2.1, y.2.2.2.2.2.2.1, y.2.2.2.2.2.2.2.1, y.2.2.2.2.2.2.2.2.1, y.2.2.2.2.2.2.2.2.2.1, y.2.2.2.2.2.2.2.2.2.2.1), fun _ => rfl, fun n x => ideal_turn_remove_1 n x.1 x.2.1 x.2.2.1 x.2.2.2.1 x.2.2.2.2.1 x.2.2.2.2.2.1 x.2.2.2.2.2.2.1 x.2.2.2.2.2.2.2.1 x.2.2.2.2.2.2.2.2.1 x.2.2.2.2.2.2.2.2.2.1 x.2.2.2.2.2.2.2.2.2.2.1⟩
theorem ideal_turn_remove_1_ok : OkC Tryz.prog tab ideal_turn_remove_1_ct := fn_ok (W := ⟨Tryz.prog, tab, tyOf, [slices_Delete_Row_ct], addO, dpO, false⟩) ⟨tabOk, ⟨slices_Delete_Row_ok, trivial⟩, addOk⟩ (by kernel_rfl) 16 Tryz.f113 (.n) Tryz.func113 Tryz.call113 rfl (by kernel_rfl) (by kernel_rfl) (by kernel_rfl) fun n x => by kernel_rfl

/-!   bursary ideal.turn .found -/
def ideal_turn_found_f113 (n : Nat) (p1 : Key) (q0_0 : List Bounds) (q0_1 : Int) (q0_2 : Int) (q0_3 : Int) (q0_4 : Int) (q0_5 : Int) (q0_6 : Int) (q0_7 : ByteArray) (q0_8 : Int) (q1 : List Row) : Option (Answer × (List Bounds) × Int × Int × Int × Int × Int × Int × ByteArray × Int × (List Row)) :=
  (row_Find n q1 p1).bind fun y1 =>
  cond (!y1.2)
    (some ((Answer.mk 4 ([] : List Row) 0), q0_0, q0_1, q0_2, q0_3, q0_4, q0_5, q0_6, q0_7, q0_8, q1))
    ((ideal_turn_remove_1 n y1.1 q0_0 q0_1 q0_2 q0_3 q0_4 q0_5 q0_6 q0_7 q0_8 q1).bind fun y2 =>
    some (y2.1, y2.2.1, y2.2.2.1, y2.2.2.2.1, y2.2.2.2.2.1, y2.2.2.2.2.2.1, y2.2.2.2.2.2.2.1, y2.2.2.2.2.2.2.2.1, y2.2.2.2.2.2.2.2.2.1, y2.2.2.2.2.2.2.2.2.2.1, y2.2.2.2.2.2.2.2.2.2.2))
@[reducible] def ideal_turn_found_f113_ct : Ct tab := ⟨108, [.one (.box 0 0), .st 2, .one (.fn 113 [.bx 2])], [.box [.d (.sl (.st 0)), .own 1, .d (.int .i64), .d (.int .i64), .d (.int .u16), .d (.int .i64), .d (.int .u16), .d (.int .i64), .d .str, .d (.int .i64)], .row 67 (.st 9), .box [.box 0 0]], [.st 11], [(some 0, .box [.d (.sl (.st 0)), .own 2, .d (.int .i64), .d (.int .i64), .d (.int .u16), .d (.int .i64), .d (.int .u16), .d (.int .i64), .d .str, .d (.int .i64)]), (some 2, .box [.box 0 0]), (none, .row 67 (.st 9))], (Answer × (List Bounds) × Int × Int × Int × Int × Int × Int × ByteArray × Int × (List Row)), fun y => (y.1, y.2.1, y.2.2.1, y.2.2.2.1, y.2.2.2.2.1, y.2.2.2.2.2.1, y.2.2.2.2.2.2.1, y.2.2.2.2.2.2.2.1, y.2.2.2.2.2.2.2.2.1, y.2.2.2.2.2.2.2.2.2.1, y.2.2.2.2.2.2.2.2.2.2, ()), fun y => (y.1, y.2.1, y.2.2.1, y.2.2.2.1, y.2.2.2.2.1, y.2.2.2.2.2.1, y.2.2.2.2.2.2.1, y.2.2.2.2.2.2.2.1, y.2.2.2.2.2.2.2.2.1, y.2.2.2.2.2.2.2.2.2.1, y.2.2.2.2.2.2.2.2.2.2.1), fun _ => rfl, fun n x => ideal_turn_found_f113 n x.1 x.2.1 x.2.2.1 x.2.2.2.1 x.2.2.2.2.1 x.2.2.2.2.2.1 x.2.2.2.2.2.2.1 x.2.2.2.2.2.2.2.1 x.2.2.2.2.2.2.2.2.1 x.2.2.2.2.2.2.2.2.2.1 x.2.2.2.2.2.2.2.2.2.2.1⟩
theorem ideal_turn_found_f113_ok : OkC Tryz.prog tab ideal_turn_found_f113_ct := fn_ok (W := ⟨Tryz.prog, tab, tyOf, [row_Find_ct, ideal_turn_remove_1_ct], addO, dpO, false⟩) ⟨tabOk, ⟨row_Find_ok, ideal_turn_remove_1_ok, trivial⟩, addOk⟩ (by kernel_rfl) 24 Tryz.f108 (.n) Tryz.func108 Tryz.call108 rfl (by kernel_rfl) (by kernel_rfl) (by kernel_rfl) fun n x => by kernel_rfl

/-!   bursary ideal.turn .remove -/
def ideal_turn_remove (n : Nat) (q0_0 : List Bounds) (q0_1 : Int) (q0_2 : Int) (q0_3 : Int) (q0_4 : Int) (q0_5 : Int) (q0_6 : Int) (q0_7 : ByteArray) (q0_8 : Int) (q1 : List Row) : Option (Answer × (List Bounds) × Int × Int × Int × Int × Int × Int × ByteArray × Int × (List Row)) :=
  (ideal_turn_found_f113 n (Key.mk q0_2 q0_3) q0_0 q0_1 q0_2 q0_3 q0_4 q0_5 q0_6 q0_7 q0_8 q1).bind fun y1 =>
  some (y1.1, y1.2.1, y1.2.2.1, y1.2.2.2.1, y1.2.2.2.2.1, y1.2.2.2.2.2.1, y1.2.2.2.2.2.2.1, y1.2.2.2.2.2.2.2.1, y1.2.2.2.2.2.2.2.2.1, y1.2.2.2.2.2.2.2.2.2.1, y1.2.2.2.2.2.2.2.2.2.2)
@[reducible] def ideal_turn_remove_ct : Ct tab := ⟨92, [.one (.box 0 0)], [.box [.d (.sl (.st 0)), .own 1, .d (.int .i64), .d (.int .i64), .d (.int .u16), .d (.int .i64), .d (.int .u16), .d (.int .i64), .d .str, .d (.int .i64)], .row 67 (.st 9)], [.st 11], [(some 0, .box [.d (.sl (.st 0)), .own 1, .d (.int .i64), .d (.int .i64), .d (.int .u16), .d (.int .i64), .d (.int .u16), .d (.int .i64), .d .str, .d (.int .i64)]), (none, .row 67 (.st 9))], (Answer × (List Bounds) × Int × Int × Int × Int × Int × Int × ByteArray × Int × (List Row)), fun y => (y.1, y.2.1, y.2.2.1, y.2.2.2.1, y.2.2.2.2.1, y.2.2.2.2.2.1, y.2.2.2.2.2.2.1, y.2.2.2.2.2.2.2.1, y.2.2.2.2.2.2.2.2.1, y.2.2.2.2.2.2.2.2.2.1, y.2.2.2.2.2.2.2.2.2.2, ()), fun y => (y.1, y.2.1, y.2.2.1, y.2.2.2.1, y.2.2.2.2.1, y.2.2.2.2.2.1, y.2.2.2.2.2.2.1, y.2.2.2.2.2.2.2.1, y.2.2.2.2.2.2.2.2.1, y.2.2.2.2.2.2.2.2.2.1, y.2.2.2.2.2.2.2.2.2.2.1), fun _ => rfl, fun n x => ideal_turn_remove n x.1 x.2.1 x.2.2.1 x.2.2.2.1 x.2.2.2.2.1 x.2.2.2.2.2.1 x.2.2.2.2.2.2.1 x.2.2.2.2.2.2.2.1 x.2.2.2.2.2.2.2.2.1 x.2.2.2.2.2.2.2.2.2.1⟩
theorem ideal_turn_remove_ok : OkC Tryz.prog tab ideal_turn_remove_ct := fn_ok (W := ⟨Tryz.prog, tab, tyOf, [ideal_turn_found_f113_ct], addO, dpO, false⟩) ⟨tabOk, ⟨ideal_turn_found_f113_ok, trivial⟩, addOk⟩ (by kernel_rfl) 11 Tryz.f92 (.n) Tryz.func92 Tryz.call92 rfl (by kernel_rfl) (by kernel_rfl) (by kernel_rfl) fun n x => by kernel_rfl

/-!   bursary ideal.turn .note 1 -/
def ideal_turn_note_1 (n : Nat) (p0 : Int) (q1_0 : List Bounds) (q1_1 : Int) (q1_2 : Int) (q1_3 : Int) (q1_4 : Int) (q1_5 : Int) (q1_6 : Int) (q1_7 : ByteArray) (q1_8 : Int) (q2 : List Row) : Option (Answer × (List Bounds) × Int × Int × Int × Int × Int × Int × ByteArray × Int × (List Row)) :=
  (idx q2 p0).bind fun x1 =>
  (idx q2 p0).bind fun x2 =>
  (put q2 p0 (Row.mk x2.key x2.val q1_7)).bind fun l3 =>
  some ((Answer.mk 0 ([] : List Row) 0), q1_0, q1_1, q1_2, q1_3, q1_4, q1_5, q1_6, q1_7, q1_8, l3)
@[reducible] def ideal_turn_note_1_ct : Ct tab := ⟨115, [.one (.d (.int .i64)), .one (.box 0 0)], [.box [.box 1 0], .box [.d (.sl (.st 0)), .own 2, .d (.int .i64), .d (.int .i64), .d (.int .u16), .d (.int .i64), .d (.int .u16), .d (.int .i64), .d .str, .d (.int .i64)], .row 67 (.st 9)], [.st 11], [(some 0, .box [.box 1 0]), (some 1, .box [.d (.sl (.st 0)), .own 2, .d (.int .i64), .d (.int .i64), .d (.int .u16), .d (.int .i64), .d (.int .u16), .d (.int .i64), .d .str, .d (.int .i64)]), (none, .row 67 (.st 9))], (Answer × (List Bounds) × Int × Int × Int × Int × Int × Int × ByteArray × Int × (List Row)), fun y => (y.1, y.2.1, y.2.2.1, y.2.2.2.1, y.2.2.2.2.1, y.2.2.2.2.2.1, y.2.2.2.2.2.2.1, y.2.2.2.2.2.2.2.1, y.2.2.2.2.2.2.2.2.1, y.2.2.2.2.2.2.2.2.2.1, y.2.2.2.2.2.2.2.2.2.2, ()), fun y => (y.1, y.2.1, y.2.2.1, y.2.2.2.1, y.2.2.2.2.1, y.2.2.2.2.2.1, y.2.2.2.2.2.2.1, y.2.2.2.2.2.2.2.1, y.2.2.2.2.2.2.2.2.1, y.2.2.2.2.2.2.2.2.2.1, y.2.2.2.2.2.2.2.2.2.2.1), fun _ => rfl, fun n x => ideal_turn_note_1 n x.1 x.2.1 x.2.2.1 x.2.2.2.1 x.2.2.2.2.1 x.2.2.2.2.2.1 x.2.2.2.2.2.2.1 x.2.2.2.2.2.2.2.1 x.2.2.2.2.2.2.2.2.1 x.2.2.2.2.2.2.2.2.2.1 x.2.2.2.2.2.2.2.2.2.2.1⟩
theorem ideal_turn_note_1_ok : OkC Tryz.prog tab ideal_turn_note_1_ct := fn_ok (W := ⟨Tryz.prog, tab, tyOf, [], addO, dpO, false⟩) ⟨tabOk, trivial, addOk⟩ (by kernel_rfl) 17 Tryz.f115 (.n) Tryz.func115 Tryz.call115 rfl (by kernel_rfl) (by kernel_rfl) (by kernel_rfl) fun n x => by kernel_rfl

/-!   bursary ideal.turn .found -/
def ideal_turn_found_f115 (n : Nat) (p1 : Key) (q0_0 : List Bounds) (q0_1 : Int) (q0_2 : Int) (q0_3 : Int) (q0_4 : Int) (q0_5 : Int) (q0_6 : Int) (q0_7 : ByteArray) (q0_8 : Int) (q1 : List Row) : Option (Answer × (List Bounds) × Int × Int × Int × Int × Int × Int × ByteArray × Int × (List Row)) :=
  (row_Find n q1 p1).bind fun y1 =>
  cond (!y1.2)
    (some ((Answer.mk 4 ([] : List Row) 0), q0_0, q0_1, q0_2, q0_3, q0_4, q0_5, q0_6, q0_7, q0_8, q1))
    ((ideal_turn_note_1 n y1.1 q0_0 q0_1 q0_2 q0_3 q0_4 q0_5 q0_6 q0_7 q0_8 q1).bind fun y2 =>
    some (y2.1, y2.2.1, y2.2.2.1, y2.2.2.2.1, y2.2.2.2.2.1, y2.2.2.2.2.2.1, y2.2.2.2.2.2.2.1, y2.2.2.2.2.2.2.2.1, y2.2.2.2.2.2.2.2.2.1, y2.2.2.2.2.2.2.2.2.2.1, y2.2.2.2.2.2.2.2.2.2.2))
@[reducible] def ideal_turn_found_f115_ct : Ct tab := ⟨108, [.one (.box 0 0), .st 2, .one (.fn 115 [.bx 2])], [.box [.d (.sl (.st 0)), .own 1, .d (.int .i64), .d (.int .i64), .d (.int .u16), .d (.int .i64), .d (.int .u16), .d (.int .i64), .d .str, .d (.int .i64)], .row 67 (.st 9), .box [.box 0 0]], [.st 11], [(some 0, .box [.d (.sl (.st 0)), .own 2, .d (.int .i64), .d (.int .i64), .d (.int .u16), .d (.int .i64), .d (.int .u16), .d (.int .i64), .d .str, .d (.int .i64)]), (some 2, .box [.box 0 0]), (none, .row 67 (.st 9))], (Answer × (List Bounds) × Int × Int × Int × Int × Int × Int × ByteArray × Int × (List Row)), fun y => (y.1, y.2.1, y.2.2.1, y.2.2.2.1, y.2.2.2.2.1, y.2.2.2.2.2.1, y.2.2.2.2.2.2.1, y.2.2.2.2.2.2.2.1, y.2.2.2.2.2.2.2.2.1, y.2.2.2.2.2.2.2.2.2.1, y.2.2.2.2.2.2.2.2.2.2, ()), fun y => (y.1, y.2.1, y.2.2.1, y.2.2.2.1, y.2.2.2.2.1, y.2.2.2.2.2.1, y.2.2.2.2.2.2.1, y.2.2.2.2.2.2.2.1, y.2.2.2.2.2.2.2.2.1, y.2.2.2.2.2.2.2.2.2.1, y.2.2.2.2.2.2.2.2.2.2.1), fun _ => rfl, fun n x => ideal_turn_found_f115 n x.1 x.2.1 x.2.2.1 x.2.2.2.1 x.2.2.2.2.1 x.2.2.2.2.2.1 x.2.2.2.2.2.2.1 x.2.2.2.2.2.2.2.1 x.2.2.2.2.2.2.2.2.1 x.2.2.2.2.2.2.2.2.2.1 x.2.2.2.2.2.2.2.2.2.2.1⟩
theorem ideal_turn_found_f115_ok : OkC Tryz.prog tab ideal_turn_found_f115_ct := fn_ok (W := ⟨Tryz.prog, tab, tyOf, [row_Find_ct, ideal_turn_note_1_ct], addO, dpO, false⟩) ⟨tabOk, ⟨row_Find_ok, ideal_turn_note_1_ok, trivial⟩, addOk⟩ (by kernel_rfl) 24 Tryz.f108 (.n) Tryz.func108 Tryz.call108 rfl (by kernel_rfl) (by kernel_rfl) (by kernel_rfl) fun n x => by kernel_rfl

/-!   bursary ideal.turn .note -/
def ideal_turn_note (n : Nat) (q0_0 : List Bounds) (q0_1 : Int) (q0_2 : Int) (q0_3 : Int) (q0_4 : Int) (q0_5 : Int) (q0_6 : Int) (q0_7 : ByteArray) (q0_8 : Int) (q1 : List Row) : Option (Answer × (List Bounds) × Int × Int × Int × Int × Int × Int × ByteArray × Int × (List Row)) :=
  (ideal_turn_found_f115 n (Key.mk q0_2 q0_3) q0_0 q0_1 q0_2 q0_3 q0_4 q0_5 q0_6 q0_7 q0_8 q1).bind fun y1 =>
  some (y1.1, y1.2.1, y1.2.2.1, y1.2.2.2.1, y1.2.2.2.2.1, y1.2.2.2.2.2.1, y1.2.2.2.2.2.2.1, y1.2.2.2.2.2.2.2.1, y1.2.2.2.2.2.2.2.2.1, y1.2.2.2.2.2.2.2.2.2.1, y1.2.2.2.2.2.2.2.2.2.2)
@[reducible] def ideal_turn_note_ct : Ct tab := ⟨93, [.one (.box 0 0)], [.box [.d (.sl (.st 0)), .own 1, .d (.int .i64), .d (.int .i64), .d (.int .u16), .d (.int .i64), .d (.int .u16), .d (.int .i64), .d .str, .d (.int .i64)], .row 67 (.st 9)], [.st 11], [(some 0, .box [.d (.sl (.st 0)), .own 1, .d (.int .i64), .d (.int .i64), .d (.int .u16), .d (.int .i64), .d (.int .u16), .d (.int .i64), .d .str, .d (.int .i64)]), (none, .row 67 (.st 9))], (Answer × (List Bounds) × Int × Int × Int × Int × Int × Int × ByteArray × Int × (List Row)), fun y => (y.1, y.2.1, y.2.2.1, y.2.2.2.1, y.2.2.2.2.1, y.2.2.2.2.2.1, y.2.2.2.2.2.2.1, y.2.2.2.2.2.2.2.1, y.2.2.2.2.2.2.2.2.1, y.2.2.2.2.2.2.2.2.2.1, y.2.2.2.2.2.2.2.2.2.2, ()), fun y => (y.1, y.2.1, y.2.2.1, y.2.2.2.1, y.2.2.2.2.1, y.2.2.2.2.2.1, y.2.2.2.2.2.2.1, y.2.2.2.2.2.2.2.1, y.2.2.2.2.2.2.2.2.1, y.2.2.2.2.2.2.2.2.2.1, y.2.2.2.2.2.2.2.2.2.2.1), fun _ => rfl, fun n x => ideal_turn_note n x.1 x.2.1 x.2.2.1 x.2.2.2.1 x.2.2.2.2.1 x.2.2.2.2.2.1 x.2.2.2.2.2.2.1 x.2.2.2.2.2.2.2.1 x.2.2.2.2.2.2.2.2.1 x.2.2.2.2.2.2.2.2.2.1⟩
theorem ideal_turn_note_ok : OkC Tryz.prog tab ideal_turn_note_ct := fn_ok (W := ⟨Tryz.prog, tab, tyOf, [ideal_turn_found_f115_ct], addO, dpO, false⟩) ⟨tabOk, ⟨ideal_turn_found_f115_ok, trivial⟩, addOk⟩ (by kernel_rfl) 11 Tryz.f93 (.n) Tryz.func93 Tryz.call93 rfl (by kernel_rfl) (by kernel_rfl) (by kernel_rfl) fun n x => by kernel_rfl

/-!   bursary ideal.turn .set 1 -/
def ideal_turn_set_1 (n : Nat) (p0 : Int) (q1_0 : List Bounds) (q1_1 : Int) (q1_2 : Int) (q1_3 : Int) (q1_4 : Int) (q1_5 : Int) (q1_6 : Int) (q1_7 : ByteArray) (q1_8 : Int) (q2 : List Row) : Option (Answer × (List Bounds) × Int × Int × Int × Int × Int × Int × ByteArray × Int × (List Row)) :=
  (idx q2 p0).bind fun x1 =>
  (idx q2 p0).bind fun x2 =>
  (put q2 p0 (Row.mk x2.key q1_6 x2.note)).bind fun l3 =>
  some ((Answer.mk 0 ([] : List Row) 0), q1_0, q1_1, q1_2, q1_3, q1_4, q1_5, q1_6, q1_7, q1_8, l3)
@[reducible] def ideal_turn_set_1_ct : Ct tab := ⟨116, [.one (.d (.int .i64)), .one (.box 0 0)], [.box [.box 1 0], .box [.d (.sl (.st 0)), .own 2, .d (.int .i64), .d (.int .i64), .d (.int .u16), .d (.int .i64), .d (.int .u16), .d (.int .i64), .d .str, .d (.int .i64)], .row 67 (.st 9)], [.st 11], [(some 0, .box [.box 1 0]), (some 1, .box [.d (.sl (.st 0)), .own 2, .d (.int .i64), .d (.int .i64), .d (.int .u16), .d (.int .i64), .d (.int .u16), .d (.int .i64), .d .str, .d (.int .i64)]), (none, .row 67 (.st 9))], (Answer × (List Bounds) × Int × Int × Int × Int × Int × Int × ByteArray × Int × (List Row)), fun y => (y.1, y.2.1, y.2.2.1, y.2.2.2.1, y.2.2.2.2.1, y.2.2.2.2.2.1, y.2.2.2.2.2.2.1, y.2.2.2.2.2.2.2.1, y.2.2.2.2.2.2.2.2.1, y.2.2.2.2.2.2.2.2.2.1, y.2.2.2.2.2.2.2.2.2.2, ()), fun y => (y.1, y.2.1, y.2.2.1, y.2.2.2.1, y.2.2.2.2.1, y.2.2.2.2.2.1, y.2.2.2.2.2.2.1, y.2.2.2.2.2.2.2.1, y.2.2.2.2.2.2.2.2.1, y.2.2.2.2.2.2.2.2.2.1, y.2.2.2.2.2.2.2.2.2.2.1), fun _ => rfl, fun n x => ideal_turn_set_1 n x.1 x.2.1 x.2.2.1 x.2.2.2.1 x.2.2.2.2.1 x.2.2.2.2.2.1 x.2.2.2.2.2.2.1 x.2.2.2.2.2.2.2.1 x.2.2.2.2.2.2.2.2.1 x.2.2.2.2.2.2.2.2.2.1 x.2.2.2.2.2.2.2.2.2.2.1⟩
theorem ideal_turn_set_1_ok : OkC Tryz.prog tab ideal_turn_set_1_ct := fn_ok (W := ⟨Tryz.prog, tab, tyOf, [], addO, dpO, false⟩) ⟨tabOk, trivial, addOk⟩ (by kernel_rfl) 17 Tryz.f116 (.n) Tryz.func116 Tryz.call116 rfl (by kernel_rfl) (by kernel_rfl) (by kernel_rfl) fun n x => by kernel_rfl

/-!   bursary ideal.turn .found -/
def ideal_turn_found_f116 (n : Nat) (p1 : Key) (q0_0 : List Bounds) (q0_1 : Int) (q0_2 : Int) (q0_3 : Int) (q0_4 : Int) (q0_5 : Int) (q0_6 : Int) (q0_7 : ByteArray) (q0_8 : Int) (q1 : List Row) : Option (Answer × (List Bounds) × Int × Int × Int × Int × Int × Int × ByteArray × Int × (List Row)) :=
  (row_Find n q1 p1).bind fun y1 =>
  cond (!y1.2)
    (some ((Answer.mk 4 ([] : List Row) 0), q0_0, q0_1, q0_2, q0_3, q0_4, q0_5, q0_6, q0_7, q0_8, q1))
    ((ideal_turn_set_1 n y1.1 q0_0 q0_1 q0_2 q0_3 q0_4 q0_5 q0_6 q0_7 q0_8 q1).bind fun y2 =>
    some (y2.1, y2.2.1, y2.2.2.1, y2.2.2.2.1, y2.2.2.2.2.1, y2.2.2.2.2.2.1, y2.2.2.2.2.2.2.1, y2.2.2.2.2.2.2.2.1, y2.2.2.2.2.2.2.2.2.1, y2.2.2.2.2.2.2.2.2.2.1, y2.2.2.2.2.2.2.2.2.2.2))
@[reducible] def ideal_turn_found_f116_ct : Ct tab := ⟨108, [.one (.box 0 0), .st 2, .one (.fn 116 [.bx 2])], [.box [.d (.sl (.st 0)), .own 1, .d (.int .i64), .d (.int .i64), .d (.int .u16), .d (.int .i64), .d (.int .u16), .d (.int .i64), .d .str, .d (.int .i64)], .row 67 (.st 9), .box [.box 0 0]], [.st 11], [(some 0, .box [.d (.sl (.st 0)), .own 2, .d (.int .i64), .d (.int .i64), .d (.int .u16), .d (.int .i64), .d (.int .u16), .d (.int .i64), .d .str, .d (.int .i64)]), (some 2, .box [.box 0 0]), (none, .row 67 (.st 9))], (Answer × (List Bounds) × Int × Int × Int × Int × Int × Int × ByteArray × Int × (List Row)), fun y => (y.1, y.2.1, y.2.2.1, y.2.2.2.1, y.2.2.2.2.1, y.2.2.2.2.2.1, y.2.2.2.2.2.2.1, y.2.2.2.2.2.2.2.1, y.2.2.2.2.2.2.2.2.1, y.2.2.2.2.2.2.2.2.2.1, y.2.2.2.2.2.2.2.2.2.2, ()), fun y => (y.1, y.2.1, y.2.2.1, y.2.2.2.1, y.2.2.2.2.1, y.2.2.2.2.2.1, y.2.2.2.2.2.2.1, y.2.2.2.2.2.2.2.1, y.2.2.2.2.2.2.2.2.1, y.2.2.2.2.2.2.2.2.2.1, y.2.2.2.2.2.2.2.2.2.2.1), fun _ => rfl, fun n x => ideal_turn_found_f116 n x.1 x.2.1 x.2.2.1 x.2.2.2.1 x.2.2.2.2.1 x.2.2.2.2.2.1 x.2.2.2.2.2.2.1 x.2.2.2.2.2.2.2.1 x.2.2.2.2.2.2.2.2.1 x.2.2.2.2.2.2.2.2.2.1 x.2.2.2.2.2.2.2.2.2.2.1⟩
theorem ideal_turn_found_f116_ok : OkC Tryz.prog tab ideal_turn_found_f116_ct := fn_ok (W := ⟨Tryz.prog, tab, tyOf, [row_Find_ct, ideal_turn_set_1_ct], addO, dpO, false⟩) ⟨tabOk, ⟨row_Find_ok, ideal_turn_set_1_ok, trivial⟩, addOk⟩ (by kernel_rfl) 24 Tryz.f108 (.n) Tryz.func108 Tryz.call108 rfl (by kernel_rfl) (by kernel_rfl) (by kernel_rfl) fun n x => by kernel_rfl

/-!   bursary ideal.turn .set -/
def ideal_turn_set (n : Nat) (q0_0 : List Bounds) (q0_1 : Int) (q0_2 : Int) (q0_3 : Int) (q0_4 : Int) (q0_5 : Int) (q0_6 : Int) (q0_7 : ByteArray) (q0_8 : Int) (q1 : List Row) : Option (Answer × (List Bounds) × Int × Int × Int × Int × Int × Int × ByteArray × Int × (List Row)) :=
  (ideal_turn_fits n (Key.mk q0_2 q0_3) q0_6 q0_0 q0_1 q0_2 q0_3 q0_4 q0_5 q0_6 q0_7 q0_8 q1).bind fun y1 =>
  cond (!y1.1)
    (some ((Answer.mk 152 ([] : List Row) 0), y1.2.1, y1.2.2.1, y1.2.2.2.1, y1.2.2.2.2.1, y1.2.2.2.2.2.1, y1.2.2.2.2.2.2.1, y1.2.2.2.2.2.2.2.1, y1.2.2.2.2.2.2.2.2.1, y1.2.2.2.2.2.2.2.2.2.1, y1.2.2.2.2.2.2.2.2.2.2))
    ((ideal_turn_found_f116 n (Key.mk y1.2.2.2.1 y1.2.2.2.2.1) y1.2.1 y1.2.2.1 y1.2.2.2.1 y1.2.2.2.2.1 y1.2.2.2.2.2.1 y1.2.2.2.2.2.2.1 y1.2.2.2.2.2.2.2.1 y1.2.2.2.2.2.2.2.2.1 y1.2.2.2.2.2.2.2.2.2.1 y1.2.2.2.2.2.2.2.2.2.2).bind fun y2 =>
    some (y2.1, y2.2.1, y2.2.2.1, y2.2.2.2.1, y2.2.2.2.2.1, y2.2.2.2.2.2.1, y2.2.2.2.2.2.2.1, y2.2.2.2.2.2.2.2.1, y2.2.2.2.2.2.2.2.2.1, y2.2.2.2.2.2.2.2.2.2.1, y2.2.2.2.2.2.2.2.2.2.2))
@[reducible] def ideal_turn_set_ct : Ct tab := ⟨94, [.one (.box 0 0)], [.box [.d (.sl (.st 0)), .own 1, .d (.int .i64), .d (.int .i64), .d (.int .u16), .d (.int .i64), .d (.int .u16), .d (.int .i64), .d .str, .d (.int .i64)], .row 67 (.st 9)], [.st 11], [(some 0, .box [.d (.sl (.st 0)), .own 1, .d (.int .i64), .d (.int .i64), .d (.int .u16), .d (.int .i64), .d (.int .u16), .d (.int .i64), .d .str, .d (.int .i64)]), (none, .row 67 (.st 9))], (Answer × (List Bounds) × Int × Int × Int × Int × Int × Int × ByteArray × Int × (List Row)), fun y => (y.1, y.2.1, y.2.2.1, y.2.2.2.1, y.2.2.2.2.1, y.2.2.2.2.2.1, y.2.2.2.2.2.2.1, y.2.2.2.2.2.2.2.1, y.2.2.2.2.2.2.2.2.1, y.2.2.2.2.2.2.2.2.2.1, y.2.2.2.2.2.2.2.2.2.2, ()), fun y => (y.1, y.2.1, y.2.2.1, y.2.2.2.1, y.2.2.2.2.1, y.2.2.2.2.2.1, y.2.2.2.2.2.2.1, y.2.2.2.2.2.2.2.1, y.2.2.2.2.2.2.2.2.1, y.2.2.2.2.2.2.2.2.2.1, y.2.2.2.2.2.2.2.2.2.2.1), fun _ => rfl, fun n x => ideal_turn_set n x.1 x.2.1 x.2.2.1 x.2.2.2.1 x.2.2.2.2.1 x.2.2.2.2.2.1 x.2.2.2.2.2.2.1 x.2.2.2.2.2.2.2.1 x.2.2.2.2.2.2.2.2.1 x.2.2.2.2.2.2.2.2.2.1⟩
theorem ideal_turn_set_ok : OkC Tryz.prog tab ideal_turn_set_ct := fn_ok (W := ⟨Tryz.prog, tab, tyOf, [ideal_turn_fits_ct, ideal_turn_found_f116_ct], addO, dpO, false⟩) ⟨tabOk, ⟨ideal_turn_fits_ok, ideal_turn_found_f116_ok, trivial⟩, addOk⟩ (by kernel_rfl) 25 Tryz.f94 (.n) Tryz.func94 Tryz.call94 rfl (by kernel_rfl) (by kernel_rfl) (by kernel_rfl) fun n x => by kernel_rfl

/-! bursary row.Plus -/
def row_Plus (n : Nat) (p0 : Int) (p1 : Int) : Option (Int × Bool) :=
  jn (fun (b1 : Bool) =>
      cond b1
        (some (0, false))
        (some ((IntKind.wrap .i64 (p0 + p1)), true))) fun k2 =>
  cond (!((decide ((IntKind.wrap .i64 (p0 + p1)) > p0)) == (decide (p1 > 0))))
    (k2 (p1 != 0))
    (k2 false)
@[reducible] def row_Plus_ct : Ct tab := ⟨142, [.one (.d (.int .i64)), .one (.d (.int .i64))], [], [.one (.d (.int .i64)), .one (.d .bool)], [], (Int × Bool), fun y => (y.1, y.2, ()), fun y => (y.1, y.2.1), fun _ => rfl, fun n x => row_Plus n x.1 x.2.1⟩
theorem row_Plus_ok : OkC Tryz.prog tab row_Plus_ct := fn_ok (W := ⟨Tryz.prog, tab, tyOf, [], addO, dpO, false⟩) ⟨tabOk, trivial, addOk⟩ (by kernel_rfl) 21 Tryz.f142 (.n) Tryz.func142 Tryz.call142 rfl (by kernel_rfl) (by kernel_rfl) (by kernel_rfl) fun n x => by kernel_rfl

/-!   bursary ideal.turn .sum -/
def ideal_turn_sum (n : Nat) (p1 : Int) (p2 : Int) (q0_0 : List Bounds) (q0_1 : Int) (q0_2 : Int) (q0_3 : Int) (q0_4 : Int) (q0_5 : Int) (q0_6 : Int) (q0_7 : ByteArray) (q0_8 : Int) (q1 : List Row) : Option (Int × Bool × (List Bounds) × Int × Int × Int × Int × Int × Int × ByteArray × Int × (List Row)) :=
  (idx q1 p1).bind fun x1 =>
  (idx q1 p1).bind fun x2 =>
  (row_Plus n x2.val p2).bind fun y3 =>
  cond y3.2
    ((idx q1 p1).bind fun x4 =>
    (idx q1 p1).bind fun x5 =>
    (ideal_turn_fits n x5.key y3.1 q0_0 q0_1 q0_2 q0_3 q0_4 q0_5 q0_6 q0_7 q0_8 q1).bind fun y6 =>
    some (y3.1, y6.1, y6.2.1, y6.2.2.1, y6.2.2.2.1, y6.2.2.2.2.1, y6.2.2.2.2.2.1, y6.2.2.2.2.2.2.1, y6.2.2.2.2.2.2.2.1, y6.2.2.2.2.2.2.2.2.1, y6.2.2.2.2.2.2.2.2.2.1, y6.2.2.2.2.2.2.2.2.2.2))
    (some (y3.1, false, q0_0, q0_1, q0_2, q0_3, q0_4, q0_5, q0_6, q0_7, q0_8, q1))
@[reducible] def ideal_turn_sum_ct : Ct tab := ⟨118, [.one (.box 0 0), .one (.d (.int .i64)), .one (.d (.int .i64))], [.box [.d (.sl (.st 0)), .own 1, .d (.int .i64), .d (.int .i64), .d (.int .u16), .d (.int .i64), .d (.int .u16), .d (.int .i64), .d .str, .d (.int .i64)], .row 67 (.st 9)], [.one (.d (.int .i64)), .one (.d .bool)], [(some 0, .box [.d (.sl (.st 0)), .own 1, .d (.int .i64), .d (.int .i64), .d (.int .u16), .d (.int .i64), .d (.int .u16), .d (.int .i64), .d .str, .d (.int .i64)]), (none, .row 67 (.st 9))], (Int × Bool × (List Bounds) × Int × Int × Int × Int × Int × Int × ByteArray × Int × (List Row)), fun y => (y.1, y.2.1, y.2.2.1, y.2.2.2.1, y.2.2.2.2.1, y.2.2.2.2.2.1, y.2.2.2.2.2.2.1, y.2.2.2.2.2.2.2.1, y.2.2.2.2.2.2.2.2.1, y.2.2.2.2.2.2.2.2.2.1, y.2.2.2.2.2.2.2.2.2.2.1, y.2.2.2.2.2.2.2.2.2.2.2, ()), fun y => (y.1, y.2.1, y.2.2.1, y.2.2.2.1, y.2.2.2.2.1, y.2.2.2.2.2.1, y.2.2.2.2.2.2.1, y.2.2.2.2.2.2.2.1, y.2.2.2.2.2.2.2.2.1, y.2.2.2.2.2.2.2.2.2.1, y.2.2.2.2.2.2.2.2.2.2.1, y.2.2.2.2.2.2.2.2.2.2.2.1), fun _ => rfl, fun n x => ideal_turn_sum n x.1 x.2.1 x.2.2.1 x.2.2.2.1 x.2.2.2.2.1 x.2.2.2.2.2.1 x.2.2.2.2.2.2.1 x.2.2.2.2.2.2.2.1 x.2.2.2.2.2.2.2.2.1 x.2.2.2.2.2.2.2.2.2.1 x.2.2.2.2.2.2.2.2.2.2.1 x.2.2.2.2.2.2.2.2.2.2.2.1⟩
theorem ideal_turn_sum_ok : OkC Tryz.prog tab ideal_turn_sum_ct := fn_ok (W := ⟨Tryz.prog, tab, tyOf, [row_Plus_ct, ideal_turn_fits_ct], addO, dpO, false⟩) ⟨tabOk, ⟨row_Plus_ok, ideal_turn_fits_ok, trivial⟩, addOk⟩ (by kernel_rfl) 38 Tryz.f118 (.sq (.n) (.sq (.n) (.sq (.rg [1000000]) (.n)))) Tryz.func118 Tryz.call118 rfl (by kernel_rfl) (by kernel_rfl) (by kernel_rfl) fun n x => by kernel_rfl

/-!   bursary ideal.turn .add 1 -/
def ideal_turn_add_1 (n : Nat) (p0 : Int) (q1_0 : List Bounds) (q1_1 : Int) (q1_2 : Int) (q1_3 : Int) (q1_4 : Int) (q1_5 : Int) (q1_6 : Int) (q1_7 : ByteArray) (q1_8 : Int) (q2 : List Row) : Option (Answer × (List Bounds) × Int × Int × Int × Int × Int × Int × ByteArray × Int × (List Row)) :=
  (ideal_turn_sum n p0 q1_6 q1_0 q1_1 q1_2 q1_3 q1_4 q1_5 q1_6 q1_7 q1_8 q2).bind fun y1 =>
  cond (!y1.2.1)
    (some ((Answer.mk 152 ([] : List Row) 0), y1.2.2.1, y1.2.2.2.1, y1.2.2.2.2.1, y1.2.2.2.2.2.1, y1.2.2.2.2.2.2.1, y1.2.2.2.2.2.2.2.1, y1.2.2.2.2.2.2.2.2.1, y1.2.2.2.2.2.2.2.2.2.1, y1.2.2.2.2.2.2.2.2.2.2.1, y1.2.2.2.2.2.2.2.2.2.2.2))
    ((idx y1.2.2.2.2.2.2.2.2.2.2.2 p0).bind fun x2 =>
    (idx y1.2.2.2.2.2.2.2.2.2.2.2 p0).bind fun x3 =>
    (put y1.2.2.2.2.2.2.2.2.2.2.2 p0 (Row.mk x3.key y1.1 x3.note)).bind fun l4 =>
    some ((Answer.mk 0 ([] : List Row) 0), y1.2.2.1, y1.2.2.2.1, y1.2.2.2.2.1, y1.2.2.2.2.2.1, y1.2.2.2.2.2.2.1, y1.2.2.2.2.2.2.2.1, y1.2.2.2.2.2.2.2.2.1, y1.2.2.2.2.2.2.2.2.2.1, y1.2.2.2.2.2.2.2.2.2.2.1, l4))
@[reducible] def ideal_turn_add_1_ct : Ct tab := ⟨117, [.one (.d (.int .i64)), .one (.box 0 0)], [.box [.box 1 0], .box [.d (.sl (.st 0)), .own 2, .d (.int .i64), .d (.int .i64), .d (.int .u16), .d (.int .i64), .d (.int .u16), .d (.int .i64), .d .str, .d (.int .i64)], .row 67 (.st 9)], [.st 11], [(some 0, .box [.box 1 0]), (some 1, .box [.d (.sl (.st 0)), .own 2, .d (.int .i64), .d (.int .i64), .d (.int .u16), .d (.int .i64), .d (.int .u16), .d (.int .i64), .d .str, .d (.int .i64)]), (none, .row 67 (.st 9))], (Answer × (List Bounds) × Int × Int × Int × Int × Int × Int × ByteArray × Int × (List Row)), fun y => (y.1, y.2.1, y.2.2.1, y.2.2.2.1, y.2.2.2.2.1, y.2.2.2.2.2.1, y.2.2.2.2.2.2.1, y.2.2.2.2.2.2.2.1, y.2.2.2.2.2.2.2.2.1, y.2.2.2.2.2.2.2.2.2.1, y.2.2.2.2.2.2.2.2.2.2, ()), fun y => (y.1, y.2.1, y.2.2.1, y.2.2.2.1, y.2.2.2.2.1, y.2.2.2.2.2.1, y.2.2.2.2.2.2.1, y.2.2.2.2.2.2.2.1, y.2.2.2.2.2.2.2.2.1, y.2.2.2.2.2.2.2.2.2.1, y.2.2.2.2.2.2.2.2.2.2.1), fun _ => rfl, fun n x => ideal_turn_add_1 n x.1 x.2.1 x.2.2.1 x.2.2.2.1 x.2.2.2.2.1 x.2.2.2.2.2.1 x.2.2.2.2.2.2.1 x.2.2.2.2.2.2.2.1 x.2.2.2.2.2.2.2.2.1 x.2.2.2.2.2.2.2.2.2.1 x.2.2.2.2.2.2.2.2.2.2.1⟩
theorem ideal_turn_add_1_ok : OkC Tryz.prog tab ideal_turn_add_1_ct := fn_ok (W := ⟨Tryz.prog, tab, tyOf, [ideal_turn_sum_ct], addO, dpO, false⟩) ⟨tabOk, ⟨ideal_turn_sum_ok, trivial⟩, addOk⟩ (by kernel_rfl) 29 Tryz.f117 (.n) Tryz.func117 Tryz.call117 rfl (by kernel_rfl) (by kernel_rfl) (by kernel_rfl) fun n x => by kernel_rfl

/-!   bursary ideal.turn .found -/
def ideal_turn_found_f117 (n : Nat) (p1 : Key) (q0_0 : List Bounds) (q0_1 : Int) (q0_2 : Int) (q0_3 : Int) (q0_4 : Int) (q0_5 : Int) (q0_6 : Int) (q0_7 : ByteArray) (q0_8 : Int) (q1 : List Row) : Option (Answer × (List Bounds) × Int × Int × Int × Int × Int × Int × ByteArray × Int × (List Row)) :=
  (row_Find n q1 p1).bind fun y1 =>
  cond (!y1.2)
    (some ((Answer.mk 4 ([] : List Row) 0), q0_0, q0_1, q0_2, q0_3, q0_4, q0_5, q0_6, q0_7, q0_8, q1))
    ((ideal_turn_add_1 n y1.1 q0_0 q0_1 q0_2 q0_3 q0_4 q0_5 q0_6 q0_7 q0_8 q1).bind fun y2 =>
    some (y2.1, y2.2.1, y2.2.2.1, y2.2.2.2.1, y2.2.2.2.2.1, y2.2.2.2.2.2.1, y2.2.2.2.2.2.2.1, y2.2.2.2.2.2.2.2.1, y2.2.2.2.2.2.2.2.2.1, y2.2.2.2.2.2.2.2.2.2.1, y2.2.2.2.2.2.2.2.2.2.2))
@[reducible] def ideal_turn_found_f117_ct : Ct tab := ⟨108, [.one (.box 0 0), .st 2, .one (.fn 117 [.bx 2])], [.box [.d (.sl (.st 0)), .own 1, .d (.int .i64), .d (.int .i64), .d (.int .u16), .d (.int .i64), .d (.int .u16), .d (.int .i64), .d .str, .d (.int .i64)], .row 67 (.st 9), .box [.box 0 0]], [.st 11], [(some 0, .box [.d (.sl (.st 0)), .own 2, .d (.int .i64), .d (.int .i64), .d (.int .u16), .d (.int .i64), .d (.int .u16), .d (.int .i64), .d .str, .d (.int .i64)]), (some 2, .box [.box 0 0]), (none, .row 67 (.st 9))], (Answer × (List Bounds) × Int × Int × Int × Int × Int × Int × ByteArray × Int × (List Row)), fun y => (y.1, y.2.1, y.2.2.1, y.2.2.2.1, y.2.2.2.2.1, y.2.2.2.2.2.1, y.2.2.2.2.2.2.1, y.2.2.2.2.2.2.2.1, y.2.2.2.2.2.2.2.2.1, y.2.2.2.2.2.2.2.2.2.1, y.2.2.2.2.2.2.2.2.2.2, ()), fun y => (y.1, y.2.1, y.2.2.1, y.2.2.2.1, y.2.2.2.2.1, y.2.2.2.2.2.1, y.2.2.2.2.2.2.1, y.2.2.2.2.2.2.2.1, y.2.2.2.2.2.2.2.2.1, y.2.2.2.2.2.2.2.2.2.1, y.2.2.2.2.2.2.2.2.2.2.1), fun _ => rfl, fun n x => ideal_turn_found_f117 n x.1 x.2.1 x.2.2.1 x.2.2.2.1 x.2.2.2.2.1 x.2.2.2.2.2.1 x.2.2.2.2.2.2.1 x.2.2.2.2.2.2.2.1 x.2.2.2.2.2.2.2.2.1 x.2.2.2.2.2.2.2.2.2.1 x.2.2.2.2.2.2.2.2.2.2.1⟩
theorem ideal_turn_found_f117_ok : OkC Tryz.prog tab ideal_turn_found_f117_ct := fn_ok (W := ⟨Tryz.prog, tab, tyOf, [row_Find_ct, ideal_turn_add_1_ct], addO, dpO, false⟩) ⟨tabOk, ⟨row_Find_ok, ideal_turn_add_1_ok, trivial⟩, addOk⟩ (by kernel_rfl) 24 Tryz.f108 (.n) Tryz.func108 Tryz.call108 rfl (by kernel_rfl) (by kernel_rfl) (by kernel_rfl) fun n x => by kernel_rfl

/-!   bursary ideal.turn .add -/
def ideal_turn_add (n : Nat) (q0_0 : List Bounds) (q0_1 : Int) (q0_2 : Int) (q0_3 : Int) (q0_4 : Int) (q0_5 : Int) (q0_6 : Int) (q0_7 : ByteArray) (q0_8 : Int) (q1 : List Row) : Option (Answer × (List Bounds) × Int × Int × Int × Int × Int × Int × ByteArray × Int × (List Row)) :=
  (ideal_turn_found_f117 n (Key.mk q0_2 q0_3) q0_0 q0_1 q0_2 q0_3 q0_4 q0_5 q0_6 q0_7 q0_8 q1).bind fun y1 =>
  some (y1.1, y1.2.1, y1.2.2.1, y1.2.2.2.1, y1.2.2.2.2.1, y1.2.2.2.2.2.1, y1.2.2.2.2.2.2.1, y1.2.2.2.2.2.2.2.1, y1.2.2.2.2.2.2.2.2.1, y1.2.2.2.2.2.2.2.2.2.1, y1.2.2.2.2.2.2.2.2.2.2)
@[reducible] def ideal_turn_add_ct : Ct tab := ⟨95, [.one (.box 0 0)], [.box [.d (.sl (.st 0)), .own 1, .d (.int .i64), .d (.int .i64), .d (.int .u16), .d (.int .i64), .d (.int .u16), .d (.int .i64), .d .str, .d (.int .i64)], .row 67 (.st 9)], [.st 11], [(some 0, .box [.d (.sl (.st 0)), .own 1, .d (.int .i64), .d (.int .i64), .d (.int .u16), .d (.int .i64), .d (.int .u16), .d (.int .i64), .d .str, .d (.int .i64)]), (none, .row 67 (.st 9))], (Answer × (List Bounds) × Int × Int × Int × Int × Int × Int × ByteArray × Int × (List Row)), fun y => (y.1, y.2.1, y.2.2.1, y.2.2.2.1, y.2.2.2.2.1, y.2.2.2.2.2.1, y.2.2.2.2.2.2.1, y.2.2.2.2.2.2.2.1, y.2.2.2.2.2.2.2.2.1, y.2.2.2.2.2.2.2.2.2.1, y.2.2.2.2.2.2.2.2.2.2, ()), fun y => (y.1, y.2.1, y.2.2.1, y.2.2.2.1, y.2.2.2.2.1, y.2.2.2.2.2.1, y.2.2.2.2.2.2.1, y.2.2.2.2.2.2.2.1, y.2.2.2.2.2.2.2.2.1, y.2.2.2.2.2.2.2.2.2.1, y.2.2.2.2.2.2.2.2.2.2.1), fun _ => rfl, fun n x => ideal_turn_add n x.1 x.2.1 x.2.2.1 x.2.2.2.1 x.2.2.2.2.1 x.2.2.2.2.2.1 x.2.2.2.2.2.2.1 x.2.2.2.2.2.2.2.1 x.2.2.2.2.2.2.2.2.1 x.2.2.2.2.2.2.2.2.2.1⟩
theorem ideal_turn_add_ok : OkC Tryz.prog tab ideal_turn_add_ct := fn_ok (W := ⟨Tryz.prog, tab, tyOf, [ideal_turn_found_f117_ct], addO, dpO, false⟩) ⟨tabOk, ⟨ideal_turn_found_f117_ok, trivial⟩, addOk⟩ (by kernel_rfl) 11 Tryz.f95 (.n) Tryz.func95 Tryz.call95 rfl (by kernel_rfl) (by kernel_rfl) (by kernel_rfl) fun n x => by kernel_rfl

/-!   bursary ideal.turn .move 1 1 -/
def ideal_turn_move_1_1 (n : Nat) (p0 : Int) (q1_0 : List Bounds) (q1_1 : Int) (q1_2 : Int) (q1_3 : Int) (q1_4 : Int) (q1_5 : Int) (q1_6 : Int) (q1_7 : ByteArray) (q1_8 : Int) (q2 : List Row) (q3 : Int) : Option (Answer × (List Bounds) × Int × Int × Int × Int × Int × Int × ByteArray × Int × Int × (List Row)) :=
  (ideal_turn_sum n q3 (IntKind.wrap .i64 (0 - q1_6)) q1_0 q1_1 q1_2 q1_3 q1_4 q1_5 q1_6 q1_7 q1_8 q2).bind fun y1 =>
  (ideal_turn_sum n p0 y1.2.2.2.2.2.2.2.2.1 y1.2.2.1 y1.2.2.2.1 y1.2.2.2.2.1 y1.2.2.2.2.2.1 y1.2.2.2.2.2.2.1 y1.2.2.2.2.2.2.2.1 y1.2.2.2.2.2.2.2.2.1 y1.2.2.2.2.2.2.2.2.2.1 y1.2.2.2.2.2.2.2.2.2.2.1 y1.2.2.2.2.2.2.2.2.2.2.2).bind fun y2 =>
  jn (fun (b3 : Bool) =>
      cond b3
        (some ((Answer.mk 152 ([] : List Row) 0), y2.2.2.1, y2.2.2.2.1, y2.2.2.2.2.1, y2.2.2.2.2.2.1, y2.2.2.2.2.2.2.1, y2.2.2.2.2.2.2.2.1, y2.2.2.2.2.2.2.2.2.1, y2.2.2.2.2.2.2.2.2.2.1, y2.2.2.2.2.2.2.2.2.2.2.1, q3, y2.2.2.2.2.2.2.2.2.2.2.2))
        ((idx y2.2.2.2.2.2.2.2.2.2.2.2 q3).bind fun x5 =>
        (idx y2.2.2.2.2.2.2.2.2.2.2.2 q3).bind fun x6 =>
        (put y2.2.2.2.2.2.2.2.2.2.2.2 q3 (Row.mk x6.key y1.1 x6.note)).bind fun l7 =>
        (idx l7 p0).bind fun x8 =>
        (idx l7 p0).bind fun x9 =>
        (put l7 p0 (Row.mk x9.key y2.1 x9.note)).bind fun l10 =>
        some ((Answer.mk 0 ([] : List Row) 0), y2.2.2.1, y2.2.2.2.1, y2.2.2.2.2.1, y2.2.2.2.2.2.1, y2.2.2.2.2.2.2.1, y2.2.2.2.2.2.2.2.1, y2.2.2.2.2.2.2.2.2.1, y2.2.2.2.2.2.2.2.2.2.1, y2.2.2.2.2.2.2.2.2.2.2.1, q3, l10))) fun k4 =>
  cond (!y1.2.1)
    (k4 true)
    (k4 (!y2.2.1))
@[reducible] def ideal_turn_move_1_1_ct : Ct tab := ⟨120, [.one (.d (.int .i64)), .one (.box 0 0), .one (.box 3 0)], [.box [.box 1 0], .box [.d (.sl (.st 0)), .own 2, .d (.int .i64), .d (.int .i64), .d (.int .u16), .d (.int .i64), .d (.int .u16), .d (.int .i64), .d .str, .d (.int .i64)], .row 67 (.st 9), .box [.d (.int .i64)]], [.st 11], [(some 0, .box [.box 1 0]), (some 1, .box [.d (.sl (.st 0)), .own 3, .d (.int .i64), .d (.int .i64), .d (.int .u16), .d (.int .i64), .d (.int .u16), .d (.int .i64), .d .str, .d (.int .i64)]), (some 3, .box [.d (.int .i64)]), (none, .row 67 (.st 9))], (Answer × (List Bounds) × Int × Int × Int × Int × Int × Int × ByteArray × Int × Int × (List Row)), fun y => (y.1, y.2.1, y.2.2.1, y.2.2.2.1, y.2.2.2.2.1, y.2.2.2.2.2.1, y.2.2.2.2.2.2.1, y.2.2.2.2.2.2.2.1, y.2.2.2.2.2.2.2.2.1, y.2.2.2.2.2.2.2.2.2.1, y.2.2.2.2.2.2.2.2.2.2.1, y.2.2.2.2.2.2.2.2.2.2.2, ()), fun y => (y.1, y.2.1, y.2.2.1, y.2.2.2.1, y.2.2.2.2.1, y.2.2.2.2.2.1, y.2.2.2.2.2.2.1, y.2.2.2.2.2.2.2.1, y.2.2.2.2.2.2.2.2.1, y.2.2.2.2.2.2.2.2.2.1, y.2.2.2.2.2.2.2.2.2.2.1, y.2.2.2.2.2.2.2.2.2.2.2.1), fun _ => rfl, fun n x => ideal_turn_move_1_1 n x.1 x.2.1 x.2.2.1 x.2.2.2.1 x.2.2.2.2.1 x.2.2.2.2.2.1 x.2.2.2.2.2.2.1 x.2.2.2.2.2.2.2.1 x.2.2.2.2.2.2.2.2.1 x.2.2.2.2.2.2.2.2.2.1 x.2.2.2.2.2.2.2.2.2.2.1 x.2.2.2.2.2.2.2.2.2.2.2.1⟩
theorem ideal_turn_move_1_1_ok : OkC Tryz.prog tab ideal_turn_move_1_1_ct := fn_ok (W := ⟨Tryz.prog, tab, tyOf, [ideal_turn_sum_ct], addO, dpO, false⟩) ⟨tabOk, ⟨ideal_turn_sum_ok, trivial⟩, addOk⟩ (by kernel_rfl) 56 Tryz.f120 (.n) Tryz.func120 Tryz.call120 rfl (by kernel_rfl) (by kernel_rfl) (by kernel_rfl) fun n x => by kernel_rfl

/-!   bursary ideal.turn .found -/
def ideal_turn_found_f120 (n : Nat) (p1 : Key) (q0_0 : List Bounds) (q0_1 : Int) (q0_2 : Int) (q0_3 : Int) (q0_4 : Int) (q0_5 : Int) (q0_6 : Int) (q0_7 : ByteArray) (q0_8 : Int) (q1 : List Row) (q3 : Int) : Option (Answer × (List Bounds) × Int × Int × Int × Int × Int × Int × ByteArray × Int × Int × (List Row)) :=
  (row_Find n q1 p1).bind fun y1 =>
  cond (!y1.2)
    (some ((Answer.mk 4 ([] : List Row) 0), q0_0, q0_1, q0_2, q0_3, q0_4, q0_5, q0_6, q0_7, q0_8, q3, q1))
    ((ideal_turn_move_1_1 n y1.1 q0_0 q0_1 q0_2 q0_3 q0_4 q0_5 q0_6 q0_7 q0_8 q1 q3).bind fun y2 =>
    some (y2.1, y2.2.1, y2.2.2.1, y2.2.2.2.1, y2.2.2.2.2.1, y2.2.2.2.2.2.1, y2.2.2.2.2.2.2.1, y2.2.2.2.2.2.2.2.1, y2.2.2.2.2.2.2.2.2.1, y2.2.2.2.2.2.2.2.2.2.1, y2.2.2.2.2.2.2.2.2.2.2.1, y2.2.2.2.2.2.2.2.2.2.2.2))
@[reducible] def ideal_turn_found_f120_ct : Ct tab := ⟨108, [.one (.box 0 0), .st 2, .one (.fn 120 [.bx 2, .bx 3])], [.box [.d (.sl (.st 0)), .own 1, .d (.int .i64), .d (.int .i64), .d (.int .u16), .d (.int .i64), .d (.int .u16), .d (.int .i64), .d .str, .d (.int .i64)], .row 67 (.st 9), .box [.box 0 0], .box [.d (.int .i64)]], [.st 11], [(some 0, .box [.d (.sl (.st 0)), .own 3, .d (.int .i64), .d (.int .i64), .d (.int .u16), .d (.int .i64), .d (.int .u16), .d (.int .i64), .d .str, .d (.int .i64)]), (some 2, .box [.box 0 0]), (some 3, .box [.d (.int .i64)]), (none, .row 67 (.st 9))], (Answer × (List Bounds) × Int × Int × Int × Int × Int × Int × ByteArray × Int × Int × (List Row)), fun y => (y.1, y.2.1, y.2.2.1, y.2.2.2.1, y.2.2.2.2.1, y.2.2.2.2.2.1, y.2.2.2.2.2.2.1, y.2.2.2.2.2.2.2.1, y.2.2.2.2.2.2.2.2.1, y.2.2.2.2.2.2.2.2.2.1, y.2.2.2.2.2.2.2.2.2.2.1, y.2.2.2.2.2.2.2.2.2.2.2, ()), fun y => (y.1, y.2.1, y.2.2.1, y.2.2.2.1, y.2.2.2.2.1, y.2.2.2.2.2.1, y.2.2.2.2.2.2.1, y.2.2.2.2.2.2.2.1, y.2.2.2.2.2.2.2.2.1, y.2.2.2.2.2.2.2.2.2.1, y.2.2.2.2.2.2.2.2.2.2.1, y.2.2.2.2.2.2.2.2.2.2.2.1), fun _ => rfl, fun n x => ideal_turn_found_f120 n x.1 x.2.1 x.2.2.1 x.2.2.2.1 x.2.2.2.2.1 x.2.2.2.2.2.1 x.2.2.2.2.2.2.1 x.2.2.2.2.2.2.2.1 x.2.2.2.2.2.2.2.2.1 x.2.2.2.2.2.2.2.2.2.1 x.2.2.2.2.2.2.2.2.2.2.1 x.2.2.2.2.2.2.2.2.2.2.2.1⟩
theorem ideal_turn_found_f120_ok : OkC Tryz.prog tab ideal_turn_found_f120_ct := fn_ok (W := ⟨Tryz.prog, tab, tyOf, [row_Find_ct, ideal_turn_move_1_1_ct], addO, dpO, false⟩) ⟨tabOk, ⟨row_Find_ok, ideal_turn_move_1_1_ok, trivial⟩, addOk⟩ (by kernel_rfl) 24 Tryz.f108 (.n) Tryz.func108 Tryz.call108 rfl (by kernel_rfl) (by kernel_rfl) (by kernel_rfl) fun n x => by kernel_rfl

/-!   bursary ideal.turn .move 1 -/
def ideal_turn_move_1 (n : Nat) (p0 : Int) (q1_0 : List Bounds) (q1_1 : Int) (q1_2 : Int) (q1_3 : Int) (q1_4 : Int) (q1_5 : Int) (q1_6 : Int) (q1_7 : ByteArray) (q1_8 : Int) (q2 : List Row) : Option (Answer × (List Bounds) × Int × Int × Int × Int × Int × Int × ByteArray × Int × (List Row)) :=
  (ideal_turn_found_f120 n (Key.mk q1_4 q1_5) q1_0 q1_1 q1_2 q1_3 q1_4 q1_5 q1_6 q1_7 q1_8 q2 p0).bind fun y1 =>
  some (y1.1, y1.2.1, y1.2.2.1, y1.2.2.2.1, y1.2.2.2.2.1, y1.2.2.2.2.2.1, y1.2.2.2.2.2.2.1, y1.2.2.2.2.2.2.2.1, y1.2.2.2.2.2.2.2.2.1, y1.2.2.2.2.2.2.2.2.2.1, y1.2.2.2.2.2.2.2.2.2.2.2)
@[reducible] def ideal_turn_move_1_ct : Ct tab := ⟨119, [.one (.d (.int .i64)), .one (.box 0 0)], [.box [.box 1 0], .box [.d (.sl (.st 0)), .own 2, .d (.int .i64), .d (.int .i64), .d (.int .u16), .d (.int .i64), .d (.int .u16), .d (.int .i64), .d .str, .d (.int .i64)], .row 67 (.st 9)], [.st 11], [(some 0, .box [.box 1 0]), (some 1, .box [.d (.sl (.st 0)), .own 2, .d (.int .i64), .d (.int .i64), .d (.int .u16), .d (.int .i64), .d (.int .u16), .d (.int .i64), .d .str, .d (.int .i64)]), (none, .row 67 (.st 9))], (Answer × (List Bounds) × Int × Int × Int × Int × Int × Int × ByteArray × Int × (List Row)), fun y => (y.1, y.2.1, y.2.2.1, y.2.2.2.1, y.2.2.2.2.1, y.2.2.2.2.2.1, y.2.2.2.2.2.2.1, y.2.2.2.2.2.2.2.1, y.2.2.2.2.2.2.2.2.1, y.2.2.2.2.2.2.2.2.2.1, y.2.2.2.2.2.2.2.2.2.2, ()), fun y => (y.1, y.2.1, y.2.2.1, y.2.2.2.1, y.2.2.2.2.1, y.2.2.2.2.2.1, y.2.2.2.2.2.2.1, y.2.2.2.2.2.2.2.1, y.2.2.2.2.2.2.2.2.1, y.2.2.2.2.2.2.2.2.2.1, y.2.2.2.2.2.2.2.2.2.2.1), fun _ => rfl, fun n x => ideal_turn_move_1 n x.1 x.2.1 x.2.2.1 x.2.2.2.1 x.2.2.2.2.1 x.2.2.2.2.2.1 x.2.2.2.2.2.2.1 x.2.2.2.2.2.2.2.1 x.2.2.2.2.2.2.2.2.1 x.2.2.2.2.2.2.2.2.2.1 x.2.2.2.2.2.2.2.2.2.2.1⟩
theorem ideal_turn_move_1_ok : OkC Tryz.prog tab ideal_turn_move_1_ct := fn_ok (W := ⟨Tryz.prog, tab, tyOf, [ideal_turn_found_f120_ct], addO, dpO, false⟩) ⟨tabOk, ⟨ideal_turn_found_f120_ok, trivial⟩, addOk⟩ (by kernel_rfl) 12 Tryz.f119 (.n) Tryz.func119 Tryz.call119 rfl (by kernel_rfl) (by kernel_rfl) (by kernel_rfl) fun n x => by kernel_rfl

/-!   bursary ideal.turn .found -/
def ideal_turn_found_f119 (n : Nat) (p1 : Key) (q0_0 : List Bounds) (q0_1 : Int) (q0_2 : Int) (q0_3 : Int) (q0_4 : Int) (q0_5 : Int) (q0_6 : Int) (q0_7 : ByteArray) (q0_8 : Int) (q1 : List Row) : Option (Answer × (List Bounds) × Int × Int × Int × Int × Int × Int × ByteArray × Int × (List Row)) :=
  (row_Find n q1 p1).bind fun y1 =>
  cond (!y1.2)
    (some ((Answer.mk 4 ([] : List Row) 0), q0_0, q0_1, q0_2, q0_3, q0_4, q0_5, q0_6, q0_7, q0_8, q1))
    ((ideal_turn_move_1 n y1.1 q0_0 q0_1 q0_2 q0_3 q0_4 q0_5 q0_6 q0_7 q0_8 q1).bind fun y2 =>
    some (y2.1, y2.2.1, y2.2.2.1, y2.2.2.2.1, y2.2.2.2.2.1, y2.2.2.2.2.2.1, y2.2.2.2.2.2.2.1, y2.2.2.2.2.2.2.2.1, y2.2.2.2.2.2.2.2.2.1, y2.2.2.2.2.2.2.2.2.2.1, y2.2.2.2.2.2.2.2.2.2.2))
@[reducible] def ideal_turn_found_f119_ct : Ct tab := ⟨108, [.one (.box 0 0), .st 2, .one (.fn 119 [.bx 2])], [.box [.d (.sl (.st 0)), .own 1, .d (.int .i64), .d (.int .i64), .d (.int .u16), .d (.int .i64), .d (.int .u16), .d (.int .i64), .d .str, .d (.int .i64)], .row 67 (.st 9), .box [.box 0 0]], [.st 11], [(some 0, .box [.d (.sl (.st 0)), .own 2, .d (.int .i64), .d (.int .i64), .d (.int .u16), .d (.int .i64), .d (.int .u16), .d (.int .i64), .d .str, .d (.int .i64)]), (some 2, .box [.box 0 0]), (none, .row 67 (.st 9))], (Answer × (List Bounds) × Int × Int × Int × Int × Int × Int × ByteArray × Int × (List Row)), fun y => (y.1, y.2.1, y.2.2.1, y.2.2.2.1, y.2.2.2.2.1, y.2.2.2.2.2.1, y.2.2.2.2.2.2.1, y.2.2.2.2.2.2.2.1, y.2.2.2.2.2.2.2.2.1, y.2.2.2.2.2.2.2.2.2.1, y.2.2.2.2.2.2.2.2.2.2, ()), fun y => (y.1, y.2.1, y.2.2.1, y.2.2.2.1, y.2.2.2.2.1, y.2.2.2.2.2.1, y.2.2.2.2.2.2.1, y.2.2.2.2.2.2.2.1, y.2.2.2.2.2.2.2.2.1, y.2.2.2.2.2.2.2.2.2.1, y.2.2.2.2.2.2.2.2.2.2.1), fun _ => rfl, fun n x => ideal_turn_found_f119 n x.1 x.2.1 x.2.2.1 x.2.2.2.1 x.2.2.2.2.1 x.2.2.2.2.2.1 x.2.2.2.2.2.2.1 x.2.2.2.2.2.2.2.1 x.2.2.2.2.2.2.2.2.1 x.2.2.2.2.2.2.2.2.2.1 x.2.2.2.2.2.2.2.2.2.2.1⟩
theorem ideal_turn_found_f119_ok : OkC Tryz.prog tab ideal_turn_found_f119_ct := fn_ok (W := ⟨Tryz.prog, tab, tyOf, [row_Find_ct, ideal_turn_move_1_ct], addO, dpO, false⟩) ⟨tabOk, ⟨row_Find_ok, ideal_turn_move_1_ok, trivial⟩, addOk⟩ (by kernel_rfl) 24 Tryz.f108 (.n) Tryz.func108 Tryz.call108 rfl (by kernel_rfl) (by kernel_rfl) (by kernel_rfl) fun n x => by kernel_rfl

/-!   bursary ideal.turn .move -/
def ideal_turn_move (n : Nat) (q0_0 : List Bounds) (q0_1 : Int) (q0_2 : Int) (q0_3 : Int) (q0_4 : Int) (q0_5 : Int) (q0_6 : Int) (q0_7 : ByteArray) (q0_8 : Int) (q1 : List Row) : Option (Answer × (List Bounds) × Int × Int × Int × Int × Int × Int × ByteArray × Int × (List Row)) :=
  (ideal_turn_found_f119 n (Key.mk q0_2 q0_3) q0_0 q0_1 q0_2 q0_3 q0_4 q0_5 q0_6 q0_7 q0_8 q1).bind fun y1 =>
  some (y1.1, y1.2.1, y1.2.2.1, y1.2.2.2.1, y1.2.2.2.2.1, y1.2.2.2.2.2.1, y1.2.2.2.2.2.2.1, y1.2.2.2.2.2.2.2.1, y1.2.2.2.2.2.2.2.2.1, y1.2.2.2.2.2.2.2.2.2.1, y1.2.2.2.2.2.2.2.2.2.2)
@[reducible] def ideal_turn_move_ct : Ct tab := ⟨96, [.one (.box 0 0)], [.box [.d (.sl (.st 0)), .own 1, .d (.int .i64), .d (.int .i64), .d (.int .u16), .d (.int .i64), .d (.int .u16), .d (.int .i64), .d .str, .d (.int .i64)], .row 67 (.st 9)], [.st 11], [(some 0, .box [.d (.sl (.st 0)), .own 1, .d (.int .i64), .d (.int .i64), .d (.int .u16), .d (.int .i64), .d (.int .u16), .d (.int .i64), .d .str, .d (.int .i64)]), (none, .row 67 (.st 9))], (Answer × (List Bounds) × Int × Int × Int × Int × Int × Int × ByteArray × Int × (List Row)), fun y => (y.1, y.2.1, y.2.2.1, y.2.2.2.1, y.2.2.2.2.1, y.2.2.2.2.2.1, y.2.2.2.2.2.2.1, y.2.2.2.2.2.2.2.1, y.2.2.2.2.2.2.2.2.1, y.2.2.2.2.2.2.2.2.2.1, y.2.2.2.2.2.2.2.2.2.2, ()), fun y => (y.1, y.2.1, y.2.2.1, y.2.2.2.1, y.2.2.2.2.1, y.2.2.2.2.2.1, y.2.2.2.2.2.2.1, y.2.2.2.2.2.2.2.1, y.2.2.2.2.2.2.2.2.1, y.2.2.2.2.2.2.2.2.2.1, y.2.2.2.2.2.2.2.2.2.2.1), fun _ => rfl, fun n x => ideal_turn_move n x.1 x.2.1 x.2.2.1 x.2.2.2.1 x.2.2.2.2.1 x.2.2.2.2.2.1 x.2.2.2.2.2.2.1 x.2.2.2.2.2.2.2.1 x.2.2.2.2.2.2.2.2.1 x.2.2.2.2.2.2.2.2.2.1⟩
theorem ideal_turn_move_ok : OkC Tryz.prog tab ideal_turn_move_ct := fn_ok (W := ⟨Tryz.prog, tab, tyOf, [ideal_turn_found_f119_ct], addO, dpO, false⟩) ⟨tabOk, ⟨ideal_turn_found_f119_ok, trivial⟩, addOk⟩ (by kernel_rfl) 11 Tryz.f96 (.n) Tryz.func96 Tryz.call96 rfl (by kernel_rfl) (by kernel_rfl) (by kernel_rfl) fun n x => by kernel_rfl

/-! bursary ideal.does -/
def ideal_does (n : Nat) (p0 : Schema) (p1 : List Row) (p2 : Request) : Option (Answer × (List Row)) :=
  (slices_Clone_Row n p1).bind fun y1 =>
  cond (decide (p2.kind = 1))
    ((ideal_turn_read n p0.tables p2.kind p2.key.table p2.key.id p2.to.table p2.to.id p2.val p2.note p2.n y1).bind fun y2 =>
    some (y2.1, y2.2.2.2.2.2.2.2.2.2.2))
    (cond (decide (p2.kind = 2))
      ((ideal_turn_scan n p0.tables p2.kind p2.key.table p2.key.id p2.to.table p2.to.id p2.val p2.note p2.n y1).bind fun y3 =>
      some (y3.1, y3.2.2.2.2.2.2.2.2.2.2))
      (cond (decide (p2.kind = 3))
        ((ideal_turn_insert n p0.tables p2.kind p2.key.table p2.key.id p2.to.table p2.to.id p2.val p2.note p2.n y1).bind fun y4 =>
        some (y4.1, y4.2.2.2.2.2.2.2.2.2.2))
        (cond (decide (p2.kind = 4))
          ((ideal_turn_remove n p0.tables p2.kind p2.key.table p2.key.id p2.to.table p2.to.id p2.val p2.note p2.n y1).bind fun y5 =>
          some (y5.1, y5.2.2.2.2.2.2.2.2.2.2))
          (cond (decide (p2.kind = 5))
            ((ideal_turn_note n p0.tables p2.kind p2.key.table p2.key.id p2.to.table p2.to.id p2.val p2.note p2.n y1).bind fun y6 =>
            some (y6.1, y6.2.2.2.2.2.2.2.2.2.2))
            (cond (decide (p2.kind = 6))
              ((ideal_turn_set n p0.tables p2.kind p2.key.table p2.key.id p2.to.table p2.to.id p2.val p2.note p2.n y1).bind fun y7 =>
              some (y7.1, y7.2.2.2.2.2.2.2.2.2.2))
              (cond (decide (p2.kind = 7))
                ((ideal_turn_add n p0.tables p2.kind p2.key.table p2.key.id p2.to.table p2.to.id p2.val p2.note p2.n y1).bind fun y8 =>
                some (y8.1, y8.2.2.2.2.2.2.2.2.2.2))
                (cond (decide (p2.kind = 8))
                  ((ideal_turn_move n p0.tables p2.kind p2.key.table p2.key.id p2.to.table p2.to.id p2.val p2.note p2.n y1).bind fun y9 =>
                  some (y9.1, y9.2.2.2.2.2.2.2.2.2.2))
                  (none))))))))
@[reducible] def ideal_does_ct : Ct tab := ⟨64, [.st 1, .one (.d (.sl (.st 9))), .st 3], [], [.one (.own 0), .st 11], [(none, .row 67 (.st 9))], (Answer × (List Row)), fun y => (y.1, y.2, ()), fun y => (y.1, y.2.1), fun _ => rfl, fun n x => ideal_does n x.1 x.2.1 x.2.2.1⟩
theorem ideal_does_ok : OkC Tryz.prog tab ideal_does_ct := fn_ok (W := ⟨Tryz.prog, tab, tyOf, [slices_Clone_Row_ct, ideal_turn_read_ct, ideal_turn_scan_ct, ideal_turn_insert_ct, ideal_turn_remove_ct, ideal_turn_note_ct, ideal_turn_set_ct, ideal_turn_add_ct, ideal_turn_move_ct], addO, dpO, false⟩) ⟨tabOk, ⟨slices_Clone_Row_ok, ideal_turn_read_ok, ideal_turn_scan_ok, ideal_turn_insert_ok, ideal_turn_remove_ok, ideal_turn_note_ok, ideal_turn_set_ok, ideal_turn_add_ok, ideal_turn_move_ok, trivial⟩, addOk⟩ (by kernel_rfl) 45 Tryz.f64 (.n) Tryz.func64 Tryz.call64 rfl (by kernel_rfl) (by kernel_rfl) (by kernel_rfl) fun n x => by kernel_rfl

/-! bursary ideal.Do -/
def ideal_Do_j2 (n : Nat) : (List Row) × Int × Schema × Request × Answer × Unit → Option (Answer × (List Row)) := fun ⟨v10, v11, v12, v13, v14, _⟩ =>
    cond (v11 != 0)
      ((slices_Clone_Row n v10).bind fun y15 =>
      some ((Answer.mk v11 ([] : List Row) 0), y15))
      ((ideal_does n v12 v10 v13).bind fun y16 =>
      some (y16.1, y16.2))
def ideal_Do_j1 (n : Nat) : (List Row) × Int × Schema × Request × Answer × Unit → Option (Answer × (List Row)) := fun ⟨v3, v4, v5, v6, v7, _⟩ =>
    jn (fun (b8 : Bool) =>
        jn (ideal_Do_j2 n) fun j2 =>
        cond b8
          (j2 (v3, 250, v5, v6, v7, ()))
          (j2 (v3, v4, v5, v6, v7, ()))) fun k9 =>
    cond (v4 == 0)
      (k9 (decide (v6.kind > 8)))
      (k9 false)
def ideal_Do (n : Nat) (p0 : Schema) (p1 : List Row) (p2 : Request) : Option (Answer × (List Row)) :=
  (row_CheckList n p0 p1).bind fun y1 =>
  jn (ideal_Do_j1 n) fun j1 =>
  cond (y1 == 0)
    ((ideal_CheckRequest n p0 p2).bind fun y17 =>
    j1 (p1, y17, p0, p2, (Answer.mk 0 ([] : List Row) 0), ()))
    (j1 (p1, y1, p0, p2, (Answer.mk 0 ([] : List Row) 0), ()))
@[reducible] def ideal_Do_ct : Ct tab := ⟨27, [.st 1, .one (.d (.sl (.st 9))), .st 3], [], [.one (.own 0), .st 11], [(none, .row 67 (.st 9))], (Answer × (List Row)), fun y => (y.1, y.2, ()), fun y => (y.1, y.2.1), fun _ => rfl, fun n x => ideal_Do n x.1 x.2.1 x.2.2.1⟩
theorem ideal_Do_ok : OkC Tryz.prog tab ideal_Do_ct := fn_ok (W := ⟨Tryz.prog, tab, tyOf, [row_CheckList_ct, slices_Clone_Row_ct, ideal_does_ct, ideal_CheckRequest_ct], addO, dpO, false⟩) ⟨tabOk, ⟨row_CheckList_ok, slices_Clone_Row_ok, ideal_does_ok, ideal_CheckRequest_ok, trivial⟩, addOk⟩ (by kernel_rfl) 36 Tryz.f27 (.sq (.n) (.sq (.n) (.sq (.sq (.n) (.cd (some ⟨[(1, .one (.d (.sl (.st 9)))), (3, .one (.box 0 0)), (5, .one (.box 1 0)), (7, .one (.box 2 0)), (8, .one (.d (.int .i64)))], [.bst 1, .bst 3, .bst 11], []⟩) (.n) (.n))) (.sq (.sq (.n) (.cd (some ⟨[(1, .one (.d (.sl (.st 9)))), (3, .one (.box 0 0)), (5, .one (.box 1 0)), (7, .one (.box 2 0)), (8, .one (.d (.int .i64)))], [.bst 1, .bst 3, .bst 11], []⟩) (.n) (.n))) (.n))))) Tryz.func27 Tryz.call27 rfl (by kernel_rfl) (by kernel_rfl) (by kernel_rfl) fun n x => by kernel_rfl

/-! bursary bursarylaw19.covered -/
/-! slices.Equal   bursary api.Row bursary api.Row  -/
def slices_Equal_Row_l1 (n : Nat) : Nat → (List Row) × (List Row) × Int × Int × Unit → Option Bool := loopF fun r1 ⟨v1, v2, v3, v4, _⟩ =>
    cond (decide (v4 < v3))
      ((idx v1 v4).bind fun x5 =>
      (idx v2 v4).bind fun x6 =>
      cond (!(Row.eqb x5 x6))
        (some false)
        (r1 (v1, v2, v3, (IntKind.wrap .i64 (v4 + 1)), ())))
      (some true)
def slices_Equal_Row (n : Nat) (p0 : List Row) (p1 : List Row) : Option Bool :=
  cond ((p0.length : Int) != (p1.length : Int))
    (some false)
    (slices_Equal_Row_l1 n n (p0, p1, (p0.length : Int), 0, ()))
@[reducible] def slices_Equal_Row_ct : Ct tab := ⟨67, [.one (.d (.sl (.st 9))), .one (.d (.sl (.st 9)))], [], [.one (.d .bool)], [], Bool, fun y => (y, ()), fun y => y.1, fun _ => rfl, fun n x => slices_Equal_Row n x.1 x.2.1⟩
theorem slices_Equal_Row_ok : OkC Tryz.prog tab slices_Equal_Row_ct := fn_ok (W := ⟨Tryz.prog, tab, tyOf, [], addO, dpO, false⟩) ⟨tabOk, trivial, addOk⟩ (by kernel_rfl) 26 Tryz.f67 (.sq (.n) (.sq (.n) (.sq (.sq (.n) (.bk none (.lp ⟨[(0, .one (.d (.sl (.st 9)))), (1, .one (.d (.sl (.st 9)))), (12, .one (.d (.int .i64))), (13, .one (.d (.int .i64)))], [], []⟩ (.n)))) (.n)))) Tryz.func67 Tryz.call67 rfl (by kernel_rfl) (by kernel_rfl) (by kernel_rfl) fun n x => by kernel_rfl

/-! bursary row.Same -/
def row_Same (n : Nat) (p0 : List Row) (p1 : List Row) : Option Bool :=
  (slices_Equal_Row n p0 p1).bind fun y1 =>
  some y1
@[reducible] def row_Same_ct : Ct tab := ⟨32, [.one (.d (.sl (.st 9))), .one (.d (.sl (.st 9)))], [], [.one (.d .bool)], [], Bool, fun y => (y, ()), fun y => y.1, fun _ => rfl, fun n x => row_Same n x.1 x.2.1⟩
theorem row_Same_ok : OkC Tryz.prog tab row_Same_ct := fn_ok (W := ⟨Tryz.prog, tab, tyOf, [slices_Equal_Row_ct], addO, dpO, false⟩) ⟨tabOk, ⟨slices_Equal_Row_ok, trivial⟩, addOk⟩ (by kernel_rfl) 8 Tryz.f32 (.n) Tryz.func32 Tryz.call32 rfl (by kernel_rfl) (by kernel_rfl) (by kernel_rfl) fun n x => by kernel_rfl

/-! bursary ideal.SameAnswer -/
def ideal_SameAnswer (n : Nat) (p0 : Answer) (p1 : Answer) : Option Bool :=
  jn (fun (b1 : Bool) =>
      jn (fun (b3 : Bool) =>
          some b3) fun k4 =>
      cond b1
        ((row_Same n p0.rows p1.rows).bind fun y5 =>
        k4 y5)
        (k4 false)) fun k2 =>
  cond (p0.err == p1.err)
    (k2 (p0.n == p1.n))
    (k2 false)
@[reducible] def ideal_SameAnswer_ct : Ct tab := ⟨30, [.st 11, .st 11], [], [.one (.d .bool)], [], Bool, fun y => (y, ()), fun y => y.1, fun _ => rfl, fun n x => ideal_SameAnswer n x.1 x.2.1⟩
theorem ideal_SameAnswer_ok : OkC Tryz.prog tab ideal_SameAnswer_ct := fn_ok (W := ⟨Tryz.prog, tab, tyOf, [row_Same_ct], addO, dpO, false⟩) ⟨tabOk, ⟨row_Same_ok, trivial⟩, addOk⟩ (by kernel_rfl) 24 Tryz.f30 (.n) Tryz.func30 Tryz.call30 rfl (by kernel_rfl) (by kernel_rfl) (by kernel_rfl) fun n x => by kernel_rfl

/-! bursary bursarylaw19.overList -/
def law19_overList_l1 (n : Nat) : Nat → (List Row) × Int × Int × Unit → Option Bool := loopF fun r1 ⟨v1, v2, v3, _⟩ =>
    cond (decide (v3 < v2))
      ((idx v1 v3).bind fun x4 =>
      cond (decide ((x4.note.size : Int) > 100))
        (some true)
        (r1 (v1, v2, (IntKind.wrap .i64 (v3 + 1)), ())))
      (some false)
def law19_overList (n : Nat) (p0 : List Row) : Option Bool :=
  cond (decide ((p0.length : Int) > 100))
    (some true)
    (law19_overList_l1 n n (p0, (p0.length : Int), 0, ()))
@[reducible] def law19_overList_ct : Ct tab := ⟨25, [.one (.d (.sl (.st 9)))], [], [.one (.d .bool)], [], Bool, fun y => (y, ()), fun y => y.1, fun _ => rfl, fun n x => law19_overList n x.1⟩
theorem law19_overList_ok : OkC Tryz.prog tab law19_overList_ct := fn_ok (W := ⟨Tryz.prog, tab, tyOf, [], addO, dpO, false⟩) ⟨tabOk, trivial, addOk⟩ (by kernel_rfl) 19 Tryz.f25 (.sq (.n) (.sq (.n) (.sq (.sq (.n) (.bk none (.lp ⟨[(8, .one (.d (.sl (.st 9)))), (9, .one (.d (.int .i64))), (10, .one (.d (.int .i64)))], [], []⟩ (.n)))) (.n)))) Tryz.func25 Tryz.call25 rfl (by kernel_rfl) (by kernel_rfl) (by kernel_rfl) fun n x => by kernel_rfl

/-! bursary bursarylaw19.RequestOwn -/
/-! bursary bursarylaw19.resources -/
def law19_resources (n : Nat) (p0 : Request) (p1 : Answer) : Option Bool :=
  jn (fun (b1 : Bool) =>
      some b1) fun k2 =>
  cond (p1.err == 6)
    (k2 true)
    (jn (fun (b3 : Bool) =>
        k2 b3) fun k4 =>
    cond (p1.err == 152)
      ((request_Blind n p0).bind fun y5 =>
      k4 y5)
      (k4 false))
@[reducible] def law19_resources_ct : Ct tab := ⟨31, [.st 3, .st 11], [], [.one (.d .bool)], [], Bool, fun y => (y, ()), fun y => y.1, fun _ => rfl, fun n x => law19_resources n x.1 x.2.1⟩
theorem law19_resources_ok : OkC Tryz.prog tab law19_resources_ct := fn_ok (W := ⟨Tryz.prog, tab, tyOf, [request_Blind_ct], addO, dpO, false⟩) ⟨tabOk, ⟨request_Blind_ok, trivial⟩, addOk⟩ (by kernel_rfl) 17 Tryz.f31 (.n) Tryz.func31 Tryz.call31 rfl (by kernel_rfl) (by kernel_rfl) (by kernel_rfl) fun n x => by kernel_rfl

/-! bursary bursarylaw19.RequestTogether -/
def law19_RequestTogether (n : Nat) (p0 : Schema) (p1 : List Row) (p2 : Arr2_Request) : Option Bool :=
  (law19_wakes n).bind fun y1 =>
  cond (!y1)
    (some false)
    ((law19_over n p0 ([p2.a0, p2.a1] : List Request)).bind fun y2 =>
    jn (fun (b3 : Bool) =>
        jn (fun (b5 : Bool) =>
            cond b5
              (some true)
              ((request_Together n p0 p2.a0 p2.a1).bind fun y7 =>
              jn (fun (b8 : Bool) =>
                  jn (fun (b10 : Bool) =>
                      jn (fun (b12 : Bool) =>
                          cond b12
                            (some true)
                            ((ideal_Do n p0 p1 p2.a0).bind fun y14 =>
                            (ideal_Do n p0 y14.2 p2.a1).bind fun y15 =>
                            (ideal_Do n p0 p1 p2.a1).bind fun y16 =>
                            (ideal_Do n p0 y16.2 p2.a0).bind fun y17 =>
                            (law19_resources n p2.a0 y14.1).bind fun y18 =>
                            jn (fun (b19 : Bool) =>
                                jn (fun (b21 : Bool) =>
                                    jn (fun (b23 : Bool) =>
                                        cond b23
                                          (some true)
                                          ((ideal_SameAnswer n y14.1 y17.1).bind fun y25 =>
                                          jn (fun (b26 : Bool) =>
                                              jn (fun (b28 : Bool) =>
                                                  some b28) fun k29 =>
                                              cond b26
                                                ((row_Same n y15.2 y17.2).bind fun y30 =>
                                                k29 y30)
                                                (k29 false)) fun k27 =>
                                          cond y25
                                            ((ideal_SameAnswer n y15.1 y16.1).bind fun y31 =>
                                            k27 y31)
                                            (k27 false))) fun k24 =>
                                    cond b21
                                      (k24 true)
                                      ((law19_resources n p2.a0 y17.1).bind fun y32 =>
                                      k24 y32)) fun k22 =>
                                cond b19
                                  (k22 true)
                                  ((law19_resources n p2.a1 y16.1).bind fun y33 =>
                                  k22 y33)) fun k20 =>
                            cond y18
                              (k20 true)
                              ((law19_resources n p2.a1 y15.1).bind fun y34 =>
                              k20 y34))) fun k13 =>
                      cond b10
                        (k13 true)
                        (k13 (decide (p2.a1.kind > 8)))) fun k11 =>
                  cond b8
                    (k11 true)
                    (k11 (decide (p2.a0.kind > 8)))) fun k9 =>
              cond (y7.2 != 0)
                (k9 true)
                (k9 (!y7.1)))) fun k6 =>
        cond b3
          (k6 true)
          ((row_CheckList n p0 p1).bind fun y35 =>
          k6 (y35 != 0))) fun k4 =>
    cond y2
      (k4 true)
      ((law19_overList n p1).bind fun y36 =>
      k4 y36))
@[reducible] def law19_RequestTogether_ct : Ct tab := ⟨8, [.st 1, .one (.d (.sl (.st 9))), .st 13], [], [.one (.d .bool)], [], Bool, fun y => (y, ()), fun y => y.1, fun _ => rfl, fun n x => law19_RequestTogether n x.1 x.2.1 x.2.2.1⟩
theorem law19_RequestTogether_ok : OkC Tryz.prog tab law19_RequestTogether_ct := fn_ok (W := ⟨Tryz.prog, tab, tyOf, [law19_wakes_ct, law19_over_ct, request_Together_ct, ideal_Do_ct, law19_resources_ct, ideal_SameAnswer_ct, row_Same_ct, row_CheckList_ct, law19_overList_ct], addO, dpO, false⟩) ⟨tabOk, ⟨law19_wakes_ok, law19_over_ok, request_Together_ok, ideal_Do_ok, law19_resources_ok, ideal_SameAnswer_ok, row_Same_ok, row_CheckList_ok, law19_overList_ok, trivial⟩, addOk⟩ (by kernel_rfl) 122 Tryz.f8 (.n) Tryz.func8 Tryz.call8 rfl (by kernel_rfl) (by kernel_rfl) (by kernel_rfl) fun n x => by kernel_rfl

end
end Go.Proofs.YtlfjoaipbpendaaGreatDoor
