/- Functions of the program: plain twins and their contracts, printed by program. -/
import Derived.Test.YtlfjoaipbpendaaGreatDoorTypes
import Derived.Test.YtlfjoaipbpendaaGreatDoorF1
namespace Go.Proofs.YtlfjoaipbpendaaGreatDoor
open Go Go.Bur Go.RowKit
set_option linter.unusedVariables false
set_option linter.unusedSimpArgs false
set_option maxRecDepth 100000
noncomputable section
/-! bursary row.Find 1 -/
def row_Find_1 (n : Nat) (p0 : Row) (p1 : Key) : Option Bool :=
  some (Key.eqb p0.key p1)
@[reducible] def row_Find_1_ct : Ct tab := ⟨66, [.st 9, .one (.ro (.st 2))], [], [.one (.d .bool)], [], Bool, fun y => (y, ()), fun y => y.1, fun _ => rfl, fun n x => row_Find_1 n x.1 x.2.1⟩
theorem row_Find_1_ok : OkC Tryz.prog tab row_Find_1_ct := fn_ok (W := ⟨Tryz.prog, tab, tyOf, [], addO, dpO, false⟩) ⟨tabOk, trivial, addOk⟩ (by kernel_rfl) 8 Tryz.f66 (.n) Tryz.func66 Tryz.call66 rfl (by kernel_rfl) (by kernel_rfl) (by kernel_rfl) fun n x => by kernel_rfl

/-! slices.IndexFunc   bursary api.Row bursary api.Row  -/
def slices_IndexFunc_Row_f66_l1 (n : Nat) : Nat → (List Row) × Key × Int × Int × Unit → Option Int := loopF fun r1 ⟨v1, v2, v3, v4, _⟩ =>
    cond (decide (v4 < v3))
      ((idx v1 v4).bind fun x5 =>
      (row_Find_1 n x5 v2).bind fun y6 =>
      cond y6
        (some v4)
        (r1 (v1, v2, v3, (IntKind.wrap .i64 (v4 + 1)), ())))
      (some (-1))
def slices_IndexFunc_Row_f66 (n : Nat) (p0 : List Row) (p1 : Key) : Option Int :=
  slices_IndexFunc_Row_f66_l1 n n (p0, p1, (p0.length : Int), 0, ())
@[reducible] def slices_IndexFunc_Row_f66_ct : Ct tab := ⟨65, [.one (.d (.sl (.st 9))), .one (.fn 66 [.ro (.st 2)])], [], [.one (.d (.int .i64))], [], Int, fun y => (y, ()), fun y => y.1, fun _ => rfl, fun n x => slices_IndexFunc_Row_f66 n x.1 x.2.1⟩
theorem slices_IndexFunc_Row_f66_ok : OkC Tryz.prog tab slices_IndexFunc_Row_f66_ct := fn_ok (W := ⟨Tryz.prog, tab, tyOf, [row_Find_1_ct], addO, dpO, false⟩) ⟨tabOk, ⟨row_Find_1_ok, trivial⟩, addOk⟩ (by kernel_rfl) 19 Tryz.f65 (.sq (.n) (.sq (.sq (.n) (.bk none (.lp ⟨[(0, .one (.d (.sl (.st 9)))), (1, .one (.fn 66 [.ro (.st 2)])), (7, .one (.d (.int .i64))), (8, .one (.d (.int .i64)))], [], []⟩ (.n)))) (.n))) Tryz.func65 Tryz.call65 rfl (by kernel_rfl) (by kernel_rfl) (by kernel_rfl) fun n x => by kernel_rfl

/-! bursary row.Find -/
def row_Find (n : Nat) (p0 : List Row) (p1 : Key) : Option (Int × Bool) :=
  (slices_IndexFunc_Row_f66 n p0 p1).bind fun y1 =>
  some ((if 0 > y1 then 0 else y1), (decide (y1 ≥ 0)))
@[reducible] def row_Find_ct : Ct tab := ⟨28, [.one (.d (.sl (.st 9))), .st 2], [], [.one (.d (.int .i64)), .one (.d .bool)], [], (Int × Bool), fun y => (y.1, y.2, ()), fun y => (y.1, y.2.1), fun _ => rfl, fun n x => row_Find n x.1 x.2.1⟩
theorem row_Find_ok : OkC Tryz.prog tab row_Find_ct := fn_ok (W := ⟨Tryz.prog, tab, tyOf, [slices_IndexFunc_Row_f66_ct], addO, dpO, false⟩) ⟨tabOk, ⟨slices_IndexFunc_Row_f66_ok, trivial⟩, addOk⟩ (by kernel_rfl) 14 Tryz.f28 (.n) Tryz.func28 Tryz.call28 rfl (by kernel_rfl) (by kernel_rfl) (by kernel_rfl) fun n x => by kernel_rfl

/-!   bursary ideal.turn .found -/
def ideal_turn_found_f109 (n : Nat) (p1 : Key) (q0_0 : List Bounds) (q0_1 : Int) (q0_2 : Int) (q0_3 : Int) (q0_4 : Int) (q0_5 : Int) (q0_6 : Int) (q0_7 : ByteArray) (q0_8 : Int) (q1 : List Row) : Option (Answer × (List Bounds) × Int × Int × Int × Int × Int × Int × ByteArray × Int × (List Row)) :=
  (row_Find n q1 p1).bind fun y1 =>
  cond (!y1.2)
    (some ((Answer.mk 4 ([] : List Row) 0), q0_0, q0_1, q0_2, q0_3, q0_4, q0_5, q0_6, q0_7, q0_8, q1))
    ((ideal_turn_read_1 n y1.1 q0_0 q0_1 q0_2 q0_3 q0_4 q0_5 q0_6 q0_7 q0_8 q1).bind fun y2 =>
    some (y2.1, y2.2.1, y2.2.2.1, y2.2.2.2.1, y2.2.2.2.2.1, y2.2.2.2.2.2.1, y2.2.2.2.2.2.2.1, y2.2.2.2.2.2.2.2.1, y2.2.2.2.2.2.2.2.2.1, y2.2.2.2.2.2.2.2.2.2.1, y2.2.2.2.2.2.2.2.2.2.2))
@[reducible] def ideal_turn_found_f109_ct : Ct tab := ⟨108, [.one (.box 0 0), .st 2, .one (.fn 109 [.bx 2])], [.box [.d (.sl (.st 0)), .own 1, .d (.int .i64), .d (.int .i64), .d (.int .u16), .d (.int .i64), .d (.int .u16), .d (.int .i64), .d .str, .d (.int .i64)], .row 67 (.st 9), .box [.box 0 0]], [.st 11], [(some 0, .box [.d (.sl (.st 0)), .own 2, .d (.int .i64), .d (.int .i64), .d (.int .u16), .d (.int .i64), .d (.int .u16), .d (.int .i64), .d .str, .d (.int .i64)]), (some 2, .box [.box 0 0]), (none, .row 67 (.st 9))], (Answer × (List Bounds) × Int × Int × Int × Int × Int × Int × ByteArray × Int × (List Row)), fun y => (y.1, y.2.1, y.2.2.1, y.2.2.2.1, y.2.2.2.2.1, y.2.2.2.2.2.1, y.2.2.2.2.2.2.1, y.2.2.2.2.2.2.2.1, y.2.2.2.2.2.2.2.2.1, y.2.2.2.2.2.2.2.2.2.1, y.2.2.2.2.2.2.2.2.2.2, ()), fun y => (y.1, y.2.1, y.2.2.1, y.2.2.2.1, y.2.2.2.2.1, y.2.2.2.2.2.1, y.2.2.2.2.2.2.1, y.2.2.2.2.2.2.2.1, y.2.2.2.2.2.2.2.2.1, y.2.2.2.2.2.2.2.2.2.1, y.2.2.2.2.2.2.2.2.2.2.1), fun _ => rfl, fun n x => ideal_turn_found_f109 n x.1 x.2.1 x.2.2.1 x.2.2.2.1 x.2.2.2.2.1 x.2.2.2.2.2.1 x.2.2.2.2.2.2.1 x.2.2.2.2.2.2.2.1 x.2.2.2.2.2.2.2.2.1 x.2.2.2.2.2.2.2.2.2.1 x.2.2.2.2.2.2.2.2.2.2.1⟩
theorem ideal_turn_found_f109_ok : OkC Tryz.prog tab ideal_turn_found_f109_ct := fn_ok (W := ⟨Tryz.prog, tab, tyOf, [row_Find_ct, ideal_turn_read_1_ct], addO, dpO, false⟩) ⟨tabOk, ⟨row_Find_ok, ideal_turn_read_1_ok, trivial⟩, addOk⟩ (by kernel_rfl) 24 Tryz.f108 (.n) Tryz.func108 Tryz.call108 rfl (by kernel_rfl) (by kernel_rfl) (by kernel_rfl) fun n x => by kernel_rfl

/-!   bursary ideal.turn .read -/
def ideal_turn_read (n : Nat) (q0_0 : List Bounds) (q0_1 : Int) (q0_2 : Int) (q0_3 : Int) (q0_4 : Int) (q0_5 : Int) (q0_6 : Int) (q0_7 : ByteArray) (q0_8 : Int) (q1 : List Row) : Option (Answer × (List Bounds) × Int × Int × Int × Int × Int × Int × ByteArray × Int × (List Row)) :=
  (ideal_turn_found_f109 n (Key.mk q0_2 q0_3) q0_0 q0_1 q0_2 q0_3 q0_4 q0_5 q0_6 q0_7 q0_8 q1).bind fun y1 =>
  some (y1.1, y1.2.1, y1.2.2.1, y1.2.2.2.1, y1.2.2.2.2.1, y1.2.2.2.2.2.1, y1.2.2.2.2.2.2.1, y1.2.2.2.2.2.2.2.1, y1.2.2.2.2.2.2.2.2.1, y1.2.2.2.2.2.2.2.2.2.1, y1.2.2.2.2.2.2.2.2.2.2)
@[reducible] def ideal_turn_read_ct : Ct tab := ⟨89, [.one (.box 0 0)], [.box [.d (.sl (.st 0)), .own 1, .d (.int .i64), .d (.int .i64), .d (.int .u16), .d (.int .i64), .d (.int .u16), .d (.int .i64), .d .str, .d (.int .i64)], .row 67 (.st 9)], [.st 11], [(some 0, .box [.d (.sl (.st 0)), .own 1, .d (.int .i64), .d (.int .i64), .d (.int .u16), .d (.int .i64), .d (.int .u16), .d (.int .i64), .d .str, .d (.int .i64)]), (none, .row 67 (.st 9))], (Answer × (List Bounds) × Int × Int × Int × Int × Int × Int × ByteArray × Int × (List Row)), fun y => (y.1, y.2.1, y.2.2.1, y.2.2.2.1, y.2.2.2.2.1, y.2.2.2.2.2.1, y.2.2.2.2.2.2.1, y.2.2.2.2.2.2.2.1, y.2.2.2.2.2.2.2.2.1, y.2.2.2.2.2.2.2.2.2.1, y.2.2.2.2.2.2.2.2.2.2, ()), fun y => (y.1, y.2.1, y.2.2.1, y.2.2.2.1, y.2.2.2.2.1, y.2.2.2.2.2.1, y.2.2.2.2.2.2.1, y.2.2.2.2.2.2.2.1, y.2.2.2.2.2.2.2.2.1, y.2.2.2.2.2.2.2.2.2.1, y.2.2.2.2.2.2.2.2.2.2.1), fun _ => rfl, fun n x => ideal_turn_read n x.1 x.2.1 x.2.2.1 x.2.2.2.1 x.2.2.2.2.1 x.2.2.2.2.2.1 x.2.2.2.2.2.2.1 x.2.2.2.2.2.2.2.1 x.2.2.2.2.2.2.2.2.1 x.2.2.2.2.2.2.2.2.2.1⟩
theorem ideal_turn_read_ok : OkC Tryz.prog tab ideal_turn_read_ct := fn_ok (W := ⟨Tryz.prog, tab, tyOf, [ideal_turn_found_f109_ct], addO, dpO, false⟩) ⟨tabOk, ⟨ideal_turn_found_f109_ok, trivial⟩, addOk⟩ (by kernel_rfl) 11 Tryz.f89 (.n) Tryz.func89 Tryz.call89 rfl (by kernel_rfl) (by kernel_rfl) (by kernel_rfl) fun n x => by kernel_rfl

/-! bursary row.Of -/
def row_Of_j2 (n : Nat) (r1 : Int × (List Row) × Int × Int × (List Row) × Unit → Option ((List Row))) : Int × (List Row) × Int × Int × (List Row) × Unit → Option ((List Row)) := fun ⟨v8, v9, v10, v11, v12, _⟩ =>
    r1 (v8, v9, v10, (IntKind.wrap .i64 (v11 + 1)), v12, ())
def row_Of_l1 (n : Nat) : Nat → Int × (List Row) × Int × Int × (List Row) × Unit → Option ((List Row)) := loopF fun r1 ⟨v1, v2, v3, v4, v5, _⟩ =>
    cond (decide (v4 < v3))
      ((idx v2 v4).bind fun x6 =>
      jn (row_Of_j2 n r1) fun j2 =>
      cond (x6.key.table == v1)
        ((app 40 v5 ([x6] : List Row)).bind fun l13 =>
        j2 (v1, v2, v3, v4, l13, ()))
        (j2 (v1, v2, v3, v4, v5, ())))
      (some v5)
def row_Of (n : Nat) (p0 : List Row) (p1 : Int) : Option ((List Row)) :=
  row_Of_l1 n n (p1, p0, (p0.length : Int), 0, ([] : List Row), ())
@[reducible] def row_Of_ct : Ct tab := ⟨110, [.one (.d (.sl (.st 9))), .one (.d (.int .i64))], [], [.one (.own 0)], [(none, .row 67 (.st 9))], ((List Row)), fun y => (y, ()), fun y => y.1, fun _ => rfl, fun n x => row_Of n x.1 x.2.1⟩
theorem row_Of_ok : OkC Tryz.prog tab row_Of_ct := fn_ok (W := ⟨Tryz.prog, tab, tyOf, [], addO, dpO, false⟩) ⟨tabOk, trivial, addOk⟩ (by kernel_rfl) 25 Tryz.f110 (.sq (.n) (.sq (.n) (.sq (.sq (.n) (.bk none (.lp ⟨[(1, .one (.d (.int .i64))), (5, .one (.own 0)), (8, .one (.d (.sl (.st 9)))), (9, .one (.d (.int .i64))), (10, .one (.d (.int .i64)))], [.row 67 (.st 9)], []⟩ (.sq (.n) (.sq (.n) (.sq (.bk none (.sq (.n) (.sq (.n) (.cd (some ⟨[(1, .one (.d (.int .i64))), (5, .one (.own 0)), (8, .one (.d (.sl (.st 9)))), (9, .one (.d (.int .i64))), (10, .one (.d (.int .i64)))], [.row 67 (.st 9)], []⟩) (.n) (.n))))) (.n))))))) (.n)))) Tryz.func110 Tryz.call110 rfl (by kernel_rfl) (by kernel_rfl) (by kernel_rfl) fun n x => by kernel_rfl

/-!   bursary ideal.turn .scan -/
def ideal_turn_scan (n : Nat) (q0_0 : List Bounds) (q0_1 : Int) (q0_2 : Int) (q0_3 : Int) (q0_4 : Int) (q0_5 : Int) (q0_6 : Int) (q0_7 : ByteArray) (q0_8 : Int) (q1 : List Row) : Option (Answer × (List Bounds) × Int × Int × Int × Int × Int × Int × ByteArray × Int × (List Row)) :=
  (row_Of n q1 q0_2).bind fun y1 =>
  some ((Answer.mk 0 y1 0), q0_0, q0_1, q0_2, q0_3, q0_4, q0_5, q0_6, q0_7, q0_8, q1)
@[reducible] def ideal_turn_scan_ct : Ct tab := ⟨90, [.one (.box 0 0)], [.box [.d (.sl (.st 0)), .own 1, .d (.int .i64), .d (.int .i64), .d (.int .u16), .d (.int .i64), .d (.int .u16), .d (.int .i64), .d .str, .d (.int .i64)], .row 67 (.st 9)], [.st 11], [(some 0, .box [.d (.sl (.st 0)), .own 1, .d (.int .i64), .d (.int .i64), .d (.int .u16), .d (.int .i64), .d (.int .u16), .d (.int .i64), .d .str, .d (.int .i64)]), (none, .row 67 (.st 9))], (Answer × (List Bounds) × Int × Int × Int × Int × Int × Int × ByteArray × Int × (List Row)), fun y => (y.1, y.2.1, y.2.2.1, y.2.2.2.1, y.2.2.2.2.1, y.2.2.2.2.2.1, y.2.2.2.2.2.2.1, y.2.2.2.2.2.2.2.1, y.2.2.2.2.2.2.2.2.1, y.2.2.2.2.2.2.2.2.2.1, y.2.2.2.2.2.2.2.2.2.2, ()), fun y => (y.1, y.2.1, y.2.2.1, y.2.2.2.1, y.2.2.2.2.1, y.2.2.2.2.2.1, y.2.2.2.2.2.2.1, y.2.2.2.2.2.2.2.1, y.2.2.2.2.2.2.2.2.1, y.2.2.2.2.2.2.2.2.2.1, y.2.2.2.2.2.2.2.2.2.2.1), fun _ => rfl, fun n x => ideal_turn_scan n x.1 x.2.1 x.2.2.1 x.2.2.2.1 x.2.2.2.2.1 x.2.2.2.2.2.1 x.2.2.2.2.2.2.1 x.2.2.2.2.2.2.2.1 x.2.2.2.2.2.2.2.2.1 x.2.2.2.2.2.2.2.2.2.1⟩
theorem ideal_turn_scan_ok : OkC Tryz.prog tab ideal_turn_scan_ct := fn_ok (W := ⟨Tryz.prog, tab, tyOf, [row_Of_ct], addO, dpO, false⟩) ⟨tabOk, ⟨row_Of_ok, trivial⟩, addOk⟩ (by kernel_rfl) 15 Tryz.f90 (.n) Tryz.func90 Tryz.call90 rfl (by kernel_rfl) (by kernel_rfl) (by kernel_rfl) fun n x => by kernel_rfl

/-!   bursary ideal.turn .fits -/
def ideal_turn_fits (n : Nat) (p1 : Key) (p2 : Int) (q0_0 : List Bounds) (q0_1 : Int) (q0_2 : Int) (q0_3 : Int) (q0_4 : Int) (q0_5 : Int) (q0_6 : Int) (q0_7 : ByteArray) (q0_8 : Int) (q1 : List Row) : Option (Bool × (List Bounds) × Int × Int × Int × Int × Int × Int × ByteArray × Int × (List Row)) :=
  (idx q0_0 p1.table).bind fun x1 =>
  jn (fun (b2 : Bool) =>
      some (b2, q0_0, q0_1, q0_2, q0_3, q0_4, q0_5, q0_6, q0_7, q0_8, q1)) fun k3 =>
  cond (decide (p2 ≥ x1.min))
    (k3 (decide (p2 ≤ x1.max)))
    (k3 false)
@[reducible] def ideal_turn_fits_ct : Ct tab := ⟨111, [.one (.box 0 0), .st 2, .one (.d (.int .i64))], [.box [.d (.sl (.st 0)), .own 1, .d (.int .i64), .d (.int .i64), .d (.int .u16), .d (.int .i64), .d (.int .u16), .d (.int .i64), .d .str, .d (.int .i64)], .row 67 (.st 9)], [.one (.d .bool)], [(some 0, .box [.d (.sl (.st 0)), .own 1, .d (.int .i64), .d (.int .i64), .d (.int .u16), .d (.int .i64), .d (.int .u16), .d (.int .i64), .d .str, .d (.int .i64)]), (none, .row 67 (.st 9))], (Bool × (List Bounds) × Int × Int × Int × Int × Int × Int × ByteArray × Int × (List Row)), fun y => (y.1, y.2.1, y.2.2.1, y.2.2.2.1, y.2.2.2.2.1, y.2.2.2.2.2.1, y.2.2.2.2.2.2.1, y.2.2.2.2.2.2.2.1, y.2.2.2.2.2.2.2.2.1, y.2.2.2.2.2.2.2.2.2.1, y.2.2.2.2.2.2.2.2.2.2, ()), fun y => (y.1, y.2.1, y.2.2.1, y.2.2.2.1, y.2.2.2.2.1, y.2.2.2.2.2.1, y.2.2.2.2.2.2.1, y.2.2.2.2.2.2.2.1, y.2.2.2.2.2.2.2.2.1, y.2.2.2.2.2.2.2.2.2.1, y.2.2.2.2.2.2.2.2.2.2.1), fun _ => rfl, fun n x => ideal_turn_fits n x.1 x.2.1 x.2.2.1 x.2.2.2.1 x.2.2.2.2.1 x.2.2.2.2.2.1 x.2.2.2.2.2.2.1 x.2.2.2.2.2.2.2.1 x.2.2.2.2.2.2.2.2.1 x.2.2.2.2.2.2.2.2.2.1 x.2.2.2.2.2.2.2.2.2.2.1 x.2.2.2.2.2.2.2.2.2.2.2.1⟩
theorem ideal_turn_fits_ok : OkC Tryz.prog tab ideal_turn_fits_ct := fn_ok (W := ⟨Tryz.prog, tab, tyOf, [], addO, dpO, false⟩) ⟨tabOk, trivial, addOk⟩ (by kernel_rfl) 27 Tryz.f111 (.n) Tryz.func111 Tryz.call111 rfl (by kernel_rfl) (by kernel_rfl) (by kernel_rfl) fun n x => by kernel_rfl

/-! bursary row.place 1 -/
def row_place_1 (n : Nat) (p0 : Row) (p1 : Key) : Option Int :=
  (row_Compare n p0.key p1).bind fun y1 =>
  some y1
@[reducible] def row_place_1_ct : Ct tab := ⟨164, [.st 9, .st 2], [], [.one (.d (.int .i64))], [], Int, fun y => (y, ()), fun y => y.1, fun _ => rfl, fun n x => row_place_1 n x.1 x.2.1⟩
theorem row_place_1_ok : OkC Tryz.prog tab row_place_1_ct := fn_ok (W := ⟨Tryz.prog, tab, tyOf, [row_Compare_ct], addO, dpO, false⟩) ⟨tabOk, ⟨row_Compare_ok, trivial⟩, addOk⟩ (by kernel_rfl) 9 Tryz.f164 (.n) Tryz.func164 Tryz.call164 rfl (by kernel_rfl) (by kernel_rfl) (by kernel_rfl) fun n x => by kernel_rfl

/-! slices.BinarySearchFunc   bursary api.Row bursary api.Row bursary api.Key  -/
def slices_BinarySearchFunc_Key_f164_j2 (n : Nat) (r1 : (List Row) × Int × Int × Int × Key × Unit → Option (Int × Bool)) : (List Row) × Int × Int × Int × Key × Unit → Option (Int × Bool) := fun ⟨v9, v10, v11, v12, v13, _⟩ =>
    r1 (v9, v10, v11, v12, v13, ())
def slices_BinarySearchFunc_Key_f164_l1 (n : Nat) : Nat → (List Row) × Int × Int × Int × Key × Unit → Option (Int × Bool) := loopF fun r1 ⟨v1, v2, v3, v4, v5, _⟩ =>
    cond (decide (v3 < v4))
      ((shrP .u64 (IntKind.wrap .u64 (IntKind.wrap .i64 (v3 + v4))) 1).bind fun z6 =>
      (idx v1 (IntKind.wrap .i64 z6)).bind fun x7 =>
      (row_place_1 n x7 v5).bind fun y8 =>
      jn (slices_BinarySearchFunc_Key_f164_j2 n r1) fun j2 =>
      cond (decide (y8 < 0))
        (j2 (v1, v2, (IntKind.wrap .i64 ((IntKind.wrap .i64 z6) + 1)), v4, v5, ()))
        (j2 (v1, v2, v3, (IntKind.wrap .i64 z6), v5, ())))
      (jn (fun (b14 : Bool) =>
          some (v3, b14)) fun k15 =>
      cond (decide (v3 < v2))
        ((idx v1 v3).bind fun x16 =>
        (row_place_1 n x16 v5).bind fun y17 =>
        k15 (y17 == 0))
        (k15 false))
def slices_BinarySearchFunc_Key_f164 (n : Nat) (p0 : List Row) (p1 : Key) : Option (Int × Bool) :=
  slices_BinarySearchFunc_Key_f164_l1 n n (p0, (p0.length : Int), 0, (p0.length : Int), p1, ())
@[reducible] def slices_BinarySearchFunc_Key_f164_ct : Ct tab := ⟨163, [.one (.d (.sl (.st 9))), .st 2, .one (.fn 164 [])], [], [.one (.d (.int .i64)), .one (.d .bool)], [], (Int × Bool), fun y => (y.1, y.2, ()), fun y => (y.1, y.2.1), fun _ => rfl, fun n x => slices_BinarySearchFunc_Key_f164 n x.1 x.2.1⟩
theorem slices_BinarySearchFunc_Key_f164_ok : OkC Tryz.prog tab slices_BinarySearchFunc_Key_f164_ct := fn_ok (W := ⟨Tryz.prog, tab, tyOf, [row_place_1_ct], addO, dpO, false⟩) ⟨tabOk, ⟨row_place_1_ok, trivial⟩, addOk⟩ (by kernel_rfl) 49 Tryz.f163 (.sq (.n) (.sq (.n) (.sq (.n) (.sq (.bk none (.lp ⟨[(0, .one (.d (.sl (.st 9)))), (2, .one (.fn 164 [])), (4, .one (.box 0 0)), (8, .one (.d (.int .i64))), (9, .one (.d (.int .i64))), (10, .one (.d (.int .i64)))], [.bst 2], []⟩ (.sq (.n) (.bk none (.sq (.n) (.sq (.n) (.cd (some ⟨[(0, .one (.d (.sl (.st 9)))), (2, .one (.fn 164 [])), (4, .one (.box 0 0)), (8, .one (.d (.int .i64))), (9, .one (.d (.int .i64))), (10, .one (.d (.int .i64)))], [.bst 2], []⟩) (.n) (.n)))))))) (.n))))) Tryz.func163 Tryz.call163 rfl (by kernel_rfl) (by kernel_rfl) (by kernel_rfl) fun n x => by kernel_rfl

/-! bursary row.place -/
def row_place (n : Nat) (p0 : List Row) (p1 : Key) : Option (Int × Bool) :=
  (slices_BinarySearchFunc_Key_f164 n p0 p1).bind fun y1 =>
  some (y1.1, y1.2)
@[reducible] def row_place_ct : Ct tab := ⟨140, [.one (.d (.sl (.st 9))), .st 2], [], [.one (.d (.int .i64)), .one (.d .bool)], [], (Int × Bool), fun y => (y.1, y.2, ()), fun y => (y.1, y.2.1), fun _ => rfl, fun n x => row_place n x.1 x.2.1⟩
theorem row_place_ok : OkC Tryz.prog tab row_place_ct := fn_ok (W := ⟨Tryz.prog, tab, tyOf, [slices_BinarySearchFunc_Key_f164_ct], addO, dpO, false⟩) ⟨tabOk, ⟨slices_BinarySearchFunc_Key_f164_ok, trivial⟩, addOk⟩ (by kernel_rfl) 11 Tryz.f140 (.n) Tryz.func140 Tryz.call140 rfl (by kernel_rfl) (by kernel_rfl) (by kernel_rfl) fun n x => by kernel_rfl

theorem slices_Insert_Row_raw {a0 : Option Addr} {c0 : Nat} {a2 : Option Addr} {c2 : Nat} (p0 : List (Raw 4)) (p1 : Int) (p2 : List (Raw 4)) (r : List (Raw 4)) (h : insL 40 p0 p1 p2 = some r) :
    Meets Tryz.prog 141 #[.slice a0 p0.length c0, .int .i64 p1, .slice a2 p2.length c2] [rowF (rawF 4) 67 a0 c0 p0, rowF (rawF 4) 67 a2 c2 p2] [] fun v A P => ∃ (a : Option Addr) (c : Nat), v = .slice a r.length c ∧ A = [rowF (rawF 4) 67 a c r] ∧ P = [] := by
  unfold insL at h
  split at h
  case isFalse => cases h
  rename_i hb
  obtain ⟨hb0, hb1⟩ := hb
  obtain ⟨i, hi⟩ : ∃ i : Nat, p1 = (i : Int) := ⟨p1.toNat, by omega⟩
  subst hi
  simp only [Int.toNat_natCast] at h
  have hil : i ≤ p0.length := by omega
  split at h
  case h_2 => cases h
  rename_i hroom
  have hr := someI h
  have hrl : r.length = p0.length + p2.length := by rw [← hr]; simp; omega
  have hbytes : (p0.length + p2.length) * 40 ≤ 140737488355328 := Nat.le_of_ble_eq_true hroom
  have hsm : p0.length + p2.length < 9223372036854775808 := by omega
  refine meets_enter 95 Tryz.func141 Tryz.call141 rfl (by kernel_rfl) (by simp) fun C a w hS => ?_
  have hc : p0.length ≤ c0 := (row_len (hS.st.own _ (List.mem_cons_self ..))).2.1
  refine k_seq (by kernel_rfl) fun K1 hK1 => ?_
  refine k_reg 1 (by kernel_rfl) ?_
  refine r_run 0 1 [0, 1, 2] [] hS rfl (L' := [(0, .slice a0 p0.length c0), (1, .int .i64 i), (2, .slice a2 p2.length c2)]) (As' := [rowF (rawF 4) 67 a0 c0 p0, rowF (rawF 4) 67 a2 c2 p2]) (ob := []) (by kernel_rfl) trivial fun a w hS => ?_
  refine wl_end ?_
  refine hK1 _ _ ?_
  refine k_seq (by kernel_rfl) fun K2 hK2 => ?_
  refine k_reg 3 (by kernel_rfl) ?_
  refine r_run 0 3 [0, 1, 2] [] hS rfl (L' := [(0, .slice a0 p0.length c0), (1, .int .i64 i), (2, .slice a2 p2.length c2)]) (As' := [rowF (rawF 4) 67 a0 c0 p0, rowF (rawF 4) 67 a2 c2 p2]) (ob := [fun _ => 0 ≤ (i : Int) ∧ (i : Int) ≤ (p0.length : Int) ∧ (p0.length : Int) ≤ (c0 : Int)]) (by kernel_rfl) ⟨Bx.c ⟨hb0, hb1, by omega⟩, trivial⟩ fun a w hS => ?_
  refine wl_end ?_
  refine hK2 _ _ ?_
  refine k_seq (by kernel_rfl) fun K3 hK3 => ?_
  refine k_reg 3 (by kernel_rfl) ?_
  refine r_run 0 3 [0, 1, 2, 7] [] hS rfl (L' := [(0, .slice a0 p0.length c0), (1, .int .i64 i), (2, .slice a2 p2.length c2), (7, .int .i64 (p2.length : Int))]) (As' := [rowF (rawF 4) 67 a0 c0 p0, rowF (rawF 4) 67 a2 c2 p2]) (ob := []) (by kernel_rfl) trivial fun a w hS => ?_
  refine wl_end ?_
  refine hK3 _ _ ?_
  refine k_seq (by kernel_rfl) fun K4 hK4 => ?_
  refine k_seq (by kernel_rfl) fun K5 hK5 => ?_
  refine k_reg 2 (by kernel_rfl) ?_
  refine r_run 0 2 [0, 1, 2, 7, 16] [] hS rfl (L' := [(0, .slice a0 p0.length c0), (1, .int .i64 i), (2, .slice a2 p2.length c2), (7, .int .i64 (p2.length : Int)), (16, .bool ((p2.length : Int) == 0))]) (As' := [rowF (rawF 4) 67 a0 c0 p0, rowF (rawF 4) 67 a2 c2 p2]) (ob := []) (by kernel_rfl) trivial fun a w hS => ?_
  refine wl_end ?_
  refine hK5 _ _ ?_
  refine k_cond ((p2.length : Int) == 0) hS.has (by kernel_rfl) (by kernel_rfl) (by kernel_rfl) (fun hq => ?_) (fun hq => ?_)
  · have hp : p2 = [] := List.eq_nil_of_length_eq_zero (by simpa using hq)
    subst hp
    have hr' : p0 = r := by rw [← hr]; simp
    subst hr'
    refine k_seq (by kernel_rfl) fun K6 hK6 => ?_
    refine k_reg 2 (by kernel_rfl) ?_
    refine r_run 0 2 [6] [] hS rfl (L' := [(6, .slice a0 p0.length c0)]) (As' := [rowF (rawF 4) 67 a0 c0 p0, rowF (rawF 4) 67 a2 c2 ([] : List (Raw 4))]) (ob := []) (by kernel_rfl) trivial fun a w hS => ?_
    refine wl_end ?_
    refine hK6 _ _ ?_
    refine k_ret (by kernel_rfl) ?_
    try simp only [Exit.then, Exit.inBlock]
    refine r_ret hS [.tmp 6] [] (xs := [.slice a0 p0.length c0]) (ps := []) [0] [] rfl (by kernel_rfl) (fun hA => trivial) rfl (fun F up => trivial) ?_
    exact ⟨a0, c0, rfl, rfl, rfl⟩
  have hm : 0 < p2.length := by
    rcases Nat.eq_zero_or_pos p2.length with h0 | h0
    · rw [h0] at hq; simp at hq
    · exact h0
  obtain ⟨g3, rfl⟩ := row_block (hS.st.own (rowF (rawF 4) 67 a2 c2 p2) (by simp)) (by omega)
  refine k_skip (by kernel_rfl) ?_
  refine hK4 _ _ ?_
  refine k_seq (by kernel_rfl) fun K7 hK7 => ?_
  refine k_reg 3 (by kernel_rfl) ?_
  refine r_run 0 3 [0, 1, 2, 7, 8] [] hS rfl (L' := [(0, .slice a0 p0.length c0), (1, .int .i64 i), (2, .slice (some ⟨g3, 0, none⟩) p2.length c2), (7, .int .i64 (p2.length : Int)), (8, .int .i64 (p0.length : Int))]) (As' := [rowF (rawF 4) 67 a0 c0 p0, rowF (rawF 4) 67 (some ⟨g3, 0, none⟩) c2 p2]) (ob := []) (by kernel_rfl) trivial fun a w hS => ?_
  refine wl_end ?_
  refine hK7 _ _ ?_
  refine k_seq (by kernel_rfl) fun K8 hK8 => ?_
  refine k_seq (by kernel_rfl) fun K9 hK9 => ?_
  refine k_reg 3 (by kernel_rfl) ?_
  refine r_run 0 3 [0, 1, 2, 7, 8, 22] [] hS rfl (L' := [(0, .slice a0 p0.length c0), (1, .int .i64 i), (2, .slice (some ⟨g3, 0, none⟩) p2.length c2), (7, .int .i64 (p2.length : Int)), (8, .int .i64 (p0.length : Int)), (22, .bool ((i : Int) == (p0.length : Int)))]) (As' := [rowF (rawF 4) 67 a0 c0 p0, rowF (rawF 4) 67 (some ⟨g3, 0, none⟩) c2 p2]) (ob := []) (by kernel_rfl) trivial fun a w hS => ?_
  refine wl_end ?_
  refine hK9 _ _ ?_
  refine k_cond ((i : Int) == (p0.length : Int)) hS.has (by kernel_rfl) (by kernel_rfl) (by kernel_rfl) (fun hq2 => ?_) (fun hq2 => ?_)
  · have hin : i = p0.length := by
      have := of_decide_eq_true (p := (i : Int) = (p0.length : Int)) (by simpa using hq2)
      omega
    have hr' : r = p0 ++ p2 := by rw [← hr, hin]; simp
    refine k_seq (by kernel_rfl) fun K6 hK6 => ?_
    refine k_reg 4 (by kernel_rfl) ?_
    refine r_run 0 2 [23, 24] [] hS rfl (L' := [(23, .slice a0 p0.length c0), (24, .slice (some ⟨g3, 0, none⟩) p2.length c2)]) (As' := [rowF (rawF 4) 67 a0 c0 p0, rowF (rawF 4) 67 (some ⟨g3, 0, none⟩) c2 p2]) (ob := []) (by kernel_rfl) trivial fun a w hS => ?_
    refine r_append 2 rfl (d := 25) (t := 57) (A := a0) (c := c0) (k := p0.length) (b := some ⟨g3, 0, none⟩) (c2 := c2) (m := p2.length) (p2.flatMap ((rawF 4)).enc) 0 [0] hS (appChk_sound (by kernel_rfl)) (by kernel_rfl) rfl rfl (fun F up le => appB (F := (rawF 4)) (le 0 rfl _ fun w h => rowRS h)) hroom fun a5 c5 a w hS => ?_
    replace hS := rowF_app (F := (rawF 4)) (l := p0) (m := p2) hS hr'
    refine r_run 3 1 [6] [] hS rfl (L' := [(6, .slice a5 r.length c5)]) (As' := [rowF (rawF 4) 67 a5 c5 r, rowF (rawF 4) 67 (some ⟨g3, 0, none⟩) c2 p2]) (ob := []) (by kernel_rfl) trivial fun a w hS => ?_
    refine wl_end ?_
    refine hK6 _ _ ?_
    refine k_ret (by kernel_rfl) ?_
    try simp only [Exit.then, Exit.inBlock]
    refine r_ret hS [.tmp 6] [] (xs := [.slice a5 r.length c5]) (ps := []) [0] [] rfl (by kernel_rfl) (fun hA => trivial) rfl (fun F up => trivial) ?_
    exact ⟨a5, c5, rfl, rfl, rfl⟩
  have hin : i < p0.length := by
    rcases Nat.lt_or_ge i p0.length with h0 | h0
    · exact h0
    · have : i = p0.length := by omega
      rw [this] at hq2; simp at hq2
  obtain ⟨g, rfl⟩ := row_block (hS.st.own (rowF (rawF 4) 67 a0 c0 p0) (by simp)) (by omega)
  have hw : IntKind.wrap .i64 ((p0.length : Int) + (p2.length : Int)) = ((p0.length + p2.length : Nat) : Int) := by rw [IntKind.wrap_i64]; omega
  have hw2 : IntKind.wrap .i64 ((i : Int) + (p2.length : Int)) = ((i + p2.length : Nat) : Int) := by rw [IntKind.wrap_i64]; omega
  have hsz : 0 < ((rawF 4)).sz := by decide
  have hX : (p0.take i).flatMap ((rawF 4)).enc = (p0.flatMap ((rawF 4)).enc).take (i * ((rawF 4)).sz) := flat_take p0 i
  have hY : (p0.drop i).flatMap ((rawF 4)).enc = (p0.flatMap ((rawF 4)).enc).drop (i * ((rawF 4)).sz) := flat_drop p0 i
  have lX : ((p0.take i).flatMap ((rawF 4)).enc).length = i * ((rawF 4)).sz := by rw [flat_len, List.length_take, Nat.min_eq_left hil]
  have lY : ((p0.drop i).flatMap ((rawF 4)).enc).length = (p0.length - i) * ((rawF 4)).sz := by rw [flat_len, List.length_drop]
  have lV : (p2.flatMap ((rawF 4)).enc).length = p2.length * ((rawF 4)).sz := flat_len p2
  have hXY : (p0.take i).flatMap ((rawF 4)).enc ++ (p0.drop i).flatMap ((rawF 4)).enc = p0.flatMap ((rawF 4)).enc := by rw [← List.flatMap_append, List.take_append_drop]
  have hre : r.flatMap ((rawF 4)).enc = (p0.take i).flatMap ((rawF 4)).enc ++ p2.flatMap ((rawF 4)).enc ++ (p0.drop i).flatMap ((rawF 4)).enc := by rw [← hr, List.flatMap_append, List.flatMap_append]
  have hV1 : ∀ v ∈ p2.flatMap ((rawF 4)).enc, v.oneCell' = true := flat_one p2
  have hY1 : ∀ v ∈ (p0.drop i).flatMap ((rawF 4)).enc, v.oneCell' = true := flat_one _
  refine k_skip (by kernel_rfl) ?_
  refine hK8 _ _ ?_
  refine k_seq (by kernel_rfl) fun K10 hK10 => ?_
  refine k_seq (by kernel_rfl) fun K11 hK11 => ?_
  refine k_reg 6 (by kernel_rfl) ?_
  refine r_run 0 6 [0, 1, 2, 7, 8, 31] [.as 28 (.int .i64 ((p0.length + p2.length : Nat) : Int))] hS rfl (L' := [(0, .slice (some ⟨g, 0, none⟩) p0.length c0), (1, .int .i64 i), (2, .slice (some ⟨g3, 0, none⟩) p2.length c2), (7, .int .i64 (p2.length : Int)), (8, .int .i64 (p0.length : Int)), (31, .bool (decide (((p0.length + p2.length : Nat) : Int) > (c0 : Int))))]) (As' := [rowF (rawF 4) 67 (some ⟨g, 0, none⟩) c0 p0, rowF (rawF 4) 67 (some ⟨g3, 0, none⟩) c2 p2]) (ob := [fun _ => Value.int .i64 (IntKind.wrap .i64 ((p0.length : Int) + (p2.length : Int))) = .int .i64 ((p0.length + p2.length : Nat) : Int)]) (by kernel_rfl) ⟨Bx.c (by rw [hw]), trivial⟩ fun a w hS => ?_
  refine wl_end ?_
  refine hK11 _ _ ?_
  refine k_cond (decide (((p0.length + p2.length : Nat) : Int) > (c0 : Int))) hS.has (by kernel_rfl) (by kernel_rfl) (by kernel_rfl) (fun hq3 => ?_) (fun hq3 => ?_)
  · have hgt : c0 < p0.length + p2.length := by have := of_decide_eq_true hq3; omega
    have hk : p0.length + p2.length - i + i = p0.length + p2.length := by omega
    have hw3 : IntKind.wrap .i64 (((p0.length + p2.length : Nat) : Int) - (i : Int)) = ((p0.length + p2.length - i : Nat) : Int) := by rw [IntKind.wrap_i64]; omega
    refine k_seq (by kernel_rfl) fun K12 hK12 => ?_
    refine k_reg 10 (by kernel_rfl) ?_
    refine r_run 0 8 [0, 1, 2, 7, 8, 34, 39] [.as 34 (.slice (some ⟨g, 0, none⟩) i c0), .as 37 (.int .i64 ((p0.length + p2.length : Nat) : Int)), .as 39 (.int .i64 ((p0.length + p2.length - i : Nat) : Int))] hS rfl (L' := [(0, .slice (some ⟨g, 0, none⟩) p0.length c0), (1, .int .i64 i), (2, .slice (some ⟨g3, 0, none⟩) p2.length c2), (7, .int .i64 (p2.length : Int)), (8, .int .i64 (p0.length : Int)), (34, .slice (some ⟨g, 0, none⟩) i c0), (39, .int .i64 ((p0.length + p2.length - i : Nat) : Int))]) (As' := [rowF (rawF 4) 67 (some ⟨g, 0, none⟩) c0 p0, rowF (rawF 4) 67 (some ⟨g3, 0, none⟩) c2 p2]) (ob := [fun _ => (0 : Int) ≤ 0 ∧ (0 : Int) ≤ (i : Int) ∧ (i : Int) ≤ (c0 : Int), fun _ => Value.slice (slA (some ⟨g, 0, none⟩) 0 c0 ((rawF 4)).sz) i c0 = .slice (some ⟨g, 0, none⟩) i c0, fun _ => Value.int .i64 (IntKind.wrap .i64 ((p0.length : Int) + (p2.length : Int))) = .int .i64 ((p0.length + p2.length : Nat) : Int), fun _ => Value.int .i64 (IntKind.wrap .i64 (((p0.length + p2.length : Nat) : Int) - (i : Int))) = .int .i64 ((p0.length + p2.length - i : Nat) : Int)]) (by kernel_rfl) ⟨Bx.c ⟨by omega, by omega, by omega⟩, Bx.c (by rw [slA_zero]), Bx.c (by rw [hw]), Bx.c (by rw [hw3]), trivial⟩ fun a w hS => ?_
    obtain ⟨w', g2, c5, hrun, hc5, ⟨T, hT, hrow⟩, hext, hg2, hg2'⟩ := run_zeros_row (P := Tryz.prog) (sz := ((rawF 4)).sz) (t := 57) (tn := 3) (ty := 57) (i := i) (k := p0.length + p2.length - i) (bytes := 40) (inf := Tryz.t67) (z := (Tryz.t67.zero).getD undef) (kq := .i64) (kn := .i64) (by kernel_rfl) (by kernel_rfl) (by kernel_rfl) (by kernel_rfl) rfl (by kernel_rfl) (by kernel_rfl) hsz (by decide) (hS.st.own (rowF (rawF 4) 67 (some ⟨g, 0, none⟩) c0 p0) (by simp)) hil (by omega) (by omega) (by rw [show i + (p0.length + p2.length - i) = p0.length + p2.length from by omega]; exact hroom)
    have hik : i + (p0.length + p2.length - i) = p0.length + p2.length := by omega
    rw [hik] at hrun hc5 hT
    refine r_bltN 8 rfl (d := some 40) (b := .append) (ts := #[57, 3]) (ty := 57) (vs := #[.slice (some ⟨g, 0, none⟩) i c0, .int .i64 ((p0.length + p2.length - i : Nat) : Int)]) hS (by kernel_rfl) _ hrun hrow hext (fun x hx => by simp [Asn.fp] at hx; subst hx; exact ⟨hg2, hg2'⟩) (by simp [Asn.fp]) fun a hS => ?_
    rw [← hX] at hS
    generalize hZ : (Builtin.zeroCells ((Tryz.t67.zero).getD undef).cells (p0.length + p2.length - i)).toList = Z at hS
    have lZ : Z.length = (p2.flatMap ((rawF 4)).enc).length + ((p0.drop i).flatMap ((rawF 4)).enc).length := by
      rw [← hZ, zeros_len, lV, lY, ← Nat.add_mul, show ((Tryz.t67.zero).getD undef).cells.size = ((rawF 4)).sz from by kernel_rfl]
      congr 1; omega
    refine r_run 9 1 [0, 1, 2, 7, 9] [] hS rfl (L' := [(0, .slice (some ⟨g, 0, none⟩) p0.length c0), (1, .int .i64 i), (2, .slice (some ⟨g3, 0, none⟩) p2.length c2), (7, .int .i64 (p2.length : Int)), (9, .slice (some ⟨g2, 0, none⟩) (p0.length + p2.length) c5)]) (As' := [.row (some ⟨g2, 0, none⟩) c5 67 ((rawF 4)).sz c5 ((p0.take i).flatMap ((rawF 4)).enc ++ Z ++ T), rowF (rawF 4) 67 (some ⟨g, 0, none⟩) c0 p0, rowF (rawF 4) 67 (some ⟨g3, 0, none⟩) c2 p2]) (ob := []) (by kernel_rfl) trivial fun a w hS => ?_
    refine wl_end ?_
    refine hK12 _ _ ?_
    refine k_seq (by kernel_rfl) fun K13 hK13 => ?_
    refine k_reg 5 (by kernel_rfl) ?_
    have hs1 : slA (some (⟨g2, 0, none⟩ : Addr)) i c5 ((rawF 4)).sz = some ⟨g2, i * ((rawF 4)).sz, none⟩ := by
      unfold slA; rw [if_neg (by omega)]; simp only [Option.map_some, addr_add0]
    refine r_run 0 4 [0, 1, 7, 9, 43, 44] [.as 43 (.slice (some ⟨g2, i * ((rawF 4)).sz, none⟩) (p0.length + p2.length - i) (c5 - i))] hS rfl (L' := [(0, .slice (some ⟨g, 0, none⟩) p0.length c0), (1, .int .i64 i), (7, .int .i64 (p2.length : Int)), (9, .slice (some ⟨g2, 0, none⟩) (p0.length + p2.length) c5), (43, .slice (some ⟨g2, i * ((rawF 4)).sz, none⟩) (p0.length + p2.length - i) (c5 - i)), (44, .slice (some ⟨g3, 0, none⟩) p2.length c2)]) (As' := [.row (some ⟨g2, 0, none⟩) c5 67 ((rawF 4)).sz c5 ((p0.take i).flatMap ((rawF 4)).enc ++ Z ++ T), rowF (rawF 4) 67 (some ⟨g, 0, none⟩) c0 p0, rowF (rawF 4) 67 (some ⟨g3, 0, none⟩) c2 p2]) (ob := [fun _ => 0 ≤ (i : Int) ∧ (i : Int) ≤ ((p0.length + p2.length : Nat) : Int) ∧ ((p0.length + p2.length : Nat) : Int) ≤ (c5 : Int), fun _ => Value.slice (slA (some ⟨g2, 0, none⟩) i c5 ((rawF 4)).sz) (p0.length + p2.length - i) (c5 - i) = .slice (some ⟨g2, i * ((rawF 4)).sz, none⟩) (p0.length + p2.length - i) (c5 - i)]) (by kernel_rfl) ⟨Bx.c ⟨by omega, by omega, by omega⟩, Bx.c (by rw [hs1]), trivial⟩ fun a w hS => ?_
    have hsrc := row_cellsAt (hS.st.own (rowF (rawF 4) 67 (some ⟨g3, 0, none⟩) c2 p2) (by simp)) 0 (p2.flatMap ((rawF 4)).enc).length
    rw [List.drop_zero, List.take_length] at hsrc
    have hfit1 : i * ((rawF 4)).sz + (p2.flatMap ((rawF 4)).enc).length ≤ c5 * ((rawF 4)).sz := by rw [lV, ← Nat.add_mul]; exact Nat.mul_le_mul_right _ (by omega)
    have hmin1 : Nat.min p2.length (p0.length + p2.length - i) = p2.length := Nat.min_eq_left (by omega)
    refine r_bltS 4 rfl 0 (.row (some ⟨g2, 0, none⟩) c5 67 ((rawF 4)).sz c5 (spl ((p0.take i).flatMap ((rawF 4)).enc ++ Z ++ T) (i * ((rawF 4)).sz) (p2.flatMap ((rawF 4)).enc))) (d := some 45) (b := .copy) (ts := #[57, 57]) (ty := 3) (vs := #[.slice (some ⟨g2, i * ((rawF 4)).sz, none⟩) (p0.length + p2.length - i) (c5 - i), .slice (some ⟨g3, 0, none⟩) p2.length c2]) hS (by kernel_rfl) rfl (fun hA => run_copyR (dT := 57) (sT := 57) (ty := 3) (inf := Tryz.t67) (by kernel_rfl) (by kernel_rfl) rfl hA (by rw [hmin1, lV]) hsrc hfit1 hV1) rfl (by simp [Asn.fp]) fun a w hS => ?_
    refine wl_end ?_
    refine hK13 _ _ ?_
    refine k_seq (by kernel_rfl) fun K14 hK14 => ?_
    have hs2 : slA (some (⟨g2, 0, none⟩ : Addr)) (i + p2.length) c5 ((rawF 4)).sz = some ⟨g2, (i + p2.length) * ((rawF 4)).sz, none⟩ := by
      unfold slA; rw [if_neg (by omega)]; simp only [Option.map_some, addr_add0]
    have hs3 : slA (some (⟨g, 0, none⟩ : Addr)) i c0 ((rawF 4)).sz = some ⟨g, i * ((rawF 4)).sz, none⟩ := by
      unfold slA; rw [if_neg (by omega)]; simp only [Option.map_some, addr_add0]
    refine k_draw 8 9 [.val (.slice (some ⟨g2, 0, none⟩) (p0.length + p2.length) c5), .val (.int .i64 i), .val (.int .i64 (p2.length : Int)), .val (.int .i64 ((i + p2.length : Nat) : Int)), .val (.slice (some ⟨g2, (i + p2.length) * ((rawF 4)).sz, none⟩) (p0.length + p2.length - (i + p2.length)) (c5 - (i + p2.length))), .val (.slice (some ⟨g, 0, none⟩) p0.length c0), .val (.int .i64 i), .val (.slice (some ⟨g, i * ((rawF 4)).sz, none⟩) (p0.length - i) (c0 - i))] [] [(0, []), (1, []), (2, []), (3, [.as 49 (.int .i64 ((i + p2.length : Nat) : Int))]), (4, [.as 50 (.slice (some ⟨g2, (i + p2.length) * ((rawF 4)).sz, none⟩) (p0.length + p2.length - (i + p2.length)) (c5 - (i + p2.length)))]), (5, []), (6, []), (7, [.as 53 (.slice (some ⟨g, i * ((rawF 4)).sz, none⟩) (p0.length - i) (c0 - i))])] [] (ob := [fun _ => Value.int .i64 (IntKind.wrap .i64 ((i : Int) + (p2.length : Int))) = .int .i64 ((i + p2.length : Nat) : Int), fun _ => 0 ≤ ((i + p2.length : Nat) : Int) ∧ ((i + p2.length : Nat) : Int) ≤ ((p0.length + p2.length : Nat) : Int) ∧ ((p0.length + p2.length : Nat) : Int) ≤ (c5 : Int), fun _ => Value.slice (slA (some ⟨g2, 0, none⟩) (i + p2.length) c5 ((rawF 4)).sz) (p0.length + p2.length - (i + p2.length)) (c5 - (i + p2.length)) = .slice (some ⟨g2, (i + p2.length) * ((rawF 4)).sz, none⟩) (p0.length + p2.length - (i + p2.length)) (c5 - (i + p2.length)), fun _ => 0 ≤ (i : Int) ∧ (i : Int) ≤ (p0.length : Int) ∧ (p0.length : Int) ≤ (c0 : Int), fun _ => Value.slice (slA (some ⟨g, 0, none⟩) i c0 ((rawF 4)).sz) (p0.length - i) (c0 - i) = .slice (some ⟨g, i * ((rawF 4)).sz, none⟩) (p0.length - i) (c0 - i)]) (by kernel_rfl) (by kernel_rfl) hS (by kernel_rfl) (fun F N0 => by kernel_rfl) (by kernel_rfl) (by kernel_rfl) (by kernel_rfl) (by kernel_rfl) ⟨Bx.c (by rw [hw2]), Bx.c ⟨by omega, by omega, by omega⟩, Bx.c (by rw [hs2]), Bx.c ⟨by omega, by omega, by omega⟩, Bx.c (by rw [hs3]), trivial⟩ ?_ ?_
    · exact trivial
    intro V a w e hS hq
    have hsrc := row_cellsAt (hS.st.own (rowF (rawF 4) 67 (some ⟨g, 0, none⟩) c0 p0) (by simp [List.set])) (i * ((rawF 4)).sz) ((p0.drop i).flatMap ((rawF 4)).enc).length
    rw [← hY, List.take_length] at hsrc
    have hmin2 : Nat.min (p0.length - i) (p0.length + p2.length - (i + p2.length)) = p0.length - i := Nat.min_eq_left (by omega)
    have hfit2 : (i + p2.length) * ((rawF 4)).sz + ((p0.drop i).flatMap ((rawF 4)).enc).length ≤ c5 * ((rawF 4)).sz := by rw [lY, ← Nat.add_mul]; exact Nat.mul_le_mul_right _ (by omega)
    refine r_bltS 8 rfl 0 (.row (some ⟨g2, 0, none⟩) c5 67 ((rawF 4)).sz c5 (spl (spl ((p0.take i).flatMap ((rawF 4)).enc ++ Z ++ T) (i * ((rawF 4)).sz) (p2.flatMap ((rawF 4)).enc)) ((i + p2.length) * ((rawF 4)).sz) ((p0.drop i).flatMap ((rawF 4)).enc))) (d := some 54) (b := .copy) (ts := #[57, 57]) (ty := 3) (vs := #[.slice (some ⟨g2, (i + p2.length) * ((rawF 4)).sz, none⟩) (p0.length + p2.length - (i + p2.length)) (c5 - (i + p2.length)), .slice (some ⟨g, i * ((rawF 4)).sz, none⟩) (p0.length - i) (c0 - i)]) hS (by kernel_rfl) rfl (fun hA => run_copyR (dT := 57) (sT := 57) (ty := 3) (inf := Tryz.t67) (by kernel_rfl) (by kernel_rfl) rfl hA (by rw [hmin2, lY]) hsrc hfit2 hY1) rfl (by simp [Asn.fp]) fun a w hS => ?_
    have hfin : (spl (spl ((p0.take i).flatMap ((rawF 4)).enc ++ Z ++ T) (i * ((rawF 4)).sz) (p2.flatMap ((rawF 4)).enc)) ((i + p2.length) * ((rawF 4)).sz) ((p0.drop i).flatMap ((rawF 4)).enc)).take ((p0.length + p2.length) * ((rawF 4)).sz) = r.flatMap ((rawF 4)).enc := by
      have := cells_new ((p0.take i).flatMap ((rawF 4)).enc) ((p0.drop i).flatMap ((rawF 4)).enc) (p2.flatMap ((rawF 4)).enc) Z T lZ
      rw [lX, lV, ← Nat.add_mul] at this
      rw [this, hre, List.take_left' (by rw [List.length_append, List.length_append, lX, lV, lY, ← Nat.add_mul, ← Nat.add_mul]; congr 1; omega)]
    replace hS := hS.same (B := rowF (rawF 4) 67 (some ⟨g2, 0, none⟩) c5 r) 0 rfl (fun hA => row_app_form hA hrl hc5 hfin) rfl (by simp [Asn.fp])
    refine wl_end ?_
    refine hK14 _ _ ?_
    refine k_seq (by kernel_rfl) fun K15 hK15 => ?_
    refine k_reg 2 (by kernel_rfl) ?_
    refine r_run 0 2 [6] [] hS rfl (L' := [(6, .slice (some ⟨g2, 0, none⟩) (p0.length + p2.length) c5)]) (As' := [rowF (rawF 4) 67 (some ⟨g2, 0, none⟩) c5 r, rowF (rawF 4) 67 (some ⟨g, 0, none⟩) c0 p0, rowF (rawF 4) 67 (some ⟨g3, 0, none⟩) c2 p2]) (ob := []) (by kernel_rfl) trivial fun a w hS => ?_
    refine wl_end ?_
    refine hK15 _ _ ?_
    refine k_ret (by kernel_rfl) ?_
    try simp only [Exit.then, Exit.inBlock]
    refine r_ret hS [.tmp 6] [] (xs := [.slice (some ⟨g2, 0, none⟩) (p0.length + p2.length) c5]) (ps := []) [0] [] rfl (by kernel_rfl) (fun hA => trivial) rfl (fun F up => trivial) ?_
    exact ⟨some ⟨g2, 0, none⟩, c5, by rw [hrl]; rfl, rfl, rfl⟩
  have hle : p0.length + p2.length ≤ c0 := by have := of_decide_eq_false hq3; omega
  refine k_skip (by kernel_rfl) ?_
  refine hK10 _ _ ?_
  refine k_seq (by kernel_rfl) fun K12 hK12 => ?_
  refine k_reg 6 (by kernel_rfl) ?_
  refine r_run 0 6 [0, 1, 2, 7] [.as 59 (.int .i64 ((p0.length + p2.length : Nat) : Int)), .as 60 (.slice (some ⟨g, 0, none⟩) (p0.length + p2.length) c0)] hS rfl (L' := [(0, .slice (some ⟨g, 0, none⟩) (p0.length + p2.length) c0), (1, .int .i64 i), (2, .slice (some ⟨g3, 0, none⟩) p2.length c2), (7, .int .i64 (p2.length : Int))]) (As' := [rowF (rawF 4) 67 (some ⟨g, 0, none⟩) c0 p0, rowF (rawF 4) 67 (some ⟨g3, 0, none⟩) c2 p2]) (ob := [fun _ => Value.int .i64 (IntKind.wrap .i64 ((p0.length : Int) + (p2.length : Int))) = .int .i64 ((p0.length + p2.length : Nat) : Int), fun _ => (0 : Int) ≤ 0 ∧ (0 : Int) ≤ ((p0.length + p2.length : Nat) : Int) ∧ ((p0.length + p2.length : Nat) : Int) ≤ (c0 : Int), fun _ => Value.slice (slA (some ⟨g, 0, none⟩) 0 c0 ((rawF 4)).sz) (p0.length + p2.length) c0 = .slice (some ⟨g, 0, none⟩) (p0.length + p2.length) c0]) (by kernel_rfl) ⟨Bx.c (by rw [hw]), Bx.c ⟨by omega, by omega, by omega⟩, Bx.c (by rw [slA_zero]), trivial⟩ fun a w hS => ?_
  obtain ⟨ds, hd1, hd2, hd3, hd4⟩ := row_full (hS.st.own (rowF (rawF 4) 67 (some ⟨g, 0, none⟩) c0 p0) (by simp))
  replace hS := hS.same (B := .row (some ⟨g, 0, none⟩) c0 67 ((rawF 4)).sz c0 ds) 0 rfl (fun _ => hd4) rfl (by simp [Asn.fp])
  refine wl_end ?_
  refine hK12 _ _ ?_
  refine k_seq (by kernel_rfl) fun K13 hK13 => ?_
  refine k_seq (by kernel_rfl) fun K14 hK14 => ?_
  refine k_reg 8 (by kernel_rfl) ?_
  have hs2 : slA (some (⟨g, 0, none⟩ : Addr)) (i + p2.length) c0 ((rawF 4)).sz = some ⟨g, (i + p2.length) * ((rawF 4)).sz, none⟩ := by
    unfold slA; rw [if_neg (by omega)]; simp only [Option.map_some, addr_add0]
  have hs3 : slA (some (⟨g, 0, none⟩ : Addr)) i c0 ((rawF 4)).sz = some ⟨g, i * ((rawF 4)).sz, none⟩ := by
    unfold slA; rw [if_neg (by omega)]; simp only [Option.map_some, addr_add0]
  refine r_run 0 6 [0, 1, 2, 7, 61, 66] [.as 65 (.int .i64 ((i + p2.length : Nat) : Int)), .as 66 (.slice (some ⟨g, (i + p2.length) * ((rawF 4)).sz, none⟩) (p0.length + p2.length - (i + p2.length)) (c0 - (i + p2.length)))] hS rfl (L' := [(0, .slice (some ⟨g, 0, none⟩) (p0.length + p2.length) c0), (1, .int .i64 i), (2, .slice (some ⟨g3, 0, none⟩) p2.length c2), (7, .int .i64 (p2.length : Int)), (61, .slice (some ⟨g3, 0, none⟩) p2.length c2), (66, .slice (some ⟨g, (i + p2.length) * ((rawF 4)).sz, none⟩) (p0.length + p2.length - (i + p2.length)) (c0 - (i + p2.length)))]) (As' := [.row (some ⟨g, 0, none⟩) c0 67 ((rawF 4)).sz c0 ds, rowF (rawF 4) 67 (some ⟨g3, 0, none⟩) c2 p2]) (ob := [fun _ => Value.int .i64 (IntKind.wrap .i64 ((i : Int) + (p2.length : Int))) = .int .i64 ((i + p2.length : Nat) : Int), fun _ => 0 ≤ ((i + p2.length : Nat) : Int) ∧ ((i + p2.length : Nat) : Int) ≤ ((p0.length + p2.length : Nat) : Int) ∧ ((p0.length + p2.length : Nat) : Int) ≤ (c0 : Int), fun _ => Value.slice (slA (some ⟨g, 0, none⟩) (i + p2.length) c0 ((rawF 4)).sz) (p0.length + p2.length - (i + p2.length)) (c0 - (i + p2.length)) = .slice (some ⟨g, (i + p2.length) * ((rawF 4)).sz, none⟩) (p0.length + p2.length - (i + p2.length)) (c0 - (i + p2.length))]) (by kernel_rfl) ⟨Bx.c (by rw [hw2]), Bx.c ⟨by omega, by omega, by omega⟩, Bx.c (by rw [hs2]), trivial⟩ fun a w hS => ?_
  have hne : g3 ≠ g := by
    have := (List.nodup_append.1 hS.st.nd).2.1
    simp [fps, Asn.fp] at this
    exact fun e => this e.symm
  have hA0 := row_shape (hS.st.own (.row (some ⟨g, 0, none⟩) c0 67 ((rawF 4)).sz c0 ds) (by simp))
  have hA1 := row_shape (hS.st.own (rowF (rawF 4) 67 (some ⟨g3, 0, none⟩) c2 p2) (by simp))
  have hcsz : c0 * ((rawF 4)).sz ≠ 0 := Nat.mul_ne_zero (by omega) (by omega)
  have hov : (callFunc 165 #[.slice (some ⟨g3, 0, none⟩) p2.length c2, .slice (some ⟨g, (i + p2.length) * ((rawF 4)).sz, none⟩) (p0.length + p2.length - (i + p2.length)) (c0 - (i + p2.length))]).run Tryz.prog w = .ok (.value (.bool false)) w := by
    rw [run_callFunc_extern Tryz.func165 (by kernel_rfl) (by kernel_rfl) (by kernel_rfl) (e := Extern.SlicesOverlaps.overlaps #[57, 57] #[4]) (by kernel_rfl),
      Lib.run_overlaps_apart w 57 4 67 (by kernel_rfl) ((rawF 4)).sz (fun w => by simp [sizeOf, run_info (show Tryz.prog.info? 67 = some Tryz.t67 from by kernel_rfl)]; kernel_rfl) ⟨g3, 0, none⟩ ⟨g, (i + p2.length) * ((rawF 4)).sz, none⟩ p2.length c2 _ _ hne _ _ _ _ hA1.1 hA0.1 hcsz (hA1.2 _) (hA1.2 _)]
    rfl
  refine r_ext 6 rfl (d := some 67) (g := 165) (args := #[.slice (some ⟨g3, 0, none⟩) p2.length c2, .slice (some ⟨g, (i + p2.length) * ((rawF 4)).sz, none⟩) (p0.length + p2.length - (i + p2.length)) (c0 - (i + p2.length))]) hS (by kernel_rfl) hov fun a hS => ?_
  refine r_run 7 1 [0, 1, 2, 7, 68] [] hS rfl (L' := [(0, .slice (some ⟨g, 0, none⟩) (p0.length + p2.length) c0), (1, .int .i64 i), (2, .slice (some ⟨g3, 0, none⟩) p2.length c2), (7, .int .i64 (p2.length : Int)), (68, .bool true)]) (As' := [.row (some ⟨g, 0, none⟩) c0 67 ((rawF 4)).sz c0 ds, rowF (rawF 4) 67 (some ⟨g3, 0, none⟩) c2 p2]) (ob := []) (by kernel_rfl) trivial fun a w hS => ?_
  refine wl_end ?_
  refine hK14 _ _ ?_
  refine k_cond true hS.has (by kernel_rfl) (by kernel_rfl) (by kernel_rfl) (fun _ => ?_) (fun hx => by cases hx)
  refine k_seq (by kernel_rfl) fun K15 hK15 => ?_
  obtain ⟨Z, hZ⟩ : ∃ Z, ds = (p0.take i).flatMap ((rawF 4)).enc ++ (p0.drop i).flatMap ((rawF 4)).enc ++ Z := ⟨ds.drop (p0.length * ((rawF 4)).sz), by rw [hXY]; conv => lhs; rw [← List.take_append_drop (p0.length * ((rawF 4)).sz) ds, hd1]⟩
  have lds : ds.length = c0 * ((rawF 4)).sz := hd2
  have lZ : (p2.flatMap ((rawF 4)).enc).length ≤ ((p0.drop i).flatMap ((rawF 4)).enc).length + Z.length := by
    have h1 := lds
    rw [hZ, List.length_append, List.length_append, lX, lY] at h1
    rw [lV, lY]
    have h2 := Nat.mul_le_mul_right ((rawF 4)).sz hle
    rw [Nat.add_mul] at h2
    have h3 : i * ((rawF 4)).sz + (p0.length - i) * ((rawF 4)).sz = p0.length * ((rawF 4)).sz := by rw [← Nat.add_mul]; congr 1; omega
    omega
  refine k_draw 8 9 [.val (.slice (some ⟨g, 0, none⟩) (p0.length + p2.length) c0), .val (.int .i64 i), .val (.int .i64 (p2.length : Int)), .val (.int .i64 ((i + p2.length : Nat) : Int)), .val (.slice (some ⟨g, (i + p2.length) * ((rawF 4)).sz, none⟩) (p0.length + p2.length - (i + p2.length)) (c0 - (i + p2.length))), .val (.slice (some ⟨g, 0, none⟩) (p0.length + p2.length) c0), .val (.int .i64 i), .val (.slice (some ⟨g, i * ((rawF 4)).sz, none⟩) (p0.length + p2.length - i) (c0 - i))] [] [(0, []), (1, []), (2, []), (3, [.as 72 (.int .i64 ((i + p2.length : Nat) : Int))]), (4, [.as 73 (.slice (some ⟨g, (i + p2.length) * ((rawF 4)).sz, none⟩) (p0.length + p2.length - (i + p2.length)) (c0 - (i + p2.length)))]), (5, []), (6, []), (7, [.as 76 (.slice (some ⟨g, i * ((rawF 4)).sz, none⟩) (p0.length + p2.length - i) (c0 - i))])] [] (ob := [fun _ => Value.int .i64 (IntKind.wrap .i64 ((i : Int) + (p2.length : Int))) = .int .i64 ((i + p2.length : Nat) : Int), fun _ => 0 ≤ ((i + p2.length : Nat) : Int) ∧ ((i + p2.length : Nat) : Int) ≤ ((p0.length + p2.length : Nat) : Int) ∧ ((p0.length + p2.length : Nat) : Int) ≤ (c0 : Int), fun _ => Value.slice (slA (some ⟨g, 0, none⟩) (i + p2.length) c0 ((rawF 4)).sz) (p0.length + p2.length - (i + p2.length)) (c0 - (i + p2.length)) = .slice (some ⟨g, (i + p2.length) * ((rawF 4)).sz, none⟩) (p0.length + p2.length - (i + p2.length)) (c0 - (i + p2.length)), fun _ => 0 ≤ (i : Int) ∧ (i : Int) ≤ ((p0.length + p2.length : Nat) : Int) ∧ ((p0.length + p2.length : Nat) : Int) ≤ (c0 : Int), fun _ => Value.slice (slA (some ⟨g, 0, none⟩) i c0 ((rawF 4)).sz) (p0.length + p2.length - i) (c0 - i) = .slice (some ⟨g, i * ((rawF 4)).sz, none⟩) (p0.length + p2.length - i) (c0 - i)]) (by kernel_rfl) (by kernel_rfl) hS (by kernel_rfl) (fun F N0 => by kernel_rfl) (by kernel_rfl) (by kernel_rfl) (by kernel_rfl) (by kernel_rfl) ⟨Bx.c (by rw [hw2]), Bx.c ⟨by omega, by omega, by omega⟩, Bx.c (by rw [hs2]), Bx.c ⟨by omega, by omega, by omega⟩, Bx.c (by rw [hs3]), trivial⟩ ?_ ?_
  · exact trivial
  intro V a w e hS hq
  have hsrc := row_cellsAt (hS.st.own (.row (some ⟨g, 0, none⟩) c0 67 ((rawF 4)).sz c0 ds) (by simp)) (i * ((rawF 4)).sz) ((p0.drop i).flatMap ((rawF 4)).enc).length
  have hdsd : (ds.drop (i * ((rawF 4)).sz)).take ((p0.drop i).flatMap ((rawF 4)).enc).length = (p0.drop i).flatMap ((rawF 4)).enc := by
    rw [hZ, List.append_assoc, ← lX, List.drop_left, List.take_left]
  rw [hdsd] at hsrc
  have hmin2 : Nat.min (p0.length + p2.length - i) (p0.length + p2.length - (i + p2.length)) = p0.length - i := by
    rw [show p0.length + p2.length - (i + p2.length) = p0.length - i from by omega]; exact Nat.min_eq_right (by omega)
  have hfit2 : (i + p2.length) * ((rawF 4)).sz + ((p0.drop i).flatMap ((rawF 4)).enc).length ≤ c0 * ((rawF 4)).sz := by rw [lY, ← Nat.add_mul]; exact Nat.mul_le_mul_right _ (by omega)
  refine r_bltS 8 rfl 0 (.row (some ⟨g, 0, none⟩) c0 67 ((rawF 4)).sz c0 (spl ds ((i + p2.length) * ((rawF 4)).sz) ((p0.drop i).flatMap ((rawF 4)).enc))) (d := some 77) (b := .copy) (ts := #[57, 57]) (ty := 3) (vs := #[.slice (some ⟨g, (i + p2.length) * ((rawF 4)).sz, none⟩) (p0.length + p2.length - (i + p2.length)) (c0 - (i + p2.length)), .slice (some ⟨g, i * ((rawF 4)).sz, none⟩) (p0.length + p2.length - i) (c0 - i)]) hS (by kernel_rfl) rfl (fun hA => run_copyR (dT := 57) (sT := 57) (ty := 3) (inf := Tryz.t67) (by kernel_rfl) (by kernel_rfl) rfl hA (by rw [hmin2, lY]) hsrc hfit2 hY1) rfl (by simp [Asn.fp]) fun a w hS => ?_
  refine wl_end ?_
  refine hK15 _ _ ?_
  refine k_seq (by kernel_rfl) fun K16 hK16 => ?_
  refine k_reg 5 (by kernel_rfl) ?_
  refine r_run 0 4 [0, 80, 81] [.as 80 (.slice (some ⟨g, i * ((rawF 4)).sz, none⟩) (p0.length + p2.length - i) (c0 - i))] hS rfl (L' := [(0, .slice (some ⟨g, 0, none⟩) (p0.length + p2.length) c0), (80, .slice (some ⟨g, i * ((rawF 4)).sz, none⟩) (p0.length + p2.length - i) (c0 - i)), (81, .slice (some ⟨g3, 0, none⟩) p2.length c2)]) (As' := [.row (some ⟨g, 0, none⟩) c0 67 ((rawF 4)).sz c0 (spl ds ((i + p2.length) * ((rawF 4)).sz) ((p0.drop i).flatMap ((rawF 4)).enc)), rowF (rawF 4) 67 (some ⟨g3, 0, none⟩) c2 p2]) (ob := [fun _ => 0 ≤ (i : Int) ∧ (i : Int) ≤ ((p0.length + p2.length : Nat) : Int) ∧ ((p0.length + p2.length : Nat) : Int) ≤ (c0 : Int), fun _ => Value.slice (slA (some ⟨g, 0, none⟩) i c0 ((rawF 4)).sz) (p0.length + p2.length - i) (c0 - i) = .slice (some ⟨g, i * ((rawF 4)).sz, none⟩) (p0.length + p2.length - i) (c0 - i)]) (by kernel_rfl) ⟨Bx.c ⟨by omega, by omega, by omega⟩, Bx.c (by rw [hs3]), trivial⟩ fun a w hS => ?_
  have hsrc := row_cellsAt (hS.st.own (rowF (rawF 4) 67 (some ⟨g3, 0, none⟩) c2 p2) (by simp)) 0 (p2.flatMap ((rawF 4)).enc).length
  rw [List.drop_zero, List.take_length] at hsrc
  have hfit1 : i * ((rawF 4)).sz + (p2.flatMap ((rawF 4)).enc).length ≤ c0 * ((rawF 4)).sz := by rw [lV, ← Nat.add_mul]; exact Nat.mul_le_mul_right _ (by omega)
  have hmin1 : Nat.min p2.length (p0.length + p2.length - i) = p2.length := Nat.min_eq_left (by omega)
  refine r_bltS 4 rfl 0 (.row (some ⟨g, 0, none⟩) c0 67 ((rawF 4)).sz c0 (spl (spl ds ((i + p2.length) * ((rawF 4)).sz) ((p0.drop i).flatMap ((rawF 4)).enc)) (i * ((rawF 4)).sz) (p2.flatMap ((rawF 4)).enc))) (d := some 82) (b := .copy) (ts := #[57, 57]) (ty := 3) (vs := #[.slice (some ⟨g, i * ((rawF 4)).sz, none⟩) (p0.length + p2.length - i) (c0 - i), .slice (some ⟨g3, 0, none⟩) p2.length c2]) hS (by kernel_rfl) rfl (fun hA => run_copyR (dT := 57) (sT := 57) (ty := 3) (inf := Tryz.t67) (by kernel_rfl) (by kernel_rfl) rfl hA (by rw [hmin1, lV]) hsrc hfit1 hV1) rfl (by simp [Asn.fp]) fun a w hS => ?_
  have hfin : (spl (spl ds ((i + p2.length) * ((rawF 4)).sz) ((p0.drop i).flatMap ((rawF 4)).enc)) (i * ((rawF 4)).sz) (p2.flatMap ((rawF 4)).enc)).take ((p0.length + p2.length) * ((rawF 4)).sz) = r.flatMap ((rawF 4)).enc := by
    have := cells_ins ((p0.take i).flatMap ((rawF 4)).enc) ((p0.drop i).flatMap ((rawF 4)).enc) (p2.flatMap ((rawF 4)).enc) Z lZ
    rw [lX, lV, ← Nat.add_mul, ← hZ] at this
    rw [this, hre, List.take_left' (by rw [List.length_append, List.length_append, lX, lV, lY, ← Nat.add_mul, ← Nat.add_mul]; congr 1; omega)]
  replace hS := hS.same (B := rowF (rawF 4) 67 (some ⟨g, 0, none⟩) c0 r) 0 rfl (fun hA => row_app_form hA hrl hle hfin) rfl (by simp [Asn.fp])
  refine wl_end ?_
  refine hK16 _ _ ?_
  refine k_seq (by kernel_rfl) fun K17 hK17 => ?_
  refine k_reg 2 (by kernel_rfl) ?_
  refine r_run 0 2 [6] [] hS rfl (L' := [(6, .slice (some ⟨g, 0, none⟩) (p0.length + p2.length) c0)]) (As' := [rowF (rawF 4) 67 (some ⟨g, 0, none⟩) c0 r, rowF (rawF 4) 67 (some ⟨g3, 0, none⟩) c2 p2]) (ob := []) (by kernel_rfl) trivial fun a w hS => ?_
  refine wl_end ?_
  refine hK17 _ _ ?_
  refine k_ret (by kernel_rfl) ?_
  try simp only [Exit.then, Exit.inBlock]
  refine r_ret hS [.tmp 6] [] (xs := [.slice (some ⟨g, 0, none⟩) (p0.length + p2.length) c0]) (ps := []) [0] [] rfl (by kernel_rfl) (fun hA => trivial) rfl (fun F up => trivial) ?_
  exact ⟨some ⟨g, 0, none⟩, c0, by rw [hrl]; rfl, rfl, rfl⟩
def slices_Insert_Row (n : Nat) (p1 : Int) (q0 q1 : List Row) : Option (List Row) := insL 40 q0 p1 q1
@[reducible] def slices_Insert_Row_ct : Ct tab := ⟨141, [.one (.own 0), .one (.d (.int .i64)), .one (.own 1)], [.row 67 (.st 9), .row 67 (.st 9)], [.one (.own 0)], [(none, .row 67 (.st 9))], List Row, fun y => (y, ()), fun y => y.1, fun _ => rfl, fun n x => slices_Insert_Row n x.1 x.2.1 x.2.2.1⟩
theorem slices_Insert_Row_ok : OkC Tryz.prog tab slices_Insert_Row_ct := ins_ok (t := .st 9) (m := 4) (bytes := 40) tabOk rfl Tryz.call141 fun p0 p1 p2 r h => slices_Insert_Row_raw p0 p1 p2 r h

/-! bursary row.Put -/
def row_Put_j1 (n : Nat) : (List Row) × Unit → Option (Int × (List Row)) := fun ⟨v8, _⟩ =>
    some (0, v8)
def row_Put (n : Nat) (p0 : Schema) (p1 : List Row) (p2 : Row) : Option (Int × (List Row)) :=
  (row_CheckList n p0 p1).bind fun y1 =>
  cond (y1 != 0)
    (some (y1, ([] : List Row)))
    ((row_CheckRow n p0 p2).bind fun y2 =>
    cond (y2 != 0)
      (some (y2, ([] : List Row)))
      ((row_place n p1 p2.key).bind fun y3 =>
      (slices_Clone_Row n p1).bind fun y4 =>
      jn (row_Put_j1 n) fun j1 =>
      cond y3.2
        ((idx y4 y3.1).bind fun x9 =>
        (put y4 y3.1 p2).bind fun l10 =>
        j1 (l10, ()))
        (cond ((p1.length : Int) == 60)
          (some (6, ([] : List Row)))
          ((slices_Insert_Row n y3.1 y4 ([p2] : List Row)).bind fun y11 =>
          j1 (y11, ())))))
@[reducible] def row_Put_ct : Ct tab := ⟨112, [.st 1, .one (.d (.sl (.st 9))), .st 9], [], [.one (.own 0), .one (.d (.int .i64))], [(none, .row 67 (.st 9))], (Int × (List Row)), fun y => (y.1, y.2, ()), fun y => (y.1, y.2.1), fun _ => rfl, fun n x => row_Put n x.1 x.2.1 x.2.2.1⟩
theorem row_Put_ok : OkC Tryz.prog tab row_Put_ct := fn_ok (W := ⟨Tryz.prog, tab, tyOf, [row_CheckList_ct, row_CheckRow_ct, row_place_ct, slices_Clone_Row_ct, slices_Insert_Row_ct], addO, dpO, false⟩) ⟨tabOk, ⟨row_CheckList_ok, row_CheckRow_ok, row_place_ok, slices_Clone_Row_ok, slices_Insert_Row_ok, trivial⟩, addOk⟩ (by kernel_rfl) 50 Tryz.f112 (.sq (.n) (.sq (.n) (.sq (.n) (.sq (.n) (.sq (.n) (.sq (.bk none (.sq (.n) (.cd (some ⟨[(12, .one (.own 0))], [.row 67 (.st 9)], []⟩) (.n) (.n)))) (.n))))))) Tryz.func112 Tryz.call112 rfl (by kernel_rfl) (by kernel_rfl) (by kernel_rfl) fun n x => by kernel_rfl

/-!   bursary ideal.turn .insert -/
def ideal_turn_insert_j1 (n : Nat) : Int × (List Bounds) × Int × Int × Int × Int × Int × Int × ByteArray × Int × Answer × (List Row) × Unit → Option (Answer × (List Bounds) × Int × Int × Int × Int × Int × Int × ByteArray × Int × (List Row)) := fun ⟨v4, v5, v6, v7, v8, v9, v10, v11, v12, v13, v14, v15, _⟩ =>
    some ((Answer.mk v4 ([] : List Row) 0), v5, v6, v7, v8, v9, v10, v11, v12, v13, v15)
def ideal_turn_insert (n : Nat) (q0_0 : List Bounds) (q0_1 : Int) (q0_2 : Int) (q0_3 : Int) (q0_4 : Int) (q0_5 : Int) (q0_6 : Int) (q0_7 : ByteArray) (q0_8 : Int) (q1 : List Row) : Option (Answer × (List Bounds) × Int × Int × Int × Int × Int × Int × ByteArray × Int × (List Row)) :=
  (ideal_turn_fits n (Key.mk q0_2 q0_3) q0_6 q0_0 q0_1 q0_2 q0_3 q0_4 q0_5 q0_6 q0_7 q0_8 q1).bind fun y1 =>
  cond (!y1.1)
    (some ((Answer.mk 152 ([] : List Row) 0), y1.2.1, y1.2.2.1, y1.2.2.2.1, y1.2.2.2.2.1, y1.2.2.2.2.2.1, y1.2.2.2.2.2.2.1, y1.2.2.2.2.2.2.2.1, y1.2.2.2.2.2.2.2.2.1, y1.2.2.2.2.2.2.2.2.2.1, y1.2.2.2.2.2.2.2.2.2.2))
    ((row_Find n y1.2.2.2.2.2.2.2.2.2.2 (Key.mk y1.2.2.2.1 y1.2.2.2.2.1)).bind fun y2 =>
    cond y2.2
      (some ((Answer.mk 5 ([] : List Row) 0), y1.2.1, y1.2.2.1, y1.2.2.2.1, y1.2.2.2.2.1, y1.2.2.2.2.2.1, y1.2.2.2.2.2.2.1, y1.2.2.2.2.2.2.2.1, y1.2.2.2.2.2.2.2.2.1, y1.2.2.2.2.2.2.2.2.2.1, y1.2.2.2.2.2.2.2.2.2.2))
      ((row_Put n (Schema.mk y1.2.1) y1.2.2.2.2.2.2.2.2.2.2 (Row.mk (Key.mk y1.2.2.2.1 y1.2.2.2.2.1) y1.2.2.2.2.2.2.2.1 y1.2.2.2.2.2.2.2.2.1)).bind fun y3 =>
      jn (ideal_turn_insert_j1 n) fun j1 =>
      cond (y3.1 == 0)
        (j1 (y3.1, y1.2.1, y1.2.2.1, y1.2.2.2.1, y1.2.2.2.2.1, y1.2.2.2.2.2.1, y1.2.2.2.2.2.2.1, y1.2.2.2.2.2.2.2.1, y1.2.2.2.2.2.2.2.2.1, y1.2.2.2.2.2.2.2.2.2.1, (Answer.mk 0 ([] : List Row) 0), y3.2, ()))
        (j1 (y3.1, y1.2.1, y1.2.2.1, y1.2.2.2.1, y1.2.2.2.2.1, y1.2.2.2.2.2.1, y1.2.2.2.2.2.2.1, y1.2.2.2.2.2.2.2.1, y1.2.2.2.2.2.2.2.2.1, y1.2.2.2.2.2.2.2.2.2.1, (Answer.mk 0 ([] : List Row) 0), y1.2.2.2.2.2.2.2.2.2.2, ()))))
@[reducible] def ideal_turn_insert_ct : Ct tab := ⟨91, [.one (.box 0 0)], [.box [.d (.sl (.st 0)), .own 1, .d (.int .i64), .d (.int .i64), .d (.int .u16), .d (.int .i64), .d (.int .u16), .d (.int .i64), .d .str, .d (.int .i64)], .row 67 (.st 9)], [.st 11], [(some 0, .box [.d (.sl (.st 0)), .own 1, .d (.int .i64), .d (.int .i64), .d (.int .u16), .d (.int .i64), .d (.int .u16), .d (.int .i64), .d .str, .d (.int .i64)]), (none, .row 67 (.st 9))], (Answer × (List Bounds) × Int × Int × Int × Int × Int × Int × ByteArray × Int × (List Row)), fun y => (y.1, y.2.1, y.2.2.1, y.2.2.2.1, y.2.2.2.2.1, y.2.2.2.2.2.1, y.2.2.2.2.2.2.1, y.2.2.2.2.2.2.2.1, y.2.2.2.2.2.2.2.2.1, y.2.2.2.2.2.2.2.2.2.1, y.2.2.2.2.2.2.2.2.2.2, ()), fun y => (y.1, y.2.1, y.2.2.1, y.2.2.2.1, y.2.2.2.2.1, y.2.2.2.2.2.1, y.2.2.2.2.2.2.1, y.2.2.2.2.2.2.2.1, y.2.2.2.2.2.2.2.2.1, y.2.2.2.2.2.2.2.2.2.1, y.2.2.2.2.2.2.2.2.2.2.1), fun _ => rfl, fun n x => ideal_turn_insert n x.1 x.2.1 x.2.2.1 x.2.2.2.1 x.2.2.2.2.1 x.2.2.2.2.2.1 x.2.2.2.2.2.2.1 x.2.2.2.2.2.2.2.1 x.2.2.2.2.2.2.2.2.1 x.2.2.2.2.2.2.2.2.2.1⟩
theorem ideal_turn_insert_ok : OkC Tryz.prog tab ideal_turn_insert_ct := fn_ok (W := ⟨Tryz.prog, tab, tyOf, [ideal_turn_fits_ct, row_Find_ct, row_Put_ct], addO, dpO, false⟩) ⟨tabOk, ⟨ideal_turn_fits_ok, row_Find_ok, row_Put_ok, trivial⟩, addOk⟩ (by kernel_rfl) 72 Tryz.f91 (.sq (.n) (.sq (.n) (.sq (.n) (.sq (.n) (.sq (.sq (.n) (.cd (some ⟨[(0, .one (.box 0 0)), (2, .one (.box 1 0)), (6, .one (.d (.int .i64)))], [.box [.d (.sl (.st 0)), .own 2, .d (.int .i64), .d (.int .i64), .d (.int .u16), .d (.int .i64), .d (.int .u16), .d (.int .i64), .d .str, .d (.int .i64)], .bst 11, .row 67 (.st 9)], [(0, 0)]⟩) (.n) (.n))) (.n)))))) Tryz.func91 Tryz.call91 rfl (by kernel_rfl) (by kernel_rfl) (by kernel_rfl) fun n x => by kernel_rfl

theorem slices_Delete_Row_raw {a0 : Option Addr} {c0 : Nat} (p0 : List (Raw 4)) (p1 p2 : Int) (r : List (Raw 4)) (h : delL p0 p1 p2 = some r) :
    Meets Tryz.prog 114 #[.slice a0 p0.length c0, .int .i64 p1, .int .i64 p2] [rowF (rawF 4) 67 a0 c0 p0] [] fun v A P => ∃ (a : Option Addr) (c : Nat), v = .slice a r.length c ∧ A = [rowF (rawF 4) 67 a c r] ∧ P = [] := by
  unfold delL at h
  split at h
  case isFalse => cases h
  rename_i hb
  obtain ⟨hb0, hb1, hb2⟩ := hb
  obtain rfl := someI h
  obtain ⟨i, hi⟩ : ∃ i : Nat, p1 = (i : Int) := ⟨p1.toNat, by omega⟩
  obtain ⟨j, hj⟩ : ∃ j : Nat, p2 = (j : Int) := ⟨p2.toNat, by omega⟩
  subst hi hj
  simp only [Int.toNat_natCast]
  have hij : i ≤ j := by omega
  have hjl : j ≤ p0.length := by omega
  refine meets_enter 33 Tryz.func114 Tryz.call114 rfl (by kernel_rfl) (by simp) fun C a w hS => ?_
  have hc : p0.length ≤ c0 := (row_len (hS.st.own _ (List.mem_cons_self ..))).2.1
  refine k_seq (by kernel_rfl) fun K1 hK1 => ?_
  refine k_reg 1 (by kernel_rfl) ?_
  refine r_run 0 1 [0, 1, 2] [] hS rfl (L' := [(0, .slice a0 p0.length c0), (1, .int .i64 i), (2, .int .i64 j)]) (As' := [rowF (rawF 4) 67 a0 c0 p0]) (ob := []) (by kernel_rfl) trivial fun a w hS => ?_
  refine wl_end ?_
  refine hK1 _ _ ?_
  refine k_seq (by kernel_rfl) fun K2 hK2 => ?_
  refine k_reg 6 (by kernel_rfl) ?_
  refine r_run 0 6 [0, 1, 2] [] hS rfl (L' := [(0, .slice a0 p0.length c0), (1, .int .i64 i), (2, .int .i64 j)]) (As' := [rowF (rawF 4) 67 a0 c0 p0]) (ob := [fun _ => 0 ≤ (i : Int) ∧ (i : Int) ≤ (j : Int) ∧ (j : Int) ≤ (p0.length : Int) ∧ (p0.length : Int) ≤ (c0 : Int)]) (by kernel_rfl) ⟨Bx.c ⟨hb0, hb1, hb2, by omega⟩, trivial⟩ fun a w hS => ?_
  refine wl_end ?_
  refine hK2 _ _ ?_
  refine k_seq (by kernel_rfl) fun K3 hK3 => ?_
  refine k_seq (by kernel_rfl) fun K4 hK4 => ?_
  refine k_reg 3 (by kernel_rfl) ?_
  refine r_run 0 3 [0, 1, 2, 16] [] hS rfl (L' := [(0, .slice a0 p0.length c0), (1, .int .i64 i), (2, .int .i64 j), (16, .bool ((i : Int) == (j : Int)))]) (As' := [rowF (rawF 4) 67 a0 c0 p0]) (ob := []) (by kernel_rfl) trivial fun a w hS => ?_
  refine wl_end ?_
  refine hK4 _ _ ?_
  refine k_cond ((i : Int) == (j : Int)) hS.has (by kernel_rfl) (by kernel_rfl) (by kernel_rfl) (fun hq => ?_) (fun hq => ?_)
  · have hij : i = j := by
      have := of_decide_eq_true (p := (i : Int) = (j : Int)) (by simpa using hq)
      omega
    subst hij
    refine k_seq (by kernel_rfl) fun K5 hK5 => ?_
    refine k_reg 2 (by kernel_rfl) ?_
    refine r_run 0 2 [6] [] hS rfl (L' := [(6, .slice a0 p0.length c0)]) (As' := [rowF (rawF 4) 67 a0 c0 p0]) (ob := []) (by kernel_rfl) trivial fun a w hS => ?_
    refine wl_end ?_
    refine hK5 _ _ ?_
    refine k_ret (by kernel_rfl) ?_
    try simp only [Exit.then, Exit.inBlock]
    refine r_ret hS [.tmp 6] [] (xs := [.slice a0 p0.length c0]) (ps := []) [0] [] rfl (by kernel_rfl) (fun hA => trivial) rfl (fun F up => trivial) ?_
    rw [List.take_append_drop]
    exact ⟨a0, c0, rfl, rfl, rfl⟩
  · have hne : i ≠ j := fun e => by
      subst e
      simp at hq
    have hlt : i < j := by omega
    obtain ⟨g, rfl⟩ := row_block (hS.st.own _ (List.mem_cons_self ..)) (by omega)
    refine k_skip (by kernel_rfl) ?_
    refine hK3 _ _ ?_
    refine k_seq (by kernel_rfl) fun K5 hK5 => ?_
    refine k_reg 3 (by kernel_rfl) ?_
    refine r_run 0 3 [0, 1, 2, 7] [] hS rfl (L' := [(0, .slice (some ⟨g, 0, none⟩) p0.length c0), (1, .int .i64 i), (2, .int .i64 j), (7, .int .i64 (p0.length : Int))]) (As' := [rowF (rawF 4) 67 (some ⟨g, 0, none⟩) c0 p0]) (ob := []) (by kernel_rfl) trivial fun a w hS => ?_
    refine wl_end ?_
    refine hK5 _ _ ?_
    refine k_seq (by kernel_rfl) fun K6 hK6 => ?_
    refine k_draw 6 8 [.val (.slice (some ⟨g, 0, none⟩) p0.length c0), .val (.int .i64 i), .val (.slice (slA (some ⟨g, 0, none⟩) 0 c0 ((rawF 4)).sz) i c0), .val (.slice (some ⟨g, 0, none⟩) p0.length c0), .val (.int .i64 j), .val (.slice (slA (some ⟨g, 0, none⟩) j c0 ((rawF 4)).sz) (p0.length - j) (c0 - j))] [] [(0, []), (1, []), (2, []), (3, []), (4, []), (5, [])] [] (ob := [fun _ => (0 : Int) ≤ 0 ∧ (0 : Int) ≤ (i : Int) ∧ (i : Int) ≤ (c0 : Int), fun _ => 0 ≤ (j : Int) ∧ (j : Int) ≤ (p0.length : Int) ∧ (p0.length : Int) ≤ (c0 : Int)]) (by kernel_rfl) (by kernel_rfl) hS (by kernel_rfl) (fun F N0 => by kernel_rfl) (by kernel_rfl) (by kernel_rfl) (by kernel_rfl) (by kernel_rfl) ⟨Bx.c ⟨by omega, by omega, by omega⟩, Bx.c ⟨by omega, by omega, by omega⟩, trivial⟩ ?_ ?_
    · exact trivial
    intro V a w e hS hq
    refine r_bltS 6 rfl 0 (.row (some ⟨g, 0, none⟩) c0 67 ((rawF 4)).sz (i + (p0.length - j)) ((p0.flatMap ((rawF 4)).enc).take (i * ((rawF 4)).sz) ++ (p0.flatMap ((rawF 4)).enc).drop (j * ((rawF 4)).sz))) (d := some 26) (b := .append) (ts := #[57, 57]) (ty := 57) (vs := #[.slice (slA (some ⟨g, 0, none⟩) 0 c0 ((rawF 4)).sz) i c0, .slice (slA (some ⟨g, 0, none⟩) j c0 ((rawF 4)).sz) (p0.length - j) (c0 - j)]) hS (by kernel_rfl) rfl (fun hA => run_cut_row (t := 57) (ty := 57) (inf := Tryz.t67) (by kernel_rfl) (by kernel_rfl) rfl hA (flat_one p0) hij hjl) rfl (by simp [Asn.fp]) fun a w hS => ?_
    have hn' : p0.length - (i + (p0.length - j)) = j - i := by omega
    have hs0 : slA (some (⟨g, 0, none⟩ : Addr)) (i + (p0.length - j)) c0 ((rawF 4)).sz = some ⟨g, (i + (p0.length - j)) * ((rawF 4)).sz, none⟩ := by
      unfold slA; rw [if_neg (by omega)]; simp only [Option.map_some, addr_add0]
    refine r_run 7 1 [0, 7] [] hS rfl (L' := [(0, .slice (some ⟨g, 0, none⟩) (i + (p0.length - j)) c0), (7, .int .i64 (p0.length : Int))]) (As' := [.row (some ⟨g, 0, none⟩) c0 67 ((rawF 4)).sz (i + (p0.length - j)) ((p0.flatMap ((rawF 4)).enc).take (i * ((rawF 4)).sz) ++ (p0.flatMap ((rawF 4)).enc).drop (j * ((rawF 4)).sz))]) (ob := []) (by kernel_rfl) trivial fun a w hS => ?_
    refine wl_end ?_
    refine hK6 _ _ ?_
    refine k_seq (by kernel_rfl) fun K7 hK7 => ?_
    refine k_reg 6 (by kernel_rfl) ?_
    refine r_run 0 5 [0, 31] [.as 31 (.slice (some ⟨g, (i + (p0.length - j)) * ((rawF 4)).sz, none⟩) (j - i) (c0 - (i + (p0.length - j))))] hS rfl (L' := [(0, .slice (some ⟨g, 0, none⟩) (i + (p0.length - j)) c0), (31, .slice (some ⟨g, (i + (p0.length - j)) * ((rawF 4)).sz, none⟩) (j - i) (c0 - (i + (p0.length - j))))]) (As' := [.row (some ⟨g, 0, none⟩) c0 67 ((rawF 4)).sz (i + (p0.length - j)) ((p0.flatMap ((rawF 4)).enc).take (i * ((rawF 4)).sz) ++ (p0.flatMap ((rawF 4)).enc).drop (j * ((rawF 4)).sz))]) (ob := [fun _ => 0 ≤ ((i + (p0.length - j) : Nat) : Int) ∧ ((i + (p0.length - j) : Nat) : Int) ≤ (p0.length : Int) ∧ (p0.length : Int) ≤ (c0 : Int), fun _ => Value.slice (slA (some ⟨g, 0, none⟩) (i + (p0.length - j)) c0 ((rawF 4)).sz) (p0.length - (i + (p0.length - j))) (c0 - (i + (p0.length - j))) = .slice (some ⟨g, (i + (p0.length - j)) * ((rawF 4)).sz, none⟩) (j - i) (c0 - (i + (p0.length - j)))]) (by kernel_rfl) ⟨Bx.c ⟨by omega, by omega, by omega⟩, Bx.c (by rw [hs0, hn']), trivial⟩ fun a w hS => ?_
    obtain ⟨ds, hd1, hd2, hd3, hd4⟩ := row_full (hS.st.own _ (List.mem_cons_self ..))
    replace hS := hS.same (B := .row (some ⟨g, 0, none⟩) c0 67 ((rawF 4)).sz c0 ds) 0 rfl (fun _ => hd4) rfl (by simp [Asn.fp])
    refine r_bltS 5 rfl 0 (.row (some ⟨g, 0, none⟩) c0 67 ((rawF 4)).sz c0 (spl ds ((i + (p0.length - j)) * ((rawF 4)).sz) (Builtin.zeroCells ((Tryz.t67.zero).getD undef).cells (j - i)).toList)) (d := none) (b := .clear) (ts := #[57]) (ty := 0) (vs := #[.slice (some ⟨g, (i + (p0.length - j)) * ((rawF 4)).sz, none⟩) (j - i) (c0 - (i + (p0.length - j)))]) hS (by kernel_rfl) rfl (fun hA => run_clear_row (t := 57) (ty := 0) (inf := Tryz.t67) (by kernel_rfl) (by kernel_rfl) (by kernel_rfl) (by kernel_rfl) (oneAll (by kernel_rfl)) hA (by rw [← Nat.add_mul]; exact Nat.mul_le_mul_right _ (by omega))) rfl (by simp [Asn.fp]) fun a w hS => ?_
    have hcut : (spl ds ((i + (p0.length - j)) * ((rawF 4)).sz) (Builtin.zeroCells ((Tryz.t67.zero).getD undef).cells (j - i)).toList).take ((i + (p0.length - j)) * ((rawF 4)).sz) = (p0.take i ++ p0.drop j).flatMap ((rawF 4)).enc := by
      have hle : (i + (p0.length - j)) * ((rawF 4)).sz ≤ ds.length := by rw [hd2]; exact Nat.mul_le_mul_right _ hd3
      unfold spl
      rw [List.append_assoc, List.take_left' (by rw [List.length_take]; omega), hd1, List.flatMap_append, flat_take, flat_drop]
    have hlen : (p0.take i ++ p0.drop j).length = i + (p0.length - j) := by simp; omega
    replace hS := hS.same (B := rowF (rawF 4) 67 (some ⟨g, 0, none⟩) c0 (p0.take i ++ p0.drop j)) 0 rfl (fun hA => by
      have := row_cut hA (i + (p0.length - j)) (by omega)
      rw [hcut] at this
      unfold rowF
      rw [hlen]
      exact this) rfl (by simp [Asn.fp])
    refine wl_end ?_
    refine hK7 _ _ ?_
    refine k_seq (by kernel_rfl) fun K8 hK8 => ?_
    refine k_reg 2 (by kernel_rfl) ?_
    refine r_run 0 2 [6] [] hS rfl (L' := [(6, .slice (some ⟨g, 0, none⟩) (i + (p0.length - j)) c0)]) (As' := [rowF (rawF 4) 67 (some ⟨g, 0, none⟩) c0 (p0.take i ++ p0.drop j)]) (ob := []) (by kernel_rfl) trivial fun a w hS => ?_
    refine wl_end ?_
    refine hK8 _ _ ?_
    refine k_ret (by kernel_rfl) ?_
    try simp only [Exit.then, Exit.inBlock]
    refine r_ret hS [.tmp 6] [] (xs := [.slice (some ⟨g, 0, none⟩) (i + (p0.length - j)) c0]) (ps := []) [0] [] rfl (by kernel_rfl) (fun hA => trivial) rfl (fun F up => trivial) ?_
    exact ⟨some ⟨g, 0, none⟩, c0, by rw [hlen]; rfl, rfl, rfl⟩
def slices_Delete_Row (n : Nat) (p1 p2 : Int) (q0 : List Row) : Option (List Row) := delL q0 p1 p2
@[reducible] def slices_Delete_Row_ct : Ct tab := ⟨114, [.one (.own 0), .one (.d (.int .i64)), .one (.d (.int .i64))], [.row 67 (.st 9)], [.one (.own 0)], [(none, .row 67 (.st 9))], List Row, fun y => (y, ()), fun y => y.1, fun _ => rfl, fun n x => slices_Delete_Row n x.1 x.2.1 x.2.2.1⟩
theorem slices_Delete_Row_ok : OkC Tryz.prog tab slices_Delete_Row_ct := del_ok (t := .st 9) (m := 4) tabOk rfl Tryz.call114 fun p0 p1 p2 r h => slices_Delete_Row_raw p0 p1 p2 r h

end
end Go.Proofs.YtlfjoaipbpendaaGreatDoor
