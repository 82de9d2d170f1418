/- Functions of the program: plain twins and their contracts, printed by program. -/
import Derived.Test.YtjgcapbmhcmcfaaTypes
namespace Go.Proofs.Ytjgcapbmhcmcfaa
open Go Go.Bur Go.RowKit
set_option linter.unusedVariables false
set_option linter.unusedSimpArgs false
set_option maxRecDepth 100000
noncomputable section
/-! bursary bursarylaw11.leaf -/
def law11_leaf_l1 (n : Nat) : Nat → (List Int) × Int × Int × Content × Int × (List Row) × (List Kid) × Unit → Option Content := loopF fun r1 ⟨v1, v2, v3, v4, v5, v6, v7, _⟩ =>
    cond (decide (v3 < v2))
      ((idx v1 v3).bind fun x8 =>
      (app 40 v6 ([(Row.mk (Key.mk 0 x8) 0 ByteArray.empty)] : List Row)).bind fun l9 =>
      r1 (v1, v2, (IntKind.wrap .i64 (v3 + 1)), v4, v5, l9, v7, ()))
      (some (Content.mk v5 v6 v7))
def law11_leaf (n : Nat) (p0 : List Int) : Option Content :=
  law11_leaf_l1 n n (p0, (p0.length : Int), 0, (Content.mk 0 ([] : List Row) ([] : List Kid)), 1, ([] : List Row), ([] : List Kid), ())
@[reducible] def law11_leaf_ct : Ct tab := ⟨38, [.one (.d (.sl (.int .u16)))], [], [.st 3], [], Content, fun y => (y, ()), fun y => y.1, fun _ => rfl, fun n x => law11_leaf n x.1⟩
theorem law11_leaf_ok : OkC Try.prog tab law11_leaf_ct := fn_ok (W := ⟨Try.prog, tab, tyOf, []⟩) ⟨tabOk, trivial⟩ (by kernel_rfl) 23 Try.f38 (.sq (.n) (.sq (.n) (.sq (.sq (.n) (.bk none (.lp ⟨[(2, .one (.box 0 0)), (3, .one (.box 1 0)), (7, .one (.d (.sl (.int .u16)))), (8, .one (.d (.int .i64))), (9, .one (.d (.int .i64)))], [.bst 3, .box [.d (.int .i64), .own 2, .own 3], .row 49 (.st 1), .row 54 (.st 2)], []⟩ (.n)))) (.n)))) Try.func38 Try.call38 rfl (by kernel_rfl) (by kernel_rfl) (by kernel_rfl) fun n x => by kernel_rfl

/-! bursary codec.leaf 1 -/
def codec_leaf_1 (n : Nat) (p0 : Row) : Option Key :=
  some p0.key
@[reducible] def codec_leaf_1_ct : Ct tab := ⟨76, [.st 1], [], [.st 0], [], Key, fun y => (y, ()), fun y => y.1, fun _ => rfl, fun n x => codec_leaf_1 n x.1⟩
theorem codec_leaf_1_ok : OkC Try.prog tab codec_leaf_1_ct := fn_ok (W := ⟨Try.prog, tab, tyOf, []⟩) ⟨tabOk, trivial⟩ (by kernel_rfl) 5 Try.f76 (.n) Try.func76 Try.call76 rfl (by kernel_rfl) (by kernel_rfl) (by kernel_rfl) fun n x => by kernel_rfl

/-! bursary codec.table -/
def codec_table (n : Nat) (p0 : Int) : Option Bool :=
  jn (fun (b1 : Bool) =>
      some b1) fun k2 =>
  cond (decide (p0 ≥ 0))
    (k2 (decide (p0 < 3)))
    (k2 false)
@[reducible] def codec_table_ct : Ct tab := ⟨81, [.one (.d (.int .i64))], [], [.one (.d .bool)], [], Bool, fun y => (y, ()), fun y => y.1, fun _ => rfl, fun n x => codec_table n x.1⟩
theorem codec_table_ok : OkC Try.prog tab codec_table_ct := fn_ok (W := ⟨Try.prog, tab, tyOf, []⟩) ⟨tabOk, trivial⟩ (by kernel_rfl) 9 Try.f81 (.n) Try.func81 Try.call81 rfl (by kernel_rfl) (by kernel_rfl) (by kernel_rfl) fun n x => by kernel_rfl

/-! bursary codec.CheckRow -/
def codec_CheckRow (n : Nat) (p0 : Row) : Option Int :=
  (codec_table n p0.key.table).bind fun y1 =>
  jn (fun (b2 : Bool) =>
      cond b2
        (some 151)
        (some 0)) fun k3 =>
  cond (!y1)
    (k3 true)
    (k3 (decide ((p0.note.size : Int) > 8)))
@[reducible] def codec_CheckRow_ct : Ct tab := ⟨62, [.st 1], [], [.one (.d (.int .i64))], [], Int, fun y => (y, ()), fun y => y.1, fun _ => rfl, fun n x => codec_CheckRow n x.1⟩
theorem codec_CheckRow_ok : OkC Try.prog tab codec_CheckRow_ct := fn_ok (W := ⟨Try.prog, tab, tyOf, [codec_table_ct]⟩) ⟨tabOk, ⟨codec_table_ok, trivial⟩⟩ (by kernel_rfl) 14 Try.f62 (.n) Try.func62 Try.call62 rfl (by kernel_rfl) (by kernel_rfl) (by kernel_rfl) fun n x => by kernel_rfl

/-! bursary codec.leaf 2 -/
def codec_leaf_2 (n : Nat) (p0 : Int) (p1 : Row) : Option Bool :=
  (codec_CheckRow n p1).bind fun y1 =>
  some (y1 == 0)
@[reducible] def codec_leaf_2_ct : Ct tab := ⟨77, [.one (.d (.int .i64)), .st 1], [], [.one (.d .bool)], [], Bool, fun y => (y, ()), fun y => y.1, fun _ => rfl, fun n x => codec_leaf_2 n x.1 x.2.1⟩
theorem codec_leaf_2_ok : OkC Try.prog tab codec_leaf_2_ct := fn_ok (W := ⟨Try.prog, tab, tyOf, [codec_CheckRow_ct]⟩) ⟨tabOk, ⟨codec_CheckRow_ok, trivial⟩⟩ (by kernel_rfl) 8 Try.f77 (.n) Try.func77 Try.call77 rfl (by kernel_rfl) (by kernel_rfl) (by kernel_rfl) fun n x => by kernel_rfl

/-! cmp.isNaN int  -/
def cmp_isNaN_int (n : Nat) (p0 : Int) : Option Bool :=
  some (p0 != p0)
@[reducible] def cmp_isNaN_int_ct : Ct tab := ⟨89, [.one (.d (.int .i64))], [], [.one (.d .bool)], [], Bool, fun y => (y, ()), fun y => y.1, fun _ => rfl, fun n x => cmp_isNaN_int n x.1⟩
theorem cmp_isNaN_int_ok : OkC Try.prog tab cmp_isNaN_int_ct := fn_ok (W := ⟨Try.prog, tab, tyOf, []⟩) ⟨tabOk, trivial⟩ (by kernel_rfl) 6 Try.f89 (.n) Try.func89 Try.call89 rfl (by kernel_rfl) (by kernel_rfl) (by kernel_rfl) fun n x => by kernel_rfl

/-! cmp.Compare int  -/
def cmp_Compare_int (n : Nat) (p0 : Int) (p1 : Int) : Option Int :=
  (cmp_isNaN_int n p0).bind fun y1 =>
  (cmp_isNaN_int n p1).bind fun y2 =>
  cond y1
    (cond y2
      (some 0)
      (some (-1)))
    (cond y2
      (some 1)
      (cond (decide (p0 < p1))
        (some (-1))
        (cond (decide (p0 > p1))
          (some 1)
          (some 0))))
@[reducible] def cmp_Compare_int_ct : Ct tab := ⟨84, [.one (.d (.int .i64)), .one (.d (.int .i64))], [], [.one (.d (.int .i64))], [], Int, fun y => (y, ()), fun y => y.1, fun _ => rfl, fun n x => cmp_Compare_int n x.1 x.2.1⟩
theorem cmp_Compare_int_ok : OkC Try.prog tab cmp_Compare_int_ct := fn_ok (W := ⟨Try.prog, tab, tyOf, [cmp_isNaN_int_ct]⟩) ⟨tabOk, ⟨cmp_isNaN_int_ok, trivial⟩⟩ (by kernel_rfl) 20 Try.f84 (.n) Try.func84 Try.call84 rfl (by kernel_rfl) (by kernel_rfl) (by kernel_rfl) fun n x => by kernel_rfl

/-! cmp.isNaN uint16  -/
def cmp_isNaN_uint16 (n : Nat) (p0 : Int) : Option Bool :=
  some (p0 != p0)
@[reducible] def cmp_isNaN_uint16_ct : Ct tab := ⟨90, [.one (.d (.int .u16))], [], [.one (.d .bool)], [], Bool, fun y => (y, ()), fun y => y.1, fun _ => rfl, fun n x => cmp_isNaN_uint16 n x.1⟩
theorem cmp_isNaN_uint16_ok : OkC Try.prog tab cmp_isNaN_uint16_ct := fn_ok (W := ⟨Try.prog, tab, tyOf, []⟩) ⟨tabOk, trivial⟩ (by kernel_rfl) 6 Try.f90 (.n) Try.func90 Try.call90 rfl (by kernel_rfl) (by kernel_rfl) (by kernel_rfl) fun n x => by kernel_rfl

/-! cmp.Compare uint16  -/
def cmp_Compare_uint16 (n : Nat) (p0 : Int) (p1 : Int) : Option Int :=
  (cmp_isNaN_uint16 n p0).bind fun y1 =>
  (cmp_isNaN_uint16 n p1).bind fun y2 =>
  cond y1
    (cond y2
      (some 0)
      (some (-1)))
    (cond y2
      (some 1)
      (cond (decide (p0 < p1))
        (some (-1))
        (cond (decide (p0 > p1))
          (some 1)
          (some 0))))
@[reducible] def cmp_Compare_uint16_ct : Ct tab := ⟨85, [.one (.d (.int .u16)), .one (.d (.int .u16))], [], [.one (.d (.int .i64))], [], Int, fun y => (y, ()), fun y => y.1, fun _ => rfl, fun n x => cmp_Compare_uint16 n x.1 x.2.1⟩
theorem cmp_Compare_uint16_ok : OkC Try.prog tab cmp_Compare_uint16_ct := fn_ok (W := ⟨Try.prog, tab, tyOf, [cmp_isNaN_uint16_ct]⟩) ⟨tabOk, ⟨cmp_isNaN_uint16_ok, trivial⟩⟩ (by kernel_rfl) 20 Try.f85 (.n) Try.func85 Try.call85 rfl (by kernel_rfl) (by kernel_rfl) (by kernel_rfl) fun n x => by kernel_rfl

/-! cmp.Or int  -/
def cmp_Or_int_l1 (n : Nat) : Nat → Int × (List Int) × Int × Int × Unit → Option Int := loopF fun r1 ⟨v1, v2, v3, v4, _⟩ =>
    cond (decide (v4 < v3))
      ((idx v2 v4).bind fun x5 =>
      cond (x5 != v1)
        (some x5)
        (r1 (v1, v2, v3, (IntKind.wrap .i64 (v4 + 1)), ())))
      (some v1)
def cmp_Or_int (n : Nat) (p0 : List Int) : Option Int :=
  cmp_Or_int_l1 n n (0, p0, (p0.length : Int), 0, ())
@[reducible] def cmp_Or_int_ct : Ct tab := ⟨83, [.one (.d (.sl (.int .i64)))], [], [.one (.d (.int .i64))], [], Int, fun y => (y, ()), fun y => y.1, fun _ => rfl, fun n x => cmp_Or_int n x.1⟩
theorem cmp_Or_int_ok : OkC Try.prog tab cmp_Or_int_ct := fn_ok (W := ⟨Try.prog, tab, tyOf, []⟩) ⟨tabOk, trivial⟩ (by kernel_rfl) 18 Try.f83 (.sq (.n) (.sq (.n) (.sq (.sq (.n) (.bk none (.lp ⟨[(3, .one (.d (.int .i64))), (6, .one (.d (.sl (.int .i64)))), (7, .one (.d (.int .i64))), (8, .one (.d (.int .i64)))], [], []⟩ (.n)))) (.n)))) Try.func83 Try.call83 rfl (by kernel_rfl) (by kernel_rfl) (by kernel_rfl) fun n x => by kernel_rfl

/-! bursary row.Compare -/
def row_Compare (n : Nat) (p0 : Key) (p1 : Key) : Option Int :=
  (cmp_Compare_int n p0.table p1.table).bind fun y1 =>
  (cmp_Compare_uint16 n p0.id p1.id).bind fun y2 =>
  (cmp_Or_int n ([y1, y2] : List Int)).bind fun y3 =>
  some y3
@[reducible] def row_Compare_ct : Ct tab := ⟨65, [.st 0, .st 0], [], [.one (.d (.int .i64))], [], Int, fun y => (y, ()), fun y => y.1, fun _ => rfl, fun n x => row_Compare n x.1 x.2.1⟩
theorem row_Compare_ok : OkC Try.prog tab row_Compare_ct := fn_ok (W := ⟨Try.prog, tab, tyOf, [cmp_Compare_int_ct, cmp_Compare_uint16_ct, cmp_Or_int_ct]⟩) ⟨tabOk, ⟨cmp_Compare_int_ok, cmp_Compare_uint16_ok, cmp_Or_int_ok, trivial⟩⟩ (by kernel_rfl) 17 Try.f65 (.n) Try.func65 Try.call65 rfl (by kernel_rfl) (by kernel_rfl) (by kernel_rfl) fun n x => by kernel_rfl

/-! bursary codec.rises bursary api.Row  -/
def codec_rises_Row_f76_f77_j1 (n : Nat) : Bool × Unit → Option Bool := fun ⟨v1, _⟩ =>
    some v1
def codec_rises_Row_f76_f77_l2 (n : Nat) (j1 : Bool × Unit → Option Bool) : Nat → (List Row) × Bool × (List Row) × Int × Int × Unit → Option Bool := loopF fun r2 ⟨v2, v3, v4, v5, v6, _⟩ =>
    cond (decide (v6 < v5))
      ((idx v4 v6).bind fun x7 =>
      jn (fun (b8 : Bool) =>
          jn (fun (b10 : Bool) =>
              cond (!b10)
                (j1 (b10, ()))
                (r2 (v2, b10, v4, v5, (IntKind.wrap .i64 (v6 + 1)), ()))) fun k11 =>
          cond b8
            (jn (fun (b12 : Bool) =>
                k11 b12) fun k13 =>
            cond (v6 == 0)
              (k13 true)
              ((idx v2 (IntKind.wrap .i64 (v6 - 1))).bind fun x14 =>
              (codec_leaf_1 n x14).bind fun y15 =>
              (codec_leaf_1 n x7).bind fun y16 =>
              (row_Compare n y15 y16).bind fun y17 =>
              k13 (decide (y17 < 0))))
            (k11 false)) fun k9 =>
      cond v3
        ((codec_leaf_2 n v6 x7).bind fun y18 =>
        k9 y18)
        (k9 false))
      (j1 (v3, ()))
def codec_rises_Row_f76_f77 (n : Nat) (p0 : List Row) (p1 : Int) : Option Bool :=
  jn (codec_rises_Row_f76_f77_j1 n) fun j1 =>
  codec_rises_Row_f76_f77_l2 n j1 n (p0, (decide ((p0.length : Int) ≤ p1)), p0, (p0.length : Int), 0, ())
@[reducible] def codec_rises_Row_f76_f77_ct : Ct tab := ⟨75, [.one (.d (.sl (.st 1))), .one (.d (.int .i64)), .one (.fn 76 []), .one (.fn 77 [])], [], [.one (.d .bool)], [], Bool, fun y => (y, ()), fun y => y.1, fun _ => rfl, fun n x => codec_rises_Row_f76_f77 n x.1 x.2.1⟩
theorem codec_rises_Row_f76_f77_ok : OkC Try.prog tab codec_rises_Row_f76_f77_ct := fn_ok (W := ⟨Try.prog, tab, tyOf, [codec_leaf_1_ct, row_Compare_ct, codec_leaf_2_ct]⟩) ⟨tabOk, ⟨codec_leaf_1_ok, row_Compare_ok, codec_leaf_2_ok, trivial⟩⟩ (by kernel_rfl) 52 Try.f75 (.sq (.n) (.sq (.n) (.sq (.n) (.sq (.sq (.n) (.bk (some ⟨[(2, .one (.fn 76 [])), (3, .one (.fn 77 [])), (9, .one (.d .bool))], [], []⟩) (.lp ⟨[(0, .one (.d (.sl (.st 1)))), (2, .one (.fn 76 [])), (3, .one (.fn 77 [])), (9, .one (.d .bool)), (16, .one (.d (.sl (.st 1)))), (17, .one (.d (.int .i64))), (18, .one (.d (.int .i64)))], [], []⟩ (.n)))) (.n))))) Try.func75 Try.call75 rfl (by kernel_rfl) (by kernel_rfl) (by kernel_rfl) fun n x => by kernel_rfl

/-! bursary codec.leaf -/
def codec_leaf (n : Nat) (p0 : List Row) : Option Bool :=
  (codec_rises_Row_f76_f77 n p0 4).bind fun y1 =>
  some y1
@[reducible] def codec_leaf_ct : Ct tab := ⟨58, [.one (.d (.sl (.st 1)))], [], [.one (.d .bool)], [], Bool, fun y => (y, ()), fun y => y.1, fun _ => rfl, fun n x => codec_leaf n x.1⟩
theorem codec_leaf_ok : OkC Try.prog tab codec_leaf_ct := fn_ok (W := ⟨Try.prog, tab, tyOf, [codec_rises_Row_f76_f77_ct]⟩) ⟨tabOk, ⟨codec_rises_Row_f76_f77_ok, trivial⟩⟩ (by kernel_rfl) 5 Try.f58 (.n) Try.func58 Try.call58 rfl (by kernel_rfl) (by kernel_rfl) (by kernel_rfl) fun n x => by kernel_rfl

/-! bursary codec.inner 1 -/
def codec_inner_1 (n : Nat) (p0 : Kid) : Option Key :=
  some p0.least
@[reducible] def codec_inner_1_ct : Ct tab := ⟨79, [.st 2], [], [.st 0], [], Key, fun y => (y, ()), fun y => y.1, fun _ => rfl, fun n x => codec_inner_1 n x.1⟩
theorem codec_inner_1_ok : OkC Try.prog tab codec_inner_1_ct := fn_ok (W := ⟨Try.prog, tab, tyOf, []⟩) ⟨tabOk, trivial⟩ (by kernel_rfl) 5 Try.f79 (.n) Try.func79 Try.call79 rfl (by kernel_rfl) (by kernel_rfl) (by kernel_rfl) fun n x => by kernel_rfl

/-! bursary codec.inner 2 -/
def codec_inner_2 (n : Nat) (p0 : Int) (p1 : Kid) (q1 : List (Int × Bool)) : Option (Bool × (List (Int × Bool))) :=
  (mlook .i64 false q1 p1.page).bind fun w1 =>
  (mput .i64 q1 p1.page true).bind fun l2 =>
  jn (fun (b3 : Bool) =>
      jn (fun (b5 : Bool) =>
          jn (fun (b7 : Bool) =>
              jn (fun (b9 : Bool) =>
                  some (b9, l2)) fun k10 =>
              cond b7
                (jn (fun (b11 : Bool) =>
                    k10 b11) fun k12 =>
                cond (decide (p0 > 0))
                  (k12 true)
                  (k12 (Key.eqb p1.least (Key.mk 0 0))))
                (k10 false)) fun k8 =>
          cond b5
            ((codec_table n p1.least.table).bind fun y13 =>
            k8 y13)
            (k8 false)) fun k6 =>
      cond b3
        (k6 (decide (p1.page < 64)))
        (k6 false)) fun k4 =>
  cond (!w1)
    (k4 (decide (p1.page > 0)))
    (k4 false)
@[reducible] def codec_inner_2_ct : Ct tab := ⟨80, [.one (.d (.int .i64)), .st 2, .one (.box 0 0)], [.box [.map 1], .map .i64 3 4 .bool], [.one (.d .bool)], [(some 0, .box [.map 1]), (some 1, .map .i64 3 4 .bool)], (Bool × (List (Int × Bool))), fun y => (y.1, y.2, ()), fun y => (y.1, y.2.1), fun _ => rfl, fun n x => codec_inner_2 n x.1 x.2.1 x.2.2.1⟩
theorem codec_inner_2_ok : OkC Try.prog tab codec_inner_2_ct := fn_ok (W := ⟨Try.prog, tab, tyOf, [codec_table_ct]⟩) ⟨tabOk, ⟨codec_table_ok, trivial⟩⟩ (by kernel_rfl) 42 Try.f80 (.n) Try.func80 Try.call80 rfl (by kernel_rfl) (by kernel_rfl) (by kernel_rfl) fun n x => by kernel_rfl

/-! bursary codec.rises bursary api.Kid  -/
def codec_rises_Kid_f79_f80_j1 (n : Nat) : Bool × (List (Int × Bool)) × Unit → Option (Bool × (List (Int × Bool))) := fun ⟨v1, v2, _⟩ =>
    some (v1, v2)
def codec_rises_Kid_f79_f80_l2 (n : Nat) (j1 : Bool × (List (Int × Bool)) × Unit → Option (Bool × (List (Int × Bool)))) : Nat → (List Kid) × Bool × (List Kid) × Int × Int × (List (Int × Bool)) × Unit → Option (Bool × (List (Int × Bool))) := loopF fun r2 ⟨v3, v4, v5, v6, v7, v8, _⟩ =>
    cond (decide (v7 < v6))
      ((idx v5 v7).bind fun x9 =>
      cond v4
        ((codec_inner_2 n v7 x9 v8).bind fun y10 =>
        cond y10.1
          (cond (v7 == 0)
            (cond (!true)
              (j1 (true, y10.2, ()))
              (r2 (v3, true, v5, v6, (IntKind.wrap .i64 (v7 + 1)), y10.2, ())))
            ((idx v3 (IntKind.wrap .i64 (v7 - 1))).bind fun x11 =>
            (codec_inner_1 n x11).bind fun y12 =>
            (codec_inner_1 n x9).bind fun y13 =>
            (row_Compare n y12 y13).bind fun y14 =>
            cond (!(decide (y14 < 0)))
              (j1 ((decide (y14 < 0)), y10.2, ()))
              (r2 (v3, (decide (y14 < 0)), v5, v6, (IntKind.wrap .i64 (v7 + 1)), y10.2, ()))))
          (cond (!false)
            (j1 (false, y10.2, ()))
            (r2 (v3, false, v5, v6, (IntKind.wrap .i64 (v7 + 1)), y10.2, ()))))
        (cond false
          (cond (v7 == 0)
            (cond (!true)
              (j1 (true, v8, ()))
              (r2 (v3, true, v5, v6, (IntKind.wrap .i64 (v7 + 1)), v8, ())))
            ((idx v3 (IntKind.wrap .i64 (v7 - 1))).bind fun x15 =>
            (codec_inner_1 n x15).bind fun y16 =>
            (codec_inner_1 n x9).bind fun y17 =>
            (row_Compare n y16 y17).bind fun y18 =>
            cond (!(decide (y18 < 0)))
              (j1 ((decide (y18 < 0)), v8, ()))
              (r2 (v3, (decide (y18 < 0)), v5, v6, (IntKind.wrap .i64 (v7 + 1)), v8, ()))))
          (cond (!false)
            (j1 (false, v8, ()))
            (r2 (v3, false, v5, v6, (IntKind.wrap .i64 (v7 + 1)), v8, ())))))
      (j1 (v4, v8, ()))
def codec_rises_Kid_f79_f80 (n : Nat) (p0 : List Kid) (p1 : Int) (q1 : List (Int × Bool)) : Option (Bool × (List (Int × Bool))) :=
  jn (codec_rises_Kid_f79_f80_j1 n) fun j1 =>
  codec_rises_Kid_f79_f80_l2 n j1 n (p0, (decide ((p0.length : Int) ≤ p1)), p0, (p0.length : Int), 0, q1, ())
@[reducible] def codec_rises_Kid_f79_f80_ct : Ct tab := ⟨78, [.one (.d (.sl (.st 2))), .one (.d (.int .i64)), .one (.fn 79 []), .one (.fn 80 [.bx 0])], [.box [.map 1], .map .i64 3 4 .bool], [.one (.d .bool)], [(some 0, .box [.map 1]), (some 1, .map .i64 3 4 .bool)], (Bool × (List (Int × Bool))), fun y => (y.1, y.2, ()), fun y => (y.1, y.2.1), fun _ => rfl, fun n x => codec_rises_Kid_f79_f80 n x.1 x.2.1 x.2.2.1⟩
theorem codec_rises_Kid_f79_f80_ok : OkC Try.prog tab codec_rises_Kid_f79_f80_ct := fn_ok (W := ⟨Try.prog, tab, tyOf, [codec_inner_2_ct, codec_inner_1_ct, row_Compare_ct]⟩) ⟨tabOk, ⟨codec_inner_2_ok, codec_inner_1_ok, row_Compare_ok, trivial⟩⟩ (by kernel_rfl) 52 Try.f78 (.sq (.n) (.sq (.n) (.sq (.n) (.sq (.sq (.n) (.bk (some ⟨[(2, .one (.fn 79 [])), (3, .one (.fn 80 [.bx 0])), (9, .one (.d .bool))], [.box [.map 1], .map .i64 3 4 .bool], [(0, 0), (1, 1)]⟩) (.lp ⟨[(0, .one (.d (.sl (.st 2)))), (2, .one (.fn 79 [])), (3, .one (.fn 80 [.bx 0])), (9, .one (.d .bool)), (16, .one (.d (.sl (.st 2)))), (17, .one (.d (.int .i64))), (18, .one (.d (.int .i64)))], [.box [.map 1], .map .i64 3 4 .bool], [(0, 0), (1, 1)]⟩ (.sq (.n) (.sq (.n) (.sq (.bk none (.sq (.n) (.sq (.rg [1000000]) (.n)))) (.n))))))) (.n))))) Try.func78 Try.call78 rfl (by kernel_rfl) (by kernel_rfl) (by kernel_rfl) fun n x => by kernel_rfl

/-! bursary codec.inner -/
def codec_inner (n : Nat) (p0 : List Kid) : Option Bool :=
  cond (decide ((p0.length : Int) > 1))
    ((codec_rises_Kid_f79_f80 n p0 4 ([] : List (Int × Bool))).bind fun y1 =>
    some y1.1)
    (some false)
@[reducible] def codec_inner_ct : Ct tab := ⟨59, [.one (.d (.sl (.st 2)))], [], [.one (.d .bool)], [], Bool, fun y => (y, ()), fun y => y.1, fun _ => rfl, fun n x => codec_inner n x.1⟩
theorem codec_inner_ok : OkC Try.prog tab codec_inner_ct := fn_ok (W := ⟨Try.prog, tab, tyOf, [codec_rises_Kid_f79_f80_ct]⟩) ⟨tabOk, ⟨codec_rises_Kid_f79_f80_ok, trivial⟩⟩ (by kernel_rfl) 13 Try.f59 (.sq (.n) (.sq (.n) (.sq (.rg [1000000]) (.n)))) Try.func59 Try.call59 rfl (by kernel_rfl) (by kernel_rfl) (by kernel_rfl) fun n x => by kernel_rfl

/-! bursary codec.Check -/
def codec_Check_j1 (n : Nat) : Bool × Unit → Option Int := fun ⟨v1, _⟩ =>
    cond (!v1)
      (some 160)
      (some 0)
def codec_Check_j2 (n : Nat) (j1 : Bool × Unit → Option Int) : Bool × Unit → Option Int := fun ⟨v2, _⟩ =>
    j1 (v2, ())
def codec_Check_j3 (n : Nat) (j2 : Bool × Unit → Option Int) : Bool × Unit → Option Int := fun ⟨v6, _⟩ =>
    j2 (v6, ())
def codec_Check (n : Nat) (p0 : Content) : Option Int :=
  jn (codec_Check_j1 n) fun j1 =>
  cond (p0.kind == 0)
    (j1 (((IntKind.wrap .i64 ((p0.rows.length : Int) + (p0.kids.length : Int))) == 0), ()))
    (jn (codec_Check_j2 n j1) fun j2 =>
    cond (p0.kind == 1)
      (jn (fun (b3 : Bool) =>
          j2 (b3, ())) fun k4 =>
      cond ((p0.kids.length : Int) == 0)
        ((codec_leaf n p0.rows).bind fun y5 =>
        k4 y5)
        (k4 false))
      (jn (codec_Check_j3 n j2) fun j3 =>
      cond (p0.kind == 2)
        (jn (fun (b7 : Bool) =>
            j3 (b7, ())) fun k8 =>
        cond ((p0.rows.length : Int) == 0)
          ((codec_inner n p0.kids).bind fun y9 =>
          k8 y9)
          (k8 false))
        (j3 (false, ()))))
@[reducible] def codec_Check_ct : Ct tab := ⟨25, [.st 3], [], [.one (.d (.int .i64))], [], Int, fun y => (y, ()), fun y => y.1, fun _ => rfl, fun n x => codec_Check n x.1⟩
theorem codec_Check_ok : OkC Try.prog tab codec_Check_ct := fn_ok (W := ⟨Try.prog, tab, tyOf, [codec_leaf_ct, codec_inner_ct]⟩) ⟨tabOk, ⟨codec_leaf_ok, codec_inner_ok, trivial⟩⟩ (by kernel_rfl) 40 Try.f25 (.sq (.n) (.sq (.n) (.sq (.sq (.n) (.bk none (.sq (.n) (.cd (some ⟨[(3, .one (.d .bool))], [], []⟩) (.n) (.sq (.n) (.cd (some ⟨[(3, .one (.d .bool))], [], []⟩) (.n) (.sq (.n) (.cd (some ⟨[(3, .one (.d .bool))], [], []⟩) (.n) (.n))))))))) (.n)))) Try.func25 Try.call25 rfl (by kernel_rfl) (by kernel_rfl) (by kernel_rfl) fun n x => by kernel_rfl

/-! bursary page.asked -/
def page_asked_l2 (n : Nat) : Nat → Int × (List Content) × Int × Int × Unit → Option Int := loopF fun r2 ⟨v8, v9, v10, v11, _⟩ =>
    cond (decide (v11 < v10))
      ((idx v9 v11).bind fun x12 =>
      jn (fun (b13 : Bool) =>
          cond b13
            (some 211)
            (jn (fun (b15 : Bool) =>
                cond b15
                  (some 212)
                  (r2 (v8, v9, v10, (IntKind.wrap .i64 (v11 + 1)), ()))) fun k16 =>
            cond (v8 == 2)
              (k16 (x12.kind != v8))
              (k16 false))) fun k14 =>
      cond (v8 == 1)
        (k14 (x12.kind != v8))
        (k14 false))
      (some 0)
def page_asked_l1 (n : Nat) : Nat → Int × (List Content) × (List Content) × Int × Int × Unit → Option Int := loopF fun r1 ⟨v1, v2, v3, v4, v5, _⟩ =>
    cond (decide (v5 < v4))
      ((idx v3 v5).bind fun x6 =>
      (codec_Check n x6).bind fun y7 =>
      cond (y7 != 0)
        (some y7)
        (r1 (v1, v2, v3, v4, (IntKind.wrap .i64 (v5 + 1)), ())))
      (page_asked_l2 n n (v1, v2, (v2.length : Int), 0, ()))
def page_asked (n : Nat) (p0 : Int) (p1 : List Content) : Option Int :=
  page_asked_l1 n n (p0, p1, p1, (p1.length : Int), 0, ())
@[reducible] def page_asked_ct : Ct tab := ⟨39, [.one (.d (.int .i64)), .one (.d (.sl (.st 3)))], [], [.one (.d (.int .i64))], [], Int, fun y => (y, ()), fun y => y.1, fun _ => rfl, fun n x => page_asked n x.1 x.2.1⟩
theorem page_asked_ok : OkC Try.prog tab page_asked_ct := fn_ok (W := ⟨Try.prog, tab, tyOf, [codec_Check_ct]⟩) ⟨tabOk, ⟨codec_Check_ok, trivial⟩⟩ (by kernel_rfl) 47 Try.f39 (.sq (.n) (.sq (.sq (.n) (.bk none (.lp ⟨[(0, .one (.d (.int .i64))), (1, .one (.d (.sl (.st 3)))), (10, .one (.d (.sl (.st 3)))), (11, .one (.d (.int .i64))), (12, .one (.d (.int .i64)))], [], []⟩ (.n)))) (.sq (.sq (.n) (.bk none (.lp ⟨[(0, .one (.d (.int .i64))), (22, .one (.d (.sl (.st 3)))), (23, .one (.d (.int .i64))), (24, .one (.d (.int .i64)))], [], []⟩ (.n)))) (.n)))) Try.func39 Try.call39 rfl (by kernel_rfl) (by kernel_rfl) (by kernel_rfl) fun n x => by kernel_rfl

/-! bursary page.size -/
def page_size (n : Nat) (p0 : Content) : Option Int :=
  some (IntKind.wrap .i64 ((p0.rows.length : Int) + (p0.kids.length : Int)))
@[reducible] def page_size_ct : Ct tab := ⟨47, [.st 3], [], [.one (.d (.int .i64))], [], Int, fun y => (y, ()), fun y => y.1, fun _ => rfl, fun n x => page_size n x.1⟩
theorem page_size_ok : OkC Try.prog tab page_size_ct := fn_ok (W := ⟨Try.prog, tab, tyOf, []⟩) ⟨tabOk, trivial⟩ (by kernel_rfl) 10 Try.f47 (.n) Try.func47 Try.call47 rfl (by kernel_rfl) (by kernel_rfl) (by kernel_rfl) fun n x => by kernel_rfl

/-! bursary page.full -/
def page_full (n : Nat) (p0 : Content) : Option Bool :=
  jn (fun (b1 : Bool) =>
      jn (fun (b3 : Bool) =>
          some b3) fun k4 =>
      cond b1
        (k4 true)
        (jn (fun (b5 : Bool) =>
            k4 b5) fun k6 =>
        cond (p0.kind == 2)
          ((page_size n p0).bind fun y7 =>
          k6 (y7 == 4))
          (k6 false))) fun k2 =>
  cond (p0.kind == 1)
    ((page_size n p0).bind fun y8 =>
    k2 (y8 == 4))
    (k2 false)
@[reducible] def page_full_ct : Ct tab := ⟨40, [.st 3], [], [.one (.d .bool)], [], Bool, fun y => (y, ()), fun y => y.1, fun _ => rfl, fun n x => page_full n x.1⟩
theorem page_full_ok : OkC Try.prog tab page_full_ct := fn_ok (W := ⟨Try.prog, tab, tyOf, [page_size_ct]⟩) ⟨tabOk, ⟨page_size_ok, trivial⟩⟩ (by kernel_rfl) 21 Try.f40 (.n) Try.func40 Try.call40 rfl (by kernel_rfl) (by kernel_rfl) (by kernel_rfl) fun n x => by kernel_rfl

/-! slices.Clone   bursary api.Row bursary api.Row  -/
def slices_Clone_Row (n : Nat) (p0 : List Row) : Option ((List Row)) :=
  nilC p0.isEmpty
    (some ([] : List Row))
    ((app 40 ([] : List Row) p0).bind fun l1 =>
    some l1)
@[reducible] def slices_Clone_Row_ct : Ct tab := ⟨63, [.one (.d (.sl (.st 1)))], [], [.one (.own 0)], [(none, .row 49 (.st 1))], ((List Row)), fun y => (y, ()), fun y => y.1, fun _ => rfl, fun n x => slices_Clone_Row n x.1⟩
theorem slices_Clone_Row_ok : OkC Try.prog tab slices_Clone_Row_ct := fn_ok (W := ⟨Try.prog, tab, tyOf, []⟩) ⟨tabOk, trivial⟩ (by kernel_rfl) 8 Try.f63 (.n) Try.func63 Try.call63 rfl (by kernel_rfl) (by kernel_rfl) (by kernel_rfl) fun n x => by kernel_rfl

/-! bursary page.cut bursary api.Row  -/
def page_cut_Row (n : Nat) (p0 : List Row) (p1 : Int) : Option ((List Row) × (List Row)) :=
  (sub p0 0 p1).bind fun l1 =>
  (slices_Clone_Row n l1).bind fun y2 =>
  (sub p0 p1 (p0.length : Int)).bind fun l3 =>
  (slices_Clone_Row n l3).bind fun y4 =>
  some (y2, y4)
@[reducible] def page_cut_Row_ct : Ct tab := ⟨41, [.one (.d (.sl (.st 1))), .one (.d (.int .i64))], [], [.one (.own 0), .one (.own 1)], [(none, .row 49 (.st 1)), (none, .row 49 (.st 1))], ((List Row) × (List Row)), fun y => (y.1, y.2, ()), fun y => (y.1, y.2.1), fun _ => rfl, fun n x => page_cut_Row n x.1 x.2.1⟩
theorem page_cut_Row_ok : OkC Try.prog tab page_cut_Row_ct := fn_ok (W := ⟨Try.prog, tab, tyOf, [slices_Clone_Row_ct]⟩) ⟨tabOk, ⟨slices_Clone_Row_ok, trivial⟩⟩ (by kernel_rfl) 14 Try.f41 (.n) Try.func41 Try.call41 rfl (by kernel_rfl) (by kernel_rfl) (by kernel_rfl) fun n x => by kernel_rfl

/-! bursary page.leaf -/
def page_leaf (n : Nat) (p0 : List Row) : Option Content :=
  some (Content.mk 1 p0 ([] : List Kid))
@[reducible] def page_leaf_ct : Ct tab := ⟨42, [.one (.d (.sl (.st 1)))], [], [.st 3], [], Content, fun y => (y, ()), fun y => y.1, fun _ => rfl, fun n x => page_leaf n x.1⟩
theorem page_leaf_ok : OkC Try.prog tab page_leaf_ct := fn_ok (W := ⟨Try.prog, tab, tyOf, []⟩) ⟨tabOk, trivial⟩ (by kernel_rfl) 5 Try.f42 (.n) Try.func42 Try.call42 rfl (by kernel_rfl) (by kernel_rfl) (by kernel_rfl) fun n x => by kernel_rfl

/-! slices.Clone   bursary api.Kid bursary api.Kid  -/
def slices_Clone_Kid (n : Nat) (p0 : List Kid) : Option ((List Kid)) :=
  nilC p0.isEmpty
    (some ([] : List Kid))
    ((app 24 ([] : List Kid) p0).bind fun l1 =>
    some l1)
@[reducible] def slices_Clone_Kid_ct : Ct tab := ⟨71, [.one (.d (.sl (.st 2)))], [], [.one (.own 0)], [(none, .row 54 (.st 2))], ((List Kid)), fun y => (y, ()), fun y => y.1, fun _ => rfl, fun n x => slices_Clone_Kid n x.1⟩
theorem slices_Clone_Kid_ok : OkC Try.prog tab slices_Clone_Kid_ct := fn_ok (W := ⟨Try.prog, tab, tyOf, []⟩) ⟨tabOk, trivial⟩ (by kernel_rfl) 8 Try.f71 (.n) Try.func71 Try.call71 rfl (by kernel_rfl) (by kernel_rfl) (by kernel_rfl) fun n x => by kernel_rfl

/-! bursary page.cut bursary api.Kid  -/
def page_cut_Kid (n : Nat) (p0 : List Kid) (p1 : Int) : Option ((List Kid) × (List Kid)) :=
  (sub p0 0 p1).bind fun l1 =>
  (slices_Clone_Kid n l1).bind fun y2 =>
  (sub p0 p1 (p0.length : Int)).bind fun l3 =>
  (slices_Clone_Kid n l3).bind fun y4 =>
  some (y2, y4)
@[reducible] def page_cut_Kid_ct : Ct tab := ⟨43, [.one (.d (.sl (.st 2))), .one (.d (.int .i64))], [], [.one (.own 0), .one (.own 1)], [(none, .row 54 (.st 2)), (none, .row 54 (.st 2))], ((List Kid) × (List Kid)), fun y => (y.1, y.2, ()), fun y => (y.1, y.2.1), fun _ => rfl, fun n x => page_cut_Kid n x.1 x.2.1⟩
theorem page_cut_Kid_ok : OkC Try.prog tab page_cut_Kid_ct := fn_ok (W := ⟨Try.prog, tab, tyOf, [slices_Clone_Kid_ct]⟩) ⟨tabOk, ⟨slices_Clone_Kid_ok, trivial⟩⟩ (by kernel_rfl) 14 Try.f43 (.n) Try.func43 Try.call43 rfl (by kernel_rfl) (by kernel_rfl) (by kernel_rfl) fun n x => by kernel_rfl

/-! bursary page.first -/
def page_first (n : Nat) (p1 : Key) (q0 : List Kid) : Option (Key × (List Kid)) :=
  (idx q0 0).bind fun x1 =>
  (idx q0 0).bind fun x2 =>
  (idx q0 0).bind fun x3 =>
  (idx q0 0).bind fun x4 =>
  (put q0 0 (Kid.mk p1 x4.page)).bind fun l5 =>
  some (x2.least, l5)
@[reducible] def page_first_ct : Ct tab := ⟨44, [.one (.own 0), .st 0], [.row 54 (.st 2)], [.st 0], [(some 0, .row 54 (.st 2))], (Key × (List Kid)), fun y => (y.1, y.2, ()), fun y => (y.1, y.2.1), fun _ => rfl, fun n x => page_first n x.1 x.2.1⟩
theorem page_first_ok : OkC Try.prog tab page_first_ct := fn_ok (W := ⟨Try.prog, tab, tyOf, []⟩) ⟨tabOk, trivial⟩ (by kernel_rfl) 15 Try.f44 (.n) Try.func44 Try.call44 rfl (by kernel_rfl) (by kernel_rfl) (by kernel_rfl) fun n x => by kernel_rfl

/-! bursary page.inner -/
def page_inner (n : Nat) (p0 : List Kid) : Option Content :=
  some (Content.mk 2 ([] : List Row) p0)
@[reducible] def page_inner_ct : Ct tab := ⟨45, [.one (.d (.sl (.st 2)))], [], [.st 3], [], Content, fun y => (y, ()), fun y => y.1, fun _ => rfl, fun n x => page_inner n x.1⟩
theorem page_inner_ok : OkC Try.prog tab page_inner_ct := fn_ok (W := ⟨Try.prog, tab, tyOf, []⟩) ⟨tabOk, trivial⟩ (by kernel_rfl) 5 Try.f45 (.n) Try.func45 Try.call45 rfl (by kernel_rfl) (by kernel_rfl) (by kernel_rfl) fun n x => by kernel_rfl

/-! bursary page.Split -/
def page_Split (n : Nat) (p0 : Content) : Option (Content × Content × Key × Int) :=
  (page_asked n 0 ([p0] : List Content)).bind fun y1 =>
  cond (y1 != 0)
    (some ((Content.mk 0 ([] : List Row) ([] : List Kid)), (Content.mk 0 ([] : List Row) ([] : List Kid)), (Key.mk 0 0), y1))
    ((page_full n p0).bind fun y2 =>
    cond (!y2)
      (some ((Content.mk 0 ([] : List Row) ([] : List Kid)), (Content.mk 0 ([] : List Row) ([] : List Kid)), (Key.mk 0 0), 2))
      (cond (p0.kind == 1)
        ((page_cut_Row n p0.rows 2).bind fun y3 =>
        (page_leaf n y3.1).bind fun y4 =>
        (page_leaf n y3.2).bind fun y5 =>
        (idx y3.2 0).bind fun x6 =>
        some (y4, y5, x6.key, 0))
        ((page_cut_Kid n p0.kids 2).bind fun y7 =>
        (page_first n (Key.mk 0 0) y7.2).bind fun y8 =>
        (page_inner n y7.1).bind fun y9 =>
        (page_inner n y8.2).bind fun y10 =>
        some (y9, y10, y8.1, 0))))
@[reducible] def page_Split_ct : Ct tab := ⟨10, [.st 3], [], [.st 3, .st 3, .st 0, .one (.d (.int .i64))], [], (Content × Content × Key × Int), fun y => (y.1, y.2.1, y.2.2.1, y.2.2.2, ()), fun y => (y.1, y.2.1, y.2.2.1, y.2.2.2.1), fun _ => rfl, fun n x => page_Split n x.1⟩
theorem page_Split_ok : OkC Try.prog tab page_Split_ct := fn_ok (W := ⟨Try.prog, tab, tyOf, [page_asked_ct, page_full_ct, page_cut_Row_ct, page_leaf_ct, page_cut_Kid_ct, page_first_ct, page_inner_ct]⟩) ⟨tabOk, ⟨page_asked_ok, page_full_ok, page_cut_Row_ok, page_leaf_ok, page_cut_Kid_ok, page_first_ok, page_inner_ok, trivial⟩⟩ (by kernel_rfl) 58 Try.f10 (.sq (.n) (.sq (.n) (.sq (.n) (.sq (.sq (.n) (.cd none (.sq (.n) (.sq (.rg [34, 35]) (.n))) (.n))) (.sq (.n) (.sq (.n) (.sq (.rg [48, 49]) (.n)))))))) Try.func10 Try.call10 rfl (by kernel_rfl) (by kernel_rfl) (by kernel_rfl) fun n x => by kernel_rfl

/-! bursary page.alike -/
def page_alike (n : Nat) (p0 : Content) (p1 : Content) : Option Bool :=
  jn (fun (b1 : Bool) =>
      some b1) fun k2 =>
  cond (p0.kind == p1.kind)
    (k2 (p0.kind != 0))
    (k2 false)
@[reducible] def page_alike_ct : Ct tab := ⟨46, [.st 3, .st 3], [], [.one (.d .bool)], [], Bool, fun y => (y, ()), fun y => y.1, fun _ => rfl, fun n x => page_alike n x.1 x.2.1⟩
theorem page_alike_ok : OkC Try.prog tab page_alike_ct := fn_ok (W := ⟨Try.prog, tab, tyOf, []⟩) ⟨tabOk, trivial⟩ (by kernel_rfl) 15 Try.f46 (.n) Try.func46 Try.call46 rfl (by kernel_rfl) (by kernel_rfl) (by kernel_rfl) fun n x => by kernel_rfl

theorem slices_Grow_Row_raw (p1 : Int) (r : List (Raw 4)) (h : growL 40 p1 = some r) :
    Meets Try.prog 60 #[.slice none 0 0, .int .i64 p1] [] [] fun v A P => ∃ (a0 : Option Addr) (c0 : Nat), v = .slice a0 r.length c0 ∧ A = [rowF (rawF 4) 49 a0 c0 r] ∧ P = [] := by
  unfold growL at h
  split at h
  · rename_i h0
    split at h
    · rename_i hroom
      obtain rfl := someI' h
      obtain ⟨k, rfl⟩ := Int.eq_ofNat_of_zero_le h0
      have hroom : room k 40 = true := hroom
      have hw : IntKind.wrap .i64 ((k : Int) - IntKind.wrap .i64 (((0 : Nat) : Int) - ((0 : Nat) : Int))) = (k : Int) := by
        have hb := Nat.le_of_ble_eq_true hroom
        rw [IntKind.wrap_i64, IntKind.wrap_i64]; omega
      refine meets_enter 27 Try.func60 Try.call60 rfl (by kernel_rfl) (by simp) fun C a w hS => ?_
      refine k_seq (by kernel_rfl) fun K1 hK1 => ?_
      refine k_reg 1 (by kernel_rfl) ?_
      refine r_run 0 1 [0, 1, 4] [] hS rfl (L' := [(0, .slice none 0 0), (1, .int .i64 (k : Int)), (4, .slice none 0 0)]) (As' := []) (ob := []) (by kernel_rfl) trivial fun a w hS => ?_
      refine wl_end ?_
      refine hK1 _ _ ?_
      refine k_seq (by kernel_rfl) fun K2 hK2 => ?_
      refine k_seq (by kernel_rfl) fun K3 hK3 => ?_
      refine k_reg 2 (by kernel_rfl) ?_
      refine r_run 0 2 [0, 1, 6] [] hS rfl (L' := [(0, .slice none 0 0), (1, .int .i64 (k : Int)), (6, .bool (decide ((k : Int) < 0)))]) (As' := []) (ob := []) (by kernel_rfl) trivial fun a w hS => ?_
      refine wl_end ?_
      refine hK3 _ _ ?_
      refine k_cond (decide ((k : Int) < 0)) hS.has (by kernel_rfl) (by kernel_rfl) (by kernel_rfl) (fun hq => absurd (of_decide_eq_true hq) (by omega)) (fun hq => ?_)
      refine k_skip (by kernel_rfl) ?_
      refine hK2 _ _ ?_
      refine k_seq (by kernel_rfl) fun K4 hK4 => ?_
      refine k_seq (by kernel_rfl) fun K5 hK5 => ?_
      refine k_reg 8 (by kernel_rfl) ?_
      refine r_run 0 8 [0, 1] [.as 14 (.int .i64 (k : Int))] hS rfl (L' := [(0, .slice none 0 0), (1, .int .i64 (k : Int))]) (As' := []) (ob := [fun _ => Value.int .i64 (IntKind.wrap .i64 ((k : Int) - IntKind.wrap .i64 (((0 : Nat) : Int) - ((0 : Nat) : Int)))) = .int .i64 (k : Int)]) (by kernel_rfl) ⟨Bx.c (by rw [hw]), trivial⟩ fun a w hS => ?_
      refine wl_end ?_
      refine hK5 _ _ ?_
      refine k_seq (by kernel_rfl) fun K6 hK6 => ?_
      refine k_reg 2 (by kernel_rfl) ?_
      refine r_run 0 2 [0, 1, 16] [] hS rfl (L' := [(0, .slice none 0 0), (1, .int .i64 (k : Int)), (16, .bool (decide ((k : Int) > 0)))]) (As' := []) (ob := []) (by kernel_rfl) trivial fun a w hS => ?_
      refine wl_end ?_
      refine hK6 _ _ ?_
      refine k_cond (decide ((k : Int) > 0)) hS.has (by kernel_rfl) (by kernel_rfl) (by kernel_rfl) (fun hq => ?_) (fun hq => ?_)
      · have hk : 0 < k := by have := of_decide_eq_true hq; omega
        refine k_reg 10 (by kernel_rfl) ?_
        refine r_run 0 5 [0, 20, 21] [.as 20 (.slice none 0 0)] hS rfl (L' := [(0, .slice none 0 0), (20, .slice none 0 0), (21, .int .i64 (k : Int))]) (As' := []) (ob := [fun _ => (0 : Int) ≤ 0 ∧ (0 : Int) ≤ ((0 : Nat) : Int) ∧ ((0 : Nat) : Int) ≤ ((0 : Nat) : Int), fun _ => Value.slice (slA none (Int.toNat 0) 0 4) (Int.toNat ((0 : Nat) : Int) - Int.toNat 0) (0 - Int.toNat 0) = .slice none 0 0]) (by kernel_rfl) ⟨Bx.c (by decide), Bx.c (by rfl), trivial⟩ fun a w hS => ?_
        obtain ⟨w', g2, c2, ds, hrun, hc2, hrow, hext, hg2, hg2'⟩ := run_zeros_nil (w := w) (P := Try.prog) (e := 49) (sz := ((rawF 4)).sz) (t := 22) (tn := 3) (ty := 22) (k := k) (bytes := 40) (inf := Try.t49) (z := (Try.t49.zero).getD undef) (kq := .i64) (kn := .i64) (by kernel_rfl) (by kernel_rfl) (by kernel_rfl) (by kernel_rfl) (by kernel_rfl) (by kernel_rfl) (by kernel_rfl) (by decide) (by decide) hk hroom
        refine r_bltN 5 rfl (d := some 22) (b := .append) (ts := #[22, 3]) (ty := 22) (vs := #[.slice none 0 0, .int .i64 (k : Int)]) hS (by kernel_rfl) _ hrun hrow hext (fun x hx => by simp [Asn.fp] at hx; subst hx; exact ⟨hg2, hg2'⟩) (by simp [Asn.fp]) fun a hS => ?_
        refine r_run 6 4 [0] [.as 25 (.slice (some ⟨g2, 0, none⟩) 0 c2)] hS rfl (L' := [(0, .slice (some ⟨g2, 0, none⟩) 0 c2)]) (As' := [.row (some ⟨g2, 0, none⟩) c2 49 ((rawF 4)).sz c2 ds]) (ob := [fun _ => (0 : Int) ≤ 0 ∧ (0 : Int) ≤ ((0 : Nat) : Int) ∧ ((0 : Nat) : Int) ≤ (c2 : Int), fun _ => Value.slice (slA (some ⟨g2, 0, none⟩) (Int.toNat 0) c2 4) (Int.toNat ((0 : Nat) : Int) - Int.toNat 0) (c2 - Int.toNat 0) = .slice (some ⟨g2, 0, none⟩) 0 c2]) (by kernel_rfl) ⟨Bx.c ⟨by decide, by decide, by omega⟩, Bx.c (by unfold slA; split <;> simp [Addr.add]), trivial⟩ fun a w hS => ?_
        replace hS := hS.same (B := rowF (rawF 4) 49 (some ⟨g2, 0, none⟩) c2 []) 0 rfl (fun hA => row_app_form hA rfl (Nat.zero_le _) (by simp)) rfl (by simp [Asn.fp])
        refine wl_end ?_
        refine hK4 _ _ ?_
        refine k_seq (by kernel_rfl) fun K7 hK7 => ?_
        refine k_reg 2 (by kernel_rfl) ?_
        refine r_run 0 2 [4] [] hS rfl (L' := [(4, .slice (some ⟨g2, 0, none⟩) 0 c2)]) (As' := [rowF (rawF 4) 49 (some ⟨g2, 0, none⟩) c2 []]) (ob := []) (by kernel_rfl) trivial fun a w hS => ?_
        refine wl_end ?_
        refine hK7 _ _ ?_
        refine k_ret (by kernel_rfl) ?_
        try simp only [Exit.then, Exit.inBlock]
        refine r_ret hS [.tmp 4] [] (xs := [.slice (some ⟨g2, 0, none⟩) 0 c2]) (ps := []) [0] [] rfl (by kernel_rfl) (fun hA => trivial) rfl (fun F up => trivial) ?_
        exact ⟨some ⟨g2, 0, none⟩, c2, rfl, rfl, rfl⟩
      · refine k_skip (by kernel_rfl) ?_
        refine hK4 _ _ ?_
        refine k_seq (by kernel_rfl) fun K7 hK7 => ?_
        refine k_reg 2 (by kernel_rfl) ?_
        refine r_run 0 2 [4] [] hS rfl (L' := [(4, .slice none 0 0)]) (As' := []) (ob := []) (by kernel_rfl) trivial fun a w hS => ?_
        refine wl_end ?_
        refine hK7 _ _ ?_
        refine k_ret (by kernel_rfl) ?_
        try simp only [Exit.then, Exit.inBlock]
        replace hS := hS.nilrow (e := 49) (sz := ((rawF 4)).sz)
        refine r_ret hS [.tmp 4] [] (xs := [.slice none 0 0]) (ps := []) [0] [] rfl (by kernel_rfl) (fun hA => trivial) rfl (fun F up => trivial) ?_
        exact ⟨none, 0, rfl, rfl, rfl⟩
    · cases h
  · cases h
def slices_Grow_Row (n : Nat) (p1 : Int) : Option (List Row) := growL 40 p1
@[reducible] def slices_Grow_Row_ct : Ct tab := ⟨60, [.one .nil, .one (.d (.int .i64))], [], [.one (.own 0)], [(none, .row 49 (.st 1))], List Row, fun y => (y, ()), fun y => y.1, fun _ => rfl, fun n x => slices_Grow_Row n x.1⟩
theorem slices_Grow_Row_ok : OkC Try.prog tab slices_Grow_Row_ct := grow_ok (t := .st 1) (m := 4) (bytes := 40) tabOk rfl Try.call60 fun p1 r h => slices_Grow_Row_raw p1 r h

/-! slices.Concat   bursary api.Row bursary api.Row  -/
def slices_Concat_Row_j2 (n : Nat) (r1 : (List (List Row)) × Int × (List (List Row)) × Int × Int × Unit → Option ((List Row))) : (List (List Row)) × Int × (List (List Row)) × Int × Int × Unit → Option ((List Row)) := fun ⟨v7, v8, v9, v10, v11, _⟩ =>
    r1 (v7, v8, v9, v10, (IntKind.wrap .i64 (v11 + 1)), ())
def slices_Concat_Row_l3 (n : Nat) : Nat → (List (List Row)) × Int × Int × (List Row) × Unit → Option ((List Row)) := loopF fun r3 ⟨v13, v14, v15, v16, _⟩ =>
    cond (decide (v15 < v14))
      ((idx v13 v15).bind fun x17 =>
      (app 40 v16 x17).bind fun l18 =>
      r3 (v13, v14, (IntKind.wrap .i64 (v15 + 1)), l18, ()))
      (some v16)
def slices_Concat_Row_l1 (n : Nat) : Nat → (List (List Row)) × Int × (List (List Row)) × Int × Int × Unit → Option ((List Row)) := loopF fun r1 ⟨v1, v2, v3, v4, v5, _⟩ =>
    cond (decide (v5 < v4))
      ((idx v3 v5).bind fun x6 =>
      jn (slices_Concat_Row_j2 n r1) fun j2 =>
      cond (decide ((IntKind.wrap .i64 (v2 + (x6.length : Int))) < 0))
        (none)
        (j2 (v1, (IntKind.wrap .i64 (v2 + (x6.length : Int))), v3, v4, v5, ())))
      ((slices_Grow_Row n v2).bind fun y12 =>
      slices_Concat_Row_l3 n n (v1, (v1.length : Int), 0, y12, ()))
def slices_Concat_Row (n : Nat) (p0 : List (List Row)) : Option ((List Row)) :=
  slices_Concat_Row_l1 n n (p0, 0, p0, (p0.length : Int), 0, ())
@[reducible] def slices_Concat_Row_ct : Ct tab := ⟨27, [.one (.d (.sl (.sl (.st 1))))], [], [.one (.own 0)], [(none, .row 49 (.st 1))], ((List Row)), fun y => (y, ()), fun y => y.1, fun _ => rfl, fun n x => slices_Concat_Row n x.1⟩
theorem slices_Concat_Row_ok : OkC Try.prog tab slices_Concat_Row_ct := fn_ok (W := ⟨Try.prog, tab, tyOf, [slices_Grow_Row_ct]⟩) ⟨tabOk, ⟨slices_Grow_Row_ok, trivial⟩⟩ (by kernel_rfl) 36 Try.f27 (.sq (.n) (.sq (.n) (.sq (.sq (.n) (.bk none (.lp ⟨[(0, .one (.d (.sl (.sl (.st 1))))), (3, .one (.d (.int .i64))), (9, .one (.d (.sl (.sl (.st 1))))), (10, .one (.d (.int .i64))), (11, .one (.d (.int .i64)))], [], []⟩ (.sq (.n) (.sq (.n) (.sq (.bk none (.sq (.n) (.sq (.n) (.sq (.n) (.cd (some ⟨[(0, .one (.d (.sl (.sl (.st 1))))), (3, .one (.d (.int .i64))), (9, .one (.d (.sl (.sl (.st 1))))), (10, .one (.d (.int .i64))), (11, .one (.d (.int .i64)))], [], []⟩) (.n) (.n)))))) (.n))))))) (.sq (.n) (.sq (.sq (.n) (.bk none (.lp ⟨[(6, .one (.own 0)), (25, .one (.d (.sl (.sl (.st 1))))), (26, .one (.d (.int .i64))), (27, .one (.d (.int .i64)))], [.row 49 (.st 1)], []⟩ (.n)))) (.n)))))) Try.func27 Try.call27 rfl (by kernel_rfl) (by kernel_rfl) (by kernel_rfl) fun n x => by kernel_rfl

theorem slices_Grow_Kid_raw (p1 : Int) (r : List (Raw 3)) (h : growL 24 p1 = some r) :
    Meets Try.prog 88 #[.slice none 0 0, .int .i64 p1] [] [] fun v A P => ∃ (a0 : Option Addr) (c0 : Nat), v = .slice a0 r.length c0 ∧ A = [rowF (rawF 3) 54 a0 c0 r] ∧ P = [] := by
  unfold growL at h
  split at h
  · rename_i h0
    split at h
    · rename_i hroom
      obtain rfl := someI' h
      obtain ⟨k, rfl⟩ := Int.eq_ofNat_of_zero_le h0
      have hroom : room k 24 = true := hroom
      have hw : IntKind.wrap .i64 ((k : Int) - IntKind.wrap .i64 (((0 : Nat) : Int) - ((0 : Nat) : Int))) = (k : Int) := by
        have hb := Nat.le_of_ble_eq_true hroom
        rw [IntKind.wrap_i64, IntKind.wrap_i64]; omega
      refine meets_enter 27 Try.func88 Try.call88 rfl (by kernel_rfl) (by simp) fun C a w hS => ?_
      refine k_seq (by kernel_rfl) fun K1 hK1 => ?_
      refine k_reg 1 (by kernel_rfl) ?_
      refine r_run 0 1 [0, 1, 4] [] hS rfl (L' := [(0, .slice none 0 0), (1, .int .i64 (k : Int)), (4, .slice none 0 0)]) (As' := []) (ob := []) (by kernel_rfl) trivial fun a w hS => ?_
      refine wl_end ?_
      refine hK1 _ _ ?_
      refine k_seq (by kernel_rfl) fun K2 hK2 => ?_
      refine k_seq (by kernel_rfl) fun K3 hK3 => ?_
      refine k_reg 2 (by kernel_rfl) ?_
      refine r_run 0 2 [0, 1, 6] [] hS rfl (L' := [(0, .slice none 0 0), (1, .int .i64 (k : Int)), (6, .bool (decide ((k : Int) < 0)))]) (As' := []) (ob := []) (by kernel_rfl) trivial fun a w hS => ?_
      refine wl_end ?_
      refine hK3 _ _ ?_
      refine k_cond (decide ((k : Int) < 0)) hS.has (by kernel_rfl) (by kernel_rfl) (by kernel_rfl) (fun hq => absurd (of_decide_eq_true hq) (by omega)) (fun hq => ?_)
      refine k_skip (by kernel_rfl) ?_
      refine hK2 _ _ ?_
      refine k_seq (by kernel_rfl) fun K4 hK4 => ?_
      refine k_seq (by kernel_rfl) fun K5 hK5 => ?_
      refine k_reg 8 (by kernel_rfl) ?_
      refine r_run 0 8 [0, 1] [.as 14 (.int .i64 (k : Int))] hS rfl (L' := [(0, .slice none 0 0), (1, .int .i64 (k : Int))]) (As' := []) (ob := [fun _ => Value.int .i64 (IntKind.wrap .i64 ((k : Int) - IntKind.wrap .i64 (((0 : Nat) : Int) - ((0 : Nat) : Int)))) = .int .i64 (k : Int)]) (by kernel_rfl) ⟨Bx.c (by rw [hw]), trivial⟩ fun a w hS => ?_
      refine wl_end ?_
      refine hK5 _ _ ?_
      refine k_seq (by kernel_rfl) fun K6 hK6 => ?_
      refine k_reg 2 (by kernel_rfl) ?_
      refine r_run 0 2 [0, 1, 16] [] hS rfl (L' := [(0, .slice none 0 0), (1, .int .i64 (k : Int)), (16, .bool (decide ((k : Int) > 0)))]) (As' := []) (ob := []) (by kernel_rfl) trivial fun a w hS => ?_
      refine wl_end ?_
      refine hK6 _ _ ?_
      refine k_cond (decide ((k : Int) > 0)) hS.has (by kernel_rfl) (by kernel_rfl) (by kernel_rfl) (fun hq => ?_) (fun hq => ?_)
      · have hk : 0 < k := by have := of_decide_eq_true hq; omega
        refine k_reg 10 (by kernel_rfl) ?_
        refine r_run 0 5 [0, 20, 21] [.as 20 (.slice none 0 0)] hS rfl (L' := [(0, .slice none 0 0), (20, .slice none 0 0), (21, .int .i64 (k : Int))]) (As' := []) (ob := [fun _ => (0 : Int) ≤ 0 ∧ (0 : Int) ≤ ((0 : Nat) : Int) ∧ ((0 : Nat) : Int) ≤ ((0 : Nat) : Int), fun _ => Value.slice (slA none (Int.toNat 0) 0 3) (Int.toNat ((0 : Nat) : Int) - Int.toNat 0) (0 - Int.toNat 0) = .slice none 0 0]) (by kernel_rfl) ⟨Bx.c (by decide), Bx.c (by rfl), trivial⟩ fun a w hS => ?_
        obtain ⟨w', g2, c2, ds, hrun, hc2, hrow, hext, hg2, hg2'⟩ := run_zeros_nil (w := w) (P := Try.prog) (e := 54) (sz := ((rawF 3)).sz) (t := 23) (tn := 3) (ty := 23) (k := k) (bytes := 24) (inf := Try.t54) (z := (Try.t54.zero).getD undef) (kq := .i64) (kn := .i64) (by kernel_rfl) (by kernel_rfl) (by kernel_rfl) (by kernel_rfl) (by kernel_rfl) (by kernel_rfl) (by kernel_rfl) (by decide) (by decide) hk hroom
        refine r_bltN 5 rfl (d := some 22) (b := .append) (ts := #[23, 3]) (ty := 23) (vs := #[.slice none 0 0, .int .i64 (k : Int)]) hS (by kernel_rfl) _ hrun hrow hext (fun x hx => by simp [Asn.fp] at hx; subst hx; exact ⟨hg2, hg2'⟩) (by simp [Asn.fp]) fun a hS => ?_
        refine r_run 6 4 [0] [.as 25 (.slice (some ⟨g2, 0, none⟩) 0 c2)] hS rfl (L' := [(0, .slice (some ⟨g2, 0, none⟩) 0 c2)]) (As' := [.row (some ⟨g2, 0, none⟩) c2 54 ((rawF 3)).sz c2 ds]) (ob := [fun _ => (0 : Int) ≤ 0 ∧ (0 : Int) ≤ ((0 : Nat) : Int) ∧ ((0 : Nat) : Int) ≤ (c2 : Int), fun _ => Value.slice (slA (some ⟨g2, 0, none⟩) (Int.toNat 0) c2 3) (Int.toNat ((0 : Nat) : Int) - Int.toNat 0) (c2 - Int.toNat 0) = .slice (some ⟨g2, 0, none⟩) 0 c2]) (by kernel_rfl) ⟨Bx.c ⟨by decide, by decide, by omega⟩, Bx.c (by unfold slA; split <;> simp [Addr.add]), trivial⟩ fun a w hS => ?_
        replace hS := hS.same (B := rowF (rawF 3) 54 (some ⟨g2, 0, none⟩) c2 []) 0 rfl (fun hA => row_app_form hA rfl (Nat.zero_le _) (by simp)) rfl (by simp [Asn.fp])
        refine wl_end ?_
        refine hK4 _ _ ?_
        refine k_seq (by kernel_rfl) fun K7 hK7 => ?_
        refine k_reg 2 (by kernel_rfl) ?_
        refine r_run 0 2 [4] [] hS rfl (L' := [(4, .slice (some ⟨g2, 0, none⟩) 0 c2)]) (As' := [rowF (rawF 3) 54 (some ⟨g2, 0, none⟩) c2 []]) (ob := []) (by kernel_rfl) trivial fun a w hS => ?_
        refine wl_end ?_
        refine hK7 _ _ ?_
        refine k_ret (by kernel_rfl) ?_
        try simp only [Exit.then, Exit.inBlock]
        refine r_ret hS [.tmp 4] [] (xs := [.slice (some ⟨g2, 0, none⟩) 0 c2]) (ps := []) [0] [] rfl (by kernel_rfl) (fun hA => trivial) rfl (fun F up => trivial) ?_
        exact ⟨some ⟨g2, 0, none⟩, c2, rfl, rfl, rfl⟩
      · refine k_skip (by kernel_rfl) ?_
        refine hK4 _ _ ?_
        refine k_seq (by kernel_rfl) fun K7 hK7 => ?_
        refine k_reg 2 (by kernel_rfl) ?_
        refine r_run 0 2 [4] [] hS rfl (L' := [(4, .slice none 0 0)]) (As' := []) (ob := []) (by kernel_rfl) trivial fun a w hS => ?_
        refine wl_end ?_
        refine hK7 _ _ ?_
        refine k_ret (by kernel_rfl) ?_
        try simp only [Exit.then, Exit.inBlock]
        replace hS := hS.nilrow (e := 54) (sz := ((rawF 3)).sz)
        refine r_ret hS [.tmp 4] [] (xs := [.slice none 0 0]) (ps := []) [0] [] rfl (by kernel_rfl) (fun hA => trivial) rfl (fun F up => trivial) ?_
        exact ⟨none, 0, rfl, rfl, rfl⟩
    · cases h
  · cases h
def slices_Grow_Kid (n : Nat) (p1 : Int) : Option (List Kid) := growL 24 p1
@[reducible] def slices_Grow_Kid_ct : Ct tab := ⟨88, [.one .nil, .one (.d (.int .i64))], [], [.one (.own 0)], [(none, .row 54 (.st 2))], List Kid, fun y => (y, ()), fun y => y.1, fun _ => rfl, fun n x => slices_Grow_Kid n x.1⟩
theorem slices_Grow_Kid_ok : OkC Try.prog tab slices_Grow_Kid_ct := grow_ok (t := .st 2) (m := 3) (bytes := 24) tabOk rfl Try.call88 fun p1 r h => slices_Grow_Kid_raw p1 r h

/-! slices.Concat   bursary api.Kid bursary api.Kid  -/
def slices_Concat_Kid_j2 (n : Nat) (r1 : (List (List Kid)) × Int × (List (List Kid)) × Int × Int × Unit → Option ((List Kid))) : (List (List Kid)) × Int × (List (List Kid)) × Int × Int × Unit → Option ((List Kid)) := fun ⟨v7, v8, v9, v10, v11, _⟩ =>
    r1 (v7, v8, v9, v10, (IntKind.wrap .i64 (v11 + 1)), ())
def slices_Concat_Kid_l3 (n : Nat) : Nat → (List (List Kid)) × Int × Int × (List Kid) × Unit → Option ((List Kid)) := loopF fun r3 ⟨v13, v14, v15, v16, _⟩ =>
    cond (decide (v15 < v14))
      ((idx v13 v15).bind fun x17 =>
      (app 24 v16 x17).bind fun l18 =>
      r3 (v13, v14, (IntKind.wrap .i64 (v15 + 1)), l18, ()))
      (some v16)
def slices_Concat_Kid_l1 (n : Nat) : Nat → (List (List Kid)) × Int × (List (List Kid)) × Int × Int × Unit → Option ((List Kid)) := loopF fun r1 ⟨v1, v2, v3, v4, v5, _⟩ =>
    cond (decide (v5 < v4))
      ((idx v3 v5).bind fun x6 =>
      jn (slices_Concat_Kid_j2 n r1) fun j2 =>
      cond (decide ((IntKind.wrap .i64 (v2 + (x6.length : Int))) < 0))
        (none)
        (j2 (v1, (IntKind.wrap .i64 (v2 + (x6.length : Int))), v3, v4, v5, ())))
      ((slices_Grow_Kid n v2).bind fun y12 =>
      slices_Concat_Kid_l3 n n (v1, (v1.length : Int), 0, y12, ()))
def slices_Concat_Kid (n : Nat) (p0 : List (List Kid)) : Option ((List Kid)) :=
  slices_Concat_Kid_l1 n n (p0, 0, p0, (p0.length : Int), 0, ())
@[reducible] def slices_Concat_Kid_ct : Ct tab := ⟨72, [.one (.d (.sl (.sl (.st 2))))], [], [.one (.own 0)], [(none, .row 54 (.st 2))], ((List Kid)), fun y => (y, ()), fun y => y.1, fun _ => rfl, fun n x => slices_Concat_Kid n x.1⟩
theorem slices_Concat_Kid_ok : OkC Try.prog tab slices_Concat_Kid_ct := fn_ok (W := ⟨Try.prog, tab, tyOf, [slices_Grow_Kid_ct]⟩) ⟨tabOk, ⟨slices_Grow_Kid_ok, trivial⟩⟩ (by kernel_rfl) 36 Try.f72 (.sq (.n) (.sq (.n) (.sq (.sq (.n) (.bk none (.lp ⟨[(0, .one (.d (.sl (.sl (.st 2))))), (3, .one (.d (.int .i64))), (9, .one (.d (.sl (.sl (.st 2))))), (10, .one (.d (.int .i64))), (11, .one (.d (.int .i64)))], [], []⟩ (.sq (.n) (.sq (.n) (.sq (.bk none (.sq (.n) (.sq (.n) (.sq (.n) (.cd (some ⟨[(0, .one (.d (.sl (.sl (.st 2))))), (3, .one (.d (.int .i64))), (9, .one (.d (.sl (.sl (.st 2))))), (10, .one (.d (.int .i64))), (11, .one (.d (.int .i64)))], [], []⟩) (.n) (.n)))))) (.n))))))) (.sq (.n) (.sq (.sq (.n) (.bk none (.lp ⟨[(6, .one (.own 0)), (25, .one (.d (.sl (.sl (.st 2))))), (26, .one (.d (.int .i64))), (27, .one (.d (.int .i64)))], [.row 54 (.st 2)], []⟩ (.n)))) (.n)))))) Try.func72 Try.call72 rfl (by kernel_rfl) (by kernel_rfl) (by kernel_rfl) fun n x => by kernel_rfl

/-! bursary page.joined -/
def page_joined (n : Nat) (p0 : Content) (p1 : Content) (p2 : Key) : Option Content :=
  cond (p0.kind == 1)
    ((slices_Concat_Row n ([p0.rows, p1.rows] : List (List Row))).bind fun y1 =>
    (page_leaf n y1).bind fun y2 =>
    some y2)
    ((slices_Clone_Kid n p1.kids).bind fun y3 =>
    (page_first n p2 y3).bind fun y4 =>
    (slices_Concat_Kid n ([p0.kids, y4.2] : List (List Kid))).bind fun y5 =>
    (page_inner n y5).bind fun y6 =>
    some y6)
@[reducible] def page_joined_ct : Ct tab := ⟨49, [.st 3, .st 3, .st 0], [], [.st 3], [], Content, fun y => (y, ()), fun y => y.1, fun _ => rfl, fun n x => page_joined n x.1 x.2.1 x.2.2.1⟩
theorem page_joined_ok : OkC Try.prog tab page_joined_ct := fn_ok (W := ⟨Try.prog, tab, tyOf, [slices_Concat_Row_ct, page_leaf_ct, slices_Clone_Kid_ct, page_first_ct, slices_Concat_Kid_ct, page_inner_ct]⟩) ⟨tabOk, ⟨slices_Concat_Row_ok, page_leaf_ok, slices_Clone_Kid_ok, page_first_ok, slices_Concat_Kid_ok, page_inner_ok, trivial⟩⟩ (by kernel_rfl) 30 Try.f49 (.n) Try.func49 Try.call49 rfl (by kernel_rfl) (by kernel_rfl) (by kernel_rfl) fun n x => by kernel_rfl

/-! bursary page.comes -/
def page_comes (n : Nat) (p0 : List Content) : Option Int :=
  (page_asked n 0 p0).bind fun y1 =>
  cond (y1 != 0)
    (some 2)
    (some 0)
@[reducible] def page_comes_ct : Ct tab := ⟨52, [.one (.d (.sl (.st 3)))], [], [.one (.d (.int .i64))], [], Int, fun y => (y, ()), fun y => y.1, fun _ => rfl, fun n x => page_comes n x.1⟩
theorem page_comes_ok : OkC Try.prog tab page_comes_ct := fn_ok (W := ⟨Try.prog, tab, tyOf, [page_asked_ct]⟩) ⟨tabOk, ⟨page_asked_ok, trivial⟩⟩ (by kernel_rfl) 6 Try.f52 (.n) Try.func52 Try.call52 rfl (by kernel_rfl) (by kernel_rfl) (by kernel_rfl) fun n x => by kernel_rfl

/-! bursary page.one -/
def page_one (n : Nat) (p0 : Content) : Option (Content × Int) :=
  (page_comes n ([p0] : List Content)).bind fun y1 =>
  cond (y1 != 0)
    (some ((Content.mk 0 ([] : List Row) ([] : List Kid)), y1))
    (some (p0, 0))
@[reducible] def page_one_ct : Ct tab := ⟨48, [.st 3], [], [.st 3, .one (.d (.int .i64))], [], (Content × Int), fun y => (y.1, y.2, ()), fun y => (y.1, y.2.1), fun _ => rfl, fun n x => page_one n x.1⟩
theorem page_one_ok : OkC Try.prog tab page_one_ct := fn_ok (W := ⟨Try.prog, tab, tyOf, [page_comes_ct]⟩) ⟨tabOk, ⟨page_comes_ok, trivial⟩⟩ (by kernel_rfl) 13 Try.f48 (.n) Try.func48 Try.call48 rfl (by kernel_rfl) (by kernel_rfl) (by kernel_rfl) fun n x => by kernel_rfl

/-! bursary page.Join -/
def page_Join (n : Nat) (p0 : Content) (p1 : Content) (p2 : Key) : Option (Content × Int) :=
  (page_asked n 0 ([p0, p1] : List Content)).bind fun y1 =>
  cond (y1 != 0)
    (some ((Content.mk 0 ([] : List Row) ([] : List Kid)), y1))
    ((page_alike n p0 p1).bind fun y2 =>
    cond (!y2)
      (some ((Content.mk 0 ([] : List Row) ([] : List Kid)), 2))
      ((page_size n p0).bind fun y3 =>
      (page_size n p1).bind fun y4 =>
      cond (decide ((IntKind.wrap .i64 (y3 + y4)) > 4))
        (some ((Content.mk 0 ([] : List Row) ([] : List Kid)), 6))
        ((page_joined n p0 p1 p2).bind fun y5 =>
        (page_one n y5).bind fun y6 =>
        some (y6.1, y6.2))))
@[reducible] def page_Join_ct : Ct tab := ⟨12, [.st 3, .st 3, .st 0], [], [.st 3, .one (.d (.int .i64))], [], (Content × Int), fun y => (y.1, y.2, ()), fun y => (y.1, y.2.1), fun _ => rfl, fun n x => page_Join n x.1 x.2.1 x.2.2.1⟩
theorem page_Join_ok : OkC Try.prog tab page_Join_ct := fn_ok (W := ⟨Try.prog, tab, tyOf, [page_asked_ct, page_alike_ct, page_size_ct, page_joined_ct, page_one_ct]⟩) ⟨tabOk, ⟨page_asked_ok, page_alike_ok, page_size_ok, page_joined_ok, page_one_ok, trivial⟩⟩ (by kernel_rfl) 38 Try.f12 (.n) Try.func12 Try.call12 rfl (by kernel_rfl) (by kernel_rfl) (by kernel_rfl) fun n x => by kernel_rfl

/-! bursary page.Full -/
def page_Full (n : Nat) (p0 : Content) : Option Bool :=
  (codec_Check n p0).bind fun y1 =>
  jn (fun (b2 : Bool) =>
      some b2) fun k3 =>
  cond (y1 == 0)
    ((page_full n p0).bind fun y4 =>
    k3 y4)
    (k3 false)
@[reducible] def page_Full_ct : Ct tab := ⟨11, [.st 3], [], [.one (.d .bool)], [], Bool, fun y => (y, ()), fun y => y.1, fun _ => rfl, fun n x => page_Full n x.1⟩
theorem page_Full_ok : OkC Try.prog tab page_Full_ct := fn_ok (W := ⟨Try.prog, tab, tyOf, [codec_Check_ct, page_full_ct]⟩) ⟨tabOk, ⟨codec_Check_ok, page_full_ok, trivial⟩⟩ (by kernel_rfl) 10 Try.f11 (.n) Try.func11 Try.call11 rfl (by kernel_rfl) (by kernel_rfl) (by kernel_rfl) fun n x => by kernel_rfl

/-! bursary bursarylaw11.wakes -/
def law11_wakes (n : Nat) : Option Bool :=
  (law11_leaf n ([1, 2, 3, 4] : List Int)).bind fun y1 =>
  (page_Split n y1).bind fun y2 =>
  (page_Join n y2.1 y2.2.1 y2.2.2.1).bind fun y3 =>
  jn (fun (b4 : Bool) =>
      jn (fun (b6 : Bool) =>
          jn (fun (b8 : Bool) =>
              jn (fun (b10 : Bool) =>
                  jn (fun (b12 : Bool) =>
                      some b12) fun k13 =>
                  cond b10
                    ((page_Full n y3.1).bind fun y14 =>
                    k13 y14)
                    (k13 false)) fun k11 =>
              cond b8
                (k11 ((y3.1.rows.length : Int) == 4))
                (k11 false)) fun k9 =>
          cond b6
            (k9 (y2.2.2.1.id == 3))
            (k9 false)) fun k7 =>
      cond b4
        (k7 ((y2.1.rows.length : Int) == 2))
        (k7 false)) fun k5 =>
  cond (y2.2.2.2 == 0)
    (k5 (y3.2 == 0))
    (k5 false)
@[reducible] def law11_wakes_ct : Ct tab := ⟨8, [], [], [.one (.d .bool)], [], Bool, fun y => (y, ()), fun y => y.1, fun _ => rfl, fun n x => law11_wakes n⟩
theorem law11_wakes_ok : OkC Try.prog tab law11_wakes_ct := fn_ok (W := ⟨Try.prog, tab, tyOf, [law11_leaf_ct, page_Split_ct, page_Join_ct, page_Full_ct]⟩) ⟨tabOk, ⟨law11_leaf_ok, page_Split_ok, page_Join_ok, page_Full_ok, trivial⟩⟩ (by kernel_rfl) 49 Try.f8 (.n) Try.func8 Try.call8 rfl (by kernel_rfl) (by kernel_rfl) (by kernel_rfl) fun n x => by kernel_rfl

/-! bursary bursarylaw11.over -/
def law11_over_l2 (n : Nat) (r1 : (List Content) × Int × Int × Unit → Option Bool) : Nat → (List Content) × Int × Int × (List Row) × Int × Int × Unit → Option Bool := loopF fun r2 ⟨v7, v8, v9, v10, v11, v12, _⟩ =>
    cond (decide (v12 < v11))
      ((idx v10 v12).bind fun x13 =>
      cond (decide ((x13.note.size : Int) > 100))
        (some true)
        (r2 (v7, v8, v9, v10, v11, (IntKind.wrap .i64 (v12 + 1)), ())))
      (r1 (v7, v8, (IntKind.wrap .i64 (v9 + 1)), ()))
def law11_over_l1 (n : Nat) : Nat → (List Content) × Int × Int × Unit → Option Bool := loopF fun r1 ⟨v1, v2, v3, _⟩ =>
    cond (decide (v3 < v2))
      ((idx v1 v3).bind fun x4 =>
      jn (fun (b5 : Bool) =>
          cond b5
            (some true)
            (law11_over_l2 n r1 n (v1, v2, v3, x4.rows, (x4.rows.length : Int), 0, ()))) fun k6 =>
      cond (decide ((x4.rows.length : Int) > 20))
        (k6 true)
        (k6 (decide ((x4.kids.length : Int) > 20))))
      (some false)
def law11_over (n : Nat) (p0 : List Content) : Option Bool :=
  law11_over_l1 n n (p0, (p0.length : Int), 0, ())
@[reducible] def law11_over_ct : Ct tab := ⟨9, [.one (.d (.sl (.st 3)))], [], [.one (.d .bool)], [], Bool, fun y => (y, ()), fun y => y.1, fun _ => rfl, fun n x => law11_over n x.1⟩
theorem law11_over_ok : OkC Try.prog tab law11_over_ct := fn_ok (W := ⟨Try.prog, tab, tyOf, []⟩) ⟨tabOk, trivial⟩ (by kernel_rfl) 36 Try.f9 (.sq (.n) (.sq (.sq (.n) (.bk none (.lp ⟨[(7, .one (.d (.sl (.st 3)))), (8, .one (.d (.int .i64))), (9, .one (.d (.int .i64)))], [], []⟩ (.sq (.n) (.sq (.n) (.sq (.bk none (.sq (.n) (.sq (.n) (.sq (.n) (.bk none (.lp ⟨[(7, .one (.d (.sl (.st 3)))), (8, .one (.d (.int .i64))), (9, .one (.d (.int .i64))), (24, .one (.d (.sl (.st 1)))), (25, .one (.d (.int .i64))), (26, .one (.d (.int .i64)))], [], []⟩ (.n))))))) (.n))))))) (.n))) Try.func9 Try.call9 rfl (by kernel_rfl) (by kernel_rfl) (by kernel_rfl) fun n x => by kernel_rfl

/-! bursary page.Small -/
def page_Small (n : Nat) (p0 : Content) : Option Bool :=
  (codec_Check n p0).bind fun y1 =>
  jn (fun (b2 : Bool) =>
      jn (fun (b4 : Bool) =>
          some b4) fun k5 =>
      cond b2
        ((page_size n p0).bind fun y6 =>
        k5 (decide (y6 ≤ 2)))
        (k5 false)) fun k3 =>
  cond (y1 == 0)
    (k3 (p0.kind != 0))
    (k3 false)
@[reducible] def page_Small_ct : Ct tab := ⟨15, [.st 3], [], [.one (.d .bool)], [], Bool, fun y => (y, ()), fun y => y.1, fun _ => rfl, fun n x => page_Small n x.1⟩
theorem page_Small_ok : OkC Try.prog tab page_Small_ct := fn_ok (W := ⟨Try.prog, tab, tyOf, [codec_Check_ct, page_size_ct]⟩) ⟨tabOk, ⟨codec_Check_ok, page_size_ok, trivial⟩⟩ (by kernel_rfl) 16 Try.f15 (.n) Try.func15 Try.call15 rfl (by kernel_rfl) (by kernel_rfl) (by kernel_rfl) fun n x => by kernel_rfl

/-! bursary page.Size -/
def page_Size (n : Nat) (p0 : Content) : Option Int :=
  (codec_Check n p0).bind fun y1 =>
  cond (y1 != 0)
    (some 0)
    ((page_size n p0).bind fun y2 =>
    some y2)
@[reducible] def page_Size_ct : Ct tab := ⟨14, [.st 3], [], [.one (.d (.int .i64))], [], Int, fun y => (y, ()), fun y => y.1, fun _ => rfl, fun n x => page_Size n x.1⟩
theorem page_Size_ok : OkC Try.prog tab page_Size_ct := fn_ok (W := ⟨Try.prog, tab, tyOf, [codec_Check_ct, page_size_ct]⟩) ⟨tabOk, ⟨codec_Check_ok, page_size_ok, trivial⟩⟩ (by kernel_rfl) 8 Try.f14 (.n) Try.func14 Try.call14 rfl (by kernel_rfl) (by kernel_rfl) (by kernel_rfl) fun n x => by kernel_rfl

/-! slices.Equal   bursary api.Kid bursary api.Kid  -/
def slices_Equal_Kid_l1 (n : Nat) : Nat → (List Kid) × (List Kid) × Int × Int × Unit → Option Bool := loopF fun r1 ⟨v1, v2, v3, v4, _⟩ =>
    cond (decide (v4 < v3))
      ((idx v1 v4).bind fun x5 =>
      (idx v2 v4).bind fun x6 =>
      cond (!(Kid.eqb x5 x6))
        (some false)
        (r1 (v1, v2, v3, (IntKind.wrap .i64 (v4 + 1)), ())))
      (some true)
def slices_Equal_Kid (n : Nat) (p0 : List Kid) (p1 : List Kid) : Option Bool :=
  cond ((p0.length : Int) != (p1.length : Int))
    (some false)
    (slices_Equal_Kid_l1 n n (p0, p1, (p0.length : Int), 0, ()))
@[reducible] def slices_Equal_Kid_ct : Ct tab := ⟨50, [.one (.d (.sl (.st 2))), .one (.d (.sl (.st 2)))], [], [.one (.d .bool)], [], Bool, fun y => (y, ()), fun y => y.1, fun _ => rfl, fun n x => slices_Equal_Kid n x.1 x.2.1⟩
theorem slices_Equal_Kid_ok : OkC Try.prog tab slices_Equal_Kid_ct := fn_ok (W := ⟨Try.prog, tab, tyOf, []⟩) ⟨tabOk, trivial⟩ (by kernel_rfl) 26 Try.f50 (.sq (.n) (.sq (.n) (.sq (.sq (.n) (.bk none (.lp ⟨[(0, .one (.d (.sl (.st 2)))), (1, .one (.d (.sl (.st 2)))), (12, .one (.d (.int .i64))), (13, .one (.d (.int .i64)))], [], []⟩ (.n)))) (.n)))) Try.func50 Try.call50 rfl (by kernel_rfl) (by kernel_rfl) (by kernel_rfl) fun n x => by kernel_rfl

end
end Go.Proofs.Ytjgcapbmhcmcfaa
