/- Functions of the program: plain twins and their contracts, printed by program. -/
import Derived.Test.YtdjageadgkillaaTypes
namespace Go.Proofs.Ytdjageadgkillaa
open Go Go.Bur Go.RowKit
set_option linter.unusedVariables false
set_option linter.unusedSimpArgs false
set_option maxRecDepth 100000
noncomputable section
/-! bursary bursarylaw15.one -/
def law15_one (n : Nat) : Option Schema :=
  some (Schema.mk ([(Bounds.mk 0 10)] : List Bounds))
@[reducible] def law15_one_ct : Ct tab := ⟨33, [], [], [.st 1], [], Schema, fun y => (y, ()), fun y => y.1, fun _ => rfl, fun n x => law15_one n⟩
theorem law15_one_ok : OkC Try.prog tab law15_one_ct := fn_ok (W := ⟨Try.prog, tab, tyOf, []⟩) ⟨tabOk, trivial⟩ (by kernel_rfl) 4 Try.f33 (.n) Try.func33 Try.call33 rfl (by kernel_rfl) (by kernel_rfl) (by kernel_rfl) fun n x => by kernel_rfl

/-! bursary row.Check 1 -/
def row_Check_1 (n : Nat) (p0 : Bounds) : Option Bool :=
  some (decide (p0.min > p0.max))
@[reducible] def row_Check_1_ct : Ct tab := ⟨67, [.st 0], [], [.one (.d .bool)], [], Bool, fun y => (y, ()), fun y => y.1, fun _ => rfl, fun n x => row_Check_1 n x.1⟩
theorem row_Check_1_ok : OkC Try.prog tab row_Check_1_ct := fn_ok (W := ⟨Try.prog, tab, tyOf, []⟩) ⟨tabOk, trivial⟩ (by kernel_rfl) 8 Try.f67 (.n) Try.func67 Try.call67 rfl (by kernel_rfl) (by kernel_rfl) (by kernel_rfl) fun n x => by kernel_rfl

/-! slices.IndexFunc   bursary api.Bounds bursary api.Bounds  -/
def slices_IndexFunc_Bounds_f67_l1 (n : Nat) : Nat → (List Bounds) × Int × Int × Unit → Option Int := loopF fun r1 ⟨v1, v2, v3, _⟩ =>
    cond (decide (v3 < v2))
      ((idx v1 v3).bind fun x4 =>
      (row_Check_1 n x4).bind fun y5 =>
      cond y5
        (some v3)
        (r1 (v1, v2, (IntKind.wrap .i64 (v3 + 1)), ())))
      (some (-1))
def slices_IndexFunc_Bounds_f67 (n : Nat) (p0 : List Bounds) : Option Int :=
  slices_IndexFunc_Bounds_f67_l1 n n (p0, (p0.length : Int), 0, ())
@[reducible] def slices_IndexFunc_Bounds_f67_ct : Ct tab := ⟨89, [.one (.d (.sl (.st 0))), .one (.fn 67 [])], [], [.one (.d (.int .i64))], [], Int, fun y => (y, ()), fun y => y.1, fun _ => rfl, fun n x => slices_IndexFunc_Bounds_f67 n x.1⟩
theorem slices_IndexFunc_Bounds_f67_ok : OkC Try.prog tab slices_IndexFunc_Bounds_f67_ct := fn_ok (W := ⟨Try.prog, tab, tyOf, [row_Check_1_ct]⟩) ⟨tabOk, ⟨row_Check_1_ok, trivial⟩⟩ (by kernel_rfl) 19 Try.f89 (.sq (.n) (.sq (.sq (.n) (.bk none (.lp ⟨[(0, .one (.d (.sl (.st 0)))), (1, .one (.fn 67 [])), (7, .one (.d (.int .i64))), (8, .one (.d (.int .i64)))], [], []⟩ (.n)))) (.n))) Try.func89 Try.call89 rfl (by kernel_rfl) (by kernel_rfl) (by kernel_rfl) fun n x => by kernel_rfl

/-! slices.ContainsFunc   bursary api.Bounds bursary api.Bounds  -/
def slices_ContainsFunc_Bounds_f67 (n : Nat) (p0 : List Bounds) : Option Bool :=
  (slices_IndexFunc_Bounds_f67 n p0).bind fun y1 =>
  some (decide (y1 ≥ 0))
@[reducible] def slices_ContainsFunc_Bounds_f67_ct : Ct tab := ⟨68, [.one (.d (.sl (.st 0))), .one (.fn 67 [])], [], [.one (.d .bool)], [], Bool, fun y => (y, ()), fun y => y.1, fun _ => rfl, fun n x => slices_ContainsFunc_Bounds_f67 n x.1⟩
theorem slices_ContainsFunc_Bounds_f67_ok : OkC Try.prog tab slices_ContainsFunc_Bounds_f67_ct := fn_ok (W := ⟨Try.prog, tab, tyOf, [slices_IndexFunc_Bounds_f67_ct]⟩) ⟨tabOk, ⟨slices_IndexFunc_Bounds_f67_ok, trivial⟩⟩ (by kernel_rfl) 9 Try.f68 (.n) Try.func68 Try.call68 rfl (by kernel_rfl) (by kernel_rfl) (by kernel_rfl) fun n x => by kernel_rfl

/-! bursary row.Check -/
def row_Check (n : Nat) (p0 : Schema) : Option Int :=
  jn (fun (b1 : Bool) =>
      jn (fun (b3 : Bool) =>
          cond b3
            (some 150)
            (some 0)) fun k4 =>
      cond b1
        (k4 true)
        ((slices_ContainsFunc_Bounds_f67 n p0.tables).bind fun y5 =>
        k4 y5)) fun k2 =>
  cond (decide ((p0.tables.length : Int) < 1))
    (k2 true)
    (k2 (decide ((p0.tables.length : Int) > 3)))
@[reducible] def row_Check_ct : Ct tab := ⟨36, [.st 1], [], [.one (.d (.int .i64))], [], Int, fun y => (y, ()), fun y => y.1, fun _ => rfl, fun n x => row_Check n x.1⟩
theorem row_Check_ok : OkC Try.prog tab row_Check_ct := fn_ok (W := ⟨Try.prog, tab, tyOf, [slices_ContainsFunc_Bounds_f67_ct]⟩) ⟨tabOk, ⟨slices_ContainsFunc_Bounds_f67_ok, trivial⟩⟩ (by kernel_rfl) 20 Try.f36 (.n) Try.func36 Try.call36 rfl (by kernel_rfl) (by kernel_rfl) (by kernel_rfl) fun n x => by kernel_rfl

/-! bursary row.known -/
def row_known (n : Nat) (p0 : Schema) (p1 : Key) : Option row_rule :=
  jn (fun (b1 : Bool) =>
      some (row_rule.mk b1 151)) fun k2 =>
  cond (decide (p1.table ≥ 0))
    (k2 (decide (p1.table < (p0.tables.length : Int))))
    (k2 false)
@[reducible] def row_known_ct : Ct tab := ⟨69, [.st 1, .st 2], [], [.st 5], [], row_rule, fun y => (y, ()), fun y => y.1, fun _ => rfl, fun n x => row_known n x.1 x.2.1⟩
theorem row_known_ok : OkC Try.prog tab row_known_ct := fn_ok (W := ⟨Try.prog, tab, tyOf, []⟩) ⟨tabOk, trivial⟩ (by kernel_rfl) 17 Try.f69 (.n) Try.func69 Try.call69 rfl (by kernel_rfl) (by kernel_rfl) (by kernel_rfl) fun n x => by kernel_rfl

/-! bursary row.all -/
def row_all_l1 (n : Nat) : Nat → (List row_rule) × Int × Int × Unit → Option Int := loopF fun r1 ⟨v1, v2, v3, _⟩ =>
    cond (decide (v3 < v2))
      ((idx v1 v3).bind fun x4 =>
      cond (!x4.is)
        (some x4.no)
        (r1 (v1, v2, (IntKind.wrap .i64 (v3 + 1)), ())))
      (some 0)
def row_all (n : Nat) (p0 : List row_rule) : Option Int :=
  row_all_l1 n n (p0, (p0.length : Int), 0, ())
@[reducible] def row_all_ct : Ct tab := ⟨50, [.one (.d (.sl (.st 5)))], [], [.one (.d (.int .i64))], [], Int, fun y => (y, ()), fun y => y.1, fun _ => rfl, fun n x => row_all n x.1⟩
theorem row_all_ok : OkC Try.prog tab row_all_ct := fn_ok (W := ⟨Try.prog, tab, tyOf, []⟩) ⟨tabOk, trivial⟩ (by kernel_rfl) 17 Try.f50 (.sq (.n) (.sq (.sq (.n) (.bk none (.lp ⟨[(5, .one (.d (.sl (.st 5)))), (6, .one (.d (.int .i64))), (7, .one (.d (.int .i64)))], [], []⟩ (.n)))) (.n))) Try.func50 Try.call50 rfl (by kernel_rfl) (by kernel_rfl) (by kernel_rfl) fun n x => by kernel_rfl

/-! bursary row.CheckKey -/
def row_CheckKey (n : Nat) (p0 : Schema) (p1 : Key) : Option Int :=
  (row_Check n p0).bind fun y1 =>
  cond (y1 != 0)
    (some y1)
    ((row_known n p0 p1).bind fun y2 =>
    (row_all n ([y2] : List row_rule)).bind fun y3 =>
    some y3)
@[reducible] def row_CheckKey_ct : Ct tab := ⟨38, [.st 1, .st 2], [], [.one (.d (.int .i64))], [], Int, fun y => (y, ()), fun y => y.1, fun _ => rfl, fun n x => row_CheckKey n x.1 x.2.1⟩
theorem row_CheckKey_ok : OkC Try.prog tab row_CheckKey_ct := fn_ok (W := ⟨Try.prog, tab, tyOf, [row_Check_ct, row_known_ct, row_all_ct]⟩) ⟨tabOk, ⟨row_Check_ok, row_known_ok, row_all_ok, trivial⟩⟩ (by kernel_rfl) 16 Try.f38 (.n) Try.func38 Try.call38 rfl (by kernel_rfl) (by kernel_rfl) (by kernel_rfl) fun n x => by kernel_rfl

/-! bursary row.CheckRow -/
def row_CheckRow (n : Nat) (p0 : Schema) (p1 : Row) : Option Int :=
  (row_CheckKey n p0 p1.key).bind fun y1 =>
  cond (y1 != 0)
    (some y1)
    ((idx p0.tables p1.key.table).bind fun x2 =>
    jn (fun (b3 : Bool) =>
        (row_all n ([(row_rule.mk (decide ((p1.note.size : Int) ≤ 8)) 3), (row_rule.mk b3 152)] : List row_rule)).bind fun y5 =>
        some y5) fun k4 =>
    cond (decide (p1.val ≥ x2.min))
      (k4 (decide (p1.val ≤ x2.max)))
      (k4 false))
@[reducible] def row_CheckRow_ct : Ct tab := ⟨48, [.st 1, .st 3], [], [.one (.d (.int .i64))], [], Int, fun y => (y, ()), fun y => y.1, fun _ => rfl, fun n x => row_CheckRow n x.1 x.2.1⟩
theorem row_CheckRow_ok : OkC Try.prog tab row_CheckRow_ct := fn_ok (W := ⟨Try.prog, tab, tyOf, [row_CheckKey_ct, row_all_ct]⟩) ⟨tabOk, ⟨row_CheckKey_ok, row_all_ok, trivial⟩⟩ (by kernel_rfl) 41 Try.f48 (.n) Try.func48 Try.call48 rfl (by kernel_rfl) (by kernel_rfl) (by kernel_rfl) fun n x => by kernel_rfl

/-! cmp.isNaN int  -/
def cmp_isNaN_int (n : Nat) (p0 : Int) : Option Bool :=
  some (p0 != p0)
@[reducible] def cmp_isNaN_int_ct : Ct tab := ⟨90, [.one (.d (.int .i64))], [], [.one (.d .bool)], [], Bool, fun y => (y, ()), fun y => y.1, fun _ => rfl, fun n x => cmp_isNaN_int n x.1⟩
theorem cmp_isNaN_int_ok : OkC Try.prog tab cmp_isNaN_int_ct := fn_ok (W := ⟨Try.prog, tab, tyOf, []⟩) ⟨tabOk, trivial⟩ (by kernel_rfl) 6 Try.f90 (.n) Try.func90 Try.call90 rfl (by kernel_rfl) (by kernel_rfl) (by kernel_rfl) fun n x => by kernel_rfl

/-! cmp.Compare int  -/
def cmp_Compare_int (n : Nat) (p0 : Int) (p1 : Int) : Option Int :=
  (cmp_isNaN_int n p0).bind fun y1 =>
  (cmp_isNaN_int n p1).bind fun y2 =>
  cond y1
    (cond y2
      (some 0)
      (some (-1)))
    (cond y2
      (some 1)
      (cond (decide (p0 < p1))
        (some (-1))
        (cond (decide (p0 > p1))
          (some 1)
          (some 0))))
@[reducible] def cmp_Compare_int_ct : Ct tab := ⟨73, [.one (.d (.int .i64)), .one (.d (.int .i64))], [], [.one (.d (.int .i64))], [], Int, fun y => (y, ()), fun y => y.1, fun _ => rfl, fun n x => cmp_Compare_int n x.1 x.2.1⟩
theorem cmp_Compare_int_ok : OkC Try.prog tab cmp_Compare_int_ct := fn_ok (W := ⟨Try.prog, tab, tyOf, [cmp_isNaN_int_ct]⟩) ⟨tabOk, ⟨cmp_isNaN_int_ok, trivial⟩⟩ (by kernel_rfl) 20 Try.f73 (.n) Try.func73 Try.call73 rfl (by kernel_rfl) (by kernel_rfl) (by kernel_rfl) fun n x => by kernel_rfl

/-! cmp.isNaN uint16  -/
def cmp_isNaN_uint16 (n : Nat) (p0 : Int) : Option Bool :=
  some (p0 != p0)
@[reducible] def cmp_isNaN_uint16_ct : Ct tab := ⟨91, [.one (.d (.int .u16))], [], [.one (.d .bool)], [], Bool, fun y => (y, ()), fun y => y.1, fun _ => rfl, fun n x => cmp_isNaN_uint16 n x.1⟩
theorem cmp_isNaN_uint16_ok : OkC Try.prog tab cmp_isNaN_uint16_ct := fn_ok (W := ⟨Try.prog, tab, tyOf, []⟩) ⟨tabOk, trivial⟩ (by kernel_rfl) 6 Try.f91 (.n) Try.func91 Try.call91 rfl (by kernel_rfl) (by kernel_rfl) (by kernel_rfl) fun n x => by kernel_rfl

/-! cmp.Compare uint16  -/
def cmp_Compare_uint16 (n : Nat) (p0 : Int) (p1 : Int) : Option Int :=
  (cmp_isNaN_uint16 n p0).bind fun y1 =>
  (cmp_isNaN_uint16 n p1).bind fun y2 =>
  cond y1
    (cond y2
      (some 0)
      (some (-1)))
    (cond y2
      (some 1)
      (cond (decide (p0 < p1))
        (some (-1))
        (cond (decide (p0 > p1))
          (some 1)
          (some 0))))
@[reducible] def cmp_Compare_uint16_ct : Ct tab := ⟨74, [.one (.d (.int .u16)), .one (.d (.int .u16))], [], [.one (.d (.int .i64))], [], Int, fun y => (y, ()), fun y => y.1, fun _ => rfl, fun n x => cmp_Compare_uint16 n x.1 x.2.1⟩
theorem cmp_Compare_uint16_ok : OkC Try.prog tab cmp_Compare_uint16_ct := fn_ok (W := ⟨Try.prog, tab, tyOf, [cmp_isNaN_uint16_ct]⟩) ⟨tabOk, ⟨cmp_isNaN_uint16_ok, trivial⟩⟩ (by kernel_rfl) 20 Try.f74 (.n) Try.func74 Try.call74 rfl (by kernel_rfl) (by kernel_rfl) (by kernel_rfl) fun n x => by kernel_rfl

/-! cmp.Or int  -/
def cmp_Or_int_l1 (n : Nat) : Nat → Int × (List Int) × Int × Int × Unit → Option Int := loopF fun r1 ⟨v1, v2, v3, v4, _⟩ =>
    cond (decide (v4 < v3))
      ((idx v2 v4).bind fun x5 =>
      cond (x5 != v1)
        (some x5)
        (r1 (v1, v2, v3, (IntKind.wrap .i64 (v4 + 1)), ())))
      (some v1)
def cmp_Or_int (n : Nat) (p0 : List Int) : Option Int :=
  cmp_Or_int_l1 n n (0, p0, (p0.length : Int), 0, ())
@[reducible] def cmp_Or_int_ct : Ct tab := ⟨72, [.one (.d (.sl (.int .i64)))], [], [.one (.d (.int .i64))], [], Int, fun y => (y, ()), fun y => y.1, fun _ => rfl, fun n x => cmp_Or_int n x.1⟩
theorem cmp_Or_int_ok : OkC Try.prog tab cmp_Or_int_ct := fn_ok (W := ⟨Try.prog, tab, tyOf, []⟩) ⟨tabOk, trivial⟩ (by kernel_rfl) 18 Try.f72 (.sq (.n) (.sq (.n) (.sq (.sq (.n) (.bk none (.lp ⟨[(3, .one (.d (.int .i64))), (6, .one (.d (.sl (.int .i64)))), (7, .one (.d (.int .i64))), (8, .one (.d (.int .i64)))], [], []⟩ (.n)))) (.n)))) Try.func72 Try.call72 rfl (by kernel_rfl) (by kernel_rfl) (by kernel_rfl) fun n x => by kernel_rfl

/-! bursary row.Compare -/
def row_Compare (n : Nat) (p0 : Key) (p1 : Key) : Option Int :=
  (cmp_Compare_int n p0.table p1.table).bind fun y1 =>
  (cmp_Compare_uint16 n p0.id p1.id).bind fun y2 =>
  (cmp_Or_int n ([y1, y2] : List Int)).bind fun y3 =>
  some y3
@[reducible] def row_Compare_ct : Ct tab := ⟨49, [.st 2, .st 2], [], [.one (.d (.int .i64))], [], Int, fun y => (y, ()), fun y => y.1, fun _ => rfl, fun n x => row_Compare n x.1 x.2.1⟩
theorem row_Compare_ok : OkC Try.prog tab row_Compare_ct := fn_ok (W := ⟨Try.prog, tab, tyOf, [cmp_Compare_int_ct, cmp_Compare_uint16_ct, cmp_Or_int_ct]⟩) ⟨tabOk, ⟨cmp_Compare_int_ok, cmp_Compare_uint16_ok, cmp_Or_int_ok, trivial⟩⟩ (by kernel_rfl) 17 Try.f49 (.n) Try.func49 Try.call49 rfl (by kernel_rfl) (by kernel_rfl) (by kernel_rfl) fun n x => by kernel_rfl

/-! bursary row.CheckList -/
def row_CheckList_l1 (n : Nat) : Nat → (List Row) × (List Row) × Int × Int × Schema × Unit → Option Int := loopF fun r1 ⟨v2, v3, v4, v5, v6, _⟩ =>
    cond (decide (v5 < v4))
      ((idx v3 v5).bind fun x7 =>
      (row_CheckRow n v6 x7).bind fun y8 =>
      jn (fun (b9 : Bool) =>
          cond b9
            (some 151)
            (r1 (v2, v3, v4, (IntKind.wrap .i64 (v5 + 1)), v6, ()))) fun k10 =>
      cond (y8 != 0)
        (k10 true)
        (jn (fun (b11 : Bool) =>
            k10 b11) fun k12 =>
        cond (decide (v5 > 0))
          ((idx v2 (IntKind.wrap .i64 (v5 - 1))).bind fun x13 =>
          (row_Compare n x13.key x7.key).bind fun y14 =>
          k12 (decide (y14 ≥ 0)))
          (k12 false)))
      ((row_all n ([(row_rule.mk (decide ((v2.length : Int) ≤ 60)) 151)] : List row_rule)).bind fun y15 =>
      some y15)
def row_CheckList (n : Nat) (p0 : Schema) (p1 : List Row) : Option Int :=
  (row_Check n p0).bind fun y1 =>
  cond (y1 != 0)
    (some y1)
    (row_CheckList_l1 n n (p1, p1, (p1.length : Int), 0, p0, ()))
@[reducible] def row_CheckList_ct : Ct tab := ⟨19, [.st 1, .one (.d (.sl (.st 3)))], [], [.one (.d (.int .i64))], [], Int, fun y => (y, ()), fun y => y.1, fun _ => rfl, fun n x => row_CheckList n x.1 x.2.1⟩
theorem row_CheckList_ok : OkC Try.prog tab row_CheckList_ct := fn_ok (W := ⟨Try.prog, tab, tyOf, [row_Check_ct, row_CheckRow_ct, row_Compare_ct, row_all_ct]⟩) ⟨tabOk, ⟨row_Check_ok, row_CheckRow_ok, row_Compare_ok, row_all_ok, trivial⟩⟩ (by kernel_rfl) 47 Try.f19 (.sq (.n) (.sq (.n) (.sq (.sq (.n) (.bk none (.lp ⟨[(1, .one (.d (.sl (.st 3)))), (2, .one (.box 0 0)), (13, .one (.d (.sl (.st 3)))), (14, .one (.d (.int .i64))), (15, .one (.d (.int .i64)))], [.bst 1], []⟩ (.n)))) (.n)))) Try.func19 Try.call19 rfl (by kernel_rfl) (by kernel_rfl) (by kernel_rfl) fun n x => by kernel_rfl

/-! bursary ideal.bare -/
def ideal_bare_j2 (n : Nat) : Request × Request × Unit → Option Request := fun ⟨v5, v6, _⟩ =>
    some (Request.mk 0 v5.key v5.to v5.val v5.note v5.n)
def ideal_bare_j3 (n : Nat) (j2 : Request × Request × Unit → Option Request) : Request × Request × Unit → Option Request := fun ⟨v7, v8, _⟩ =>
    j2 (v7, v8, ())
def ideal_bare_j4 (n : Nat) (j3 : Request × Request × Unit → Option Request) : Request × Request × Unit → Option Request := fun ⟨v9, v10, _⟩ =>
    j3 (v9, v10, ())
def ideal_bare_j5 (n : Nat) (j4 : Request × Request × Unit → Option Request) : Request × Request × Unit → Option Request := fun ⟨v11, v12, _⟩ =>
    j4 (v11, v12, ())
def ideal_bare_j7 (n : Nat) (j5 : Request × Request × Unit → Option Request) : Request × Request × Unit → Option Request := fun ⟨v17, v18, _⟩ =>
    j5 (v17, v18, ())
def ideal_bare_j8 (n : Nat) (j7 : Request × Request × Unit → Option Request) : Request × Request × Unit → Option Request := fun ⟨v19, v20, _⟩ =>
    j7 (v19, v20, ())
def ideal_bare_j9 (n : Nat) (j8 : Request × Request × Unit → Option Request) : Request × Request × Unit → Option Request := fun ⟨v21, v22, _⟩ =>
    j8 (v21, v22, ())
def ideal_bare_j6 (n : Nat) (j5 : Request × Request × Unit → Option Request) : Int × Bool × Request × Request × Unit → Option Request := fun ⟨v13, v14, v15, v16, _⟩ =>
    jn (ideal_bare_j7 n j5) fun j7 =>
    cond v14
      (j7 ((Request.mk v15.kind (Key.mk 0 0) v15.to 0 v15.note v15.n), v16, ()))
      (jn (ideal_bare_j8 n j7) fun j8 =>
      cond (v13 == 8)
        (j8 ((Request.mk v15.kind (Key.mk 0 0) (Key.mk 0 0) 0 v15.note v15.n), v16, ()))
        (jn (ideal_bare_j9 n j8) fun j9 =>
        cond (v13 == 10)
          (j9 ((Request.mk v15.kind v15.key v15.to v15.val v15.note 0), v16, ()))
          (j9 (v15, v16, ()))))
def ideal_bare_j1 (n : Nat) : Int × Bool × Request × Request × Unit → Option Request := fun ⟨v1, v2, v3, v4, _⟩ =>
    jn (ideal_bare_j2 n) fun j2 =>
    cond v2
      (j2 ((Request.mk v3.kind (Key.mk 0 0) v3.to v3.val v3.note v3.n), v4, ()))
      (jn (ideal_bare_j3 n j2) fun j3 =>
      cond (v1 == 2)
        (j3 ((Request.mk v3.kind (Key.mk 0 v3.key.id) v3.to v3.val v3.note v3.n), v4, ()))
        (jn (ideal_bare_j4 n j3) fun j4 =>
        cond (v1 == 3)
          (j4 ((Request.mk v3.kind (Key.mk 0 0) v3.to 0 (ByteArray.mk #[]) v3.n), v4, ()))
          (jn (ideal_bare_j5 n j4) fun j5 =>
          cond (v1 == 5)
            (j5 ((Request.mk v3.kind (Key.mk 0 0) v3.to v3.val (ByteArray.mk #[]) v3.n), v4, ()))
            (jn (ideal_bare_j6 n j5) fun j6 =>
            cond (v1 == 6)
              (j6 (v1, (v1 == 6), v3, v4, ()))
              (j6 (v1, (v1 == 7), v3, v4, ()))))))
def ideal_bare (n : Nat) (p0 : Request) : Option Request :=
  jn (ideal_bare_j1 n) fun j1 =>
  cond (p0.kind == 1)
    (j1 (p0.kind, (p0.kind == 1), p0, (Request.mk 0 (Key.mk 0 0) (Key.mk 0 0) 0 ByteArray.empty 0), ()))
    (j1 (p0.kind, (p0.kind == 4), p0, (Request.mk 0 (Key.mk 0 0) (Key.mk 0 0) 0 ByteArray.empty 0), ()))
@[reducible] def ideal_bare_ct : Ct tab := ⟨37, [.st 4], [], [.st 4], [], Request, fun y => (y, ()), fun y => y.1, fun _ => rfl, fun n x => ideal_bare n x.1⟩
theorem ideal_bare_ok : OkC Try.prog tab ideal_bare_ct := fn_ok (W := ⟨Try.prog, tab, tyOf, []⟩) ⟨tabOk, trivial⟩ (by kernel_rfl) 43 Try.f37 (.sq (.n) (.sq (.sq (.n) (.bk none (.sq (.sq (.n) (.cd (some ⟨[(1, .one (.box 0 0)), (2, .one (.box 1 0)), (4, .one (.d (.int .i64))), (5, .one (.d .bool))], [.bst 4, .bst 4], []⟩) (.n) (.n))) (.cd (some ⟨[(1, .one (.box 0 0)), (2, .one (.box 1 0))], [.bst 4, .bst 4], []⟩) (.n) (.sq (.n) (.cd (some ⟨[(1, .one (.box 0 0)), (2, .one (.box 1 0))], [.bst 4, .bst 4], []⟩) (.n) (.sq (.n) (.cd (some ⟨[(1, .one (.box 0 0)), (2, .one (.box 1 0))], [.bst 4, .bst 4], []⟩) (.n) (.sq (.n) (.cd (some ⟨[(1, .one (.box 0 0)), (2, .one (.box 1 0))], [.bst 4, .bst 4], []⟩) (.n) (.sq (.sq (.n) (.cd (some ⟨[(1, .one (.box 0 0)), (2, .one (.box 1 0)), (4, .one (.d (.int .i64))), (25, .one (.d .bool))], [.bst 4, .bst 4], []⟩) (.n) (.n))) (.cd (some ⟨[(1, .one (.box 0 0)), (2, .one (.box 1 0))], [.bst 4, .bst 4], []⟩) (.n) (.sq (.n) (.cd (some ⟨[(1, .one (.box 0 0)), (2, .one (.box 1 0))], [.bst 4, .bst 4], []⟩) (.n) (.sq (.n) (.cd (some ⟨[(1, .one (.box 0 0)), (2, .one (.box 1 0))], [.bst 4, .bst 4], []⟩) (.n) (.n))))))))))))))))) (.n))) Try.func37 Try.call37 rfl (by kernel_rfl) (by kernel_rfl) (by kernel_rfl) fun n x => by kernel_rfl

/-! bursary ideal.CheckRequest -/
def ideal_CheckRequest_j1 (n : Nat) : Bool × Unit → Option Int := fun ⟨v12, _⟩ =>
    cond (!v12)
      (some 250)
      (some 0)
def ideal_CheckRequest_j2 (n : Nat) (j1 : Bool × Unit → Option Int) : Bool × Unit → Option Int := fun ⟨v17, _⟩ =>
    j1 (v17, ())
def ideal_CheckRequest (n : Nat) (p0 : Schema) (p1 : Request) : Option Int :=
  (row_Check n p0).bind fun y1 =>
  cond (y1 != 0)
    (some y1)
    (jn (fun (b2 : Bool) =>
        jn (fun (b4 : Bool) =>
            jn (fun (b6 : Bool) =>
                jn (fun (b8 : Bool) =>
                    jn (fun (b10 : Bool) =>
                        jn (ideal_CheckRequest_j1 n) fun j1 =>
                        cond (p1.kind == 8)
                          (jn (fun (b13 : Bool) =>
                              jn (fun (b15 : Bool) =>
                                  j1 (b15, ())) fun k16 =>
                              cond b13
                                (k16 (decide (p1.val ≥ 0)))
                                (k16 false)) fun k14 =>
                          cond b10
                            (k14 (!(Key.eqb p1.key p1.to)))
                            (k14 false))
                          (jn (ideal_CheckRequest_j2 n j1) fun j2 =>
                          cond (p1.kind == 10)
                            (jn (fun (b18 : Bool) =>
                                j2 (b18, ())) fun k19 =>
                            cond b10
                              (k19 (decide (p1.n ≥ 1)))
                              (k19 false))
                            (j2 (b10, ())))) fun k11 =>
                    cond b8
                      ((row_CheckKey n p0 p1.to).bind fun y20 =>
                      k11 (y20 == 0))
                      (k11 false)) fun k9 =>
                cond b6
                  ((row_CheckKey n p0 p1.key).bind fun y21 =>
                  k9 (y21 == 0))
                  (k9 false)) fun k7 =>
            cond b4
              (k7 (decide ((p1.note.size : Int) ≤ 8)))
              (k7 false)) fun k5 =>
        cond b2
          ((ideal_bare n p1).bind fun y22 =>
          k5 (Request.eqb y22 (Request.mk 0 (Key.mk 0 0) (Key.mk 0 0) 0 ByteArray.empty 0)))
          (k5 false)) fun k3 =>
    cond (decide (p1.kind ≥ 1))
      (k3 (decide (p1.kind ≤ 12)))
      (k3 false))
@[reducible] def ideal_CheckRequest_ct : Ct tab := ⟨12, [.st 1, .st 4], [], [.one (.d (.int .i64))], [], Int, fun y => (y, ()), fun y => y.1, fun _ => rfl, fun n x => ideal_CheckRequest n x.1 x.2.1⟩
theorem ideal_CheckRequest_ok : OkC Try.prog tab ideal_CheckRequest_ct := fn_ok (W := ⟨Try.prog, tab, tyOf, [row_Check_ct, row_CheckKey_ct, ideal_bare_ct]⟩) ⟨tabOk, ⟨row_Check_ok, row_CheckKey_ok, ideal_bare_ok, trivial⟩⟩ (by kernel_rfl) 74 Try.f12 (.sq (.n) (.sq (.n) (.sq (.n) (.sq (.n) (.sq (.sq (.n) (.bk none (.sq (.n) (.cd (some ⟨[(6, .one (.d .bool))], [], []⟩) (.n) (.sq (.n) (.cd (some ⟨[(6, .one (.d .bool))], [], []⟩) (.n) (.n))))))) (.n)))))) Try.func12 Try.call12 rfl (by kernel_rfl) (by kernel_rfl) (by kernel_rfl) fun n x => by kernel_rfl

/-! slices.Clone   bursary api.Row bursary api.Row  -/
def slices_Clone_Row (n : Nat) (p0 : List Row) : Option ((List Row)) :=
  nilC p0.isEmpty
    (some ([] : List Row))
    ((app 40 ([] : List Row) p0).bind fun l1 =>
    some l1)
@[reducible] def slices_Clone_Row_ct : Ct tab := ⟨34, [.one (.d (.sl (.st 3)))], [], [.one (.own 0)], [(none, .row 52 (.st 3))], ((List Row)), fun y => (y, ()), fun y => y.1, fun _ => rfl, fun n x => slices_Clone_Row n x.1⟩
theorem slices_Clone_Row_ok : OkC Try.prog tab slices_Clone_Row_ct := fn_ok (W := ⟨Try.prog, tab, tyOf, []⟩) ⟨tabOk, trivial⟩ (by kernel_rfl) 8 Try.f34 (.n) Try.func34 Try.call34 rfl (by kernel_rfl) (by kernel_rfl) (by kernel_rfl) fun n x => by kernel_rfl

/-!   bursary ideal.turn .read 1 -/
def ideal_turn_read_1 (n : Nat) (p0 : Int) (q1_0 : List Bounds) (q1_1 : Int) (q1_2 : Int) (q1_3 : Int) (q1_4 : Int) (q1_5 : Int) (q1_6 : Int) (q1_7 : ByteArray) (q1_8 : Int) (q2 : List Row) : Option (Answer × (List Bounds) × Int × Int × Int × Int × Int × Int × ByteArray × Int × (List Row)) :=
  (idx q2 p0).bind fun x1 =>
  (idx q2 p0).bind fun x2 =>
  some ((Answer.mk 0 ([x2] : List Row) 0), q1_0, q1_1, q1_2, q1_3, q1_4, q1_5, q1_6, q1_7, q1_8, q2)
@[reducible] def ideal_turn_read_1_ct : Ct tab := ⟨77, [.one (.d (.int .i64)), .one (.box 0 0)], [.box [.box 1 0], .box [.d (.sl (.st 0)), .own 2, .d (.int .i64), .d (.int .i64), .d (.int .u16), .d (.int .i64), .d (.int .u16), .d (.int .i64), .d .str, .d (.int .i64)], .row 52 (.st 3)], [.st 6], [(some 0, .box [.box 1 0]), (some 1, .box [.d (.sl (.st 0)), .own 2, .d (.int .i64), .d (.int .i64), .d (.int .u16), .d (.int .i64), .d (.int .u16), .d (.int .i64), .d .str, .d (.int .i64)]), (none, .row 52 (.st 3))], (Answer × (List Bounds) × Int × Int × Int × Int × Int × Int × ByteArray × Int × (List Row)), fun y => (y.1, y.2.1, y.2.2.1, y.2.2.2.1, y.2.2.2.2.1, y.2.2.2.2.2.1, y.2.2.2.2.2.2.1, y.2.2.2.2.2.2.2.1, y.2.2.2.2.2.2.2.2.1, y.2.2.2.2.2.2.2.2.2.1, y.2.2.2.2.2.2.2.2.2.2, ()), fun y => (y.1, y.2.1, y.2.2.1, y.2.2.2.1, y.2.2.2.2.1, y.2.2.2.2.2.1, y.2.2.2.2.2.2.1, y.2.2.2.2.2.2.2.1, y.2.2.2.2.2.2.2.2.1, y.2.2.2.2.2.2.2.2.2.1, y.2.2.2.2.2.2.2.2.2.2.1), fun _ => rfl, fun n x => ideal_turn_read_1 n x.1 x.2.1 x.2.2.1 x.2.2.2.1 x.2.2.2.2.1 x.2.2.2.2.2.1 x.2.2.2.2.2.2.1 x.2.2.2.2.2.2.2.1 x.2.2.2.2.2.2.2.2.1 x.2.2.2.2.2.2.2.2.2.1 x.2.2.2.2.2.2.2.2.2.2.1⟩
theorem ideal_turn_read_1_ok : OkC Try.prog tab ideal_turn_read_1_ct := fn_ok (W := ⟨Try.prog, tab, tyOf, []⟩) ⟨tabOk, trivial⟩ (by kernel_rfl) 13 Try.f77 (.n) Try.func77 Try.call77 rfl (by kernel_rfl) (by kernel_rfl) (by kernel_rfl) fun n x => by kernel_rfl

/-! bursary row.Find 1 -/
def row_Find_1 (n : Nat) (p0 : Row) (p1 : Key) : Option Bool :=
  some (Key.eqb p0.key p1)
@[reducible] def row_Find_1_ct : Ct tab := ⟨52, [.st 3, .one (.ro (.st 2))], [], [.one (.d .bool)], [], Bool, fun y => (y, ()), fun y => y.1, fun _ => rfl, fun n x => row_Find_1 n x.1 x.2.1⟩
theorem row_Find_1_ok : OkC Try.prog tab row_Find_1_ct := fn_ok (W := ⟨Try.prog, tab, tyOf, []⟩) ⟨tabOk, trivial⟩ (by kernel_rfl) 8 Try.f52 (.n) Try.func52 Try.call52 rfl (by kernel_rfl) (by kernel_rfl) (by kernel_rfl) fun n x => by kernel_rfl

/-! slices.IndexFunc   bursary api.Row bursary api.Row  -/
def slices_IndexFunc_Row_f52_l1 (n : Nat) : Nat → (List Row) × Key × Int × Int × Unit → Option Int := loopF fun r1 ⟨v1, v2, v3, v4, _⟩ =>
    cond (decide (v4 < v3))
      ((idx v1 v4).bind fun x5 =>
      (row_Find_1 n x5 v2).bind fun y6 =>
      cond y6
        (some v4)
        (r1 (v1, v2, v3, (IntKind.wrap .i64 (v4 + 1)), ())))
      (some (-1))
def slices_IndexFunc_Row_f52 (n : Nat) (p0 : List Row) (p1 : Key) : Option Int :=
  slices_IndexFunc_Row_f52_l1 n n (p0, p1, (p0.length : Int), 0, ())
@[reducible] def slices_IndexFunc_Row_f52_ct : Ct tab := ⟨51, [.one (.d (.sl (.st 3))), .one (.fn 52 [.ro (.st 2)])], [], [.one (.d (.int .i64))], [], Int, fun y => (y, ()), fun y => y.1, fun _ => rfl, fun n x => slices_IndexFunc_Row_f52 n x.1 x.2.1⟩
theorem slices_IndexFunc_Row_f52_ok : OkC Try.prog tab slices_IndexFunc_Row_f52_ct := fn_ok (W := ⟨Try.prog, tab, tyOf, [row_Find_1_ct]⟩) ⟨tabOk, ⟨row_Find_1_ok, trivial⟩⟩ (by kernel_rfl) 19 Try.f51 (.sq (.n) (.sq (.sq (.n) (.bk none (.lp ⟨[(0, .one (.d (.sl (.st 3)))), (1, .one (.fn 52 [.ro (.st 2)])), (7, .one (.d (.int .i64))), (8, .one (.d (.int .i64)))], [], []⟩ (.n)))) (.n))) Try.func51 Try.call51 rfl (by kernel_rfl) (by kernel_rfl) (by kernel_rfl) fun n x => by kernel_rfl

/-! bursary row.Find -/
def row_Find (n : Nat) (p0 : List Row) (p1 : Key) : Option (Int × Bool) :=
  (slices_IndexFunc_Row_f52 n p0 p1).bind fun y1 =>
  some ((if 0 > y1 then 0 else y1), (decide (y1 ≥ 0)))
@[reducible] def row_Find_ct : Ct tab := ⟨21, [.one (.d (.sl (.st 3))), .st 2], [], [.one (.d (.int .i64)), .one (.d .bool)], [], (Int × Bool), fun y => (y.1, y.2, ()), fun y => (y.1, y.2.1), fun _ => rfl, fun n x => row_Find n x.1 x.2.1⟩
theorem row_Find_ok : OkC Try.prog tab row_Find_ct := fn_ok (W := ⟨Try.prog, tab, tyOf, [slices_IndexFunc_Row_f52_ct]⟩) ⟨tabOk, ⟨slices_IndexFunc_Row_f52_ok, trivial⟩⟩ (by kernel_rfl) 14 Try.f21 (.n) Try.func21 Try.call21 rfl (by kernel_rfl) (by kernel_rfl) (by kernel_rfl) fun n x => by kernel_rfl

/-!   bursary ideal.turn .found -/
def ideal_turn_found_f77 (n : Nat) (p1 : Key) (q0_0 : List Bounds) (q0_1 : Int) (q0_2 : Int) (q0_3 : Int) (q0_4 : Int) (q0_5 : Int) (q0_6 : Int) (q0_7 : ByteArray) (q0_8 : Int) (q1 : List Row) : Option (Answer × (List Bounds) × Int × Int × Int × Int × Int × Int × ByteArray × Int × (List Row)) :=
  (row_Find n q1 p1).bind fun y1 =>
  cond (!y1.2)
    (some ((Answer.mk 4 ([] : List Row) 0), q0_0, q0_1, q0_2, q0_3, q0_4, q0_5, q0_6, q0_7, q0_8, q1))
    ((ideal_turn_read_1 n y1.1 q0_0 q0_1 q0_2 q0_3 q0_4 q0_5 q0_6 q0_7 q0_8 q1).bind fun y2 =>
    some (y2.1, y2.2.1, y2.2.2.1, y2.2.2.2.1, y2.2.2.2.2.1, y2.2.2.2.2.2.1, y2.2.2.2.2.2.2.1, y2.2.2.2.2.2.2.2.1, y2.2.2.2.2.2.2.2.2.1, y2.2.2.2.2.2.2.2.2.2.1, y2.2.2.2.2.2.2.2.2.2.2))
@[reducible] def ideal_turn_found_f77_ct : Ct tab := ⟨76, [.one (.box 0 0), .st 2, .one (.fn 77 [.bx 2])], [.box [.d (.sl (.st 0)), .own 1, .d (.int .i64), .d (.int .i64), .d (.int .u16), .d (.int .i64), .d (.int .u16), .d (.int .i64), .d .str, .d (.int .i64)], .row 52 (.st 3), .box [.box 0 0]], [.st 6], [(some 0, .box [.d (.sl (.st 0)), .own 2, .d (.int .i64), .d (.int .i64), .d (.int .u16), .d (.int .i64), .d (.int .u16), .d (.int .i64), .d .str, .d (.int .i64)]), (some 2, .box [.box 0 0]), (none, .row 52 (.st 3))], (Answer × (List Bounds) × Int × Int × Int × Int × Int × Int × ByteArray × Int × (List Row)), fun y => (y.1, y.2.1, y.2.2.1, y.2.2.2.1, y.2.2.2.2.1, y.2.2.2.2.2.1, y.2.2.2.2.2.2.1, y.2.2.2.2.2.2.2.1, y.2.2.2.2.2.2.2.2.1, y.2.2.2.2.2.2.2.2.2.1, y.2.2.2.2.2.2.2.2.2.2, ()), fun y => (y.1, y.2.1, y.2.2.1, y.2.2.2.1, y.2.2.2.2.1, y.2.2.2.2.2.1, y.2.2.2.2.2.2.1, y.2.2.2.2.2.2.2.1, y.2.2.2.2.2.2.2.2.1, y.2.2.2.2.2.2.2.2.2.1, y.2.2.2.2.2.2.2.2.2.2.1), fun _ => rfl, fun n x => ideal_turn_found_f77 n x.1 x.2.1 x.2.2.1 x.2.2.2.1 x.2.2.2.2.1 x.2.2.2.2.2.1 x.2.2.2.2.2.2.1 x.2.2.2.2.2.2.2.1 x.2.2.2.2.2.2.2.2.1 x.2.2.2.2.2.2.2.2.2.1 x.2.2.2.2.2.2.2.2.2.2.1⟩
theorem ideal_turn_found_f77_ok : OkC Try.prog tab ideal_turn_found_f77_ct := fn_ok (W := ⟨Try.prog, tab, tyOf, [row_Find_ct, ideal_turn_read_1_ct]⟩) ⟨tabOk, ⟨row_Find_ok, ideal_turn_read_1_ok, trivial⟩⟩ (by kernel_rfl) 24 Try.f76 (.n) Try.func76 Try.call76 rfl (by kernel_rfl) (by kernel_rfl) (by kernel_rfl) fun n x => by kernel_rfl

/-!   bursary ideal.turn .read -/
def ideal_turn_read (n : Nat) (q0_0 : List Bounds) (q0_1 : Int) (q0_2 : Int) (q0_3 : Int) (q0_4 : Int) (q0_5 : Int) (q0_6 : Int) (q0_7 : ByteArray) (q0_8 : Int) (q1 : List Row) : Option (Answer × (List Bounds) × Int × Int × Int × Int × Int × Int × ByteArray × Int × (List Row)) :=
  (ideal_turn_found_f77 n (Key.mk q0_2 q0_3) q0_0 q0_1 q0_2 q0_3 q0_4 q0_5 q0_6 q0_7 q0_8 q1).bind fun y1 =>
  some (y1.1, y1.2.1, y1.2.2.1, y1.2.2.2.1, y1.2.2.2.2.1, y1.2.2.2.2.2.1, y1.2.2.2.2.2.2.1, y1.2.2.2.2.2.2.2.1, y1.2.2.2.2.2.2.2.2.1, y1.2.2.2.2.2.2.2.2.2.1, y1.2.2.2.2.2.2.2.2.2.2)
@[reducible] def ideal_turn_read_ct : Ct tab := ⟨59, [.one (.box 0 0)], [.box [.d (.sl (.st 0)), .own 1, .d (.int .i64), .d (.int .i64), .d (.int .u16), .d (.int .i64), .d (.int .u16), .d (.int .i64), .d .str, .d (.int .i64)], .row 52 (.st 3)], [.st 6], [(some 0, .box [.d (.sl (.st 0)), .own 1, .d (.int .i64), .d (.int .i64), .d (.int .u16), .d (.int .i64), .d (.int .u16), .d (.int .i64), .d .str, .d (.int .i64)]), (none, .row 52 (.st 3))], (Answer × (List Bounds) × Int × Int × Int × Int × Int × Int × ByteArray × Int × (List Row)), fun y => (y.1, y.2.1, y.2.2.1, y.2.2.2.1, y.2.2.2.2.1, y.2.2.2.2.2.1, y.2.2.2.2.2.2.1, y.2.2.2.2.2.2.2.1, y.2.2.2.2.2.2.2.2.1, y.2.2.2.2.2.2.2.2.2.1, y.2.2.2.2.2.2.2.2.2.2, ()), fun y => (y.1, y.2.1, y.2.2.1, y.2.2.2.1, y.2.2.2.2.1, y.2.2.2.2.2.1, y.2.2.2.2.2.2.1, y.2.2.2.2.2.2.2.1, y.2.2.2.2.2.2.2.2.1, y.2.2.2.2.2.2.2.2.2.1, y.2.2.2.2.2.2.2.2.2.2.1), fun _ => rfl, fun n x => ideal_turn_read n x.1 x.2.1 x.2.2.1 x.2.2.2.1 x.2.2.2.2.1 x.2.2.2.2.2.1 x.2.2.2.2.2.2.1 x.2.2.2.2.2.2.2.1 x.2.2.2.2.2.2.2.2.1 x.2.2.2.2.2.2.2.2.2.1⟩
theorem ideal_turn_read_ok : OkC Try.prog tab ideal_turn_read_ct := fn_ok (W := ⟨Try.prog, tab, tyOf, [ideal_turn_found_f77_ct]⟩) ⟨tabOk, ⟨ideal_turn_found_f77_ok, trivial⟩⟩ (by kernel_rfl) 11 Try.f59 (.n) Try.func59 Try.call59 rfl (by kernel_rfl) (by kernel_rfl) (by kernel_rfl) fun n x => by kernel_rfl

/-! bursary row.Of -/
def row_Of_j2 (n : Nat) (r1 : Int × (List Row) × Int × Int × (List Row) × Unit → Option ((List Row))) : Int × (List Row) × Int × Int × (List Row) × Unit → Option ((List Row)) := fun ⟨v7, v8, v9, v10, v11, _⟩ =>
    r1 (v7, v8, v9, (IntKind.wrap .i64 (v10 + 1)), v11, ())
def row_Of_l1 (n : Nat) : Nat → Int × (List Row) × Int × Int × (List Row) × Unit → Option ((List Row)) := loopF fun r1 ⟨v1, v2, v3, v4, v5, _⟩ =>
    cond (decide (v4 < v3))
      ((idx v2 v4).bind fun x6 =>
      jn (row_Of_j2 n r1) fun j2 =>
      cond (x6.key.table == v1)
        ((app 40 v5 ([x6] : List Row)).bind fun l12 =>
        j2 (v1, v2, v3, v4, l12, ()))
        (j2 (v1, v2, v3, v4, v5, ())))
      (some v5)
def row_Of (n : Nat) (p0 : List Row) (p1 : Int) : Option ((List Row)) :=
  row_Of_l1 n n (p1, p0, (p0.length : Int), 0, ([] : List Row), ())
@[reducible] def row_Of_ct : Ct tab := ⟨78, [.one (.d (.sl (.st 3))), .one (.d (.int .i64))], [], [.one (.own 0)], [(none, .row 52 (.st 3))], ((List Row)), fun y => (y, ()), fun y => y.1, fun _ => rfl, fun n x => row_Of n x.1 x.2.1⟩
theorem row_Of_ok : OkC Try.prog tab row_Of_ct := fn_ok (W := ⟨Try.prog, tab, tyOf, []⟩) ⟨tabOk, trivial⟩ (by kernel_rfl) 25 Try.f78 (.sq (.n) (.sq (.n) (.sq (.sq (.n) (.bk none (.lp ⟨[(1, .one (.d (.int .i64))), (5, .one (.own 0)), (8, .one (.d (.sl (.st 3)))), (9, .one (.d (.int .i64))), (10, .one (.d (.int .i64)))], [.row 52 (.st 3)], []⟩ (.sq (.n) (.sq (.n) (.sq (.bk none (.sq (.n) (.sq (.n) (.cd (some ⟨[(1, .one (.d (.int .i64))), (5, .one (.own 0)), (8, .one (.d (.sl (.st 3)))), (9, .one (.d (.int .i64))), (10, .one (.d (.int .i64)))], [.row 52 (.st 3)], []⟩) (.n) (.n))))) (.n))))))) (.n)))) Try.func78 Try.call78 rfl (by kernel_rfl) (by kernel_rfl) (by kernel_rfl) fun n x => by kernel_rfl

/-!   bursary ideal.turn .scan -/
def ideal_turn_scan (n : Nat) (q0_0 : List Bounds) (q0_1 : Int) (q0_2 : Int) (q0_3 : Int) (q0_4 : Int) (q0_5 : Int) (q0_6 : Int) (q0_7 : ByteArray) (q0_8 : Int) (q1 : List Row) : Option (Answer × (List Bounds) × Int × Int × Int × Int × Int × Int × ByteArray × Int × (List Row)) :=
  (row_Of n q1 q0_2).bind fun y1 =>
  some ((Answer.mk 0 y1 0), q0_0, q0_1, q0_2, q0_3, q0_4, q0_5, q0_6, q0_7, q0_8, q1)
@[reducible] def ideal_turn_scan_ct : Ct tab := ⟨60, [.one (.box 0 0)], [.box [.d (.sl (.st 0)), .own 1, .d (.int .i64), .d (.int .i64), .d (.int .u16), .d (.int .i64), .d (.int .u16), .d (.int .i64), .d .str, .d (.int .i64)], .row 52 (.st 3)], [.st 6], [(some 0, .box [.d (.sl (.st 0)), .own 1, .d (.int .i64), .d (.int .i64), .d (.int .u16), .d (.int .i64), .d (.int .u16), .d (.int .i64), .d .str, .d (.int .i64)]), (none, .row 52 (.st 3))], (Answer × (List Bounds) × Int × Int × Int × Int × Int × Int × ByteArray × Int × (List Row)), fun y => (y.1, y.2.1, y.2.2.1, y.2.2.2.1, y.2.2.2.2.1, y.2.2.2.2.2.1, y.2.2.2.2.2.2.1, y.2.2.2.2.2.2.2.1, y.2.2.2.2.2.2.2.2.1, y.2.2.2.2.2.2.2.2.2.1, y.2.2.2.2.2.2.2.2.2.2, ()), fun y => (y.1, y.2.1, y.2.2.1, y.2.2.2.1, y.2.2.2.2.1, y.2.2.2.2.2.1, y.2.2.2.2.2.2.1, y.2.2.2.2.2.2.2.1, y.2.2.2.2.2.2.2.2.1, y.2.2.2.2.2.2.2.2.2.1, y.2.2.2.2.2.2.2.2.2.2.1), fun _ => rfl, fun n x => ideal_turn_scan n x.1 x.2.1 x.2.2.1 x.2.2.2.1 x.2.2.2.2.1 x.2.2.2.2.2.1 x.2.2.2.2.2.2.1 x.2.2.2.2.2.2.2.1 x.2.2.2.2.2.2.2.2.1 x.2.2.2.2.2.2.2.2.2.1⟩
theorem ideal_turn_scan_ok : OkC Try.prog tab ideal_turn_scan_ct := fn_ok (W := ⟨Try.prog, tab, tyOf, [row_Of_ct]⟩) ⟨tabOk, ⟨row_Of_ok, trivial⟩⟩ (by kernel_rfl) 15 Try.f60 (.n) Try.func60 Try.call60 rfl (by kernel_rfl) (by kernel_rfl) (by kernel_rfl) fun n x => by kernel_rfl

/-!   bursary ideal.turn .fits -/
def ideal_turn_fits (n : Nat) (p1 : Key) (p2 : Int) (q0_0 : List Bounds) (q0_1 : Int) (q0_2 : Int) (q0_3 : Int) (q0_4 : Int) (q0_5 : Int) (q0_6 : Int) (q0_7 : ByteArray) (q0_8 : Int) (q1 : List Row) : Option (Bool × (List Bounds) × Int × Int × Int × Int × Int × Int × ByteArray × Int × (List Row)) :=
  (idx q0_0 p1.table).bind fun x1 =>
  jn (fun (b2 : Bool) =>
      some (b2, q0_0, q0_1, q0_2, q0_3, q0_4, q0_5, q0_6, q0_7, q0_8, q1)) fun k3 =>
  cond (decide (p2 ≥ x1.min))
    (k3 (decide (p2 ≤ x1.max)))
    (k3 false)
@[reducible] def ideal_turn_fits_ct : Ct tab := ⟨79, [.one (.box 0 0), .st 2, .one (.d (.int .i64))], [.box [.d (.sl (.st 0)), .own 1, .d (.int .i64), .d (.int .i64), .d (.int .u16), .d (.int .i64), .d (.int .u16), .d (.int .i64), .d .str, .d (.int .i64)], .row 52 (.st 3)], [.one (.d .bool)], [(some 0, .box [.d (.sl (.st 0)), .own 1, .d (.int .i64), .d (.int .i64), .d (.int .u16), .d (.int .i64), .d (.int .u16), .d (.int .i64), .d .str, .d (.int .i64)]), (none, .row 52 (.st 3))], (Bool × (List Bounds) × Int × Int × Int × Int × Int × Int × ByteArray × Int × (List Row)), fun y => (y.1, y.2.1, y.2.2.1, y.2.2.2.1, y.2.2.2.2.1, y.2.2.2.2.2.1, y.2.2.2.2.2.2.1, y.2.2.2.2.2.2.2.1, y.2.2.2.2.2.2.2.2.1, y.2.2.2.2.2.2.2.2.2.1, y.2.2.2.2.2.2.2.2.2.2, ()), fun y => (y.1, y.2.1, y.2.2.1, y.2.2.2.1, y.2.2.2.2.1, y.2.2.2.2.2.1, y.2.2.2.2.2.2.1, y.2.2.2.2.2.2.2.1, y.2.2.2.2.2.2.2.2.1, y.2.2.2.2.2.2.2.2.2.1, y.2.2.2.2.2.2.2.2.2.2.1), fun _ => rfl, fun n x => ideal_turn_fits n x.1 x.2.1 x.2.2.1 x.2.2.2.1 x.2.2.2.2.1 x.2.2.2.2.2.1 x.2.2.2.2.2.2.1 x.2.2.2.2.2.2.2.1 x.2.2.2.2.2.2.2.2.1 x.2.2.2.2.2.2.2.2.2.1 x.2.2.2.2.2.2.2.2.2.2.1 x.2.2.2.2.2.2.2.2.2.2.2.1⟩
theorem ideal_turn_fits_ok : OkC Try.prog tab ideal_turn_fits_ct := fn_ok (W := ⟨Try.prog, tab, tyOf, []⟩) ⟨tabOk, trivial⟩ (by kernel_rfl) 27 Try.f79 (.n) Try.func79 Try.call79 rfl (by kernel_rfl) (by kernel_rfl) (by kernel_rfl) fun n x => by kernel_rfl

/-! bursary row.place 1 -/
def row_place_1 (n : Nat) (p0 : Row) (p1 : Key) : Option Int :=
  (row_Compare n p0.key p1).bind fun y1 =>
  some y1
@[reducible] def row_place_1_ct : Ct tab := ⟨95, [.st 3, .st 2], [], [.one (.d (.int .i64))], [], Int, fun y => (y, ()), fun y => y.1, fun _ => rfl, fun n x => row_place_1 n x.1 x.2.1⟩
theorem row_place_1_ok : OkC Try.prog tab row_place_1_ct := fn_ok (W := ⟨Try.prog, tab, tyOf, [row_Compare_ct]⟩) ⟨tabOk, ⟨row_Compare_ok, trivial⟩⟩ (by kernel_rfl) 9 Try.f95 (.n) Try.func95 Try.call95 rfl (by kernel_rfl) (by kernel_rfl) (by kernel_rfl) fun n x => by kernel_rfl

/-! slices.BinarySearchFunc   bursary api.Row bursary api.Row bursary api.Key  -/
def slices_BinarySearchFunc_Key_f95_j2 (n : Nat) (r1 : (List Row) × Int × Int × Int × Key × Unit → Option (Int × Bool)) : (List Row) × Int × Int × Int × Key × Unit → Option (Int × Bool) := fun ⟨v9, v10, v11, v12, v13, _⟩ =>
    r1 (v9, v10, v11, v12, v13, ())
def slices_BinarySearchFunc_Key_f95_l1 (n : Nat) : Nat → (List Row) × Int × Int × Int × Key × Unit → Option (Int × Bool) := loopF fun r1 ⟨v1, v2, v3, v4, v5, _⟩ =>
    cond (decide (v3 < v4))
      ((shrP .u64 (IntKind.wrap .u64 (IntKind.wrap .i64 (v3 + v4))) 1).bind fun z6 =>
      (idx v1 (IntKind.wrap .i64 z6)).bind fun x7 =>
      (row_place_1 n x7 v5).bind fun y8 =>
      jn (slices_BinarySearchFunc_Key_f95_j2 n r1) fun j2 =>
      cond (decide (y8 < 0))
        (j2 (v1, v2, (IntKind.wrap .i64 ((IntKind.wrap .i64 z6) + 1)), v4, v5, ()))
        (j2 (v1, v2, v3, (IntKind.wrap .i64 z6), v5, ())))
      (jn (fun (b14 : Bool) =>
          some (v3, b14)) fun k15 =>
      cond (decide (v3 < v2))
        ((idx v1 v3).bind fun x16 =>
        (row_place_1 n x16 v5).bind fun y17 =>
        k15 (y17 == 0))
        (k15 false))
def slices_BinarySearchFunc_Key_f95 (n : Nat) (p0 : List Row) (p1 : Key) : Option (Int × Bool) :=
  slices_BinarySearchFunc_Key_f95_l1 n n (p0, (p0.length : Int), 0, (p0.length : Int), p1, ())
@[reducible] def slices_BinarySearchFunc_Key_f95_ct : Ct tab := ⟨94, [.one (.d (.sl (.st 3))), .st 2, .one (.fn 95 [])], [], [.one (.d (.int .i64)), .one (.d .bool)], [], (Int × Bool), fun y => (y.1, y.2, ()), fun y => (y.1, y.2.1), fun _ => rfl, fun n x => slices_BinarySearchFunc_Key_f95 n x.1 x.2.1⟩
theorem slices_BinarySearchFunc_Key_f95_ok : OkC Try.prog tab slices_BinarySearchFunc_Key_f95_ct := fn_ok (W := ⟨Try.prog, tab, tyOf, [row_place_1_ct]⟩) ⟨tabOk, ⟨row_place_1_ok, trivial⟩⟩ (by kernel_rfl) 49 Try.f94 (.sq (.n) (.sq (.n) (.sq (.n) (.sq (.bk none (.lp ⟨[(0, .one (.d (.sl (.st 3)))), (2, .one (.fn 95 [])), (4, .one (.box 0 0)), (8, .one (.d (.int .i64))), (9, .one (.d (.int .i64))), (10, .one (.d (.int .i64)))], [.bst 2], []⟩ (.sq (.n) (.bk none (.sq (.n) (.sq (.n) (.cd (some ⟨[(0, .one (.d (.sl (.st 3)))), (2, .one (.fn 95 [])), (4, .one (.box 0 0)), (8, .one (.d (.int .i64))), (9, .one (.d (.int .i64))), (10, .one (.d (.int .i64)))], [.bst 2], []⟩) (.n) (.n)))))))) (.n))))) Try.func94 Try.call94 rfl (by kernel_rfl) (by kernel_rfl) (by kernel_rfl) fun n x => by kernel_rfl

/-! bursary row.place -/
def row_place (n : Nat) (p0 : List Row) (p1 : Key) : Option (Int × Bool) :=
  (slices_BinarySearchFunc_Key_f95 n p0 p1).bind fun y1 =>
  some (y1.1, y1.2)
@[reducible] def row_place_ct : Ct tab := ⟨92, [.one (.d (.sl (.st 3))), .st 2], [], [.one (.d (.int .i64)), .one (.d .bool)], [], (Int × Bool), fun y => (y.1, y.2, ()), fun y => (y.1, y.2.1), fun _ => rfl, fun n x => row_place n x.1 x.2.1⟩
theorem row_place_ok : OkC Try.prog tab row_place_ct := fn_ok (W := ⟨Try.prog, tab, tyOf, [slices_BinarySearchFunc_Key_f95_ct]⟩) ⟨tabOk, ⟨slices_BinarySearchFunc_Key_f95_ok, trivial⟩⟩ (by kernel_rfl) 11 Try.f92 (.n) Try.func92 Try.call92 rfl (by kernel_rfl) (by kernel_rfl) (by kernel_rfl) fun n x => by kernel_rfl

theorem slices_Insert_Row_raw {a0 : Option Addr} {c0 : Nat} {a2 : Option Addr} {c2 : Nat} (p0 : List (Raw 4)) (p1 : Int) (p2 : List (Raw 4)) (r : List (Raw 4)) (h : insL 40 p0 p1 p2 = some r) :
    Meets Try.prog 93 #[.slice a0 p0.length c0, .int .i64 p1, .slice a2 p2.length c2] [rowF (rawF 4) 52 a0 c0 p0, rowF (rawF 4) 52 a2 c2 p2] [] fun v A P => ∃ (a : Option Addr) (c : Nat), v = .slice a r.length c ∧ A = [rowF (rawF 4) 52 a c r] ∧ P = [] := by
  unfold insL at h
  split at h
  case isFalse => cases h
  rename_i hb
  obtain ⟨hb0, hb1⟩ := hb
  obtain ⟨i, hi⟩ : ∃ i : Nat, p1 = (i : Int) := ⟨p1.toNat, by omega⟩
  subst hi
  simp only [Int.toNat_natCast] at h
  have hil : i ≤ p0.length := by omega
  split at h
  case h_2 => cases h
  rename_i hroom
  have hr := someI h
  have hrl : r.length = p0.length + p2.length := by rw [← hr]; simp; omega
  have hbytes : (p0.length + p2.length) * 40 ≤ 140737488355328 := Nat.le_of_ble_eq_true hroom
  have hsm : p0.length + p2.length < 9223372036854775808 := by omega
  refine meets_enter 95 Try.func93 Try.call93 rfl (by kernel_rfl) (by simp) fun C a w hS => ?_
  have hc : p0.length ≤ c0 := (row_len (hS.st.own _ (List.mem_cons_self ..))).2.1
  refine k_seq (by kernel_rfl) fun K1 hK1 => ?_
  refine k_reg 1 (by kernel_rfl) ?_
  refine r_run 0 1 [0, 1, 2] [] hS rfl (L' := [(0, .slice a0 p0.length c0), (1, .int .i64 i), (2, .slice a2 p2.length c2)]) (As' := [rowF (rawF 4) 52 a0 c0 p0, rowF (rawF 4) 52 a2 c2 p2]) (ob := []) (by kernel_rfl) trivial fun a w hS => ?_
  refine wl_end ?_
  refine hK1 _ _ ?_
  refine k_seq (by kernel_rfl) fun K2 hK2 => ?_
  refine k_reg 3 (by kernel_rfl) ?_
  refine r_run 0 3 [0, 1, 2] [] hS rfl (L' := [(0, .slice a0 p0.length c0), (1, .int .i64 i), (2, .slice a2 p2.length c2)]) (As' := [rowF (rawF 4) 52 a0 c0 p0, rowF (rawF 4) 52 a2 c2 p2]) (ob := [fun _ => 0 ≤ (i : Int) ∧ (i : Int) ≤ (p0.length : Int) ∧ (p0.length : Int) ≤ (c0 : Int)]) (by kernel_rfl) ⟨Bx.c ⟨hb0, hb1, by omega⟩, trivial⟩ fun a w hS => ?_
  refine wl_end ?_
  refine hK2 _ _ ?_
  refine k_seq (by kernel_rfl) fun K3 hK3 => ?_
  refine k_reg 3 (by kernel_rfl) ?_
  refine r_run 0 3 [0, 1, 2, 7] [] hS rfl (L' := [(0, .slice a0 p0.length c0), (1, .int .i64 i), (2, .slice a2 p2.length c2), (7, .int .i64 (p2.length : Int))]) (As' := [rowF (rawF 4) 52 a0 c0 p0, rowF (rawF 4) 52 a2 c2 p2]) (ob := []) (by kernel_rfl) trivial fun a w hS => ?_
  refine wl_end ?_
  refine hK3 _ _ ?_
  refine k_seq (by kernel_rfl) fun K4 hK4 => ?_
  refine k_seq (by kernel_rfl) fun K5 hK5 => ?_
  refine k_reg 2 (by kernel_rfl) ?_
  refine r_run 0 2 [0, 1, 2, 7, 16] [] hS rfl (L' := [(0, .slice a0 p0.length c0), (1, .int .i64 i), (2, .slice a2 p2.length c2), (7, .int .i64 (p2.length : Int)), (16, .bool ((p2.length : Int) == 0))]) (As' := [rowF (rawF 4) 52 a0 c0 p0, rowF (rawF 4) 52 a2 c2 p2]) (ob := []) (by kernel_rfl) trivial fun a w hS => ?_
  refine wl_end ?_
  refine hK5 _ _ ?_
  refine k_cond ((p2.length : Int) == 0) hS.has (by kernel_rfl) (by kernel_rfl) (by kernel_rfl) (fun hq => ?_) (fun hq => ?_)
  · have hp : p2 = [] := List.eq_nil_of_length_eq_zero (by simpa using hq)
    subst hp
    have hr' : p0 = r := by rw [← hr]; simp
    subst hr'
    refine k_seq (by kernel_rfl) fun K6 hK6 => ?_
    refine k_reg 2 (by kernel_rfl) ?_
    refine r_run 0 2 [6] [] hS rfl (L' := [(6, .slice a0 p0.length c0)]) (As' := [rowF (rawF 4) 52 a0 c0 p0, rowF (rawF 4) 52 a2 c2 ([] : List (Raw 4))]) (ob := []) (by kernel_rfl) trivial fun a w hS => ?_
    refine wl_end ?_
    refine hK6 _ _ ?_
    refine k_ret (by kernel_rfl) ?_
    try simp only [Exit.then, Exit.inBlock]
    refine r_ret hS [.tmp 6] [] (xs := [.slice a0 p0.length c0]) (ps := []) [0] [] rfl (by kernel_rfl) (fun hA => trivial) rfl (fun F up => trivial) ?_
    exact ⟨a0, c0, rfl, rfl, rfl⟩
  have hm : 0 < p2.length := by
    rcases Nat.eq_zero_or_pos p2.length with h0 | h0
    · rw [h0] at hq; simp at hq
    · exact h0
  obtain ⟨g3, rfl⟩ := row_block (hS.st.own (rowF (rawF 4) 52 a2 c2 p2) (by simp)) (by omega)
  refine k_skip (by kernel_rfl) ?_
  refine hK4 _ _ ?_
  refine k_seq (by kernel_rfl) fun K7 hK7 => ?_
  refine k_reg 3 (by kernel_rfl) ?_
  refine r_run 0 3 [0, 1, 2, 7, 8] [] hS rfl (L' := [(0, .slice a0 p0.length c0), (1, .int .i64 i), (2, .slice (some ⟨g3, 0, none⟩) p2.length c2), (7, .int .i64 (p2.length : Int)), (8, .int .i64 (p0.length : Int))]) (As' := [rowF (rawF 4) 52 a0 c0 p0, rowF (rawF 4) 52 (some ⟨g3, 0, none⟩) c2 p2]) (ob := []) (by kernel_rfl) trivial fun a w hS => ?_
  refine wl_end ?_
  refine hK7 _ _ ?_
  refine k_seq (by kernel_rfl) fun K8 hK8 => ?_
  refine k_seq (by kernel_rfl) fun K9 hK9 => ?_
  refine k_reg 3 (by kernel_rfl) ?_
  refine r_run 0 3 [0, 1, 2, 7, 8, 22] [] hS rfl (L' := [(0, .slice a0 p0.length c0), (1, .int .i64 i), (2, .slice (some ⟨g3, 0, none⟩) p2.length c2), (7, .int .i64 (p2.length : Int)), (8, .int .i64 (p0.length : Int)), (22, .bool ((i : Int) == (p0.length : Int)))]) (As' := [rowF (rawF 4) 52 a0 c0 p0, rowF (rawF 4) 52 (some ⟨g3, 0, none⟩) c2 p2]) (ob := []) (by kernel_rfl) trivial fun a w hS => ?_
  refine wl_end ?_
  refine hK9 _ _ ?_
  refine k_cond ((i : Int) == (p0.length : Int)) hS.has (by kernel_rfl) (by kernel_rfl) (by kernel_rfl) (fun hq2 => ?_) (fun hq2 => ?_)
  · have hin : i = p0.length := by
      have := of_decide_eq_true (p := (i : Int) = (p0.length : Int)) (by simpa using hq2)
      omega
    have hr' : r = p0 ++ p2 := by rw [← hr, hin]; simp
    refine k_seq (by kernel_rfl) fun K6 hK6 => ?_
    refine k_reg 4 (by kernel_rfl) ?_
    refine r_run 0 2 [23, 24] [] hS rfl (L' := [(23, .slice a0 p0.length c0), (24, .slice (some ⟨g3, 0, none⟩) p2.length c2)]) (As' := [rowF (rawF 4) 52 a0 c0 p0, rowF (rawF 4) 52 (some ⟨g3, 0, none⟩) c2 p2]) (ob := []) (by kernel_rfl) trivial fun a w hS => ?_
    refine r_append 2 rfl (d := 25) (t := 25) (A := a0) (c := c0) (k := p0.length) (b := some ⟨g3, 0, none⟩) (c2 := c2) (m := p2.length) (p2.flatMap ((rawF 4)).enc) 0 [0] hS (appChk_sound (by kernel_rfl)) (by kernel_rfl) rfl rfl (fun F up le => appB (F := (rawF 4)) (le 0 rfl _ fun w h => rowRS h)) hroom fun a5 c5 a w hS => ?_
    replace hS := rowF_app (F := (rawF 4)) (l := p0) (m := p2) hS hr'
    refine r_run 3 1 [6] [] hS rfl (L' := [(6, .slice a5 r.length c5)]) (As' := [rowF (rawF 4) 52 a5 c5 r, rowF (rawF 4) 52 (some ⟨g3, 0, none⟩) c2 p2]) (ob := []) (by kernel_rfl) trivial fun a w hS => ?_
    refine wl_end ?_
    refine hK6 _ _ ?_
    refine k_ret (by kernel_rfl) ?_
    try simp only [Exit.then, Exit.inBlock]
    refine r_ret hS [.tmp 6] [] (xs := [.slice a5 r.length c5]) (ps := []) [0] [] rfl (by kernel_rfl) (fun hA => trivial) rfl (fun F up => trivial) ?_
    exact ⟨a5, c5, rfl, rfl, rfl⟩
  have hin : i < p0.length := by
    rcases Nat.lt_or_ge i p0.length with h0 | h0
    · exact h0
    · have : i = p0.length := by omega
      rw [this] at hq2; simp at hq2
  obtain ⟨g, rfl⟩ := row_block (hS.st.own (rowF (rawF 4) 52 a0 c0 p0) (by simp)) (by omega)
  have hw : IntKind.wrap .i64 ((p0.length : Int) + (p2.length : Int)) = ((p0.length + p2.length : Nat) : Int) := by rw [IntKind.wrap_i64]; omega
  have hw2 : IntKind.wrap .i64 ((i : Int) + (p2.length : Int)) = ((i + p2.length : Nat) : Int) := by rw [IntKind.wrap_i64]; omega
  have hsz : 0 < ((rawF 4)).sz := by decide
  have hX : (p0.take i).flatMap ((rawF 4)).enc = (p0.flatMap ((rawF 4)).enc).take (i * ((rawF 4)).sz) := flat_take p0 i
  have hY : (p0.drop i).flatMap ((rawF 4)).enc = (p0.flatMap ((rawF 4)).enc).drop (i * ((rawF 4)).sz) := flat_drop p0 i
  have lX : ((p0.take i).flatMap ((rawF 4)).enc).length = i * ((rawF 4)).sz := by rw [flat_len, List.length_take, Nat.min_eq_left hil]
  have lY : ((p0.drop i).flatMap ((rawF 4)).enc).length = (p0.length - i) * ((rawF 4)).sz := by rw [flat_len, List.length_drop]
  have lV : (p2.flatMap ((rawF 4)).enc).length = p2.length * ((rawF 4)).sz := flat_len p2
  have hXY : (p0.take i).flatMap ((rawF 4)).enc ++ (p0.drop i).flatMap ((rawF 4)).enc = p0.flatMap ((rawF 4)).enc := by rw [← List.flatMap_append, List.take_append_drop]
  have hre : r.flatMap ((rawF 4)).enc = (p0.take i).flatMap ((rawF 4)).enc ++ p2.flatMap ((rawF 4)).enc ++ (p0.drop i).flatMap ((rawF 4)).enc := by rw [← hr, List.flatMap_append, List.flatMap_append]
  have hV1 : ∀ v ∈ p2.flatMap ((rawF 4)).enc, v.oneCell' = true := flat_one p2
  have hY1 : ∀ v ∈ (p0.drop i).flatMap ((rawF 4)).enc, v.oneCell' = true := flat_one _
  refine k_skip (by kernel_rfl) ?_
  refine hK8 _ _ ?_
  refine k_seq (by kernel_rfl) fun K10 hK10 => ?_
  refine k_seq (by kernel_rfl) fun K11 hK11 => ?_
  refine k_reg 6 (by kernel_rfl) ?_
  refine r_run 0 6 [0, 1, 2, 7, 8, 31] [.as 28 (.int .i64 ((p0.length + p2.length : Nat) : Int))] hS rfl (L' := [(0, .slice (some ⟨g, 0, none⟩) p0.length c0), (1, .int .i64 i), (2, .slice (some ⟨g3, 0, none⟩) p2.length c2), (7, .int .i64 (p2.length : Int)), (8, .int .i64 (p0.length : Int)), (31, .bool (decide (((p0.length + p2.length : Nat) : Int) > (c0 : Int))))]) (As' := [rowF (rawF 4) 52 (some ⟨g, 0, none⟩) c0 p0, rowF (rawF 4) 52 (some ⟨g3, 0, none⟩) c2 p2]) (ob := [fun _ => Value.int .i64 (IntKind.wrap .i64 ((p0.length : Int) + (p2.length : Int))) = .int .i64 ((p0.length + p2.length : Nat) : Int)]) (by kernel_rfl) ⟨Bx.c (by rw [hw]), trivial⟩ fun a w hS => ?_
  refine wl_end ?_
  refine hK11 _ _ ?_
  refine k_cond (decide (((p0.length + p2.length : Nat) : Int) > (c0 : Int))) hS.has (by kernel_rfl) (by kernel_rfl) (by kernel_rfl) (fun hq3 => ?_) (fun hq3 => ?_)
  · have hgt : c0 < p0.length + p2.length := by have := of_decide_eq_true hq3; omega
    have hk : p0.length + p2.length - i + i = p0.length + p2.length := by omega
    have hw3 : IntKind.wrap .i64 (((p0.length + p2.length : Nat) : Int) - (i : Int)) = ((p0.length + p2.length - i : Nat) : Int) := by rw [IntKind.wrap_i64]; omega
    refine k_seq (by kernel_rfl) fun K12 hK12 => ?_
    refine k_reg 10 (by kernel_rfl) ?_
    refine r_run 0 8 [0, 1, 2, 7, 8, 34, 39] [.as 34 (.slice (some ⟨g, 0, none⟩) i c0), .as 37 (.int .i64 ((p0.length + p2.length : Nat) : Int)), .as 39 (.int .i64 ((p0.length + p2.length - i : Nat) : Int))] hS rfl (L' := [(0, .slice (some ⟨g, 0, none⟩) p0.length c0), (1, .int .i64 i), (2, .slice (some ⟨g3, 0, none⟩) p2.length c2), (7, .int .i64 (p2.length : Int)), (8, .int .i64 (p0.length : Int)), (34, .slice (some ⟨g, 0, none⟩) i c0), (39, .int .i64 ((p0.length + p2.length - i : Nat) : Int))]) (As' := [rowF (rawF 4) 52 (some ⟨g, 0, none⟩) c0 p0, rowF (rawF 4) 52 (some ⟨g3, 0, none⟩) c2 p2]) (ob := [fun _ => (0 : Int) ≤ 0 ∧ (0 : Int) ≤ (i : Int) ∧ (i : Int) ≤ (c0 : Int), fun _ => Value.slice (slA (some ⟨g, 0, none⟩) 0 c0 ((rawF 4)).sz) i c0 = .slice (some ⟨g, 0, none⟩) i c0, fun _ => Value.int .i64 (IntKind.wrap .i64 ((p0.length : Int) + (p2.length : Int))) = .int .i64 ((p0.length + p2.length : Nat) : Int), fun _ => Value.int .i64 (IntKind.wrap .i64 (((p0.length + p2.length : Nat) : Int) - (i : Int))) = .int .i64 ((p0.length + p2.length - i : Nat) : Int)]) (by kernel_rfl) ⟨Bx.c ⟨by omega, by omega, by omega⟩, Bx.c (by rw [slA_zero]), Bx.c (by rw [hw]), Bx.c (by rw [hw3]), trivial⟩ fun a w hS => ?_
    obtain ⟨w', g2, c5, hrun, hc5, ⟨T, hT, hrow⟩, hext, hg2, hg2'⟩ := run_zeros_row (P := Try.prog) (sz := ((rawF 4)).sz) (t := 25) (tn := 3) (ty := 25) (i := i) (k := p0.length + p2.length - i) (bytes := 40) (inf := Try.t52) (z := (Try.t52.zero).getD undef) (kq := .i64) (kn := .i64) (by kernel_rfl) (by kernel_rfl) (by kernel_rfl) (by kernel_rfl) rfl (by kernel_rfl) (by kernel_rfl) hsz (by decide) (hS.st.own (rowF (rawF 4) 52 (some ⟨g, 0, none⟩) c0 p0) (by simp)) hil (by omega) (by omega) (by rw [show i + (p0.length + p2.length - i) = p0.length + p2.length from by omega]; exact hroom)
    have hik : i + (p0.length + p2.length - i) = p0.length + p2.length := by omega
    rw [hik] at hrun hc5 hT
    refine r_bltN 8 rfl (d := some 40) (b := .append) (ts := #[25, 3]) (ty := 25) (vs := #[.slice (some ⟨g, 0, none⟩) i c0, .int .i64 ((p0.length + p2.length - i : Nat) : Int)]) hS (by kernel_rfl) _ hrun hrow hext (fun x hx => by simp [Asn.fp] at hx; subst hx; exact ⟨hg2, hg2'⟩) (by simp [Asn.fp]) fun a hS => ?_
    rw [← hX] at hS
    generalize hZ : (Builtin.zeroCells ((Try.t52.zero).getD undef).cells (p0.length + p2.length - i)).toList = Z at hS
    have lZ : Z.length = (p2.flatMap ((rawF 4)).enc).length + ((p0.drop i).flatMap ((rawF 4)).enc).length := by
      rw [← hZ, zeros_len, lV, lY, ← Nat.add_mul, show ((Try.t52.zero).getD undef).cells.size = ((rawF 4)).sz from by kernel_rfl]
      congr 1; omega
    refine r_run 9 1 [0, 1, 2, 7, 9] [] hS rfl (L' := [(0, .slice (some ⟨g, 0, none⟩) p0.length c0), (1, .int .i64 i), (2, .slice (some ⟨g3, 0, none⟩) p2.length c2), (7, .int .i64 (p2.length : Int)), (9, .slice (some ⟨g2, 0, none⟩) (p0.length + p2.length) c5)]) (As' := [.row (some ⟨g2, 0, none⟩) c5 52 ((rawF 4)).sz c5 ((p0.take i).flatMap ((rawF 4)).enc ++ Z ++ T), rowF (rawF 4) 52 (some ⟨g, 0, none⟩) c0 p0, rowF (rawF 4) 52 (some ⟨g3, 0, none⟩) c2 p2]) (ob := []) (by kernel_rfl) trivial fun a w hS => ?_
    refine wl_end ?_
    refine hK12 _ _ ?_
    refine k_seq (by kernel_rfl) fun K13 hK13 => ?_
    refine k_reg 5 (by kernel_rfl) ?_
    have hs1 : slA (some (⟨g2, 0, none⟩ : Addr)) i c5 ((rawF 4)).sz = some ⟨g2, i * ((rawF 4)).sz, none⟩ := by
      unfold slA; rw [if_neg (by omega)]; simp only [Option.map_some, addr_add0]
    refine r_run 0 4 [0, 1, 7, 9, 43, 44] [.as 43 (.slice (some ⟨g2, i * ((rawF 4)).sz, none⟩) (p0.length + p2.length - i) (c5 - i))] hS rfl (L' := [(0, .slice (some ⟨g, 0, none⟩) p0.length c0), (1, .int .i64 i), (7, .int .i64 (p2.length : Int)), (9, .slice (some ⟨g2, 0, none⟩) (p0.length + p2.length) c5), (43, .slice (some ⟨g2, i * ((rawF 4)).sz, none⟩) (p0.length + p2.length - i) (c5 - i)), (44, .slice (some ⟨g3, 0, none⟩) p2.length c2)]) (As' := [.row (some ⟨g2, 0, none⟩) c5 52 ((rawF 4)).sz c5 ((p0.take i).flatMap ((rawF 4)).enc ++ Z ++ T), rowF (rawF 4) 52 (some ⟨g, 0, none⟩) c0 p0, rowF (rawF 4) 52 (some ⟨g3, 0, none⟩) c2 p2]) (ob := [fun _ => 0 ≤ (i : Int) ∧ (i : Int) ≤ ((p0.length + p2.length : Nat) : Int) ∧ ((p0.length + p2.length : Nat) : Int) ≤ (c5 : Int), fun _ => Value.slice (slA (some ⟨g2, 0, none⟩) i c5 ((rawF 4)).sz) (p0.length + p2.length - i) (c5 - i) = .slice (some ⟨g2, i * ((rawF 4)).sz, none⟩) (p0.length + p2.length - i) (c5 - i)]) (by kernel_rfl) ⟨Bx.c ⟨by omega, by omega, by omega⟩, Bx.c (by rw [hs1]), trivial⟩ fun a w hS => ?_
    have hsrc := row_cellsAt (hS.st.own (rowF (rawF 4) 52 (some ⟨g3, 0, none⟩) c2 p2) (by simp)) 0 (p2.flatMap ((rawF 4)).enc).length
    rw [List.drop_zero, List.take_length] at hsrc
    have hfit1 : i * ((rawF 4)).sz + (p2.flatMap ((rawF 4)).enc).length ≤ c5 * ((rawF 4)).sz := by rw [lV, ← Nat.add_mul]; exact Nat.mul_le_mul_right _ (by omega)
    have hmin1 : Nat.min p2.length (p0.length + p2.length - i) = p2.length := Nat.min_eq_left (by omega)
    refine r_bltS 4 rfl 0 (.row (some ⟨g2, 0, none⟩) c5 52 ((rawF 4)).sz c5 (spl ((p0.take i).flatMap ((rawF 4)).enc ++ Z ++ T) (i * ((rawF 4)).sz) (p2.flatMap ((rawF 4)).enc))) (d := some 45) (b := .copy) (ts := #[25, 25]) (ty := 3) (vs := #[.slice (some ⟨g2, i * ((rawF 4)).sz, none⟩) (p0.length + p2.length - i) (c5 - i), .slice (some ⟨g3, 0, none⟩) p2.length c2]) hS (by kernel_rfl) rfl (fun hA => run_copyR (dT := 25) (sT := 25) (ty := 3) (inf := Try.t52) (by kernel_rfl) (by kernel_rfl) rfl hA (by rw [hmin1, lV]) hsrc hfit1 hV1) rfl (by simp [Asn.fp]) fun a w hS => ?_
    refine wl_end ?_
    refine hK13 _ _ ?_
    refine k_seq (by kernel_rfl) fun K14 hK14 => ?_
    have hs2 : slA (some (⟨g2, 0, none⟩ : Addr)) (i + p2.length) c5 ((rawF 4)).sz = some ⟨g2, (i + p2.length) * ((rawF 4)).sz, none⟩ := by
      unfold slA; rw [if_neg (by omega)]; simp only [Option.map_some, addr_add0]
    have hs3 : slA (some (⟨g, 0, none⟩ : Addr)) i c0 ((rawF 4)).sz = some ⟨g, i * ((rawF 4)).sz, none⟩ := by
      unfold slA; rw [if_neg (by omega)]; simp only [Option.map_some, addr_add0]
    refine k_draw 8 9 [.val (.slice (some ⟨g2, 0, none⟩) (p0.length + p2.length) c5), .val (.int .i64 i), .val (.int .i64 (p2.length : Int)), .val (.int .i64 ((i + p2.length : Nat) : Int)), .val (.slice (some ⟨g2, (i + p2.length) * ((rawF 4)).sz, none⟩) (p0.length + p2.length - (i + p2.length)) (c5 - (i + p2.length))), .val (.slice (some ⟨g, 0, none⟩) p0.length c0), .val (.int .i64 i), .val (.slice (some ⟨g, i * ((rawF 4)).sz, none⟩) (p0.length - i) (c0 - i))] [] [(0, []), (1, []), (2, []), (3, [.as 49 (.int .i64 ((i + p2.length : Nat) : Int))]), (4, [.as 50 (.slice (some ⟨g2, (i + p2.length) * ((rawF 4)).sz, none⟩) (p0.length + p2.length - (i + p2.length)) (c5 - (i + p2.length)))]), (5, []), (6, []), (7, [.as 53 (.slice (some ⟨g, i * ((rawF 4)).sz, none⟩) (p0.length - i) (c0 - i))])] [] (ob := [fun _ => Value.int .i64 (IntKind.wrap .i64 ((i : Int) + (p2.length : Int))) = .int .i64 ((i + p2.length : Nat) : Int), fun _ => 0 ≤ ((i + p2.length : Nat) : Int) ∧ ((i + p2.length : Nat) : Int) ≤ ((p0.length + p2.length : Nat) : Int) ∧ ((p0.length + p2.length : Nat) : Int) ≤ (c5 : Int), fun _ => Value.slice (slA (some ⟨g2, 0, none⟩) (i + p2.length) c5 ((rawF 4)).sz) (p0.length + p2.length - (i + p2.length)) (c5 - (i + p2.length)) = .slice (some ⟨g2, (i + p2.length) * ((rawF 4)).sz, none⟩) (p0.length + p2.length - (i + p2.length)) (c5 - (i + p2.length)), fun _ => 0 ≤ (i : Int) ∧ (i : Int) ≤ (p0.length : Int) ∧ (p0.length : Int) ≤ (c0 : Int), fun _ => Value.slice (slA (some ⟨g, 0, none⟩) i c0 ((rawF 4)).sz) (p0.length - i) (c0 - i) = .slice (some ⟨g, i * ((rawF 4)).sz, none⟩) (p0.length - i) (c0 - i)]) (by kernel_rfl) (by kernel_rfl) hS (by kernel_rfl) (fun F N0 => by kernel_rfl) (by kernel_rfl) (by kernel_rfl) (by kernel_rfl) (by kernel_rfl) ⟨Bx.c (by rw [hw2]), Bx.c ⟨by omega, by omega, by omega⟩, Bx.c (by rw [hs2]), Bx.c ⟨by omega, by omega, by omega⟩, Bx.c (by rw [hs3]), trivial⟩ ?_ ?_
    · exact trivial
    intro V a w e hS hq
    have hsrc := row_cellsAt (hS.st.own (rowF (rawF 4) 52 (some ⟨g, 0, none⟩) c0 p0) (by simp [List.set])) (i * ((rawF 4)).sz) ((p0.drop i).flatMap ((rawF 4)).enc).length
    rw [← hY, List.take_length] at hsrc
    have hmin2 : Nat.min (p0.length - i) (p0.length + p2.length - (i + p2.length)) = p0.length - i := Nat.min_eq_left (by omega)
    have hfit2 : (i + p2.length) * ((rawF 4)).sz + ((p0.drop i).flatMap ((rawF 4)).enc).length ≤ c5 * ((rawF 4)).sz := by rw [lY, ← Nat.add_mul]; exact Nat.mul_le_mul_right _ (by omega)
    refine r_bltS 8 rfl 0 (.row (some ⟨g2, 0, none⟩) c5 52 ((rawF 4)).sz c5 (spl (spl ((p0.take i).flatMap ((rawF 4)).enc ++ Z ++ T) (i * ((rawF 4)).sz) (p2.flatMap ((rawF 4)).enc)) ((i + p2.length) * ((rawF 4)).sz) ((p0.drop i).flatMap ((rawF 4)).enc))) (d := some 54) (b := .copy) (ts := #[25, 25]) (ty := 3) (vs := #[.slice (some ⟨g2, (i + p2.length) * ((rawF 4)).sz, none⟩) (p0.length + p2.length - (i + p2.length)) (c5 - (i + p2.length)), .slice (some ⟨g, i * ((rawF 4)).sz, none⟩) (p0.length - i) (c0 - i)]) hS (by kernel_rfl) rfl (fun hA => run_copyR (dT := 25) (sT := 25) (ty := 3) (inf := Try.t52) (by kernel_rfl) (by kernel_rfl) rfl hA (by rw [hmin2, lY]) hsrc hfit2 hY1) rfl (by simp [Asn.fp]) fun a w hS => ?_
    have hfin : (spl (spl ((p0.take i).flatMap ((rawF 4)).enc ++ Z ++ T) (i * ((rawF 4)).sz) (p2.flatMap ((rawF 4)).enc)) ((i + p2.length) * ((rawF 4)).sz) ((p0.drop i).flatMap ((rawF 4)).enc)).take ((p0.length + p2.length) * ((rawF 4)).sz) = r.flatMap ((rawF 4)).enc := by
      have := cells_new ((p0.take i).flatMap ((rawF 4)).enc) ((p0.drop i).flatMap ((rawF 4)).enc) (p2.flatMap ((rawF 4)).enc) Z T lZ
      rw [lX, lV, ← Nat.add_mul] at this
      rw [this, hre, List.take_left' (by rw [List.length_append, List.length_append, lX, lV, lY, ← Nat.add_mul, ← Nat.add_mul]; congr 1; omega)]
    replace hS := hS.same (B := rowF (rawF 4) 52 (some ⟨g2, 0, none⟩) c5 r) 0 rfl (fun hA => row_app_form hA hrl hc5 hfin) rfl (by simp [Asn.fp])
    refine wl_end ?_
    refine hK14 _ _ ?_
    refine k_seq (by kernel_rfl) fun K15 hK15 => ?_
    refine k_reg 2 (by kernel_rfl) ?_
    refine r_run 0 2 [6] [] hS rfl (L' := [(6, .slice (some ⟨g2, 0, none⟩) (p0.length + p2.length) c5)]) (As' := [rowF (rawF 4) 52 (some ⟨g2, 0, none⟩) c5 r, rowF (rawF 4) 52 (some ⟨g, 0, none⟩) c0 p0, rowF (rawF 4) 52 (some ⟨g3, 0, none⟩) c2 p2]) (ob := []) (by kernel_rfl) trivial fun a w hS => ?_
    refine wl_end ?_
    refine hK15 _ _ ?_
    refine k_ret (by kernel_rfl) ?_
    try simp only [Exit.then, Exit.inBlock]
    refine r_ret hS [.tmp 6] [] (xs := [.slice (some ⟨g2, 0, none⟩) (p0.length + p2.length) c5]) (ps := []) [0] [] rfl (by kernel_rfl) (fun hA => trivial) rfl (fun F up => trivial) ?_
    exact ⟨some ⟨g2, 0, none⟩, c5, by rw [hrl]; rfl, rfl, rfl⟩
  have hle : p0.length + p2.length ≤ c0 := by have := of_decide_eq_false hq3; omega
  refine k_skip (by kernel_rfl) ?_
  refine hK10 _ _ ?_
  refine k_seq (by kernel_rfl) fun K12 hK12 => ?_
  refine k_reg 6 (by kernel_rfl) ?_
  refine r_run 0 6 [0, 1, 2, 7] [.as 59 (.int .i64 ((p0.length + p2.length : Nat) : Int)), .as 60 (.slice (some ⟨g, 0, none⟩) (p0.length + p2.length) c0)] hS rfl (L' := [(0, .slice (some ⟨g, 0, none⟩) (p0.length + p2.length) c0), (1, .int .i64 i), (2, .slice (some ⟨g3, 0, none⟩) p2.length c2), (7, .int .i64 (p2.length : Int))]) (As' := [rowF (rawF 4) 52 (some ⟨g, 0, none⟩) c0 p0, rowF (rawF 4) 52 (some ⟨g3, 0, none⟩) c2 p2]) (ob := [fun _ => Value.int .i64 (IntKind.wrap .i64 ((p0.length : Int) + (p2.length : Int))) = .int .i64 ((p0.length + p2.length : Nat) : Int), fun _ => (0 : Int) ≤ 0 ∧ (0 : Int) ≤ ((p0.length + p2.length : Nat) : Int) ∧ ((p0.length + p2.length : Nat) : Int) ≤ (c0 : Int), fun _ => Value.slice (slA (some ⟨g, 0, none⟩) 0 c0 ((rawF 4)).sz) (p0.length + p2.length) c0 = .slice (some ⟨g, 0, none⟩) (p0.length + p2.length) c0]) (by kernel_rfl) ⟨Bx.c (by rw [hw]), Bx.c ⟨by omega, by omega, by omega⟩, Bx.c (by rw [slA_zero]), trivial⟩ fun a w hS => ?_
  obtain ⟨ds, hd1, hd2, hd3, hd4⟩ := row_full (hS.st.own (rowF (rawF 4) 52 (some ⟨g, 0, none⟩) c0 p0) (by simp))
  replace hS := hS.same (B := .row (some ⟨g, 0, none⟩) c0 52 ((rawF 4)).sz c0 ds) 0 rfl (fun _ => hd4) rfl (by simp [Asn.fp])
  refine wl_end ?_
  refine hK12 _ _ ?_
  refine k_seq (by kernel_rfl) fun K13 hK13 => ?_
  refine k_seq (by kernel_rfl) fun K14 hK14 => ?_
  refine k_reg 8 (by kernel_rfl) ?_
  have hs2 : slA (some (⟨g, 0, none⟩ : Addr)) (i + p2.length) c0 ((rawF 4)).sz = some ⟨g, (i + p2.length) * ((rawF 4)).sz, none⟩ := by
    unfold slA; rw [if_neg (by omega)]; simp only [Option.map_some, addr_add0]
  have hs3 : slA (some (⟨g, 0, none⟩ : Addr)) i c0 ((rawF 4)).sz = some ⟨g, i * ((rawF 4)).sz, none⟩ := by
    unfold slA; rw [if_neg (by omega)]; simp only [Option.map_some, addr_add0]
  refine r_run 0 6 [0, 1, 2, 7, 61, 66] [.as 65 (.int .i64 ((i + p2.length : Nat) : Int)), .as 66 (.slice (some ⟨g, (i + p2.length) * ((rawF 4)).sz, none⟩) (p0.length + p2.length - (i + p2.length)) (c0 - (i + p2.length)))] hS rfl (L' := [(0, .slice (some ⟨g, 0, none⟩) (p0.length + p2.length) c0), (1, .int .i64 i), (2, .slice (some ⟨g3, 0, none⟩) p2.length c2), (7, .int .i64 (p2.length : Int)), (61, .slice (some ⟨g3, 0, none⟩) p2.length c2), (66, .slice (some ⟨g, (i + p2.length) * ((rawF 4)).sz, none⟩) (p0.length + p2.length - (i + p2.length)) (c0 - (i + p2.length)))]) (As' := [.row (some ⟨g, 0, none⟩) c0 52 ((rawF 4)).sz c0 ds, rowF (rawF 4) 52 (some ⟨g3, 0, none⟩) c2 p2]) (ob := [fun _ => Value.int .i64 (IntKind.wrap .i64 ((i : Int) + (p2.length : Int))) = .int .i64 ((i + p2.length : Nat) : Int), fun _ => 0 ≤ ((i + p2.length : Nat) : Int) ∧ ((i + p2.length : Nat) : Int) ≤ ((p0.length + p2.length : Nat) : Int) ∧ ((p0.length + p2.length : Nat) : Int) ≤ (c0 : Int), fun _ => Value.slice (slA (some ⟨g, 0, none⟩) (i + p2.length) c0 ((rawF 4)).sz) (p0.length + p2.length - (i + p2.length)) (c0 - (i + p2.length)) = .slice (some ⟨g, (i + p2.length) * ((rawF 4)).sz, none⟩) (p0.length + p2.length - (i + p2.length)) (c0 - (i + p2.length))]) (by kernel_rfl) ⟨Bx.c (by rw [hw2]), Bx.c ⟨by omega, by omega, by omega⟩, Bx.c (by rw [hs2]), trivial⟩ fun a w hS => ?_
  have hne : g3 ≠ g := by
    have := (List.nodup_append.1 hS.st.nd).2.1
    simp [fps, Asn.fp] at this
    exact fun e => this e.symm
  have hA0 := row_shape (hS.st.own (.row (some ⟨g, 0, none⟩) c0 52 ((rawF 4)).sz c0 ds) (by simp))
  have hA1 := row_shape (hS.st.own (rowF (rawF 4) 52 (some ⟨g3, 0, none⟩) c2 p2) (by simp))
  have hcsz : c0 * ((rawF 4)).sz ≠ 0 := Nat.mul_ne_zero (by omega) (by omega)
  have hov : (callFunc 96 #[.slice (some ⟨g3, 0, none⟩) p2.length c2, .slice (some ⟨g, (i + p2.length) * ((rawF 4)).sz, none⟩) (p0.length + p2.length - (i + p2.length)) (c0 - (i + p2.length))]).run Try.prog w = .ok (.value (.bool false)) w := by
    rw [run_callFunc_extern Try.func96 (by kernel_rfl) (by kernel_rfl) (by kernel_rfl) (e := Extern.SlicesOverlaps.overlaps #[25, 25] #[4]) (by kernel_rfl),
      Lib.run_overlaps_apart w 25 4 52 (by kernel_rfl) ((rawF 4)).sz (fun w => by simp [sizeOf, run_info (show Try.prog.info? 52 = some Try.t52 from by kernel_rfl)]; kernel_rfl) ⟨g3, 0, none⟩ ⟨g, (i + p2.length) * ((rawF 4)).sz, none⟩ p2.length c2 _ _ hne _ _ _ _ hA1.1 hA0.1 hcsz (hA1.2 _) (hA1.2 _)]
    rfl
  refine r_ext 6 rfl (d := some 67) (g := 96) (args := #[.slice (some ⟨g3, 0, none⟩) p2.length c2, .slice (some ⟨g, (i + p2.length) * ((rawF 4)).sz, none⟩) (p0.length + p2.length - (i + p2.length)) (c0 - (i + p2.length))]) hS (by kernel_rfl) hov fun a hS => ?_
  refine r_run 7 1 [0, 1, 2, 7, 68] [] hS rfl (L' := [(0, .slice (some ⟨g, 0, none⟩) (p0.length + p2.length) c0), (1, .int .i64 i), (2, .slice (some ⟨g3, 0, none⟩) p2.length c2), (7, .int .i64 (p2.length : Int)), (68, .bool true)]) (As' := [.row (some ⟨g, 0, none⟩) c0 52 ((rawF 4)).sz c0 ds, rowF (rawF 4) 52 (some ⟨g3, 0, none⟩) c2 p2]) (ob := []) (by kernel_rfl) trivial fun a w hS => ?_
  refine wl_end ?_
  refine hK14 _ _ ?_
  refine k_cond true hS.has (by kernel_rfl) (by kernel_rfl) (by kernel_rfl) (fun _ => ?_) (fun hx => by cases hx)
  refine k_seq (by kernel_rfl) fun K15 hK15 => ?_
  obtain ⟨Z, hZ⟩ : ∃ Z, ds = (p0.take i).flatMap ((rawF 4)).enc ++ (p0.drop i).flatMap ((rawF 4)).enc ++ Z := ⟨ds.drop (p0.length * ((rawF 4)).sz), by rw [hXY]; conv => lhs; rw [← List.take_append_drop (p0.length * ((rawF 4)).sz) ds, hd1]⟩
  have lds : ds.length = c0 * ((rawF 4)).sz := hd2
  have lZ : (p2.flatMap ((rawF 4)).enc).length ≤ ((p0.drop i).flatMap ((rawF 4)).enc).length + Z.length := by
    have h1 := lds
    rw [hZ, List.length_append, List.length_append, lX, lY] at h1
    rw [lV, lY]
    have h2 := Nat.mul_le_mul_right ((rawF 4)).sz hle
    rw [Nat.add_mul] at h2
    have h3 : i * ((rawF 4)).sz + (p0.length - i) * ((rawF 4)).sz = p0.length * ((rawF 4)).sz := by rw [← Nat.add_mul]; congr 1; omega
    omega
  refine k_draw 8 9 [.val (.slice (some ⟨g, 0, none⟩) (p0.length + p2.length) c0), .val (.int .i64 i), .val (.int .i64 (p2.length : Int)), .val (.int .i64 ((i + p2.length : Nat) : Int)), .val (.slice (some ⟨g, (i + p2.length) * ((rawF 4)).sz, none⟩) (p0.length + p2.length - (i + p2.length)) (c0 - (i + p2.length))), .val (.slice (some ⟨g, 0, none⟩) (p0.length + p2.length) c0), .val (.int .i64 i), .val (.slice (some ⟨g, i * ((rawF 4)).sz, none⟩) (p0.length + p2.length - i) (c0 - i))] [] [(0, []), (1, []), (2, []), (3, [.as 72 (.int .i64 ((i + p2.length : Nat) : Int))]), (4, [.as 73 (.slice (some ⟨g, (i + p2.length) * ((rawF 4)).sz, none⟩) (p0.length + p2.length - (i + p2.length)) (c0 - (i + p2.length)))]), (5, []), (6, []), (7, [.as 76 (.slice (some ⟨g, i * ((rawF 4)).sz, none⟩) (p0.length + p2.length - i) (c0 - i))])] [] (ob := [fun _ => Value.int .i64 (IntKind.wrap .i64 ((i : Int) + (p2.length : Int))) = .int .i64 ((i + p2.length : Nat) : Int), fun _ => 0 ≤ ((i + p2.length : Nat) : Int) ∧ ((i + p2.length : Nat) : Int) ≤ ((p0.length + p2.length : Nat) : Int) ∧ ((p0.length + p2.length : Nat) : Int) ≤ (c0 : Int), fun _ => Value.slice (slA (some ⟨g, 0, none⟩) (i + p2.length) c0 ((rawF 4)).sz) (p0.length + p2.length - (i + p2.length)) (c0 - (i + p2.length)) = .slice (some ⟨g, (i + p2.length) * ((rawF 4)).sz, none⟩) (p0.length + p2.length - (i + p2.length)) (c0 - (i + p2.length)), fun _ => 0 ≤ (i : Int) ∧ (i : Int) ≤ ((p0.length + p2.length : Nat) : Int) ∧ ((p0.length + p2.length : Nat) : Int) ≤ (c0 : Int), fun _ => Value.slice (slA (some ⟨g, 0, none⟩) i c0 ((rawF 4)).sz) (p0.length + p2.length - i) (c0 - i) = .slice (some ⟨g, i * ((rawF 4)).sz, none⟩) (p0.length + p2.length - i) (c0 - i)]) (by kernel_rfl) (by kernel_rfl) hS (by kernel_rfl) (fun F N0 => by kernel_rfl) (by kernel_rfl) (by kernel_rfl) (by kernel_rfl) (by kernel_rfl) ⟨Bx.c (by rw [hw2]), Bx.c ⟨by omega, by omega, by omega⟩, Bx.c (by rw [hs2]), Bx.c ⟨by omega, by omega, by omega⟩, Bx.c (by rw [hs3]), trivial⟩ ?_ ?_
  · exact trivial
  intro V a w e hS hq
  have hsrc := row_cellsAt (hS.st.own (.row (some ⟨g, 0, none⟩) c0 52 ((rawF 4)).sz c0 ds) (by simp)) (i * ((rawF 4)).sz) ((p0.drop i).flatMap ((rawF 4)).enc).length
  have hdsd : (ds.drop (i * ((rawF 4)).sz)).take ((p0.drop i).flatMap ((rawF 4)).enc).length = (p0.drop i).flatMap ((rawF 4)).enc := by
    rw [hZ, List.append_assoc, ← lX, List.drop_left, List.take_left]
  rw [hdsd] at hsrc
  have hmin2 : Nat.min (p0.length + p2.length - i) (p0.length + p2.length - (i + p2.length)) = p0.length - i := by
    rw [show p0.length + p2.length - (i + p2.length) = p0.length - i from by omega]; exact Nat.min_eq_right (by omega)
  have hfit2 : (i + p2.length) * ((rawF 4)).sz + ((p0.drop i).flatMap ((rawF 4)).enc).length ≤ c0 * ((rawF 4)).sz := by rw [lY, ← Nat.add_mul]; exact Nat.mul_le_mul_right _ (by omega)
  refine r_bltS 8 rfl 0 (.row (some ⟨g, 0, none⟩) c0 52 ((rawF 4)).sz c0 (spl ds ((i + p2.length) * ((rawF 4)).sz) ((p0.drop i).flatMap ((rawF 4)).enc))) (d := some 77) (b := .copy) (ts := #[25, 25]) (ty := 3) (vs := #[.slice (some ⟨g, (i + p2.length) * ((rawF 4)).sz, none⟩) (p0.length + p2.length - (i + p2.length)) (c0 - (i + p2.length)), .slice (some ⟨g, i * ((rawF 4)).sz, none⟩) (p0.length + p2.length - i) (c0 - i)]) hS (by kernel_rfl) rfl (fun hA => run_copyR (dT := 25) (sT := 25) (ty := 3) (inf := Try.t52) (by kernel_rfl) (by kernel_rfl) rfl hA (by rw [hmin2, lY]) hsrc hfit2 hY1) rfl (by simp [Asn.fp]) fun a w hS => ?_
  refine wl_end ?_
  refine hK15 _ _ ?_
  refine k_seq (by kernel_rfl) fun K16 hK16 => ?_
  refine k_reg 5 (by kernel_rfl) ?_
  refine r_run 0 4 [0, 80, 81] [.as 80 (.slice (some ⟨g, i * ((rawF 4)).sz, none⟩) (p0.length + p2.length - i) (c0 - i))] hS rfl (L' := [(0, .slice (some ⟨g, 0, none⟩) (p0.length + p2.length) c0), (80, .slice (some ⟨g, i * ((rawF 4)).sz, none⟩) (p0.length + p2.length - i) (c0 - i)), (81, .slice (some ⟨g3, 0, none⟩) p2.length c2)]) (As' := [.row (some ⟨g, 0, none⟩) c0 52 ((rawF 4)).sz c0 (spl ds ((i + p2.length) * ((rawF 4)).sz) ((p0.drop i).flatMap ((rawF 4)).enc)), rowF (rawF 4) 52 (some ⟨g3, 0, none⟩) c2 p2]) (ob := [fun _ => 0 ≤ (i : Int) ∧ (i : Int) ≤ ((p0.length + p2.length : Nat) : Int) ∧ ((p0.length + p2.length : Nat) : Int) ≤ (c0 : Int), fun _ => Value.slice (slA (some ⟨g, 0, none⟩) i c0 ((rawF 4)).sz) (p0.length + p2.length - i) (c0 - i) = .slice (some ⟨g, i * ((rawF 4)).sz, none⟩) (p0.length + p2.length - i) (c0 - i)]) (by kernel_rfl) ⟨Bx.c ⟨by omega, by omega, by omega⟩, Bx.c (by rw [hs3]), trivial⟩ fun a w hS => ?_
  have hsrc := row_cellsAt (hS.st.own (rowF (rawF 4) 52 (some ⟨g3, 0, none⟩) c2 p2) (by simp)) 0 (p2.flatMap ((rawF 4)).enc).length
  rw [List.drop_zero, List.take_length] at hsrc
  have hfit1 : i * ((rawF 4)).sz + (p2.flatMap ((rawF 4)).enc).length ≤ c0 * ((rawF 4)).sz := by rw [lV, ← Nat.add_mul]; exact Nat.mul_le_mul_right _ (by omega)
  have hmin1 : Nat.min p2.length (p0.length + p2.length - i) = p2.length := Nat.min_eq_left (by omega)
  refine r_bltS 4 rfl 0 (.row (some ⟨g, 0, none⟩) c0 52 ((rawF 4)).sz c0 (spl (spl ds ((i + p2.length) * ((rawF 4)).sz) ((p0.drop i).flatMap ((rawF 4)).enc)) (i * ((rawF 4)).sz) (p2.flatMap ((rawF 4)).enc))) (d := some 82) (b := .copy) (ts := #[25, 25]) (ty := 3) (vs := #[.slice (some ⟨g, i * ((rawF 4)).sz, none⟩) (p0.length + p2.length - i) (c0 - i), .slice (some ⟨g3, 0, none⟩) p2.length c2]) hS (by kernel_rfl) rfl (fun hA => run_copyR (dT := 25) (sT := 25) (ty := 3) (inf := Try.t52) (by kernel_rfl) (by kernel_rfl) rfl hA (by rw [hmin1, lV]) hsrc hfit1 hV1) rfl (by simp [Asn.fp]) fun a w hS => ?_
  have hfin : (spl (spl ds ((i + p2.length) * ((rawF 4)).sz) ((p0.drop i).flatMap ((rawF 4)).enc)) (i * ((rawF 4)).sz) (p2.flatMap ((rawF 4)).enc)).take ((p0.length + p2.length) * ((rawF 4)).sz) = r.flatMap ((rawF 4)).enc := by
    have := cells_ins ((p0.take i).flatMap ((rawF 4)).enc) ((p0.drop i).flatMap ((rawF 4)).enc) (p2.flatMap ((rawF 4)).enc) Z lZ
    rw [lX, lV, ← Nat.add_mul, ← hZ] at this
    rw [this, hre, List.take_left' (by rw [List.length_append, List.length_append, lX, lV, lY, ← Nat.add_mul, ← Nat.add_mul]; congr 1; omega)]
  replace hS := hS.same (B := rowF (rawF 4) 52 (some ⟨g, 0, none⟩) c0 r) 0 rfl (fun hA => row_app_form hA hrl hle hfin) rfl (by simp [Asn.fp])
  refine wl_end ?_
  refine hK16 _ _ ?_
  refine k_seq (by kernel_rfl) fun K17 hK17 => ?_
  refine k_reg 2 (by kernel_rfl) ?_
  refine r_run 0 2 [6] [] hS rfl (L' := [(6, .slice (some ⟨g, 0, none⟩) (p0.length + p2.length) c0)]) (As' := [rowF (rawF 4) 52 (some ⟨g, 0, none⟩) c0 r, rowF (rawF 4) 52 (some ⟨g3, 0, none⟩) c2 p2]) (ob := []) (by kernel_rfl) trivial fun a w hS => ?_
  refine wl_end ?_
  refine hK17 _ _ ?_
  refine k_ret (by kernel_rfl) ?_
  try simp only [Exit.then, Exit.inBlock]
  refine r_ret hS [.tmp 6] [] (xs := [.slice (some ⟨g, 0, none⟩) (p0.length + p2.length) c0]) (ps := []) [0] [] rfl (by kernel_rfl) (fun hA => trivial) rfl (fun F up => trivial) ?_
  exact ⟨some ⟨g, 0, none⟩, c0, by rw [hrl]; rfl, rfl, rfl⟩
def slices_Insert_Row (n : Nat) (p1 : Int) (q0 q1 : List Row) : Option (List Row) := insL 40 q0 p1 q1
@[reducible] def slices_Insert_Row_ct : Ct tab := ⟨93, [.one (.own 0), .one (.d (.int .i64)), .one (.own 1)], [.row 52 (.st 3), .row 52 (.st 3)], [.one (.own 0)], [(none, .row 52 (.st 3))], List Row, fun y => (y, ()), fun y => y.1, fun _ => rfl, fun n x => slices_Insert_Row n x.1 x.2.1 x.2.2.1⟩
theorem slices_Insert_Row_ok : OkC Try.prog tab slices_Insert_Row_ct := ins_ok (t := .st 3) (m := 4) (bytes := 40) tabOk rfl Try.call93 fun p0 p1 p2 r h => slices_Insert_Row_raw p0 p1 p2 r h

end
end Go.Proofs.Ytdjageadgkillaa
