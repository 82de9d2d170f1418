/- Functions of the program: plain twins and their contracts, printed by program. -/
import Derived.Test.YtegnflodgnfffaaGreatTypes
namespace Go.Proofs.YtegnflodgnfffaaGreat
open Go Go.Bur Go.RowKit
set_option linter.unusedVariables false
set_option linter.unusedSimpArgs false
set_option maxRecDepth 100000
noncomputable section
/-! bursary bursarylaw27.one -/
def law27_one (n : Nat) (p0 : Int) : Option (Schema × (List Row)) :=
  some ((Schema.mk ([(Bounds.mk 0 10)] : List Bounds)), ([(Row.mk (Key.mk 0 1) p0 ByteArray.empty)] : List Row))
@[reducible] def law27_one_ct : Ct tab := ⟨18, [.one (.d (.int .i64))], [], [.st 1, .one (.own 0)], [(none, .row 102 (.st 6))], (Schema × (List Row)), fun y => (y.1, y.2, ()), fun y => (y.1, y.2.1), fun _ => rfl, fun n x => law27_one n x.1⟩
theorem law27_one_ok : OkC Tryz.prog tab law27_one_ct := fn_ok (W := ⟨Tryz.prog, tab, tyOf, [], addO, dpO, false⟩) ⟨tabOk, trivial, addOk⟩ (by kernel_rfl) 11 Tryz.f18 (.n) Tryz.func18 Tryz.call18 rfl (by kernel_rfl) (by kernel_rfl) (by kernel_rfl) fun n x => by kernel_rfl

/-! bursary bursarylaw27.add -/
def law27_add (n : Nat) (p0 : Int) (p1 : Int) : Option Entry :=
  some (Entry.mk p0 (Request.mk 7 (Key.mk 0 1) (Key.mk 0 0) p1 ByteArray.empty 0) (Answer.mk 0 ([] : List Row) 0))
@[reducible] def law27_add_ct : Ct tab := ⟨19, [.one (.d (.int .i64)), .one (.d (.int .i64))], [], [.st 9], [], Entry, fun y => (y, ()), fun y => y.1, fun _ => rfl, fun n x => law27_add n x.1 x.2.1⟩
theorem law27_add_ok : OkC Tryz.prog tab law27_add_ct := fn_ok (W := ⟨Tryz.prog, tab, tyOf, [], addO, dpO, false⟩) ⟨tabOk, trivial, addOk⟩ (by kernel_rfl) 10 Tryz.f19 (.n) Tryz.func19 Tryz.call19 rfl (by kernel_rfl) (by kernel_rfl) (by kernel_rfl) fun n x => by kernel_rfl

/-! bursary bursarylaw27.commit -/
def law27_commit (n : Nat) (p0 : Int) : Option Entry :=
  some (Entry.mk p0 (Request.mk 11 (Key.mk 0 0) (Key.mk 0 0) 0 ByteArray.empty 0) (Answer.mk 0 ([] : List Row) 0))
@[reducible] def law27_commit_ct : Ct tab := ⟨20, [.one (.d (.int .i64))], [], [.st 9], [], Entry, fun y => (y, ()), fun y => y.1, fun _ => rfl, fun n x => law27_commit n x.1⟩
theorem law27_commit_ok : OkC Tryz.prog tab law27_commit_ct := fn_ok (W := ⟨Tryz.prog, tab, tyOf, [], addO, dpO, false⟩) ⟨tabOk, trivial, addOk⟩ (by kernel_rfl) 6 Tryz.f20 (.n) Tryz.func20 Tryz.call20 rfl (by kernel_rfl) (by kernel_rfl) (by kernel_rfl) fun n x => by kernel_rfl

/-! bursary judge.order -/
def judge_order_j2 (n : Nat) (r1 : (List Entry) × Int × Int × (List Int) × Unit → Option ((List Int))) : (List Entry) × Int × Int × (List Int) × Unit → Option ((List Int)) := fun ⟨v9, v10, v11, v12, _⟩ =>
    r1 (v9, v10, (IntKind.wrap .i64 (v11 + 1)), v12, ())
def judge_order_l1 (n : Nat) : Nat → (List Entry) × Int × Int × (List Int) × Unit → Option ((List Int)) := loopF fun r1 ⟨v1, v2, v3, v4, _⟩ =>
    cond (decide (v3 < v2))
      ((idx v1 v3).bind fun x5 =>
      jn (fun (b6 : Bool) =>
          jn (judge_order_j2 n r1) fun j2 =>
          cond b6
            ((app 8 v4 ([x5.txn] : List Int)).bind fun l13 =>
            j2 (v1, v2, v3, l13, ()))
            (j2 (v1, v2, v3, v4, ()))) fun k7 =>
      cond (x5.request.kind == 11)
        (k7 (x5.answer.err == 0))
        (k7 false))
      (some v4)
def judge_order (n : Nat) (p0 : History) : Option ((List Int)) :=
  judge_order_l1 n n (p0.entries, (p0.entries.length : Int), 0, ([] : List Int), ())
@[reducible] def judge_order_ct : Ct tab := ⟨41, [.st 10], [], [.one (.own 0)], [(none, .row 3 (.int .i64))], ((List Int)), fun y => (y, ()), fun y => y.1, fun _ => rfl, fun n x => judge_order n x.1⟩
theorem judge_order_ok : OkC Tryz.prog tab judge_order_ct := fn_ok (W := ⟨Tryz.prog, tab, tyOf, [], addO, dpO, false⟩) ⟨tabOk, trivial, addOk⟩ (by kernel_rfl) 30 Tryz.f41 (.sq (.n) (.sq (.n) (.sq (.sq (.n) (.bk none (.lp ⟨[(3, .one (.own 0)), (7, .one (.d (.sl (.st 9)))), (8, .one (.d (.int .i64))), (9, .one (.d (.int .i64)))], [.row 3 (.int .i64)], []⟩ (.sq (.n) (.sq (.n) (.sq (.bk none (.sq (.n) (.sq (.n) (.cd (some ⟨[(3, .one (.own 0)), (7, .one (.d (.sl (.st 9)))), (8, .one (.d (.int .i64))), (9, .one (.d (.int .i64)))], [.row 3 (.int .i64)], []⟩) (.n) (.n))))) (.n))))))) (.n)))) Tryz.func41 Tryz.call41 rfl (by kernel_rfl) (by kernel_rfl) (by kernel_rfl) fun n x => by kernel_rfl

/-! bursary row.Check 1 -/
def row_Check_1 (n : Nat) (p0 : Bounds) : Option Bool :=
  some (decide (p0.min > p0.max))
@[reducible] def row_Check_1_ct : Ct tab := ⟨43, [.st 0], [], [.one (.d .bool)], [], Bool, fun y => (y, ()), fun y => y.1, fun _ => rfl, fun n x => row_Check_1 n x.1⟩
theorem row_Check_1_ok : OkC Tryz.prog tab row_Check_1_ct := fn_ok (W := ⟨Tryz.prog, tab, tyOf, [], addO, dpO, false⟩) ⟨tabOk, trivial, addOk⟩ (by kernel_rfl) 8 Tryz.f43 (.n) Tryz.func43 Tryz.call43 rfl (by kernel_rfl) (by kernel_rfl) (by kernel_rfl) fun n x => by kernel_rfl

/-! slices.IndexFunc   bursary api.Bounds bursary api.Bounds  -/
def slices_IndexFunc_Bounds_f43_l1 (n : Nat) : Nat → (List Bounds) × Int × Int × Unit → Option Int := loopF fun r1 ⟨v1, v2, v3, _⟩ =>
    cond (decide (v3 < v2))
      ((idx v1 v3).bind fun x4 =>
      (row_Check_1 n x4).bind fun y5 =>
      cond y5
        (some v3)
        (r1 (v1, v2, (IntKind.wrap .i64 (v3 + 1)), ())))
      (some (-1))
def slices_IndexFunc_Bounds_f43 (n : Nat) (p0 : List Bounds) : Option Int :=
  slices_IndexFunc_Bounds_f43_l1 n n (p0, (p0.length : Int), 0, ())
@[reducible] def slices_IndexFunc_Bounds_f43_ct : Ct tab := ⟨84, [.one (.d (.sl (.st 0))), .one (.fn 43 [])], [], [.one (.d (.int .i64))], [], Int, fun y => (y, ()), fun y => y.1, fun _ => rfl, fun n x => slices_IndexFunc_Bounds_f43 n x.1⟩
theorem slices_IndexFunc_Bounds_f43_ok : OkC Tryz.prog tab slices_IndexFunc_Bounds_f43_ct := fn_ok (W := ⟨Tryz.prog, tab, tyOf, [row_Check_1_ct], addO, dpO, false⟩) ⟨tabOk, ⟨row_Check_1_ok, trivial⟩, addOk⟩ (by kernel_rfl) 19 Tryz.f84 (.sq (.n) (.sq (.sq (.n) (.bk none (.lp ⟨[(0, .one (.d (.sl (.st 0)))), (1, .one (.fn 43 [])), (7, .one (.d (.int .i64))), (8, .one (.d (.int .i64)))], [], []⟩ (.n)))) (.n))) Tryz.func84 Tryz.call84 rfl (by kernel_rfl) (by kernel_rfl) (by kernel_rfl) fun n x => by kernel_rfl

/-! slices.ContainsFunc   bursary api.Bounds bursary api.Bounds  -/
def slices_ContainsFunc_Bounds_f43 (n : Nat) (p0 : List Bounds) : Option Bool :=
  (slices_IndexFunc_Bounds_f43 n p0).bind fun y1 =>
  some (decide (y1 ≥ 0))
@[reducible] def slices_ContainsFunc_Bounds_f43_ct : Ct tab := ⟨44, [.one (.d (.sl (.st 0))), .one (.fn 43 [])], [], [.one (.d .bool)], [], Bool, fun y => (y, ()), fun y => y.1, fun _ => rfl, fun n x => slices_ContainsFunc_Bounds_f43 n x.1⟩
theorem slices_ContainsFunc_Bounds_f43_ok : OkC Tryz.prog tab slices_ContainsFunc_Bounds_f43_ct := fn_ok (W := ⟨Tryz.prog, tab, tyOf, [slices_IndexFunc_Bounds_f43_ct], addO, dpO, false⟩) ⟨tabOk, ⟨slices_IndexFunc_Bounds_f43_ok, trivial⟩, addOk⟩ (by kernel_rfl) 9 Tryz.f44 (.n) Tryz.func44 Tryz.call44 rfl (by kernel_rfl) (by kernel_rfl) (by kernel_rfl) fun n x => by kernel_rfl

/-! bursary row.Check -/
def row_Check (n : Nat) (p0 : Schema) : Option Int :=
  jn (fun (b1 : Bool) =>
      jn (fun (b3 : Bool) =>
          cond b3
            (some 150)
            (some 0)) fun k4 =>
      cond b1
        (k4 true)
        ((slices_ContainsFunc_Bounds_f43 n p0.tables).bind fun y5 =>
        k4 y5)) fun k2 =>
  cond (decide ((p0.tables.length : Int) < 1))
    (k2 true)
    (k2 (decide ((p0.tables.length : Int) > 3)))
@[reducible] def row_Check_ct : Ct tab := ⟨22, [.st 1], [], [.one (.d (.int .i64))], [], Int, fun y => (y, ()), fun y => y.1, fun _ => rfl, fun n x => row_Check n x.1⟩
theorem row_Check_ok : OkC Tryz.prog tab row_Check_ct := fn_ok (W := ⟨Tryz.prog, tab, tyOf, [slices_ContainsFunc_Bounds_f43_ct], addO, dpO, false⟩) ⟨tabOk, ⟨slices_ContainsFunc_Bounds_f43_ok, trivial⟩, addOk⟩ (by kernel_rfl) 20 Tryz.f22 (.n) Tryz.func22 Tryz.call22 rfl (by kernel_rfl) (by kernel_rfl) (by kernel_rfl) fun n x => by kernel_rfl

/-! bursary row.known -/
def row_known (n : Nat) (p0 : Schema) (p1 : Key) : Option row_rule :=
  jn (fun (b1 : Bool) =>
      some (row_rule.mk b1 151)) fun k2 =>
  cond (decide (p1.table ≥ 0))
    (k2 (decide (p1.table < (p0.tables.length : Int))))
    (k2 false)
@[reducible] def row_known_ct : Ct tab := ⟨48, [.st 1, .st 2], [], [.st 11], [], row_rule, fun y => (y, ()), fun y => y.1, fun _ => rfl, fun n x => row_known n x.1 x.2.1⟩
theorem row_known_ok : OkC Tryz.prog tab row_known_ct := fn_ok (W := ⟨Tryz.prog, tab, tyOf, [], addO, dpO, false⟩) ⟨tabOk, trivial, addOk⟩ (by kernel_rfl) 17 Tryz.f48 (.n) Tryz.func48 Tryz.call48 rfl (by kernel_rfl) (by kernel_rfl) (by kernel_rfl) fun n x => by kernel_rfl

/-! bursary row.all -/
def row_all_l1 (n : Nat) : Nat → (List row_rule) × Int × Int × Unit → Option Int := loopF fun r1 ⟨v1, v2, v3, _⟩ =>
    cond (decide (v3 < v2))
      ((idx v1 v3).bind fun x4 =>
      cond (!x4.is)
        (some x4.no)
        (r1 (v1, v2, (IntKind.wrap .i64 (v3 + 1)), ())))
      (some 0)
def row_all (n : Nat) (p0 : List row_rule) : Option Int :=
  row_all_l1 n n (p0, (p0.length : Int), 0, ())
@[reducible] def row_all_ct : Ct tab := ⟨47, [.one (.d (.sl (.st 11)))], [], [.one (.d (.int .i64))], [], Int, fun y => (y, ()), fun y => y.1, fun _ => rfl, fun n x => row_all n x.1⟩
theorem row_all_ok : OkC Tryz.prog tab row_all_ct := fn_ok (W := ⟨Tryz.prog, tab, tyOf, [], addO, dpO, false⟩) ⟨tabOk, trivial, addOk⟩ (by kernel_rfl) 17 Tryz.f47 (.sq (.n) (.sq (.sq (.n) (.bk none (.lp ⟨[(5, .one (.d (.sl (.st 11)))), (6, .one (.d (.int .i64))), (7, .one (.d (.int .i64)))], [], []⟩ (.n)))) (.n))) Tryz.func47 Tryz.call47 rfl (by kernel_rfl) (by kernel_rfl) (by kernel_rfl) fun n x => by kernel_rfl

/-! bursary row.CheckKey -/
def row_CheckKey (n : Nat) (p0 : Schema) (p1 : Key) : Option Int :=
  (row_Check n p0).bind fun y1 =>
  cond (y1 != 0)
    (some y1)
    ((row_known n p0 p1).bind fun y2 =>
    (row_all n ([y2] : List row_rule)).bind fun y3 =>
    some y3)
@[reducible] def row_CheckKey_ct : Ct tab := ⟨24, [.st 1, .st 2], [], [.one (.d (.int .i64))], [], Int, fun y => (y, ()), fun y => y.1, fun _ => rfl, fun n x => row_CheckKey n x.1 x.2.1⟩
theorem row_CheckKey_ok : OkC Tryz.prog tab row_CheckKey_ct := fn_ok (W := ⟨Tryz.prog, tab, tyOf, [row_Check_ct, row_known_ct, row_all_ct], addO, dpO, false⟩) ⟨tabOk, ⟨row_Check_ok, row_known_ok, row_all_ok, trivial⟩, addOk⟩ (by kernel_rfl) 16 Tryz.f24 (.n) Tryz.func24 Tryz.call24 rfl (by kernel_rfl) (by kernel_rfl) (by kernel_rfl) fun n x => by kernel_rfl

/-! bursary row.CheckRow -/
def row_CheckRow (n : Nat) (p0 : Schema) (p1 : Row) : Option Int :=
  (row_CheckKey n p0 p1.key).bind fun y1 =>
  cond (y1 != 0)
    (some y1)
    ((idx p0.tables p1.key.table).bind fun x2 =>
    jn (fun (b3 : Bool) =>
        (row_all n ([(row_rule.mk (decide ((p1.note.size : Int) ≤ 8)) 3), (row_rule.mk b3 152)] : List row_rule)).bind fun y5 =>
        some y5) fun k4 =>
    cond (decide (p1.val ≥ x2.min))
      (k4 (decide (p1.val ≤ x2.max)))
      (k4 false))
@[reducible] def row_CheckRow_ct : Ct tab := ⟨152, [.st 1, .st 6], [], [.one (.d (.int .i64))], [], Int, fun y => (y, ()), fun y => y.1, fun _ => rfl, fun n x => row_CheckRow n x.1 x.2.1⟩
theorem row_CheckRow_ok : OkC Tryz.prog tab row_CheckRow_ct := fn_ok (W := ⟨Tryz.prog, tab, tyOf, [row_CheckKey_ct, row_all_ct], addO, dpO, false⟩) ⟨tabOk, ⟨row_CheckKey_ok, row_all_ok, trivial⟩, addOk⟩ (by kernel_rfl) 41 Tryz.f152 (.n) Tryz.func152 Tryz.call152 rfl (by kernel_rfl) (by kernel_rfl) (by kernel_rfl) fun n x => by kernel_rfl

/-! cmp.isNaN int  -/
def cmp_isNaN_int (n : Nat) (p0 : Int) : Option Bool :=
  some (p0 != p0)
@[reducible] def cmp_isNaN_int_ct : Ct tab := ⟨126, [.one (.d (.int .i64))], [], [.one (.d .bool)], [], Bool, fun y => (y, ()), fun y => y.1, fun _ => rfl, fun n x => cmp_isNaN_int n x.1⟩
theorem cmp_isNaN_int_ok : OkC Tryz.prog tab cmp_isNaN_int_ct := fn_ok (W := ⟨Tryz.prog, tab, tyOf, [], addO, dpO, false⟩) ⟨tabOk, trivial, addOk⟩ (by kernel_rfl) 6 Tryz.f126 (.n) Tryz.func126 Tryz.call126 rfl (by kernel_rfl) (by kernel_rfl) (by kernel_rfl) fun n x => by kernel_rfl

/-! cmp.Compare int  -/
def cmp_Compare_int (n : Nat) (p0 : Int) (p1 : Int) : Option Int :=
  (cmp_isNaN_int n p0).bind fun y1 =>
  (cmp_isNaN_int n p1).bind fun y2 =>
  cond y1
    (cond y2
      (some 0)
      (some (-1)))
    (cond y2
      (some 1)
      (cond (decide (p0 < p1))
        (some (-1))
        (cond (decide (p0 > p1))
          (some 1)
          (some 0))))
@[reducible] def cmp_Compare_int_ct : Ct tab := ⟨95, [.one (.d (.int .i64)), .one (.d (.int .i64))], [], [.one (.d (.int .i64))], [], Int, fun y => (y, ()), fun y => y.1, fun _ => rfl, fun n x => cmp_Compare_int n x.1 x.2.1⟩
theorem cmp_Compare_int_ok : OkC Tryz.prog tab cmp_Compare_int_ct := fn_ok (W := ⟨Tryz.prog, tab, tyOf, [cmp_isNaN_int_ct], addO, dpO, false⟩) ⟨tabOk, ⟨cmp_isNaN_int_ok, trivial⟩, addOk⟩ (by kernel_rfl) 20 Tryz.f95 (.n) Tryz.func95 Tryz.call95 rfl (by kernel_rfl) (by kernel_rfl) (by kernel_rfl) fun n x => by kernel_rfl

/-! cmp.isNaN uint16  -/
def cmp_isNaN_uint16 (n : Nat) (p0 : Int) : Option Bool :=
  some (p0 != p0)
@[reducible] def cmp_isNaN_uint16_ct : Ct tab := ⟨127, [.one (.d (.int .u16))], [], [.one (.d .bool)], [], Bool, fun y => (y, ()), fun y => y.1, fun _ => rfl, fun n x => cmp_isNaN_uint16 n x.1⟩
theorem cmp_isNaN_uint16_ok : OkC Tryz.prog tab cmp_isNaN_uint16_ct := fn_ok (W := ⟨Tryz.prog, tab, tyOf, [], addO, dpO, false⟩) ⟨tabOk, trivial, addOk⟩ (by kernel_rfl) 6 Tryz.f127 (.n) Tryz.func127 Tryz.call127 rfl (by kernel_rfl) (by kernel_rfl) (by kernel_rfl) fun n x => by kernel_rfl

/-! cmp.Compare uint16  -/
def cmp_Compare_uint16 (n : Nat) (p0 : Int) (p1 : Int) : Option Int :=
  (cmp_isNaN_uint16 n p0).bind fun y1 =>
  (cmp_isNaN_uint16 n p1).bind fun y2 =>
  cond y1
    (cond y2
      (some 0)
      (some (-1)))
    (cond y2
      (some 1)
      (cond (decide (p0 < p1))
        (some (-1))
        (cond (decide (p0 > p1))
          (some 1)
          (some 0))))
@[reducible] def cmp_Compare_uint16_ct : Ct tab := ⟨96, [.one (.d (.int .u16)), .one (.d (.int .u16))], [], [.one (.d (.int .i64))], [], Int, fun y => (y, ()), fun y => y.1, fun _ => rfl, fun n x => cmp_Compare_uint16 n x.1 x.2.1⟩
theorem cmp_Compare_uint16_ok : OkC Tryz.prog tab cmp_Compare_uint16_ct := fn_ok (W := ⟨Tryz.prog, tab, tyOf, [cmp_isNaN_uint16_ct], addO, dpO, false⟩) ⟨tabOk, ⟨cmp_isNaN_uint16_ok, trivial⟩, addOk⟩ (by kernel_rfl) 20 Tryz.f96 (.n) Tryz.func96 Tryz.call96 rfl (by kernel_rfl) (by kernel_rfl) (by kernel_rfl) fun n x => by kernel_rfl

/-! cmp.Or int  -/
def cmp_Or_int_l1 (n : Nat) : Nat → Int × (List Int) × Int × Int × Unit → Option Int := loopF fun r1 ⟨v1, v2, v3, v4, _⟩ =>
    cond (decide (v4 < v3))
      ((idx v2 v4).bind fun x5 =>
      cond (x5 != v1)
        (some x5)
        (r1 (v1, v2, v3, (IntKind.wrap .i64 (v4 + 1)), ())))
      (some v1)
def cmp_Or_int (n : Nat) (p0 : List Int) : Option Int :=
  cmp_Or_int_l1 n n (0, p0, (p0.length : Int), 0, ())
@[reducible] def cmp_Or_int_ct : Ct tab := ⟨94, [.one (.d (.sl (.int .i64)))], [], [.one (.d (.int .i64))], [], Int, fun y => (y, ()), fun y => y.1, fun _ => rfl, fun n x => cmp_Or_int n x.1⟩
theorem cmp_Or_int_ok : OkC Tryz.prog tab cmp_Or_int_ct := fn_ok (W := ⟨Tryz.prog, tab, tyOf, [], addO, dpO, false⟩) ⟨tabOk, trivial, addOk⟩ (by kernel_rfl) 18 Tryz.f94 (.sq (.n) (.sq (.n) (.sq (.sq (.n) (.bk none (.lp ⟨[(3, .one (.d (.int .i64))), (6, .one (.d (.sl (.int .i64)))), (7, .one (.d (.int .i64))), (8, .one (.d (.int .i64)))], [], []⟩ (.n)))) (.n)))) Tryz.func94 Tryz.call94 rfl (by kernel_rfl) (by kernel_rfl) (by kernel_rfl) fun n x => by kernel_rfl

/-! bursary row.Compare -/
def row_Compare (n : Nat) (p0 : Key) (p1 : Key) : Option Int :=
  (cmp_Compare_int n p0.table p1.table).bind fun y1 =>
  (cmp_Compare_uint16 n p0.id p1.id).bind fun y2 =>
  (cmp_Or_int n ([y1, y2] : List Int)).bind fun y3 =>
  some y3
@[reducible] def row_Compare_ct : Ct tab := ⟨87, [.st 2, .st 2], [], [.one (.d (.int .i64))], [], Int, fun y => (y, ()), fun y => y.1, fun _ => rfl, fun n x => row_Compare n x.1 x.2.1⟩
theorem row_Compare_ok : OkC Tryz.prog tab row_Compare_ct := fn_ok (W := ⟨Tryz.prog, tab, tyOf, [cmp_Compare_int_ct, cmp_Compare_uint16_ct, cmp_Or_int_ct], addO, dpO, false⟩) ⟨tabOk, ⟨cmp_Compare_int_ok, cmp_Compare_uint16_ok, cmp_Or_int_ok, trivial⟩, addOk⟩ (by kernel_rfl) 17 Tryz.f87 (.n) Tryz.func87 Tryz.call87 rfl (by kernel_rfl) (by kernel_rfl) (by kernel_rfl) fun n x => by kernel_rfl

/-! bursary row.CheckList -/
def row_CheckList_l1 (n : Nat) : Nat → (List Row) × (List Row) × Int × Int × Schema × Unit → Option Int := loopF fun r1 ⟨v2, v3, v4, v5, v6, _⟩ =>
    cond (decide (v5 < v4))
      ((idx v3 v5).bind fun x7 =>
      (row_CheckRow n v6 x7).bind fun y8 =>
      jn (fun (b9 : Bool) =>
          cond b9
            (some 151)
            (r1 (v2, v3, v4, (IntKind.wrap .i64 (v5 + 1)), v6, ()))) fun k10 =>
      cond (y8 != 0)
        (k10 true)
        (jn (fun (b11 : Bool) =>
            k10 b11) fun k12 =>
        cond (decide (v5 > 0))
          ((idx v2 (IntKind.wrap .i64 (v5 - 1))).bind fun x13 =>
          (row_Compare n x13.key x7.key).bind fun y14 =>
          k12 (decide (y14 ≥ 0)))
          (k12 false)))
      ((row_all n ([(row_rule.mk (decide ((v2.length : Int) ≤ 60)) 151)] : List row_rule)).bind fun y15 =>
      some y15)
def row_CheckList (n : Nat) (p0 : Schema) (p1 : List Row) : Option Int :=
  (row_Check n p0).bind fun y1 =>
  cond (y1 != 0)
    (some y1)
    (row_CheckList_l1 n n (p1, p1, (p1.length : Int), 0, p0, ()))
@[reducible] def row_CheckList_ct : Ct tab := ⟨116, [.st 1, .one (.d (.sl (.st 6)))], [], [.one (.d (.int .i64))], [], Int, fun y => (y, ()), fun y => y.1, fun _ => rfl, fun n x => row_CheckList n x.1 x.2.1⟩
theorem row_CheckList_ok : OkC Tryz.prog tab row_CheckList_ct := fn_ok (W := ⟨Tryz.prog, tab, tyOf, [row_Check_ct, row_CheckRow_ct, row_Compare_ct, row_all_ct], addO, dpO, false⟩) ⟨tabOk, ⟨row_Check_ok, row_CheckRow_ok, row_Compare_ok, row_all_ok, trivial⟩, addOk⟩ (by kernel_rfl) 47 Tryz.f116 (.sq (.n) (.sq (.n) (.sq (.sq (.n) (.bk none (.lp ⟨[(1, .one (.d (.sl (.st 6)))), (2, .one (.box 0 0)), (13, .one (.d (.sl (.st 6)))), (14, .one (.d (.int .i64))), (15, .one (.d (.int .i64)))], [.bst 1], []⟩ (.n)))) (.n)))) Tryz.func116 Tryz.call116 rfl (by kernel_rfl) (by kernel_rfl) (by kernel_rfl) fun n x => by kernel_rfl

/-! bursary judge.ends -/
def judge_ends (n : Nat) (p0 : Entry) : Option Bool :=
  jn (fun (b1 : Bool) =>
      jn (fun (b3 : Bool) =>
          jn (fun (b5 : Bool) =>
              some b5) fun k6 =>
          cond b3
            (k6 true)
            (k6 (p0.answer.err == 361))) fun k4 =>
      cond b1
        (k4 (p0.answer.err == 0))
        (k4 false)) fun k2 =>
  cond (p0.request.kind == 11)
    (k2 true)
    (k2 (p0.request.kind == 12))
@[reducible] def judge_ends_ct : Ct tab := ⟨118, [.st 9], [], [.one (.d .bool)], [], Bool, fun y => (y, ()), fun y => y.1, fun _ => rfl, fun n x => judge_ends n x.1⟩
theorem judge_ends_ok : OkC Tryz.prog tab judge_ends_ct := fn_ok (W := ⟨Tryz.prog, tab, tyOf, [], addO, dpO, false⟩) ⟨tabOk, trivial, addOk⟩ (by kernel_rfl) 27 Tryz.f118 (.n) Tryz.func118 Tryz.call118 rfl (by kernel_rfl) (by kernel_rfl) (by kernel_rfl) fun n x => by kernel_rfl

/-! bursary ideal.bare -/
def ideal_bare_j2 (n : Nat) : Request × Request × Unit → Option Request := fun ⟨v163, v164, _⟩ =>
    some (Request.mk 0 v163.key v163.to v163.val v163.note v163.n)
def ideal_bare_j3 (n : Nat) (j2 : Request × Request × Unit → Option Request) : Request × Request × Unit → Option Request := fun ⟨v243, v244, _⟩ =>
    j2 (v243, v244, ())
def ideal_bare_j4 (n : Nat) (j3 : Request × Request × Unit → Option Request) : Request × Request × Unit → Option Request := fun ⟨v283, v284, _⟩ =>
    j3 (v283, v284, ())
def ideal_bare_j5 (n : Nat) (j4 : Request × Request × Unit → Option Request) : Request × Request × Unit → Option Request := fun ⟨v303, v304, _⟩ =>
    j4 (v303, v304, ())
def ideal_bare_j7 (n : Nat) (j5 : Request × Request × Unit → Option Request) : Request × Request × Unit → Option Request := fun ⟨v315, v316, _⟩ =>
    j5 (v315, v316, ())
def ideal_bare_j8 (n : Nat) (j7 : Request × Request × Unit → Option Request) : Request × Request × Unit → Option Request := fun ⟨v319, v320, _⟩ =>
    j7 (v319, v320, ())
def ideal_bare_j9 (n : Nat) (j8 : Request × Request × Unit → Option Request) : Request × Request × Unit → Option Request := fun ⟨v321, v322, _⟩ =>
    j8 (v321, v322, ())
def ideal_bare_j6 (n : Nat) (j5 : Request × Request × Unit → Option Request) : Int × Bool × Request × Request × Unit → Option Request := fun ⟨v305, v306, v307, v308, _⟩ =>
    jn (ideal_bare_j7 n j5) fun j7 =>
    cond v306
      (j7 ((Request.mk v307.kind (Key.mk 0 0) v307.to 0 v307.note v307.n), v308, ()))
      (jn (ideal_bare_j8 n j7) fun j8 =>
      cond (v305 == 8)
        (j8 ((Request.mk v307.kind (Key.mk 0 0) (Key.mk 0 0) 0 v307.note v307.n), v308, ()))
        (jn (ideal_bare_j9 n j8) fun j9 =>
        cond (v305 == 10)
          (j9 ((Request.mk v307.kind v307.key v307.to v307.val v307.note 0), v308, ()))
          (j9 (v307, v308, ()))))
def ideal_bare_j1 (n : Nat) : Int × Bool × Request × Request × Unit → Option Request := fun ⟨v1, v2, v3, v4, _⟩ =>
    jn (ideal_bare_j2 n) fun j2 =>
    cond v2
      (j2 ((Request.mk v3.kind (Key.mk 0 0) v3.to v3.val v3.note v3.n), v4, ()))
      (jn (ideal_bare_j3 n j2) fun j3 =>
      cond (v1 == 2)
        (j3 ((Request.mk v3.kind (Key.mk 0 v3.key.id) v3.to v3.val v3.note v3.n), v4, ()))
        (jn (ideal_bare_j4 n j3) fun j4 =>
        cond (v1 == 3)
          (j4 ((Request.mk v3.kind (Key.mk 0 0) v3.to 0 (ByteArray.mk #[]) v3.n), v4, ()))
          (jn (ideal_bare_j5 n j4) fun j5 =>
          cond (v1 == 5)
            (j5 ((Request.mk v3.kind (Key.mk 0 0) v3.to v3.val (ByteArray.mk #[]) v3.n), v4, ()))
            (jn (ideal_bare_j6 n j5) fun j6 =>
            cond (v1 == 6)
              (j6 (v1, (v1 == 6), v3, v4, ()))
              (j6 (v1, (v1 == 7), v3, v4, ()))))))
def ideal_bare (n : Nat) (p0 : Request) : Option Request :=
  jn (ideal_bare_j1 n) fun j1 =>
  cond (p0.kind == 1)
    (j1 (p0.kind, (p0.kind == 1), p0, (Request.mk 0 (Key.mk 0 0) (Key.mk 0 0) 0 ByteArray.empty 0), ()))
    (j1 (p0.kind, (p0.kind == 4), p0, (Request.mk 0 (Key.mk 0 0) (Key.mk 0 0) 0 ByteArray.empty 0), ()))
@[reducible] def ideal_bare_ct : Ct tab := ⟨153, [.st 7], [], [.st 7], [], Request, fun y => (y, ()), fun y => y.1, fun _ => rfl, fun n x => ideal_bare n x.1⟩
theorem ideal_bare_ok : OkC Tryz.prog tab ideal_bare_ct := fn_ok (W := ⟨Tryz.prog, tab, tyOf, [], addO, dpO, false⟩) ⟨tabOk, trivial, addOk⟩ (by kernel_rfl) 43 Tryz.f153 (.sq (.n) (.sq (.sq (.n) (.bk none (.sq (.sq (.n) (.cd (some ⟨[(1, .one (.box 0 0)), (2, .one (.box 1 0)), (4, .one (.d (.int .i64))), (5, .one (.d .bool))], [.bst 7, .bst 7], []⟩) (.n) (.n))) (.cd (some ⟨[(1, .one (.box 0 0)), (2, .one (.box 1 0))], [.bst 7, .bst 7], []⟩) (.n) (.sq (.n) (.cd (some ⟨[(1, .one (.box 0 0)), (2, .one (.box 1 0))], [.bst 7, .bst 7], []⟩) (.n) (.sq (.n) (.cd (some ⟨[(1, .one (.box 0 0)), (2, .one (.box 1 0))], [.bst 7, .bst 7], []⟩) (.n) (.sq (.n) (.cd (some ⟨[(1, .one (.box 0 0)), (2, .one (.box 1 0))], [.bst 7, .bst 7], []⟩) (.n) (.sq (.sq (.n) (.cd (some ⟨[(1, .one (.box 0 0)), (2, .one (.box 1 0)), (4, .one (.d (.int .i64))), (25, .one (.d .bool))], [.bst 7, .bst 7], []⟩) (.n) (.n))) (.cd (some ⟨[(1, .one (.box 0 0)), (2, .one (.box 1 0))], [.bst 7, .bst 7], []⟩) (.n) (.sq (.n) (.cd (some ⟨[(1, .one (.box 0 0)), (2, .one (.box 1 0))], [.bst 7, .bst 7], []⟩) (.n) (.sq (.n) (.cd (some ⟨[(1, .one (.box 0 0)), (2, .one (.box 1 0))], [.bst 7, .bst 7], []⟩) (.n) (.n))))))))))))))))) (.n))) Tryz.func153 Tryz.call153 rfl (by kernel_rfl) (by kernel_rfl) (by kernel_rfl) fun n x => by kernel_rfl

/-! bursary ideal.CheckRequest -/
def ideal_CheckRequest_j1 (n : Nat) : Bool × Unit → Option Int := fun ⟨v21, _⟩ =>
    cond (!v21)
      (some 250)
      (some 0)
def ideal_CheckRequest_j2 (n : Nat) (j1 : Bool × Unit → Option Int) : Bool × Unit → Option Int := fun ⟨v28, _⟩ =>
    j1 (v28, ())
def ideal_CheckRequest (n : Nat) (p0 : Schema) (p1 : Request) : Option Int :=
  (row_Check n p0).bind fun y1 =>
  cond (y1 != 0)
    (some y1)
    (jn (fun (b2 : Bool) =>
        jn (fun (b4 : Bool) =>
            jn (fun (b6 : Bool) =>
                jn (fun (b8 : Bool) =>
                    jn (fun (b10 : Bool) =>
                        jn (ideal_CheckRequest_j1 n) fun j1 =>
                        cond (p1.kind == 8)
                          (jn (fun (b22 : Bool) =>
                              jn (fun (b24 : Bool) =>
                                  j1 (b24, ())) fun k25 =>
                              cond b22
                                (k25 (decide (p1.val ≥ 0)))
                                (k25 false)) fun k23 =>
                          cond b10
                            (k23 (!(Key.eqb p1.key p1.to)))
                            (k23 false))
                          (jn (ideal_CheckRequest_j2 n j1) fun j2 =>
                          cond (p1.kind == 10)
                            (jn (fun (b29 : Bool) =>
                                j2 (b29, ())) fun k30 =>
                            cond b10
                              (k30 (decide (p1.n ≥ 1)))
                              (k30 false))
                            (j2 (b10, ())))) fun k11 =>
                    cond b8
                      ((row_CheckKey n p0 p1.to).bind fun y31 =>
                      k11 (y31 == 0))
                      (k11 false)) fun k9 =>
                cond b6
                  ((row_CheckKey n p0 p1.key).bind fun y32 =>
                  k9 (y32 == 0))
                  (k9 false)) fun k7 =>
            cond b4
              (k7 (decide ((p1.note.size : Int) ≤ 8)))
              (k7 false)) fun k5 =>
        cond b2
          ((ideal_bare n p1).bind fun y33 =>
          k5 (Request.eqb y33 (Request.mk 0 (Key.mk 0 0) (Key.mk 0 0) 0 ByteArray.empty 0)))
          (k5 false)) fun k3 =>
    cond (decide (p1.kind ≥ 1))
      (k3 (decide (p1.kind ≤ 12)))
      (k3 false))
@[reducible] def ideal_CheckRequest_ct : Ct tab := ⟨117, [.st 1, .st 7], [], [.one (.d (.int .i64))], [], Int, fun y => (y, ()), fun y => y.1, fun _ => rfl, fun n x => ideal_CheckRequest n x.1 x.2.1⟩
theorem ideal_CheckRequest_ok : OkC Tryz.prog tab ideal_CheckRequest_ct := fn_ok (W := ⟨Tryz.prog, tab, tyOf, [row_Check_ct, row_CheckKey_ct, ideal_bare_ct], addO, dpO, false⟩) ⟨tabOk, ⟨row_Check_ok, row_CheckKey_ok, ideal_bare_ok, trivial⟩, addOk⟩ (by kernel_rfl) 74 Tryz.f117 (.sq (.n) (.sq (.n) (.sq (.n) (.sq (.n) (.sq (.sq (.n) (.bk none (.sq (.n) (.cd (some ⟨[(6, .one (.d .bool))], [], []⟩) (.n) (.sq (.n) (.cd (some ⟨[(6, .one (.d .bool))], [], []⟩) (.n) (.n))))))) (.n)))))) Tryz.func117 Tryz.call117 rfl (by kernel_rfl) (by kernel_rfl) (by kernel_rfl) fun n x => by kernel_rfl

/-! bursary judge.Check -/
def judge_Check_l1 (n : Nat) : Nat → (List Entry) × Int × Int × History × (List (Int × Bool)) × Unit → Option Int := loopF fun r1 ⟨v4, v5, v6, v7, v8, _⟩ =>
    cond (decide (v6 < v5))
      ((idx v4 v6).bind fun x9 =>
      jn (fun (b10 : Bool) =>
          jn (fun (b12 : Bool) =>
              jn (fun (b14 : Bool) =>
                  jn (fun (b16 : Bool) =>
                      cond b16
                        (some 370)
                        ((judge_ends n x9).bind fun y18 =>
                        (mput .i64 v8 x9.txn y18).bind fun l19 =>
                        r1 (v4, v5, (IntKind.wrap .i64 (v6 + 1)), v7, l19, ()))) fun k17 =>
                  cond b14
                    (k17 true)
                    ((row_CheckList n v7.schema x9.answer.rows).bind fun y20 =>
                    k17 (y20 != 0))) fun k15 =>
              cond b12
                (k15 true)
                ((ideal_CheckRequest n v7.schema x9.request).bind fun y21 =>
                k15 (y21 != 0))) fun k13 =>
          cond b10
            (k13 true)
            ((mlook .i64 false v8 x9.txn).bind fun w22 =>
            k13 w22)) fun k11 =>
      cond (decide (x9.txn < 1))
        (k11 true)
        (k11 (decide (x9.txn > 1073741824))))
      (some 0)
def judge_Check (n : Nat) (p0 : History) : Option Int :=
  (row_CheckList n p0.schema p0.begun).bind fun y1 =>
  jn (fun (b2 : Bool) =>
      cond b2
        (some 370)
        (judge_Check_l1 n n (p0.entries, (p0.entries.length : Int), 0, p0, ([] : List (Int × Bool)), ()))) fun k3 =>
  cond (y1 != 0)
    (k3 true)
    (k3 (decide ((p0.entries.length : Int) > 2000)))
@[reducible] def judge_Check_ct : Ct tab := ⟨80, [.st 10], [], [.one (.d (.int .i64))], [], Int, fun y => (y, ()), fun y => y.1, fun _ => rfl, fun n x => judge_Check n x.1⟩
theorem judge_Check_ok : OkC Tryz.prog tab judge_Check_ct := fn_ok (W := ⟨Tryz.prog, tab, tyOf, [row_CheckList_ct, judge_ends_ct, ideal_CheckRequest_ct], addO, dpO, false⟩) ⟨tabOk, ⟨row_CheckList_ok, judge_ends_ok, ideal_CheckRequest_ok, trivial⟩, addOk⟩ (by kernel_rfl) 63 Tryz.f80 (.sq (.n) (.sq (.n) (.sq (.n) (.sq (.sq (.n) (.bk none (.lp ⟨[(1, .one (.box 0 0)), (3, .one (.map 1)), (20, .one (.d (.sl (.st 9)))), (21, .one (.d (.int .i64))), (22, .one (.d (.int .i64)))], [.bst 10, .map .i64 3 4 .bool], []⟩ (.n)))) (.n))))) Tryz.func80 Tryz.call80 rfl (by kernel_rfl) (by kernel_rfl) (by kernel_rfl) fun n x => by kernel_rfl

/-! slices.Clone   bursary api.Row bursary api.Row  -/
def slices_Clone_Row (n : Nat) (p0 : List Row) : Option ((List Row)) :=
  nilC p0.isEmpty
    (some ([] : List Row))
    ((app 40 ([] : List Row) p0).bind fun l1 =>
    some l1)
@[reducible] def slices_Clone_Row_ct : Ct tab := ⟨81, [.one (.d (.sl (.st 6)))], [], [.one (.own 0)], [(none, .row 102 (.st 6))], ((List Row)), fun y => (y, ()), fun y => y.1, fun _ => rfl, fun n x => slices_Clone_Row n x.1⟩
theorem slices_Clone_Row_ok : OkC Tryz.prog tab slices_Clone_Row_ct := fn_ok (W := ⟨Tryz.prog, tab, tyOf, [], addO, dpO, false⟩) ⟨tabOk, trivial, addOk⟩ (by kernel_rfl) 8 Tryz.f81 (.n) Tryz.func81 Tryz.call81 rfl (by kernel_rfl) (by kernel_rfl) (by kernel_rfl) fun n x => by kernel_rfl

/-! bursary ideal.Begin -/
def ideal_Begin (n : Nat) (p0 : Schema) (p1 : List Row) : Option (Serial × Int) :=
  (row_CheckList n p0 p1).bind fun y1 =>
  cond (y1 != 0)
    (some ((Serial.mk (Schema.mk ([] : List Bounds)) ([] : List Row) ([] : List Row) ([] : List (List Row)) false), y1))
    ((slices_Clone_Row n p1).bind fun y2 =>
    (slices_Clone_Row n p1).bind fun y3 =>
    some ((Serial.mk p0 y2 y3 ([] : List (List Row)) false), 0))
@[reducible] def ideal_Begin_ct : Ct tab := ⟨119, [.st 1, .one (.d (.sl (.st 6)))], [], [.st 12, .one (.d (.int .i64))], [], (Serial × Int), fun y => (y.1, y.2, ()), fun y => (y.1, y.2.1), fun _ => rfl, fun n x => ideal_Begin n x.1 x.2.1⟩
theorem ideal_Begin_ok : OkC Tryz.prog tab ideal_Begin_ct := fn_ok (W := ⟨Tryz.prog, tab, tyOf, [row_CheckList_ct, slices_Clone_Row_ct], addO, dpO, false⟩) ⟨tabOk, ⟨row_CheckList_ok, slices_Clone_Row_ok, trivial⟩, addOk⟩ (by kernel_rfl) 20 Tryz.f119 (.n) Tryz.func119 Tryz.call119 rfl (by kernel_rfl) (by kernel_rfl) (by kernel_rfl) fun n x => by kernel_rfl

/-! bursary judge.of -/
def judge_of (n : Nat) (p0 : History) (p1 : Int) : Option (History × Int) :=
  some (p0, p1)
@[reducible] def judge_of_ct : Ct tab := ⟨120, [.st 10, .one (.d (.int .i64))], [], [.one (.fn 154 [.bx 0, .bx 1])], [(none, .bst 10), (none, .box [.d (.int .i64)])], (History × Int), fun y => (y.1, y.2, ()), fun y => (y.1, y.2.1), fun _ => rfl, fun n x => judge_of n x.1 x.2.1⟩
theorem judge_of_ok : OkC Tryz.prog tab judge_of_ct := fn_ok (W := ⟨Tryz.prog, tab, tyOf, [], addO, dpO, false⟩) ⟨tabOk, trivial, addOk⟩ (by kernel_rfl) 6 Tryz.f120 (.n) Tryz.func120 Tryz.call120 rfl (by kernel_rfl) (by kernel_rfl) (by kernel_rfl) fun n x => by kernel_rfl

/-! bursary judge.of 1 -/
def judge_of_1_fyd0_l1 (n : Nat) : Nat → Int × (List Entry) × Int × Int × (HL tabT [.int .i64, .st 9] → HL tabT [.int .i64, .bool, .st 13] → Option (Nat × HL tabT [.int .i64, .bool, .st 13])) × Nat × (HL tabT [.int .i64, .bool, .st 13]) × Unit → Option ((HL tabT [.int .i64, .st 9] → HL tabT [.int .i64, .bool, .st 13] → Option (Nat × HL tabT [.int .i64, .bool, .st 13])) × Nat × (HL tabT [.int .i64, .bool, .st 13])) := loopF fun r1 ⟨v1, v2, v3, v4, v5, v6, v7, _⟩ =>
    cond (decide (v4 < v3))
      ((idx v2 v4).bind fun x8 =>
      cond (x8.txn == v1)
        ((callY v5 v6 (v4, x8, ()) v7).bind fun y9 =>
        cond (!(Nat.beq y9.1 0))
          (some (v5, y9.1, y9.2))
          (r1 (v1, v2, v3, (IntKind.wrap .i64 (v4 + 1)), v5, y9.1, y9.2, ())))
        (cond false
          (some (v5, v6, v7))
          (r1 (v1, v2, v3, (IntKind.wrap .i64 (v4 + 1)), v5, v6, v7, ()))))
      (some (v5, v6, v7))
def judge_of_1_fyd0 (n : Nat) (p1 : History) (p2 : Int) (q0_0 : HL tabT [.int .i64, .st 9] → HL tabT [.int .i64, .bool, .st 13] → Option (Nat × HL tabT [.int .i64, .bool, .st 13])) (q0_1 : Nat) (q0_2 : HL tabT [.int .i64, .bool, .st 13]) : Option ((HL tabT [.int .i64, .st 9] → HL tabT [.int .i64, .bool, .st 13] → Option (Nat × HL tabT [.int .i64, .bool, .st 13])) × Nat × (HL tabT [.int .i64, .bool, .st 13])) :=
  judge_of_1_fyd0_l1 n n (p2, p1.entries, (p1.entries.length : Int), 0, q0_0, q0_1, q0_2, ())
@[reducible] def judge_of_1_fyd0_ct : Ct tab := ⟨154, [.one (.yd 0), .one (.ro (.st 10)), .one (.ro (.int .i64))], [.opq [.int .i64, .st 9] [.int .i64, .bool, .st 13]], [], [(some 0, .opq [.int .i64, .st 9] [.int .i64, .bool, .st 13])], ((HL tabT [.int .i64, .st 9] → HL tabT [.int .i64, .bool, .st 13] → Option (Nat × HL tabT [.int .i64, .bool, .st 13])) × Nat × (HL tabT [.int .i64, .bool, .st 13])), fun y => (y.1, y.2.1, y.2.2, ()), fun y => (y.1, y.2.1, y.2.2.1), fun _ => rfl, fun n x => judge_of_1_fyd0 n x.1 x.2.1 x.2.2.1 x.2.2.2.1 x.2.2.2.2.1⟩
theorem judge_of_1_fyd0_ok : OkC Tryz.prog tab judge_of_1_fyd0_ct := fn_ok (W := ⟨Tryz.prog, tab, tyOf, [], addO, dpO, false⟩) ⟨tabOk, trivial, addOk⟩ (by kernel_rfl) 26 Tryz.f154 (.sq (.n) (.bk none (.lp ⟨[(0, .one (.yd 0)), (2, .one (.ro (.int .i64))), (7, .one (.d (.sl (.st 9)))), (8, .one (.d (.int .i64))), (9, .one (.d (.int .i64)))], [.opq [.int .i64, .st 9] [.int .i64, .bool, .st 13]], [(0, 0)]⟩ (.sq (.n) (.sq (.n) (.sq (.bk none (.sq (.n) (.sq (.rg [1000000]) (.n)))) (.n))))))) Tryz.func154 Tryz.call154 rfl (by kernel_rfl) (by kernel_rfl) (by kernel_rfl) fun n x => by kernel_rfl

/-! bursary judge.Passes -/
def judge_Passes (n : Nat) (p0 : Entry) : Option Bool :=
  cond (p0.answer.err == 152)
    (jn (fun (b1 : Bool) =>
        some b1) fun k2 =>
    cond (p0.request.kind == 7)
      (k2 true)
      (k2 (p0.request.kind == 8)))
    (cond (p0.answer.err == 6)
      (some (p0.request.kind == 3))
      (some (p0.answer.err == 261)))
@[reducible] def judge_Passes_ct : Ct tab := ⟨121, [.st 9], [], [.one (.d .bool)], [], Bool, fun y => (y, ()), fun y => y.1, fun _ => rfl, fun n x => judge_Passes n x.1⟩
theorem judge_Passes_ok : OkC Tryz.prog tab judge_Passes_ct := fn_ok (W := ⟨Tryz.prog, tab, tyOf, [], addO, dpO, false⟩) ⟨tabOk, trivial, addOk⟩ (by kernel_rfl) 28 Tryz.f121 (.n) Tryz.func121 Tryz.call121 rfl (by kernel_rfl) (by kernel_rfl) (by kernel_rfl) fun n x => by kernel_rfl

/-! bursary ideal.Check 1 -/
def ideal_Check_1 (n : Nat) (p0 : List Row) (p1 : Serial) : Option Bool :=
  (row_CheckList n p1.schema p0).bind fun y1 =>
  some (y1 != 0)
@[reducible] def ideal_Check_1_ct : Ct tab := ⟨164, [.one (.d (.sl (.st 6))), .one (.ro (.st 12))], [], [.one (.d .bool)], [], Bool, fun y => (y, ()), fun y => y.1, fun _ => rfl, fun n x => ideal_Check_1 n x.1 x.2.1⟩
theorem ideal_Check_1_ok : OkC Tryz.prog tab ideal_Check_1_ct := fn_ok (W := ⟨Tryz.prog, tab, tyOf, [row_CheckList_ct], addO, dpO, false⟩) ⟨tabOk, ⟨row_CheckList_ok, trivial⟩, addOk⟩ (by kernel_rfl) 9 Tryz.f164 (.n) Tryz.func164 Tryz.call164 rfl (by kernel_rfl) (by kernel_rfl) (by kernel_rfl) fun n x => by kernel_rfl

/-! slices.IndexFunc     bursary api.Row   bursary api.Row  -/
def slices_IndexFunc_Row_f164_l1 (n : Nat) : Nat → (List (List Row)) × Serial × Int × Int × Unit → Option Int := loopF fun r1 ⟨v1, v2, v3, v4, _⟩ =>
    cond (decide (v4 < v3))
      ((idx v1 v4).bind fun x5 =>
      (ideal_Check_1 n x5 v2).bind fun y6 =>
      cond y6
        (some v4)
        (r1 (v1, v2, v3, (IntKind.wrap .i64 (v4 + 1)), ())))
      (some (-1))
def slices_IndexFunc_Row_f164 (n : Nat) (p0 : List (List Row)) (p1 : Serial) : Option Int :=
  slices_IndexFunc_Row_f164_l1 n n (p0, p1, (p0.length : Int), 0, ())
@[reducible] def slices_IndexFunc_Row_f164_ct : Ct tab := ⟨175, [.one (.d (.sl (.sl (.st 6)))), .one (.fn 164 [.ro (.st 12)])], [], [.one (.d (.int .i64))], [], Int, fun y => (y, ()), fun y => y.1, fun _ => rfl, fun n x => slices_IndexFunc_Row_f164 n x.1 x.2.1⟩
theorem slices_IndexFunc_Row_f164_ok : OkC Tryz.prog tab slices_IndexFunc_Row_f164_ct := fn_ok (W := ⟨Tryz.prog, tab, tyOf, [ideal_Check_1_ct], addO, dpO, false⟩) ⟨tabOk, ⟨ideal_Check_1_ok, trivial⟩, addOk⟩ (by kernel_rfl) 19 Tryz.f175 (.sq (.n) (.sq (.sq (.n) (.bk none (.lp ⟨[(0, .one (.d (.sl (.sl (.st 6))))), (1, .one (.fn 164 [.ro (.st 12)])), (7, .one (.d (.int .i64))), (8, .one (.d (.int .i64)))], [], []⟩ (.n)))) (.n))) Tryz.func175 Tryz.call175 rfl (by kernel_rfl) (by kernel_rfl) (by kernel_rfl) fun n x => by kernel_rfl

/-! slices.ContainsFunc     bursary api.Row   bursary api.Row  -/
def slices_ContainsFunc_Row_f164 (n : Nat) (p0 : List (List Row)) (p1 : Serial) : Option Bool :=
  (slices_IndexFunc_Row_f164 n p0 p1).bind fun y1 =>
  some (decide (y1 ≥ 0))
@[reducible] def slices_ContainsFunc_Row_f164_ct : Ct tab := ⟨165, [.one (.d (.sl (.sl (.st 6)))), .one (.fn 164 [.ro (.st 12)])], [], [.one (.d .bool)], [], Bool, fun y => (y, ()), fun y => y.1, fun _ => rfl, fun n x => slices_ContainsFunc_Row_f164 n x.1 x.2.1⟩
theorem slices_ContainsFunc_Row_f164_ok : OkC Tryz.prog tab slices_ContainsFunc_Row_f164_ct := fn_ok (W := ⟨Tryz.prog, tab, tyOf, [slices_IndexFunc_Row_f164_ct], addO, dpO, false⟩) ⟨tabOk, ⟨slices_IndexFunc_Row_f164_ok, trivial⟩, addOk⟩ (by kernel_rfl) 9 Tryz.f165 (.n) Tryz.func165 Tryz.call165 rfl (by kernel_rfl) (by kernel_rfl) (by kernel_rfl) fun n x => by kernel_rfl

/-! bursary ideal.Check -/
def ideal_Check (n : Nat) (p0 : Serial) : Option Int :=
  (ideal_Check_1 n p0.rows p0).bind fun y1 =>
  jn (fun (b2 : Bool) =>
      jn (fun (b4 : Bool) =>
          jn (fun (b6 : Bool) =>
              jn (fun (b8 : Bool) =>
                  cond b8
                    (some 251)
                    (some 0)) fun k9 =>
              cond b6
                (k9 true)
                (jn (fun (b10 : Bool) =>
                    k9 b10) fun k11 =>
                cond p0.over
                  (k11 (decide ((p0.marks.length : Int) > 0)))
                  (k11 false))) fun k7 =>
          cond b4
            (k7 true)
            (k7 (decide ((p0.marks.length : Int) > 8)))) fun k5 =>
      cond b2
        (k5 true)
        ((slices_ContainsFunc_Row_f164 n p0.marks p0).bind fun y12 =>
        k5 y12)) fun k3 =>
  cond y1
    (k3 true)
    ((ideal_Check_1 n p0.begun p0).bind fun y13 =>
    k3 y13)
@[reducible] def ideal_Check_ct : Ct tab := ⟨155, [.st 12], [], [.one (.d (.int .i64))], [], Int, fun y => (y, ()), fun y => y.1, fun _ => rfl, fun n x => ideal_Check n x.1⟩
theorem ideal_Check_ok : OkC Tryz.prog tab ideal_Check_ct := fn_ok (W := ⟨Tryz.prog, tab, tyOf, [ideal_Check_1_ct, slices_ContainsFunc_Row_f164_ct], addO, dpO, false⟩) ⟨tabOk, ⟨ideal_Check_1_ok, slices_ContainsFunc_Row_f164_ok, trivial⟩, addOk⟩ (by kernel_rfl) 37 Tryz.f155 (.n) Tryz.func155 Tryz.call155 rfl (by kernel_rfl) (by kernel_rfl) (by kernel_rfl) fun n x => by kernel_rfl

/-! bursary ideal.step -/
def ideal_step_j1 (n : Nat) : Serial × Serial × Answer × Unit → Option (Serial × Answer) := fun ⟨v20, v21, v22, _⟩ =>
    some (v20, (Answer.mk 0 ([] : List Row) 0))
def ideal_step_j2 (n : Nat) (j1 : Serial × Serial × Answer × Unit → Option (Serial × Answer)) : Serial × Serial × Answer × Unit → Option (Serial × Answer) := fun ⟨v31, v32, v33, _⟩ =>
    j1 (v31, v32, v33, ())
def ideal_step_j3 (n : Nat) (j2 : Serial × Serial × Answer × Unit → Option (Serial × Answer)) : Serial × Serial × Answer × Unit → Option (Serial × Answer) := fun ⟨v35, v36, v37, _⟩ =>
    j2 (v35, v36, v37, ())
def ideal_step (n : Nat) (p0 : Serial) (p1 : Request) : Option (Serial × Answer) :=
  cond (p1.kind == 9)
    (cond ((p0.marks.length : Int) == 8)
      (some (p0, (Answer.mk 6 ([] : List Row) 0)))
      ((sub3 p0.marks (p0.marks.length : Int) (p0.marks.length : Int)).bind fun l1 =>
      (slices_Clone_Row n p0.rows).bind fun y2 =>
      (app 24 l1 ([y2] : List (List Row))).bind fun l3 =>
      some ((Serial.mk p0.schema p0.rows p0.begun l3 p0.over), (Answer.mk 0 ([] : List Row) (IntKind.wrap .i64 ((p0.marks.length : Int) + 1))))))
    (jn (ideal_step_j1 n) fun j1 =>
    cond (p1.kind == 10)
      (cond (decide (p1.n > (p0.marks.length : Int)))
        (some (p0, (Answer.mk 4 ([] : List Row) 0)))
        ((idx p0.marks (IntKind.wrap .i64 (p1.n - 1))).bind fun x23 =>
        (slices_Clone_Row n x23).bind fun y24 =>
        (sub3 p0.marks p1.n p1.n).bind fun l25 =>
        j1 ((Serial.mk p0.schema y24 p0.begun l25 p0.over), (Serial.mk (Schema.mk ([] : List Bounds)) ([] : List Row) ([] : List Row) ([] : List (List Row)) false), (Answer.mk 0 ([] : List Row) 0), ())))
      (jn (ideal_step_j2 n j1) fun j2 =>
      cond (p1.kind == 11)
        (j2 ((Serial.mk p0.schema p0.rows p0.begun ([] : List (List Row)) true), (Serial.mk (Schema.mk ([] : List Bounds)) ([] : List Row) ([] : List Row) ([] : List (List Row)) false), (Answer.mk 0 ([] : List Row) 0), ()))
        (jn (ideal_step_j3 n j2) fun j3 =>
        cond (p1.kind == 12)
          ((slices_Clone_Row n p0.begun).bind fun y38 =>
          j3 ((Serial.mk p0.schema y38 p0.begun ([] : List (List Row)) true), (Serial.mk (Schema.mk ([] : List Bounds)) ([] : List Row) ([] : List Row) ([] : List (List Row)) false), (Answer.mk 0 ([] : List Row) 0), ()))
          (j3 (p0, (Serial.mk (Schema.mk ([] : List Bounds)) ([] : List Row) ([] : List Row) ([] : List (List Row)) false), (Answer.mk 0 ([] : List Row) 0), ())))))
@[reducible] def ideal_step_ct : Ct tab := ⟨156, [.st 12, .st 7], [], [.st 12, .st 8], [], (Serial × Answer), fun y => (y.1, y.2, ()), fun y => (y.1, y.2.1), fun _ => rfl, fun n x => ideal_step n x.1 x.2.1⟩
theorem ideal_step_ok : OkC Tryz.prog tab ideal_step_ct := fn_ok (W := ⟨Tryz.prog, tab, tyOf, [slices_Clone_Row_ct], addO, dpO, false⟩) ⟨tabOk, ⟨slices_Clone_Row_ok, trivial⟩, addOk⟩ (by kernel_rfl) 72 Tryz.f156 (.sq (.n) (.sq (.n) (.sq (.sq (.n) (.bk none (.sq (.n) (.cd none (.n) (.sq (.n) (.cd (some ⟨[(2, .one (.box 0 0)), (4, .one (.box 1 0)), (5, .one (.box 2 0))], [.bst 12, .bst 12, .bst 8], []⟩) (.n) (.sq (.n) (.cd (some ⟨[(2, .one (.box 0 0)), (4, .one (.box 1 0)), (5, .one (.box 2 0))], [.bst 12, .bst 12, .bst 8], []⟩) (.n) (.sq (.n) (.cd (some ⟨[(2, .one (.box 0 0)), (4, .one (.box 1 0)), (5, .one (.box 2 0))], [.bst 12, .bst 12, .bst 8], []⟩) (.n) (.n))))))))))) (.n)))) Tryz.func156 Tryz.call156 rfl (by kernel_rfl) (by kernel_rfl) (by kernel_rfl) fun n x => by kernel_rfl

/-!   bursary ideal.turn .read 1 -/
def ideal_turn_read_1 (n : Nat) (p0 : Int) (q1_0 : List Bounds) (q1_1 : Int) (q1_2 : Int) (q1_3 : Int) (q1_4 : Int) (q1_5 : Int) (q1_6 : Int) (q1_7 : ByteArray) (q1_8 : Int) (q2 : List Row) : Option (Answer × (List Bounds) × Int × Int × Int × Int × Int × Int × ByteArray × Int × (List Row)) :=
  (idx q2 p0).bind fun x1 =>
  (idx q2 p0).bind fun x2 =>
  some ((Answer.mk 0 ([x2] : List Row) 0), q1_0, q1_1, q1_2, q1_3, q1_4, q1_5, q1_6, q1_7, q1_8, q2)
@[reducible] def ideal_turn_read_1_ct : Ct tab := ⟨177, [.one (.d (.int .i64)), .one (.box 0 0)], [.box [.box 1 0], .box [.d (.sl (.st 0)), .own 2, .d (.int .i64), .d (.int .i64), .d (.int .u16), .d (.int .i64), .d (.int .u16), .d (.int .i64), .d .str, .d (.int .i64)], .row 102 (.st 6)], [.st 8], [(some 0, .box [.box 1 0]), (some 1, .box [.d (.sl (.st 0)), .own 2, .d (.int .i64), .d (.int .i64), .d (.int .u16), .d (.int .i64), .d (.int .u16), .d (.int .i64), .d .str, .d (.int .i64)]), (none, .row 102 (.st 6))], (Answer × (List Bounds) × Int × Int × Int × Int × Int × Int × ByteArray × Int × (List Row)), fun y => (y.1, y.2.1, y.2.2.1, y.2.2.2.1, y.2.2.2.2.1, y.2.2.2.2.2.1, y.2.2.2.2.2.2.1, y.2.2.2.2.2.2.2.1, y.2.2.2.2.2.2.2.2.1, y.2.2.2.2.2.2.2.2.2.1, y.2.2.2.2.2.2.2.2.2.2, ()), fun y => (y.1, y.2.1, y.2.2.1, y.2.2.2.1, y.2.2.2.2.1, y.2.2.2.2.2.1, y.2.2.2.2.2.2.1, y.2.2.2.2.2.2.2.1, y.2.2.2.2.2.2.2.2.1, y.2.2.2.2.2.2.2.2.2.1, y.2.2.2.2.2.2.2.2.2.2.1), fun _ => rfl, fun n x => ideal_turn_read_1 n x.1 x.2.1 x.2.2.1 x.2.2.2.1 x.2.2.2.2.1 x.2.2.2.2.2.1 x.2.2.2.2.2.2.1 x.2.2.2.2.2.2.2.1 x.2.2.2.2.2.2.2.2.1 x.2.2.2.2.2.2.2.2.2.1 x.2.2.2.2.2.2.2.2.2.2.1⟩
theorem ideal_turn_read_1_ok : OkC Tryz.prog tab ideal_turn_read_1_ct := fn_ok (W := ⟨Tryz.prog, tab, tyOf, [], addO, dpO, false⟩) ⟨tabOk, trivial, addOk⟩ (by kernel_rfl) 13 Tryz.f177 (.n) Tryz.func177 Tryz.call177 rfl (by kernel_rfl) (by kernel_rfl) (by kernel_rfl) fun n x => by kernel_rfl

/-! bursary row.Find 1 -/
def row_Find_1 (n : Nat) (p0 : Row) (p1 : Key) : Option Bool :=
  some (Key.eqb p0.key p1)
@[reducible] def row_Find_1_ct : Ct tab := ⟨191, [.st 6, .one (.ro (.st 2))], [], [.one (.d .bool)], [], Bool, fun y => (y, ()), fun y => y.1, fun _ => rfl, fun n x => row_Find_1 n x.1 x.2.1⟩
theorem row_Find_1_ok : OkC Tryz.prog tab row_Find_1_ct := fn_ok (W := ⟨Tryz.prog, tab, tyOf, [], addO, dpO, false⟩) ⟨tabOk, trivial, addOk⟩ (by kernel_rfl) 8 Tryz.f191 (.n) Tryz.func191 Tryz.call191 rfl (by kernel_rfl) (by kernel_rfl) (by kernel_rfl) fun n x => by kernel_rfl

/-! slices.IndexFunc   bursary api.Row bursary api.Row  -/
def slices_IndexFunc_Row_1_f191_l1 (n : Nat) : Nat → (List Row) × Key × Int × Int × Unit → Option Int := loopF fun r1 ⟨v1, v2, v3, v4, _⟩ =>
    cond (decide (v4 < v3))
      ((idx v1 v4).bind fun x5 =>
      (row_Find_1 n x5 v2).bind fun y6 =>
      cond y6
        (some v4)
        (r1 (v1, v2, v3, (IntKind.wrap .i64 (v4 + 1)), ())))
      (some (-1))
def slices_IndexFunc_Row_1_f191 (n : Nat) (p0 : List Row) (p1 : Key) : Option Int :=
  slices_IndexFunc_Row_1_f191_l1 n n (p0, p1, (p0.length : Int), 0, ())
@[reducible] def slices_IndexFunc_Row_1_f191_ct : Ct tab := ⟨190, [.one (.d (.sl (.st 6))), .one (.fn 191 [.ro (.st 2)])], [], [.one (.d (.int .i64))], [], Int, fun y => (y, ()), fun y => y.1, fun _ => rfl, fun n x => slices_IndexFunc_Row_1_f191 n x.1 x.2.1⟩
theorem slices_IndexFunc_Row_1_f191_ok : OkC Tryz.prog tab slices_IndexFunc_Row_1_f191_ct := fn_ok (W := ⟨Tryz.prog, tab, tyOf, [row_Find_1_ct], addO, dpO, false⟩) ⟨tabOk, ⟨row_Find_1_ok, trivial⟩, addOk⟩ (by kernel_rfl) 19 Tryz.f190 (.sq (.n) (.sq (.sq (.n) (.bk none (.lp ⟨[(0, .one (.d (.sl (.st 6)))), (1, .one (.fn 191 [.ro (.st 2)])), (7, .one (.d (.int .i64))), (8, .one (.d (.int .i64)))], [], []⟩ (.n)))) (.n))) Tryz.func190 Tryz.call190 rfl (by kernel_rfl) (by kernel_rfl) (by kernel_rfl) fun n x => by kernel_rfl

/-! bursary row.Find -/
def row_Find (n : Nat) (p0 : List Row) (p1 : Key) : Option (Int × Bool) :=
  (slices_IndexFunc_Row_1_f191 n p0 p1).bind fun y1 =>
  some ((if 0 > y1 then 0 else y1), (decide (y1 ≥ 0)))
@[reducible] def row_Find_ct : Ct tab := ⟨180, [.one (.d (.sl (.st 6))), .st 2], [], [.one (.d (.int .i64)), .one (.d .bool)], [], (Int × Bool), fun y => (y.1, y.2, ()), fun y => (y.1, y.2.1), fun _ => rfl, fun n x => row_Find n x.1 x.2.1⟩
theorem row_Find_ok : OkC Tryz.prog tab row_Find_ct := fn_ok (W := ⟨Tryz.prog, tab, tyOf, [slices_IndexFunc_Row_1_f191_ct], addO, dpO, false⟩) ⟨tabOk, ⟨slices_IndexFunc_Row_1_f191_ok, trivial⟩, addOk⟩ (by kernel_rfl) 14 Tryz.f180 (.n) Tryz.func180 Tryz.call180 rfl (by kernel_rfl) (by kernel_rfl) (by kernel_rfl) fun n x => by kernel_rfl

/-!   bursary ideal.turn .found -/
def ideal_turn_found_f177 (n : Nat) (p1 : Key) (q0_0 : List Bounds) (q0_1 : Int) (q0_2 : Int) (q0_3 : Int) (q0_4 : Int) (q0_5 : Int) (q0_6 : Int) (q0_7 : ByteArray) (q0_8 : Int) (q1 : List Row) : Option (Answer × (List Bounds) × Int × Int × Int × Int × Int × Int × ByteArray × Int × (List Row)) :=
  (row_Find n q1 p1).bind fun y1 =>
  cond (!y1.2)
    (some ((Answer.mk 4 ([] : List Row) 0), q0_0, q0_1, q0_2, q0_3, q0_4, q0_5, q0_6, q0_7, q0_8, q1))
    ((ideal_turn_read_1 n y1.1 q0_0 q0_1 q0_2 q0_3 q0_4 q0_5 q0_6 q0_7 q0_8 q1).bind fun y2 =>
    some (y2.1, y2.2.1, y2.2.2.1, y2.2.2.2.1, y2.2.2.2.2.1, y2.2.2.2.2.2.1, y2.2.2.2.2.2.2.1, y2.2.2.2.2.2.2.2.1, y2.2.2.2.2.2.2.2.2.1, y2.2.2.2.2.2.2.2.2.2.1, y2.2.2.2.2.2.2.2.2.2.2))
@[reducible] def ideal_turn_found_f177_ct : Ct tab := ⟨176, [.one (.box 0 0), .st 2, .one (.fn 177 [.bx 2])], [.box [.d (.sl (.st 0)), .own 1, .d (.int .i64), .d (.int .i64), .d (.int .u16), .d (.int .i64), .d (.int .u16), .d (.int .i64), .d .str, .d (.int .i64)], .row 102 (.st 6), .box [.box 0 0]], [.st 8], [(some 0, .box [.d (.sl (.st 0)), .own 2, .d (.int .i64), .d (.int .i64), .d (.int .u16), .d (.int .i64), .d (.int .u16), .d (.int .i64), .d .str, .d (.int .i64)]), (some 2, .box [.box 0 0]), (none, .row 102 (.st 6))], (Answer × (List Bounds) × Int × Int × Int × Int × Int × Int × ByteArray × Int × (List Row)), fun y => (y.1, y.2.1, y.2.2.1, y.2.2.2.1, y.2.2.2.2.1, y.2.2.2.2.2.1, y.2.2.2.2.2.2.1, y.2.2.2.2.2.2.2.1, y.2.2.2.2.2.2.2.2.1, y.2.2.2.2.2.2.2.2.2.1, y.2.2.2.2.2.2.2.2.2.2, ()), fun y => (y.1, y.2.1, y.2.2.1, y.2.2.2.1, y.2.2.2.2.1, y.2.2.2.2.2.1, y.2.2.2.2.2.2.1, y.2.2.2.2.2.2.2.1, y.2.2.2.2.2.2.2.2.1, y.2.2.2.2.2.2.2.2.2.1, y.2.2.2.2.2.2.2.2.2.2.1), fun _ => rfl, fun n x => ideal_turn_found_f177 n x.1 x.2.1 x.2.2.1 x.2.2.2.1 x.2.2.2.2.1 x.2.2.2.2.2.1 x.2.2.2.2.2.2.1 x.2.2.2.2.2.2.2.1 x.2.2.2.2.2.2.2.2.1 x.2.2.2.2.2.2.2.2.2.1 x.2.2.2.2.2.2.2.2.2.2.1⟩
theorem ideal_turn_found_f177_ok : OkC Tryz.prog tab ideal_turn_found_f177_ct := fn_ok (W := ⟨Tryz.prog, tab, tyOf, [row_Find_ct, ideal_turn_read_1_ct], addO, dpO, false⟩) ⟨tabOk, ⟨row_Find_ok, ideal_turn_read_1_ok, trivial⟩, addOk⟩ (by kernel_rfl) 24 Tryz.f176 (.n) Tryz.func176 Tryz.call176 rfl (by kernel_rfl) (by kernel_rfl) (by kernel_rfl) fun n x => by kernel_rfl

/-!   bursary ideal.turn .read -/
def ideal_turn_read (n : Nat) (q0_0 : List Bounds) (q0_1 : Int) (q0_2 : Int) (q0_3 : Int) (q0_4 : Int) (q0_5 : Int) (q0_6 : Int) (q0_7 : ByteArray) (q0_8 : Int) (q1 : List Row) : Option (Answer × (List Bounds) × Int × Int × Int × Int × Int × Int × ByteArray × Int × (List Row)) :=
  (ideal_turn_found_f177 n (Key.mk q0_2 q0_3) q0_0 q0_1 q0_2 q0_3 q0_4 q0_5 q0_6 q0_7 q0_8 q1).bind fun y1 =>
  some (y1.1, y1.2.1, y1.2.2.1, y1.2.2.2.1, y1.2.2.2.2.1, y1.2.2.2.2.2.1, y1.2.2.2.2.2.2.1, y1.2.2.2.2.2.2.2.1, y1.2.2.2.2.2.2.2.2.1, y1.2.2.2.2.2.2.2.2.2.1, y1.2.2.2.2.2.2.2.2.2.2)
@[reducible] def ideal_turn_read_ct : Ct tab := ⟨166, [.one (.box 0 0)], [.box [.d (.sl (.st 0)), .own 1, .d (.int .i64), .d (.int .i64), .d (.int .u16), .d (.int .i64), .d (.int .u16), .d (.int .i64), .d .str, .d (.int .i64)], .row 102 (.st 6)], [.st 8], [(some 0, .box [.d (.sl (.st 0)), .own 1, .d (.int .i64), .d (.int .i64), .d (.int .u16), .d (.int .i64), .d (.int .u16), .d (.int .i64), .d .str, .d (.int .i64)]), (none, .row 102 (.st 6))], (Answer × (List Bounds) × Int × Int × Int × Int × Int × Int × ByteArray × Int × (List Row)), fun y => (y.1, y.2.1, y.2.2.1, y.2.2.2.1, y.2.2.2.2.1, y.2.2.2.2.2.1, y.2.2.2.2.2.2.1, y.2.2.2.2.2.2.2.1, y.2.2.2.2.2.2.2.2.1, y.2.2.2.2.2.2.2.2.2.1, y.2.2.2.2.2.2.2.2.2.2, ()), fun y => (y.1, y.2.1, y.2.2.1, y.2.2.2.1, y.2.2.2.2.1, y.2.2.2.2.2.1, y.2.2.2.2.2.2.1, y.2.2.2.2.2.2.2.1, y.2.2.2.2.2.2.2.2.1, y.2.2.2.2.2.2.2.2.2.1, y.2.2.2.2.2.2.2.2.2.2.1), fun _ => rfl, fun n x => ideal_turn_read n x.1 x.2.1 x.2.2.1 x.2.2.2.1 x.2.2.2.2.1 x.2.2.2.2.2.1 x.2.2.2.2.2.2.1 x.2.2.2.2.2.2.2.1 x.2.2.2.2.2.2.2.2.1 x.2.2.2.2.2.2.2.2.2.1⟩
theorem ideal_turn_read_ok : OkC Tryz.prog tab ideal_turn_read_ct := fn_ok (W := ⟨Tryz.prog, tab, tyOf, [ideal_turn_found_f177_ct], addO, dpO, false⟩) ⟨tabOk, ⟨ideal_turn_found_f177_ok, trivial⟩, addOk⟩ (by kernel_rfl) 11 Tryz.f166 (.n) Tryz.func166 Tryz.call166 rfl (by kernel_rfl) (by kernel_rfl) (by kernel_rfl) fun n x => by kernel_rfl

/-! bursary row.Of -/
def row_Of_j2 (n : Nat) (r1 : Int × (List Row) × Int × Int × (List Row) × Unit → Option ((List Row))) : Int × (List Row) × Int × Int × (List Row) × Unit → Option ((List Row)) := fun ⟨v8, v9, v10, v11, v12, _⟩ =>
    r1 (v8, v9, v10, (IntKind.wrap .i64 (v11 + 1)), v12, ())
def row_Of_l1 (n : Nat) : Nat → Int × (List Row) × Int × Int × (List Row) × Unit → Option ((List Row)) := loopF fun r1 ⟨v1, v2, v3, v4, v5, _⟩ =>
    cond (decide (v4 < v3))
      ((idx v2 v4).bind fun x6 =>
      jn (row_Of_j2 n r1) fun j2 =>
      cond (x6.key.table == v1)
        ((app 40 v5 ([x6] : List Row)).bind fun l13 =>
        j2 (v1, v2, v3, v4, l13, ()))
        (j2 (v1, v2, v3, v4, v5, ())))
      (some v5)
def row_Of (n : Nat) (p0 : List Row) (p1 : Int) : Option ((List Row)) :=
  row_Of_l1 n n (p1, p0, (p0.length : Int), 0, ([] : List Row), ())
@[reducible] def row_Of_ct : Ct tab := ⟨178, [.one (.d (.sl (.st 6))), .one (.d (.int .i64))], [], [.one (.own 0)], [(none, .row 102 (.st 6))], ((List Row)), fun y => (y, ()), fun y => y.1, fun _ => rfl, fun n x => row_Of n x.1 x.2.1⟩
theorem row_Of_ok : OkC Tryz.prog tab row_Of_ct := fn_ok (W := ⟨Tryz.prog, tab, tyOf, [], addO, dpO, false⟩) ⟨tabOk, trivial, addOk⟩ (by kernel_rfl) 25 Tryz.f178 (.sq (.n) (.sq (.n) (.sq (.sq (.n) (.bk none (.lp ⟨[(1, .one (.d (.int .i64))), (5, .one (.own 0)), (8, .one (.d (.sl (.st 6)))), (9, .one (.d (.int .i64))), (10, .one (.d (.int .i64)))], [.row 102 (.st 6)], []⟩ (.sq (.n) (.sq (.n) (.sq (.bk none (.sq (.n) (.sq (.n) (.cd (some ⟨[(1, .one (.d (.int .i64))), (5, .one (.own 0)), (8, .one (.d (.sl (.st 6)))), (9, .one (.d (.int .i64))), (10, .one (.d (.int .i64)))], [.row 102 (.st 6)], []⟩) (.n) (.n))))) (.n))))))) (.n)))) Tryz.func178 Tryz.call178 rfl (by kernel_rfl) (by kernel_rfl) (by kernel_rfl) fun n x => by kernel_rfl

/-!   bursary ideal.turn .scan -/
def ideal_turn_scan (n : Nat) (q0_0 : List Bounds) (q0_1 : Int) (q0_2 : Int) (q0_3 : Int) (q0_4 : Int) (q0_5 : Int) (q0_6 : Int) (q0_7 : ByteArray) (q0_8 : Int) (q1 : List Row) : Option (Answer × (List Bounds) × Int × Int × Int × Int × Int × Int × ByteArray × Int × (List Row)) :=
  (row_Of n q1 q0_2).bind fun y1 =>
  some ((Answer.mk 0 y1 0), q0_0, q0_1, q0_2, q0_3, q0_4, q0_5, q0_6, q0_7, q0_8, q1)
@[reducible] def ideal_turn_scan_ct : Ct tab := ⟨167, [.one (.box 0 0)], [.box [.d (.sl (.st 0)), .own 1, .d (.int .i64), .d (.int .i64), .d (.int .u16), .d (.int .i64), .d (.int .u16), .d (.int .i64), .d .str, .d (.int .i64)], .row 102 (.st 6)], [.st 8], [(some 0, .box [.d (.sl (.st 0)), .own 1, .d (.int .i64), .d (.int .i64), .d (.int .u16), .d (.int .i64), .d (.int .u16), .d (.int .i64), .d .str, .d (.int .i64)]), (none, .row 102 (.st 6))], (Answer × (List Bounds) × Int × Int × Int × Int × Int × Int × ByteArray × Int × (List Row)), fun y => (y.1, y.2.1, y.2.2.1, y.2.2.2.1, y.2.2.2.2.1, y.2.2.2.2.2.1, y.2.2.2.2.2.2.1, y.2.2.2.2.2.2.2.1, y.2.2.2.2.2.2.2.2.1, y.2.2.2.2.2.2.2.2.2.1, y.2.2.2.2.2.2.2.2.2.2, ()), fun y => (y.1, y.2.1, y.2.2.1, y.2.2.2.1, y.2.2.2.2.1, y.2.2.2.2.2.1, y.2.2.2.2.2.2.1, y.2.2.2.2.2.2.2.1, y.2.2.2.2.2.2.2.2.1, y.2.2.2.2.2.2.2.2.2.1, y.2.2.2.2.2.2.2.2.2.2.1), fun _ => rfl, fun n x => ideal_turn_scan n x.1 x.2.1 x.2.2.1 x.2.2.2.1 x.2.2.2.2.1 x.2.2.2.2.2.1 x.2.2.2.2.2.2.1 x.2.2.2.2.2.2.2.1 x.2.2.2.2.2.2.2.2.1 x.2.2.2.2.2.2.2.2.2.1⟩
theorem ideal_turn_scan_ok : OkC Tryz.prog tab ideal_turn_scan_ct := fn_ok (W := ⟨Tryz.prog, tab, tyOf, [row_Of_ct], addO, dpO, false⟩) ⟨tabOk, ⟨row_Of_ok, trivial⟩, addOk⟩ (by kernel_rfl) 15 Tryz.f167 (.n) Tryz.func167 Tryz.call167 rfl (by kernel_rfl) (by kernel_rfl) (by kernel_rfl) fun n x => by kernel_rfl

/-!   bursary ideal.turn .fits -/
def ideal_turn_fits (n : Nat) (p1 : Key) (p2 : Int) (q0_0 : List Bounds) (q0_1 : Int) (q0_2 : Int) (q0_3 : Int) (q0_4 : Int) (q0_5 : Int) (q0_6 : Int) (q0_7 : ByteArray) (q0_8 : Int) (q1 : List Row) : Option (Bool × (List Bounds) × Int × Int × Int × Int × Int × Int × ByteArray × Int × (List Row)) :=
  (idx q0_0 p1.table).bind fun x1 =>
  jn (fun (b2 : Bool) =>
      some (b2, q0_0, q0_1, q0_2, q0_3, q0_4, q0_5, q0_6, q0_7, q0_8, q1)) fun k3 =>
  cond (decide (p2 ≥ x1.min))
    (k3 (decide (p2 ≤ x1.max)))
    (k3 false)
@[reducible] def ideal_turn_fits_ct : Ct tab := ⟨179, [.one (.box 0 0), .st 2, .one (.d (.int .i64))], [.box [.d (.sl (.st 0)), .own 1, .d (.int .i64), .d (.int .i64), .d (.int .u16), .d (.int .i64), .d (.int .u16), .d (.int .i64), .d .str, .d (.int .i64)], .row 102 (.st 6)], [.one (.d .bool)], [(some 0, .box [.d (.sl (.st 0)), .own 1, .d (.int .i64), .d (.int .i64), .d (.int .u16), .d (.int .i64), .d (.int .u16), .d (.int .i64), .d .str, .d (.int .i64)]), (none, .row 102 (.st 6))], (Bool × (List Bounds) × Int × Int × Int × Int × Int × Int × ByteArray × Int × (List Row)), fun y => (y.1, y.2.1, y.2.2.1, y.2.2.2.1, y.2.2.2.2.1, y.2.2.2.2.2.1, y.2.2.2.2.2.2.1, y.2.2.2.2.2.2.2.1, y.2.2.2.2.2.2.2.2.1, y.2.2.2.2.2.2.2.2.2.1, y.2.2.2.2.2.2.2.2.2.2, ()), fun y => (y.1, y.2.1, y.2.2.1, y.2.2.2.1, y.2.2.2.2.1, y.2.2.2.2.2.1, y.2.2.2.2.2.2.1, y.2.2.2.2.2.2.2.1, y.2.2.2.2.2.2.2.2.1, y.2.2.2.2.2.2.2.2.2.1, y.2.2.2.2.2.2.2.2.2.2.1), fun _ => rfl, fun n x => ideal_turn_fits n x.1 x.2.1 x.2.2.1 x.2.2.2.1 x.2.2.2.2.1 x.2.2.2.2.2.1 x.2.2.2.2.2.2.1 x.2.2.2.2.2.2.2.1 x.2.2.2.2.2.2.2.2.1 x.2.2.2.2.2.2.2.2.2.1 x.2.2.2.2.2.2.2.2.2.2.1 x.2.2.2.2.2.2.2.2.2.2.2.1⟩
theorem ideal_turn_fits_ok : OkC Tryz.prog tab ideal_turn_fits_ct := fn_ok (W := ⟨Tryz.prog, tab, tyOf, [], addO, dpO, false⟩) ⟨tabOk, trivial, addOk⟩ (by kernel_rfl) 27 Tryz.f179 (.n) Tryz.func179 Tryz.call179 rfl (by kernel_rfl) (by kernel_rfl) (by kernel_rfl) fun n x => by kernel_rfl

/-! bursary row.place 1 -/
def row_place_1 (n : Nat) (p0 : Row) (p1 : Key) : Option Int :=
  (row_Compare n p0.key p1).bind fun y1 =>
  some y1
@[reducible] def row_place_1_ct : Ct tab := ⟨196, [.st 6, .st 2], [], [.one (.d (.int .i64))], [], Int, fun y => (y, ()), fun y => y.1, fun _ => rfl, fun n x => row_place_1 n x.1 x.2.1⟩
theorem row_place_1_ok : OkC Tryz.prog tab row_place_1_ct := fn_ok (W := ⟨Tryz.prog, tab, tyOf, [row_Compare_ct], addO, dpO, false⟩) ⟨tabOk, ⟨row_Compare_ok, trivial⟩, addOk⟩ (by kernel_rfl) 9 Tryz.f196 (.n) Tryz.func196 Tryz.call196 rfl (by kernel_rfl) (by kernel_rfl) (by kernel_rfl) fun n x => by kernel_rfl

/-! slices.BinarySearchFunc   bursary api.Row bursary api.Row bursary api.Key  -/
def slices_BinarySearchFunc_Key_f196_j2 (n : Nat) (r1 : (List Row) × Int × Int × Int × Key × Unit → Option (Int × Bool)) : (List Row) × Int × Int × Int × Key × Unit → Option (Int × Bool) := fun ⟨v9, v10, v11, v12, v13, _⟩ =>
    r1 (v9, v10, v11, v12, v13, ())
def slices_BinarySearchFunc_Key_f196_l1 (n : Nat) : Nat → (List Row) × Int × Int × Int × Key × Unit → Option (Int × Bool) := loopF fun r1 ⟨v1, v2, v3, v4, v5, _⟩ =>
    cond (decide (v3 < v4))
      ((shrP .u64 (IntKind.wrap .u64 (IntKind.wrap .i64 (v3 + v4))) 1).bind fun z6 =>
      (idx v1 (IntKind.wrap .i64 z6)).bind fun x7 =>
      (row_place_1 n x7 v5).bind fun y8 =>
      jn (slices_BinarySearchFunc_Key_f196_j2 n r1) fun j2 =>
      cond (decide (y8 < 0))
        (j2 (v1, v2, (IntKind.wrap .i64 ((IntKind.wrap .i64 z6) + 1)), v4, v5, ()))
        (j2 (v1, v2, v3, (IntKind.wrap .i64 z6), v5, ())))
      (jn (fun (b14 : Bool) =>
          some (v3, b14)) fun k15 =>
      cond (decide (v3 < v2))
        ((idx v1 v3).bind fun x16 =>
        (row_place_1 n x16 v5).bind fun y17 =>
        k15 (y17 == 0))
        (k15 false))
def slices_BinarySearchFunc_Key_f196 (n : Nat) (p0 : List Row) (p1 : Key) : Option (Int × Bool) :=
  slices_BinarySearchFunc_Key_f196_l1 n n (p0, (p0.length : Int), 0, (p0.length : Int), p1, ())
@[reducible] def slices_BinarySearchFunc_Key_f196_ct : Ct tab := ⟨195, [.one (.d (.sl (.st 6))), .st 2, .one (.fn 196 [])], [], [.one (.d (.int .i64)), .one (.d .bool)], [], (Int × Bool), fun y => (y.1, y.2, ()), fun y => (y.1, y.2.1), fun _ => rfl, fun n x => slices_BinarySearchFunc_Key_f196 n x.1 x.2.1⟩
theorem slices_BinarySearchFunc_Key_f196_ok : OkC Tryz.prog tab slices_BinarySearchFunc_Key_f196_ct := fn_ok (W := ⟨Tryz.prog, tab, tyOf, [row_place_1_ct], addO, dpO, false⟩) ⟨tabOk, ⟨row_place_1_ok, trivial⟩, addOk⟩ (by kernel_rfl) 49 Tryz.f195 (.sq (.n) (.sq (.n) (.sq (.n) (.sq (.bk none (.lp ⟨[(0, .one (.d (.sl (.st 6)))), (2, .one (.fn 196 [])), (4, .one (.box 0 0)), (8, .one (.d (.int .i64))), (9, .one (.d (.int .i64))), (10, .one (.d (.int .i64)))], [.bst 2], []⟩ (.sq (.n) (.bk none (.sq (.n) (.sq (.n) (.cd (some ⟨[(0, .one (.d (.sl (.st 6)))), (2, .one (.fn 196 [])), (4, .one (.box 0 0)), (8, .one (.d (.int .i64))), (9, .one (.d (.int .i64))), (10, .one (.d (.int .i64)))], [.bst 2], []⟩) (.n) (.n)))))))) (.n))))) Tryz.func195 Tryz.call195 rfl (by kernel_rfl) (by kernel_rfl) (by kernel_rfl) fun n x => by kernel_rfl

end
end Go.Proofs.YtegnflodgnfffaaGreat
