/- Functions of the program: plain twins and their contracts, printed by program. -/
import Derived.Test.YtegnflodgnfffaaTypes
namespace Go.Proofs.Ytegnflodgnfffaa
open Go Go.Bur Go.RowKit
set_option linter.unusedVariables false
set_option linter.unusedSimpArgs false
set_option maxRecDepth 100000
noncomputable section
/-! bursary bursarylaw27.one -/
def law27_one (n : Nat) (p0 : Int) : Option (Schema × (List Row)) :=
  some ((Schema.mk ([(Bounds.mk 0 10)] : List Bounds)), ([(Row.mk (Key.mk 0 1) p0 ByteArray.empty)] : List Row))
@[reducible] def law27_one_ct : Ct tab := ⟨22, [.one (.d (.int .i64))], [], [.st 1, .one (.own 0)], [(none, .row 67 (.st 3))], (Schema × (List Row)), fun y => (y.1, y.2, ()), fun y => (y.1, y.2.1), fun _ => rfl, fun n x => law27_one n x.1⟩
theorem law27_one_ok : OkC Try.prog tab law27_one_ct := fn_ok (W := ⟨Try.prog, tab, tyOf, []⟩) ⟨tabOk, trivial⟩ (by kernel_rfl) 11 Try.f22 (.n) Try.func22 Try.call22 rfl (by kernel_rfl) (by kernel_rfl) (by kernel_rfl) fun n x => by kernel_rfl

/-! bursary bursarylaw27.add -/
def law27_add (n : Nat) (p0 : Int) (p1 : Int) : Option Entry :=
  some (Entry.mk p0 (Request.mk 7 (Key.mk 0 1) (Key.mk 0 0) p1 ByteArray.empty 0) (Answer.mk 0 ([] : List Row) 0))
@[reducible] def law27_add_ct : Ct tab := ⟨23, [.one (.d (.int .i64)), .one (.d (.int .i64))], [], [.st 6], [], Entry, fun y => (y, ()), fun y => y.1, fun _ => rfl, fun n x => law27_add n x.1 x.2.1⟩
theorem law27_add_ok : OkC Try.prog tab law27_add_ct := fn_ok (W := ⟨Try.prog, tab, tyOf, []⟩) ⟨tabOk, trivial⟩ (by kernel_rfl) 10 Try.f23 (.n) Try.func23 Try.call23 rfl (by kernel_rfl) (by kernel_rfl) (by kernel_rfl) fun n x => by kernel_rfl

/-! bursary bursarylaw27.commit -/
def law27_commit (n : Nat) (p0 : Int) : Option Entry :=
  some (Entry.mk p0 (Request.mk 11 (Key.mk 0 0) (Key.mk 0 0) 0 ByteArray.empty 0) (Answer.mk 0 ([] : List Row) 0))
@[reducible] def law27_commit_ct : Ct tab := ⟨24, [.one (.d (.int .i64))], [], [.st 6], [], Entry, fun y => (y, ()), fun y => y.1, fun _ => rfl, fun n x => law27_commit n x.1⟩
theorem law27_commit_ok : OkC Try.prog tab law27_commit_ct := fn_ok (W := ⟨Try.prog, tab, tyOf, []⟩) ⟨tabOk, trivial⟩ (by kernel_rfl) 6 Try.f24 (.n) Try.func24 Try.call24 rfl (by kernel_rfl) (by kernel_rfl) (by kernel_rfl) fun n x => by kernel_rfl

/-! bursary judge.order -/
def judge_order_j2 (n : Nat) (r1 : (List Entry) × Int × Int × (List Int) × Unit → Option ((List Int))) : (List Entry) × Int × Int × (List Int) × Unit → Option ((List Int)) := fun ⟨v8, v9, v10, v11, _⟩ =>
    r1 (v8, v9, (IntKind.wrap .i64 (v10 + 1)), v11, ())
def judge_order_l1 (n : Nat) : Nat → (List Entry) × Int × Int × (List Int) × Unit → Option ((List Int)) := loopF fun r1 ⟨v1, v2, v3, v4, _⟩ =>
    cond (decide (v3 < v2))
      ((idx v1 v3).bind fun x5 =>
      jn (fun (b6 : Bool) =>
          jn (judge_order_j2 n r1) fun j2 =>
          cond b6
            ((app 8 v4 ([x5.txn] : List Int)).bind fun l12 =>
            j2 (v1, v2, v3, l12, ()))
            (j2 (v1, v2, v3, v4, ()))) fun k7 =>
      cond (x5.request.kind == 11)
        (k7 (x5.answer.err == 0))
        (k7 false))
      (some v4)
def judge_order (n : Nat) (p0 : History) : Option ((List Int)) :=
  judge_order_l1 n n (p0.entries, (p0.entries.length : Int), 0, ([] : List Int), ())
@[reducible] def judge_order_ct : Ct tab := ⟨26, [.st 7], [], [.one (.own 0)], [(none, .row 3 (.int .i64))], ((List Int)), fun y => (y, ()), fun y => y.1, fun _ => rfl, fun n x => judge_order n x.1⟩
theorem judge_order_ok : OkC Try.prog tab judge_order_ct := fn_ok (W := ⟨Try.prog, tab, tyOf, []⟩) ⟨tabOk, trivial⟩ (by kernel_rfl) 30 Try.f26 (.sq (.n) (.sq (.n) (.sq (.sq (.n) (.bk none (.lp ⟨[(3, .one (.own 0)), (7, .one (.d (.sl (.st 6)))), (8, .one (.d (.int .i64))), (9, .one (.d (.int .i64)))], [.row 3 (.int .i64)], []⟩ (.sq (.n) (.sq (.n) (.sq (.bk none (.sq (.n) (.sq (.n) (.cd (some ⟨[(3, .one (.own 0)), (7, .one (.d (.sl (.st 6)))), (8, .one (.d (.int .i64))), (9, .one (.d (.int .i64)))], [.row 3 (.int .i64)], []⟩) (.n) (.n))))) (.n))))))) (.n)))) Try.func26 Try.call26 rfl (by kernel_rfl) (by kernel_rfl) (by kernel_rfl) fun n x => by kernel_rfl

/-! bursary row.Check 1 -/
def row_Check_1 (n : Nat) (p0 : Bounds) : Option Bool :=
  some (decide (p0.min > p0.max))
@[reducible] def row_Check_1_ct : Ct tab := ⟨59, [.st 0], [], [.one (.d .bool)], [], Bool, fun y => (y, ()), fun y => y.1, fun _ => rfl, fun n x => row_Check_1 n x.1⟩
theorem row_Check_1_ok : OkC Try.prog tab row_Check_1_ct := fn_ok (W := ⟨Try.prog, tab, tyOf, []⟩) ⟨tabOk, trivial⟩ (by kernel_rfl) 8 Try.f59 (.n) Try.func59 Try.call59 rfl (by kernel_rfl) (by kernel_rfl) (by kernel_rfl) fun n x => by kernel_rfl

/-! slices.IndexFunc   bursary api.Bounds bursary api.Bounds  -/
def slices_IndexFunc_Bounds_f59_l1 (n : Nat) : Nat → (List Bounds) × Int × Int × Unit → Option Int := loopF fun r1 ⟨v1, v2, v3, _⟩ =>
    cond (decide (v3 < v2))
      ((idx v1 v3).bind fun x4 =>
      (row_Check_1 n x4).bind fun y5 =>
      cond y5
        (some v3)
        (r1 (v1, v2, (IntKind.wrap .i64 (v3 + 1)), ())))
      (some (-1))
def slices_IndexFunc_Bounds_f59 (n : Nat) (p0 : List Bounds) : Option Int :=
  slices_IndexFunc_Bounds_f59_l1 n n (p0, (p0.length : Int), 0, ())
@[reducible] def slices_IndexFunc_Bounds_f59_ct : Ct tab := ⟨76, [.one (.d (.sl (.st 0))), .one (.fn 59 [])], [], [.one (.d (.int .i64))], [], Int, fun y => (y, ()), fun y => y.1, fun _ => rfl, fun n x => slices_IndexFunc_Bounds_f59 n x.1⟩
theorem slices_IndexFunc_Bounds_f59_ok : OkC Try.prog tab slices_IndexFunc_Bounds_f59_ct := fn_ok (W := ⟨Try.prog, tab, tyOf, [row_Check_1_ct]⟩) ⟨tabOk, ⟨row_Check_1_ok, trivial⟩⟩ (by kernel_rfl) 19 Try.f76 (.sq (.n) (.sq (.sq (.n) (.bk none (.lp ⟨[(0, .one (.d (.sl (.st 0)))), (1, .one (.fn 59 [])), (7, .one (.d (.int .i64))), (8, .one (.d (.int .i64)))], [], []⟩ (.n)))) (.n))) Try.func76 Try.call76 rfl (by kernel_rfl) (by kernel_rfl) (by kernel_rfl) fun n x => by kernel_rfl

/-! slices.ContainsFunc   bursary api.Bounds bursary api.Bounds  -/
def slices_ContainsFunc_Bounds_f59 (n : Nat) (p0 : List Bounds) : Option Bool :=
  (slices_IndexFunc_Bounds_f59 n p0).bind fun y1 =>
  some (decide (y1 ≥ 0))
@[reducible] def slices_ContainsFunc_Bounds_f59_ct : Ct tab := ⟨60, [.one (.d (.sl (.st 0))), .one (.fn 59 [])], [], [.one (.d .bool)], [], Bool, fun y => (y, ()), fun y => y.1, fun _ => rfl, fun n x => slices_ContainsFunc_Bounds_f59 n x.1⟩
theorem slices_ContainsFunc_Bounds_f59_ok : OkC Try.prog tab slices_ContainsFunc_Bounds_f59_ct := fn_ok (W := ⟨Try.prog, tab, tyOf, [slices_IndexFunc_Bounds_f59_ct]⟩) ⟨tabOk, ⟨slices_IndexFunc_Bounds_f59_ok, trivial⟩⟩ (by kernel_rfl) 9 Try.f60 (.n) Try.func60 Try.call60 rfl (by kernel_rfl) (by kernel_rfl) (by kernel_rfl) fun n x => by kernel_rfl

/-! bursary row.Check -/
def row_Check (n : Nat) (p0 : Schema) : Option Int :=
  jn (fun (b1 : Bool) =>
      jn (fun (b3 : Bool) =>
          cond b3
            (some 150)
            (some 0)) fun k4 =>
      cond b1
        (k4 true)
        ((slices_ContainsFunc_Bounds_f59 n p0.tables).bind fun y5 =>
        k4 y5)) fun k2 =>
  cond (decide ((p0.tables.length : Int) < 1))
    (k2 true)
    (k2 (decide ((p0.tables.length : Int) > 3)))
@[reducible] def row_Check_ct : Ct tab := ⟨46, [.st 1], [], [.one (.d (.int .i64))], [], Int, fun y => (y, ()), fun y => y.1, fun _ => rfl, fun n x => row_Check n x.1⟩
theorem row_Check_ok : OkC Try.prog tab row_Check_ct := fn_ok (W := ⟨Try.prog, tab, tyOf, [slices_ContainsFunc_Bounds_f59_ct]⟩) ⟨tabOk, ⟨slices_ContainsFunc_Bounds_f59_ok, trivial⟩⟩ (by kernel_rfl) 20 Try.f46 (.n) Try.func46 Try.call46 rfl (by kernel_rfl) (by kernel_rfl) (by kernel_rfl) fun n x => by kernel_rfl

/-! bursary row.known -/
def row_known (n : Nat) (p0 : Schema) (p1 : Key) : Option row_rule :=
  jn (fun (b1 : Bool) =>
      some (row_rule.mk b1 151)) fun k2 =>
  cond (decide (p1.table ≥ 0))
    (k2 (decide (p1.table < (p0.tables.length : Int))))
    (k2 false)
@[reducible] def row_known_ct : Ct tab := ⟨74, [.st 1, .st 2], [], [.st 8], [], row_rule, fun y => (y, ()), fun y => y.1, fun _ => rfl, fun n x => row_known n x.1 x.2.1⟩
theorem row_known_ok : OkC Try.prog tab row_known_ct := fn_ok (W := ⟨Try.prog, tab, tyOf, []⟩) ⟨tabOk, trivial⟩ (by kernel_rfl) 17 Try.f74 (.n) Try.func74 Try.call74 rfl (by kernel_rfl) (by kernel_rfl) (by kernel_rfl) fun n x => by kernel_rfl

/-! bursary row.all -/
def row_all_l1 (n : Nat) : Nat → (List row_rule) × Int × Int × Unit → Option Int := loopF fun r1 ⟨v1, v2, v3, _⟩ =>
    cond (decide (v3 < v2))
      ((idx v1 v3).bind fun x4 =>
      cond (!x4.is)
        (some x4.no)
        (r1 (v1, v2, (IntKind.wrap .i64 (v3 + 1)), ())))
      (some 0)
def row_all (n : Nat) (p0 : List row_rule) : Option Int :=
  row_all_l1 n n (p0, (p0.length : Int), 0, ())
@[reducible] def row_all_ct : Ct tab := ⟨49, [.one (.d (.sl (.st 8)))], [], [.one (.d (.int .i64))], [], Int, fun y => (y, ()), fun y => y.1, fun _ => rfl, fun n x => row_all n x.1⟩
theorem row_all_ok : OkC Try.prog tab row_all_ct := fn_ok (W := ⟨Try.prog, tab, tyOf, []⟩) ⟨tabOk, trivial⟩ (by kernel_rfl) 17 Try.f49 (.sq (.n) (.sq (.sq (.n) (.bk none (.lp ⟨[(5, .one (.d (.sl (.st 8)))), (6, .one (.d (.int .i64))), (7, .one (.d (.int .i64)))], [], []⟩ (.n)))) (.n))) Try.func49 Try.call49 rfl (by kernel_rfl) (by kernel_rfl) (by kernel_rfl) fun n x => by kernel_rfl

/-! bursary row.CheckKey -/
def row_CheckKey (n : Nat) (p0 : Schema) (p1 : Key) : Option Int :=
  (row_Check n p0).bind fun y1 =>
  cond (y1 != 0)
    (some y1)
    ((row_known n p0 p1).bind fun y2 =>
    (row_all n ([y2] : List row_rule)).bind fun y3 =>
    some y3)
@[reducible] def row_CheckKey_ct : Ct tab := ⟨54, [.st 1, .st 2], [], [.one (.d (.int .i64))], [], Int, fun y => (y, ()), fun y => y.1, fun _ => rfl, fun n x => row_CheckKey n x.1 x.2.1⟩
theorem row_CheckKey_ok : OkC Try.prog tab row_CheckKey_ct := fn_ok (W := ⟨Try.prog, tab, tyOf, [row_Check_ct, row_known_ct, row_all_ct]⟩) ⟨tabOk, ⟨row_Check_ok, row_known_ok, row_all_ok, trivial⟩⟩ (by kernel_rfl) 16 Try.f54 (.n) Try.func54 Try.call54 rfl (by kernel_rfl) (by kernel_rfl) (by kernel_rfl) fun n x => by kernel_rfl

/-! bursary row.CheckRow -/
def row_CheckRow (n : Nat) (p0 : Schema) (p1 : Row) : Option Int :=
  (row_CheckKey n p0 p1.key).bind fun y1 =>
  cond (y1 != 0)
    (some y1)
    ((idx p0.tables p1.key.table).bind fun x2 =>
    jn (fun (b3 : Bool) =>
        (row_all n ([(row_rule.mk (decide ((p1.note.size : Int) ≤ 8)) 3), (row_rule.mk b3 152)] : List row_rule)).bind fun y5 =>
        some y5) fun k4 =>
    cond (decide (p1.val ≥ x2.min))
      (k4 (decide (p1.val ≤ x2.max)))
      (k4 false))
@[reducible] def row_CheckRow_ct : Ct tab := ⟨47, [.st 1, .st 3], [], [.one (.d (.int .i64))], [], Int, fun y => (y, ()), fun y => y.1, fun _ => rfl, fun n x => row_CheckRow n x.1 x.2.1⟩
theorem row_CheckRow_ok : OkC Try.prog tab row_CheckRow_ct := fn_ok (W := ⟨Try.prog, tab, tyOf, [row_CheckKey_ct, row_all_ct]⟩) ⟨tabOk, ⟨row_CheckKey_ok, row_all_ok, trivial⟩⟩ (by kernel_rfl) 41 Try.f47 (.n) Try.func47 Try.call47 rfl (by kernel_rfl) (by kernel_rfl) (by kernel_rfl) fun n x => by kernel_rfl

/-! cmp.isNaN int  -/
def cmp_isNaN_int (n : Nat) (p0 : Int) : Option Bool :=
  some (p0 != p0)
@[reducible] def cmp_isNaN_int_ct : Ct tab := ⟨77, [.one (.d (.int .i64))], [], [.one (.d .bool)], [], Bool, fun y => (y, ()), fun y => y.1, fun _ => rfl, fun n x => cmp_isNaN_int n x.1⟩
theorem cmp_isNaN_int_ok : OkC Try.prog tab cmp_isNaN_int_ct := fn_ok (W := ⟨Try.prog, tab, tyOf, []⟩) ⟨tabOk, trivial⟩ (by kernel_rfl) 6 Try.f77 (.n) Try.func77 Try.call77 rfl (by kernel_rfl) (by kernel_rfl) (by kernel_rfl) fun n x => by kernel_rfl

/-! cmp.Compare int  -/
def cmp_Compare_int (n : Nat) (p0 : Int) (p1 : Int) : Option Int :=
  (cmp_isNaN_int n p0).bind fun y1 =>
  (cmp_isNaN_int n p1).bind fun y2 =>
  cond y1
    (cond y2
      (some 0)
      (some (-1)))
    (cond y2
      (some 1)
      (cond (decide (p0 < p1))
        (some (-1))
        (cond (decide (p0 > p1))
          (some 1)
          (some 0))))
@[reducible] def cmp_Compare_int_ct : Ct tab := ⟨62, [.one (.d (.int .i64)), .one (.d (.int .i64))], [], [.one (.d (.int .i64))], [], Int, fun y => (y, ()), fun y => y.1, fun _ => rfl, fun n x => cmp_Compare_int n x.1 x.2.1⟩
theorem cmp_Compare_int_ok : OkC Try.prog tab cmp_Compare_int_ct := fn_ok (W := ⟨Try.prog, tab, tyOf, [cmp_isNaN_int_ct]⟩) ⟨tabOk, ⟨cmp_isNaN_int_ok, trivial⟩⟩ (by kernel_rfl) 20 Try.f62 (.n) Try.func62 Try.call62 rfl (by kernel_rfl) (by kernel_rfl) (by kernel_rfl) fun n x => by kernel_rfl

/-! cmp.isNaN uint16  -/
def cmp_isNaN_uint16 (n : Nat) (p0 : Int) : Option Bool :=
  some (p0 != p0)
@[reducible] def cmp_isNaN_uint16_ct : Ct tab := ⟨78, [.one (.d (.int .u16))], [], [.one (.d .bool)], [], Bool, fun y => (y, ()), fun y => y.1, fun _ => rfl, fun n x => cmp_isNaN_uint16 n x.1⟩
theorem cmp_isNaN_uint16_ok : OkC Try.prog tab cmp_isNaN_uint16_ct := fn_ok (W := ⟨Try.prog, tab, tyOf, []⟩) ⟨tabOk, trivial⟩ (by kernel_rfl) 6 Try.f78 (.n) Try.func78 Try.call78 rfl (by kernel_rfl) (by kernel_rfl) (by kernel_rfl) fun n x => by kernel_rfl

/-! cmp.Compare uint16  -/
def cmp_Compare_uint16 (n : Nat) (p0 : Int) (p1 : Int) : Option Int :=
  (cmp_isNaN_uint16 n p0).bind fun y1 =>
  (cmp_isNaN_uint16 n p1).bind fun y2 =>
  cond y1
    (cond y2
      (some 0)
      (some (-1)))
    (cond y2
      (some 1)
      (cond (decide (p0 < p1))
        (some (-1))
        (cond (decide (p0 > p1))
          (some 1)
          (some 0))))
@[reducible] def cmp_Compare_uint16_ct : Ct tab := ⟨63, [.one (.d (.int .u16)), .one (.d (.int .u16))], [], [.one (.d (.int .i64))], [], Int, fun y => (y, ()), fun y => y.1, fun _ => rfl, fun n x => cmp_Compare_uint16 n x.1 x.2.1⟩
theorem cmp_Compare_uint16_ok : OkC Try.prog tab cmp_Compare_uint16_ct := fn_ok (W := ⟨Try.prog, tab, tyOf, [cmp_isNaN_uint16_ct]⟩) ⟨tabOk, ⟨cmp_isNaN_uint16_ok, trivial⟩⟩ (by kernel_rfl) 20 Try.f63 (.n) Try.func63 Try.call63 rfl (by kernel_rfl) (by kernel_rfl) (by kernel_rfl) fun n x => by kernel_rfl

/-! cmp.Or int  -/
def cmp_Or_int_l1 (n : Nat) : Nat → Int × (List Int) × Int × Int × Unit → Option Int := loopF fun r1 ⟨v1, v2, v3, v4, _⟩ =>
    cond (decide (v4 < v3))
      ((idx v2 v4).bind fun x5 =>
      cond (x5 != v1)
        (some x5)
        (r1 (v1, v2, v3, (IntKind.wrap .i64 (v4 + 1)), ())))
      (some v1)
def cmp_Or_int (n : Nat) (p0 : List Int) : Option Int :=
  cmp_Or_int_l1 n n (0, p0, (p0.length : Int), 0, ())
@[reducible] def cmp_Or_int_ct : Ct tab := ⟨61, [.one (.d (.sl (.int .i64)))], [], [.one (.d (.int .i64))], [], Int, fun y => (y, ()), fun y => y.1, fun _ => rfl, fun n x => cmp_Or_int n x.1⟩
theorem cmp_Or_int_ok : OkC Try.prog tab cmp_Or_int_ct := fn_ok (W := ⟨Try.prog, tab, tyOf, []⟩) ⟨tabOk, trivial⟩ (by kernel_rfl) 18 Try.f61 (.sq (.n) (.sq (.n) (.sq (.sq (.n) (.bk none (.lp ⟨[(3, .one (.d (.int .i64))), (6, .one (.d (.sl (.int .i64)))), (7, .one (.d (.int .i64))), (8, .one (.d (.int .i64)))], [], []⟩ (.n)))) (.n)))) Try.func61 Try.call61 rfl (by kernel_rfl) (by kernel_rfl) (by kernel_rfl) fun n x => by kernel_rfl

/-! bursary row.Compare -/
def row_Compare (n : Nat) (p0 : Key) (p1 : Key) : Option Int :=
  (cmp_Compare_int n p0.table p1.table).bind fun y1 =>
  (cmp_Compare_uint16 n p0.id p1.id).bind fun y2 =>
  (cmp_Or_int n ([y1, y2] : List Int)).bind fun y3 =>
  some y3
@[reducible] def row_Compare_ct : Ct tab := ⟨48, [.st 2, .st 2], [], [.one (.d (.int .i64))], [], Int, fun y => (y, ()), fun y => y.1, fun _ => rfl, fun n x => row_Compare n x.1 x.2.1⟩
theorem row_Compare_ok : OkC Try.prog tab row_Compare_ct := fn_ok (W := ⟨Try.prog, tab, tyOf, [cmp_Compare_int_ct, cmp_Compare_uint16_ct, cmp_Or_int_ct]⟩) ⟨tabOk, ⟨cmp_Compare_int_ok, cmp_Compare_uint16_ok, cmp_Or_int_ok, trivial⟩⟩ (by kernel_rfl) 17 Try.f48 (.n) Try.func48 Try.call48 rfl (by kernel_rfl) (by kernel_rfl) (by kernel_rfl) fun n x => by kernel_rfl

/-! bursary row.CheckList -/
def row_CheckList_l1 (n : Nat) : Nat → (List Row) × (List Row) × Int × Int × Schema × Unit → Option Int := loopF fun r1 ⟨v2, v3, v4, v5, v6, _⟩ =>
    cond (decide (v5 < v4))
      ((idx v3 v5).bind fun x7 =>
      (row_CheckRow n v6 x7).bind fun y8 =>
      jn (fun (b9 : Bool) =>
          cond b9
            (some 151)
            (r1 (v2, v3, v4, (IntKind.wrap .i64 (v5 + 1)), v6, ()))) fun k10 =>
      cond (y8 != 0)
        (k10 true)
        (jn (fun (b11 : Bool) =>
            k10 b11) fun k12 =>
        cond (decide (v5 > 0))
          ((idx v2 (IntKind.wrap .i64 (v5 - 1))).bind fun x13 =>
          (row_Compare n x13.key x7.key).bind fun y14 =>
          k12 (decide (y14 ≥ 0)))
          (k12 false)))
      ((row_all n ([(row_rule.mk (decide ((v2.length : Int) ≤ 60)) 151)] : List row_rule)).bind fun y15 =>
      some y15)
def row_CheckList (n : Nat) (p0 : Schema) (p1 : List Row) : Option Int :=
  (row_Check n p0).bind fun y1 =>
  cond (y1 != 0)
    (some y1)
    (row_CheckList_l1 n n (p1, p1, (p1.length : Int), 0, p0, ()))
@[reducible] def row_CheckList_ct : Ct tab := ⟨28, [.st 1, .one (.d (.sl (.st 3)))], [], [.one (.d (.int .i64))], [], Int, fun y => (y, ()), fun y => y.1, fun _ => rfl, fun n x => row_CheckList n x.1 x.2.1⟩
theorem row_CheckList_ok : OkC Try.prog tab row_CheckList_ct := fn_ok (W := ⟨Try.prog, tab, tyOf, [row_Check_ct, row_CheckRow_ct, row_Compare_ct, row_all_ct]⟩) ⟨tabOk, ⟨row_Check_ok, row_CheckRow_ok, row_Compare_ok, row_all_ok, trivial⟩⟩ (by kernel_rfl) 47 Try.f28 (.sq (.n) (.sq (.n) (.sq (.sq (.n) (.bk none (.lp ⟨[(1, .one (.d (.sl (.st 3)))), (2, .one (.box 0 0)), (13, .one (.d (.sl (.st 3)))), (14, .one (.d (.int .i64))), (15, .one (.d (.int .i64)))], [.bst 1], []⟩ (.n)))) (.n)))) Try.func28 Try.call28 rfl (by kernel_rfl) (by kernel_rfl) (by kernel_rfl) fun n x => by kernel_rfl

/-! bursary judge.ends -/
def judge_ends (n : Nat) (p0 : Entry) : Option Bool :=
  jn (fun (b1 : Bool) =>
      jn (fun (b3 : Bool) =>
          jn (fun (b5 : Bool) =>
              some b5) fun k6 =>
          cond b3
            (k6 true)
            (k6 (p0.answer.err == 361))) fun k4 =>
      cond b1
        (k4 (p0.answer.err == 0))
        (k4 false)) fun k2 =>
  cond (p0.request.kind == 11)
    (k2 true)
    (k2 (p0.request.kind == 12))
@[reducible] def judge_ends_ct : Ct tab := ⟨32, [.st 6], [], [.one (.d .bool)], [], Bool, fun y => (y, ()), fun y => y.1, fun _ => rfl, fun n x => judge_ends n x.1⟩
theorem judge_ends_ok : OkC Try.prog tab judge_ends_ct := fn_ok (W := ⟨Try.prog, tab, tyOf, []⟩) ⟨tabOk, trivial⟩ (by kernel_rfl) 27 Try.f32 (.n) Try.func32 Try.call32 rfl (by kernel_rfl) (by kernel_rfl) (by kernel_rfl) fun n x => by kernel_rfl

/-! bursary ideal.bare -/
def ideal_bare_j2 (n : Nat) : Request × Request × Unit → Option Request := fun ⟨v5, v6, _⟩ =>
    some (Request.mk 0 v5.key v5.to v5.val v5.note v5.n)
def ideal_bare_j3 (n : Nat) (j2 : Request × Request × Unit → Option Request) : Request × Request × Unit → Option Request := fun ⟨v7, v8, _⟩ =>
    j2 (v7, v8, ())
def ideal_bare_j4 (n : Nat) (j3 : Request × Request × Unit → Option Request) : Request × Request × Unit → Option Request := fun ⟨v9, v10, _⟩ =>
    j3 (v9, v10, ())
def ideal_bare_j5 (n : Nat) (j4 : Request × Request × Unit → Option Request) : Request × Request × Unit → Option Request := fun ⟨v11, v12, _⟩ =>
    j4 (v11, v12, ())
def ideal_bare_j7 (n : Nat) (j5 : Request × Request × Unit → Option Request) : Request × Request × Unit → Option Request := fun ⟨v17, v18, _⟩ =>
    j5 (v17, v18, ())
def ideal_bare_j8 (n : Nat) (j7 : Request × Request × Unit → Option Request) : Request × Request × Unit → Option Request := fun ⟨v19, v20, _⟩ =>
    j7 (v19, v20, ())
def ideal_bare_j9 (n : Nat) (j8 : Request × Request × Unit → Option Request) : Request × Request × Unit → Option Request := fun ⟨v21, v22, _⟩ =>
    j8 (v21, v22, ())
def ideal_bare_j6 (n : Nat) (j5 : Request × Request × Unit → Option Request) : Int × Bool × Request × Request × Unit → Option Request := fun ⟨v13, v14, v15, v16, _⟩ =>
    jn (ideal_bare_j7 n j5) fun j7 =>
    cond v14
      (j7 ((Request.mk v15.kind (Key.mk 0 0) v15.to 0 v15.note v15.n), v16, ()))
      (jn (ideal_bare_j8 n j7) fun j8 =>
      cond (v13 == 8)
        (j8 ((Request.mk v15.kind (Key.mk 0 0) (Key.mk 0 0) 0 v15.note v15.n), v16, ()))
        (jn (ideal_bare_j9 n j8) fun j9 =>
        cond (v13 == 10)
          (j9 ((Request.mk v15.kind v15.key v15.to v15.val v15.note 0), v16, ()))
          (j9 (v15, v16, ()))))
def ideal_bare_j1 (n : Nat) : Int × Bool × Request × Request × Unit → Option Request := fun ⟨v1, v2, v3, v4, _⟩ =>
    jn (ideal_bare_j2 n) fun j2 =>
    cond v2
      (j2 ((Request.mk v3.kind (Key.mk 0 0) v3.to v3.val v3.note v3.n), v4, ()))
      (jn (ideal_bare_j3 n j2) fun j3 =>
      cond (v1 == 2)
        (j3 ((Request.mk v3.kind (Key.mk 0 v3.key.id) v3.to v3.val v3.note v3.n), v4, ()))
        (jn (ideal_bare_j4 n j3) fun j4 =>
        cond (v1 == 3)
          (j4 ((Request.mk v3.kind (Key.mk 0 0) v3.to 0 (ByteArray.mk #[]) v3.n), v4, ()))
          (jn (ideal_bare_j5 n j4) fun j5 =>
          cond (v1 == 5)
            (j5 ((Request.mk v3.kind (Key.mk 0 0) v3.to v3.val (ByteArray.mk #[]) v3.n), v4, ()))
            (jn (ideal_bare_j6 n j5) fun j6 =>
            cond (v1 == 6)
              (j6 (v1, (v1 == 6), v3, v4, ()))
              (j6 (v1, (v1 == 7), v3, v4, ()))))))
def ideal_bare (n : Nat) (p0 : Request) : Option Request :=
  jn (ideal_bare_j1 n) fun j1 =>
  cond (p0.kind == 1)
    (j1 (p0.kind, (p0.kind == 1), p0, (Request.mk 0 (Key.mk 0 0) (Key.mk 0 0) 0 ByteArray.empty 0), ()))
    (j1 (p0.kind, (p0.kind == 4), p0, (Request.mk 0 (Key.mk 0 0) (Key.mk 0 0) 0 ByteArray.empty 0), ()))
@[reducible] def ideal_bare_ct : Ct tab := ⟨53, [.st 4], [], [.st 4], [], Request, fun y => (y, ()), fun y => y.1, fun _ => rfl, fun n x => ideal_bare n x.1⟩
theorem ideal_bare_ok : OkC Try.prog tab ideal_bare_ct := fn_ok (W := ⟨Try.prog, tab, tyOf, []⟩) ⟨tabOk, trivial⟩ (by kernel_rfl) 43 Try.f53 (.sq (.n) (.sq (.sq (.n) (.bk none (.sq (.sq (.n) (.cd (some ⟨[(1, .one (.box 0 0)), (2, .one (.box 1 0)), (4, .one (.d (.int .i64))), (5, .one (.d .bool))], [.bst 4, .bst 4], []⟩) (.n) (.n))) (.cd (some ⟨[(1, .one (.box 0 0)), (2, .one (.box 1 0))], [.bst 4, .bst 4], []⟩) (.n) (.sq (.n) (.cd (some ⟨[(1, .one (.box 0 0)), (2, .one (.box 1 0))], [.bst 4, .bst 4], []⟩) (.n) (.sq (.n) (.cd (some ⟨[(1, .one (.box 0 0)), (2, .one (.box 1 0))], [.bst 4, .bst 4], []⟩) (.n) (.sq (.n) (.cd (some ⟨[(1, .one (.box 0 0)), (2, .one (.box 1 0))], [.bst 4, .bst 4], []⟩) (.n) (.sq (.sq (.n) (.cd (some ⟨[(1, .one (.box 0 0)), (2, .one (.box 1 0)), (4, .one (.d (.int .i64))), (25, .one (.d .bool))], [.bst 4, .bst 4], []⟩) (.n) (.n))) (.cd (some ⟨[(1, .one (.box 0 0)), (2, .one (.box 1 0))], [.bst 4, .bst 4], []⟩) (.n) (.sq (.n) (.cd (some ⟨[(1, .one (.box 0 0)), (2, .one (.box 1 0))], [.bst 4, .bst 4], []⟩) (.n) (.sq (.n) (.cd (some ⟨[(1, .one (.box 0 0)), (2, .one (.box 1 0))], [.bst 4, .bst 4], []⟩) (.n) (.n))))))))))))))))) (.n))) Try.func53 Try.call53 rfl (by kernel_rfl) (by kernel_rfl) (by kernel_rfl) fun n x => by kernel_rfl

/-! bursary ideal.CheckRequest -/
def ideal_CheckRequest_j1 (n : Nat) : Bool × Unit → Option Int := fun ⟨v12, _⟩ =>
    cond (!v12)
      (some 250)
      (some 0)
def ideal_CheckRequest_j2 (n : Nat) (j1 : Bool × Unit → Option Int) : Bool × Unit → Option Int := fun ⟨v17, _⟩ =>
    j1 (v17, ())
def ideal_CheckRequest (n : Nat) (p0 : Schema) (p1 : Request) : Option Int :=
  (row_Check n p0).bind fun y1 =>
  cond (y1 != 0)
    (some y1)
    (jn (fun (b2 : Bool) =>
        jn (fun (b4 : Bool) =>
            jn (fun (b6 : Bool) =>
                jn (fun (b8 : Bool) =>
                    jn (fun (b10 : Bool) =>
                        jn (ideal_CheckRequest_j1 n) fun j1 =>
                        cond (p1.kind == 8)
                          (jn (fun (b13 : Bool) =>
                              jn (fun (b15 : Bool) =>
                                  j1 (b15, ())) fun k16 =>
                              cond b13
                                (k16 (decide (p1.val ≥ 0)))
                                (k16 false)) fun k14 =>
                          cond b10
                            (k14 (!(Key.eqb p1.key p1.to)))
                            (k14 false))
                          (jn (ideal_CheckRequest_j2 n j1) fun j2 =>
                          cond (p1.kind == 10)
                            (jn (fun (b18 : Bool) =>
                                j2 (b18, ())) fun k19 =>
                            cond b10
                              (k19 (decide (p1.n ≥ 1)))
                              (k19 false))
                            (j2 (b10, ())))) fun k11 =>
                    cond b8
                      ((row_CheckKey n p0 p1.to).bind fun y20 =>
                      k11 (y20 == 0))
                      (k11 false)) fun k9 =>
                cond b6
                  ((row_CheckKey n p0 p1.key).bind fun y21 =>
                  k9 (y21 == 0))
                  (k9 false)) fun k7 =>
            cond b4
              (k7 (decide ((p1.note.size : Int) ≤ 8)))
              (k7 false)) fun k5 =>
        cond b2
          ((ideal_bare n p1).bind fun y22 =>
          k5 (Request.eqb y22 (Request.mk 0 (Key.mk 0 0) (Key.mk 0 0) 0 ByteArray.empty 0)))
          (k5 false)) fun k3 =>
    cond (decide (p1.kind ≥ 1))
      (k3 (decide (p1.kind ≤ 12)))
      (k3 false))
@[reducible] def ideal_CheckRequest_ct : Ct tab := ⟨31, [.st 1, .st 4], [], [.one (.d (.int .i64))], [], Int, fun y => (y, ()), fun y => y.1, fun _ => rfl, fun n x => ideal_CheckRequest n x.1 x.2.1⟩
theorem ideal_CheckRequest_ok : OkC Try.prog tab ideal_CheckRequest_ct := fn_ok (W := ⟨Try.prog, tab, tyOf, [row_Check_ct, row_CheckKey_ct, ideal_bare_ct]⟩) ⟨tabOk, ⟨row_Check_ok, row_CheckKey_ok, ideal_bare_ok, trivial⟩⟩ (by kernel_rfl) 74 Try.f31 (.sq (.n) (.sq (.n) (.sq (.n) (.sq (.n) (.sq (.sq (.n) (.bk none (.sq (.n) (.cd (some ⟨[(6, .one (.d .bool))], [], []⟩) (.n) (.sq (.n) (.cd (some ⟨[(6, .one (.d .bool))], [], []⟩) (.n) (.n))))))) (.n)))))) Try.func31 Try.call31 rfl (by kernel_rfl) (by kernel_rfl) (by kernel_rfl) fun n x => by kernel_rfl

/-! bursary judge.Check -/
def judge_Check_l1 (n : Nat) : Nat → (List Entry) × Int × Int × History × (List (Int × Bool)) × Unit → Option Int := loopF fun r1 ⟨v4, v5, v6, v7, v8, _⟩ =>
    cond (decide (v6 < v5))
      ((idx v4 v6).bind fun x9 =>
      jn (fun (b10 : Bool) =>
          jn (fun (b12 : Bool) =>
              jn (fun (b14 : Bool) =>
                  jn (fun (b16 : Bool) =>
                      cond b16
                        (some 370)
                        ((judge_ends n x9).bind fun y18 =>
                        (mput .i64 v8 x9.txn y18).bind fun l19 =>
                        r1 (v4, v5, (IntKind.wrap .i64 (v6 + 1)), v7, l19, ()))) fun k17 =>
                  cond b14
                    (k17 true)
                    ((row_CheckList n v7.schema x9.answer.rows).bind fun y20 =>
                    k17 (y20 != 0))) fun k15 =>
              cond b12
                (k15 true)
                ((ideal_CheckRequest n v7.schema x9.request).bind fun y21 =>
                k15 (y21 != 0))) fun k13 =>
          cond b10
            (k13 true)
            ((mlook .i64 false v8 x9.txn).bind fun w22 =>
            k13 w22)) fun k11 =>
      cond (decide (x9.txn < 1))
        (k11 true)
        (k11 (decide (x9.txn > 1073741824))))
      (some 0)
def judge_Check (n : Nat) (p0 : History) : Option Int :=
  (row_CheckList n p0.schema p0.begun).bind fun y1 =>
  jn (fun (b2 : Bool) =>
      cond b2
        (some 370)
        (judge_Check_l1 n n (p0.entries, (p0.entries.length : Int), 0, p0, ([] : List (Int × Bool)), ()))) fun k3 =>
  cond (y1 != 0)
    (k3 true)
    (k3 (decide ((p0.entries.length : Int) > 2000)))
@[reducible] def judge_Check_ct : Ct tab := ⟨14, [.st 7], [], [.one (.d (.int .i64))], [], Int, fun y => (y, ()), fun y => y.1, fun _ => rfl, fun n x => judge_Check n x.1⟩
theorem judge_Check_ok : OkC Try.prog tab judge_Check_ct := fn_ok (W := ⟨Try.prog, tab, tyOf, [row_CheckList_ct, judge_ends_ct, ideal_CheckRequest_ct]⟩) ⟨tabOk, ⟨row_CheckList_ok, judge_ends_ok, ideal_CheckRequest_ok, trivial⟩⟩ (by kernel_rfl) 63 Try.f14 (.sq (.n) (.sq (.n) (.sq (.n) (.sq (.sq (.n) (.bk none (.lp ⟨[(1, .one (.box 0 0)), (3, .one (.map 1)), (20, .one (.d (.sl (.st 6)))), (21, .one (.d (.int .i64))), (22, .one (.d (.int .i64)))], [.bst 7, .map .i64 3 4 .bool], []⟩ (.n)))) (.n))))) Try.func14 Try.call14 rfl (by kernel_rfl) (by kernel_rfl) (by kernel_rfl) fun n x => by kernel_rfl

/-! slices.Clone   bursary api.Row bursary api.Row  -/
def slices_Clone_Row (n : Nat) (p0 : List Row) : Option ((List Row)) :=
  nilC p0.isEmpty
    (some ([] : List Row))
    ((app 40 ([] : List Row) p0).bind fun l1 =>
    some l1)
@[reducible] def slices_Clone_Row_ct : Ct tab := ⟨43, [.one (.d (.sl (.st 3)))], [], [.one (.own 0)], [(none, .row 67 (.st 3))], ((List Row)), fun y => (y, ()), fun y => y.1, fun _ => rfl, fun n x => slices_Clone_Row n x.1⟩
theorem slices_Clone_Row_ok : OkC Try.prog tab slices_Clone_Row_ct := fn_ok (W := ⟨Try.prog, tab, tyOf, []⟩) ⟨tabOk, trivial⟩ (by kernel_rfl) 8 Try.f43 (.n) Try.func43 Try.call43 rfl (by kernel_rfl) (by kernel_rfl) (by kernel_rfl) fun n x => by kernel_rfl

/-! bursary ideal.Begin -/
def ideal_Begin (n : Nat) (p0 : Schema) (p1 : List Row) : Option (Serial × Int) :=
  (row_CheckList n p0 p1).bind fun y1 =>
  cond (y1 != 0)
    (some ((Serial.mk (Schema.mk ([] : List Bounds)) ([] : List Row) ([] : List Row) ([] : List (List Row)) false), y1))
    ((slices_Clone_Row n p1).bind fun y2 =>
    (slices_Clone_Row n p1).bind fun y3 =>
    some ((Serial.mk p0 y2 y3 ([] : List (List Row)) false), 0))
@[reducible] def ideal_Begin_ct : Ct tab := ⟨29, [.st 1, .one (.d (.sl (.st 3)))], [], [.st 9, .one (.d (.int .i64))], [], (Serial × Int), fun y => (y.1, y.2, ()), fun y => (y.1, y.2.1), fun _ => rfl, fun n x => ideal_Begin n x.1 x.2.1⟩
theorem ideal_Begin_ok : OkC Try.prog tab ideal_Begin_ct := fn_ok (W := ⟨Try.prog, tab, tyOf, [row_CheckList_ct, slices_Clone_Row_ct]⟩) ⟨tabOk, ⟨row_CheckList_ok, slices_Clone_Row_ok, trivial⟩⟩ (by kernel_rfl) 20 Try.f29 (.n) Try.func29 Try.call29 rfl (by kernel_rfl) (by kernel_rfl) (by kernel_rfl) fun n x => by kernel_rfl

/-! bursary judge.of -/
def judge_of (n : Nat) (p0 : History) (p1 : Int) : Option (History × Int) :=
  some (p0, p1)
@[reducible] def judge_of_ct : Ct tab := ⟨58, [.st 7, .one (.d (.int .i64))], [], [.one (.fn 75 [.bx 0, .bx 1])], [(none, .bst 7), (none, .box [.d (.int .i64)])], (History × Int), fun y => (y.1, y.2, ()), fun y => (y.1, y.2.1), fun _ => rfl, fun n x => judge_of n x.1 x.2.1⟩
theorem judge_of_ok : OkC Try.prog tab judge_of_ct := fn_ok (W := ⟨Try.prog, tab, tyOf, []⟩) ⟨tabOk, trivial⟩ (by kernel_rfl) 6 Try.f58 (.n) Try.func58 Try.call58 rfl (by kernel_rfl) (by kernel_rfl) (by kernel_rfl) fun n x => by kernel_rfl

/-! bursary judge.of 1 -/
def judge_of_1_fyd0_l1 (n : Nat) : Nat → Int × (List Entry) × Int × Int × (HL tabT [.int .i64, .st 6] → HL tabT [.int .i64, .bool, .st 10] → Option (Nat × HL tabT [.int .i64, .bool, .st 10])) × Nat × (HL tabT [.int .i64, .bool, .st 10]) × Unit → Option ((HL tabT [.int .i64, .st 6] → HL tabT [.int .i64, .bool, .st 10] → Option (Nat × HL tabT [.int .i64, .bool, .st 10])) × Nat × (HL tabT [.int .i64, .bool, .st 10])) := loopF fun r1 ⟨v1, v2, v3, v4, v5, v6, v7, _⟩ =>
    cond (decide (v4 < v3))
      ((idx v2 v4).bind fun x8 =>
      cond (x8.txn == v1)
        ((callY v5 v6 (v4, x8, ()) v7).bind fun y9 =>
        cond (!(Nat.beq y9.1 0))
          (some (v5, y9.1, y9.2))
          (r1 (v1, v2, v3, (IntKind.wrap .i64 (v4 + 1)), v5, y9.1, y9.2, ())))
        (cond false
          (some (v5, v6, v7))
          (r1 (v1, v2, v3, (IntKind.wrap .i64 (v4 + 1)), v5, v6, v7, ()))))
      (some (v5, v6, v7))
def judge_of_1_fyd0 (n : Nat) (p1 : History) (p2 : Int) (q0_0 : HL tabT [.int .i64, .st 6] → HL tabT [.int .i64, .bool, .st 10] → Option (Nat × HL tabT [.int .i64, .bool, .st 10])) (q0_1 : Nat) (q0_2 : HL tabT [.int .i64, .bool, .st 10]) : Option ((HL tabT [.int .i64, .st 6] → HL tabT [.int .i64, .bool, .st 10] → Option (Nat × HL tabT [.int .i64, .bool, .st 10])) × Nat × (HL tabT [.int .i64, .bool, .st 10])) :=
  judge_of_1_fyd0_l1 n n (p2, p1.entries, (p1.entries.length : Int), 0, q0_0, q0_1, q0_2, ())
@[reducible] def judge_of_1_fyd0_ct : Ct tab := ⟨75, [.one (.yd 0), .one (.ro (.st 7)), .one (.ro (.int .i64))], [.opq [.int .i64, .st 6] [.int .i64, .bool, .st 10]], [], [(some 0, .opq [.int .i64, .st 6] [.int .i64, .bool, .st 10])], ((HL tabT [.int .i64, .st 6] → HL tabT [.int .i64, .bool, .st 10] → Option (Nat × HL tabT [.int .i64, .bool, .st 10])) × Nat × (HL tabT [.int .i64, .bool, .st 10])), fun y => (y.1, y.2.1, y.2.2, ()), fun y => (y.1, y.2.1, y.2.2.1), fun _ => rfl, fun n x => judge_of_1_fyd0 n x.1 x.2.1 x.2.2.1 x.2.2.2.1 x.2.2.2.2.1⟩
theorem judge_of_1_fyd0_ok : OkC Try.prog tab judge_of_1_fyd0_ct := fn_ok (W := ⟨Try.prog, tab, tyOf, []⟩) ⟨tabOk, trivial⟩ (by kernel_rfl) 26 Try.f75 (.sq (.n) (.bk none (.lp ⟨[(0, .one (.yd 0)), (2, .one (.ro (.int .i64))), (7, .one (.d (.sl (.st 6)))), (8, .one (.d (.int .i64))), (9, .one (.d (.int .i64)))], [.opq [.int .i64, .st 6] [.int .i64, .bool, .st 10]], [(0, 0)]⟩ (.sq (.n) (.sq (.n) (.sq (.bk none (.sq (.n) (.sq (.rg [1000000]) (.n)))) (.n))))))) Try.func75 Try.call75 rfl (by kernel_rfl) (by kernel_rfl) (by kernel_rfl) fun n x => by kernel_rfl

/-! bursary judge.Passes -/
def judge_Passes (n : Nat) (p0 : Entry) : Option Bool :=
  cond (p0.answer.err == 152)
    (jn (fun (b1 : Bool) =>
        some b1) fun k2 =>
    cond (p0.request.kind == 7)
      (k2 true)
      (k2 (p0.request.kind == 8)))
    (cond (p0.answer.err == 6)
      (some (p0.request.kind == 3))
      (some (p0.answer.err == 261)))
@[reducible] def judge_Passes_ct : Ct tab := ⟨15, [.st 6], [], [.one (.d .bool)], [], Bool, fun y => (y, ()), fun y => y.1, fun _ => rfl, fun n x => judge_Passes n x.1⟩
theorem judge_Passes_ok : OkC Try.prog tab judge_Passes_ct := fn_ok (W := ⟨Try.prog, tab, tyOf, []⟩) ⟨tabOk, trivial⟩ (by kernel_rfl) 28 Try.f15 (.n) Try.func15 Try.call15 rfl (by kernel_rfl) (by kernel_rfl) (by kernel_rfl) fun n x => by kernel_rfl

/-! bursary ideal.Check 1 -/
def ideal_Check_1 (n : Nat) (p0 : List Row) (p1 : Serial) : Option Bool :=
  (row_CheckList n p1.schema p0).bind fun y1 =>
  some (y1 != 0)
@[reducible] def ideal_Check_1_ct : Ct tab := ⟨64, [.one (.d (.sl (.st 3))), .one (.ro (.st 9))], [], [.one (.d .bool)], [], Bool, fun y => (y, ()), fun y => y.1, fun _ => rfl, fun n x => ideal_Check_1 n x.1 x.2.1⟩
theorem ideal_Check_1_ok : OkC Try.prog tab ideal_Check_1_ct := fn_ok (W := ⟨Try.prog, tab, tyOf, [row_CheckList_ct]⟩) ⟨tabOk, ⟨row_CheckList_ok, trivial⟩⟩ (by kernel_rfl) 9 Try.f64 (.n) Try.func64 Try.call64 rfl (by kernel_rfl) (by kernel_rfl) (by kernel_rfl) fun n x => by kernel_rfl

/-! slices.IndexFunc     bursary api.Row   bursary api.Row  -/
def slices_IndexFunc_Row_f64_l1 (n : Nat) : Nat → (List (List Row)) × Serial × Int × Int × Unit → Option Int := loopF fun r1 ⟨v1, v2, v3, v4, _⟩ =>
    cond (decide (v4 < v3))
      ((idx v1 v4).bind fun x5 =>
      (ideal_Check_1 n x5 v2).bind fun y6 =>
      cond y6
        (some v4)
        (r1 (v1, v2, v3, (IntKind.wrap .i64 (v4 + 1)), ())))
      (some (-1))
def slices_IndexFunc_Row_f64 (n : Nat) (p0 : List (List Row)) (p1 : Serial) : Option Int :=
  slices_IndexFunc_Row_f64_l1 n n (p0, p1, (p0.length : Int), 0, ())
@[reducible] def slices_IndexFunc_Row_f64_ct : Ct tab := ⟨79, [.one (.d (.sl (.sl (.st 3)))), .one (.fn 64 [.ro (.st 9)])], [], [.one (.d (.int .i64))], [], Int, fun y => (y, ()), fun y => y.1, fun _ => rfl, fun n x => slices_IndexFunc_Row_f64 n x.1 x.2.1⟩
theorem slices_IndexFunc_Row_f64_ok : OkC Try.prog tab slices_IndexFunc_Row_f64_ct := fn_ok (W := ⟨Try.prog, tab, tyOf, [ideal_Check_1_ct]⟩) ⟨tabOk, ⟨ideal_Check_1_ok, trivial⟩⟩ (by kernel_rfl) 19 Try.f79 (.sq (.n) (.sq (.sq (.n) (.bk none (.lp ⟨[(0, .one (.d (.sl (.sl (.st 3))))), (1, .one (.fn 64 [.ro (.st 9)])), (7, .one (.d (.int .i64))), (8, .one (.d (.int .i64)))], [], []⟩ (.n)))) (.n))) Try.func79 Try.call79 rfl (by kernel_rfl) (by kernel_rfl) (by kernel_rfl) fun n x => by kernel_rfl

/-! slices.ContainsFunc     bursary api.Row   bursary api.Row  -/
def slices_ContainsFunc_Row_f64 (n : Nat) (p0 : List (List Row)) (p1 : Serial) : Option Bool :=
  (slices_IndexFunc_Row_f64 n p0 p1).bind fun y1 =>
  some (decide (y1 ≥ 0))
@[reducible] def slices_ContainsFunc_Row_f64_ct : Ct tab := ⟨65, [.one (.d (.sl (.sl (.st 3)))), .one (.fn 64 [.ro (.st 9)])], [], [.one (.d .bool)], [], Bool, fun y => (y, ()), fun y => y.1, fun _ => rfl, fun n x => slices_ContainsFunc_Row_f64 n x.1 x.2.1⟩
theorem slices_ContainsFunc_Row_f64_ok : OkC Try.prog tab slices_ContainsFunc_Row_f64_ct := fn_ok (W := ⟨Try.prog, tab, tyOf, [slices_IndexFunc_Row_f64_ct]⟩) ⟨tabOk, ⟨slices_IndexFunc_Row_f64_ok, trivial⟩⟩ (by kernel_rfl) 9 Try.f65 (.n) Try.func65 Try.call65 rfl (by kernel_rfl) (by kernel_rfl) (by kernel_rfl) fun n x => by kernel_rfl

/-! bursary ideal.Check -/
def ideal_Check (n : Nat) (p0 : Serial) : Option Int :=
  (ideal_Check_1 n p0.rows p0).bind fun y1 =>
  jn (fun (b2 : Bool) =>
      jn (fun (b4 : Bool) =>
          jn (fun (b6 : Bool) =>
              jn (fun (b8 : Bool) =>
                  cond b8
                    (some 251)
                    (some 0)) fun k9 =>
              cond b6
                (k9 true)
                (jn (fun (b10 : Bool) =>
                    k9 b10) fun k11 =>
                cond p0.over
                  (k11 (decide ((p0.marks.length : Int) > 0)))
                  (k11 false))) fun k7 =>
          cond b4
            (k7 true)
            (k7 (decide ((p0.marks.length : Int) > 8)))) fun k5 =>
      cond b2
        (k5 true)
        ((slices_ContainsFunc_Row_f64 n p0.marks p0).bind fun y12 =>
        k5 y12)) fun k3 =>
  cond y1
    (k3 true)
    ((ideal_Check_1 n p0.begun p0).bind fun y13 =>
    k3 y13)
@[reducible] def ideal_Check_ct : Ct tab := ⟨50, [.st 9], [], [.one (.d (.int .i64))], [], Int, fun y => (y, ()), fun y => y.1, fun _ => rfl, fun n x => ideal_Check n x.1⟩
theorem ideal_Check_ok : OkC Try.prog tab ideal_Check_ct := fn_ok (W := ⟨Try.prog, tab, tyOf, [ideal_Check_1_ct, slices_ContainsFunc_Row_f64_ct]⟩) ⟨tabOk, ⟨ideal_Check_1_ok, slices_ContainsFunc_Row_f64_ok, trivial⟩⟩ (by kernel_rfl) 37 Try.f50 (.n) Try.func50 Try.call50 rfl (by kernel_rfl) (by kernel_rfl) (by kernel_rfl) fun n x => by kernel_rfl

/-! bursary ideal.step -/
def ideal_step_j1 (n : Nat) : Serial × Serial × Answer × Unit → Option (Serial × Answer) := fun ⟨v4, v5, v6, _⟩ =>
    some (v4, (Answer.mk 0 ([] : List Row) 0))
def ideal_step_j2 (n : Nat) (j1 : Serial × Serial × Answer × Unit → Option (Serial × Answer)) : Serial × Serial × Answer × Unit → Option (Serial × Answer) := fun ⟨v10, v11, v12, _⟩ =>
    j1 (v10, v11, v12, ())
def ideal_step_j3 (n : Nat) (j2 : Serial × Serial × Answer × Unit → Option (Serial × Answer)) : Serial × Serial × Answer × Unit → Option (Serial × Answer) := fun ⟨v13, v14, v15, _⟩ =>
    j2 (v13, v14, v15, ())
def ideal_step (n : Nat) (p0 : Serial) (p1 : Request) : Option (Serial × Answer) :=
  cond (p1.kind == 9)
    (cond ((p0.marks.length : Int) == 8)
      (some (p0, (Answer.mk 6 ([] : List Row) 0)))
      ((sub3 p0.marks (p0.marks.length : Int) (p0.marks.length : Int)).bind fun l1 =>
      (slices_Clone_Row n p0.rows).bind fun y2 =>
      (app 24 l1 ([y2] : List (List Row))).bind fun l3 =>
      some ((Serial.mk p0.schema p0.rows p0.begun l3 p0.over), (Answer.mk 0 ([] : List Row) (IntKind.wrap .i64 ((p0.marks.length : Int) + 1))))))
    (jn (ideal_step_j1 n) fun j1 =>
    cond (p1.kind == 10)
      (cond (decide (p1.n > (p0.marks.length : Int)))
        (some (p0, (Answer.mk 4 ([] : List Row) 0)))
        ((idx p0.marks (IntKind.wrap .i64 (p1.n - 1))).bind fun x7 =>
        (slices_Clone_Row n x7).bind fun y8 =>
        (sub3 p0.marks p1.n p1.n).bind fun l9 =>
        j1 ((Serial.mk p0.schema y8 p0.begun l9 p0.over), (Serial.mk (Schema.mk ([] : List Bounds)) ([] : List Row) ([] : List Row) ([] : List (List Row)) false), (Answer.mk 0 ([] : List Row) 0), ())))
      (jn (ideal_step_j2 n j1) fun j2 =>
      cond (p1.kind == 11)
        (j2 ((Serial.mk p0.schema p0.rows p0.begun ([] : List (List Row)) true), (Serial.mk (Schema.mk ([] : List Bounds)) ([] : List Row) ([] : List Row) ([] : List (List Row)) false), (Answer.mk 0 ([] : List Row) 0), ()))
        (jn (ideal_step_j3 n j2) fun j3 =>
        cond (p1.kind == 12)
          ((slices_Clone_Row n p0.begun).bind fun y16 =>
          j3 ((Serial.mk p0.schema y16 p0.begun ([] : List (List Row)) true), (Serial.mk (Schema.mk ([] : List Bounds)) ([] : List Row) ([] : List Row) ([] : List (List Row)) false), (Answer.mk 0 ([] : List Row) 0), ()))
          (j3 (p0, (Serial.mk (Schema.mk ([] : List Bounds)) ([] : List Row) ([] : List Row) ([] : List (List Row)) false), (Answer.mk 0 ([] : List Row) 0), ())))))
@[reducible] def ideal_step_ct : Ct tab := ⟨51, [.st 9, .st 4], [], [.st 9, .st 5], [], (Serial × Answer), fun y => (y.1, y.2, ()), fun y => (y.1, y.2.1), fun _ => rfl, fun n x => ideal_step n x.1 x.2.1⟩
theorem ideal_step_ok : OkC Try.prog tab ideal_step_ct := fn_ok (W := ⟨Try.prog, tab, tyOf, [slices_Clone_Row_ct]⟩) ⟨tabOk, ⟨slices_Clone_Row_ok, trivial⟩⟩ (by kernel_rfl) 72 Try.f51 (.sq (.n) (.sq (.n) (.sq (.sq (.n) (.bk none (.sq (.n) (.cd none (.n) (.sq (.n) (.cd (some ⟨[(2, .one (.box 0 0)), (4, .one (.box 1 0)), (5, .one (.box 2 0))], [.bst 9, .bst 9, .bst 5], []⟩) (.n) (.sq (.n) (.cd (some ⟨[(2, .one (.box 0 0)), (4, .one (.box 1 0)), (5, .one (.box 2 0))], [.bst 9, .bst 9, .bst 5], []⟩) (.n) (.sq (.n) (.cd (some ⟨[(2, .one (.box 0 0)), (4, .one (.box 1 0)), (5, .one (.box 2 0))], [.bst 9, .bst 9, .bst 5], []⟩) (.n) (.n))))))))))) (.n)))) Try.func51 Try.call51 rfl (by kernel_rfl) (by kernel_rfl) (by kernel_rfl) fun n x => by kernel_rfl

/-!   bursary ideal.turn .read 1 -/
def ideal_turn_read_1 (n : Nat) (p0 : Int) (q1_0 : List Bounds) (q1_1 : Int) (q1_2 : Int) (q1_3 : Int) (q1_4 : Int) (q1_5 : Int) (q1_6 : Int) (q1_7 : ByteArray) (q1_8 : Int) (q2 : List Row) : Option (Answer × (List Bounds) × Int × Int × Int × Int × Int × Int × ByteArray × Int × (List Row)) :=
  (idx q2 p0).bind fun x1 =>
  (idx q2 p0).bind fun x2 =>
  some ((Answer.mk 0 ([x2] : List Row) 0), q1_0, q1_1, q1_2, q1_3, q1_4, q1_5, q1_6, q1_7, q1_8, q2)
@[reducible] def ideal_turn_read_1_ct : Ct tab := ⟨81, [.one (.d (.int .i64)), .one (.box 0 0)], [.box [.box 1 0], .box [.d (.sl (.st 0)), .own 2, .d (.int .i64), .d (.int .i64), .d (.int .u16), .d (.int .i64), .d (.int .u16), .d (.int .i64), .d .str, .d (.int .i64)], .row 67 (.st 3)], [.st 5], [(some 0, .box [.box 1 0]), (some 1, .box [.d (.sl (.st 0)), .own 2, .d (.int .i64), .d (.int .i64), .d (.int .u16), .d (.int .i64), .d (.int .u16), .d (.int .i64), .d .str, .d (.int .i64)]), (none, .row 67 (.st 3))], (Answer × (List Bounds) × Int × Int × Int × Int × Int × Int × ByteArray × Int × (List Row)), fun y => (y.1, y.2.1, y.2.2.1, y.2.2.2.1, y.2.2.2.2.1, y.2.2.2.2.2.1, y.2.2.2.2.2.2.1, y.2.2.2.2.2.2.2.1, y.2.2.2.2.2.2.2.2.1, y.2.2.2.2.2.2.2.2.2.1, y.2.2.2.2.2.2.2.2.2.2, ()), fun y => (y.1, y.2.1, y.2.2.1, y.2.2.2.1, y.2.2.2.2.1, y.2.2.2.2.2.1, y.2.2.2.2.2.2.1, y.2.2.2.2.2.2.2.1, y.2.2.2.2.2.2.2.2.1, y.2.2.2.2.2.2.2.2.2.1, y.2.2.2.2.2.2.2.2.2.2.1), fun _ => rfl, fun n x => ideal_turn_read_1 n x.1 x.2.1 x.2.2.1 x.2.2.2.1 x.2.2.2.2.1 x.2.2.2.2.2.1 x.2.2.2.2.2.2.1 x.2.2.2.2.2.2.2.1 x.2.2.2.2.2.2.2.2.1 x.2.2.2.2.2.2.2.2.2.1 x.2.2.2.2.2.2.2.2.2.2.1⟩
theorem ideal_turn_read_1_ok : OkC Try.prog tab ideal_turn_read_1_ct := fn_ok (W := ⟨Try.prog, tab, tyOf, []⟩) ⟨tabOk, trivial⟩ (by kernel_rfl) 13 Try.f81 (.n) Try.func81 Try.call81 rfl (by kernel_rfl) (by kernel_rfl) (by kernel_rfl) fun n x => by kernel_rfl

/-! bursary row.Find 1 -/
def row_Find_1 (n : Nat) (p0 : Row) (p1 : Key) : Option Bool :=
  some (Key.eqb p0.key p1)
@[reducible] def row_Find_1_ct : Ct tab := ⟨95, [.st 3, .one (.ro (.st 2))], [], [.one (.d .bool)], [], Bool, fun y => (y, ()), fun y => y.1, fun _ => rfl, fun n x => row_Find_1 n x.1 x.2.1⟩
theorem row_Find_1_ok : OkC Try.prog tab row_Find_1_ct := fn_ok (W := ⟨Try.prog, tab, tyOf, []⟩) ⟨tabOk, trivial⟩ (by kernel_rfl) 8 Try.f95 (.n) Try.func95 Try.call95 rfl (by kernel_rfl) (by kernel_rfl) (by kernel_rfl) fun n x => by kernel_rfl

/-! slices.IndexFunc   bursary api.Row bursary api.Row  -/
def slices_IndexFunc_Row_1_f95_l1 (n : Nat) : Nat → (List Row) × Key × Int × Int × Unit → Option Int := loopF fun r1 ⟨v1, v2, v3, v4, _⟩ =>
    cond (decide (v4 < v3))
      ((idx v1 v4).bind fun x5 =>
      (row_Find_1 n x5 v2).bind fun y6 =>
      cond y6
        (some v4)
        (r1 (v1, v2, v3, (IntKind.wrap .i64 (v4 + 1)), ())))
      (some (-1))
def slices_IndexFunc_Row_1_f95 (n : Nat) (p0 : List Row) (p1 : Key) : Option Int :=
  slices_IndexFunc_Row_1_f95_l1 n n (p0, p1, (p0.length : Int), 0, ())
@[reducible] def slices_IndexFunc_Row_1_f95_ct : Ct tab := ⟨94, [.one (.d (.sl (.st 3))), .one (.fn 95 [.ro (.st 2)])], [], [.one (.d (.int .i64))], [], Int, fun y => (y, ()), fun y => y.1, fun _ => rfl, fun n x => slices_IndexFunc_Row_1_f95 n x.1 x.2.1⟩
theorem slices_IndexFunc_Row_1_f95_ok : OkC Try.prog tab slices_IndexFunc_Row_1_f95_ct := fn_ok (W := ⟨Try.prog, tab, tyOf, [row_Find_1_ct]⟩) ⟨tabOk, ⟨row_Find_1_ok, trivial⟩⟩ (by kernel_rfl) 19 Try.f94 (.sq (.n) (.sq (.sq (.n) (.bk none (.lp ⟨[(0, .one (.d (.sl (.st 3)))), (1, .one (.fn 95 [.ro (.st 2)])), (7, .one (.d (.int .i64))), (8, .one (.d (.int .i64)))], [], []⟩ (.n)))) (.n))) Try.func94 Try.call94 rfl (by kernel_rfl) (by kernel_rfl) (by kernel_rfl) fun n x => by kernel_rfl

/-! bursary row.Find -/
def row_Find (n : Nat) (p0 : List Row) (p1 : Key) : Option (Int × Bool) :=
  (slices_IndexFunc_Row_1_f95 n p0 p1).bind fun y1 =>
  some ((if 0 > y1 then 0 else y1), (decide (y1 ≥ 0)))
@[reducible] def row_Find_ct : Ct tab := ⟨84, [.one (.d (.sl (.st 3))), .st 2], [], [.one (.d (.int .i64)), .one (.d .bool)], [], (Int × Bool), fun y => (y.1, y.2, ()), fun y => (y.1, y.2.1), fun _ => rfl, fun n x => row_Find n x.1 x.2.1⟩
theorem row_Find_ok : OkC Try.prog tab row_Find_ct := fn_ok (W := ⟨Try.prog, tab, tyOf, [slices_IndexFunc_Row_1_f95_ct]⟩) ⟨tabOk, ⟨slices_IndexFunc_Row_1_f95_ok, trivial⟩⟩ (by kernel_rfl) 14 Try.f84 (.n) Try.func84 Try.call84 rfl (by kernel_rfl) (by kernel_rfl) (by kernel_rfl) fun n x => by kernel_rfl

/-!   bursary ideal.turn .found -/
def ideal_turn_found_f81 (n : Nat) (p1 : Key) (q0_0 : List Bounds) (q0_1 : Int) (q0_2 : Int) (q0_3 : Int) (q0_4 : Int) (q0_5 : Int) (q0_6 : Int) (q0_7 : ByteArray) (q0_8 : Int) (q1 : List Row) : Option (Answer × (List Bounds) × Int × Int × Int × Int × Int × Int × ByteArray × Int × (List Row)) :=
  (row_Find n q1 p1).bind fun y1 =>
  cond (!y1.2)
    (some ((Answer.mk 4 ([] : List Row) 0), q0_0, q0_1, q0_2, q0_3, q0_4, q0_5, q0_6, q0_7, q0_8, q1))
    ((ideal_turn_read_1 n y1.1 q0_0 q0_1 q0_2 q0_3 q0_4 q0_5 q0_6 q0_7 q0_8 q1).bind fun y2 =>
    some (y2.1, y2.2.1, y2.2.2.1, y2.2.2.2.1, y2.2.2.2.2.1, y2.2.2.2.2.2.1, y2.2.2.2.2.2.2.1, y2.2.2.2.2.2.2.2.1, y2.2.2.2.2.2.2.2.2.1, y2.2.2.2.2.2.2.2.2.2.1, y2.2.2.2.2.2.2.2.2.2.2))
@[reducible] def ideal_turn_found_f81_ct : Ct tab := ⟨80, [.one (.box 0 0), .st 2, .one (.fn 81 [.bx 2])], [.box [.d (.sl (.st 0)), .own 1, .d (.int .i64), .d (.int .i64), .d (.int .u16), .d (.int .i64), .d (.int .u16), .d (.int .i64), .d .str, .d (.int .i64)], .row 67 (.st 3), .box [.box 0 0]], [.st 5], [(some 0, .box [.d (.sl (.st 0)), .own 2, .d (.int .i64), .d (.int .i64), .d (.int .u16), .d (.int .i64), .d (.int .u16), .d (.int .i64), .d .str, .d (.int .i64)]), (some 2, .box [.box 0 0]), (none, .row 67 (.st 3))], (Answer × (List Bounds) × Int × Int × Int × Int × Int × Int × ByteArray × Int × (List Row)), fun y => (y.1, y.2.1, y.2.2.1, y.2.2.2.1, y.2.2.2.2.1, y.2.2.2.2.2.1, y.2.2.2.2.2.2.1, y.2.2.2.2.2.2.2.1, y.2.2.2.2.2.2.2.2.1, y.2.2.2.2.2.2.2.2.2.1, y.2.2.2.2.2.2.2.2.2.2, ()), fun y => (y.1, y.2.1, y.2.2.1, y.2.2.2.1, y.2.2.2.2.1, y.2.2.2.2.2.1, y.2.2.2.2.2.2.1, y.2.2.2.2.2.2.2.1, y.2.2.2.2.2.2.2.2.1, y.2.2.2.2.2.2.2.2.2.1, y.2.2.2.2.2.2.2.2.2.2.1), fun _ => rfl, fun n x => ideal_turn_found_f81 n x.1 x.2.1 x.2.2.1 x.2.2.2.1 x.2.2.2.2.1 x.2.2.2.2.2.1 x.2.2.2.2.2.2.1 x.2.2.2.2.2.2.2.1 x.2.2.2.2.2.2.2.2.1 x.2.2.2.2.2.2.2.2.2.1 x.2.2.2.2.2.2.2.2.2.2.1⟩
theorem ideal_turn_found_f81_ok : OkC Try.prog tab ideal_turn_found_f81_ct := fn_ok (W := ⟨Try.prog, tab, tyOf, [row_Find_ct, ideal_turn_read_1_ct]⟩) ⟨tabOk, ⟨row_Find_ok, ideal_turn_read_1_ok, trivial⟩⟩ (by kernel_rfl) 24 Try.f80 (.n) Try.func80 Try.call80 rfl (by kernel_rfl) (by kernel_rfl) (by kernel_rfl) fun n x => by kernel_rfl

/-!   bursary ideal.turn .read -/
def ideal_turn_read (n : Nat) (q0_0 : List Bounds) (q0_1 : Int) (q0_2 : Int) (q0_3 : Int) (q0_4 : Int) (q0_5 : Int) (q0_6 : Int) (q0_7 : ByteArray) (q0_8 : Int) (q1 : List Row) : Option (Answer × (List Bounds) × Int × Int × Int × Int × Int × Int × ByteArray × Int × (List Row)) :=
  (ideal_turn_found_f81 n (Key.mk q0_2 q0_3) q0_0 q0_1 q0_2 q0_3 q0_4 q0_5 q0_6 q0_7 q0_8 q1).bind fun y1 =>
  some (y1.1, y1.2.1, y1.2.2.1, y1.2.2.2.1, y1.2.2.2.2.1, y1.2.2.2.2.2.1, y1.2.2.2.2.2.2.1, y1.2.2.2.2.2.2.2.1, y1.2.2.2.2.2.2.2.2.1, y1.2.2.2.2.2.2.2.2.2.1, y1.2.2.2.2.2.2.2.2.2.2)
@[reducible] def ideal_turn_read_ct : Ct tab := ⟨66, [.one (.box 0 0)], [.box [.d (.sl (.st 0)), .own 1, .d (.int .i64), .d (.int .i64), .d (.int .u16), .d (.int .i64), .d (.int .u16), .d (.int .i64), .d .str, .d (.int .i64)], .row 67 (.st 3)], [.st 5], [(some 0, .box [.d (.sl (.st 0)), .own 1, .d (.int .i64), .d (.int .i64), .d (.int .u16), .d (.int .i64), .d (.int .u16), .d (.int .i64), .d .str, .d (.int .i64)]), (none, .row 67 (.st 3))], (Answer × (List Bounds) × Int × Int × Int × Int × Int × Int × ByteArray × Int × (List Row)), fun y => (y.1, y.2.1, y.2.2.1, y.2.2.2.1, y.2.2.2.2.1, y.2.2.2.2.2.1, y.2.2.2.2.2.2.1, y.2.2.2.2.2.2.2.1, y.2.2.2.2.2.2.2.2.1, y.2.2.2.2.2.2.2.2.2.1, y.2.2.2.2.2.2.2.2.2.2, ()), fun y => (y.1, y.2.1, y.2.2.1, y.2.2.2.1, y.2.2.2.2.1, y.2.2.2.2.2.1, y.2.2.2.2.2.2.1, y.2.2.2.2.2.2.2.1, y.2.2.2.2.2.2.2.2.1, y.2.2.2.2.2.2.2.2.2.1, y.2.2.2.2.2.2.2.2.2.2.1), fun _ => rfl, fun n x => ideal_turn_read n x.1 x.2.1 x.2.2.1 x.2.2.2.1 x.2.2.2.2.1 x.2.2.2.2.2.1 x.2.2.2.2.2.2.1 x.2.2.2.2.2.2.2.1 x.2.2.2.2.2.2.2.2.1 x.2.2.2.2.2.2.2.2.2.1⟩
theorem ideal_turn_read_ok : OkC Try.prog tab ideal_turn_read_ct := fn_ok (W := ⟨Try.prog, tab, tyOf, [ideal_turn_found_f81_ct]⟩) ⟨tabOk, ⟨ideal_turn_found_f81_ok, trivial⟩⟩ (by kernel_rfl) 11 Try.f66 (.n) Try.func66 Try.call66 rfl (by kernel_rfl) (by kernel_rfl) (by kernel_rfl) fun n x => by kernel_rfl

/-! bursary row.Of -/
def row_Of_j2 (n : Nat) (r1 : Int × (List Row) × Int × Int × (List Row) × Unit → Option ((List Row))) : Int × (List Row) × Int × Int × (List Row) × Unit → Option ((List Row)) := fun ⟨v7, v8, v9, v10, v11, _⟩ =>
    r1 (v7, v8, v9, (IntKind.wrap .i64 (v10 + 1)), v11, ())
def row_Of_l1 (n : Nat) : Nat → Int × (List Row) × Int × Int × (List Row) × Unit → Option ((List Row)) := loopF fun r1 ⟨v1, v2, v3, v4, v5, _⟩ =>
    cond (decide (v4 < v3))
      ((idx v2 v4).bind fun x6 =>
      jn (row_Of_j2 n r1) fun j2 =>
      cond (x6.key.table == v1)
        ((app 40 v5 ([x6] : List Row)).bind fun l12 =>
        j2 (v1, v2, v3, v4, l12, ()))
        (j2 (v1, v2, v3, v4, v5, ())))
      (some v5)
def row_Of (n : Nat) (p0 : List Row) (p1 : Int) : Option ((List Row)) :=
  row_Of_l1 n n (p1, p0, (p0.length : Int), 0, ([] : List Row), ())
@[reducible] def row_Of_ct : Ct tab := ⟨82, [.one (.d (.sl (.st 3))), .one (.d (.int .i64))], [], [.one (.own 0)], [(none, .row 67 (.st 3))], ((List Row)), fun y => (y, ()), fun y => y.1, fun _ => rfl, fun n x => row_Of n x.1 x.2.1⟩
theorem row_Of_ok : OkC Try.prog tab row_Of_ct := fn_ok (W := ⟨Try.prog, tab, tyOf, []⟩) ⟨tabOk, trivial⟩ (by kernel_rfl) 25 Try.f82 (.sq (.n) (.sq (.n) (.sq (.sq (.n) (.bk none (.lp ⟨[(1, .one (.d (.int .i64))), (5, .one (.own 0)), (8, .one (.d (.sl (.st 3)))), (9, .one (.d (.int .i64))), (10, .one (.d (.int .i64)))], [.row 67 (.st 3)], []⟩ (.sq (.n) (.sq (.n) (.sq (.bk none (.sq (.n) (.sq (.n) (.cd (some ⟨[(1, .one (.d (.int .i64))), (5, .one (.own 0)), (8, .one (.d (.sl (.st 3)))), (9, .one (.d (.int .i64))), (10, .one (.d (.int .i64)))], [.row 67 (.st 3)], []⟩) (.n) (.n))))) (.n))))))) (.n)))) Try.func82 Try.call82 rfl (by kernel_rfl) (by kernel_rfl) (by kernel_rfl) fun n x => by kernel_rfl

/-!   bursary ideal.turn .scan -/
def ideal_turn_scan (n : Nat) (q0_0 : List Bounds) (q0_1 : Int) (q0_2 : Int) (q0_3 : Int) (q0_4 : Int) (q0_5 : Int) (q0_6 : Int) (q0_7 : ByteArray) (q0_8 : Int) (q1 : List Row) : Option (Answer × (List Bounds) × Int × Int × Int × Int × Int × Int × ByteArray × Int × (List Row)) :=
  (row_Of n q1 q0_2).bind fun y1 =>
  some ((Answer.mk 0 y1 0), q0_0, q0_1, q0_2, q0_3, q0_4, q0_5, q0_6, q0_7, q0_8, q1)
@[reducible] def ideal_turn_scan_ct : Ct tab := ⟨67, [.one (.box 0 0)], [.box [.d (.sl (.st 0)), .own 1, .d (.int .i64), .d (.int .i64), .d (.int .u16), .d (.int .i64), .d (.int .u16), .d (.int .i64), .d .str, .d (.int .i64)], .row 67 (.st 3)], [.st 5], [(some 0, .box [.d (.sl (.st 0)), .own 1, .d (.int .i64), .d (.int .i64), .d (.int .u16), .d (.int .i64), .d (.int .u16), .d (.int .i64), .d .str, .d (.int .i64)]), (none, .row 67 (.st 3))], (Answer × (List Bounds) × Int × Int × Int × Int × Int × Int × ByteArray × Int × (List Row)), fun y => (y.1, y.2.1, y.2.2.1, y.2.2.2.1, y.2.2.2.2.1, y.2.2.2.2.2.1, y.2.2.2.2.2.2.1, y.2.2.2.2.2.2.2.1, y.2.2.2.2.2.2.2.2.1, y.2.2.2.2.2.2.2.2.2.1, y.2.2.2.2.2.2.2.2.2.2, ()), fun y => (y.1, y.2.1, y.2.2.1, y.2.2.2.1, y.2.2.2.2.1, y.2.2.2.2.2.1, y.2.2.2.2.2.2.1, y.2.2.2.2.2.2.2.1, y.2.2.2.2.2.2.2.2.1, y.2.2.2.2.2.2.2.2.2.1, y.2.2.2.2.2.2.2.2.2.2.1), fun _ => rfl, fun n x => ideal_turn_scan n x.1 x.2.1 x.2.2.1 x.2.2.2.1 x.2.2.2.2.1 x.2.2.2.2.2.1 x.2.2.2.2.2.2.1 x.2.2.2.2.2.2.2.1 x.2.2.2.2.2.2.2.2.1 x.2.2.2.2.2.2.2.2.2.1⟩
theorem ideal_turn_scan_ok : OkC Try.prog tab ideal_turn_scan_ct := fn_ok (W := ⟨Try.prog, tab, tyOf, [row_Of_ct]⟩) ⟨tabOk, ⟨row_Of_ok, trivial⟩⟩ (by kernel_rfl) 15 Try.f67 (.n) Try.func67 Try.call67 rfl (by kernel_rfl) (by kernel_rfl) (by kernel_rfl) fun n x => by kernel_rfl

/-!   bursary ideal.turn .fits -/
def ideal_turn_fits (n : Nat) (p1 : Key) (p2 : Int) (q0_0 : List Bounds) (q0_1 : Int) (q0_2 : Int) (q0_3 : Int) (q0_4 : Int) (q0_5 : Int) (q0_6 : Int) (q0_7 : ByteArray) (q0_8 : Int) (q1 : List Row) : Option (Bool × (List Bounds) × Int × Int × Int × Int × Int × Int × ByteArray × Int × (List Row)) :=
  (idx q0_0 p1.table).bind fun x1 =>
  jn (fun (b2 : Bool) =>
      some (b2, q0_0, q0_1, q0_2, q0_3, q0_4, q0_5, q0_6, q0_7, q0_8, q1)) fun k3 =>
  cond (decide (p2 ≥ x1.min))
    (k3 (decide (p2 ≤ x1.max)))
    (k3 false)
@[reducible] def ideal_turn_fits_ct : Ct tab := ⟨83, [.one (.box 0 0), .st 2, .one (.d (.int .i64))], [.box [.d (.sl (.st 0)), .own 1, .d (.int .i64), .d (.int .i64), .d (.int .u16), .d (.int .i64), .d (.int .u16), .d (.int .i64), .d .str, .d (.int .i64)], .row 67 (.st 3)], [.one (.d .bool)], [(some 0, .box [.d (.sl (.st 0)), .own 1, .d (.int .i64), .d (.int .i64), .d (.int .u16), .d (.int .i64), .d (.int .u16), .d (.int .i64), .d .str, .d (.int .i64)]), (none, .row 67 (.st 3))], (Bool × (List Bounds) × Int × Int × Int × Int × Int × Int × ByteArray × Int × (List Row)), fun y => (y.1, y.2.1, y.2.2.1, y.2.2.2.1, y.2.2.2.2.1, y.2.2.2.2.2.1, y.2.2.2.2.2.2.1, y.2.2.2.2.2.2.2.1, y.2.2.2.2.2.2.2.2.1, y.2.2.2.2.2.2.2.2.2.1, y.2.2.2.2.2.2.2.2.2.2, ()), fun y => (y.1, y.2.1, y.2.2.1, y.2.2.2.1, y.2.2.2.2.1, y.2.2.2.2.2.1, y.2.2.2.2.2.2.1, y.2.2.2.2.2.2.2.1, y.2.2.2.2.2.2.2.2.1, y.2.2.2.2.2.2.2.2.2.1, y.2.2.2.2.2.2.2.2.2.2.1), fun _ => rfl, fun n x => ideal_turn_fits n x.1 x.2.1 x.2.2.1 x.2.2.2.1 x.2.2.2.2.1 x.2.2.2.2.2.1 x.2.2.2.2.2.2.1 x.2.2.2.2.2.2.2.1 x.2.2.2.2.2.2.2.2.1 x.2.2.2.2.2.2.2.2.2.1 x.2.2.2.2.2.2.2.2.2.2.1 x.2.2.2.2.2.2.2.2.2.2.2.1⟩
theorem ideal_turn_fits_ok : OkC Try.prog tab ideal_turn_fits_ct := fn_ok (W := ⟨Try.prog, tab, tyOf, []⟩) ⟨tabOk, trivial⟩ (by kernel_rfl) 27 Try.f83 (.n) Try.func83 Try.call83 rfl (by kernel_rfl) (by kernel_rfl) (by kernel_rfl) fun n x => by kernel_rfl

/-! bursary row.place 1 -/
def row_place_1 (n : Nat) (p0 : Row) (p1 : Key) : Option Int :=
  (row_Compare n p0.key p1).bind fun y1 =>
  some y1
@[reducible] def row_place_1_ct : Ct tab := ⟨100, [.st 3, .st 2], [], [.one (.d (.int .i64))], [], Int, fun y => (y, ()), fun y => y.1, fun _ => rfl, fun n x => row_place_1 n x.1 x.2.1⟩
theorem row_place_1_ok : OkC Try.prog tab row_place_1_ct := fn_ok (W := ⟨Try.prog, tab, tyOf, [row_Compare_ct]⟩) ⟨tabOk, ⟨row_Compare_ok, trivial⟩⟩ (by kernel_rfl) 9 Try.f100 (.n) Try.func100 Try.call100 rfl (by kernel_rfl) (by kernel_rfl) (by kernel_rfl) fun n x => by kernel_rfl

/-! slices.BinarySearchFunc   bursary api.Row bursary api.Row bursary api.Key  -/
def slices_BinarySearchFunc_Key_f100_j2 (n : Nat) (r1 : (List Row) × Int × Int × Int × Key × Unit → Option (Int × Bool)) : (List Row) × Int × Int × Int × Key × Unit → Option (Int × Bool) := fun ⟨v9, v10, v11, v12, v13, _⟩ =>
    r1 (v9, v10, v11, v12, v13, ())
def slices_BinarySearchFunc_Key_f100_l1 (n : Nat) : Nat → (List Row) × Int × Int × Int × Key × Unit → Option (Int × Bool) := loopF fun r1 ⟨v1, v2, v3, v4, v5, _⟩ =>
    cond (decide (v3 < v4))
      ((shrP .u64 (IntKind.wrap .u64 (IntKind.wrap .i64 (v3 + v4))) 1).bind fun z6 =>
      (idx v1 (IntKind.wrap .i64 z6)).bind fun x7 =>
      (row_place_1 n x7 v5).bind fun y8 =>
      jn (slices_BinarySearchFunc_Key_f100_j2 n r1) fun j2 =>
      cond (decide (y8 < 0))
        (j2 (v1, v2, (IntKind.wrap .i64 ((IntKind.wrap .i64 z6) + 1)), v4, v5, ()))
        (j2 (v1, v2, v3, (IntKind.wrap .i64 z6), v5, ())))
      (jn (fun (b14 : Bool) =>
          some (v3, b14)) fun k15 =>
      cond (decide (v3 < v2))
        ((idx v1 v3).bind fun x16 =>
        (row_place_1 n x16 v5).bind fun y17 =>
        k15 (y17 == 0))
        (k15 false))
def slices_BinarySearchFunc_Key_f100 (n : Nat) (p0 : List Row) (p1 : Key) : Option (Int × Bool) :=
  slices_BinarySearchFunc_Key_f100_l1 n n (p0, (p0.length : Int), 0, (p0.length : Int), p1, ())
@[reducible] def slices_BinarySearchFunc_Key_f100_ct : Ct tab := ⟨99, [.one (.d (.sl (.st 3))), .st 2, .one (.fn 100 [])], [], [.one (.d (.int .i64)), .one (.d .bool)], [], (Int × Bool), fun y => (y.1, y.2, ()), fun y => (y.1, y.2.1), fun _ => rfl, fun n x => slices_BinarySearchFunc_Key_f100 n x.1 x.2.1⟩
theorem slices_BinarySearchFunc_Key_f100_ok : OkC Try.prog tab slices_BinarySearchFunc_Key_f100_ct := fn_ok (W := ⟨Try.prog, tab, tyOf, [row_place_1_ct]⟩) ⟨tabOk, ⟨row_place_1_ok, trivial⟩⟩ (by kernel_rfl) 49 Try.f99 (.sq (.n) (.sq (.n) (.sq (.n) (.sq (.bk none (.lp ⟨[(0, .one (.d (.sl (.st 3)))), (2, .one (.fn 100 [])), (4, .one (.box 0 0)), (8, .one (.d (.int .i64))), (9, .one (.d (.int .i64))), (10, .one (.d (.int .i64)))], [.bst 2], []⟩ (.sq (.n) (.bk none (.sq (.n) (.sq (.n) (.cd (some ⟨[(0, .one (.d (.sl (.st 3)))), (2, .one (.fn 100 [])), (4, .one (.box 0 0)), (8, .one (.d (.int .i64))), (9, .one (.d (.int .i64))), (10, .one (.d (.int .i64)))], [.bst 2], []⟩) (.n) (.n)))))))) (.n))))) Try.func99 Try.call99 rfl (by kernel_rfl) (by kernel_rfl) (by kernel_rfl) fun n x => by kernel_rfl

/-! bursary row.place -/
def row_place (n : Nat) (p0 : List Row) (p1 : Key) : Option (Int × Bool) :=
  (slices_BinarySearchFunc_Key_f100 n p0 p1).bind fun y1 =>
  some (y1.1, y1.2)
@[reducible] def row_place_ct : Ct tab := ⟨96, [.one (.d (.sl (.st 3))), .st 2], [], [.one (.d (.int .i64)), .one (.d .bool)], [], (Int × Bool), fun y => (y.1, y.2, ()), fun y => (y.1, y.2.1), fun _ => rfl, fun n x => row_place n x.1 x.2.1⟩
theorem row_place_ok : OkC Try.prog tab row_place_ct := fn_ok (W := ⟨Try.prog, tab, tyOf, [slices_BinarySearchFunc_Key_f100_ct]⟩) ⟨tabOk, ⟨slices_BinarySearchFunc_Key_f100_ok, trivial⟩⟩ (by kernel_rfl) 11 Try.f96 (.n) Try.func96 Try.call96 rfl (by kernel_rfl) (by kernel_rfl) (by kernel_rfl) fun n x => by kernel_rfl

theorem slices_Insert_Row_raw {a0 : Option Addr} {c0 : Nat} {a2 : Option Addr} {c2 : Nat} (p0 : List (Raw 4)) (p1 : Int) (p2 : List (Raw 4)) (r : List (Raw 4)) (h : insL 40 p0 p1 p2 = some r) :
    Meets Try.prog 97 #[.slice a0 p0.length c0, .int .i64 p1, .slice a2 p2.length c2] [rowF (rawF 4) 67 a0 c0 p0, rowF (rawF 4) 67 a2 c2 p2] [] fun v A P => ∃ (a : Option Addr) (c : Nat), v = .slice a r.length c ∧ A = [rowF (rawF 4) 67 a c r] ∧ P = [] := by
  unfold insL at h
  split at h
  case isFalse => cases h
  rename_i hb
  obtain ⟨hb0, hb1⟩ := hb
  obtain ⟨i, hi⟩ : ∃ i : Nat, p1 = (i : Int) := ⟨p1.toNat, by omega⟩
  subst hi
  simp only [Int.toNat_natCast] at h
  have hil : i ≤ p0.length := by omega
  split at h
  case h_2 => cases h
  rename_i hroom
  have hr := someI h
  have hrl : r.length = p0.length + p2.length := by rw [← hr]; simp; omega
  have hbytes : (p0.length + p2.length) * 40 ≤ 140737488355328 := Nat.le_of_ble_eq_true hroom
  have hsm : p0.length + p2.length < 9223372036854775808 := by omega
  refine meets_enter 95 Try.func97 Try.call97 rfl (by kernel_rfl) (by simp) fun C a w hS => ?_
  have hc : p0.length ≤ c0 := (row_len (hS.st.own _ (List.mem_cons_self ..))).2.1
  refine k_seq (by kernel_rfl) fun K1 hK1 => ?_
  refine k_reg 1 (by kernel_rfl) ?_
  refine r_run 0 1 [0, 1, 2] [] hS rfl (L' := [(0, .slice a0 p0.length c0), (1, .int .i64 i), (2, .slice a2 p2.length c2)]) (As' := [rowF (rawF 4) 67 a0 c0 p0, rowF (rawF 4) 67 a2 c2 p2]) (ob := []) (by kernel_rfl) trivial fun a w hS => ?_
  refine wl_end ?_
  refine hK1 _ _ ?_
  refine k_seq (by kernel_rfl) fun K2 hK2 => ?_
  refine k_reg 3 (by kernel_rfl) ?_
  refine r_run 0 3 [0, 1, 2] [] hS rfl (L' := [(0, .slice a0 p0.length c0), (1, .int .i64 i), (2, .slice a2 p2.length c2)]) (As' := [rowF (rawF 4) 67 a0 c0 p0, rowF (rawF 4) 67 a2 c2 p2]) (ob := [fun _ => 0 ≤ (i : Int) ∧ (i : Int) ≤ (p0.length : Int) ∧ (p0.length : Int) ≤ (c0 : Int)]) (by kernel_rfl) ⟨Bx.c ⟨hb0, hb1, by omega⟩, trivial⟩ fun a w hS => ?_
  refine wl_end ?_
  refine hK2 _ _ ?_
  refine k_seq (by kernel_rfl) fun K3 hK3 => ?_
  refine k_reg 3 (by kernel_rfl) ?_
  refine r_run 0 3 [0, 1, 2, 7] [] hS rfl (L' := [(0, .slice a0 p0.length c0), (1, .int .i64 i), (2, .slice a2 p2.length c2), (7, .int .i64 (p2.length : Int))]) (As' := [rowF (rawF 4) 67 a0 c0 p0, rowF (rawF 4) 67 a2 c2 p2]) (ob := []) (by kernel_rfl) trivial fun a w hS => ?_
  refine wl_end ?_
  refine hK3 _ _ ?_
  refine k_seq (by kernel_rfl) fun K4 hK4 => ?_
  refine k_seq (by kernel_rfl) fun K5 hK5 => ?_
  refine k_reg 2 (by kernel_rfl) ?_
  refine r_run 0 2 [0, 1, 2, 7, 16] [] hS rfl (L' := [(0, .slice a0 p0.length c0), (1, .int .i64 i), (2, .slice a2 p2.length c2), (7, .int .i64 (p2.length : Int)), (16, .bool ((p2.length : Int) == 0))]) (As' := [rowF (rawF 4) 67 a0 c0 p0, rowF (rawF 4) 67 a2 c2 p2]) (ob := []) (by kernel_rfl) trivial fun a w hS => ?_
  refine wl_end ?_
  refine hK5 _ _ ?_
  refine k_cond ((p2.length : Int) == 0) hS.has (by kernel_rfl) (by kernel_rfl) (by kernel_rfl) (fun hq => ?_) (fun hq => ?_)
  · have hp : p2 = [] := List.eq_nil_of_length_eq_zero (by simpa using hq)
    subst hp
    have hr' : p0 = r := by rw [← hr]; simp
    subst hr'
    refine k_seq (by kernel_rfl) fun K6 hK6 => ?_
    refine k_reg 2 (by kernel_rfl) ?_
    refine r_run 0 2 [6] [] hS rfl (L' := [(6, .slice a0 p0.length c0)]) (As' := [rowF (rawF 4) 67 a0 c0 p0, rowF (rawF 4) 67 a2 c2 ([] : List (Raw 4))]) (ob := []) (by kernel_rfl) trivial fun a w hS => ?_
    refine wl_end ?_
    refine hK6 _ _ ?_
    refine k_ret (by kernel_rfl) ?_
    try simp only [Exit.then, Exit.inBlock]
    refine r_ret hS [.tmp 6] [] (xs := [.slice a0 p0.length c0]) (ps := []) [0] [] rfl (by kernel_rfl) (fun hA => trivial) rfl (fun F up => trivial) ?_
    exact ⟨a0, c0, rfl, rfl, rfl⟩
  have hm : 0 < p2.length := by
    rcases Nat.eq_zero_or_pos p2.length with h0 | h0
    · rw [h0] at hq; simp at hq
    · exact h0
  obtain ⟨g3, rfl⟩ := row_block (hS.st.own (rowF (rawF 4) 67 a2 c2 p2) (by simp)) (by omega)
  refine k_skip (by kernel_rfl) ?_
  refine hK4 _ _ ?_
  refine k_seq (by kernel_rfl) fun K7 hK7 => ?_
  refine k_reg 3 (by kernel_rfl) ?_
  refine r_run 0 3 [0, 1, 2, 7, 8] [] hS rfl (L' := [(0, .slice a0 p0.length c0), (1, .int .i64 i), (2, .slice (some ⟨g3, 0, none⟩) p2.length c2), (7, .int .i64 (p2.length : Int)), (8, .int .i64 (p0.length : Int))]) (As' := [rowF (rawF 4) 67 a0 c0 p0, rowF (rawF 4) 67 (some ⟨g3, 0, none⟩) c2 p2]) (ob := []) (by kernel_rfl) trivial fun a w hS => ?_
  refine wl_end ?_
  refine hK7 _ _ ?_
  refine k_seq (by kernel_rfl) fun K8 hK8 => ?_
  refine k_seq (by kernel_rfl) fun K9 hK9 => ?_
  refine k_reg 3 (by kernel_rfl) ?_
  refine r_run 0 3 [0, 1, 2, 7, 8, 22] [] hS rfl (L' := [(0, .slice a0 p0.length c0), (1, .int .i64 i), (2, .slice (some ⟨g3, 0, none⟩) p2.length c2), (7, .int .i64 (p2.length : Int)), (8, .int .i64 (p0.length : Int)), (22, .bool ((i : Int) == (p0.length : Int)))]) (As' := [rowF (rawF 4) 67 a0 c0 p0, rowF (rawF 4) 67 (some ⟨g3, 0, none⟩) c2 p2]) (ob := []) (by kernel_rfl) trivial fun a w hS => ?_
  refine wl_end ?_
  refine hK9 _ _ ?_
  refine k_cond ((i : Int) == (p0.length : Int)) hS.has (by kernel_rfl) (by kernel_rfl) (by kernel_rfl) (fun hq2 => ?_) (fun hq2 => ?_)
  · have hin : i = p0.length := by
      have := of_decide_eq_true (p := (i : Int) = (p0.length : Int)) (by simpa using hq2)
      omega
    have hr' : r = p0 ++ p2 := by rw [← hr, hin]; simp
    refine k_seq (by kernel_rfl) fun K6 hK6 => ?_
    refine k_reg 4 (by kernel_rfl) ?_
    refine r_run 0 2 [23, 24] [] hS rfl (L' := [(23, .slice a0 p0.length c0), (24, .slice (some ⟨g3, 0, none⟩) p2.length c2)]) (As' := [rowF (rawF 4) 67 a0 c0 p0, rowF (rawF 4) 67 (some ⟨g3, 0, none⟩) c2 p2]) (ob := []) (by kernel_rfl) trivial fun a w hS => ?_
    refine r_append 2 rfl (d := 25) (t := 25) (A := a0) (c := c0) (k := p0.length) (b := some ⟨g3, 0, none⟩) (c2 := c2) (m := p2.length) (p2.flatMap ((rawF 4)).enc) 0 [0] hS (appChk_sound (by kernel_rfl)) (by kernel_rfl) rfl rfl (fun F up le => appB (F := (rawF 4)) (le 0 rfl _ fun w h => rowRS h)) hroom fun a5 c5 a w hS => ?_
    replace hS := rowF_app (F := (rawF 4)) (l := p0) (m := p2) hS hr'
    refine r_run 3 1 [6] [] hS rfl (L' := [(6, .slice a5 r.length c5)]) (As' := [rowF (rawF 4) 67 a5 c5 r, rowF (rawF 4) 67 (some ⟨g3, 0, none⟩) c2 p2]) (ob := []) (by kernel_rfl) trivial fun a w hS => ?_
    refine wl_end ?_
    refine hK6 _ _ ?_
    refine k_ret (by kernel_rfl) ?_
    try simp only [Exit.then, Exit.inBlock]
    refine r_ret hS [.tmp 6] [] (xs := [.slice a5 r.length c5]) (ps := []) [0] [] rfl (by kernel_rfl) (fun hA => trivial) rfl (fun F up => trivial) ?_
    exact ⟨a5, c5, rfl, rfl, rfl⟩
  have hin : i < p0.length := by
    rcases Nat.lt_or_ge i p0.length with h0 | h0
    · exact h0
    · have : i = p0.length := by omega
      rw [this] at hq2; simp at hq2
  obtain ⟨g, rfl⟩ := row_block (hS.st.own (rowF (rawF 4) 67 a0 c0 p0) (by simp)) (by omega)
  have hw : IntKind.wrap .i64 ((p0.length : Int) + (p2.length : Int)) = ((p0.length + p2.length : Nat) : Int) := by rw [IntKind.wrap_i64]; omega
  have hw2 : IntKind.wrap .i64 ((i : Int) + (p2.length : Int)) = ((i + p2.length : Nat) : Int) := by rw [IntKind.wrap_i64]; omega
  have hsz : 0 < ((rawF 4)).sz := by decide
  have hX : (p0.take i).flatMap ((rawF 4)).enc = (p0.flatMap ((rawF 4)).enc).take (i * ((rawF 4)).sz) := flat_take p0 i
  have hY : (p0.drop i).flatMap ((rawF 4)).enc = (p0.flatMap ((rawF 4)).enc).drop (i * ((rawF 4)).sz) := flat_drop p0 i
  have lX : ((p0.take i).flatMap ((rawF 4)).enc).length = i * ((rawF 4)).sz := by rw [flat_len, List.length_take, Nat.min_eq_left hil]
  have lY : ((p0.drop i).flatMap ((rawF 4)).enc).length = (p0.length - i) * ((rawF 4)).sz := by rw [flat_len, List.length_drop]
  have lV : (p2.flatMap ((rawF 4)).enc).length = p2.length * ((rawF 4)).sz := flat_len p2
  have hXY : (p0.take i).flatMap ((rawF 4)).enc ++ (p0.drop i).flatMap ((rawF 4)).enc = p0.flatMap ((rawF 4)).enc := by rw [← List.flatMap_append, List.take_append_drop]
  have hre : r.flatMap ((rawF 4)).enc = (p0.take i).flatMap ((rawF 4)).enc ++ p2.flatMap ((rawF 4)).enc ++ (p0.drop i).flatMap ((rawF 4)).enc := by rw [← hr, List.flatMap_append, List.flatMap_append]
  have hV1 : ∀ v ∈ p2.flatMap ((rawF 4)).enc, v.oneCell' = true := flat_one p2
  have hY1 : ∀ v ∈ (p0.drop i).flatMap ((rawF 4)).enc, v.oneCell' = true := flat_one _
  refine k_skip (by kernel_rfl) ?_
  refine hK8 _ _ ?_
  refine k_seq (by kernel_rfl) fun K10 hK10 => ?_
  refine k_seq (by kernel_rfl) fun K11 hK11 => ?_
  refine k_reg 6 (by kernel_rfl) ?_
  refine r_run 0 6 [0, 1, 2, 7, 8, 31] [.as 28 (.int .i64 ((p0.length + p2.length : Nat) : Int))] hS rfl (L' := [(0, .slice (some ⟨g, 0, none⟩) p0.length c0), (1, .int .i64 i), (2, .slice (some ⟨g3, 0, none⟩) p2.length c2), (7, .int .i64 (p2.length : Int)), (8, .int .i64 (p0.length : Int)), (31, .bool (decide (((p0.length + p2.length : Nat) : Int) > (c0 : Int))))]) (As' := [rowF (rawF 4) 67 (some ⟨g, 0, none⟩) c0 p0, rowF (rawF 4) 67 (some ⟨g3, 0, none⟩) c2 p2]) (ob := [fun _ => Value.int .i64 (IntKind.wrap .i64 ((p0.length : Int) + (p2.length : Int))) = .int .i64 ((p0.length + p2.length : Nat) : Int)]) (by kernel_rfl) ⟨Bx.c (by rw [hw]), trivial⟩ fun a w hS => ?_
  refine wl_end ?_
  refine hK11 _ _ ?_
  refine k_cond (decide (((p0.length + p2.length : Nat) : Int) > (c0 : Int))) hS.has (by kernel_rfl) (by kernel_rfl) (by kernel_rfl) (fun hq3 => ?_) (fun hq3 => ?_)
  · have hgt : c0 < p0.length + p2.length := by have := of_decide_eq_true hq3; omega
    have hk : p0.length + p2.length - i + i = p0.length + p2.length := by omega
    have hw3 : IntKind.wrap .i64 (((p0.length + p2.length : Nat) : Int) - (i : Int)) = ((p0.length + p2.length - i : Nat) : Int) := by rw [IntKind.wrap_i64]; omega
    refine k_seq (by kernel_rfl) fun K12 hK12 => ?_
    refine k_reg 10 (by kernel_rfl) ?_
    refine r_run 0 8 [0, 1, 2, 7, 8, 34, 39] [.as 34 (.slice (some ⟨g, 0, none⟩) i c0), .as 37 (.int .i64 ((p0.length + p2.length : Nat) : Int)), .as 39 (.int .i64 ((p0.length + p2.length - i : Nat) : Int))] hS rfl (L' := [(0, .slice (some ⟨g, 0, none⟩) p0.length c0), (1, .int .i64 i), (2, .slice (some ⟨g3, 0, none⟩) p2.length c2), (7, .int .i64 (p2.length : Int)), (8, .int .i64 (p0.length : Int)), (34, .slice (some ⟨g, 0, none⟩) i c0), (39, .int .i64 ((p0.length + p2.length - i : Nat) : Int))]) (As' := [rowF (rawF 4) 67 (some ⟨g, 0, none⟩) c0 p0, rowF (rawF 4) 67 (some ⟨g3, 0, none⟩) c2 p2]) (ob := [fun _ => (0 : Int) ≤ 0 ∧ (0 : Int) ≤ (i : Int) ∧ (i : Int) ≤ (c0 : Int), fun _ => Value.slice (slA (some ⟨g, 0, none⟩) 0 c0 ((rawF 4)).sz) i c0 = .slice (some ⟨g, 0, none⟩) i c0, fun _ => Value.int .i64 (IntKind.wrap .i64 ((p0.length : Int) + (p2.length : Int))) = .int .i64 ((p0.length + p2.length : Nat) : Int), fun _ => Value.int .i64 (IntKind.wrap .i64 (((p0.length + p2.length : Nat) : Int) - (i : Int))) = .int .i64 ((p0.length + p2.length - i : Nat) : Int)]) (by kernel_rfl) ⟨Bx.c ⟨by omega, by omega, by omega⟩, Bx.c (by rw [slA_zero]), Bx.c (by rw [hw]), Bx.c (by rw [hw3]), trivial⟩ fun a w hS => ?_
    obtain ⟨w', g2, c5, hrun, hc5, ⟨T, hT, hrow⟩, hext, hg2, hg2'⟩ := run_zeros_row (P := Try.prog) (sz := ((rawF 4)).sz) (t := 25) (tn := 3) (ty := 25) (i := i) (k := p0.length + p2.length - i) (bytes := 40) (inf := Try.t67) (z := (Try.t67.zero).getD undef) (kq := .i64) (kn := .i64) (by kernel_rfl) (by kernel_rfl) (by kernel_rfl) (by kernel_rfl) rfl (by kernel_rfl) (by kernel_rfl) hsz (by decide) (hS.st.own (rowF (rawF 4) 67 (some ⟨g, 0, none⟩) c0 p0) (by simp)) hil (by omega) (by omega) (by rw [show i + (p0.length + p2.length - i) = p0.length + p2.length from by omega]; exact hroom)
    have hik : i + (p0.length + p2.length - i) = p0.length + p2.length := by omega
    rw [hik] at hrun hc5 hT
    refine r_bltN 8 rfl (d := some 40) (b := .append) (ts := #[25, 3]) (ty := 25) (vs := #[.slice (some ⟨g, 0, none⟩) i c0, .int .i64 ((p0.length + p2.length - i : Nat) : Int)]) hS (by kernel_rfl) _ hrun hrow hext (fun x hx => by simp [Asn.fp] at hx; subst hx; exact ⟨hg2, hg2'⟩) (by simp [Asn.fp]) fun a hS => ?_
    rw [← hX] at hS
    generalize hZ : (Builtin.zeroCells ((Try.t67.zero).getD undef).cells (p0.length + p2.length - i)).toList = Z at hS
    have lZ : Z.length = (p2.flatMap ((rawF 4)).enc).length + ((p0.drop i).flatMap ((rawF 4)).enc).length := by
      rw [← hZ, zeros_len, lV, lY, ← Nat.add_mul, show ((Try.t67.zero).getD undef).cells.size = ((rawF 4)).sz from by kernel_rfl]
      congr 1; omega
    refine r_run 9 1 [0, 1, 2, 7, 9] [] hS rfl (L' := [(0, .slice (some ⟨g, 0, none⟩) p0.length c0), (1, .int .i64 i), (2, .slice (some ⟨g3, 0, none⟩) p2.length c2), (7, .int .i64 (p2.length : Int)), (9, .slice (some ⟨g2, 0, none⟩) (p0.length + p2.length) c5)]) (As' := [.row (some ⟨g2, 0, none⟩) c5 67 ((rawF 4)).sz c5 ((p0.take i).flatMap ((rawF 4)).enc ++ Z ++ T), rowF (rawF 4) 67 (some ⟨g, 0, none⟩) c0 p0, rowF (rawF 4) 67 (some ⟨g3, 0, none⟩) c2 p2]) (ob := []) (by kernel_rfl) trivial fun a w hS => ?_
    refine wl_end ?_
    refine hK12 _ _ ?_
    refine k_seq (by kernel_rfl) fun K13 hK13 => ?_
    refine k_reg 5 (by kernel_rfl) ?_
    have hs1 : slA (some (⟨g2, 0, none⟩ : Addr)) i c5 ((rawF 4)).sz = some ⟨g2, i * ((rawF 4)).sz, none⟩ := by
      unfold slA; rw [if_neg (by omega)]; simp only [Option.map_some, addr_add0]
    refine r_run 0 4 [0, 1, 7, 9, 43, 44] [.as 43 (.slice (some ⟨g2, i * ((rawF 4)).sz, none⟩) (p0.length + p2.length - i) (c5 - i))] hS rfl (L' := [(0, .slice (some ⟨g, 0, none⟩) p0.length c0), (1, .int .i64 i), (7, .int .i64 (p2.length : Int)), (9, .slice (some ⟨g2, 0, none⟩) (p0.length + p2.length) c5), (43, .slice (some ⟨g2, i * ((rawF 4)).sz, none⟩) (p0.length + p2.length - i) (c5 - i)), (44, .slice (some ⟨g3, 0, none⟩) p2.length c2)]) (As' := [.row (some ⟨g2, 0, none⟩) c5 67 ((rawF 4)).sz c5 ((p0.take i).flatMap ((rawF 4)).enc ++ Z ++ T), rowF (rawF 4) 67 (some ⟨g, 0, none⟩) c0 p0, rowF (rawF 4) 67 (some ⟨g3, 0, none⟩) c2 p2]) (ob := [fun _ => 0 ≤ (i : Int) ∧ (i : Int) ≤ ((p0.length + p2.length : Nat) : Int) ∧ ((p0.length + p2.length : Nat) : Int) ≤ (c5 : Int), fun _ => Value.slice (slA (some ⟨g2, 0, none⟩) i c5 ((rawF 4)).sz) (p0.length + p2.length - i) (c5 - i) = .slice (some ⟨g2, i * ((rawF 4)).sz, none⟩) (p0.length + p2.length - i) (c5 - i)]) (by kernel_rfl) ⟨Bx.c ⟨by omega, by omega, by omega⟩, Bx.c (by rw [hs1]), trivial⟩ fun a w hS => ?_
    have hsrc := row_cellsAt (hS.st.own (rowF (rawF 4) 67 (some ⟨g3, 0, none⟩) c2 p2) (by simp)) 0 (p2.flatMap ((rawF 4)).enc).length
    rw [List.drop_zero, List.take_length] at hsrc
    have hfit1 : i * ((rawF 4)).sz + (p2.flatMap ((rawF 4)).enc).length ≤ c5 * ((rawF 4)).sz := by rw [lV, ← Nat.add_mul]; exact Nat.mul_le_mul_right _ (by omega)
    have hmin1 : Nat.min p2.length (p0.length + p2.length - i) = p2.length := Nat.min_eq_left (by omega)
    refine r_bltS 4 rfl 0 (.row (some ⟨g2, 0, none⟩) c5 67 ((rawF 4)).sz c5 (spl ((p0.take i).flatMap ((rawF 4)).enc ++ Z ++ T) (i * ((rawF 4)).sz) (p2.flatMap ((rawF 4)).enc))) (d := some 45) (b := .copy) (ts := #[25, 25]) (ty := 3) (vs := #[.slice (some ⟨g2, i * ((rawF 4)).sz, none⟩) (p0.length + p2.length - i) (c5 - i), .slice (some ⟨g3, 0, none⟩) p2.length c2]) hS (by kernel_rfl) rfl (fun hA => run_copyR (dT := 25) (sT := 25) (ty := 3) (inf := Try.t67) (by kernel_rfl) (by kernel_rfl) rfl hA (by rw [hmin1, lV]) hsrc hfit1 hV1) rfl (by simp [Asn.fp]) fun a w hS => ?_
    refine wl_end ?_
    refine hK13 _ _ ?_
    refine k_seq (by kernel_rfl) fun K14 hK14 => ?_
    have hs2 : slA (some (⟨g2, 0, none⟩ : Addr)) (i + p2.length) c5 ((rawF 4)).sz = some ⟨g2, (i + p2.length) * ((rawF 4)).sz, none⟩ := by
      unfold slA; rw [if_neg (by omega)]; simp only [Option.map_some, addr_add0]
    have hs3 : slA (some (⟨g, 0, none⟩ : Addr)) i c0 ((rawF 4)).sz = some ⟨g, i * ((rawF 4)).sz, none⟩ := by
      unfold slA; rw [if_neg (by omega)]; simp only [Option.map_some, addr_add0]
    refine k_draw 8 9 [.val (.slice (some ⟨g2, 0, none⟩) (p0.length + p2.length) c5), .val (.int .i64 i), .val (.int .i64 (p2.length : Int)), .val (.int .i64 ((i + p2.length : Nat) : Int)), .val (.slice (some ⟨g2, (i + p2.length) * ((rawF 4)).sz, none⟩) (p0.length + p2.length - (i + p2.length)) (c5 - (i + p2.length))), .val (.slice (some ⟨g, 0, none⟩) p0.length c0), .val (.int .i64 i), .val (.slice (some ⟨g, i * ((rawF 4)).sz, none⟩) (p0.length - i) (c0 - i))] [] [(0, []), (1, []), (2, []), (3, [.as 49 (.int .i64 ((i + p2.length : Nat) : Int))]), (4, [.as 50 (.slice (some ⟨g2, (i + p2.length) * ((rawF 4)).sz, none⟩) (p0.length + p2.length - (i + p2.length)) (c5 - (i + p2.length)))]), (5, []), (6, []), (7, [.as 53 (.slice (some ⟨g, i * ((rawF 4)).sz, none⟩) (p0.length - i) (c0 - i))])] [] (ob := [fun _ => Value.int .i64 (IntKind.wrap .i64 ((i : Int) + (p2.length : Int))) = .int .i64 ((i + p2.length : Nat) : Int), fun _ => 0 ≤ ((i + p2.length : Nat) : Int) ∧ ((i + p2.length : Nat) : Int) ≤ ((p0.length + p2.length : Nat) : Int) ∧ ((p0.length + p2.length : Nat) : Int) ≤ (c5 : Int), fun _ => Value.slice (slA (some ⟨g2, 0, none⟩) (i + p2.length) c5 ((rawF 4)).sz) (p0.length + p2.length - (i + p2.length)) (c5 - (i + p2.length)) = .slice (some ⟨g2, (i + p2.length) * ((rawF 4)).sz, none⟩) (p0.length + p2.length - (i + p2.length)) (c5 - (i + p2.length)), fun _ => 0 ≤ (i : Int) ∧ (i : Int) ≤ (p0.length : Int) ∧ (p0.length : Int) ≤ (c0 : Int), fun _ => Value.slice (slA (some ⟨g, 0, none⟩) i c0 ((rawF 4)).sz) (p0.length - i) (c0 - i) = .slice (some ⟨g, i * ((rawF 4)).sz, none⟩) (p0.length - i) (c0 - i)]) (by kernel_rfl) (by kernel_rfl) hS (by kernel_rfl) (fun F N0 => by kernel_rfl) (by kernel_rfl) (by kernel_rfl) (by kernel_rfl) (by kernel_rfl) ⟨Bx.c (by rw [hw2]), Bx.c ⟨by omega, by omega, by omega⟩, Bx.c (by rw [hs2]), Bx.c ⟨by omega, by omega, by omega⟩, Bx.c (by rw [hs3]), trivial⟩ ?_ ?_
    · exact trivial
    intro V a w e hS hq
    have hsrc := row_cellsAt (hS.st.own (rowF (rawF 4) 67 (some ⟨g, 0, none⟩) c0 p0) (by simp [List.set])) (i * ((rawF 4)).sz) ((p0.drop i).flatMap ((rawF 4)).enc).length
    rw [← hY, List.take_length] at hsrc
    have hmin2 : Nat.min (p0.length - i) (p0.length + p2.length - (i + p2.length)) = p0.length - i := Nat.min_eq_left (by omega)
    have hfit2 : (i + p2.length) * ((rawF 4)).sz + ((p0.drop i).flatMap ((rawF 4)).enc).length ≤ c5 * ((rawF 4)).sz := by rw [lY, ← Nat.add_mul]; exact Nat.mul_le_mul_right _ (by omega)
    refine r_bltS 8 rfl 0 (.row (some ⟨g2, 0, none⟩) c5 67 ((rawF 4)).sz c5 (spl (spl ((p0.take i).flatMap ((rawF 4)).enc ++ Z ++ T) (i * ((rawF 4)).sz) (p2.flatMap ((rawF 4)).enc)) ((i + p2.length) * ((rawF 4)).sz) ((p0.drop i).flatMap ((rawF 4)).enc))) (d := some 54) (b := .copy) (ts := #[25, 25]) (ty := 3) (vs := #[.slice (some ⟨g2, (i + p2.length) * ((rawF 4)).sz, none⟩) (p0.length + p2.length - (i + p2.length)) (c5 - (i + p2.length)), .slice (some ⟨g, i * ((rawF 4)).sz, none⟩) (p0.length - i) (c0 - i)]) hS (by kernel_rfl) rfl (fun hA => run_copyR (dT := 25) (sT := 25) (ty := 3) (inf := Try.t67) (by kernel_rfl) (by kernel_rfl) rfl hA (by rw [hmin2, lY]) hsrc hfit2 hY1) rfl (by simp [Asn.fp]) fun a w hS => ?_
    have hfin : (spl (spl ((p0.take i).flatMap ((rawF 4)).enc ++ Z ++ T) (i * ((rawF 4)).sz) (p2.flatMap ((rawF 4)).enc)) ((i + p2.length) * ((rawF 4)).sz) ((p0.drop i).flatMap ((rawF 4)).enc)).take ((p0.length + p2.length) * ((rawF 4)).sz) = r.flatMap ((rawF 4)).enc := by
      have := cells_new ((p0.take i).flatMap ((rawF 4)).enc) ((p0.drop i).flatMap ((rawF 4)).enc) (p2.flatMap ((rawF 4)).enc) Z T lZ
      rw [lX, lV, ← Nat.add_mul] at this
      rw [this, hre, List.take_left' (by rw [List.length_append, List.length_append, lX, lV, lY, ← Nat.add_mul, ← Nat.add_mul]; congr 1; omega)]
    replace hS := hS.same (B := rowF (rawF 4) 67 (some ⟨g2, 0, none⟩) c5 r) 0 rfl (fun hA => row_app_form hA hrl hc5 hfin) rfl (by simp [Asn.fp])
    refine wl_end ?_
    refine hK14 _ _ ?_
    refine k_seq (by kernel_rfl) fun K15 hK15 => ?_
    refine k_reg 2 (by kernel_rfl) ?_
    refine r_run 0 2 [6] [] hS rfl (L' := [(6, .slice (some ⟨g2, 0, none⟩) (p0.length + p2.length) c5)]) (As' := [rowF (rawF 4) 67 (some ⟨g2, 0, none⟩) c5 r, rowF (rawF 4) 67 (some ⟨g, 0, none⟩) c0 p0, rowF (rawF 4) 67 (some ⟨g3, 0, none⟩) c2 p2]) (ob := []) (by kernel_rfl) trivial fun a w hS => ?_
    refine wl_end ?_
    refine hK15 _ _ ?_
    refine k_ret (by kernel_rfl) ?_
    try simp only [Exit.then, Exit.inBlock]
    refine r_ret hS [.tmp 6] [] (xs := [.slice (some ⟨g2, 0, none⟩) (p0.length + p2.length) c5]) (ps := []) [0] [] rfl (by kernel_rfl) (fun hA => trivial) rfl (fun F up => trivial) ?_
    exact ⟨some ⟨g2, 0, none⟩, c5, by rw [hrl]; rfl, rfl, rfl⟩
  have hle : p0.length + p2.length ≤ c0 := by have := of_decide_eq_false hq3; omega
  refine k_skip (by kernel_rfl) ?_
  refine hK10 _ _ ?_
  refine k_seq (by kernel_rfl) fun K12 hK12 => ?_
  refine k_reg 6 (by kernel_rfl) ?_
  refine r_run 0 6 [0, 1, 2, 7] [.as 59 (.int .i64 ((p0.length + p2.length : Nat) : Int)), .as 60 (.slice (some ⟨g, 0, none⟩) (p0.length + p2.length) c0)] hS rfl (L' := [(0, .slice (some ⟨g, 0, none⟩) (p0.length + p2.length) c0), (1, .int .i64 i), (2, .slice (some ⟨g3, 0, none⟩) p2.length c2), (7, .int .i64 (p2.length : Int))]) (As' := [rowF (rawF 4) 67 (some ⟨g, 0, none⟩) c0 p0, rowF (rawF 4) 67 (some ⟨g3, 0, none⟩) c2 p2]) (ob := [fun _ => Value.int .i64 (IntKind.wrap .i64 ((p0.length : Int) + (p2.length : Int))) = .int .i64 ((p0.length + p2.length : Nat) : Int), fun _ => (0 : Int) ≤ 0 ∧ (0 : Int) ≤ ((p0.length + p2.length : Nat) : Int) ∧ ((p0.length + p2.length : Nat) : Int) ≤ (c0 : Int), fun _ => Value.slice (slA (some ⟨g, 0, none⟩) 0 c0 ((rawF 4)).sz) (p0.length + p2.length) c0 = .slice (some ⟨g, 0, none⟩) (p0.length + p2.length) c0]) (by kernel_rfl) ⟨Bx.c (by rw [hw]), Bx.c ⟨by omega, by omega, by omega⟩, Bx.c (by rw [slA_zero]), trivial⟩ fun a w hS => ?_
  obtain ⟨ds, hd1, hd2, hd3, hd4⟩ := row_full (hS.st.own (rowF (rawF 4) 67 (some ⟨g, 0, none⟩) c0 p0) (by simp))
  replace hS := hS.same (B := .row (some ⟨g, 0, none⟩) c0 67 ((rawF 4)).sz c0 ds) 0 rfl (fun _ => hd4) rfl (by simp [Asn.fp])
  refine wl_end ?_
  refine hK12 _ _ ?_
  refine k_seq (by kernel_rfl) fun K13 hK13 => ?_
  refine k_seq (by kernel_rfl) fun K14 hK14 => ?_
  refine k_reg 8 (by kernel_rfl) ?_
  have hs2 : slA (some (⟨g, 0, none⟩ : Addr)) (i + p2.length) c0 ((rawF 4)).sz = some ⟨g, (i + p2.length) * ((rawF 4)).sz, none⟩ := by
    unfold slA; rw [if_neg (by omega)]; simp only [Option.map_some, addr_add0]
  have hs3 : slA (some (⟨g, 0, none⟩ : Addr)) i c0 ((rawF 4)).sz = some ⟨g, i * ((rawF 4)).sz, none⟩ := by
    unfold slA; rw [if_neg (by omega)]; simp only [Option.map_some, addr_add0]
  refine r_run 0 6 [0, 1, 2, 7, 61, 66] [.as 65 (.int .i64 ((i + p2.length : Nat) : Int)), .as 66 (.slice (some ⟨g, (i + p2.length) * ((rawF 4)).sz, none⟩) (p0.length + p2.length - (i + p2.length)) (c0 - (i + p2.length)))] hS rfl (L' := [(0, .slice (some ⟨g, 0, none⟩) (p0.length + p2.length) c0), (1, .int .i64 i), (2, .slice (some ⟨g3, 0, none⟩) p2.length c2), (7, .int .i64 (p2.length : Int)), (61, .slice (some ⟨g3, 0, none⟩) p2.length c2), (66, .slice (some ⟨g, (i + p2.length) * ((rawF 4)).sz, none⟩) (p0.length + p2.length - (i + p2.length)) (c0 - (i + p2.length)))]) (As' := [.row (some ⟨g, 0, none⟩) c0 67 ((rawF 4)).sz c0 ds, rowF (rawF 4) 67 (some ⟨g3, 0, none⟩) c2 p2]) (ob := [fun _ => Value.int .i64 (IntKind.wrap .i64 ((i : Int) + (p2.length : Int))) = .int .i64 ((i + p2.length : Nat) : Int), fun _ => 0 ≤ ((i + p2.length : Nat) : Int) ∧ ((i + p2.length : Nat) : Int) ≤ ((p0.length + p2.length : Nat) : Int) ∧ ((p0.length + p2.length : Nat) : Int) ≤ (c0 : Int), fun _ => Value.slice (slA (some ⟨g, 0, none⟩) (i + p2.length) c0 ((rawF 4)).sz) (p0.length + p2.length - (i + p2.length)) (c0 - (i + p2.length)) = .slice (some ⟨g, (i + p2.length) * ((rawF 4)).sz, none⟩) (p0.length + p2.length - (i + p2.length)) (c0 - (i + p2.length))]) (by kernel_rfl) ⟨Bx.c (by rw [hw2]), Bx.c ⟨by omega, by omega, by omega⟩, Bx.c (by rw [hs2]), trivial⟩ fun a w hS => ?_
  have hne : g3 ≠ g := by
    have := (List.nodup_append.1 hS.st.nd).2.1
    simp [fps, Asn.fp] at this
    exact fun e => this e.symm
  have hA0 := row_shape (hS.st.own (.row (some ⟨g, 0, none⟩) c0 67 ((rawF 4)).sz c0 ds) (by simp))
  have hA1 := row_shape (hS.st.own (rowF (rawF 4) 67 (some ⟨g3, 0, none⟩) c2 p2) (by simp))
  have hcsz : c0 * ((rawF 4)).sz ≠ 0 := Nat.mul_ne_zero (by omega) (by omega)
  have hov : (callFunc 101 #[.slice (some ⟨g3, 0, none⟩) p2.length c2, .slice (some ⟨g, (i + p2.length) * ((rawF 4)).sz, none⟩) (p0.length + p2.length - (i + p2.length)) (c0 - (i + p2.length))]).run Try.prog w = .ok (.value (.bool false)) w := by
    rw [run_callFunc_extern Try.func101 (by kernel_rfl) (by kernel_rfl) (by kernel_rfl) (e := Extern.SlicesOverlaps.overlaps #[25, 25] #[4]) (by kernel_rfl),
      Lib.run_overlaps_apart w 25 4 67 (by kernel_rfl) ((rawF 4)).sz (fun w => by simp [sizeOf, run_info (show Try.prog.info? 67 = some Try.t67 from by kernel_rfl)]; kernel_rfl) ⟨g3, 0, none⟩ ⟨g, (i + p2.length) * ((rawF 4)).sz, none⟩ p2.length c2 _ _ hne _ _ _ _ hA1.1 hA0.1 hcsz (hA1.2 _) (hA1.2 _)]
    rfl
  refine r_ext 6 rfl (d := some 67) (g := 101) (args := #[.slice (some ⟨g3, 0, none⟩) p2.length c2, .slice (some ⟨g, (i + p2.length) * ((rawF 4)).sz, none⟩) (p0.length + p2.length - (i + p2.length)) (c0 - (i + p2.length))]) hS (by kernel_rfl) hov fun a hS => ?_
  refine r_run 7 1 [0, 1, 2, 7, 68] [] hS rfl (L' := [(0, .slice (some ⟨g, 0, none⟩) (p0.length + p2.length) c0), (1, .int .i64 i), (2, .slice (some ⟨g3, 0, none⟩) p2.length c2), (7, .int .i64 (p2.length : Int)), (68, .bool true)]) (As' := [.row (some ⟨g, 0, none⟩) c0 67 ((rawF 4)).sz c0 ds, rowF (rawF 4) 67 (some ⟨g3, 0, none⟩) c2 p2]) (ob := []) (by kernel_rfl) trivial fun a w hS => ?_
  refine wl_end ?_
  refine hK14 _ _ ?_
  refine k_cond true hS.has (by kernel_rfl) (by kernel_rfl) (by kernel_rfl) (fun _ => ?_) (fun hx => by cases hx)
  refine k_seq (by kernel_rfl) fun K15 hK15 => ?_
  obtain ⟨Z, hZ⟩ : ∃ Z, ds = (p0.take i).flatMap ((rawF 4)).enc ++ (p0.drop i).flatMap ((rawF 4)).enc ++ Z := ⟨ds.drop (p0.length * ((rawF 4)).sz), by rw [hXY]; conv => lhs; rw [← List.take_append_drop (p0.length * ((rawF 4)).sz) ds, hd1]⟩
  have lds : ds.length = c0 * ((rawF 4)).sz := hd2
  have lZ : (p2.flatMap ((rawF 4)).enc).length ≤ ((p0.drop i).flatMap ((rawF 4)).enc).length + Z.length := by
    have h1 := lds
    rw [hZ, List.length_append, List.length_append, lX, lY] at h1
    rw [lV, lY]
    have h2 := Nat.mul_le_mul_right ((rawF 4)).sz hle
    rw [Nat.add_mul] at h2
    have h3 : i * ((rawF 4)).sz + (p0.length - i) * ((rawF 4)).sz = p0.length * ((rawF 4)).sz := by rw [← Nat.add_mul]; congr 1; omega
    omega
  refine k_draw 8 9 [.val (.slice (some ⟨g, 0, none⟩) (p0.length + p2.length) c0), .val (.int .i64 i), .val (.int .i64 (p2.length : Int)), .val (.int .i64 ((i + p2.length : Nat) : Int)), .val (.slice (some ⟨g, (i + p2.length) * ((rawF 4)).sz, none⟩) (p0.length + p2.length - (i + p2.length)) (c0 - (i + p2.length))), .val (.slice (some ⟨g, 0, none⟩) (p0.length + p2.length) c0), .val (.int .i64 i), .val (.slice (some ⟨g, i * ((rawF 4)).sz, none⟩) (p0.length + p2.length - i) (c0 - i))] [] [(0, []), (1, []), (2, []), (3, [.as 72 (.int .i64 ((i + p2.length : Nat) : Int))]), (4, [.as 73 (.slice (some ⟨g, (i + p2.length) * ((rawF 4)).sz, none⟩) (p0.length + p2.length - (i + p2.length)) (c0 - (i + p2.length)))]), (5, []), (6, []), (7, [.as 76 (.slice (some ⟨g, i * ((rawF 4)).sz, none⟩) (p0.length + p2.length - i) (c0 - i))])] [] (ob := [fun _ => Value.int .i64 (IntKind.wrap .i64 ((i : Int) + (p2.length : Int))) = .int .i64 ((i + p2.length : Nat) : Int), fun _ => 0 ≤ ((i + p2.length : Nat) : Int) ∧ ((i + p2.length : Nat) : Int) ≤ ((p0.length + p2.length : Nat) : Int) ∧ ((p0.length + p2.length : Nat) : Int) ≤ (c0 : Int), fun _ => Value.slice (slA (some ⟨g, 0, none⟩) (i + p2.length) c0 ((rawF 4)).sz) (p0.length + p2.length - (i + p2.length)) (c0 - (i + p2.length)) = .slice (some ⟨g, (i + p2.length) * ((rawF 4)).sz, none⟩) (p0.length + p2.length - (i + p2.length)) (c0 - (i + p2.length)), fun _ => 0 ≤ (i : Int) ∧ (i : Int) ≤ ((p0.length + p2.length : Nat) : Int) ∧ ((p0.length + p2.length : Nat) : Int) ≤ (c0 : Int), fun _ => Value.slice (slA (some ⟨g, 0, none⟩) i c0 ((rawF 4)).sz) (p0.length + p2.length - i) (c0 - i) = .slice (some ⟨g, i * ((rawF 4)).sz, none⟩) (p0.length + p2.length - i) (c0 - i)]) (by kernel_rfl) (by kernel_rfl) hS (by kernel_rfl) (fun F N0 => by kernel_rfl) (by kernel_rfl) (by kernel_rfl) (by kernel_rfl) (by kernel_rfl) ⟨Bx.c (by rw [hw2]), Bx.c ⟨by omega, by omega, by omega⟩, Bx.c (by rw [hs2]), Bx.c ⟨by omega, by omega, by omega⟩, Bx.c (by rw [hs3]), trivial⟩ ?_ ?_
  · exact trivial
  intro V a w e hS hq
  have hsrc := row_cellsAt (hS.st.own (.row (some ⟨g, 0, none⟩) c0 67 ((rawF 4)).sz c0 ds) (by simp)) (i * ((rawF 4)).sz) ((p0.drop i).flatMap ((rawF 4)).enc).length
  have hdsd : (ds.drop (i * ((rawF 4)).sz)).take ((p0.drop i).flatMap ((rawF 4)).enc).length = (p0.drop i).flatMap ((rawF 4)).enc := by
    rw [hZ, List.append_assoc, ← lX, List.drop_left, List.take_left]
  rw [hdsd] at hsrc
  have hmin2 : Nat.min (p0.length + p2.length - i) (p0.length + p2.length - (i + p2.length)) = p0.length - i := by
    rw [show p0.length + p2.length - (i + p2.length) = p0.length - i from by omega]; exact Nat.min_eq_right (by omega)
  have hfit2 : (i + p2.length) * ((rawF 4)).sz + ((p0.drop i).flatMap ((rawF 4)).enc).length ≤ c0 * ((rawF 4)).sz := by rw [lY, ← Nat.add_mul]; exact Nat.mul_le_mul_right _ (by omega)
  refine r_bltS 8 rfl 0 (.row (some ⟨g, 0, none⟩) c0 67 ((rawF 4)).sz c0 (spl ds ((i + p2.length) * ((rawF 4)).sz) ((p0.drop i).flatMap ((rawF 4)).enc))) (d := some 77) (b := .copy) (ts := #[25, 25]) (ty := 3) (vs := #[.slice (some ⟨g, (i + p2.length) * ((rawF 4)).sz, none⟩) (p0.length + p2.length - (i + p2.length)) (c0 - (i + p2.length)), .slice (some ⟨g, i * ((rawF 4)).sz, none⟩) (p0.length + p2.length - i) (c0 - i)]) hS (by kernel_rfl) rfl (fun hA => run_copyR (dT := 25) (sT := 25) (ty := 3) (inf := Try.t67) (by kernel_rfl) (by kernel_rfl) rfl hA (by rw [hmin2, lY]) hsrc hfit2 hY1) rfl (by simp [Asn.fp]) fun a w hS => ?_
  refine wl_end ?_
  refine hK15 _ _ ?_
  refine k_seq (by kernel_rfl) fun K16 hK16 => ?_
  refine k_reg 5 (by kernel_rfl) ?_
  refine r_run 0 4 [0, 80, 81] [.as 80 (.slice (some ⟨g, i * ((rawF 4)).sz, none⟩) (p0.length + p2.length - i) (c0 - i))] hS rfl (L' := [(0, .slice (some ⟨g, 0, none⟩) (p0.length + p2.length) c0), (80, .slice (some ⟨g, i * ((rawF 4)).sz, none⟩) (p0.length + p2.length - i) (c0 - i)), (81, .slice (some ⟨g3, 0, none⟩) p2.length c2)]) (As' := [.row (some ⟨g, 0, none⟩) c0 67 ((rawF 4)).sz c0 (spl ds ((i + p2.length) * ((rawF 4)).sz) ((p0.drop i).flatMap ((rawF 4)).enc)), rowF (rawF 4) 67 (some ⟨g3, 0, none⟩) c2 p2]) (ob := [fun _ => 0 ≤ (i : Int) ∧ (i : Int) ≤ ((p0.length + p2.length : Nat) : Int) ∧ ((p0.length + p2.length : Nat) : Int) ≤ (c0 : Int), fun _ => Value.slice (slA (some ⟨g, 0, none⟩) i c0 ((rawF 4)).sz) (p0.length + p2.length - i) (c0 - i) = .slice (some ⟨g, i * ((rawF 4)).sz, none⟩) (p0.length + p2.length - i) (c0 - i)]) (by kernel_rfl) ⟨Bx.c ⟨by omega, by omega, by omega⟩, Bx.c (by rw [hs3]), trivial⟩ fun a w hS => ?_
  have hsrc := row_cellsAt (hS.st.own (rowF (rawF 4) 67 (some ⟨g3, 0, none⟩) c2 p2) (by simp)) 0 (p2.flatMap ((rawF 4)).enc).length
  rw [List.drop_zero, List.take_length] at hsrc
  have hfit1 : i * ((rawF 4)).sz + (p2.flatMap ((rawF 4)).enc).length ≤ c0 * ((rawF 4)).sz := by rw [lV, ← Nat.add_mul]; exact Nat.mul_le_mul_right _ (by omega)
  have hmin1 : Nat.min p2.length (p0.length + p2.length - i) = p2.length := Nat.min_eq_left (by omega)
  refine r_bltS 4 rfl 0 (.row (some ⟨g, 0, none⟩) c0 67 ((rawF 4)).sz c0 (spl (spl ds ((i + p2.length) * ((rawF 4)).sz) ((p0.drop i).flatMap ((rawF 4)).enc)) (i * ((rawF 4)).sz) (p2.flatMap ((rawF 4)).enc))) (d := some 82) (b := .copy) (ts := #[25, 25]) (ty := 3) (vs := #[.slice (some ⟨g, i * ((rawF 4)).sz, none⟩) (p0.length + p2.length - i) (c0 - i), .slice (some ⟨g3, 0, none⟩) p2.length c2]) hS (by kernel_rfl) rfl (fun hA => run_copyR (dT := 25) (sT := 25) (ty := 3) (inf := Try.t67) (by kernel_rfl) (by kernel_rfl) rfl hA (by rw [hmin1, lV]) hsrc hfit1 hV1) rfl (by simp [Asn.fp]) fun a w hS => ?_
  have hfin : (spl (spl ds ((i + p2.length) * ((rawF 4)).sz) ((p0.drop i).flatMap ((rawF 4)).enc)) (i * ((rawF 4)).sz) (p2.flatMap ((rawF 4)).enc)).take ((p0.length + p2.length) * ((rawF 4)).sz) = r.flatMap ((rawF 4)).enc := by
    have := cells_ins ((p0.take i).flatMap ((rawF 4)).enc) ((p0.drop i).flatMap ((rawF 4)).enc) (p2.flatMap ((rawF 4)).enc) Z lZ
    rw [lX, lV, ← Nat.add_mul, ← hZ] at this
    rw [this, hre, List.take_left' (by rw [List.length_append, List.length_append, lX, lV, lY, ← Nat.add_mul, ← Nat.add_mul]; congr 1; omega)]
  replace hS := hS.same (B := rowF (rawF 4) 67 (some ⟨g, 0, none⟩) c0 r) 0 rfl (fun hA => row_app_form hA hrl hle hfin) rfl (by simp [Asn.fp])
  refine wl_end ?_
  refine hK16 _ _ ?_
  refine k_seq (by kernel_rfl) fun K17 hK17 => ?_
  refine k_reg 2 (by kernel_rfl) ?_
  refine r_run 0 2 [6] [] hS rfl (L' := [(6, .slice (some ⟨g, 0, none⟩) (p0.length + p2.length) c0)]) (As' := [rowF (rawF 4) 67 (some ⟨g, 0, none⟩) c0 r, rowF (rawF 4) 67 (some ⟨g3, 0, none⟩) c2 p2]) (ob := []) (by kernel_rfl) trivial fun a w hS => ?_
  refine wl_end ?_
  refine hK17 _ _ ?_
  refine k_ret (by kernel_rfl) ?_
  try simp only [Exit.then, Exit.inBlock]
  refine r_ret hS [.tmp 6] [] (xs := [.slice (some ⟨g, 0, none⟩) (p0.length + p2.length) c0]) (ps := []) [0] [] rfl (by kernel_rfl) (fun hA => trivial) rfl (fun F up => trivial) ?_
  exact ⟨some ⟨g, 0, none⟩, c0, by rw [hrl]; rfl, rfl, rfl⟩
def slices_Insert_Row (n : Nat) (p1 : Int) (q0 q1 : List Row) : Option (List Row) := insL 40 q0 p1 q1
@[reducible] def slices_Insert_Row_ct : Ct tab := ⟨97, [.one (.own 0), .one (.d (.int .i64)), .one (.own 1)], [.row 67 (.st 3), .row 67 (.st 3)], [.one (.own 0)], [(none, .row 67 (.st 3))], List Row, fun y => (y, ()), fun y => y.1, fun _ => rfl, fun n x => slices_Insert_Row n x.1 x.2.1 x.2.2.1⟩
theorem slices_Insert_Row_ok : OkC Try.prog tab slices_Insert_Row_ct := ins_ok (t := .st 3) (m := 4) (bytes := 40) tabOk rfl Try.call97 fun p0 p1 p2 r h => slices_Insert_Row_raw p0 p1 p2 r h

end
end Go.Proofs.Ytegnflodgnfffaa
