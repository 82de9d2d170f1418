/- Functions of the program: plain twins and their contracts, printed by program. -/
import Derived.Test.YtlfjoaipbpendaaGreatDoorTypes
import Derived.Test.YtlfjoaipbpendaaGreatDoorF0
namespace Go.Proofs.YtlfjoaipbpendaaGreatDoor
open Go Go.Bur Go.RowKit
set_option linter.unusedVariables false
set_option linter.unusedSimpArgs false
set_option maxRecDepth 100000
noncomputable section
/-! bursary bursarylaw19.wakes -/
def law19_wakes (n : Nat) : Option Bool :=
  (law19_two n).bind fun y1 =>
  (request_Locks n y1 (Request.mk 8 (Key.mk 1 5) (Key.mk 0 7) 2 ByteArray.empty 0)).bind fun y2 =>
  (law19_two n).bind fun y3 =>
  (request_Text n y3 (Request.mk 8 (Key.mk 1 5) (Key.mk 0 7) 2 ByteArray.empty 0)).bind fun y4 =>
  (law19_two n).bind fun y5 =>
  (request_Parse n y5 y4.1).bind fun y6 =>
  jn (fun (b7 : Bool) =>
      jn (fun (b9 : Bool) =>
          jn (fun (b11 : Bool) =>
              jn (fun (b13 : Bool) =>
                  jn (fun (b15 : Bool) =>
                      jn (fun (b17 : Bool) =>
                          jn (fun (b19 : Bool) =>
                              some b19) fun k20 =>
                          cond b17
                            (k20 (Request.eqb y6.1 (Request.mk 8 (Key.mk 1 5) (Key.mk 0 7) 2 ByteArray.empty 0)))
                            (k20 false)) fun k18 =>
                      cond b15
                        (k18 (y4.1.toList == (ByteArray.mk #[109, 111, 118, 101, 32, 49, 32, 53, 32, 48, 32, 55, 32, 50]).toList))
                        (k18 false)) fun k16 =>
                  cond b13
                    ((idx y2.2 2).bind fun x21 =>
                    (idx y2.2 2).bind fun x22 =>
                    k16 (x22.res.id == 7))
                    (k16 false)) fun k14 =>
              cond b11
                ((idx y2.2 0).bind fun x23 =>
                (idx y2.2 0).bind fun x24 =>
                k14 (x24.mode == 2))
                (k14 false)) fun k12 =>
          cond b9
            (k12 ((y2.2.length : Int) == 4))
            (k12 false)) fun k10 =>
      cond b7
        (k10 (y6.2 == 0))
        (k10 false)) fun k8 =>
  cond (y2.1 == 0)
    (k8 (y4.2 == 0))
    (k8 false)
@[reducible] def law19_wakes_ct : Ct tab := ⟨9, [], [], [.one (.d .bool)], [], Bool, fun y => (y, ()), fun y => y.1, fun _ => rfl, fun n x => law19_wakes n⟩
theorem law19_wakes_ok : OkC Tryz.prog tab law19_wakes_ct := fn_ok (W := ⟨Tryz.prog, tab, tyOf, [law19_two_ct, request_Locks_ct, request_Text_ct, request_Parse_ct], addO, dpO, false⟩) ⟨tabOk, ⟨law19_two_ok, request_Locks_ok, request_Text_ok, request_Parse_ok, trivial⟩, addOk⟩ (by kernel_rfl) 68 Tryz.f9 (.n) Tryz.func9 Tryz.call9 rfl (by kernel_rfl) (by kernel_rfl) (by kernel_rfl) fun n x => by kernel_rfl

/-! bursary bursarylaw19.over -/
def law19_over_l1 (n : Nat) : Nat → (List Request) × Int × Int × Unit → Option Bool := loopF fun r1 ⟨v1, v2, v3, _⟩ =>
    cond (decide (v3 < v2))
      ((idx v1 v3).bind fun x4 =>
      cond (decide ((x4.note.size : Int) > 100))
        (some true)
        (r1 (v1, v2, (IntKind.wrap .i64 (v3 + 1)), ())))
      (some false)
def law19_over (n : Nat) (p0 : Schema) (p1 : List Request) : Option Bool :=
  cond (decide ((p0.tables.length : Int) > 20))
    (some true)
    (law19_over_l1 n n (p1, (p1.length : Int), 0, ()))
@[reducible] def law19_over_ct : Ct tab := ⟨10, [.st 1, .one (.d (.sl (.st 3)))], [], [.one (.d .bool)], [], Bool, fun y => (y, ()), fun y => y.1, fun _ => rfl, fun n x => law19_over n x.1 x.2.1⟩
theorem law19_over_ok : OkC Tryz.prog tab law19_over_ct := fn_ok (W := ⟨Tryz.prog, tab, tyOf, [], addO, dpO, false⟩) ⟨tabOk, trivial, addOk⟩ (by kernel_rfl) 22 Tryz.f10 (.sq (.n) (.sq (.n) (.sq (.sq (.n) (.bk none (.lp ⟨[(11, .one (.d (.sl (.st 3)))), (12, .one (.d (.int .i64))), (13, .one (.d (.int .i64)))], [], []⟩ (.n)))) (.n)))) Tryz.func10 Tryz.call10 rfl (by kernel_rfl) (by kernel_rfl) (by kernel_rfl) fun n x => by kernel_rfl

/-! bursary bursaryref05.Right -/
/-! bursary bursaryref05.KeyError -/
/-! bursary bursaryref15.RightRequest -/
/-! bursary bursaryref19.Quotes -/
/-! bursary bursaryref19.Right -/
/-! bursary bursaryref19.digits -/
/-! bursary bursaryref19.Number -/
/-! bursary bursaryref19.key -/
/-! bursary bursaryref19.Text -/
/-! bursary bursarylaw19.RequestTexts -/
/-! bursary bursarylaw19.RequestReads -/
/-! bursary bursarylaw19.RequestOrder -/
/-! bursary mode.is -/
/-! bursary mode.set -/
/-! bursary mode.goes -/
/-! bursary mode.has -/
/-! bursary mode.Goes -/
/-! bursary request.Together -/
/-! bursary request.Blind -/
/-! bursary bursaryref19.Modes -/
/-! bursary bursaryref05.Compare -/
/-! bursary bursaryref19.Locks -/
/-! bursary bursaryref07.Is -/
/-! bursary bursaryref07.pair -/
/-! bursary bursaryref07.Goes -/
/-! bursary bursaryref19.Together -/
/-! bursary bursaryref19.SameWants -/
/-! bursary request.Ends -/
/-! bursary bursarylaw19.RequestLocks -/
/-! bursary row.CheckRow -/
def row_CheckRow (n : Nat) (p0 : Schema) (p1 : Row) : Option Int :=
  (row_CheckKey n p0 p1.key).bind fun y1 =>
  cond (y1 != 0)
    (some y1)
    ((idx p0.tables p1.key.table).bind fun x2 =>
    jn (fun (b3 : Bool) =>
        (row_all n ([(row_rule.mk (decide ((p1.note.size : Int) ≤ 8)) 3), (row_rule.mk b3 152)] : List row_rule)).bind fun y5 =>
        some y5) fun k4 =>
    cond (decide (p1.val ≥ x2.min))
      (k4 (decide (p1.val ≤ x2.max)))
      (k4 false))
@[reducible] def row_CheckRow_ct : Ct tab := ⟨61, [.st 1, .st 9], [], [.one (.d (.int .i64))], [], Int, fun y => (y, ()), fun y => y.1, fun _ => rfl, fun n x => row_CheckRow n x.1 x.2.1⟩
theorem row_CheckRow_ok : OkC Tryz.prog tab row_CheckRow_ct := fn_ok (W := ⟨Tryz.prog, tab, tyOf, [row_CheckKey_ct, row_all_ct], addO, dpO, false⟩) ⟨tabOk, ⟨row_CheckKey_ok, row_all_ok, trivial⟩, addOk⟩ (by kernel_rfl) 41 Tryz.f61 (.n) Tryz.func61 Tryz.call61 rfl (by kernel_rfl) (by kernel_rfl) (by kernel_rfl) fun n x => by kernel_rfl

/-! bursary row.CheckList -/
def row_CheckList_l1 (n : Nat) : Nat → (List Row) × (List Row) × Int × Int × Schema × Unit → Option Int := loopF fun r1 ⟨v2, v3, v4, v5, v6, _⟩ =>
    cond (decide (v5 < v4))
      ((idx v3 v5).bind fun x7 =>
      (row_CheckRow n v6 x7).bind fun y8 =>
      jn (fun (b9 : Bool) =>
          cond b9
            (some 151)
            (r1 (v2, v3, v4, (IntKind.wrap .i64 (v5 + 1)), v6, ()))) fun k10 =>
      cond (y8 != 0)
        (k10 true)
        (jn (fun (b11 : Bool) =>
            k10 b11) fun k12 =>
        cond (decide (v5 > 0))
          ((idx v2 (IntKind.wrap .i64 (v5 - 1))).bind fun x13 =>
          (row_Compare n x13.key x7.key).bind fun y14 =>
          k12 (decide (y14 ≥ 0)))
          (k12 false)))
      ((row_all n ([(row_rule.mk (decide ((v2.length : Int) ≤ 60)) 151)] : List row_rule)).bind fun y15 =>
      some y15)
def row_CheckList (n : Nat) (p0 : Schema) (p1 : List Row) : Option Int :=
  (row_Check n p0).bind fun y1 =>
  cond (y1 != 0)
    (some y1)
    (row_CheckList_l1 n n (p1, p1, (p1.length : Int), 0, p0, ()))
@[reducible] def row_CheckList_ct : Ct tab := ⟨26, [.st 1, .one (.d (.sl (.st 9)))], [], [.one (.d (.int .i64))], [], Int, fun y => (y, ()), fun y => y.1, fun _ => rfl, fun n x => row_CheckList n x.1 x.2.1⟩
theorem row_CheckList_ok : OkC Tryz.prog tab row_CheckList_ct := fn_ok (W := ⟨Tryz.prog, tab, tyOf, [row_Check_ct, row_CheckRow_ct, row_Compare_ct, row_all_ct], addO, dpO, false⟩) ⟨tabOk, ⟨row_Check_ok, row_CheckRow_ok, row_Compare_ok, row_all_ok, trivial⟩, addOk⟩ (by kernel_rfl) 47 Tryz.f26 (.sq (.n) (.sq (.n) (.sq (.sq (.n) (.bk none (.lp ⟨[(1, .one (.d (.sl (.st 9)))), (2, .one (.box 0 0)), (13, .one (.d (.sl (.st 9)))), (14, .one (.d (.int .i64))), (15, .one (.d (.int .i64)))], [.bst 1], []⟩ (.n)))) (.n)))) Tryz.func26 Tryz.call26 rfl (by kernel_rfl) (by kernel_rfl) (by kernel_rfl) fun n x => by kernel_rfl

/-! slices.Clone   bursary api.Row bursary api.Row  -/
def slices_Clone_Row (n : Nat) (p0 : List Row) : Option ((List Row)) :=
  nilC p0.isEmpty
    (some ([] : List Row))
    ((app 40 ([] : List Row) p0).bind fun l1 =>
    some l1)
@[reducible] def slices_Clone_Row_ct : Ct tab := ⟨63, [.one (.d (.sl (.st 9)))], [], [.one (.own 0)], [(none, .row 67 (.st 9))], ((List Row)), fun y => (y, ()), fun y => y.1, fun _ => rfl, fun n x => slices_Clone_Row n x.1⟩
theorem slices_Clone_Row_ok : OkC Tryz.prog tab slices_Clone_Row_ct := fn_ok (W := ⟨Tryz.prog, tab, tyOf, [], addO, dpO, false⟩) ⟨tabOk, trivial, addOk⟩ (by kernel_rfl) 8 Tryz.f63 (.n) Tryz.func63 Tryz.call63 rfl (by kernel_rfl) (by kernel_rfl) (by kernel_rfl) fun n x => by kernel_rfl

/-!   bursary ideal.turn .read 1 -/
def ideal_turn_read_1 (n : Nat) (p0 : Int) (q1_0 : List Bounds) (q1_1 : Int) (q1_2 : Int) (q1_3 : Int) (q1_4 : Int) (q1_5 : Int) (q1_6 : Int) (q1_7 : ByteArray) (q1_8 : Int) (q2 : List Row) : Option (Answer × (List Bounds) × Int × Int × Int × Int × Int × Int × ByteArray × Int × (List Row)) :=
  (idx q2 p0).bind fun x1 =>
  (idx q2 p0).bind fun x2 =>
  some ((Answer.mk 0 ([x2] : List Row) 0), q1_0, q1_1, q1_2, q1_3, q1_4, q1_5, q1_6, q1_7, q1_8, q2)
@[reducible] def ideal_turn_read_1_ct : Ct tab := ⟨109, [.one (.d (.int .i64)), .one (.box 0 0)], [.box [.box 1 0], .box [.d (.sl (.st 0)), .own 2, .d (.int .i64), .d (.int .i64), .d (.int .u16), .d (.int .i64), .d (.int .u16), .d (.int .i64), .d .str, .d (.int .i64)], .row 67 (.st 9)], [.st 11], [(some 0, .box [.box 1 0]), (some 1, .box [.d (.sl (.st 0)), .own 2, .d (.int .i64), .d (.int .i64), .d (.int .u16), .d (.int .i64), .d (.int .u16), .d (.int .i64), .d .str, .d (.int .i64)]), (none, .row 67 (.st 9))], (Answer × (List Bounds) × Int × Int × Int × Int × Int × Int × ByteArray × Int × (List Row)), fun y => (y.1, y.2.1, y.2.2.1, y.2.2.2.1, y.2.2.2.2.1, y.2.2.2.2.2.1, y.2.2.2.2.2.2.1, y.2.2.2.2.2.2.2.1, y.2.2.2.2.2.2.2.2.1, y.2.2.2.2.2.2.2.2.2.1, y.2.2.2.2.2.2.2.2.2.2, ()), fun y => (y.1, y.2.1, y.2.2.1, y.2.2.2.1, y.2.2.2.2.1, y.2.2.2.2.2.1, y.2.2.2.2.2.2.1, y.2.2.2.2.2.2.2.1, y.2.2.2.2.2.2.2.2.1, y.2.2.2.2.2.2.2.2.2.1, y.2.2.2.2.2.2.2.2.2.2.1), fun _ => rfl, fun n x => ideal_turn_read_1 n x.1 x.2.1 x.2.2.1 x.2.2.2.1 x.2.2.2.2.1 x.2.2.2.2.2.1 x.2.2.2.2.2.2.1 x.2.2.2.2.2.2.2.1 x.2.2.2.2.2.2.2.2.1 x.2.2.2.2.2.2.2.2.2.1 x.2.2.2.2.2.2.2.2.2.2.1⟩
theorem ideal_turn_read_1_ok : OkC Tryz.prog tab ideal_turn_read_1_ct := fn_ok (W := ⟨Tryz.prog, tab, tyOf, [], addO, dpO, false⟩) ⟨tabOk, trivial, addOk⟩ (by kernel_rfl) 13 Tryz.f109 (.n) Tryz.func109 Tryz.call109 rfl (by kernel_rfl) (by kernel_rfl) (by kernel_rfl) fun n x => by kernel_rfl

end
end Go.Proofs.YtlfjoaipbpendaaGreatDoor
