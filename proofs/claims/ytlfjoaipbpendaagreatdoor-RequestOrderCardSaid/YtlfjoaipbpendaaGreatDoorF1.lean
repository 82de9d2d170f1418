/- Functions of the program: plain twins and their contracts, printed by program. -/
import Derived.Test.YtlfjoaipbpendaaGreatDoorTypes
import Derived.Test.YtlfjoaipbpendaaGreatDoorF0
namespace Go.Proofs.YtlfjoaipbpendaaGreatDoor
open Go Go.Bur Go.RowKit
set_option linter.unusedVariables false
set_option linter.unusedSimpArgs false
set_option maxRecDepth 100000
noncomputable section
/-! bursary bursarylaw19.wakes -/
def law19_wakes (n : Nat) : Option Bool :=
  (law19_two n).bind fun y1 =>
  (request_Locks n y1 (Request.mk 8 (Key.mk 1 5) (Key.mk 0 7) 2 ByteArray.empty 0)).bind fun y2 =>
  (law19_two n).bind fun y3 =>
  (request_Text n y3 (Request.mk 8 (Key.mk 1 5) (Key.mk 0 7) 2 ByteArray.empty 0)).bind fun y4 =>
  (law19_two n).bind fun y5 =>
  (request_Parse n y5 y4.1).bind fun y6 =>
  jn (fun (b7 : Bool) =>
      jn (fun (b9 : Bool) =>
          jn (fun (b11 : Bool) =>
              jn (fun (b13 : Bool) =>
                  jn (fun (b15 : Bool) =>
                      jn (fun (b17 : Bool) =>
                          jn (fun (b19 : Bool) =>
                              some b19) fun k20 =>
                          cond b17
                            (k20 (Request.eqb y6.1 (Request.mk 8 (Key.mk 1 5) (Key.mk 0 7) 2 ByteArray.empty 0)))
                            (k20 false)) fun k18 =>
                      cond b15
                        (k18 (y4.1.toList == (ByteArray.mk #[109, 111, 118, 101, 32, 49, 32, 53, 32, 48, 32, 55, 32, 50]).toList))
                        (k18 false)) fun k16 =>
                  cond b13
                    ((idx y2.2 2).bind fun x21 =>
                    (idx y2.2 2).bind fun x22 =>
                    k16 (x22.res.id == 7))
                    (k16 false)) fun k14 =>
              cond b11
                ((idx y2.2 0).bind fun x23 =>
                (idx y2.2 0).bind fun x24 =>
                k14 (x24.mode == 2))
                (k14 false)) fun k12 =>
          cond b9
            (k12 ((y2.2.length : Int) == 4))
            (k12 false)) fun k10 =>
      cond b7
        (k10 (y6.2 == 0))
        (k10 false)) fun k8 =>
  cond (y2.1 == 0)
    (k8 (y4.2 == 0))
    (k8 false)
@[reducible] def law19_wakes_ct : Ct tab := ⟨9, [], [], [.one (.d .bool)], [], Bool, fun y => (y, ()), fun y => y.1, fun _ => rfl, fun n x => law19_wakes n⟩
theorem law19_wakes_ok : OkC Tryz.prog tab law19_wakes_ct := fn_ok (W := ⟨Tryz.prog, tab, tyOf, [law19_two_ct, request_Locks_ct, request_Text_ct, request_Parse_ct], addO, dpO, false⟩) ⟨tabOk, ⟨law19_two_ok, request_Locks_ok, request_Text_ok, request_Parse_ok, trivial⟩, addOk⟩ (by kernel_rfl) 68 Tryz.f9 (.n) Tryz.func9 Tryz.call9 rfl (by kernel_rfl) (by kernel_rfl) (by kernel_rfl) fun n x => by kernel_rfl

/-! bursary bursarylaw19.over -/
def law19_over_l1 (n : Nat) : Nat → (List Request) × Int × Int × Unit → Option Bool := loopF fun r1 ⟨v1, v2, v3, _⟩ =>
    cond (decide (v3 < v2))
      ((idx v1 v3).bind fun x4 =>
      cond (decide ((x4.note.size : Int) > 100))
        (some true)
        (r1 (v1, v2, (IntKind.wrap .i64 (v3 + 1)), ())))
      (some false)
def law19_over (n : Nat) (p0 : Schema) (p1 : List Request) : Option Bool :=
  cond (decide ((p0.tables.length : Int) > 20))
    (some true)
    (law19_over_l1 n n (p1, (p1.length : Int), 0, ()))
@[reducible] def law19_over_ct : Ct tab := ⟨10, [.st 1, .one (.d (.sl (.st 3)))], [], [.one (.d .bool)], [], Bool, fun y => (y, ()), fun y => y.1, fun _ => rfl, fun n x => law19_over n x.1 x.2.1⟩
theorem law19_over_ok : OkC Tryz.prog tab law19_over_ct := fn_ok (W := ⟨Tryz.prog, tab, tyOf, [], addO, dpO, false⟩) ⟨tabOk, trivial, addOk⟩ (by kernel_rfl) 22 Tryz.f10 (.sq (.n) (.sq (.n) (.sq (.sq (.n) (.bk none (.lp ⟨[(11, .one (.d (.sl (.st 3)))), (12, .one (.d (.int .i64))), (13, .one (.d (.int .i64)))], [], []⟩ (.n)))) (.n)))) Tryz.func10 Tryz.call10 rfl (by kernel_rfl) (by kernel_rfl) (by kernel_rfl) fun n x => by kernel_rfl

/-! bursary bursaryref05.Right -/
/-! bursary bursaryref05.KeyError -/
/-! bursary bursaryref15.RightRequest -/
/-! bursary bursaryref19.Quotes -/
/-! bursary bursaryref19.Right -/
/-! bursary bursaryref19.digits -/
/-! bursary bursaryref19.Number -/
/-! bursary bursaryref19.key -/
/-! bursary bursaryref19.Text -/
/-! bursary bursarylaw19.RequestTexts -/
/-! bursary bursarylaw19.RequestReads -/
/-! bursary bursarylaw19.RequestOrder -/
def law19_RequestOrder_j2 (n : Nat) (r1 : Bool × Int × Int × (List Want) × (List (Int × Bool)) × Unit → Option Bool) : Bool × Int × Int × Int × (List Want) × (List (Int × Bool)) × Want × Unit → Option Bool := fun ⟨v18, v19, v20, v21, v22, v23, v24, _⟩ =>
    jn (fun (b25 : Bool) =>
        jn (fun (b27 : Bool) =>
            cond b27
              (some false)
              (r1 (v18, v20, (IntKind.wrap .i64 (v21 + 1)), v22, v23, ()))) fun k28 =>
        cond b25
          ((idx v22 (IntKind.wrap .i64 (v19 - 1))).bind fun x29 =>
          (idx v22 (IntKind.wrap .i64 (v19 - 1))).bind fun x30 =>
          (idx v22 (IntKind.wrap .i64 (v19 - 1))).bind fun x31 =>
          (idx v22 (IntKind.wrap .i64 (v19 - 1))).bind fun x32 =>
          (row_Compare n (Key.mk x30.res.table x32.res.id) (Key.mk v24.res.table v24.res.id)).bind fun y33 =>
          k28 (decide (y33 ≥ 0)))
          (k28 false)) fun k26 =>
    cond (decide (v19 > 0))
      ((idx v22 (IntKind.wrap .i64 (v19 - 1))).bind fun x34 =>
      (idx v22 (IntKind.wrap .i64 (v19 - 1))).bind fun x35 =>
      k26 (x35.res.isKey == v24.res.isKey))
      (k26 false)
def law19_RequestOrder_l1 (n : Nat) : Nat → Bool × Int × Int × (List Want) × (List (Int × Bool)) × Unit → Option Bool := loopF fun r1 ⟨v4, v5, v6, v7, v8, _⟩ =>
    cond (decide (v6 < v5))
      ((idx v7 v6).bind fun x9 =>
      (idx v7 v6).bind fun x10 =>
      jn (law19_RequestOrder_j2 n r1) fun j2 =>
      cond x10.res.isKey
        ((mlook .i64 false v8 x10.res.table).bind fun w36 =>
        cond (!w36)
          (some false)
          (j2 (true, v6, v5, v6, v7, v8, x10, ())))
        (jn (fun (b37 : Bool) =>
            jn (fun (b39 : Bool) =>
                cond b39
                  (some false)
                  ((mput .i64 v8 x10.res.table true).bind fun l41 =>
                  j2 (v4, v6, v5, v6, v7, l41, x10, ()))) fun k40 =>
            cond b37
              (k40 true)
              (k40 (x10.res.id != 0))) fun k38 =>
        cond v4
          (k38 true)
          ((mlook .i64 false v8 x10.res.table).bind fun w42 =>
          k38 w42)))
      (some true)
def law19_RequestOrder (n : Nat) (p0 : Schema) (p1 : Request) : Option Bool :=
  (law19_wakes n).bind fun y1 =>
  cond (!y1)
    (some false)
    ((law19_over n p0 ([p1] : List Request)).bind fun y2 =>
    cond y2
      (some true)
      ((request_Locks n p0 p1).bind fun y3 =>
      cond (y3.1 != 0)
        (some ((y3.2.length : Int) == 0))
        (law19_RequestOrder_l1 n n (false, (y3.2.length : Int), 0, y3.2, ([] : List (Int × Bool)), ()))))
@[reducible] def law19_RequestOrder_ct : Ct tab := ⟨5, [.st 1, .st 3], [], [.one (.d .bool)], [], Bool, fun y => (y, ()), fun y => y.1, fun _ => rfl, fun n x => law19_RequestOrder n x.1 x.2.1⟩
theorem law19_RequestOrder_ok : OkC Tryz.prog tab law19_RequestOrder_ct := fn_ok (W := ⟨Tryz.prog, tab, tyOf, [law19_wakes_ct, law19_over_ct, request_Locks_ct, row_Compare_ct], addO, dpO, false⟩) ⟨tabOk, ⟨law19_wakes_ok, law19_over_ok, request_Locks_ok, row_Compare_ok, trivial⟩, addOk⟩ (by kernel_rfl) 105 Tryz.f5 (.sq (.n) (.sq (.n) (.sq (.n) (.sq (.n) (.sq (.n) (.sq (.n) (.sq (.n) (.sq (.sq (.n) (.bk none (.lp ⟨[(5, .one (.own 0)), (7, .one (.map 1)), (8, .one (.d .bool)), (29, .one (.own 0)), (30, .one (.d (.int .i64))), (31, .one (.d (.int .i64)))], [.row 48 (.st 7), .map .i64 3 4 .bool], []⟩ (.sq (.n) (.sq (.n) (.sq (.bk none (.sq (.n) (.sq (.sq (.n) (.cd (some ⟨[(5, .one (.own 0)), (7, .one (.map 1)), (8, .one (.d .bool)), (9, .one (.d (.int .i64))), (10, .one (.box 2 0)), (29, .one (.own 0)), (30, .one (.d (.int .i64))), (31, .one (.d (.int .i64)))], [.row 48 (.st 7), .map .i64 3 4 .bool, .bst 7], []⟩) (.n) (.n))) (.n)))) (.n))))))) (.n))))))))) Tryz.func5 Tryz.call5 rfl (by kernel_rfl) (by kernel_rfl) (by kernel_rfl) fun n x => by kernel_rfl

/-! bursary mode.is -/
/-! bursary mode.set -/
/-! bursary mode.goes -/
/-! bursary mode.has -/
/-! bursary mode.Goes -/
/-! bursary request.Together -/
/-! bursary request.Blind -/
/-! bursary bursaryref19.Modes -/
/-! bursary bursaryref05.Compare -/
/-! bursary bursaryref19.Locks -/
/-! bursary bursaryref07.Is -/
/-! bursary bursaryref07.pair -/
/-! bursary bursaryref07.Goes -/
/-! bursary bursaryref19.Together -/
/-! bursary bursaryref19.SameWants -/
/-! bursary request.Ends -/
/-! bursary bursarylaw19.RequestLocks -/
/-! bursary row.CheckRow -/
/-! bursary row.CheckList -/
/-! slices.Clone   bursary api.Row bursary api.Row  -/
/-!   bursary ideal.turn .read 1 -/
end
end Go.Proofs.YtlfjoaipbpendaaGreatDoor
