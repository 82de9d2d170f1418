/- Functions of the program: plain twins and their contracts, printed by program. -/
import Derived.Test.YtlfjoaipbpendaaGreatDoorTypes
import Derived.Test.YtlfjoaipbpendaaGreatDoorF0
namespace Go.Proofs.YtlfjoaipbpendaaGreatDoor
open Go Go.Bur Go.RowKit
set_option linter.unusedVariables false
set_option linter.unusedSimpArgs false
set_option maxRecDepth 100000
noncomputable section
/-! bursary bursarylaw19.wakes -/
def law19_wakes (n : Nat) : Option Bool :=
  (law19_two n).bind fun y1 =>
  (request_Locks n y1 (Request.mk 8 (Key.mk 1 5) (Key.mk 0 7) 2 ByteArray.empty 0)).bind fun y2 =>
  (law19_two n).bind fun y3 =>
  (request_Text n y3 (Request.mk 8 (Key.mk 1 5) (Key.mk 0 7) 2 ByteArray.empty 0)).bind fun y4 =>
  (law19_two n).bind fun y5 =>
  (request_Parse n y5 y4.1).bind fun y6 =>
  jn (fun (b7 : Bool) =>
      jn (fun (b9 : Bool) =>
          jn (fun (b11 : Bool) =>
              jn (fun (b13 : Bool) =>
                  jn (fun (b15 : Bool) =>
                      jn (fun (b17 : Bool) =>
                          jn (fun (b19 : Bool) =>
                              some b19) fun k20 =>
                          cond b17
                            (k20 (Request.eqb y6.1 (Request.mk 8 (Key.mk 1 5) (Key.mk 0 7) 2 ByteArray.empty 0)))
                            (k20 false)) fun k18 =>
                      cond b15
                        (k18 (y4.1.toList == (ByteArray.mk #[109, 111, 118, 101, 32, 49, 32, 53, 32, 48, 32, 55, 32, 50]).toList))
                        (k18 false)) fun k16 =>
                  cond b13
                    ((idx y2.2 2).bind fun x21 =>
                    (idx y2.2 2).bind fun x22 =>
                    k16 (x22.res.id == 7))
                    (k16 false)) fun k14 =>
              cond b11
                ((idx y2.2 0).bind fun x23 =>
                (idx y2.2 0).bind fun x24 =>
                k14 (x24.mode == 2))
                (k14 false)) fun k12 =>
          cond b9
            (k12 ((y2.2.length : Int) == 4))
            (k12 false)) fun k10 =>
      cond b7
        (k10 (y6.2 == 0))
        (k10 false)) fun k8 =>
  cond (y2.1 == 0)
    (k8 (y4.2 == 0))
    (k8 false)
@[reducible] def law19_wakes_ct : Ct tab := ⟨9, [], [], [.one (.d .bool)], [], Bool, fun y => (y, ()), fun y => y.1, fun _ => rfl, fun n x => law19_wakes n⟩
theorem law19_wakes_ok : OkC Tryz.prog tab law19_wakes_ct := fn_ok (W := ⟨Tryz.prog, tab, tyOf, [law19_two_ct, request_Locks_ct, request_Text_ct, request_Parse_ct], addO, dpO, false⟩) ⟨tabOk, ⟨law19_two_ok, request_Locks_ok, request_Text_ok, request_Parse_ok, trivial⟩, addOk⟩ (by kernel_rfl) 68 Tryz.f9 (.n) Tryz.func9 Tryz.call9 rfl (by kernel_rfl) (by kernel_rfl) (by kernel_rfl) fun n x => by kernel_rfl

/-! bursary bursarylaw19.over -/
def law19_over_l1 (n : Nat) : Nat → (List Request) × Int × Int × Unit → Option Bool := loopF fun r1 ⟨v1, v2, v3, _⟩ =>
    cond (decide (v3 < v2))
      ((idx v1 v3).bind fun x4 =>
      cond (decide ((x4.note.size : Int) > 100))
        (some true)
        (r1 (v1, v2, (IntKind.wrap .i64 (v3 + 1)), ())))
      (some false)
def law19_over (n : Nat) (p0 : Schema) (p1 : List Request) : Option Bool :=
  cond (decide ((p0.tables.length : Int) > 20))
    (some true)
    (law19_over_l1 n n (p1, (p1.length : Int), 0, ()))
@[reducible] def law19_over_ct : Ct tab := ⟨10, [.st 1, .one (.d (.sl (.st 3)))], [], [.one (.d .bool)], [], Bool, fun y => (y, ()), fun y => y.1, fun _ => rfl, fun n x => law19_over n x.1 x.2.1⟩
theorem law19_over_ok : OkC Tryz.prog tab law19_over_ct := fn_ok (W := ⟨Tryz.prog, tab, tyOf, [], addO, dpO, false⟩) ⟨tabOk, trivial, addOk⟩ (by kernel_rfl) 22 Tryz.f10 (.sq (.n) (.sq (.n) (.sq (.sq (.n) (.bk none (.lp ⟨[(11, .one (.d (.sl (.st 3)))), (12, .one (.d (.int .i64))), (13, .one (.d (.int .i64)))], [], []⟩ (.n)))) (.n)))) Tryz.func10 Tryz.call10 rfl (by kernel_rfl) (by kernel_rfl) (by kernel_rfl) fun n x => by kernel_rfl

/-! bursary bursaryref05.Right -/
/-! bursary bursaryref05.KeyError -/
/-! bursary bursaryref15.RightRequest -/
/-! bursary bursaryref19.Quotes -/
/-! bursary bursaryref19.Right -/
/-! bursary bursaryref19.digits -/
/-! bursary bursaryref19.Number -/
/-! bursary bursaryref19.key -/
/-! bursary bursaryref19.Text -/
/-! bursary bursarylaw19.RequestTexts -/
/-! bursary bursarylaw19.RequestReads -/
/-! bursary bursarylaw19.RequestOrder -/
/-! bursary mode.is -/
def mode_is (n : Nat) (p0 : Int) : Option Bool :=
  jn (fun (b1 : Bool) =>
      some b1) fun k2 =>
  cond (decide (p0 ≥ 0))
    (k2 (decide (p0 < 7)))
    (k2 false)
@[reducible] def mode_is_ct : Ct tab := ⟨84, [.one (.d (.int .i64))], [], [.one (.d .bool)], [], Bool, fun y => (y, ()), fun y => y.1, fun _ => rfl, fun n x => mode_is n x.1⟩
theorem mode_is_ok : OkC Tryz.prog tab mode_is_ct := fn_ok (W := ⟨Tryz.prog, tab, tyOf, [], addO, dpO, false⟩) ⟨tabOk, trivial, addOk⟩ (by kernel_rfl) 9 Tryz.f84 (.n) Tryz.func84 Tryz.call84 rfl (by kernel_rfl) (by kernel_rfl) (by kernel_rfl) fun n x => by kernel_rfl

/-! bursary mode.set -/
def mode_set_l1 (n : Nat) : Nat → Int × (List Int) × Int × Int × Unit → Option Int := loopF fun r1 ⟨v1, v2, v3, v4, _⟩ =>
    cond (decide (v4 < v3))
      ((idx v2 v4).bind fun x5 =>
      (shlP .i64 1 x5).bind fun z6 =>
      r1 ((orV .i64 v1 z6), v2, v3, (IntKind.wrap .i64 (v4 + 1)), ()))
      (some v1)
def mode_set (n : Nat) (p0 : List Int) : Option Int :=
  mode_set_l1 n n (0, p0, (p0.length : Int), 0, ())
@[reducible] def mode_set_ct : Ct tab := ⟨107, [.one (.d (.sl (.int .i64)))], [], [.one (.d (.int .i64))], [], Int, fun y => (y, ()), fun y => y.1, fun _ => rfl, fun n x => mode_set n x.1⟩
theorem mode_set_ok : OkC Tryz.prog tab mode_set_ct := fn_ok (W := ⟨Tryz.prog, tab, tyOf, [], addO, dpO, false⟩) ⟨tabOk, trivial, addOk⟩ (by kernel_rfl) 18 Tryz.f107 (.sq (.n) (.sq (.n) (.sq (.sq (.n) (.bk none (.lp ⟨[(3, .one (.d (.int .i64))), (6, .one (.d (.sl (.int .i64)))), (7, .one (.d (.int .i64))), (8, .one (.d (.int .i64)))], [], []⟩ (.n)))) (.n)))) Tryz.func107 Tryz.call107 rfl (by kernel_rfl) (by kernel_rfl) (by kernel_rfl) fun n x => by kernel_rfl

/-! bursary mode.goes -/
def mode_goes (n : Nat) (p0 : Int) : Option Int :=
  (mode_set n ([0, 1, 2, 3, 4, 5, 6] : List Int)).bind fun y1 =>
  (mode_set n ([0, 1, 2, 3, 4] : List Int)).bind fun y2 =>
  (mode_set n ([0, 1, 2] : List Int)).bind fun y3 =>
  (mode_set n ([0, 1, 3] : List Int)).bind fun y4 =>
  (mode_set n ([0, 1] : List Int)).bind fun y5 =>
  (mode_set n ([0] : List Int)).bind fun y6 =>
  (mode_set n ([0, 6] : List Int)).bind fun y7 =>
  cond (decide (p0 = 0))
    (some y1)
    (cond (decide (p0 = 1))
      (some y2)
      (cond (decide (p0 = 2))
        (some y3)
        (cond (decide (p0 = 3))
          (some y4)
          (cond (decide (p0 = 4))
            (some y5)
            (cond (decide (p0 = 5))
              (some y6)
              (cond (decide (p0 = 6))
                (some y7)
                (none)))))))
@[reducible] def mode_goes_ct : Ct tab := ⟨86, [.one (.d (.int .i64))], [], [.one (.d (.int .i64))], [], Int, fun y => (y, ()), fun y => y.1, fun _ => rfl, fun n x => mode_goes n x.1⟩
theorem mode_goes_ok : OkC Tryz.prog tab mode_goes_ct := fn_ok (W := ⟨Tryz.prog, tab, tyOf, [mode_set_ct], addO, dpO, false⟩) ⟨tabOk, ⟨mode_set_ok, trivial⟩, addOk⟩ (by kernel_rfl) 22 Tryz.f86 (.sq (.n) (.sq (.n) (.sq (.rs [(0, 7)] []) (.n)))) Tryz.func86 Tryz.call86 rfl (by kernel_rfl) (by kernel_rfl) (by kernel_rfl) fun n x => by kernel_rfl

/-! bursary mode.has -/
def mode_has (n : Nat) (p0 : Int) (p1 : Int) : Option Bool :=
  (shrP .i64 p0 p1).bind fun z1 =>
  some ((andV .i64 z1 1) == 1)
@[reducible] def mode_has_ct : Ct tab := ⟨85, [.one (.d (.int .i64)), .one (.d (.int .i64))], [], [.one (.d .bool)], [], Bool, fun y => (y, ()), fun y => y.1, fun _ => rfl, fun n x => mode_has n x.1 x.2.1⟩
theorem mode_has_ok : OkC Tryz.prog tab mode_has_ct := fn_ok (W := ⟨Tryz.prog, tab, tyOf, [], addO, dpO, false⟩) ⟨tabOk, trivial, addOk⟩ (by kernel_rfl) 10 Tryz.f85 (.n) Tryz.func85 Tryz.call85 rfl (by kernel_rfl) (by kernel_rfl) (by kernel_rfl) fun n x => by kernel_rfl

/-! bursary mode.Goes -/
def mode_Goes (n : Nat) (p0 : Int) (p1 : Int) : Option Bool :=
  (mode_is n p0).bind fun y1 =>
  jn (fun (b2 : Bool) =>
      jn (fun (b4 : Bool) =>
          some b4) fun k5 =>
      cond b2
        ((mode_goes n p0).bind fun y6 =>
        (mode_has n y6 p1).bind fun y7 =>
        k5 y7)
        (k5 false)) fun k3 =>
  cond y1
    ((mode_is n p1).bind fun y8 =>
    k3 y8)
    (k3 false)
@[reducible] def mode_Goes_ct : Ct tab := ⟨56, [.one (.d (.int .i64)), .one (.d (.int .i64))], [], [.one (.d .bool)], [], Bool, fun y => (y, ()), fun y => y.1, fun _ => rfl, fun n x => mode_Goes n x.1 x.2.1⟩
theorem mode_Goes_ok : OkC Tryz.prog tab mode_Goes_ct := fn_ok (W := ⟨Tryz.prog, tab, tyOf, [mode_is_ct, mode_goes_ct, mode_has_ct], addO, dpO, false⟩) ⟨tabOk, ⟨mode_is_ok, mode_goes_ok, mode_has_ok, trivial⟩, addOk⟩ (by kernel_rfl) 17 Tryz.f56 (.n) Tryz.func56 Tryz.call56 rfl (by kernel_rfl) (by kernel_rfl) (by kernel_rfl) fun n x => by kernel_rfl

/-! bursary request.Together -/
def request_Together_l3 (n : Nat) (r2 : Int × Int × Request × (List Want) × Unit → Option (Bool × Int)) : Nat → Int × Int × Int × Int × Request × Want × (List Want) × (List Want) × Unit → Option (Bool × Int) := loopF fun r3 ⟨v18, v19, v20, v21, v22, v23, v24, v25, _⟩ =>
    cond (decide (v21 < v20))
      ((idx v25 v21).bind fun x26 =>
      (idx v25 v21).bind fun x27 =>
      jn (fun (b28 : Bool) =>
          cond b28
            (some (false, 0))
            (r3 (v18, v19, v20, (IntKind.wrap .i64 (v21 + 1)), v22, v23, v24, v25, ()))) fun k29 =>
      cond (Res.eqb v23.res x27.res)
        ((mode_Goes n v23.mode x27.mode).bind fun y30 =>
        k29 (!y30))
        (k29 false))
      (r2 (v18, (IntKind.wrap .i64 (v19 + 1)), v22, v24, ()))
def request_Together_l2 (n : Nat) : Nat → Int × Int × Request × (List Want) × Unit → Option (Bool × Int) := loopF fun r2 ⟨v11, v12, v13, v14, _⟩ =>
    cond (decide (v12 < v11))
      ((idx v14 v12).bind fun x15 =>
      (idx v14 v12).bind fun x16 =>
      (request_locks n v13).bind fun y17 =>
      request_Together_l3 n r2 n (v11, v12, (y17.length : Int), 0, v13, x16, v14, y17, ()))
      (some (true, 0))
def request_Together_l1 (n : Nat) : Nat → Int × Int × Schema × Request × Request × (List Request) × Unit → Option (Bool × Int) := loopF fun r1 ⟨v1, v2, v3, v4, v5, v6, _⟩ =>
    cond (decide (v2 < v1))
      ((idx v6 v2).bind fun x7 =>
      (idx v6 v2).bind fun x8 =>
      (ideal_CheckRequest n v3 x8).bind fun y9 =>
      cond (y9 != 0)
        (some (false, y9))
        (r1 (v1, (IntKind.wrap .i64 (v2 + 1)), v3, v4, v5, v6, ())))
      ((request_locks n v4).bind fun y10 =>
      request_Together_l2 n n ((y10.length : Int), 0, v5, y10, ()))
def request_Together (n : Nat) (p0 : Schema) (p1 : Request) (p2 : Request) : Option (Bool × Int) :=
  request_Together_l1 n n ((([p1, p2] : List Request).length : Int), 0, p0, p1, p2, ([p1, p2] : List Request), ())
@[reducible] def request_Together_ct : Ct tab := ⟨18, [.st 1, .st 3, .st 3], [], [.one (.d .bool), .one (.d (.int .i64))], [], (Bool × Int), fun y => (y.1, y.2, ()), fun y => (y.1, y.2.1), fun _ => rfl, fun n x => request_Together n x.1 x.2.1 x.2.2.1⟩
theorem request_Together_ok : OkC Tryz.prog tab request_Together_ct := fn_ok (W := ⟨Tryz.prog, tab, tyOf, [ideal_CheckRequest_ct, request_locks_ct, mode_Goes_ct], addO, dpO, false⟩) ⟨tabOk, ⟨ideal_CheckRequest_ok, request_locks_ok, mode_Goes_ok, trivial⟩, addOk⟩ (by kernel_rfl) 59 Tryz.f18 (.sq (.n) (.sq (.sq (.n) (.bk none (.lp ⟨[(3, .one (.box 0 0)), (4, .one (.box 1 0)), (5, .one (.box 2 0)), (17, .one (.own 3)), (18, .one (.d (.int .i64))), (19, .one (.d (.int .i64)))], [.bst 1, .bst 3, .bst 3, .row 29 (.st 3)], []⟩ (.n)))) (.sq (.sq (.n) (.bk none (.lp ⟨[(5, .one (.box 0 0)), (31, .one (.own 1)), (32, .one (.d (.int .i64))), (33, .one (.d (.int .i64)))], [.bst 3, .row 48 (.st 7)], []⟩ (.sq (.n) (.sq (.n) (.sq (.bk none (.sq (.n) (.sq (.n) (.bk none (.lp ⟨[(5, .one (.box 0 0)), (12, .one (.box 1 0)), (31, .one (.own 2)), (32, .one (.d (.int .i64))), (33, .one (.d (.int .i64))), (38, .one (.own 3)), (39, .one (.d (.int .i64))), (40, .one (.d (.int .i64)))], [.bst 3, .bst 7, .row 48 (.st 7), .row 48 (.st 7)], []⟩ (.n)))))) (.n))))))) (.n)))) Tryz.func18 Tryz.call18 rfl (by kernel_rfl) (by kernel_rfl) (by kernel_rfl) fun n x => by kernel_rfl

/-! bursary request.Blind -/
def request_Blind (n : Nat) (p0 : Request) : Option Bool :=
  jn (fun (b1 : Bool) =>
      some b1) fun k2 =>
  cond (p0.kind == 7)
    (k2 true)
    (k2 (p0.kind == 8))
@[reducible] def request_Blind_ct : Ct tab := ⟨19, [.st 3], [], [.one (.d .bool)], [], Bool, fun y => (y, ()), fun y => y.1, fun _ => rfl, fun n x => request_Blind n x.1⟩
theorem request_Blind_ok : OkC Tryz.prog tab request_Blind_ct := fn_ok (W := ⟨Tryz.prog, tab, tyOf, [], addO, dpO, false⟩) ⟨tabOk, trivial, addOk⟩ (by kernel_rfl) 11 Tryz.f19 (.n) Tryz.func19 Tryz.call19 rfl (by kernel_rfl) (by kernel_rfl) (by kernel_rfl) fun n x => by kernel_rfl

/-! bursary bursaryref19.Modes -/
/-! bursary bursaryref05.Compare -/
/-! bursary bursaryref19.Locks -/
/-! bursary bursaryref07.Is -/
/-! bursary bursaryref07.pair -/
/-! bursary bursaryref07.Goes -/
/-! bursary bursaryref19.Together -/
/-! bursary bursaryref19.SameWants -/
/-! bursary request.Ends -/
/-! bursary bursarylaw19.RequestLocks -/
/-! bursary row.CheckRow -/
def row_CheckRow (n : Nat) (p0 : Schema) (p1 : Row) : Option Int :=
  (row_CheckKey n p0 p1.key).bind fun y1 =>
  cond (y1 != 0)
    (some y1)
    ((idx p0.tables p1.key.table).bind fun x2 =>
    jn (fun (b3 : Bool) =>
        (row_all n ([(row_rule.mk (decide ((p1.note.size : Int) ≤ 8)) 3), (row_rule.mk b3 152)] : List row_rule)).bind fun y5 =>
        some y5) fun k4 =>
    cond (decide (p1.val ≥ x2.min))
      (k4 (decide (p1.val ≤ x2.max)))
      (k4 false))
@[reducible] def row_CheckRow_ct : Ct tab := ⟨61, [.st 1, .st 9], [], [.one (.d (.int .i64))], [], Int, fun y => (y, ()), fun y => y.1, fun _ => rfl, fun n x => row_CheckRow n x.1 x.2.1⟩
theorem row_CheckRow_ok : OkC Tryz.prog tab row_CheckRow_ct := fn_ok (W := ⟨Tryz.prog, tab, tyOf, [row_CheckKey_ct, row_all_ct], addO, dpO, false⟩) ⟨tabOk, ⟨row_CheckKey_ok, row_all_ok, trivial⟩, addOk⟩ (by kernel_rfl) 41 Tryz.f61 (.n) Tryz.func61 Tryz.call61 rfl (by kernel_rfl) (by kernel_rfl) (by kernel_rfl) fun n x => by kernel_rfl

/-! bursary row.CheckList -/
def row_CheckList_l1 (n : Nat) : Nat → (List Row) × (List Row) × Int × Int × Schema × Unit → Option Int := loopF fun r1 ⟨v2, v3, v4, v5, v6, _⟩ =>
    cond (decide (v5 < v4))
      ((idx v3 v5).bind fun x7 =>
      (row_CheckRow n v6 x7).bind fun y8 =>
      jn (fun (b9 : Bool) =>
          cond b9
            (some 151)
            (r1 (v2, v3, v4, (IntKind.wrap .i64 (v5 + 1)), v6, ()))) fun k10 =>
      cond (y8 != 0)
        (k10 true)
        (jn (fun (b11 : Bool) =>
            k10 b11) fun k12 =>
        cond (decide (v5 > 0))
          ((idx v2 (IntKind.wrap .i64 (v5 - 1))).bind fun x13 =>
          (row_Compare n x13.key x7.key).bind fun y14 =>
          k12 (decide (y14 ≥ 0)))
          (k12 false)))
      ((row_all n ([(row_rule.mk (decide ((v2.length : Int) ≤ 60)) 151)] : List row_rule)).bind fun y15 =>
      some y15)
def row_CheckList (n : Nat) (p0 : Schema) (p1 : List Row) : Option Int :=
  (row_Check n p0).bind fun y1 =>
  cond (y1 != 0)
    (some y1)
    (row_CheckList_l1 n n (p1, p1, (p1.length : Int), 0, p0, ()))
@[reducible] def row_CheckList_ct : Ct tab := ⟨26, [.st 1, .one (.d (.sl (.st 9)))], [], [.one (.d (.int .i64))], [], Int, fun y => (y, ()), fun y => y.1, fun _ => rfl, fun n x => row_CheckList n x.1 x.2.1⟩
theorem row_CheckList_ok : OkC Tryz.prog tab row_CheckList_ct := fn_ok (W := ⟨Tryz.prog, tab, tyOf, [row_Check_ct, row_CheckRow_ct, row_Compare_ct, row_all_ct], addO, dpO, false⟩) ⟨tabOk, ⟨row_Check_ok, row_CheckRow_ok, row_Compare_ok, row_all_ok, trivial⟩, addOk⟩ (by kernel_rfl) 47 Tryz.f26 (.sq (.n) (.sq (.n) (.sq (.sq (.n) (.bk none (.lp ⟨[(1, .one (.d (.sl (.st 9)))), (2, .one (.box 0 0)), (13, .one (.d (.sl (.st 9)))), (14, .one (.d (.int .i64))), (15, .one (.d (.int .i64)))], [.bst 1], []⟩ (.n)))) (.n)))) Tryz.func26 Tryz.call26 rfl (by kernel_rfl) (by kernel_rfl) (by kernel_rfl) fun n x => by kernel_rfl

/-! slices.Clone   bursary api.Row bursary api.Row  -/
def slices_Clone_Row (n : Nat) (p0 : List Row) : Option ((List Row)) :=
  nilC p0.isEmpty
    (some ([] : List Row))
    ((app 40 ([] : List Row) p0).bind fun l1 =>
    some l1)
@[reducible] def slices_Clone_Row_ct : Ct tab := ⟨63, [.one (.d (.sl (.st 9)))], [], [.one (.own 0)], [(none, .row 67 (.st 9))], ((List Row)), fun y => (y, ()), fun y => y.1, fun _ => rfl, fun n x => slices_Clone_Row n x.1⟩
theorem slices_Clone_Row_ok : OkC Tryz.prog tab slices_Clone_Row_ct := fn_ok (W := ⟨Tryz.prog, tab, tyOf, [], addO, dpO, false⟩) ⟨tabOk, trivial, addOk⟩ (by kernel_rfl) 8 Tryz.f63 (.n) Tryz.func63 Tryz.call63 rfl (by kernel_rfl) (by kernel_rfl) (by kernel_rfl) fun n x => by kernel_rfl

/-!   bursary ideal.turn .read 1 -/
def ideal_turn_read_1 (n : Nat) (p0 : Int) (q1_0 : List Bounds) (q1_1 : Int) (q1_2 : Int) (q1_3 : Int) (q1_4 : Int) (q1_5 : Int) (q1_6 : Int) (q1_7 : ByteArray) (q1_8 : Int) (q2 : List Row) : Option (Answer × (List Bounds) × Int × Int × Int × Int × Int × Int × ByteArray × Int × (List Row)) :=
  (idx q2 p0).bind fun x1 =>
  (idx q2 p0).bind fun x2 =>
  some ((Answer.mk 0 ([x2] : List Row) 0), q1_0, q1_1, q1_2, q1_3, q1_4, q1_5, q1_6, q1_7, q1_8, q2)
@[reducible] def ideal_turn_read_1_ct : Ct tab := ⟨109, [.one (.d (.int .i64)), .one (.box 0 0)], [.box [.box 1 0], .box [.d (.sl (.st 0)), .own 2, .d (.int .i64), .d (.int .i64), .d (.int .u16), .d (.int .i64), .d (.int .u16), .d (.int .i64), .d .str, .d (.int .i64)], .row 67 (.st 9)], [.st 11], [(some 0, .box [.box 1 0]), (some 1, .box [.d (.sl (.st 0)), .own 2, .d (.int .i64), .d (.int .i64), .d (.int .u16), .d (.int .i64), .d (.int .u16), .d (.int .i64), .d .str, .d (.int .i64)]), (none, .row 67 (.st 9))], (Answer × (List Bounds) × Int × Int × Int × Int × Int × Int × ByteArray × Int × (List Row)), fun y => (y.1, y.2.1, y.2.2.1, y.2.2.2.1, y.2.2.2.2.1, y.2.2.2.2.2.1, y.2.2.2.2.2.2.1, y.2.2.2.2.2.2.2.1, y.2.2.2.2.2.2.2.2.1, y.2.2.2.2.2.2.2.2.2.1, y.2.2.2.2.2.2.2.2.2.2, ()), fun y => (y.1, y.2.1, y.2.2.1, y.2.2.2.1, y.2.2.2.2.1, y.2.2.2.2.2.1, y.2.2.2.2.2.2.1, y.2.2.2.2.2.2.2.1, y.2.2.2.2.2.2.2.2.1, y.2.2.2.2.2.2.2.2.2.1, y.2.2.2.2.2.2.2.2.2.2.1), fun _ => rfl, fun n x => ideal_turn_read_1 n x.1 x.2.1 x.2.2.1 x.2.2.2.1 x.2.2.2.2.1 x.2.2.2.2.2.1 x.2.2.2.2.2.2.1 x.2.2.2.2.2.2.2.1 x.2.2.2.2.2.2.2.2.1 x.2.2.2.2.2.2.2.2.2.1 x.2.2.2.2.2.2.2.2.2.2.1⟩
theorem ideal_turn_read_1_ok : OkC Tryz.prog tab ideal_turn_read_1_ct := fn_ok (W := ⟨Tryz.prog, tab, tyOf, [], addO, dpO, false⟩) ⟨tabOk, trivial, addOk⟩ (by kernel_rfl) 13 Tryz.f109 (.n) Tryz.func109 Tryz.call109 rfl (by kernel_rfl) (by kernel_rfl) (by kernel_rfl) fun n x => by kernel_rfl

end
end Go.Proofs.YtlfjoaipbpendaaGreatDoor
