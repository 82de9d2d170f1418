/- Functions of the program: plain twins and their contracts, printed by program. -/
import Derived.Test.YtegnflodgnfffaaTypes
import Derived.Test.YtegnflodgnfffaaF1
namespace Go.Proofs.Ytegnflodgnfffaa
open Go Go.Bur Go.RowKit
set_option linter.unusedVariables false
set_option linter.unusedSimpArgs false
set_option maxRecDepth 100000
noncomputable section
/-! slices.Equal   bursary api.Row bursary api.Row  -/
def slices_Equal_Row_l1 (n : Nat) : Nat → (List Row) × (List Row) × Int × Int × Unit → Option Bool := loopF fun r1 ⟨v1, v2, v3, v4, _⟩ =>
    cond (decide (v4 < v3))
      ((idx v1 v4).bind fun x5 =>
      (idx v2 v4).bind fun x6 =>
      cond (!(Row.eqb x5 x6))
        (some false)
        (r1 (v1, v2, v3, (IntKind.wrap .i64 (v4 + 1)), ())))
      (some true)
def slices_Equal_Row (n : Nat) (p0 : List Row) (p1 : List Row) : Option Bool :=
  cond ((p0.length : Int) != (p1.length : Int))
    (some false)
    (slices_Equal_Row_l1 n n (p0, p1, (p0.length : Int), 0, ()))
@[reducible] def slices_Equal_Row_ct : Ct tab := ⟨45, [.one (.d (.sl (.st 3))), .one (.d (.sl (.st 3)))], [], [.one (.d .bool)], [], Bool, fun y => (y, ()), fun y => y.1, fun _ => rfl, fun n x => slices_Equal_Row n x.1 x.2.1⟩
theorem slices_Equal_Row_ok : OkC Try.prog tab slices_Equal_Row_ct := fn_ok (W := ⟨Try.prog, tab, tyOf, []⟩) ⟨tabOk, trivial⟩ (by kernel_rfl) 26 Try.f45 (.sq (.n) (.sq (.n) (.sq (.sq (.n) (.bk none (.lp ⟨[(0, .one (.d (.sl (.st 3)))), (1, .one (.d (.sl (.st 3)))), (12, .one (.d (.int .i64))), (13, .one (.d (.int .i64)))], [], []⟩ (.n)))) (.n)))) Try.func45 Try.call45 rfl (by kernel_rfl) (by kernel_rfl) (by kernel_rfl) fun n x => by kernel_rfl

/-! bursary row.Same -/
def row_Same (n : Nat) (p0 : List Row) (p1 : List Row) : Option Bool :=
  (slices_Equal_Row n p0 p1).bind fun y1 =>
  some y1
@[reducible] def row_Same_ct : Ct tab := ⟨27, [.one (.d (.sl (.st 3))), .one (.d (.sl (.st 3)))], [], [.one (.d .bool)], [], Bool, fun y => (y, ()), fun y => y.1, fun _ => rfl, fun n x => row_Same n x.1 x.2.1⟩
theorem row_Same_ok : OkC Try.prog tab row_Same_ct := fn_ok (W := ⟨Try.prog, tab, tyOf, [slices_Equal_Row_ct]⟩) ⟨tabOk, ⟨slices_Equal_Row_ok, trivial⟩⟩ (by kernel_rfl) 8 Try.f27 (.n) Try.func27 Try.call27 rfl (by kernel_rfl) (by kernel_rfl) (by kernel_rfl) fun n x => by kernel_rfl

/-! bursary ideal.SameAnswer -/
def ideal_SameAnswer (n : Nat) (p0 : Answer) (p1 : Answer) : Option Bool :=
  jn (fun (b1 : Bool) =>
      jn (fun (b3 : Bool) =>
          some b3) fun k4 =>
      cond b1
        ((row_Same n p0.rows p1.rows).bind fun y5 =>
        k4 y5)
        (k4 false)) fun k2 =>
  cond (p0.err == p1.err)
    (k2 (p0.n == p1.n))
    (k2 false)
@[reducible] def ideal_SameAnswer_ct : Ct tab := ⟨36, [.st 5, .st 5], [], [.one (.d .bool)], [], Bool, fun y => (y, ()), fun y => y.1, fun _ => rfl, fun n x => ideal_SameAnswer n x.1 x.2.1⟩
theorem ideal_SameAnswer_ok : OkC Try.prog tab ideal_SameAnswer_ct := fn_ok (W := ⟨Try.prog, tab, tyOf, [row_Same_ct]⟩) ⟨tabOk, ⟨row_Same_ok, trivial⟩⟩ (by kernel_rfl) 24 Try.f36 (.n) Try.func36 Try.call36 rfl (by kernel_rfl) (by kernel_rfl) (by kernel_rfl) fun n x => by kernel_rfl

/-!   bursary judge.run .plays -/
def judge_run_plays_j1 (n : Nat) : Int × Bool × judge_run × Unit → Option (Nat × HL tabT [.int .i64, .bool, .st 10]) := fun ⟨v5, v6, v7, _⟩ =>
    some (0, (v5, v6, v7, ()))
def judge_run_plays (n : Nat) (p1 : History) (p2 : Int) (q0 : judge_run) : Option (Int × Bool × judge_run) :=
  (ideal_Begin n p1.schema q0.serial.rows).bind fun y1 =>
  (judge_of n p1 p2).bind fun y2 =>
  (judge_of_1_fyd0 n y2.1 y2.2 (fun y3 z4 =>
        jn (judge_run_plays_j1 n) fun j1 =>
        (judge_Passes n y3.2.1).bind fun y8 =>
        cond y8
          (j1 (z4.1, z4.2.1, z4.2.2.1, ()))
          ((ideal_Step n z4.2.2.1.serial y3.2.1.request).bind fun y9 =>
          (ideal_SameAnswer n y9.2 y3.2.1.answer).bind fun y10 =>
          cond (!y10)
            (some (1, (y3.1, false, z4.2.2.1, ())))
            (j1 (z4.1, z4.2.1, (judge_run.mk y9.1), ())))) 0 (0, false, (judge_run.mk y1.1), ())).bind fun y11 =>
  sel y11.2.1 [
    some (0, true, y11.2.2.2.2.1),
    some (y11.2.2.1, y11.2.2.2.1, y11.2.2.2.2.1),
    some (0, true, y11.2.2.2.2.1)]
@[reducible] def judge_run_plays_ct : Ct tab := ⟨44, [.one (.box 0 0), .st 7, .one (.d (.int .i64))], [.bst 10], [.one (.d (.int .i64)), .one (.d .bool)], [(some 0, .bst 10)], (Int × Bool × judge_run), fun y => (y.1, y.2.1, y.2.2, ()), fun y => (y.1, y.2.1, y.2.2.1), fun _ => rfl, fun n x => judge_run_plays n x.1 x.2.1 x.2.2.1⟩
theorem judge_run_plays_ok : OkC Try.prog tab judge_run_plays_ct := fn_ok (W := ⟨Try.prog, tab, tyOf, [ideal_Begin_ct, judge_of_ct, judge_Passes_ct, ideal_Step_ct, ideal_SameAnswer_ct, judge_of_1_fyd0_ct]⟩) ⟨tabOk, ⟨ideal_Begin_ok, judge_of_ok, judge_Passes_ok, ideal_Step_ok, ideal_SameAnswer_ok, judge_of_1_fyd0_ok, trivial⟩⟩ (by kernel_rfl) 53 Try.f44 (.sq (.n) (.sq (.n) (.sq (.sq (.n) (.bk none (.rf [(3, .one (.box 0 0)), (6, .one (.box 1 0)), (7, .one (.box 2 0))] [(0, .one (.box 3 0)), (28, .one (.fn 75 [.ro (.st 7), .ro (.int .i64)]))] [.box [.box 3 0], .box [.d (.int .i64)], .box [.d .bool], .bst 10] [] [(0, 3)] 28 (.fn 75 [.ro (.st 7), .ro (.int .i64)]) [.int .i64, .st 6] (.n) (.bk (some ⟨[(3, .one (.box 0 0)), (6, .one (.box 1 0)), (7, .one (.box 2 0))], [.box [.box 3 0], .box [.d (.int .i64)], .box [.d .bool], .bst 10], [(0, 0), (1, 1), (2, 2), (3, 3)]⟩) (.n))))) (.n)))) Try.func44 Try.call44 rfl (by kernel_rfl) (by kernel_rfl) (by kernel_rfl) fun n x => by kernel_rfl

/-! bursary judge.Replay -/
def judge_Replay_l1 (n : Nat) : Nat → (List Int) × Int × Int × History × judge_run × Unit → Option (Int × Int × (List Row)) := loopF fun r1 ⟨v3, v4, v5, v6, v7, _⟩ =>
    cond (decide (v5 < v4))
      ((idx v3 v5).bind fun x8 =>
      (judge_run_plays n v6 x8 v7).bind fun y9 =>
      cond (!y9.2.1)
        (some (y9.1, 371, ([] : List Row)))
        (r1 (v3, v4, (IntKind.wrap .i64 (v5 + 1)), v6, y9.2.2, ())))
      ((slices_Clone_Row n v7.serial.rows).bind fun y10 =>
      some (0, 0, y10))
def judge_Replay (n : Nat) (p0 : History) (p1 : List Int) : Option (Int × Int × (List Row)) :=
  (judge_Check n p0).bind fun y1 =>
  cond (y1 != 0)
    (some (0, y1, ([] : List Row)))
    ((slices_Clone_Row n p0.begun).bind fun y2 =>
    judge_Replay_l1 n n (p1, (p1.length : Int), 0, p0, (judge_run.mk (Serial.mk (Schema.mk ([] : List Bounds)) y2 ([] : List Row) ([] : List (List Row)) false)), ()))
@[reducible] def judge_Replay_ct : Ct tab := ⟨25, [.st 7, .one (.d (.sl (.int .i64)))], [], [.one (.own 0), .one (.d (.int .i64)), .one (.d (.int .i64))], [(none, .row 67 (.st 3))], (Int × Int × (List Row)), fun y => (y.1, y.2.1, y.2.2, ()), fun y => (y.1, y.2.1, y.2.2.1), fun _ => rfl, fun n x => judge_Replay n x.1 x.2.1⟩
theorem judge_Replay_ok : OkC Try.prog tab judge_Replay_ct := fn_ok (W := ⟨Try.prog, tab, tyOf, [judge_Check_ct, slices_Clone_Row_ct, judge_run_plays_ct]⟩) ⟨tabOk, ⟨judge_Check_ok, slices_Clone_Row_ok, judge_run_plays_ok, trivial⟩⟩ (by kernel_rfl) 47 Try.f25 (.sq (.n) (.sq (.n) (.sq (.n) (.sq (.sq (.n) (.bk none (.lp ⟨[(2, .one (.box 0 0)), (8, .one (.box 1 0)), (24, .one (.d (.sl (.int .i64)))), (25, .one (.d (.int .i64))), (26, .one (.d (.int .i64)))], [.bst 7, .bst 10], []⟩ (.n)))) (.n))))) Try.func25 Try.call25 rfl (by kernel_rfl) (by kernel_rfl) (by kernel_rfl) fun n x => by kernel_rfl

/-! bursary judge.Judge -/
def judge_Judge (n : Nat) (p0 : History) (p1 : List Row) : Option (Int × Int) :=
  (judge_order n p0).bind fun y1 =>
  (judge_Replay n p0 y1).bind fun y2 =>
  cond (y2.2.1 != 0)
    (some (y2.1, y2.2.1))
    ((row_Same n y2.2.2 p1).bind fun y3 =>
    cond (!y3)
      (some ((p0.entries.length : Int), 372))
      (some (0, 0)))
@[reducible] def judge_Judge_ct : Ct tab := ⟨10, [.st 7, .one (.d (.sl (.st 3)))], [], [.one (.d (.int .i64)), .one (.d (.int .i64))], [], (Int × Int), fun y => (y.1, y.2, ()), fun y => (y.1, y.2.1), fun _ => rfl, fun n x => judge_Judge n x.1 x.2.1⟩
theorem judge_Judge_ok : OkC Try.prog tab judge_Judge_ct := fn_ok (W := ⟨Try.prog, tab, tyOf, [judge_order_ct, judge_Replay_ct, row_Same_ct]⟩) ⟨tabOk, ⟨judge_order_ok, judge_Replay_ok, row_Same_ok, trivial⟩⟩ (by kernel_rfl) 30 Try.f10 (.n) Try.func10 Try.call10 rfl (by kernel_rfl) (by kernel_rfl) (by kernel_rfl) fun n x => by kernel_rfl

/-! bursary bursarylaw27.wakes -/
def law27_wakes (n : Nat) : Option Bool :=
  (law27_one n 4).bind fun y1 =>
  (law27_one n 9).bind fun y2 =>
  (law27_add n 2 3).bind fun y3 =>
  (law27_add n 1 2).bind fun y4 =>
  (law27_commit n 1).bind fun y5 =>
  (law27_commit n 2).bind fun y6 =>
  (judge_Judge n (History.mk y1.1 y1.2 ([y3, y4, y5, y6] : List Entry)) y2.2).bind fun y7 =>
  (judge_Judge n (History.mk y1.1 y1.2 ([y3, y4, y5, y6] : List Entry)) y1.2).bind fun y8 =>
  jn (fun (b9 : Bool) =>
      jn (fun (b11 : Bool) =>
          jn (fun (b13 : Bool) =>
              some b13) fun k14 =>
          cond b11
            (k14 (y8.2 == 372))
            (k14 false)) fun k12 =>
      cond b9
        (k12 (y8.1 == 4))
        (k12 false)) fun k10 =>
  cond (y7.1 == 0)
    (k10 (y7.2 == 0))
    (k10 false)
@[reducible] def law27_wakes_ct : Ct tab := ⟨7, [], [], [.one (.d .bool)], [], Bool, fun y => (y, ()), fun y => y.1, fun _ => rfl, fun n x => law27_wakes n⟩
theorem law27_wakes_ok : OkC Try.prog tab law27_wakes_ct := fn_ok (W := ⟨Try.prog, tab, tyOf, [law27_one_ct, law27_add_ct, law27_commit_ct, judge_Judge_ct]⟩) ⟨tabOk, ⟨law27_one_ok, law27_add_ok, law27_commit_ok, judge_Judge_ok, trivial⟩⟩ (by kernel_rfl) 52 Try.f7 (.n) Try.func7 Try.call7 rfl (by kernel_rfl) (by kernel_rfl) (by kernel_rfl) fun n x => by kernel_rfl

/-! bursary bursarylaw27.overRows -/
def law27_overRows_l1 (n : Nat) : Nat → (List Row) × Int × Int × Unit → Option Bool := loopF fun r1 ⟨v1, v2, v3, _⟩ =>
    cond (decide (v3 < v2))
      ((idx v1 v3).bind fun x4 =>
      cond (decide ((x4.note.size : Int) > 100))
        (some true)
        (r1 (v1, v2, (IntKind.wrap .i64 (v3 + 1)), ())))
      (some false)
def law27_overRows (n : Nat) (p0 : List Row) : Option Bool :=
  cond (decide ((p0.length : Int) > 100))
    (some true)
    (law27_overRows_l1 n n (p0, (p0.length : Int), 0, ()))
@[reducible] def law27_overRows_ct : Ct tab := ⟨9, [.one (.d (.sl (.st 3)))], [], [.one (.d .bool)], [], Bool, fun y => (y, ()), fun y => y.1, fun _ => rfl, fun n x => law27_overRows n x.1⟩
theorem law27_overRows_ok : OkC Try.prog tab law27_overRows_ct := fn_ok (W := ⟨Try.prog, tab, tyOf, []⟩) ⟨tabOk, trivial⟩ (by kernel_rfl) 19 Try.f9 (.sq (.n) (.sq (.n) (.sq (.sq (.n) (.bk none (.lp ⟨[(8, .one (.d (.sl (.st 3)))), (9, .one (.d (.int .i64))), (10, .one (.d (.int .i64)))], [], []⟩ (.n)))) (.n)))) Try.func9 Try.call9 rfl (by kernel_rfl) (by kernel_rfl) (by kernel_rfl) fun n x => by kernel_rfl

/-! bursary bursarylaw27.over -/
def law27_over_l1 (n : Nat) : Nat → (List Entry) × Int × Int × Unit → Option Bool := loopF fun r1 ⟨v7, v8, v9, _⟩ =>
    cond (decide (v9 < v8))
      ((idx v7 v9).bind fun x10 =>
      jn (fun (b11 : Bool) =>
          cond b11
            (some true)
            (r1 (v7, v8, (IntKind.wrap .i64 (v9 + 1)), ()))) fun k12 =>
      cond (decide ((x10.request.note.size : Int) > 100))
        (k12 true)
        ((law27_overRows n x10.answer.rows).bind fun y13 =>
        k12 y13))
      (some false)
def law27_over (n : Nat) (p0 : History) : Option Bool :=
  jn (fun (b1 : Bool) =>
      jn (fun (b3 : Bool) =>
          jn (fun (b5 : Bool) =>
              cond b5
                (some true)
                (law27_over_l1 n n (p0.entries, (p0.entries.length : Int), 0, ()))) fun k6 =>
          cond b3
            (k6 true)
            (k6 (decide ((p0.entries.length : Int) > 2100)))) fun k4 =>
      cond b1
        (k4 true)
        (jn (fun (b14 : Bool) =>
            k4 b14) fun k15 =>
        cond (decide ((p0.entries.length : Int) > 150))
          (k15 (decide ((p0.entries.length : Int) ≤ 2000)))
          (k15 false))) fun k2 =>
  cond (decide ((p0.schema.tables.length : Int) > 20))
    (k2 true)
    ((law27_overRows n p0.begun).bind fun y16 =>
    k2 y16)
@[reducible] def law27_over_ct : Ct tab := ⟨8, [.st 7], [], [.one (.d .bool)], [], Bool, fun y => (y, ()), fun y => y.1, fun _ => rfl, fun n x => law27_over n x.1⟩
theorem law27_over_ok : OkC Try.prog tab law27_over_ct := fn_ok (W := ⟨Try.prog, tab, tyOf, [law27_overRows_ct]⟩) ⟨tabOk, ⟨law27_overRows_ok, trivial⟩⟩ (by kernel_rfl) 52 Try.f8 (.sq (.n) (.sq (.n) (.sq (.sq (.n) (.bk none (.lp ⟨[(34, .one (.d (.sl (.st 6)))), (35, .one (.d (.int .i64))), (36, .one (.d (.int .i64)))], [], []⟩ (.n)))) (.n)))) Try.func8 Try.call8 rfl (by kernel_rfl) (by kernel_rfl) (by kernel_rfl) fun n x => by kernel_rfl

/-! bursary bursarylaw27.JudgeMixed 1 -/
def law27_JudgeMixed_1 (n : Nat) (p0 : Entry) : Option Bool :=
  some (p0.request.kind == 11)
@[reducible] def law27_JudgeMixed_1_ct : Ct tab := ⟨11, [.st 6], [], [.one (.d .bool)], [], Bool, fun y => (y, ()), fun y => y.1, fun _ => rfl, fun n x => law27_JudgeMixed_1 n x.1⟩
theorem law27_JudgeMixed_1_ok : OkC Try.prog tab law27_JudgeMixed_1_ct := fn_ok (W := ⟨Try.prog, tab, tyOf, []⟩) ⟨tabOk, trivial⟩ (by kernel_rfl) 7 Try.f11 (.n) Try.func11 Try.call11 rfl (by kernel_rfl) (by kernel_rfl) (by kernel_rfl) fun n x => by kernel_rfl

/-! bursary bursarylaw27.JudgeMixed -/
def law27_JudgeMixed_j1 (n : Nat) : (List Row) × Int × (List Bounds) × (List Row) × (List Entry) × Unit → Option Bool := fun ⟨v11, v12, v13, v14, v15, _⟩ =>
    (judge_Judge n (History.mk (Schema.mk v13) v14 v15) v11).bind fun y16 =>
    some (v12 == y16.2)
def law27_JudgeMixed_j3 (n : Nat) (r2 : (List Row) × Int × (List Int) × Int × Int × (List Bounds) × (List Row) × (List Entry) × Unit → Option Bool) : (List Row) × Int × (List Int) × Int × Int × (List Bounds) × (List Row) × (List Entry) × Unit → Option Bool := fun ⟨v33, v34, v35, v36, v37, v38, v39, v40, _⟩ =>
    r2 (v33, v34, v35, v36, (IntKind.wrap .i64 (v37 + 1)), v38, v39, v40, ())
def law27_JudgeMixed_l2 (n : Nat) (j1 : (List Row) × Int × (List Bounds) × (List Row) × (List Entry) × Unit → Option Bool) : Nat → (List Row) × Int × (List Int) × Int × Int × (List Bounds) × (List Row) × (List Entry) × Unit → Option Bool := loopF fun r2 ⟨v17, v18, v19, v20, v21, v22, v23, v24, _⟩ =>
    cond (decide (v21 < v20))
      ((idx v19 v21).bind fun x25 =>
      cond (decide ((v24.length : Int) < 2))
        (j1 (v17, v18, v22, v23, v24, ()))
        ((remP (IntKind.wrap .u64 x25) (IntKind.wrap .u64 (IntKind.wrap .i64 ((v24.length : Int) - 1)))).bind fun z26 =>
        (idx v24 (IntKind.wrap .i64 z26)).bind fun x27 =>
        (idx v24 (IntKind.wrap .i64 z26)).bind fun x28 =>
        (idx v24 (IntKind.wrap .i64 ((IntKind.wrap .i64 z26) + 1))).bind fun x29 =>
        (idx v24 (IntKind.wrap .i64 ((IntKind.wrap .i64 z26) + 1))).bind fun x30 =>
        jn (fun (b31 : Bool) =>
            jn (law27_JudgeMixed_j3 n r2) fun j3 =>
            cond b31
              ((idx v24 (IntKind.wrap .i64 z26)).bind fun x41 =>
              (put v24 (IntKind.wrap .i64 z26) x30).bind fun l42 =>
              (idx l42 (IntKind.wrap .i64 ((IntKind.wrap .i64 z26) + 1))).bind fun x43 =>
              (put l42 (IntKind.wrap .i64 ((IntKind.wrap .i64 z26) + 1)) x28).bind fun l44 =>
              j3 (v17, v18, v19, v20, v21, v22, v23, l44, ()))
              (j3 (v17, v18, v19, v20, v21, v22, v23, v24, ()))) fun k32 =>
        cond (x28.txn != x30.txn)
          ((law27_JudgeMixed_1 n x28).bind fun y45 =>
          jn (fun (b46 : Bool) =>
              k32 (!b46)) fun k47 =>
          cond y45
            ((law27_JudgeMixed_1 n x30).bind fun y48 =>
            k47 y48)
            (k47 false))
          (k32 false)))
      (j1 (v17, v18, v22, v23, v24, ()))
def law27_JudgeMixed (n : Nat) (p0 : History) (p1 : List Row) (p2 : List Int) : Option Bool :=
  (law27_wakes n).bind fun y1 =>
  cond (!y1)
    (some false)
    ((law27_over n p0).bind fun y2 =>
    jn (fun (b3 : Bool) =>
        jn (fun (b5 : Bool) =>
            jn (fun (b7 : Bool) =>
                cond b7
                  (some true)
                  ((judge_Judge n p0 p1).bind fun y9 =>
                  (app 120 ([] : List Entry) p0.entries).bind fun l10 =>
                  jn (law27_JudgeMixed_j1 n) fun j1 =>
                  law27_JudgeMixed_l2 n j1 n (p1, y9.2, p2, (p2.length : Int), 0, p0.schema.tables, p0.begun, l10, ()))) fun k8 =>
            cond b5
              (k8 true)
              (k8 (decide ((p2.length : Int) > 200)))) fun k6 =>
        cond b3
          (k6 true)
          (k6 (decide ((p0.entries.length : Int) > 150)))) fun k4 =>
    cond y2
      (k4 true)
      ((law27_overRows n p1).bind fun y49 =>
      k4 y49))
@[reducible] def law27_JudgeMixed_ct : Ct tab := ⟨3, [.st 7, .one (.d (.sl (.st 3))), .one (.d (.sl (.int .i64)))], [], [.one (.d .bool)], [], Bool, fun y => (y, ()), fun y => y.1, fun _ => rfl, fun n x => law27_JudgeMixed n x.1 x.2.1 x.2.2.1⟩
theorem law27_JudgeMixed_ok : OkC Try.prog tab law27_JudgeMixed_ct := fn_ok (W := ⟨Try.prog, tab, tyOf, [law27_wakes_ct, law27_over_ct, judge_Judge_ct, law27_JudgeMixed_1_ct, law27_overRows_ct]⟩) ⟨tabOk, ⟨law27_wakes_ok, law27_over_ok, judge_Judge_ok, law27_JudgeMixed_1_ok, law27_overRows_ok, trivial⟩⟩ (by kernel_rfl) 116 Try.f3 (.sq (.n) (.sq (.n) (.sq (.n) (.sq (.n) (.sq (.n) (.sq (.n) (.sq (.n) (.sq (.sq (.n) (.bk (some ⟨[(1, .one (.d (.sl (.st 3)))), (8, .one (.d (.int .i64))), (9, .one (.box 0 0))], [.box [.d (.sl (.st 0)), .d (.sl (.st 3)), .own 1], .row 44 (.st 6)], []⟩) (.lp ⟨[(1, .one (.d (.sl (.st 3)))), (8, .one (.d (.int .i64))), (9, .one (.box 0 0)), (10, .one (.fn 11 [])), (49, .one (.d (.sl (.int .i64)))), (50, .one (.d (.int .i64))), (51, .one (.d (.int .i64)))], [.box [.d (.sl (.st 0)), .d (.sl (.st 3)), .own 1], .row 44 (.st 6)], []⟩ (.sq (.n) (.sq (.n) (.sq (.bk none (.sq (.n) (.sq (.n) (.sq (.n) (.sq (.n) (.sq (.n) (.cd (some ⟨[(1, .one (.d (.sl (.st 3)))), (8, .one (.d (.int .i64))), (9, .one (.box 0 0)), (10, .one (.fn 11 [])), (49, .one (.d (.sl (.int .i64)))), (50, .one (.d (.int .i64))), (51, .one (.d (.int .i64)))], [.box [.d (.sl (.st 0)), .d (.sl (.st 3)), .own 1], .row 44 (.st 6)], []⟩) (.n) (.n)))))))) (.n))))))) (.n))))))))) Try.func3 Try.call3 rfl (by kernel_rfl) (by kernel_rfl) (by kernel_rfl) fun n x => by kernel_rfl

/-! bursary bursarylaw27.played -/
def law27_played_j1 (n : Nat) : (List Row) × History × (List Bounds) × (List Row) × (List Entry) × Unit → Option (History × (List Row) × Bool) := fun ⟨v2, v3, v4, v5, v6, _⟩ =>
    some ((History.mk (Schema.mk v4) v5 v6), v2, true)
def law27_played_j5 (n : Nat) (r2 : (List Row) × (List law27_Turn) × Int × Int × Schema × History × (List Bounds) × (List Row) × (List Entry) × Unit → Option (History × (List Row) × Bool)) : (List law27_Turn) × Int × Int × Schema × History × (List Bounds) × (List Row) × Serial × (List Entry) × Unit → Option (History × (List Row) × Bool) := fun ⟨v44, v45, v46, v47, v48, v49, v50, v51, v52, _⟩ =>
    r2 (v51.rows, v44, v45, (IntKind.wrap .i64 (v46 + 1)), v47, v48, v49, v50, v52, ())
def law27_played_j7 (n : Nat) (r6 : Int × (List law27_Turn) × Int × Int × Int × Int × Schema × History × (List Bounds) × (List Row) × Serial × Request × (List Request) × (List Entry) × Unit → Option (History × (List Row) × Bool)) : Int × (List law27_Turn) × Int × Int × Int × Int × Schema × History × (List Bounds) × (List Row) × Serial × Request × (List Request) × (List Entry) × Unit → Option (History × (List Row) × Bool) := fun ⟨v67, v68, v69, v70, v71, v72, v73, v74, v75, v76, v77, v78, v79, v80, _⟩ =>
    r6 (v67, v68, v69, v70, v71, (IntKind.wrap .i64 (v72 + 1)), v73, v74, v75, v76, v77, v78, v79, v80, ())
def law27_played_l6 (n : Nat) (j5 : (List law27_Turn) × Int × Int × Schema × History × (List Bounds) × (List Row) × Serial × (List Entry) × Unit → Option (History × (List Row) × Bool)) : Nat → Int × (List law27_Turn) × Int × Int × Int × Int × Schema × History × (List Bounds) × (List Row) × Serial × Request × (List Request) × (List Entry) × Unit → Option (History × (List Row) × Bool) := loopF fun r6 ⟨v53, v54, v55, v56, v57, v58, v59, v60, v61, v62, v63, v64, v65, v66, _⟩ =>
    cond (decide (v58 < v57))
      (jn (law27_played_j7 n r6) fun j7 =>
      (idx v65 v58).bind fun x81 =>
      (idx v65 v58).bind fun x82 =>
      jn (fun (b83 : Bool) =>
          jn (fun (b85 : Bool) =>
              cond b85
                (j7 (v53, v54, v55, v56, v57, v58, v59, v60, v61, v62, v63, v64, v65, v66, ()))
                ((ideal_Step n v63 x82).bind fun y87 =>
                cond (y87.2.err == 250)
                  (j7 (v53, v54, v55, v56, v57, v58, v59, v60, v61, v62, v63, v64, v65, v66, ()))
                  ((app 120 v66 ([(Entry.mk (IntKind.wrap .i64 (v53 + 1)) x82 y87.2)] : List Entry)).bind fun l88 =>
                  cond y87.1.over
                    (j5 (v54, v55, v56, v59, v60, v61, v62, y87.1, l88, ()))
                    (j7 (v53, v54, v55, v56, v57, v58, v59, v60, v61, v62, y87.1, v64, v65, l88, ()))))) fun k86 =>
          cond b83
            (k86 true)
            (k86 (decide ((x82.note.size : Int) > 100)))) fun k84 =>
      cond (decide (x82.kind ≥ 11))
        (k84 (!(Request.eqb x82 v64)))
        (k84 false))
      (j5 (v54, v55, v56, v59, v60, v61, v62, v63, v66, ()))
def law27_played_j4 (n : Nat) (r2 : (List Row) × (List law27_Turn) × Int × Int × Schema × History × (List Bounds) × (List Row) × (List Entry) × Unit → Option (History × (List Row) × Bool)) : Int × (List Request) × (List law27_Turn) × Int × Int × Schema × History × (List Bounds) × (List Row) × Serial × Request × (List Entry) × Unit → Option (History × (List Row) × Bool) := fun ⟨v30, v31, v32, v33, v34, v35, v36, v37, v38, v39, v40, v41, _⟩ =>
    (app 72 ([] : List Request) v31).bind fun l42 =>
    (app 72 l42 ([v40] : List Request)).bind fun l43 =>
    jn (law27_played_j5 n r2) fun j5 =>
    law27_played_l6 n j5 n (v30, v32, v33, v34, (l43.length : Int), 0, v35, v36, v37, v38, v39, v40, l43, v41, ())
def law27_played_j3 (n : Nat) (r2 : (List Row) × (List law27_Turn) × Int × Int × Schema × History × (List Bounds) × (List Row) × (List Entry) × Unit → Option (History × (List Row) × Bool)) : Int × (List Request) × (List law27_Turn) × Int × Int × Schema × History × (List Bounds) × (List Row) × law27_Turn × Serial × (List Entry) × Unit → Option (History × (List Row) × Bool) := fun ⟨v18, v19, v20, v21, v22, v23, v24, v25, v26, v27, v28, v29, _⟩ =>
    jn (law27_played_j4 n r2) fun j4 =>
    cond v27.commits
      (j4 (v18, v19, v20, v21, v22, v23, v24, v25, v26, v28, (Request.mk 11 (Key.mk 0 0) (Key.mk 0 0) 0 ByteArray.empty 0), v29, ()))
      (j4 (v18, v19, v20, v21, v22, v23, v24, v25, v26, v28, (Request.mk 12 (Key.mk 0 0) (Key.mk 0 0) 0 ByteArray.empty 0), v29, ()))
def law27_played_l2 (n : Nat) (j1 : (List Row) × History × (List Bounds) × (List Row) × (List Entry) × Unit → Option (History × (List Row) × Bool)) : Nat → (List Row) × (List law27_Turn) × Int × Int × Schema × History × (List Bounds) × (List Row) × (List Entry) × Unit → Option (History × (List Row) × Bool) := loopF fun r2 ⟨v7, v8, v9, v10, v11, v12, v13, v14, v15, _⟩ =>
    cond (decide (v10 < v9))
      ((idx v8 v10).bind fun x16 =>
      cond (v10 == 12)
        (j1 (v7, v12, v13, v14, v15, ()))
        ((ideal_Begin n v11 v7).bind fun y17 =>
        cond (y17.2 != 0)
          (some ((History.mk (Schema.mk v13) v14 v15), ([] : List Row), false))
          (jn (law27_played_j3 n r2) fun j3 =>
          cond (decide ((x16.requests.length : Int) > 12))
            ((sub x16.requests 0 12).bind fun l89 =>
            j3 (v10, l89, v8, v9, v10, v11, v12, v13, v14, x16, y17.1, v15, ()))
            (j3 (v10, x16.requests, v8, v9, v10, v11, v12, v13, v14, x16, y17.1, v15, ())))))
      (j1 (v7, v12, v13, v14, v15, ()))
def law27_played (n : Nat) (p0 : Schema) (p1 : List Row) (p2 : List law27_Turn) : Option (History × (List Row) × Bool) :=
  (row_CheckList n p0 p1).bind fun y1 =>
  cond (y1 != 0)
    (some ((History.mk p0 p1 ([] : List Entry)), ([] : List Row), false))
    (jn (law27_played_j1 n) fun j1 =>
    law27_played_l2 n j1 n (p1, p2, (p2.length : Int), 0, p0, (History.mk (Schema.mk ([] : List Bounds)) ([] : List Row) ([] : List Entry)), p0.tables, p1, ([] : List Entry), ()))
@[reducible] def law27_played_ct : Ct tab := ⟨12, [.st 1, .one (.d (.sl (.st 3))), .one (.d (.sl (.st 12)))], [], [.st 7, .one (.d (.sl (.st 3))), .one (.d .bool)], [], (History × (List Row) × Bool), fun y => (y.1, y.2.1, y.2.2, ()), fun y => (y.1, y.2.1, y.2.2.1), fun _ => rfl, fun n x => law27_played n x.1 x.2.1 x.2.2.1⟩
theorem law27_played_ok : OkC Try.prog tab law27_played_ct := fn_ok (W := ⟨Try.prog, tab, tyOf, [row_CheckList_ct, ideal_Begin_ct, ideal_Step_ct]⟩) ⟨tabOk, ⟨row_CheckList_ok, ideal_Begin_ok, ideal_Step_ok, trivial⟩⟩ (by kernel_rfl) 110 Try.f12 (.sq (.n) (.sq (.n) (.sq (.n) (.sq (.sq (.n) (.bk (some ⟨[(1, .one (.d (.sl (.st 3)))), (6, .one (.box 0 0)), (9, .one (.box 1 0))], [.bst 7, .box [.d (.sl (.st 0)), .d (.sl (.st 3)), .own 2], .row 44 (.st 6)], []⟩) (.lp ⟨[(1, .one (.d (.sl (.st 3)))), (3, .one (.box 0 0)), (6, .one (.box 1 0)), (9, .one (.box 2 0)), (28, .one (.d (.sl (.st 12)))), (29, .one (.d (.int .i64))), (30, .one (.d (.int .i64)))], [.bst 1, .bst 7, .box [.d (.sl (.st 0)), .d (.sl (.st 3)), .own 3], .row 44 (.st 6)], []⟩ (.sq (.n) (.sq (.n) (.sq (.bk none (.sq (.n) (.sq (.n) (.sq (.n) (.sq (.n) (.sq (.n) (.sq (.sq (.n) (.cd (some ⟨[(3, .one (.box 0 0)), (6, .one (.box 1 0)), (9, .one (.box 2 0)), (10, .one (.d (.int .i64))), (11, .one (.box 3 0)), (12, .one (.box 4 0)), (14, .one (.d (.sl (.st 4)))), (28, .one (.d (.sl (.st 12)))), (29, .one (.d (.int .i64))), (30, .one (.d (.int .i64)))], [.bst 1, .bst 7, .box [.d (.sl (.st 0)), .d (.sl (.st 3)), .own 5], .bst 12, .bst 9, .row 44 (.st 6)], []⟩) (.n) (.n))) (.sq (.n) (.sq (.sq (.n) (.cd (some ⟨[(3, .one (.box 0 0)), (6, .one (.box 1 0)), (9, .one (.box 2 0)), (10, .one (.d (.int .i64))), (12, .one (.box 3 0)), (14, .one (.d (.sl (.st 4)))), (15, .one (.box 4 0)), (28, .one (.d (.sl (.st 12)))), (29, .one (.d (.int .i64))), (30, .one (.d (.int .i64)))], [.bst 1, .bst 7, .box [.d (.sl (.st 0)), .d (.sl (.st 3)), .own 5], .bst 9, .bst 4, .row 44 (.st 6)], []⟩) (.n) (.n))) (.sq (.sq (.n) (.bk (some ⟨[(3, .one (.box 0 0)), (6, .one (.box 1 0)), (9, .one (.box 2 0)), (12, .one (.box 3 0)), (28, .one (.d (.sl (.st 12)))), (29, .one (.d (.int .i64))), (30, .one (.d (.int .i64)))], [.bst 1, .bst 7, .box [.d (.sl (.st 0)), .d (.sl (.st 3)), .own 4], .bst 9, .row 44 (.st 6)], []⟩) (.lp ⟨[(3, .one (.box 0 0)), (6, .one (.box 1 0)), (9, .one (.box 2 0)), (10, .one (.d (.int .i64))), (12, .one (.box 3 0)), (15, .one (.box 4 0)), (28, .one (.d (.sl (.st 12)))), (29, .one (.d (.int .i64))), (30, .one (.d (.int .i64))), (62, .one (.own 5)), (63, .one (.d (.int .i64))), (64, .one (.d (.int .i64)))], [.bst 1, .bst 7, .box [.d (.sl (.st 0)), .d (.sl (.st 3)), .own 6], .bst 9, .bst 4, .row 40 (.st 4), .row 44 (.st 6)], []⟩ (.sq (.n) (.sq (.n) (.sq (.bk (some ⟨[(3, .one (.box 0 0)), (6, .one (.box 1 0)), (9, .one (.box 2 0)), (10, .one (.d (.int .i64))), (12, .one (.box 3 0)), (15, .one (.box 4 0)), (28, .one (.d (.sl (.st 12)))), (29, .one (.d (.int .i64))), (30, .one (.d (.int .i64))), (62, .one (.own 5)), (63, .one (.d (.int .i64))), (64, .one (.d (.int .i64)))], [.bst 1, .bst 7, .box [.d (.sl (.st 0)), .d (.sl (.st 3)), .own 6], .bst 9, .bst 4, .row 40 (.st 4), .row 44 (.st 6)], []⟩) (.n)) (.n))))))) (.n))))))))))) (.n))))))) (.n))))) Try.func12 Try.call12 rfl (by kernel_rfl) (by kernel_rfl) (by kernel_rfl) fun n x => by kernel_rfl

/-! bursary judge.Order -/
def judge_Order (n : Nat) (p0 : History) : Option (Int × (List Int)) :=
  (judge_Check n p0).bind fun y1 =>
  cond (y1 != 0)
    (some (y1, ([] : List Int)))
    ((judge_order n p0).bind fun y2 =>
    some (0, y2))
@[reducible] def judge_Order_ct : Ct tab := ⟨13, [.st 7], [], [.one (.own 0), .one (.d (.int .i64))], [(none, .row 3 (.int .i64))], (Int × (List Int)), fun y => (y.1, y.2, ()), fun y => (y.1, y.2.1), fun _ => rfl, fun n x => judge_Order n x.1⟩
theorem judge_Order_ok : OkC Try.prog tab judge_Order_ct := fn_ok (W := ⟨Try.prog, tab, tyOf, [judge_Check_ct, judge_order_ct]⟩) ⟨tabOk, ⟨judge_Check_ok, judge_order_ok, trivial⟩⟩ (by kernel_rfl) 12 Try.f13 (.n) Try.func13 Try.call13 rfl (by kernel_rfl) (by kernel_rfl) (by kernel_rfl) fun n x => by kernel_rfl

/-! bursary bursarylaw27.JudgeSerial -/
def law27_JudgeSerial_j3 (n : Nat) (r2 : (List Row) × (List Entry) × Int × Int × (List (Int × Bool)) × (List Bounds) × (List Row) × (List Entry) × Unit → Option Bool) : (List Row) × (List Entry) × Int × Int × (List (Int × Bool)) × (List Bounds) × (List Row) × (List Entry) × Unit → Option Bool := fun ⟨v28, v29, v30, v31, v32, v33, v34, v35, _⟩ =>
    r2 (v28, v29, v30, (IntKind.wrap .i64 (v31 + 1)), v32, v33, v34, v35, ())
def law27_JudgeSerial_l2 (n : Nat) : Nat → (List Row) × (List Entry) × Int × Int × (List (Int × Bool)) × (List Bounds) × (List Row) × (List Entry) × Unit → Option Bool := loopF fun r2 ⟨v18, v19, v20, v21, v22, v23, v24, v25, _⟩ =>
    cond (decide (v21 < v20))
      ((idx v19 v21).bind fun x26 =>
      (mlook .i64 false v22 x26.txn).bind fun w27 =>
      jn (law27_JudgeSerial_j3 n r2) fun j3 =>
      cond w27
        ((app 120 v25 ([x26] : List Entry)).bind fun l36 =>
        j3 (v18, v19, v20, v21, v22, v23, v24, l36, ()))
        (j3 (v18, v19, v20, v21, v22, v23, v24, v25, ())))
      ((judge_Judge n (History.mk (Schema.mk v23) v24 v25) v18).bind fun y37 =>
      jn (fun (b38 : Bool) =>
          some b38) fun k39 =>
      cond (y37.1 == 0)
        (k39 (y37.2 == 0))
        (k39 false))
def law27_JudgeSerial_l1 (n : Nat) : Nat → (List Row) × Int × Int × History × (List (Int × Bool)) × (List Int) × Unit → Option Bool := loopF fun r1 ⟨v9, v10, v11, v12, v13, v14, _⟩ =>
    cond (decide (v11 < v10))
      ((idx v14 v11).bind fun x15 =>
      (idx v14 v11).bind fun x16 =>
      (mput .i64 v13 x16 true).bind fun l17 =>
      r1 (v9, v10, (IntKind.wrap .i64 (v11 + 1)), v12, l17, v14, ()))
      (law27_JudgeSerial_l2 n n (v9, v12.entries, (v12.entries.length : Int), 0, v13, v12.schema.tables, v12.begun, ([] : List Entry), ()))
def law27_JudgeSerial (n : Nat) (p0 : Schema) (p1 : List Row) (p2 : List law27_Turn) : Option Bool :=
  (law27_wakes n).bind fun y1 =>
  cond (!y1)
    (some false)
    (jn (fun (b2 : Bool) =>
        cond b2
          (some true)
          ((law27_played n p0 p1 p2).bind fun y4 =>
          cond (!y4.2.2)
            (some true)
            ((judge_Judge n y4.1 y4.2.1).bind fun y5 =>
            jn (fun (b6 : Bool) =>
                cond b6
                  (some false)
                  ((judge_Order n y4.1).bind fun y8 =>
                  cond (y8.1 != 0)
                    (some false)
                    (law27_JudgeSerial_l1 n n (y4.2.1, (y8.2.length : Int), 0, y4.1, ([] : List (Int × Bool)), y8.2, ())))) fun k7 =>
            cond (y5.1 != 0)
              (k7 true)
              (k7 (y5.2 != 0))))) fun k3 =>
    cond (decide ((p0.tables.length : Int) > 20))
      (k3 true)
      ((law27_overRows n p1).bind fun y40 =>
      k3 y40))
@[reducible] def law27_JudgeSerial_ct : Ct tab := ⟨4, [.st 1, .one (.d (.sl (.st 3))), .one (.d (.sl (.st 12)))], [], [.one (.d .bool)], [], Bool, fun y => (y, ()), fun y => y.1, fun _ => rfl, fun n x => law27_JudgeSerial n x.1 x.2.1 x.2.2.1⟩
theorem law27_JudgeSerial_ok : OkC Try.prog tab law27_JudgeSerial_ct := fn_ok (W := ⟨Try.prog, tab, tyOf, [law27_wakes_ct, law27_played_ct, judge_Judge_ct, judge_Order_ct, law27_overRows_ct]⟩) ⟨tabOk, ⟨law27_wakes_ok, law27_played_ok, judge_Judge_ok, judge_Order_ok, law27_overRows_ok, trivial⟩⟩ (by kernel_rfl) 100 Try.f4 (.sq (.n) (.sq (.n) (.sq (.n) (.sq (.n) (.sq (.n) (.sq (.n) (.sq (.n) (.sq (.n) (.sq (.n) (.sq (.n) (.sq (.sq (.n) (.bk none (.lp ⟨[(7, .one (.box 0 0)), (8, .one (.d (.sl (.st 3)))), (12, .one (.map 1)), (59, .one (.own 2)), (60, .one (.d (.int .i64))), (61, .one (.d (.int .i64)))], [.bst 7, .map .i64 3 4 .bool, .row 3 (.int .i64)], []⟩ (.n)))) (.sq (.n) (.sq (.n) (.sq (.sq (.n) (.bk none (.lp ⟨[(8, .one (.d (.sl (.st 3)))), (12, .one (.map 0)), (16, .one (.box 1 0)), (71, .one (.d (.sl (.st 6)))), (72, .one (.d (.int .i64))), (73, .one (.d (.int .i64)))], [.map .i64 3 4 .bool, .box [.d (.sl (.st 0)), .d (.sl (.st 3)), .own 2], .row 44 (.st 6)], []⟩ (.sq (.n) (.sq (.n) (.sq (.bk none (.sq (.n) (.sq (.n) (.cd (some ⟨[(8, .one (.d (.sl (.st 3)))), (12, .one (.map 0)), (16, .one (.box 1 0)), (71, .one (.d (.sl (.st 6)))), (72, .one (.d (.int .i64))), (73, .one (.d (.int .i64)))], [.map .i64 3 4 .bool, .box [.d (.sl (.st 0)), .d (.sl (.st 3)), .own 2], .row 44 (.st 6)], []⟩) (.n) (.n))))) (.n))))))) (.n))))))))))))))) Try.func4 Try.call4 rfl (by kernel_rfl) (by kernel_rfl) (by kernel_rfl) fun n x => by kernel_rfl

/-! bursary bursarylaw27.JudgeFinds -/
def law27_JudgeFinds_l1 (n : Nat) : Nat → (List Row) × Int × Int × law27_Lie × History × (List (Int × Bool)) × (List Int) × Unit → Option Bool := loopF fun r1 ⟨v8, v9, v10, v11, v12, v13, v14, _⟩ =>
    cond (decide (v10 < v9))
      ((idx v14 v10).bind fun x15 =>
      (idx v14 v10).bind fun x16 =>
      (mput .i64 v13 x16 true).bind fun l17 =>
      r1 (v8, v9, (IntKind.wrap .i64 (v10 + 1)), v11, v12, l17, v14, ()))
      ((remP (IntKind.wrap .u64 v11.at_) (IntKind.wrap .u64 (v12.entries.length : Int))).bind fun z18 =>
      (idx v12.entries (IntKind.wrap .i64 z18)).bind fun x19 =>
      (mlook .i64 false v13 x19.txn).bind fun w20 =>
      jn (fun (b21 : Bool) =>
          cond b21
            (some true)
            ((app 120 ([] : List Entry) v12.entries).bind fun l23 =>
            (idx l23 (IntKind.wrap .i64 z18)).bind fun x24 =>
            (put l23 (IntKind.wrap .i64 z18) (Entry.mk x19.txn x19.request (Answer.mk x19.answer.err x19.answer.rows (IntKind.wrap .i64 (x19.answer.n + 1))))).bind fun l25 =>
            (judge_Check n (History.mk v12.schema v12.begun l25)).bind fun y26 =>
            jn (fun (b27 : Bool) =>
                cond b27
                  (some true)
                  ((judge_Judge n (History.mk v12.schema v12.begun l25) v8).bind fun y29 =>
                  jn (fun (b30 : Bool) =>
                      some b30) fun k31 =>
                  cond (y29.1 == (IntKind.wrap .i64 z18))
                    (k31 (y29.2 == 371))
                    (k31 false))) fun k28 =>
            cond (y26 != 0)
              (k28 true)
              ((judge_Passes n (Entry.mk x19.txn x19.request (Answer.mk x19.answer.err x19.answer.rows (IntKind.wrap .i64 (x19.answer.n + 1))))).bind fun y32 =>
              k28 y32))) fun k22 =>
      cond (!w20)
        (k22 true)
        (k22 (x19.request.kind == 11)))
def law27_JudgeFinds (n : Nat) (p0 : Schema) (p1 : List Row) (p2 : law27_Lie) : Option Bool :=
  (law27_wakes n).bind fun y1 =>
  cond (!y1)
    (some false)
    (jn (fun (b2 : Bool) =>
        cond b2
          (some true)
          ((law27_played n p0 p1 p2.turns).bind fun y4 =>
          jn (fun (b5 : Bool) =>
              cond b5
                (some true)
                ((judge_Order n y4.1).bind fun y7 =>
                cond (y7.1 != 0)
                  (some false)
                  (law27_JudgeFinds_l1 n n (y4.2.1, (y7.2.length : Int), 0, p2, y4.1, ([] : List (Int × Bool)), y7.2, ())))) fun k6 =>
          cond (!y4.2.2)
            (k6 true)
            (k6 ((y4.1.entries.length : Int) == 0)))) fun k3 =>
    cond (decide ((p0.tables.length : Int) > 20))
      (k3 true)
      ((law27_overRows n p1).bind fun y33 =>
      k3 y33))
@[reducible] def law27_JudgeFinds_ct : Ct tab := ⟨5, [.st 1, .one (.d (.sl (.st 3))), .st 13], [], [.one (.d .bool)], [], Bool, fun y => (y, ()), fun y => y.1, fun _ => rfl, fun n x => law27_JudgeFinds n x.1 x.2.1 x.2.2.1⟩
theorem law27_JudgeFinds_ok : OkC Try.prog tab law27_JudgeFinds_ct := fn_ok (W := ⟨Try.prog, tab, tyOf, [law27_wakes_ct, law27_played_ct, judge_Order_ct, judge_Check_ct, judge_Judge_ct, judge_Passes_ct, law27_overRows_ct]⟩) ⟨tabOk, ⟨law27_wakes_ok, law27_played_ok, judge_Order_ok, judge_Check_ok, judge_Judge_ok, judge_Passes_ok, law27_overRows_ok, trivial⟩⟩ (by kernel_rfl) 123 Try.f5 (.sq (.n) (.sq (.n) (.sq (.n) (.sq (.n) (.sq (.n) (.sq (.n) (.sq (.n) (.sq (.n) (.sq (.sq (.n) (.bk none (.lp ⟨[(5, .one (.box 0 0)), (7, .one (.box 1 0)), (8, .one (.d (.sl (.st 3)))), (12, .one (.map 2)), (53, .one (.own 3)), (54, .one (.d (.int .i64))), (55, .one (.d (.int .i64)))], [.bst 13, .bst 7, .map .i64 3 4 .bool, .row 3 (.int .i64)], []⟩ (.n)))) (.n)))))))))) Try.func5 Try.call5 rfl (by kernel_rfl) (by kernel_rfl) (by kernel_rfl) fun n x => by kernel_rfl

/-! slices.Equal   bursary api.Bounds bursary api.Bounds  -/
def slices_Equal_Bounds_l1 (n : Nat) : Nat → (List Bounds) × (List Bounds) × Int × Int × Unit → Option Bool := loopF fun r1 ⟨v1, v2, v3, v4, _⟩ =>
    cond (decide (v4 < v3))
      ((idx v1 v4).bind fun x5 =>
      (idx v2 v4).bind fun x6 =>
      cond (!(Bounds.eqb x5 x6))
        (some false)
        (r1 (v1, v2, v3, (IntKind.wrap .i64 (v4 + 1)), ())))
      (some true)
def slices_Equal_Bounds (n : Nat) (p0 : List Bounds) (p1 : List Bounds) : Option Bool :=
  cond ((p0.length : Int) != (p1.length : Int))
    (some false)
    (slices_Equal_Bounds_l1 n n (p0, p1, (p0.length : Int), 0, ()))
@[reducible] def slices_Equal_Bounds_ct : Ct tab := ⟨33, [.one (.d (.sl (.st 0))), .one (.d (.sl (.st 0)))], [], [.one (.d .bool)], [], Bool, fun y => (y, ()), fun y => y.1, fun _ => rfl, fun n x => slices_Equal_Bounds n x.1 x.2.1⟩
theorem slices_Equal_Bounds_ok : OkC Try.prog tab slices_Equal_Bounds_ct := fn_ok (W := ⟨Try.prog, tab, tyOf, []⟩) ⟨tabOk, trivial⟩ (by kernel_rfl) 26 Try.f33 (.sq (.n) (.sq (.n) (.sq (.sq (.n) (.bk none (.lp ⟨[(0, .one (.d (.sl (.st 0)))), (1, .one (.d (.sl (.st 0)))), (12, .one (.d (.int .i64))), (13, .one (.d (.int .i64)))], [], []⟩ (.n)))) (.n)))) Try.func33 Try.call33 rfl (by kernel_rfl) (by kernel_rfl) (by kernel_rfl) fun n x => by kernel_rfl

/-! bursary judge.Same 1 -/
def judge_Same_1 (n : Nat) (p0 : Entry) (p1 : Entry) : Option Bool :=
  jn (fun (b1 : Bool) =>
      jn (fun (b3 : Bool) =>
          some b3) fun k4 =>
      cond b1
        ((ideal_SameAnswer n p0.answer p1.answer).bind fun y5 =>
        k4 y5)
        (k4 false)) fun k2 =>
  cond (p0.txn == p1.txn)
    (k2 (Request.eqb p0.request p1.request))
    (k2 false)
@[reducible] def judge_Same_1_ct : Ct tab := ⟨35, [.st 6, .st 6], [], [.one (.d .bool)], [], Bool, fun y => (y, ()), fun y => y.1, fun _ => rfl, fun n x => judge_Same_1 n x.1 x.2.1⟩
theorem judge_Same_1_ok : OkC Try.prog tab judge_Same_1_ct := fn_ok (W := ⟨Try.prog, tab, tyOf, [ideal_SameAnswer_ct]⟩) ⟨tabOk, ⟨ideal_SameAnswer_ok, trivial⟩⟩ (by kernel_rfl) 24 Try.f35 (.n) Try.func35 Try.call35 rfl (by kernel_rfl) (by kernel_rfl) (by kernel_rfl) fun n x => by kernel_rfl

/-! slices.EqualFunc   bursary api.Entry   bursary api.Entry bursary api.Entry bursary api.Entry  -/
def slices_EqualFunc_Entry_f35_l1 (n : Nat) : Nat → (List Entry) × (List Entry) × Int × Int × Unit → Option Bool := loopF fun r1 ⟨v1, v2, v3, v4, _⟩ =>
    cond (decide (v4 < v3))
      ((idx v2 v4).bind fun x5 =>
      (idx v1 v4).bind fun x6 =>
      (judge_Same_1 n x5 x6).bind fun y7 =>
      cond (!y7)
        (some false)
        (r1 (v1, v2, v3, (IntKind.wrap .i64 (v4 + 1)), ())))
      (some true)
def slices_EqualFunc_Entry_f35 (n : Nat) (p0 : List Entry) (p1 : List Entry) : Option Bool :=
  cond ((p0.length : Int) != (p1.length : Int))
    (some false)
    (slices_EqualFunc_Entry_f35_l1 n n (p1, p0, (p0.length : Int), 0, ()))
@[reducible] def slices_EqualFunc_Entry_f35_ct : Ct tab := ⟨34, [.one (.d (.sl (.st 6))), .one (.d (.sl (.st 6))), .one (.fn 35 [])], [], [.one (.d .bool)], [], Bool, fun y => (y, ()), fun y => y.1, fun _ => rfl, fun n x => slices_EqualFunc_Entry_f35 n x.1 x.2.1⟩
theorem slices_EqualFunc_Entry_f35_ok : OkC Try.prog tab slices_EqualFunc_Entry_f35_ct := fn_ok (W := ⟨Try.prog, tab, tyOf, [judge_Same_1_ct]⟩) ⟨tabOk, ⟨judge_Same_1_ok, trivial⟩⟩ (by kernel_rfl) 32 Try.f34 (.sq (.n) (.sq (.n) (.sq (.sq (.n) (.bk none (.lp ⟨[(1, .one (.d (.sl (.st 6)))), (2, .one (.fn 35 [])), (15, .one (.d (.sl (.st 6)))), (16, .one (.d (.int .i64))), (17, .one (.d (.int .i64)))], [], []⟩ (.n)))) (.n)))) Try.func34 Try.call34 rfl (by kernel_rfl) (by kernel_rfl) (by kernel_rfl) fun n x => by kernel_rfl

/-! bursary judge.Same -/
def judge_Same (n : Nat) (p0 : History) (p1 : History) : Option Bool :=
  (slices_Equal_Bounds n p0.schema.tables p1.schema.tables).bind fun y1 =>
  jn (fun (b2 : Bool) =>
      jn (fun (b4 : Bool) =>
          some b4) fun k5 =>
      cond b2
        ((slices_EqualFunc_Entry_f35 n p0.entries p1.entries).bind fun y6 =>
        k5 y6)
        (k5 false)) fun k3 =>
  cond y1
    ((row_Same n p0.begun p1.begun).bind fun y7 =>
    k3 y7)
    (k3 false)
@[reducible] def judge_Same_ct : Ct tab := ⟨16, [.st 7, .st 7], [], [.one (.d .bool)], [], Bool, fun y => (y, ()), fun y => y.1, fun _ => rfl, fun n x => judge_Same n x.1 x.2.1⟩
theorem judge_Same_ok : OkC Try.prog tab judge_Same_ct := fn_ok (W := ⟨Try.prog, tab, tyOf, [slices_Equal_Bounds_ct, slices_EqualFunc_Entry_f35_ct, row_Same_ct]⟩) ⟨tabOk, ⟨slices_Equal_Bounds_ok, slices_EqualFunc_Entry_f35_ok, row_Same_ok, trivial⟩⟩ (by kernel_rfl) 26 Try.f16 (.n) Try.func16 Try.call16 rfl (by kernel_rfl) (by kernel_rfl) (by kernel_rfl) fun n x => by kernel_rfl

/-! bursary bursaryref05.Same -/
def ref05_Same_l1 (n : Nat) : Nat → (List Row) × (List Row) × Int × Unit → Option Bool := loopF fun r1 ⟨v1, v2, v3, _⟩ =>
    cond (decide (v3 < (v1.length : Int)))
      ((idx v1 v3).bind fun x4 =>
      (idx v2 v3).bind fun x5 =>
      cond (!(Row.eqb x4 x5))
        (some false)
        (r1 (v1, v2, (IntKind.wrap .i64 (v3 + 1)), ())))
      (some true)
def ref05_Same (n : Nat) (p0 : List Row) (p1 : List Row) : Option Bool :=
  cond ((p0.length : Int) != (p1.length : Int))
    (some false)
    (ref05_Same_l1 n n (p0, p1, 0, ()))
@[reducible] def ref05_Same_ct : Ct tab := ⟨37, [.one (.d (.sl (.st 3))), .one (.d (.sl (.st 3)))], [], [.one (.d .bool)], [], Bool, fun y => (y, ()), fun y => y.1, fun _ => rfl, fun n x => ref05_Same n x.1 x.2.1⟩
theorem ref05_Same_ok : OkC Try.prog tab ref05_Same_ct := fn_ok (W := ⟨Try.prog, tab, tyOf, []⟩) ⟨tabOk, trivial⟩ (by kernel_rfl) 26 Try.f37 (.sq (.n) (.sq (.n) (.sq (.sq (.n) (.bk none (.lp ⟨[(0, .one (.d (.sl (.st 3)))), (1, .one (.d (.sl (.st 3)))), (5, .one (.d (.int .i64)))], [], []⟩ (.n)))) (.n)))) Try.func37 Try.call37 rfl (by kernel_rfl) (by kernel_rfl) (by kernel_rfl) fun n x => by kernel_rfl

/-! bursary bursaryref15.SameAnswer -/
def ref15_SameAnswer (n : Nat) (p0 : Answer) (p1 : Answer) : Option Bool :=
  jn (fun (b1 : Bool) =>
      jn (fun (b3 : Bool) =>
          some b3) fun k4 =>
      cond b1
        ((ref05_Same n p0.rows p1.rows).bind fun y5 =>
        k4 y5)
        (k4 false)) fun k2 =>
  cond (p0.err == p1.err)
    (k2 (p0.n == p1.n))
    (k2 false)
@[reducible] def ref15_SameAnswer_ct : Ct tab := ⟨38, [.st 5, .st 5], [], [.one (.d .bool)], [], Bool, fun y => (y, ()), fun y => y.1, fun _ => rfl, fun n x => ref15_SameAnswer n x.1 x.2.1⟩
theorem ref15_SameAnswer_ok : OkC Try.prog tab ref15_SameAnswer_ct := fn_ok (W := ⟨Try.prog, tab, tyOf, [ref05_Same_ct]⟩) ⟨tabOk, ⟨ref05_Same_ok, trivial⟩⟩ (by kernel_rfl) 24 Try.f38 (.n) Try.func38 Try.call38 rfl (by kernel_rfl) (by kernel_rfl) (by kernel_rfl) fun n x => by kernel_rfl

/-! bursary bursaryref27.Same -/
def ref27_Same_l2 (n : Nat) : Nat → Int × History × History × Unit → Option Bool := loopF fun r2 ⟨v10, v11, v12, _⟩ =>
    cond (decide (v10 < (v11.entries.length : Int)))
      ((idx v11.entries v10).bind fun x13 =>
      (idx v12.entries v10).bind fun x14 =>
      jn (fun (b15 : Bool) =>
          jn (fun (b17 : Bool) =>
              cond b17
                (some false)
                (r2 ((IntKind.wrap .i64 (v10 + 1)), v11, v12, ()))) fun k18 =>
          cond b15
            (k18 true)
            ((ref15_SameAnswer n x13.answer x14.answer).bind fun y19 =>
            k18 (!y19))) fun k16 =>
      cond (x13.txn != x14.txn)
        (k16 true)
        (k16 (!(Request.eqb x13.request x14.request))))
      (some true)
def ref27_Same_l1 (n : Nat) : Nat → Int × History × History × Unit → Option Bool := loopF fun r1 ⟨v5, v6, v7, _⟩ =>
    cond (decide (v5 < (v6.schema.tables.length : Int)))
      ((idx v6.schema.tables v5).bind fun x8 =>
      (idx v7.schema.tables v5).bind fun x9 =>
      cond (!(Bounds.eqb x8 x9))
        (some false)
        (r1 ((IntKind.wrap .i64 (v5 + 1)), v6, v7, ())))
      (ref27_Same_l2 n n (0, v6, v7, ()))
def ref27_Same (n : Nat) (p0 : History) (p1 : History) : Option Bool :=
  jn (fun (b1 : Bool) =>
      jn (fun (b3 : Bool) =>
          cond b3
            (some false)
            (ref27_Same_l1 n n (0, p0, p1, ()))) fun k4 =>
      cond b1
        (k4 true)
        ((ref05_Same n p0.begun p1.begun).bind fun y20 =>
        k4 (!y20))) fun k2 =>
  cond ((p0.schema.tables.length : Int) != (p1.schema.tables.length : Int))
    (k2 true)
    (k2 ((p0.entries.length : Int) != (p1.entries.length : Int)))
@[reducible] def ref27_Same_ct : Ct tab := ⟨17, [.st 7, .st 7], [], [.one (.d .bool)], [], Bool, fun y => (y, ()), fun y => y.1, fun _ => rfl, fun n x => ref27_Same n x.1 x.2.1⟩
theorem ref27_Same_ok : OkC Try.prog tab ref27_Same_ct := fn_ok (W := ⟨Try.prog, tab, tyOf, [ref15_SameAnswer_ct, ref05_Same_ct]⟩) ⟨tabOk, ⟨ref15_SameAnswer_ok, ref05_Same_ok, trivial⟩⟩ (by kernel_rfl) 93 Try.f17 (.sq (.n) (.sq (.n) (.sq (.sq (.n) (.bk none (.lp ⟨[(2, .one (.box 0 0)), (3, .one (.box 1 0)), (5, .one (.d (.int .i64)))], [.bst 7, .bst 7], []⟩ (.n)))) (.sq (.sq (.n) (.bk none (.lp ⟨[(2, .one (.box 0 0)), (3, .one (.box 1 0)), (6, .one (.d (.int .i64)))], [.bst 7, .bst 7], []⟩ (.n)))) (.n))))) Try.func17 Try.call17 rfl (by kernel_rfl) (by kernel_rfl) (by kernel_rfl) fun n x => by kernel_rfl

/-! bursary bursaryref27.Passes -/
def ref27_Passes (n : Nat) (p0 : Entry) : Option Bool :=
  jn (fun (b1 : Bool) =>
      jn (fun (b3 : Bool) =>
          some b3) fun k4 =>
      cond b1
        (k4 true)
        (jn (fun (b5 : Bool) =>
            k4 b5) fun k6 =>
        cond (p0.answer.err == 152)
          (jn (fun (b7 : Bool) =>
              k6 b7) fun k8 =>
          cond (p0.request.kind == 7)
            (k8 true)
            (k8 (p0.request.kind == 8)))
          (k6 false))) fun k2 =>
  cond (p0.answer.err == 261)
    (k2 true)
    (jn (fun (b9 : Bool) =>
        k2 b9) fun k10 =>
    cond (p0.answer.err == 6)
      (k10 (p0.request.kind == 3))
      (k10 false))
@[reducible] def ref27_Passes_ct : Ct tab := ⟨18, [.st 6], [], [.one (.d .bool)], [], Bool, fun y => (y, ()), fun y => y.1, fun _ => rfl, fun n x => ref27_Passes n x.1⟩
theorem ref27_Passes_ok : OkC Try.prog tab ref27_Passes_ct := fn_ok (W := ⟨Try.prog, tab, tyOf, []⟩) ⟨tabOk, trivial⟩ (by kernel_rfl) 35 Try.f18 (.n) Try.func18 Try.call18 rfl (by kernel_rfl) (by kernel_rfl) (by kernel_rfl) fun n x => by kernel_rfl

/-! bursary bursaryref05.Right -/
def ref05_Right_l1 (n : Nat) : Nat → Int × Schema × Unit → Option Bool := loopF fun r1 ⟨v3, v4, _⟩ =>
    cond (decide (v3 < (v4.tables.length : Int)))
      ((idx v4.tables v3).bind fun x5 =>
      (idx v4.tables v3).bind fun x6 =>
      cond (decide (x5.min > x6.max))
        (some false)
        (r1 ((IntKind.wrap .i64 (v3 + 1)), v4, ())))
      (some true)
def ref05_Right (n : Nat) (p0 : Schema) : Option Bool :=
  jn (fun (b1 : Bool) =>
      cond b1
        (some false)
        (ref05_Right_l1 n n (0, p0, ()))) fun k2 =>
  cond (decide ((p0.tables.length : Int) < 1))
    (k2 true)
    (k2 (decide ((p0.tables.length : Int) > 3)))
@[reducible] def ref05_Right_ct : Ct tab := ⟨39, [.st 1], [], [.one (.d .bool)], [], Bool, fun y => (y, ()), fun y => y.1, fun _ => rfl, fun n x => ref05_Right n x.1⟩
theorem ref05_Right_ok : OkC Try.prog tab ref05_Right_ct := fn_ok (W := ⟨Try.prog, tab, tyOf, []⟩) ⟨tabOk, trivial⟩ (by kernel_rfl) 34 Try.f39 (.sq (.n) (.sq (.n) (.sq (.sq (.n) (.bk none (.lp ⟨[(1, .one (.box 0 0)), (3, .one (.d (.int .i64)))], [.bst 1], []⟩ (.n)))) (.n)))) Try.func39 Try.call39 rfl (by kernel_rfl) (by kernel_rfl) (by kernel_rfl) fun n x => by kernel_rfl

/-! bursary bursaryref27.Ends -/
def ref27_Ends (n : Nat) (p0 : Entry) : Option Bool :=
  jn (fun (b1 : Bool) =>
      some b1) fun k2 =>
  cond (p0.answer.err == 361)
    (k2 true)
    (jn (fun (b3 : Bool) =>
        k2 b3) fun k4 =>
    cond (p0.answer.err == 0)
      (jn (fun (b5 : Bool) =>
          k4 b5) fun k6 =>
      cond (p0.request.kind == 11)
        (k6 true)
        (k6 (p0.request.kind == 12)))
      (k4 false))
@[reducible] def ref27_Ends_ct : Ct tab := ⟨42, [.st 6], [], [.one (.d .bool)], [], Bool, fun y => (y, ()), fun y => y.1, fun _ => rfl, fun n x => ref27_Ends n x.1⟩
theorem ref27_Ends_ok : OkC Try.prog tab ref27_Ends_ct := fn_ok (W := ⟨Try.prog, tab, tyOf, []⟩) ⟨tabOk, trivial⟩ (by kernel_rfl) 25 Try.f42 (.n) Try.func42 Try.call42 rfl (by kernel_rfl) (by kernel_rfl) (by kernel_rfl) fun n x => by kernel_rfl

/-! bursary bursaryref05.KeyError -/
def ref05_KeyError (n : Nat) (p0 : Schema) (p1 : Key) : Option Int :=
  jn (fun (b1 : Bool) =>
      cond b1
        (some 151)
        (some 0)) fun k2 =>
  cond (decide (p1.table < 0))
    (k2 true)
    (k2 (decide (p1.table ≥ (p0.tables.length : Int))))
@[reducible] def ref05_KeyError_ct : Ct tab := ⟨57, [.st 1, .st 2], [], [.one (.d (.int .i64))], [], Int, fun y => (y, ()), fun y => y.1, fun _ => rfl, fun n x => ref05_KeyError n x.1 x.2.1⟩
theorem ref05_KeyError_ok : OkC Try.prog tab ref05_KeyError_ct := fn_ok (W := ⟨Try.prog, tab, tyOf, []⟩) ⟨tabOk, trivial⟩ (by kernel_rfl) 16 Try.f57 (.n) Try.func57 Try.call57 rfl (by kernel_rfl) (by kernel_rfl) (by kernel_rfl) fun n x => by kernel_rfl

/-! bursary bursaryref05.RowError -/
def ref05_RowError (n : Nat) (p0 : Schema) (p1 : Row) : Option Int :=
  (ref05_KeyError n p0 p1.key).bind fun y1 =>
  cond (y1 != 0)
    (some 151)
    (cond (decide ((p1.note.size : Int) > 8))
      (some 3)
      ((idx p0.tables p1.key.table).bind fun x2 =>
      jn (fun (b3 : Bool) =>
          cond b3
            (some 152)
            (some 0)) fun k4 =>
      cond (decide (p1.val < x2.min))
        (k4 true)
        ((idx p0.tables p1.key.table).bind fun x5 =>
        k4 (decide (p1.val > x5.max)))))
@[reducible] def ref05_RowError_ct : Ct tab := ⟨55, [.st 1, .st 3], [], [.one (.d (.int .i64))], [], Int, fun y => (y, ()), fun y => y.1, fun _ => rfl, fun n x => ref05_RowError n x.1 x.2.1⟩
theorem ref05_RowError_ok : OkC Try.prog tab ref05_RowError_ct := fn_ok (W := ⟨Try.prog, tab, tyOf, [ref05_KeyError_ct]⟩) ⟨tabOk, ⟨ref05_KeyError_ok, trivial⟩⟩ (by kernel_rfl) 38 Try.f55 (.n) Try.func55 Try.call55 rfl (by kernel_rfl) (by kernel_rfl) (by kernel_rfl) fun n x => by kernel_rfl

/-! bursary bursaryref05.Compare -/
def ref05_Compare (n : Nat) (p0 : Key) (p1 : Key) : Option Int :=
  cond (Key.eqb p0 p1)
    (some 0)
    (jn (fun (b1 : Bool) =>
        cond b1
          (some (-1))
          (some 1)) fun k2 =>
    cond (decide (p0.table < p1.table))
      (k2 true)
      (jn (fun (b3 : Bool) =>
          k2 b3) fun k4 =>
      cond (p0.table == p1.table)
        (k4 (decide (p0.id < p1.id)))
        (k4 false)))
@[reducible] def ref05_Compare_ct : Ct tab := ⟨56, [.st 2, .st 2], [], [.one (.d (.int .i64))], [], Int, fun y => (y, ()), fun y => y.1, fun _ => rfl, fun n x => ref05_Compare n x.1 x.2.1⟩
theorem ref05_Compare_ok : OkC Try.prog tab ref05_Compare_ct := fn_ok (W := ⟨Try.prog, tab, tyOf, []⟩) ⟨tabOk, trivial⟩ (by kernel_rfl) 27 Try.f56 (.n) Try.func56 Try.call56 rfl (by kernel_rfl) (by kernel_rfl) (by kernel_rfl) fun n x => by kernel_rfl

/-! bursary bursaryref05.RightList -/
def ref05_RightList_l1 (n : Nat) : Nat → (List Row) × Int × Schema × Unit → Option Bool := loopF fun r1 ⟨v1, v2, v3, _⟩ =>
    cond (decide (v2 < (v1.length : Int)))
      ((idx v1 v2).bind fun x4 =>
      (ref05_RowError n v3 x4).bind fun y5 =>
      jn (fun (b6 : Bool) =>
          cond b6
            (some false)
            (r1 (v1, (IntKind.wrap .i64 (v2 + 1)), v3, ()))) fun k7 =>
      cond (y5 != 0)
        (k7 true)
        (jn (fun (b8 : Bool) =>
            k7 b8) fun k9 =>
        cond (decide (v2 > 0))
          ((idx v1 (IntKind.wrap .i64 (v2 - 1))).bind fun x10 =>
          (idx v1 v2).bind fun x11 =>
          (ref05_Compare n x10.key x11.key).bind fun y12 =>
          k9 (decide (y12 ≥ 0)))
          (k9 false)))
      (some true)
def ref05_RightList (n : Nat) (p0 : Schema) (p1 : List Row) : Option Bool :=
  cond (decide ((p1.length : Int) > 60))
    (some false)
    (ref05_RightList_l1 n n (p1, 0, p0, ()))
@[reducible] def ref05_RightList_ct : Ct tab := ⟨40, [.st 1, .one (.d (.sl (.st 3)))], [], [.one (.d .bool)], [], Bool, fun y => (y, ()), fun y => y.1, fun _ => rfl, fun n x => ref05_RightList n x.1 x.2.1⟩
theorem ref05_RightList_ok : OkC Try.prog tab ref05_RightList_ct := fn_ok (W := ⟨Try.prog, tab, tyOf, [ref05_RowError_ct, ref05_Compare_ct]⟩) ⟨tabOk, ⟨ref05_RowError_ok, ref05_Compare_ok, trivial⟩⟩ (by kernel_rfl) 41 Try.f40 (.sq (.n) (.sq (.n) (.sq (.sq (.n) (.bk none (.lp ⟨[(1, .one (.d (.sl (.st 3)))), (2, .one (.box 0 0)), (5, .one (.d (.int .i64)))], [.bst 1], []⟩ (.n)))) (.n)))) Try.func40 Try.call40 rfl (by kernel_rfl) (by kernel_rfl) (by kernel_rfl) fun n x => by kernel_rfl

/-! bursary bursaryref15.RightRequest -/
def ref15_RightRequest_j2 (n : Nat) : Schema × Request × Request × Unit → Option Bool := fun ⟨v6, v7, v8, _⟩ =>
    jn (fun (b9 : Bool) =>
        jn (fun (b11 : Bool) =>
            some b11) fun k12 =>
        cond b9
          (k12 (decide ((v7.note.size : Int) ≤ 8)))
          (k12 false)) fun k10 =>
    cond (Request.eqb v7 v8)
      ((ref05_KeyError n v6 v7.key).bind fun y13 =>
      k10 (y13 == 0))
      (k10 false)
def ref15_RightRequest_j3 (n : Nat) (j2 : Schema × Request × Request × Unit → Option Bool) : Schema × Request × Request × Unit → Option Bool := fun ⟨v14, v15, v16, _⟩ =>
    j2 (v14, v15, v16, ())
def ref15_RightRequest_j4 (n : Nat) (j3 : Schema × Request × Request × Unit → Option Bool) : Schema × Request × Request × Unit → Option Bool := fun ⟨v17, v18, v19, _⟩ =>
    j3 (v17, v18, v19, ())
def ref15_RightRequest_j5 (n : Nat) (j4 : Schema × Request × Request × Unit → Option Bool) : Schema × Request × Request × Unit → Option Bool := fun ⟨v20, v21, v22, _⟩ =>
    j4 (v20, v21, v22, ())
def ref15_RightRequest_j7 (n : Nat) (j5 : Schema × Request × Request × Unit → Option Bool) : Schema × Request × Request × Unit → Option Bool := fun ⟨v28, v29, v30, _⟩ =>
    j5 (v28, v29, v30, ())
def ref15_RightRequest_j8 (n : Nat) : Int × Bool × Request × Request × Unit → Option Bool := fun ⟨v36, v37, v38, v39, _⟩ =>
    cond v37
      (some (Request.eqb v38 v39))
      (cond (v36 == 10)
        (jn (fun (b40 : Bool) =>
            some b40) fun k41 =>
        cond (Request.eqb v38 (Request.mk v39.kind v39.key v39.to v39.val v39.note v38.n))
          (k41 (decide (v38.n ≥ 1)))
          (k41 false))
        (some false))
def ref15_RightRequest_j9 (n : Nat) (j8 : Int × Bool × Request × Request × Unit → Option Bool) : Int × Bool × Request × Request × Unit → Option Bool := fun ⟨v42, v43, v44, v45, _⟩ =>
    j8 (v42, v43, v44, v45, ())
def ref15_RightRequest_j6 (n : Nat) (j5 : Schema × Request × Request × Unit → Option Bool) : Int × Bool × Schema × Request × Request × Unit → Option Bool := fun ⟨v23, v24, v25, v26, v27, _⟩ =>
    jn (ref15_RightRequest_j7 n j5) fun j7 =>
    cond v24
      (j7 (v25, v26, (Request.mk v27.kind v26.key v27.to v26.val v27.note v27.n), ()))
      (cond (v23 == 8)
        (jn (fun (b31 : Bool) =>
            jn (fun (b33 : Bool) =>
                cond b33
                  (some false)
                  (j7 (v25, v26, (Request.mk v27.kind v26.key v26.to v26.val v27.note v27.n), ()))) fun k34 =>
            cond b31
              (k34 true)
              ((ref05_KeyError n v25 v26.to).bind fun y35 =>
              k34 (y35 != 0))) fun k32 =>
        cond (Key.eqb v26.key v26.to)
          (k32 true)
          (k32 (decide (v26.val < 0))))
        (jn (ref15_RightRequest_j8 n) fun j8 =>
        cond (v23 == 9)
          (j8 (v23, (v23 == 9), v26, v27, ()))
          (jn (ref15_RightRequest_j9 n j8) fun j9 =>
          cond (v23 == 11)
            (j9 (v23, (v23 == 11), v26, v27, ()))
            (j9 (v23, (v23 == 12), v26, v27, ())))))
def ref15_RightRequest_j1 (n : Nat) : Int × Bool × Schema × Request × Request × Unit → Option Bool := fun ⟨v1, v2, v3, v4, v5, _⟩ =>
    jn (ref15_RightRequest_j2 n) fun j2 =>
    cond v2
      (j2 (v3, v4, (Request.mk v5.kind v4.key v5.to v5.val v5.note v5.n), ()))
      (jn (ref15_RightRequest_j3 n j2) fun j3 =>
      cond (v1 == 2)
        (j3 (v3, v4, (Request.mk v5.kind (Key.mk v4.key.table v5.key.id) v5.to v5.val v5.note v5.n), ()))
        (jn (ref15_RightRequest_j4 n j3) fun j4 =>
        cond (v1 == 3)
          (j4 (v3, v4, (Request.mk v5.kind v4.key v5.to v4.val v4.note v5.n), ()))
          (jn (ref15_RightRequest_j5 n j4) fun j5 =>
          cond (v1 == 5)
            (j5 (v3, v4, (Request.mk v5.kind v4.key v5.to v5.val v4.note v5.n), ()))
            (jn (ref15_RightRequest_j6 n j5) fun j6 =>
            cond (v1 == 6)
              (j6 (v1, (v1 == 6), v3, v4, v5, ()))
              (j6 (v1, (v1 == 7), v3, v4, v5, ()))))))
def ref15_RightRequest (n : Nat) (p0 : Schema) (p1 : Request) : Option Bool :=
  jn (ref15_RightRequest_j1 n) fun j1 =>
  cond (p1.kind == 1)
    (j1 (p1.kind, (p1.kind == 1), p0, p1, (Request.mk p1.kind (Key.mk 0 0) (Key.mk 0 0) 0 ByteArray.empty 0), ()))
    (j1 (p1.kind, (p1.kind == 4), p0, p1, (Request.mk p1.kind (Key.mk 0 0) (Key.mk 0 0) 0 ByteArray.empty 0), ()))
@[reducible] def ref15_RightRequest_ct : Ct tab := ⟨41, [.st 1, .st 4], [], [.one (.d .bool)], [], Bool, fun y => (y, ()), fun y => y.1, fun _ => rfl, fun n x => ref15_RightRequest n x.1 x.2.1⟩
theorem ref15_RightRequest_ok : OkC Try.prog tab ref15_RightRequest_ct := fn_ok (W := ⟨Try.prog, tab, tyOf, [ref05_KeyError_ct]⟩) ⟨tabOk, ⟨ref05_KeyError_ok, trivial⟩⟩ (by kernel_rfl) 116 Try.f41 (.sq (.n) (.sq (.n) (.sq (.sq (.n) (.bk none (.sq (.sq (.n) (.cd (some ⟨[(2, .one (.box 0 0)), (3, .one (.box 1 0)), (5, .one (.box 2 0)), (10, .one (.d (.int .i64))), (11, .one (.d .bool))], [.bst 1, .bst 4, .bst 4], []⟩) (.n) (.n))) (.cd (some ⟨[(2, .one (.box 0 0)), (3, .one (.box 1 0)), (5, .one (.box 2 0))], [.bst 1, .bst 4, .bst 4], []⟩) (.n) (.sq (.n) (.cd (some ⟨[(2, .one (.box 0 0)), (3, .one (.box 1 0)), (5, .one (.box 2 0))], [.bst 1, .bst 4, .bst 4], []⟩) (.n) (.sq (.n) (.cd (some ⟨[(2, .one (.box 0 0)), (3, .one (.box 1 0)), (5, .one (.box 2 0))], [.bst 1, .bst 4, .bst 4], []⟩) (.n) (.sq (.n) (.cd (some ⟨[(2, .one (.box 0 0)), (3, .one (.box 1 0)), (5, .one (.box 2 0))], [.bst 1, .bst 4, .bst 4], []⟩) (.n) (.sq (.sq (.n) (.cd (some ⟨[(2, .one (.box 0 0)), (3, .one (.box 1 0)), (5, .one (.box 2 0)), (10, .one (.d (.int .i64))), (43, .one (.d .bool))], [.bst 1, .bst 4, .bst 4], []⟩) (.n) (.n))) (.cd (some ⟨[(2, .one (.box 0 0)), (3, .one (.box 1 0)), (5, .one (.box 2 0))], [.bst 1, .bst 4, .bst 4], []⟩) (.n) (.sq (.n) (.cd none (.n) (.sq (.sq (.n) (.cd (some ⟨[(3, .one (.box 0 0)), (5, .one (.box 1 0)), (10, .one (.d (.int .i64))), (80, .one (.d .bool))], [.bst 4, .bst 4], []⟩) (.n) (.sq (.n) (.cd (some ⟨[(3, .one (.box 0 0)), (5, .one (.box 1 0)), (10, .one (.d (.int .i64))), (80, .one (.d .bool))], [.bst 4, .bst 4], []⟩) (.n) (.n))))) (.n)))))))))))))))) (.n)))) Try.func41 Try.call41 rfl (by kernel_rfl) (by kernel_rfl) (by kernel_rfl) fun n x => by kernel_rfl

/-! bursary bursaryref27.Right -/
def ref27_Right_l2 (n : Nat) (r1 : Int × History × Unit → Option Bool) : Nat → Int × Int × History × Entry × Unit → Option Bool := loopF fun r2 ⟨v15, v16, v17, v18, _⟩ =>
    cond (decide (v16 < v15))
      ((idx v17.entries v16).bind fun x19 =>
      jn (fun (b20 : Bool) =>
          cond b20
            (some false)
            (r2 (v15, (IntKind.wrap .i64 (v16 + 1)), v17, v18, ()))) fun k21 =>
      cond (x19.txn == v18.txn)
        ((idx v17.entries v16).bind fun x22 =>
        (ref27_Ends n x22).bind fun y23 =>
        k21 y23)
        (k21 false))
      (r1 ((IntKind.wrap .i64 (v15 + 1)), v17, ()))
def ref27_Right_l1 (n : Nat) : Nat → Int × History × Unit → Option Bool := loopF fun r1 ⟨v6, v7, _⟩ =>
    cond (decide (v6 < (v7.entries.length : Int)))
      ((idx v7.entries v6).bind fun x8 =>
      jn (fun (b9 : Bool) =>
          jn (fun (b11 : Bool) =>
              jn (fun (b13 : Bool) =>
                  cond b13
                    (some false)
                    (ref27_Right_l2 n r1 n (v6, 0, v7, x8, ()))) fun k14 =>
              cond b11
                (k14 true)
                ((ref05_RightList n v7.schema x8.answer.rows).bind fun y24 =>
                k14 (!y24))) fun k12 =>
          cond b9
            (k12 true)
            ((ref15_RightRequest n v7.schema x8.request).bind fun y25 =>
            k12 (!y25))) fun k10 =>
      cond (decide (x8.txn < 1))
        (k10 true)
        (k10 (decide (x8.txn > 1073741824))))
      (some true)
def ref27_Right (n : Nat) (p0 : History) : Option Bool :=
  (ref05_Right n p0.schema).bind fun y1 =>
  jn (fun (b2 : Bool) =>
      jn (fun (b4 : Bool) =>
          cond b4
            (some false)
            (ref27_Right_l1 n n (0, p0, ()))) fun k5 =>
      cond b2
        (k5 true)
        (k5 (decide ((p0.entries.length : Int) > 2000)))) fun k3 =>
  cond (!y1)
    (k3 true)
    ((ref05_RightList n p0.schema p0.begun).bind fun y26 =>
    k3 (!y26))
@[reducible] def ref27_Right_ct : Ct tab := ⟨19, [.st 7], [], [.one (.d .bool)], [], Bool, fun y => (y, ()), fun y => y.1, fun _ => rfl, fun n x => ref27_Right n x.1⟩
theorem ref27_Right_ok : OkC Try.prog tab ref27_Right_ct := fn_ok (W := ⟨Try.prog, tab, tyOf, [ref05_Right_ct, ref27_Ends_ct, ref05_RightList_ct, ref15_RightRequest_ct]⟩) ⟨tabOk, ⟨ref05_Right_ok, ref27_Ends_ok, ref05_RightList_ok, ref15_RightRequest_ok, trivial⟩⟩ (by kernel_rfl) 83 Try.f19 (.sq (.n) (.sq (.n) (.sq (.sq (.n) (.bk none (.lp ⟨[(1, .one (.box 0 0)), (3, .one (.d (.int .i64)))], [.bst 7], []⟩ (.sq (.n) (.sq (.bk none (.sq (.n) (.sq (.n) (.sq (.n) (.bk none (.lp ⟨[(1, .one (.box 0 0)), (3, .one (.d (.int .i64))), (4, .one (.box 1 0)), (5, .one (.d (.int .i64)))], [.bst 7, .bst 6], []⟩ (.n))))))) (.n)))))) (.n)))) Try.func19 Try.call19 rfl (by kernel_rfl) (by kernel_rfl) (by kernel_rfl) fun n x => by kernel_rfl

end
end Go.Proofs.Ytegnflodgnfffaa
