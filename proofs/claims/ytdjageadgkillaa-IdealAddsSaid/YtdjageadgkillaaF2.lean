/- Functions of the program: plain twins and their contracts, printed by program. -/
import Derived.Test.YtdjageadgkillaaTypes
import Derived.Test.YtdjageadgkillaaF1
namespace Go.Proofs.Ytdjageadgkillaa
open Go Go.Bur Go.RowKit
set_option linter.unusedVariables false
set_option linter.unusedSimpArgs false
set_option maxRecDepth 100000
noncomputable section
/-! bursary bursarylaw15.wakes -/
def law15_wakes (n : Nat) : Option Bool :=
  (law15_one n).bind fun y1 =>
  (ideal_Do n y1 ([(Row.mk (Key.mk 0 1) 4 ByteArray.empty)] : List Row) (Request.mk 7 (Key.mk 0 1) (Key.mk 0 0) 6 ByteArray.empty 0)).bind fun y2 =>
  (law15_one n).bind fun y3 =>
  (ideal_Do n y3 ([(Row.mk (Key.mk 0 1) 4 ByteArray.empty)] : List Row) (Request.mk 7 (Key.mk 0 1) (Key.mk 0 0) 7 ByteArray.empty 0)).bind fun y4 =>
  jn (fun (b5 : Bool) =>
      jn (fun (b7 : Bool) =>
          jn (fun (b9 : Bool) =>
              some b9) fun k10 =>
          cond b7
            (k10 (y4.1.err == 152))
            (k10 false)) fun k8 =>
      cond b5
        ((idx y2.2 0).bind fun x11 =>
        (idx y2.2 0).bind fun x12 =>
        k8 (x12.val == 10))
        (k8 false)) fun k6 =>
  cond (y2.1.err == 0)
    (k6 ((y2.2.length : Int) == 1))
    (k6 false)
@[reducible] def law15_wakes_ct : Ct tab := ⟨9, [], [], [.one (.d .bool)], [], Bool, fun y => (y, ()), fun y => y.1, fun _ => rfl, fun n x => law15_wakes n⟩
theorem law15_wakes_ok : OkC Try.prog tab law15_wakes_ct := fn_ok (W := ⟨Try.prog, tab, tyOf, [law15_one_ct, ideal_Do_ct]⟩) ⟨tabOk, ⟨law15_one_ok, ideal_Do_ok, trivial⟩⟩ (by kernel_rfl) 45 Try.f9 (.n) Try.func9 Try.call9 rfl (by kernel_rfl) (by kernel_rfl) (by kernel_rfl) fun n x => by kernel_rfl

/-! bursary bursarylaw15.over -/
def law15_over_l1 (n : Nat) : Nat → (List Row) × Int × Int × Unit → Option Bool := loopF fun r1 ⟨v3, v4, v5, _⟩ =>
    cond (decide (v5 < v4))
      ((idx v3 v5).bind fun x6 =>
      cond (decide ((x6.note.size : Int) > 100))
        (some true)
        (r1 (v3, v4, (IntKind.wrap .i64 (v5 + 1)), ())))
      (some false)
def law15_over (n : Nat) (p0 : Schema) (p1 : List Row) : Option Bool :=
  jn (fun (b1 : Bool) =>
      cond b1
        (some true)
        (law15_over_l1 n n (p1, (p1.length : Int), 0, ()))) fun k2 =>
  cond (decide ((p0.tables.length : Int) > 20))
    (k2 true)
    (k2 (decide ((p1.length : Int) > 100)))
@[reducible] def law15_over_ct : Ct tab := ⟨10, [.st 1, .one (.d (.sl (.st 3)))], [], [.one (.d .bool)], [], Bool, fun y => (y, ()), fun y => y.1, fun _ => rfl, fun n x => law15_over n x.1 x.2.1⟩
theorem law15_over_ok : OkC Try.prog tab law15_over_ct := fn_ok (W := ⟨Try.prog, tab, tyOf, []⟩) ⟨tabOk, trivial⟩ (by kernel_rfl) 27 Try.f10 (.sq (.n) (.sq (.n) (.sq (.sq (.n) (.bk none (.lp ⟨[(16, .one (.d (.sl (.st 3)))), (17, .one (.d (.int .i64))), (18, .one (.d (.int .i64)))], [], []⟩ (.n)))) (.n)))) Try.func10 Try.call10 rfl (by kernel_rfl) (by kernel_rfl) (by kernel_rfl) fun n x => by kernel_rfl

/-! bursary bursaryref05.Same -/
def ref05_Same_l1 (n : Nat) : Nat → (List Row) × (List Row) × Int × Unit → Option Bool := loopF fun r1 ⟨v1, v2, v3, _⟩ =>
    cond (decide (v3 < (v1.length : Int)))
      ((idx v1 v3).bind fun x4 =>
      (idx v2 v3).bind fun x5 =>
      cond (!(Row.eqb x4 x5))
        (some false)
        (r1 (v1, v2, (IntKind.wrap .i64 (v3 + 1)), ())))
      (some true)
def ref05_Same (n : Nat) (p0 : List Row) (p1 : List Row) : Option Bool :=
  cond ((p0.length : Int) != (p1.length : Int))
    (some false)
    (ref05_Same_l1 n n (p0, p1, 0, ()))
@[reducible] def ref05_Same_ct : Ct tab := ⟨13, [.one (.d (.sl (.st 3))), .one (.d (.sl (.st 3)))], [], [.one (.d .bool)], [], Bool, fun y => (y, ()), fun y => y.1, fun _ => rfl, fun n x => ref05_Same n x.1 x.2.1⟩
theorem ref05_Same_ok : OkC Try.prog tab ref05_Same_ct := fn_ok (W := ⟨Try.prog, tab, tyOf, []⟩) ⟨tabOk, trivial⟩ (by kernel_rfl) 26 Try.f13 (.sq (.n) (.sq (.n) (.sq (.sq (.n) (.bk none (.lp ⟨[(0, .one (.d (.sl (.st 3)))), (1, .one (.d (.sl (.st 3)))), (5, .one (.d (.int .i64)))], [], []⟩ (.n)))) (.n)))) Try.func13 Try.call13 rfl (by kernel_rfl) (by kernel_rfl) (by kernel_rfl) fun n x => by kernel_rfl

/-! bursary bursaryref05.Right -/
def ref05_Right_l1 (n : Nat) : Nat → Int × Schema × Unit → Option Bool := loopF fun r1 ⟨v3, v4, _⟩ =>
    cond (decide (v3 < (v4.tables.length : Int)))
      ((idx v4.tables v3).bind fun x5 =>
      (idx v4.tables v3).bind fun x6 =>
      cond (decide (x5.min > x6.max))
        (some false)
        (r1 ((IntKind.wrap .i64 (v3 + 1)), v4, ())))
      (some true)
def ref05_Right (n : Nat) (p0 : Schema) : Option Bool :=
  jn (fun (b1 : Bool) =>
      cond b1
        (some false)
        (ref05_Right_l1 n n (0, p0, ()))) fun k2 =>
  cond (decide ((p0.tables.length : Int) < 1))
    (k2 true)
    (k2 (decide ((p0.tables.length : Int) > 3)))
@[reducible] def ref05_Right_ct : Ct tab := ⟨14, [.st 1], [], [.one (.d .bool)], [], Bool, fun y => (y, ()), fun y => y.1, fun _ => rfl, fun n x => ref05_Right n x.1⟩
theorem ref05_Right_ok : OkC Try.prog tab ref05_Right_ct := fn_ok (W := ⟨Try.prog, tab, tyOf, []⟩) ⟨tabOk, trivial⟩ (by kernel_rfl) 34 Try.f14 (.sq (.n) (.sq (.n) (.sq (.sq (.n) (.bk none (.lp ⟨[(1, .one (.box 0 0)), (3, .one (.d (.int .i64)))], [.bst 1], []⟩ (.n)))) (.n)))) Try.func14 Try.call14 rfl (by kernel_rfl) (by kernel_rfl) (by kernel_rfl) fun n x => by kernel_rfl

/-! bursary bursaryref05.KeyError -/
def ref05_KeyError (n : Nat) (p0 : Schema) (p1 : Key) : Option Int :=
  jn (fun (b1 : Bool) =>
      cond b1
        (some 151)
        (some 0)) fun k2 =>
  cond (decide (p1.table < 0))
    (k2 true)
    (k2 (decide (p1.table ≥ (p0.tables.length : Int))))
@[reducible] def ref05_KeyError_ct : Ct tab := ⟨39, [.st 1, .st 2], [], [.one (.d (.int .i64))], [], Int, fun y => (y, ()), fun y => y.1, fun _ => rfl, fun n x => ref05_KeyError n x.1 x.2.1⟩
theorem ref05_KeyError_ok : OkC Try.prog tab ref05_KeyError_ct := fn_ok (W := ⟨Try.prog, tab, tyOf, []⟩) ⟨tabOk, trivial⟩ (by kernel_rfl) 16 Try.f39 (.n) Try.func39 Try.call39 rfl (by kernel_rfl) (by kernel_rfl) (by kernel_rfl) fun n x => by kernel_rfl

/-! bursary bursaryref15.RightRequest -/
def ref15_RightRequest_j2 (n : Nat) : Schema × Request × Request × Unit → Option Bool := fun ⟨v6, v7, v8, _⟩ =>
    jn (fun (b9 : Bool) =>
        jn (fun (b11 : Bool) =>
            some b11) fun k12 =>
        cond b9
          (k12 (decide ((v7.note.size : Int) ≤ 8)))
          (k12 false)) fun k10 =>
    cond (Request.eqb v7 v8)
      ((ref05_KeyError n v6 v7.key).bind fun y13 =>
      k10 (y13 == 0))
      (k10 false)
def ref15_RightRequest_j3 (n : Nat) (j2 : Schema × Request × Request × Unit → Option Bool) : Schema × Request × Request × Unit → Option Bool := fun ⟨v14, v15, v16, _⟩ =>
    j2 (v14, v15, v16, ())
def ref15_RightRequest_j4 (n : Nat) (j3 : Schema × Request × Request × Unit → Option Bool) : Schema × Request × Request × Unit → Option Bool := fun ⟨v17, v18, v19, _⟩ =>
    j3 (v17, v18, v19, ())
def ref15_RightRequest_j5 (n : Nat) (j4 : Schema × Request × Request × Unit → Option Bool) : Schema × Request × Request × Unit → Option Bool := fun ⟨v20, v21, v22, _⟩ =>
    j4 (v20, v21, v22, ())
def ref15_RightRequest_j7 (n : Nat) (j5 : Schema × Request × Request × Unit → Option Bool) : Schema × Request × Request × Unit → Option Bool := fun ⟨v28, v29, v30, _⟩ =>
    j5 (v28, v29, v30, ())
def ref15_RightRequest_j8 (n : Nat) : Int × Bool × Request × Request × Unit → Option Bool := fun ⟨v36, v37, v38, v39, _⟩ =>
    cond v37
      (some (Request.eqb v38 v39))
      (cond (v36 == 10)
        (jn (fun (b40 : Bool) =>
            some b40) fun k41 =>
        cond (Request.eqb v38 (Request.mk v39.kind v39.key v39.to v39.val v39.note v38.n))
          (k41 (decide (v38.n ≥ 1)))
          (k41 false))
        (some false))
def ref15_RightRequest_j9 (n : Nat) (j8 : Int × Bool × Request × Request × Unit → Option Bool) : Int × Bool × Request × Request × Unit → Option Bool := fun ⟨v42, v43, v44, v45, _⟩ =>
    j8 (v42, v43, v44, v45, ())
def ref15_RightRequest_j6 (n : Nat) (j5 : Schema × Request × Request × Unit → Option Bool) : Int × Bool × Schema × Request × Request × Unit → Option Bool := fun ⟨v23, v24, v25, v26, v27, _⟩ =>
    jn (ref15_RightRequest_j7 n j5) fun j7 =>
    cond v24
      (j7 (v25, v26, (Request.mk v27.kind v26.key v27.to v26.val v27.note v27.n), ()))
      (cond (v23 == 8)
        (jn (fun (b31 : Bool) =>
            jn (fun (b33 : Bool) =>
                cond b33
                  (some false)
                  (j7 (v25, v26, (Request.mk v27.kind v26.key v26.to v26.val v27.note v27.n), ()))) fun k34 =>
            cond b31
              (k34 true)
              ((ref05_KeyError n v25 v26.to).bind fun y35 =>
              k34 (y35 != 0))) fun k32 =>
        cond (Key.eqb v26.key v26.to)
          (k32 true)
          (k32 (decide (v26.val < 0))))
        (jn (ref15_RightRequest_j8 n) fun j8 =>
        cond (v23 == 9)
          (j8 (v23, (v23 == 9), v26, v27, ()))
          (jn (ref15_RightRequest_j9 n j8) fun j9 =>
          cond (v23 == 11)
            (j9 (v23, (v23 == 11), v26, v27, ()))
            (j9 (v23, (v23 == 12), v26, v27, ())))))
def ref15_RightRequest_j1 (n : Nat) : Int × Bool × Schema × Request × Request × Unit → Option Bool := fun ⟨v1, v2, v3, v4, v5, _⟩ =>
    jn (ref15_RightRequest_j2 n) fun j2 =>
    cond v2
      (j2 (v3, v4, (Request.mk v5.kind v4.key v5.to v5.val v5.note v5.n), ()))
      (jn (ref15_RightRequest_j3 n j2) fun j3 =>
      cond (v1 == 2)
        (j3 (v3, v4, (Request.mk v5.kind (Key.mk v4.key.table v5.key.id) v5.to v5.val v5.note v5.n), ()))
        (jn (ref15_RightRequest_j4 n j3) fun j4 =>
        cond (v1 == 3)
          (j4 (v3, v4, (Request.mk v5.kind v4.key v5.to v4.val v4.note v5.n), ()))
          (jn (ref15_RightRequest_j5 n j4) fun j5 =>
          cond (v1 == 5)
            (j5 (v3, v4, (Request.mk v5.kind v4.key v5.to v5.val v4.note v5.n), ()))
            (jn (ref15_RightRequest_j6 n j5) fun j6 =>
            cond (v1 == 6)
              (j6 (v1, (v1 == 6), v3, v4, v5, ()))
              (j6 (v1, (v1 == 7), v3, v4, v5, ()))))))
def ref15_RightRequest (n : Nat) (p0 : Schema) (p1 : Request) : Option Bool :=
  jn (ref15_RightRequest_j1 n) fun j1 =>
  cond (p1.kind == 1)
    (j1 (p1.kind, (p1.kind == 1), p0, p1, (Request.mk p1.kind (Key.mk 0 0) (Key.mk 0 0) 0 ByteArray.empty 0), ()))
    (j1 (p1.kind, (p1.kind == 4), p0, p1, (Request.mk p1.kind (Key.mk 0 0) (Key.mk 0 0) 0 ByteArray.empty 0), ()))
@[reducible] def ref15_RightRequest_ct : Ct tab := ⟨15, [.st 1, .st 4], [], [.one (.d .bool)], [], Bool, fun y => (y, ()), fun y => y.1, fun _ => rfl, fun n x => ref15_RightRequest n x.1 x.2.1⟩
theorem ref15_RightRequest_ok : OkC Try.prog tab ref15_RightRequest_ct := fn_ok (W := ⟨Try.prog, tab, tyOf, [ref05_KeyError_ct]⟩) ⟨tabOk, ⟨ref05_KeyError_ok, trivial⟩⟩ (by kernel_rfl) 116 Try.f15 (.sq (.n) (.sq (.n) (.sq (.sq (.n) (.bk none (.sq (.sq (.n) (.cd (some ⟨[(2, .one (.box 0 0)), (3, .one (.box 1 0)), (5, .one (.box 2 0)), (10, .one (.d (.int .i64))), (11, .one (.d .bool))], [.bst 1, .bst 4, .bst 4], []⟩) (.n) (.n))) (.cd (some ⟨[(2, .one (.box 0 0)), (3, .one (.box 1 0)), (5, .one (.box 2 0))], [.bst 1, .bst 4, .bst 4], []⟩) (.n) (.sq (.n) (.cd (some ⟨[(2, .one (.box 0 0)), (3, .one (.box 1 0)), (5, .one (.box 2 0))], [.bst 1, .bst 4, .bst 4], []⟩) (.n) (.sq (.n) (.cd (some ⟨[(2, .one (.box 0 0)), (3, .one (.box 1 0)), (5, .one (.box 2 0))], [.bst 1, .bst 4, .bst 4], []⟩) (.n) (.sq (.n) (.cd (some ⟨[(2, .one (.box 0 0)), (3, .one (.box 1 0)), (5, .one (.box 2 0))], [.bst 1, .bst 4, .bst 4], []⟩) (.n) (.sq (.sq (.n) (.cd (some ⟨[(2, .one (.box 0 0)), (3, .one (.box 1 0)), (5, .one (.box 2 0)), (10, .one (.d (.int .i64))), (43, .one (.d .bool))], [.bst 1, .bst 4, .bst 4], []⟩) (.n) (.n))) (.cd (some ⟨[(2, .one (.box 0 0)), (3, .one (.box 1 0)), (5, .one (.box 2 0))], [.bst 1, .bst 4, .bst 4], []⟩) (.n) (.sq (.n) (.cd none (.n) (.sq (.sq (.n) (.cd (some ⟨[(3, .one (.box 0 0)), (5, .one (.box 1 0)), (10, .one (.d (.int .i64))), (80, .one (.d .bool))], [.bst 4, .bst 4], []⟩) (.n) (.sq (.n) (.cd (some ⟨[(3, .one (.box 0 0)), (5, .one (.box 1 0)), (10, .one (.d (.int .i64))), (80, .one (.d .bool))], [.bst 4, .bst 4], []⟩) (.n) (.n))))) (.n)))))))))))))))) (.n)))) Try.func15 Try.call15 rfl (by kernel_rfl) (by kernel_rfl) (by kernel_rfl) fun n x => by kernel_rfl

/-! bursary bursaryref15.SameAnswer -/
def ref15_SameAnswer (n : Nat) (p0 : Answer) (p1 : Answer) : Option Bool :=
  jn (fun (b1 : Bool) =>
      jn (fun (b3 : Bool) =>
          some b3) fun k4 =>
      cond b1
        ((ref05_Same n p0.rows p1.rows).bind fun y5 =>
        k4 y5)
        (k4 false)) fun k2 =>
  cond (p0.err == p1.err)
    (k2 (p0.n == p1.n))
    (k2 false)
@[reducible] def ref15_SameAnswer_ct : Ct tab := ⟨17, [.st 6, .st 6], [], [.one (.d .bool)], [], Bool, fun y => (y, ()), fun y => y.1, fun _ => rfl, fun n x => ref15_SameAnswer n x.1 x.2.1⟩
theorem ref15_SameAnswer_ok : OkC Try.prog tab ref15_SameAnswer_ct := fn_ok (W := ⟨Try.prog, tab, tyOf, [ref05_Same_ct]⟩) ⟨tabOk, ⟨ref05_Same_ok, trivial⟩⟩ (by kernel_rfl) 24 Try.f17 (.n) Try.func17 Try.call17 rfl (by kernel_rfl) (by kernel_rfl) (by kernel_rfl) fun n x => by kernel_rfl

/-! bursary bursaryref05.Find -/
def ref05_Find_l1 (n : Nat) : Nat → (List Row) × Int × Key × Unit → Option Int := loopF fun r1 ⟨v1, v2, v3, _⟩ =>
    cond (decide (v2 < (v1.length : Int)))
      ((idx v1 v2).bind fun x4 =>
      cond (Key.eqb x4.key v3)
        (some v2)
        (r1 (v1, (IntKind.wrap .i64 (v2 + 1)), v3, ())))
      (some (-1))
def ref05_Find (n : Nat) (p0 : List Row) (p1 : Key) : Option Int :=
  ref05_Find_l1 n n (p0, 0, p1, ())
@[reducible] def ref05_Find_ct : Ct tab := ⟨42, [.one (.d (.sl (.st 3))), .st 2], [], [.one (.d (.int .i64))], [], Int, fun y => (y, ()), fun y => y.1, fun _ => rfl, fun n x => ref05_Find n x.1 x.2.1⟩
theorem ref05_Find_ok : OkC Try.prog tab ref05_Find_ct := fn_ok (W := ⟨Try.prog, tab, tyOf, []⟩) ⟨tabOk, trivial⟩ (by kernel_rfl) 20 Try.f42 (.sq (.n) (.sq (.sq (.n) (.bk none (.lp ⟨[(0, .one (.d (.sl (.st 3)))), (3, .one (.box 0 0)), (5, .one (.d (.int .i64)))], [.bst 2], []⟩ (.n)))) (.n))) Try.func42 Try.call42 rfl (by kernel_rfl) (by kernel_rfl) (by kernel_rfl) fun n x => by kernel_rfl

/-! bursary bursaryref05.Plus -/
def ref05_Plus (n : Nat) (p0 : Int) (p1 : Int) : Option (Int × Bool) :=
  jn (fun (b1 : Bool) =>
      jn (fun (b3 : Bool) =>
          cond b3
            (some (0, false))
            (some ((IntKind.wrap .i64 (p0 + p1)), true))) fun k4 =>
      cond b1
        (k4 true)
        (jn (fun (b5 : Bool) =>
            k4 b5) fun k6 =>
        cond (decide (p1 < 0))
          (k6 (decide (p0 < (IntKind.wrap .i64 ((IntKind.wrap .i64 ((IntKind.wrap .i64 (0 - 9223372036854775807)) - 1)) - p1)))))
          (k6 false))) fun k2 =>
  cond (decide (p1 > 0))
    (k2 (decide (p0 > (IntKind.wrap .i64 (9223372036854775807 - p1)))))
    (k2 false)
@[reducible] def ref05_Plus_ct : Ct tab := ⟨71, [.one (.d (.int .i64)), .one (.d (.int .i64))], [], [.one (.d (.int .i64)), .one (.d .bool)], [], (Int × Bool), fun y => (y.1, y.2, ()), fun y => (y.1, y.2.1), fun _ => rfl, fun n x => ref05_Plus n x.1 x.2.1⟩
theorem ref05_Plus_ok : OkC Try.prog tab ref05_Plus_ct := fn_ok (W := ⟨Try.prog, tab, tyOf, []⟩) ⟨tabOk, trivial⟩ (by kernel_rfl) 34 Try.f71 (.n) Try.func71 Try.call71 rfl (by kernel_rfl) (by kernel_rfl) (by kernel_rfl) fun n x => by kernel_rfl

/-! bursary bursaryref15.Fits -/
def ref15_Fits (n : Nat) (p0 : Schema) (p1 : Key) (p2 : Int) : Option Bool :=
  (idx p0.tables p1.table).bind fun x1 =>
  jn (fun (b2 : Bool) =>
      some b2) fun k3 =>
  cond (decide (p2 ≥ x1.min))
    ((idx p0.tables p1.table).bind fun x4 =>
    k3 (decide (p2 ≤ x4.max)))
    (k3 false)
@[reducible] def ref15_Fits_ct : Ct tab := ⟨70, [.st 1, .st 2, .one (.d (.int .i64))], [], [.one (.d .bool)], [], Bool, fun y => (y, ()), fun y => y.1, fun _ => rfl, fun n x => ref15_Fits n x.1 x.2.1 x.2.2.1⟩
theorem ref15_Fits_ok : OkC Try.prog tab ref15_Fits_ct := fn_ok (W := ⟨Try.prog, tab, tyOf, []⟩) ⟨tabOk, trivial⟩ (by kernel_rfl) 27 Try.f70 (.n) Try.func70 Try.call70 rfl (by kernel_rfl) (by kernel_rfl) (by kernel_rfl) fun n x => by kernel_rfl

/-! bursary bursaryref15.plus -/
def ref15_plus (n : Nat) (p0 : Schema) (p1 : Row) (p2 : Int) : Option (Row × Bool) :=
  (ref05_Plus n p1.val p2).bind fun y1 =>
  jn (fun (b2 : Bool) =>
      some ((Row.mk p1.key y1.1 p1.note), b2)) fun k3 =>
  cond y1.2
    ((ref15_Fits n p0 p1.key y1.1).bind fun y4 =>
    k3 y4)
    (k3 false)
@[reducible] def ref15_plus_ct : Ct tab := ⟨47, [.st 1, .st 3, .one (.d (.int .i64))], [], [.st 3, .one (.d .bool)], [], (Row × Bool), fun y => (y.1, y.2, ()), fun y => (y.1, y.2.1), fun _ => rfl, fun n x => ref15_plus n x.1 x.2.1 x.2.2.1⟩
theorem ref15_plus_ok : OkC Try.prog tab ref15_plus_ct := fn_ok (W := ⟨Try.prog, tab, tyOf, [ref05_Plus_ct, ref15_Fits_ct]⟩) ⟨tabOk, ⟨ref05_Plus_ok, ref15_Fits_ok, trivial⟩⟩ (by kernel_rfl) 28 Try.f47 (.n) Try.func47 Try.call47 rfl (by kernel_rfl) (by kernel_rfl) (by kernel_rfl) fun n x => by kernel_rfl

/-! bursary bursaryref15.refused -/
def ref15_refused_j2 (n : Nat) : Unit → Option Int := fun _ =>
    some 0
def ref15_refused_j1 (n : Nat) : (List Row) × Int × Request × Schema × Unit → Option Int := fun ⟨v5, v6, v7, v8, _⟩ =>
    jn (ref15_refused_j2 n) fun j2 =>
    cond (v7.kind == 8)
      ((ref05_Find n v5 v7.to).bind fun y9 =>
      cond (decide (y9 < 0))
        (some 4)
        ((idx v5 v6).bind fun x10 =>
        (ref15_plus n v8 x10 (IntKind.wrap .i64 (0 - v7.val))).bind fun y11 =>
        (idx v5 y9).bind fun x12 =>
        (ref15_plus n v8 x12 v7.val).bind fun y13 =>
        jn (fun (b14 : Bool) =>
            cond b14
              (some 152)
              (j2 (()))) fun k15 =>
        cond (!y11.2)
          (k15 true)
          (k15 (!y13.2))))
      (j2 (()))
def ref15_refused (n : Nat) (p0 : Request) (p1 : Schema) (p2 : List Row) (p3 : Int) : Option Int :=
  jn (fun (b1 : Bool) =>
      jn (fun (b3 : Bool) =>
          cond b3
            (some 152)
            (cond (p0.kind == 2)
              (some 0)
              (cond (p0.kind == 3)
                (cond (decide (p3 ≥ 0))
                  (some 5)
                  (cond (decide ((p2.length : Int) ≥ 60))
                    (some 6)
                    (some 0)))
                (cond (decide (p3 < 0))
                  (some 4)
                  (jn (ref15_refused_j1 n) fun j1 =>
                  cond (p0.kind == 7)
                    ((idx p2 p3).bind fun x16 =>
                    (ref15_plus n p1 x16 p0.val).bind fun y17 =>
                    cond (!y17.2)
                      (some 152)
                      (j1 (p2, p3, p0, p1, ())))
                    (j1 (p2, p3, p0, p1, ()))))))) fun k4 =>
      cond b1
        ((ref15_Fits n p1 p0.key p0.val).bind fun y18 =>
        k4 (!y18))
        (k4 false)) fun k2 =>
  cond (p0.kind == 3)
    (k2 true)
    (k2 (p0.kind == 6))
@[reducible] def ref15_refused_ct : Ct tab := ⟨43, [.st 4, .st 1, .one (.d (.sl (.st 3))), .one (.d (.int .i64))], [], [.one (.d (.int .i64))], [], Int, fun y => (y, ()), fun y => y.1, fun _ => rfl, fun n x => ref15_refused n x.1 x.2.1 x.2.2.1 x.2.2.2.1⟩
theorem ref15_refused_ok : OkC Try.prog tab ref15_refused_ct := fn_ok (W := ⟨Try.prog, tab, tyOf, [ref05_Find_ct, ref15_plus_ct, ref15_Fits_ct]⟩) ⟨tabOk, ⟨ref05_Find_ok, ref15_plus_ok, ref15_Fits_ok, trivial⟩⟩ (by kernel_rfl) 100 Try.f43 (.sq (.n) (.sq (.n) (.sq (.n) (.sq (.n) (.sq (.n) (.sq (.sq (.n) (.cd (some ⟨[(2, .one (.d (.sl (.st 3)))), (3, .one (.d (.int .i64))), (4, .one (.box 0 0)), (5, .one (.box 1 0))], [.bst 4, .bst 1], []⟩) (.n) (.n))) (.sq (.sq (.n) (.cd (some ⟨[], [], []⟩) (.n) (.n))) (.n)))))))) Try.func43 Try.call43 rfl (by kernel_rfl) (by kernel_rfl) (by kernel_rfl) fun n x => by kernel_rfl

/-! bursary bursaryref05.Of -/
def ref05_Of_j2 (n : Nat) (r1 : (List Row) × Int × Int × (List Row) × Unit → Option ((List Row))) : (List Row) × Int × Int × (List Row) × Unit → Option ((List Row)) := fun ⟨v6, v7, v8, v9, _⟩ =>
    r1 (v6, v7, (IntKind.wrap .i64 (v8 + 1)), v9, ())
def ref05_Of_l1 (n : Nat) : Nat → (List Row) × Int × Int × (List Row) × Unit → Option ((List Row)) := loopF fun r1 ⟨v1, v2, v3, v4, _⟩ =>
    cond (decide (v3 < (v1.length : Int)))
      ((idx v1 v3).bind fun x5 =>
      jn (ref05_Of_j2 n r1) fun j2 =>
      cond (x5.key.table == v2)
        ((idx v1 v3).bind fun x10 =>
        (app 40 v4 ([x10] : List Row)).bind fun l11 =>
        j2 (v1, v2, v3, l11, ()))
        (j2 (v1, v2, v3, v4, ())))
      (some v4)
def ref05_Of (n : Nat) (p0 : List Row) (p1 : Int) : Option ((List Row)) :=
  ref05_Of_l1 n n (p0, p1, 0, ([] : List Row), ())
@[reducible] def ref05_Of_ct : Ct tab := ⟨44, [.one (.d (.sl (.st 3))), .one (.d (.int .i64))], [], [.one (.own 0)], [(none, .row 52 (.st 3))], ((List Row)), fun y => (y, ()), fun y => y.1, fun _ => rfl, fun n x => ref05_Of n x.1 x.2.1⟩
theorem ref05_Of_ok : OkC Try.prog tab ref05_Of_ct := fn_ok (W := ⟨Try.prog, tab, tyOf, []⟩) ⟨tabOk, trivial⟩ (by kernel_rfl) 29 Try.f44 (.sq (.n) (.sq (.n) (.sq (.sq (.n) (.bk none (.lp ⟨[(0, .one (.d (.sl (.st 3)))), (1, .one (.d (.int .i64))), (5, .one (.own 0)), (6, .one (.d (.int .i64)))], [.row 52 (.st 3)], []⟩ (.sq (.n) (.sq (.bk none (.sq (.n) (.cd (some ⟨[(0, .one (.d (.sl (.st 3)))), (1, .one (.d (.int .i64))), (5, .one (.own 0)), (6, .one (.d (.int .i64)))], [.row 52 (.st 3)], []⟩) (.n) (.n)))) (.n)))))) (.n)))) Try.func44 Try.call44 rfl (by kernel_rfl) (by kernel_rfl) (by kernel_rfl) fun n x => by kernel_rfl

/-! bursary bursaryref05.Without -/
def ref05_Without_j2 (n : Nat) (r1 : (List Row) × Int × Key × (List Row) × Unit → Option ((List Row))) : (List Row) × Int × Key × (List Row) × Unit → Option ((List Row)) := fun ⟨v6, v7, v8, v9, _⟩ =>
    r1 (v6, (IntKind.wrap .i64 (v7 + 1)), v8, v9, ())
def ref05_Without_l1 (n : Nat) : Nat → (List Row) × Int × Key × (List Row) × Unit → Option ((List Row)) := loopF fun r1 ⟨v1, v2, v3, v4, _⟩ =>
    cond (decide (v2 < (v1.length : Int)))
      ((idx v1 v2).bind fun x5 =>
      jn (ref05_Without_j2 n r1) fun j2 =>
      cond (!(Key.eqb x5.key v3))
        ((idx v1 v2).bind fun x10 =>
        (app 40 v4 ([x10] : List Row)).bind fun l11 =>
        j2 (v1, v2, v3, l11, ()))
        (j2 (v1, v2, v3, v4, ())))
      (some v4)
def ref05_Without (n : Nat) (p0 : List Row) (p1 : Key) : Option ((List Row)) :=
  ref05_Without_l1 n n (p0, 0, p1, ([] : List Row), ())
@[reducible] def ref05_Without_ct : Ct tab := ⟨46, [.one (.d (.sl (.st 3))), .st 2], [], [.one (.own 0)], [(none, .row 52 (.st 3))], ((List Row)), fun y => (y, ()), fun y => y.1, fun _ => rfl, fun n x => ref05_Without n x.1 x.2.1⟩
theorem ref05_Without_ok : OkC Try.prog tab ref05_Without_ct := fn_ok (W := ⟨Try.prog, tab, tyOf, []⟩) ⟨tabOk, trivial⟩ (by kernel_rfl) 28 Try.f46 (.sq (.n) (.sq (.n) (.sq (.sq (.n) (.bk none (.lp ⟨[(0, .one (.d (.sl (.st 3)))), (3, .one (.box 0 0)), (5, .one (.own 1)), (6, .one (.d (.int .i64)))], [.bst 2, .row 52 (.st 3)], []⟩ (.sq (.n) (.sq (.bk none (.sq (.n) (.cd (some ⟨[(0, .one (.d (.sl (.st 3)))), (3, .one (.box 0 0)), (5, .one (.own 1)), (6, .one (.d (.int .i64)))], [.bst 2, .row 52 (.st 3)], []⟩) (.n) (.n)))) (.n)))))) (.n)))) Try.func46 Try.call46 rfl (by kernel_rfl) (by kernel_rfl) (by kernel_rfl) fun n x => by kernel_rfl

/-! bursary bursaryref05.Compare -/
def ref05_Compare (n : Nat) (p0 : Key) (p1 : Key) : Option Int :=
  cond (Key.eqb p0 p1)
    (some 0)
    (jn (fun (b1 : Bool) =>
        cond b1
          (some (-1))
          (some 1)) fun k2 =>
    cond (decide (p0.table < p1.table))
      (k2 true)
      (jn (fun (b3 : Bool) =>
          k2 b3) fun k4 =>
      cond (p0.table == p1.table)
        (k4 (decide (p0.id < p1.id)))
        (k4 false)))
@[reducible] def ref05_Compare_ct : Ct tab := ⟨41, [.st 2, .st 2], [], [.one (.d (.int .i64))], [], Int, fun y => (y, ()), fun y => y.1, fun _ => rfl, fun n x => ref05_Compare n x.1 x.2.1⟩
theorem ref05_Compare_ok : OkC Try.prog tab ref05_Compare_ct := fn_ok (W := ⟨Try.prog, tab, tyOf, []⟩) ⟨tabOk, trivial⟩ (by kernel_rfl) 27 Try.f41 (.n) Try.func41 Try.call41 rfl (by kernel_rfl) (by kernel_rfl) (by kernel_rfl) fun n x => by kernel_rfl

/-! bursary bursaryref05.With -/
def ref05_With_j2 (n : Nat) (r1 : Bool × Int × Row × (List Row) × (List Row) × Unit → Option ((List Row))) : Bool × Int × Row × (List Row) × (List Row) × Unit → Option ((List Row)) := fun ⟨v9, v10, v11, v12, v13, _⟩ =>
    (idx v13 v10).bind fun x14 =>
    (idx v13 v10).bind fun x15 =>
    (app 40 v12 ([x15] : List Row)).bind fun l16 =>
    r1 (v9, (IntKind.wrap .i64 (v10 + 1)), v11, l16, v13, ())
def ref05_With_j3 (n : Nat) : (List Row) × Unit → Option ((List Row)) := fun ⟨v21, _⟩ =>
    some v21
def ref05_With_l1 (n : Nat) : Nat → Bool × Int × Row × (List Row) × (List Row) × Unit → Option ((List Row)) := loopF fun r1 ⟨v2, v3, v4, v5, v6, _⟩ =>
    cond (decide (v3 < (v6.length : Int)))
      (jn (fun (b7 : Bool) =>
          jn (ref05_With_j2 n r1) fun j2 =>
          cond b7
            ((app 40 v5 ([v4] : List Row)).bind fun l17 =>
            j2 (true, v3, v4, l17, v6, ()))
            (j2 (v2, v3, v4, v5, v6, ()))) fun k8 =>
      cond (!v2)
        ((idx v6 v3).bind fun x18 =>
        (idx v6 v3).bind fun x19 =>
        (ref05_Compare n v4.key x19.key).bind fun y20 =>
        k8 (decide (y20 < 0)))
        (k8 false))
      (jn (ref05_With_j3 n) fun j3 =>
      cond (!v2)
        ((app 40 v5 ([v4] : List Row)).bind fun l22 =>
        j3 (l22, ()))
        (j3 (v5, ())))
def ref05_With (n : Nat) (p0 : List Row) (p1 : Row) : Option ((List Row)) :=
  (ref05_Without n p0 p1.key).bind fun y1 =>
  ref05_With_l1 n n (false, 0, p1, ([] : List Row), y1, ())
@[reducible] def ref05_With_ct : Ct tab := ⟨45, [.one (.d (.sl (.st 3))), .st 3], [], [.one (.own 0)], [(none, .row 52 (.st 3))], ((List Row)), fun y => (y, ()), fun y => y.1, fun _ => rfl, fun n x => ref05_With n x.1 x.2.1⟩
theorem ref05_With_ok : OkC Try.prog tab ref05_With_ct := fn_ok (W := ⟨Try.prog, tab, tyOf, [ref05_Without_ct, ref05_Compare_ct]⟩) ⟨tabOk, ⟨ref05_Without_ok, ref05_Compare_ok, trivial⟩⟩ (by kernel_rfl) 50 Try.f45 (.sq (.n) (.sq (.n) (.sq (.n) (.sq (.n) (.sq (.sq (.n) (.bk none (.lp ⟨[(3, .one (.box 0 0)), (5, .one (.own 1)), (6, .one (.d .bool)), (7, .one (.own 2)), (8, .one (.d (.int .i64)))], [.bst 3, .row 52 (.st 3), .row 52 (.st 3)], []⟩ (.sq (.n) (.sq (.bk none (.sq (.sq (.n) (.cd (some ⟨[(3, .one (.box 0 0)), (5, .one (.own 1)), (6, .one (.d .bool)), (7, .one (.own 2)), (8, .one (.d (.int .i64)))], [.bst 3, .row 52 (.st 3), .row 52 (.st 3)], []⟩) (.n) (.n))) (.n))) (.n)))))) (.sq (.sq (.n) (.cd (some ⟨[(5, .one (.own 0))], [.row 52 (.st 3)], []⟩) (.n) (.n))) (.n))))))) Try.func45 Try.call45 rfl (by kernel_rfl) (by kernel_rfl) (by kernel_rfl) fun n x => by kernel_rfl

/-! bursary bursaryref15.Do -/
def ref15_Do_j1 (n : Nat) : (List Row) × Answer × Row × Unit → Option ((List Row) × Answer) := fun ⟨v8, v9, v10, _⟩ =>
    (ref05_With n v8 v10).bind fun y11 =>
    some (y11, (Answer.mk 0 ([] : List Row) 0))
def ref15_Do_j2 (n : Nat) (j1 : (List Row) × Answer × Row × Unit → Option ((List Row) × Answer)) : (List Row) × Answer × Row × Unit → Option ((List Row) × Answer) := fun ⟨v12, v13, v14, _⟩ =>
    j1 (v12, v13, v14, ())
def ref15_Do_j3 (n : Nat) (j2 : (List Row) × Answer × Row × Unit → Option ((List Row) × Answer)) : (List Row) × Answer × Row × Unit → Option ((List Row) × Answer) := fun ⟨v15, v16, v17, _⟩ =>
    j2 (v15, v16, v17, ())
def ref15_Do_j4 (n : Nat) (j3 : (List Row) × Answer × Row × Unit → Option ((List Row) × Answer)) : (List Row) × Answer × Row × Unit → Option ((List Row) × Answer) := fun ⟨v19, v20, v21, _⟩ =>
    j3 (v19, v20, v21, ())
def ref15_Do (n : Nat) (p0 : Schema) (p1 : List Row) (p2 : Request) : Option ((List Row) × Answer) :=
  (ref05_Find n p1 p2.key).bind fun y1 =>
  (ref15_refused n p2 p0 p1 y1).bind fun y2 =>
  cond (y2 != 0)
    (some (p1, (Answer.mk y2 ([] : List Row) 0)))
    (cond (p2.kind == 1)
      ((idx p1 y1).bind fun x3 =>
      some (p1, (Answer.mk 0 ([x3] : List Row) 0)))
      (cond (p2.kind == 2)
        ((ref05_Of n p1 p2.key.table).bind fun y4 =>
        some (p1, (Answer.mk 0 y4 0)))
        (cond (p2.kind == 3)
          ((ref05_With n p1 (Row.mk p2.key p2.val p2.note)).bind fun y5 =>
          some (y5, (Answer.mk 0 ([] : List Row) 0)))
          (cond (p2.kind == 4)
            ((ref05_Without n p1 p2.key).bind fun y6 =>
            some (y6, (Answer.mk 0 ([] : List Row) 0)))
            ((idx p1 y1).bind fun x7 =>
            jn (ref15_Do_j1 n) fun j1 =>
            cond (p2.kind == 5)
              (j1 (p1, (Answer.mk 0 ([] : List Row) 0), (Row.mk x7.key x7.val p2.note), ()))
              (jn (ref15_Do_j2 n j1) fun j2 =>
              cond (p2.kind == 6)
                (j2 (p1, (Answer.mk 0 ([] : List Row) 0), (Row.mk x7.key p2.val x7.note), ()))
                (jn (ref15_Do_j3 n j2) fun j3 =>
                cond (p2.kind == 7)
                  ((ref15_plus n p0 x7 p2.val).bind fun y18 =>
                  j3 (p1, (Answer.mk 0 ([] : List Row) 0), y18.1, ()))
                  (jn (ref15_Do_j4 n j3) fun j4 =>
                  cond (p2.kind == 8)
                    ((ref15_plus n p0 x7 (IntKind.wrap .i64 (0 - p2.val))).bind fun y22 =>
                    (ref05_Find n p1 p2.to).bind fun y23 =>
                    (idx p1 y23).bind fun x24 =>
                    (ref15_plus n p0 x24 p2.val).bind fun y25 =>
                    (ref05_With n p1 y25.1).bind fun y26 =>
                    j4 (y26, (Answer.mk 0 ([] : List Row) 0), y22.1, ()))
                    (j4 (p1, (Answer.mk 0 ([] : List Row) 0), x7, ()))))))))))
@[reducible] def ref15_Do_ct : Ct tab := ⟨18, [.st 1, .one (.d (.sl (.st 3))), .st 4], [], [.one (.d (.sl (.st 3))), .st 6], [], ((List Row) × Answer), fun y => (y.1, y.2, ()), fun y => (y.1, y.2.1), fun _ => rfl, fun n x => ref15_Do n x.1 x.2.1 x.2.2.1⟩
theorem ref15_Do_ok : OkC Try.prog tab ref15_Do_ct := fn_ok (W := ⟨Try.prog, tab, tyOf, [ref05_Find_ct, ref15_refused_ct, ref05_Of_ct, ref05_With_ct, ref05_Without_ct, ref15_plus_ct]⟩) ⟨tabOk, ⟨ref05_Find_ok, ref15_refused_ok, ref05_Of_ok, ref05_With_ok, ref05_Without_ok, ref15_plus_ok, trivial⟩⟩ (by kernel_rfl) 124 Try.f18 (.sq (.n) (.sq (.n) (.sq (.n) (.sq (.n) (.sq (.n) (.sq (.n) (.sq (.sq (.n) (.bk none (.sq (.n) (.cd (some ⟨[(1, .one (.d (.sl (.st 3)))), (7, .one (.box 0 0)), (10, .one (.box 1 0))], [.bst 6, .bst 3], []⟩) (.n) (.sq (.n) (.cd (some ⟨[(1, .one (.d (.sl (.st 3)))), (7, .one (.box 0 0)), (10, .one (.box 1 0))], [.bst 6, .bst 3], []⟩) (.n) (.sq (.n) (.cd (some ⟨[(1, .one (.d (.sl (.st 3)))), (7, .one (.box 0 0)), (10, .one (.box 1 0))], [.bst 6, .bst 3], []⟩) (.n) (.sq (.n) (.cd (some ⟨[(1, .one (.d (.sl (.st 3)))), (7, .one (.box 0 0)), (10, .one (.box 1 0))], [.bst 6, .bst 3], []⟩) (.n) (.n))))))))))) (.n)))))))) Try.func18 Try.call18 rfl (by kernel_rfl) (by kernel_rfl) (by kernel_rfl) fun n x => by kernel_rfl

/-! bursary bursaryref05.RowError -/
def ref05_RowError (n : Nat) (p0 : Schema) (p1 : Row) : Option Int :=
  (ref05_KeyError n p0 p1.key).bind fun y1 =>
  cond (y1 != 0)
    (some 151)
    (cond (decide ((p1.note.size : Int) > 8))
      (some 3)
      ((idx p0.tables p1.key.table).bind fun x2 =>
      jn (fun (b3 : Bool) =>
          cond b3
            (some 152)
            (some 0)) fun k4 =>
      cond (decide (p1.val < x2.min))
        (k4 true)
        ((idx p0.tables p1.key.table).bind fun x5 =>
        k4 (decide (p1.val > x5.max)))))
@[reducible] def ref05_RowError_ct : Ct tab := ⟨40, [.st 1, .st 3], [], [.one (.d (.int .i64))], [], Int, fun y => (y, ()), fun y => y.1, fun _ => rfl, fun n x => ref05_RowError n x.1 x.2.1⟩
theorem ref05_RowError_ok : OkC Try.prog tab ref05_RowError_ct := fn_ok (W := ⟨Try.prog, tab, tyOf, [ref05_KeyError_ct]⟩) ⟨tabOk, ⟨ref05_KeyError_ok, trivial⟩⟩ (by kernel_rfl) 38 Try.f40 (.n) Try.func40 Try.call40 rfl (by kernel_rfl) (by kernel_rfl) (by kernel_rfl) fun n x => by kernel_rfl

/-! bursary bursaryref05.RightList -/
def ref05_RightList_l1 (n : Nat) : Nat → (List Row) × Int × Schema × Unit → Option Bool := loopF fun r1 ⟨v1, v2, v3, _⟩ =>
    cond (decide (v2 < (v1.length : Int)))
      ((idx v1 v2).bind fun x4 =>
      (ref05_RowError n v3 x4).bind fun y5 =>
      jn (fun (b6 : Bool) =>
          cond b6
            (some false)
            (r1 (v1, (IntKind.wrap .i64 (v2 + 1)), v3, ()))) fun k7 =>
      cond (y5 != 0)
        (k7 true)
        (jn (fun (b8 : Bool) =>
            k7 b8) fun k9 =>
        cond (decide (v2 > 0))
          ((idx v1 (IntKind.wrap .i64 (v2 - 1))).bind fun x10 =>
          (idx v1 v2).bind fun x11 =>
          (ref05_Compare n x10.key x11.key).bind fun y12 =>
          k9 (decide (y12 ≥ 0)))
          (k9 false)))
      (some true)
def ref05_RightList (n : Nat) (p0 : Schema) (p1 : List Row) : Option Bool :=
  cond (decide ((p1.length : Int) > 60))
    (some false)
    (ref05_RightList_l1 n n (p1, 0, p0, ()))
@[reducible] def ref05_RightList_ct : Ct tab := ⟨16, [.st 1, .one (.d (.sl (.st 3)))], [], [.one (.d .bool)], [], Bool, fun y => (y, ()), fun y => y.1, fun _ => rfl, fun n x => ref05_RightList n x.1 x.2.1⟩
theorem ref05_RightList_ok : OkC Try.prog tab ref05_RightList_ct := fn_ok (W := ⟨Try.prog, tab, tyOf, [ref05_RowError_ct, ref05_Compare_ct]⟩) ⟨tabOk, ⟨ref05_RowError_ok, ref05_Compare_ok, trivial⟩⟩ (by kernel_rfl) 41 Try.f16 (.sq (.n) (.sq (.n) (.sq (.sq (.n) (.bk none (.lp ⟨[(1, .one (.d (.sl (.st 3)))), (2, .one (.box 0 0)), (5, .one (.d (.int .i64)))], [.bst 1], []⟩ (.n)))) (.n)))) Try.func16 Try.call16 rfl (by kernel_rfl) (by kernel_rfl) (by kernel_rfl) fun n x => by kernel_rfl

/-! bursary bursarylaw15.IdealDoes -/
def law15_IdealDoes_j2 (n : Nat) : (List Row) × Int × Int × Int × Schema × Request × (List Row) × Answer × Unit → Option Bool := fun ⟨v21, v22, v23, v24, v25, v26, v27, v28, _⟩ =>
    cond (v22 != v24)
      (some false)
      (cond (v23 != 0)
        ((ref05_Same n v27 v21).bind fun y29 =>
        jn (fun (b30 : Bool) =>
            some b30) fun k31 =>
        cond y29
          ((ref15_SameAnswer n v28 (Answer.mk v23 ([] : List Row) 0)).bind fun y32 =>
          k31 y32)
          (k31 false))
        ((ref15_Do n v25 v21 v26).bind fun y33 =>
        (ref05_Same n v27 y33.1).bind fun y34 =>
        jn (fun (b35 : Bool) =>
            some b35) fun k36 =>
        cond y34
          ((ref15_SameAnswer n v28 y33.2).bind fun y37 =>
          k36 y37)
          (k36 false)))
def law15_IdealDoes_j1 (n : Nat) : (List Row) × Int × Int × Int × Schema × Request × (List Row) × Answer × Unit → Option Bool := fun ⟨v10, v11, v12, v13, v14, v15, v16, v17, _⟩ =>
    (ref05_Right n v14).bind fun y18 =>
    jn (fun (b19 : Bool) =>
        jn (law15_IdealDoes_j2 n) fun j2 =>
        cond b19
          (j2 (v10, v11, 151, v13, v14, v15, v16, v17, ()))
          (j2 (v10, v11, v12, v13, v14, v15, v16, v17, ()))) fun k20 =>
    cond y18
      ((ref05_RightList n v14 v10).bind fun y38 =>
      k20 (!y38))
      (k20 false)
def law15_IdealDoes_j3 (n : Nat) (j1 : (List Row) × Int × Int × Int × Schema × Request × (List Row) × Answer × Unit → Option Bool) : (List Row) × Int × Int × Int × Schema × Request × (List Row) × Answer × Unit → Option Bool := fun ⟨v40, v41, v42, v43, v44, v45, v46, v47, _⟩ =>
    j1 (v40, v41, v42, v43, v44, v45, v46, v47, ())
def law15_IdealDoes_j4 (n : Nat) (j3 : (List Row) × Int × Int × Int × Schema × Request × (List Row) × Answer × Unit → Option Bool) : (List Row) × Int × Int × Int × Schema × Request × (List Row) × Answer × Unit → Option Bool := fun ⟨v48, v49, v50, v51, v52, v53, v54, v55, _⟩ =>
    j3 (v48, v49, v50, v51, v52, v53, v54, v55, ())
def law15_IdealDoes (n : Nat) (p0 : Schema) (p1 : List Row) (p2 : Request) : Option Bool :=
  (law15_wakes n).bind fun y1 =>
  cond (!y1)
    (some false)
    ((law15_over n p0 p1).bind fun y2 =>
    jn (fun (b3 : Bool) =>
        cond b3
          (some true)
          ((app 40 ([] : List Row) p1).bind fun l5 =>
          (ideal_Do n p0 l5 p2).bind fun y6 =>
          (ideal_CheckRequest n p0 p2).bind fun y7 =>
          (ref05_Same n l5 p1).bind fun y8 =>
          cond (!y8)
            (some false)
            ((ref05_Right n p0).bind fun y9 =>
            jn (law15_IdealDoes_j1 n) fun j1 =>
            cond (!y9)
              (j1 (p1, y7, 150, 150, p0, p2, y6.2, y6.1, ()))
              ((ref15_RightRequest n p0 p2).bind fun y39 =>
              jn (law15_IdealDoes_j3 n j1) fun j3 =>
              cond (!y39)
                (j3 (p1, y7, 250, 250, p0, p2, y6.2, y6.1, ()))
                (jn (law15_IdealDoes_j4 n j3) fun j4 =>
                cond (decide (p2.kind > 8))
                  (j4 (p1, y7, 250, 0, p0, p2, y6.2, y6.1, ()))
                  (j4 (p1, y7, 0, 0, p0, p2, y6.2, y6.1, ()))))))) fun k4 =>
    cond y2
      (k4 true)
      (k4 (decide ((p2.note.size : Int) > 100))))
@[reducible] def law15_IdealDoes_ct : Ct tab := ⟨3, [.st 1, .one (.d (.sl (.st 3))), .st 4], [], [.one (.d .bool)], [], Bool, fun y => (y, ()), fun y => y.1, fun _ => rfl, fun n x => law15_IdealDoes n x.1 x.2.1 x.2.2.1⟩
theorem law15_IdealDoes_ok : OkC Try.prog tab law15_IdealDoes_ct := fn_ok (W := ⟨Try.prog, tab, tyOf, [law15_wakes_ct, law15_over_ct, ideal_Do_ct, ideal_CheckRequest_ct, ref05_Same_ct, ref05_Right_ct, ref15_SameAnswer_ct, ref15_Do_ct, ref05_RightList_ct, ref15_RightRequest_ct]⟩) ⟨tabOk, ⟨law15_wakes_ok, law15_over_ok, ideal_Do_ok, ideal_CheckRequest_ok, ref05_Same_ok, ref05_Right_ok, ref15_SameAnswer_ok, ref15_Do_ok, ref05_RightList_ok, ref15_RightRequest_ok, trivial⟩⟩ (by kernel_rfl) 93 Try.f3 (.sq (.n) (.sq (.n) (.sq (.n) (.sq (.n) (.sq (.n) (.sq (.n) (.sq (.n) (.sq (.n) (.sq (.bk none (.sq (.n) (.cd (some ⟨[(1, .one (.d (.sl (.st 3)))), (3, .one (.box 0 0)), (5, .one (.box 1 0)), (8, .one (.own 2)), (9, .one (.box 3 0)), (10, .one (.d (.int .i64))), (11, .one (.d (.int .i64))), (12, .one (.d (.int .i64)))], [.bst 1, .bst 4, .row 52 (.st 3), .bst 6], []⟩) (.n) (.sq (.n) (.cd (some ⟨[(1, .one (.d (.sl (.st 3)))), (3, .one (.box 0 0)), (5, .one (.box 1 0)), (8, .one (.own 2)), (9, .one (.box 3 0)), (10, .one (.d (.int .i64))), (11, .one (.d (.int .i64))), (12, .one (.d (.int .i64)))], [.bst 1, .bst 4, .row 52 (.st 3), .bst 6], []⟩) (.n) (.sq (.n) (.cd (some ⟨[(1, .one (.d (.sl (.st 3)))), (3, .one (.box 0 0)), (5, .one (.box 1 0)), (8, .one (.own 2)), (9, .one (.box 3 0)), (10, .one (.d (.int .i64))), (11, .one (.d (.int .i64))), (12, .one (.d (.int .i64)))], [.bst 1, .bst 4, .row 52 (.st 3), .bst 6], []⟩) (.n) (.n)))))))) (.sq (.sq (.n) (.cd (some ⟨[(1, .one (.d (.sl (.st 3)))), (3, .one (.box 0 0)), (5, .one (.box 1 0)), (8, .one (.own 2)), (9, .one (.box 3 0)), (10, .one (.d (.int .i64))), (11, .one (.d (.int .i64))), (12, .one (.d (.int .i64)))], [.bst 1, .bst 4, .row 52 (.st 3), .bst 6], []⟩) (.n) (.n))) (.n))))))))))) Try.func3 Try.call3 rfl (by kernel_rfl) (by kernel_rfl) (by kernel_rfl) fun n x => by kernel_rfl

/-! bursary bursarylaw15.IdealAdds 1 -/
def law15_IdealAdds_1 (n : Nat) (p0 : Request) : Option Bool :=
  jn (fun (b1 : Bool) =>
      some b1) fun k2 =>
  cond (p0.kind == 7)
    (k2 true)
    (k2 (p0.kind == 8))
@[reducible] def law15_IdealAdds_1_ct : Ct tab := ⟨20, [.st 4], [], [.one (.d .bool)], [], Bool, fun y => (y, ()), fun y => y.1, fun _ => rfl, fun n x => law15_IdealAdds_1 n x.1⟩
theorem law15_IdealAdds_1_ok : OkC Try.prog tab law15_IdealAdds_1_ct := fn_ok (W := ⟨Try.prog, tab, tyOf, []⟩) ⟨tabOk, trivial⟩ (by kernel_rfl) 11 Try.f20 (.n) Try.func20 Try.call20 rfl (by kernel_rfl) (by kernel_rfl) (by kernel_rfl) fun n x => by kernel_rfl

/-! slices.Equal   bursary api.Row bursary api.Row  -/
def slices_Equal_Row_l1 (n : Nat) : Nat → (List Row) × (List Row) × Int × Int × Unit → Option Bool := loopF fun r1 ⟨v1, v2, v3, v4, _⟩ =>
    cond (decide (v4 < v3))
      ((idx v1 v4).bind fun x5 =>
      (idx v2 v4).bind fun x6 =>
      cond (!(Row.eqb x5 x6))
        (some false)
        (r1 (v1, v2, v3, (IntKind.wrap .i64 (v4 + 1)), ())))
      (some true)
def slices_Equal_Row (n : Nat) (p0 : List Row) (p1 : List Row) : Option Bool :=
  cond ((p0.length : Int) != (p1.length : Int))
    (some false)
    (slices_Equal_Row_l1 n n (p0, p1, (p0.length : Int), 0, ()))
@[reducible] def slices_Equal_Row_ct : Ct tab := ⟨53, [.one (.d (.sl (.st 3))), .one (.d (.sl (.st 3)))], [], [.one (.d .bool)], [], Bool, fun y => (y, ()), fun y => y.1, fun _ => rfl, fun n x => slices_Equal_Row n x.1 x.2.1⟩
theorem slices_Equal_Row_ok : OkC Try.prog tab slices_Equal_Row_ct := fn_ok (W := ⟨Try.prog, tab, tyOf, []⟩) ⟨tabOk, trivial⟩ (by kernel_rfl) 26 Try.f53 (.sq (.n) (.sq (.n) (.sq (.sq (.n) (.bk none (.lp ⟨[(0, .one (.d (.sl (.st 3)))), (1, .one (.d (.sl (.st 3)))), (12, .one (.d (.int .i64))), (13, .one (.d (.int .i64)))], [], []⟩ (.n)))) (.n)))) Try.func53 Try.call53 rfl (by kernel_rfl) (by kernel_rfl) (by kernel_rfl) fun n x => by kernel_rfl

/-! bursary row.Same -/
def row_Same (n : Nat) (p0 : List Row) (p1 : List Row) : Option Bool :=
  (slices_Equal_Row n p0 p1).bind fun y1 =>
  some y1
@[reducible] def row_Same_ct : Ct tab := ⟨23, [.one (.d (.sl (.st 3))), .one (.d (.sl (.st 3)))], [], [.one (.d .bool)], [], Bool, fun y => (y, ()), fun y => y.1, fun _ => rfl, fun n x => row_Same n x.1 x.2.1⟩
theorem row_Same_ok : OkC Try.prog tab row_Same_ct := fn_ok (W := ⟨Try.prog, tab, tyOf, [slices_Equal_Row_ct]⟩) ⟨tabOk, ⟨slices_Equal_Row_ok, trivial⟩⟩ (by kernel_rfl) 8 Try.f23 (.n) Try.func23 Try.call23 rfl (by kernel_rfl) (by kernel_rfl) (by kernel_rfl) fun n x => by kernel_rfl

/-! bursary bursarylaw15.IdealAdds -/
def law15_IdealAdds_j1 (n : Nat) : (List Row) × Schema × Arr2_Request × (List Row) × Answer × Unit → Option Bool := fun ⟨v15, v16, v17, v18, v19, _⟩ =>
    (ideal_Do n v16 v18 v17.a1).bind fun y20 =>
    (ideal_Do n v16 v15 v17.a1).bind fun y21 =>
    (ideal_Do n v16 y21.2 v17.a0).bind fun y22 =>
    jn (fun (b23 : Bool) =>
        jn (fun (b25 : Bool) =>
            jn (fun (b27 : Bool) =>
                cond b27
                  (some true)
                  ((row_Same n y20.2 y22.2).bind fun y29 =>
                  some y29)) fun k28 =>
            cond b25
              (k28 true)
              (k28 (y22.1.err != 0))) fun k26 =>
        cond b23
          (k26 true)
          (k26 (y21.1.err != 0))) fun k24 =>
    cond (v19.err != 0)
      (k24 true)
      (k24 (y20.1.err != 0))
def law15_IdealAdds (n : Nat) (p0 : Schema) (p1 : List Row) (p2 : Arr2_Request) : Option Bool :=
  (law15_wakes n).bind fun y1 =>
  cond (!y1)
    (some false)
    ((law15_over n p0 p1).bind fun y2 =>
    jn (fun (b3 : Bool) =>
        jn (fun (b5 : Bool) =>
            jn (fun (b7 : Bool) =>
                cond b7
                  (some true)
                  ((law15_IdealAdds_1 n p2.a0).bind fun y9 =>
                  jn (fun (b10 : Bool) =>
                      cond b10
                        (some true)
                        ((ideal_Do n p0 p1 p2.a0).bind fun y12 =>
                        jn (fun (b13 : Bool) =>
                            jn (law15_IdealAdds_j1 n) fun j1 =>
                            cond b13
                              ((row_Find n p1 p2.a0.key).bind fun y30 =>
                              (row_Find n p1 p2.a0.to).bind fun y31 =>
                              (idx p1 y30.1).bind fun x32 =>
                              (idx p1 y31.1).bind fun x33 =>
                              (row_Plus n x32.val x33.val).bind fun y34 =>
                              (idx y12.2 y30.1).bind fun x35 =>
                              (idx y12.2 y30.1).bind fun x36 =>
                              (idx y12.2 y31.1).bind fun x37 =>
                              (idx y12.2 y31.1).bind fun x38 =>
                              (row_Plus n x36.val x38.val).bind fun y39 =>
                              jn (fun (b40 : Bool) =>
                                  cond b40
                                    (some false)
                                    (j1 (p1, p0, p2, y12.2, y12.1, ()))) fun k41 =>
                              cond (!(y34.2 == y39.2))
                                (k41 true)
                                (k41 (y34.1 != y39.1)))
                              (j1 (p1, p0, p2, y12.2, y12.1, ()))) fun k14 =>
                        cond (y12.1.err == 0)
                          (k14 (p2.a0.kind == 8))
                          (k14 false))) fun k11 =>
                  cond (!y9)
                    (k11 true)
                    ((law15_IdealAdds_1 n p2.a1).bind fun y42 =>
                    k11 (!y42)))) fun k8 =>
            cond b5
              (k8 true)
              ((row_CheckList n p0 p1).bind fun y43 =>
              k8 (y43 != 0))) fun k6 =>
        cond b3
          (k6 true)
          (k6 (decide ((p2.a1.note.size : Int) > 100)))) fun k4 =>
    cond y2
      (k4 true)
      (k4 (decide ((p2.a0.note.size : Int) > 100))))
@[reducible] def law15_IdealAdds_ct : Ct tab := ⟨4, [.st 1, .one (.d (.sl (.st 3))), .st 8], [], [.one (.d .bool)], [], Bool, fun y => (y, ()), fun y => y.1, fun _ => rfl, fun n x => law15_IdealAdds n x.1 x.2.1 x.2.2.1⟩
theorem law15_IdealAdds_ok : OkC Try.prog tab law15_IdealAdds_ct := fn_ok (W := ⟨Try.prog, tab, tyOf, [law15_wakes_ct, law15_over_ct, law15_IdealAdds_1_ct, ideal_Do_ct, row_Same_ct, row_Find_ct, row_Plus_ct, row_CheckList_ct]⟩) ⟨tabOk, ⟨law15_wakes_ok, law15_over_ok, law15_IdealAdds_1_ok, ideal_Do_ok, row_Same_ok, row_Find_ok, row_Plus_ok, row_CheckList_ok, trivial⟩⟩ (by kernel_rfl) 173 Try.f4 (.sq (.n) (.sq (.n) (.sq (.n) (.sq (.n) (.sq (.n) (.sq (.n) (.sq (.sq (.n) (.sq (.n) (.cd (some ⟨[(1, .one (.d (.sl (.st 3)))), (3, .one (.box 0 0)), (5, .one (.box 1 0)), (8, .one (.own 2)), (9, .one (.box 3 0))], [.bst 1, .bst 8, .row 52 (.st 3), .bst 6], []⟩) (.n) (.n)))) (.n)))))))) Try.func4 Try.call4 rfl (by kernel_rfl) (by kernel_rfl) (by kernel_rfl) fun n x => by kernel_rfl

/-! bursary bursarylaw15.overSerial -/
def law15_overSerial_l1 (n : Nat) : Nat → (List (List Row)) × Int × Int × Serial × Unit → Option Bool := loopF fun r1 ⟨v6, v7, v8, v9, _⟩ =>
    cond (decide (v8 < v7))
      ((idx v6 v8).bind fun x10 =>
      (law15_over n v9.schema x10).bind fun y11 =>
      cond y11
        (some true)
        (r1 (v6, v7, (IntKind.wrap .i64 (v8 + 1)), v9, ())))
      (some false)
def law15_overSerial (n : Nat) (p0 : Serial) : Option Bool :=
  (law15_over n p0.schema p0.rows).bind fun y1 =>
  jn (fun (b2 : Bool) =>
      jn (fun (b4 : Bool) =>
          cond b4
            (some true)
            (law15_overSerial_l1 n n (p0.marks, (p0.marks.length : Int), 0, p0, ()))) fun k5 =>
      cond b2
        (k5 true)
        (k5 (decide ((p0.marks.length : Int) > 20)))) fun k3 =>
  cond y1
    (k3 true)
    ((law15_over n p0.schema p0.begun).bind fun y12 =>
    k3 y12)
@[reducible] def law15_overSerial_ct : Ct tab := ⟨24, [.st 9], [], [.one (.d .bool)], [], Bool, fun y => (y, ()), fun y => y.1, fun _ => rfl, fun n x => law15_overSerial n x.1⟩
theorem law15_overSerial_ok : OkC Try.prog tab law15_overSerial_ct := fn_ok (W := ⟨Try.prog, tab, tyOf, [law15_over_ct]⟩) ⟨tabOk, ⟨law15_over_ok, trivial⟩⟩ (by kernel_rfl) 35 Try.f24 (.sq (.n) (.sq (.n) (.sq (.sq (.n) (.bk none (.lp ⟨[(1, .one (.box 0 0)), (24, .one (.d (.sl (.sl (.st 3))))), (25, .one (.d (.int .i64))), (26, .one (.d (.int .i64)))], [.bst 9], []⟩ (.n)))) (.n)))) Try.func24 Try.call24 rfl (by kernel_rfl) (by kernel_rfl) (by kernel_rfl) fun n x => by kernel_rfl

/-! slices.Equal   bursary api.Bounds bursary api.Bounds  -/
def slices_Equal_Bounds_l1 (n : Nat) : Nat → (List Bounds) × (List Bounds) × Int × Int × Unit → Option Bool := loopF fun r1 ⟨v1, v2, v3, v4, _⟩ =>
    cond (decide (v4 < v3))
      ((idx v1 v4).bind fun x5 =>
      (idx v2 v4).bind fun x6 =>
      cond (!(Bounds.eqb x5 x6))
        (some false)
        (r1 (v1, v2, v3, (IntKind.wrap .i64 (v4 + 1)), ())))
      (some true)
def slices_Equal_Bounds (n : Nat) (p0 : List Bounds) (p1 : List Bounds) : Option Bool :=
  cond ((p0.length : Int) != (p1.length : Int))
    (some false)
    (slices_Equal_Bounds_l1 n n (p0, p1, (p0.length : Int), 0, ()))
@[reducible] def slices_Equal_Bounds_ct : Ct tab := ⟨54, [.one (.d (.sl (.st 0))), .one (.d (.sl (.st 0)))], [], [.one (.d .bool)], [], Bool, fun y => (y, ()), fun y => y.1, fun _ => rfl, fun n x => slices_Equal_Bounds n x.1 x.2.1⟩
theorem slices_Equal_Bounds_ok : OkC Try.prog tab slices_Equal_Bounds_ct := fn_ok (W := ⟨Try.prog, tab, tyOf, []⟩) ⟨tabOk, trivial⟩ (by kernel_rfl) 26 Try.f54 (.sq (.n) (.sq (.n) (.sq (.sq (.n) (.bk none (.lp ⟨[(0, .one (.d (.sl (.st 0)))), (1, .one (.d (.sl (.st 0)))), (12, .one (.d (.int .i64))), (13, .one (.d (.int .i64)))], [], []⟩ (.n)))) (.n)))) Try.func54 Try.call54 rfl (by kernel_rfl) (by kernel_rfl) (by kernel_rfl) fun n x => by kernel_rfl

/-! slices.EqualFunc     bursary api.Row     bursary api.Row   bursary api.Row   bursary api.Row  -/
def slices_EqualFunc_Row_f23_l1 (n : Nat) : Nat → (List (List Row)) × (List (List Row)) × Int × Int × Unit → Option Bool := loopF fun r1 ⟨v1, v2, v3, v4, _⟩ =>
    cond (decide (v4 < v3))
      ((idx v2 v4).bind fun x5 =>
      (idx v1 v4).bind fun x6 =>
      (row_Same n x5 x6).bind fun y7 =>
      cond (!y7)
        (some false)
        (r1 (v1, v2, v3, (IntKind.wrap .i64 (v4 + 1)), ())))
      (some true)
def slices_EqualFunc_Row_f23 (n : Nat) (p0 : List (List Row)) (p1 : List (List Row)) : Option Bool :=
  cond ((p0.length : Int) != (p1.length : Int))
    (some false)
    (slices_EqualFunc_Row_f23_l1 n n (p1, p0, (p0.length : Int), 0, ()))
@[reducible] def slices_EqualFunc_Row_f23_ct : Ct tab := ⟨55, [.one (.d (.sl (.sl (.st 3)))), .one (.d (.sl (.sl (.st 3)))), .one (.fn 23 [])], [], [.one (.d .bool)], [], Bool, fun y => (y, ()), fun y => y.1, fun _ => rfl, fun n x => slices_EqualFunc_Row_f23 n x.1 x.2.1⟩
theorem slices_EqualFunc_Row_f23_ok : OkC Try.prog tab slices_EqualFunc_Row_f23_ct := fn_ok (W := ⟨Try.prog, tab, tyOf, [row_Same_ct]⟩) ⟨tabOk, ⟨row_Same_ok, trivial⟩⟩ (by kernel_rfl) 32 Try.f55 (.sq (.n) (.sq (.n) (.sq (.sq (.n) (.bk none (.lp ⟨[(1, .one (.d (.sl (.sl (.st 3))))), (2, .one (.fn 23 [])), (15, .one (.d (.sl (.sl (.st 3))))), (16, .one (.d (.int .i64))), (17, .one (.d (.int .i64)))], [], []⟩ (.n)))) (.n)))) Try.func55 Try.call55 rfl (by kernel_rfl) (by kernel_rfl) (by kernel_rfl) fun n x => by kernel_rfl

/-! bursary ideal.Same -/
def ideal_Same (n : Nat) (p0 : Serial) (p1 : Serial) : Option Bool :=
  (slices_Equal_Bounds n p0.schema.tables p1.schema.tables).bind fun y1 =>
  jn (fun (b2 : Bool) =>
      jn (fun (b4 : Bool) =>
          jn (fun (b6 : Bool) =>
              jn (fun (b8 : Bool) =>
                  some b8) fun k9 =>
              cond b6
                (k9 (p0.over == p1.over))
                (k9 false)) fun k7 =>
          cond b4
            ((slices_EqualFunc_Row_f23 n p0.marks p1.marks).bind fun y10 =>
            k7 y10)
            (k7 false)) fun k5 =>
      cond b2
        ((row_Same n p0.begun p1.begun).bind fun y11 =>
        k5 y11)
        (k5 false)) fun k3 =>
  cond y1
    ((row_Same n p0.rows p1.rows).bind fun y12 =>
    k3 y12)
    (k3 false)
@[reducible] def ideal_Same_ct : Ct tab := ⟨25, [.st 9, .st 9], [], [.one (.d .bool)], [], Bool, fun y => (y, ()), fun y => y.1, fun _ => rfl, fun n x => ideal_Same n x.1 x.2.1⟩
theorem ideal_Same_ok : OkC Try.prog tab ideal_Same_ct := fn_ok (W := ⟨Try.prog, tab, tyOf, [slices_Equal_Bounds_ct, slices_EqualFunc_Row_f23_ct, row_Same_ct]⟩) ⟨tabOk, ⟨slices_Equal_Bounds_ok, slices_EqualFunc_Row_f23_ok, row_Same_ok, trivial⟩⟩ (by kernel_rfl) 40 Try.f25 (.n) Try.func25 Try.call25 rfl (by kernel_rfl) (by kernel_rfl) (by kernel_rfl) fun n x => by kernel_rfl

/-! bursary bursaryref15.Same -/
def ref15_Same_l2 (n : Nat) : Nat → Int × Serial × Serial × Unit → Option Bool := loopF fun r2 ⟨v10, v11, v12, _⟩ =>
    cond (decide (v10 < (v11.marks.length : Int)))
      ((idx v11.marks v10).bind fun x13 =>
      (idx v12.marks v10).bind fun x14 =>
      (ref05_Same n x13 x14).bind fun y15 =>
      cond (!y15)
        (some false)
        (r2 ((IntKind.wrap .i64 (v10 + 1)), v11, v12, ())))
      ((ref05_Same n v11.rows v12.rows).bind fun y16 =>
      jn (fun (b17 : Bool) =>
          some b17) fun k18 =>
      cond y16
        ((ref05_Same n v11.begun v12.begun).bind fun y19 =>
        k18 y19)
        (k18 false))
def ref15_Same_l1 (n : Nat) : Nat → Int × Serial × Serial × Unit → Option Bool := loopF fun r1 ⟨v5, v6, v7, _⟩ =>
    cond (decide (v5 < (v6.schema.tables.length : Int)))
      ((idx v6.schema.tables v5).bind fun x8 =>
      (idx v7.schema.tables v5).bind fun x9 =>
      cond (!(Bounds.eqb x8 x9))
        (some false)
        (r1 ((IntKind.wrap .i64 (v5 + 1)), v6, v7, ())))
      (ref15_Same_l2 n n (0, v6, v7, ()))
def ref15_Same (n : Nat) (p0 : Serial) (p1 : Serial) : Option Bool :=
  jn (fun (b1 : Bool) =>
      jn (fun (b3 : Bool) =>
          cond b3
            (some false)
            (ref15_Same_l1 n n (0, p0, p1, ()))) fun k4 =>
      cond b1
        (k4 true)
        (k4 (!(p0.over == p1.over)))) fun k2 =>
  cond ((p0.schema.tables.length : Int) != (p1.schema.tables.length : Int))
    (k2 true)
    (k2 ((p0.marks.length : Int) != (p1.marks.length : Int)))
@[reducible] def ref15_Same_ct : Ct tab := ⟨26, [.st 9, .st 9], [], [.one (.d .bool)], [], Bool, fun y => (y, ()), fun y => y.1, fun _ => rfl, fun n x => ref15_Same n x.1 x.2.1⟩
theorem ref15_Same_ok : OkC Try.prog tab ref15_Same_ct := fn_ok (W := ⟨Try.prog, tab, tyOf, [ref05_Same_ct]⟩) ⟨tabOk, ⟨ref05_Same_ok, trivial⟩⟩ (by kernel_rfl) 84 Try.f26 (.sq (.n) (.sq (.n) (.sq (.sq (.n) (.bk none (.lp ⟨[(2, .one (.box 0 0)), (3, .one (.box 1 0)), (5, .one (.d (.int .i64)))], [.bst 9, .bst 9], []⟩ (.n)))) (.sq (.sq (.n) (.bk none (.lp ⟨[(2, .one (.box 0 0)), (3, .one (.box 1 0)), (6, .one (.d (.int .i64)))], [.bst 9, .bst 9], []⟩ (.n)))) (.n))))) Try.func26 Try.call26 rfl (by kernel_rfl) (by kernel_rfl) (by kernel_rfl) fun n x => by kernel_rfl

/-! bursary ideal.SameAnswer -/
def ideal_SameAnswer (n : Nat) (p0 : Answer) (p1 : Answer) : Option Bool :=
  jn (fun (b1 : Bool) =>
      jn (fun (b3 : Bool) =>
          some b3) fun k4 =>
      cond b1
        ((row_Same n p0.rows p1.rows).bind fun y5 =>
        k4 y5)
        (k4 false)) fun k2 =>
  cond (p0.err == p1.err)
    (k2 (p0.n == p1.n))
    (k2 false)
@[reducible] def ideal_SameAnswer_ct : Ct tab := ⟨27, [.st 6, .st 6], [], [.one (.d .bool)], [], Bool, fun y => (y, ()), fun y => y.1, fun _ => rfl, fun n x => ideal_SameAnswer n x.1 x.2.1⟩
theorem ideal_SameAnswer_ok : OkC Try.prog tab ideal_SameAnswer_ct := fn_ok (W := ⟨Try.prog, tab, tyOf, [row_Same_ct]⟩) ⟨tabOk, ⟨row_Same_ok, trivial⟩⟩ (by kernel_rfl) 24 Try.f27 (.n) Try.func27 Try.call27 rfl (by kernel_rfl) (by kernel_rfl) (by kernel_rfl) fun n x => by kernel_rfl

/-! bursary bursarylaw15.IdealSame -/
def law15_IdealSame (n : Nat) (p0 : Serial) (p1 : Serial) (p2 : Arr2_Answer) : Option Bool :=
  (law15_wakes n).bind fun y1 =>
  cond (!y1)
    (some false)
    ((law15_overSerial n p0).bind fun y2 =>
    jn (fun (b3 : Bool) =>
        jn (fun (b5 : Bool) =>
            jn (fun (b7 : Bool) =>
                cond b7
                  (some true)
                  ((ideal_Same n p0 p1).bind fun y9 =>
                  (ref15_Same n p0 p1).bind fun y10 =>
                  jn (fun (b11 : Bool) =>
                      jn (fun (b13 : Bool) =>
                          jn (fun (b15 : Bool) =>
                              some b15) fun k16 =>
                          cond b13
                            ((ideal_SameAnswer n p2.a0 p2.a0).bind fun y17 =>
                            k16 y17)
                            (k16 false)) fun k14 =>
                      cond b11
                        ((ideal_SameAnswer n p2.a0 p2.a1).bind fun y18 =>
                        (ref15_SameAnswer n p2.a0 p2.a1).bind fun y19 =>
                        k14 (y18 == y19))
                        (k14 false)) fun k12 =>
                  cond (y9 == y10)
                    ((ideal_Same n p0 p0).bind fun y20 =>
                    k12 y20)
                    (k12 false))) fun k8 =>
            cond b5
              (k8 true)
              ((law15_over n (Schema.mk ([] : List Bounds)) p2.a1.rows).bind fun y21 =>
              k8 y21)) fun k6 =>
        cond b3
          (k6 true)
          ((law15_over n (Schema.mk ([] : List Bounds)) p2.a0.rows).bind fun y22 =>
          k6 y22)) fun k4 =>
    cond y2
      (k4 true)
      ((law15_overSerial n p1).bind fun y23 =>
      k4 y23))
@[reducible] def law15_IdealSame_ct : Ct tab := ⟨5, [.st 9, .st 9, .st 10], [], [.one (.d .bool)], [], Bool, fun y => (y, ()), fun y => y.1, fun _ => rfl, fun n x => law15_IdealSame n x.1 x.2.1 x.2.2.1⟩
theorem law15_IdealSame_ok : OkC Try.prog tab law15_IdealSame_ct := fn_ok (W := ⟨Try.prog, tab, tyOf, [law15_wakes_ct, law15_overSerial_ct, ideal_Same_ct, ref15_Same_ct, ideal_SameAnswer_ct, ref15_SameAnswer_ct, law15_over_ct]⟩) ⟨tabOk, ⟨law15_wakes_ok, law15_overSerial_ok, ideal_Same_ok, ref15_Same_ok, ideal_SameAnswer_ok, ref15_SameAnswer_ok, law15_over_ok, trivial⟩⟩ (by kernel_rfl) 61 Try.f5 (.n) Try.func5 Try.call5 rfl (by kernel_rfl) (by kernel_rfl) (by kernel_rfl) fun n x => by kernel_rfl

/-! bursary ideal.Check 1 -/
def ideal_Check_1 (n : Nat) (p0 : List Row) (p1 : Serial) : Option Bool :=
  (row_CheckList n p1.schema p0).bind fun y1 =>
  some (y1 != 0)
@[reducible] def ideal_Check_1_ct : Ct tab := ⟨57, [.one (.d (.sl (.st 3))), .one (.ro (.st 9))], [], [.one (.d .bool)], [], Bool, fun y => (y, ()), fun y => y.1, fun _ => rfl, fun n x => ideal_Check_1 n x.1 x.2.1⟩
theorem ideal_Check_1_ok : OkC Try.prog tab ideal_Check_1_ct := fn_ok (W := ⟨Try.prog, tab, tyOf, [row_CheckList_ct]⟩) ⟨tabOk, ⟨row_CheckList_ok, trivial⟩⟩ (by kernel_rfl) 9 Try.f57 (.n) Try.func57 Try.call57 rfl (by kernel_rfl) (by kernel_rfl) (by kernel_rfl) fun n x => by kernel_rfl

/-! slices.IndexFunc     bursary api.Row   bursary api.Row  -/
def slices_IndexFunc_Row_1_f57_l1 (n : Nat) : Nat → (List (List Row)) × Serial × Int × Int × Unit → Option Int := loopF fun r1 ⟨v1, v2, v3, v4, _⟩ =>
    cond (decide (v4 < v3))
      ((idx v1 v4).bind fun x5 =>
      (ideal_Check_1 n x5 v2).bind fun y6 =>
      cond y6
        (some v4)
        (r1 (v1, v2, v3, (IntKind.wrap .i64 (v4 + 1)), ())))
      (some (-1))
def slices_IndexFunc_Row_1_f57 (n : Nat) (p0 : List (List Row)) (p1 : Serial) : Option Int :=
  slices_IndexFunc_Row_1_f57_l1 n n (p0, p1, (p0.length : Int), 0, ())
@[reducible] def slices_IndexFunc_Row_1_f57_ct : Ct tab := ⟨75, [.one (.d (.sl (.sl (.st 3)))), .one (.fn 57 [.ro (.st 9)])], [], [.one (.d (.int .i64))], [], Int, fun y => (y, ()), fun y => y.1, fun _ => rfl, fun n x => slices_IndexFunc_Row_1_f57 n x.1 x.2.1⟩
theorem slices_IndexFunc_Row_1_f57_ok : OkC Try.prog tab slices_IndexFunc_Row_1_f57_ct := fn_ok (W := ⟨Try.prog, tab, tyOf, [ideal_Check_1_ct]⟩) ⟨tabOk, ⟨ideal_Check_1_ok, trivial⟩⟩ (by kernel_rfl) 19 Try.f75 (.sq (.n) (.sq (.sq (.n) (.bk none (.lp ⟨[(0, .one (.d (.sl (.sl (.st 3))))), (1, .one (.fn 57 [.ro (.st 9)])), (7, .one (.d (.int .i64))), (8, .one (.d (.int .i64)))], [], []⟩ (.n)))) (.n))) Try.func75 Try.call75 rfl (by kernel_rfl) (by kernel_rfl) (by kernel_rfl) fun n x => by kernel_rfl

/-! slices.ContainsFunc     bursary api.Row   bursary api.Row  -/
def slices_ContainsFunc_Row_f57 (n : Nat) (p0 : List (List Row)) (p1 : Serial) : Option Bool :=
  (slices_IndexFunc_Row_1_f57 n p0 p1).bind fun y1 =>
  some (decide (y1 ≥ 0))
@[reducible] def slices_ContainsFunc_Row_f57_ct : Ct tab := ⟨58, [.one (.d (.sl (.sl (.st 3)))), .one (.fn 57 [.ro (.st 9)])], [], [.one (.d .bool)], [], Bool, fun y => (y, ()), fun y => y.1, fun _ => rfl, fun n x => slices_ContainsFunc_Row_f57 n x.1 x.2.1⟩
theorem slices_ContainsFunc_Row_f57_ok : OkC Try.prog tab slices_ContainsFunc_Row_f57_ct := fn_ok (W := ⟨Try.prog, tab, tyOf, [slices_IndexFunc_Row_1_f57_ct]⟩) ⟨tabOk, ⟨slices_IndexFunc_Row_1_f57_ok, trivial⟩⟩ (by kernel_rfl) 9 Try.f58 (.n) Try.func58 Try.call58 rfl (by kernel_rfl) (by kernel_rfl) (by kernel_rfl) fun n x => by kernel_rfl

/-! bursary ideal.Check -/
def ideal_Check (n : Nat) (p0 : Serial) : Option Int :=
  (ideal_Check_1 n p0.rows p0).bind fun y1 =>
  jn (fun (b2 : Bool) =>
      jn (fun (b4 : Bool) =>
          jn (fun (b6 : Bool) =>
              jn (fun (b8 : Bool) =>
                  cond b8
                    (some 251)
                    (some 0)) fun k9 =>
              cond b6
                (k9 true)
                (jn (fun (b10 : Bool) =>
                    k9 b10) fun k11 =>
                cond p0.over
                  (k11 (decide ((p0.marks.length : Int) > 0)))
                  (k11 false))) fun k7 =>
          cond b4
            (k7 true)
            (k7 (decide ((p0.marks.length : Int) > 8)))) fun k5 =>
      cond b2
        (k5 true)
        ((slices_ContainsFunc_Row_f57 n p0.marks p0).bind fun y12 =>
        k5 y12)) fun k3 =>
  cond y1
    (k3 true)
    ((ideal_Check_1 n p0.begun p0).bind fun y13 =>
    k3 y13)
@[reducible] def ideal_Check_ct : Ct tab := ⟨29, [.st 9], [], [.one (.d (.int .i64))], [], Int, fun y => (y, ()), fun y => y.1, fun _ => rfl, fun n x => ideal_Check n x.1⟩
theorem ideal_Check_ok : OkC Try.prog tab ideal_Check_ct := fn_ok (W := ⟨Try.prog, tab, tyOf, [ideal_Check_1_ct, slices_ContainsFunc_Row_f57_ct]⟩) ⟨tabOk, ⟨ideal_Check_1_ok, slices_ContainsFunc_Row_f57_ok, trivial⟩⟩ (by kernel_rfl) 37 Try.f29 (.n) Try.func29 Try.call29 rfl (by kernel_rfl) (by kernel_rfl) (by kernel_rfl) fun n x => by kernel_rfl

end
end Go.Proofs.Ytdjageadgkillaa
