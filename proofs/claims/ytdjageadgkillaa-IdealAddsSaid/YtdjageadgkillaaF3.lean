/- Functions of the program: plain twins and their contracts, printed by program. -/
import Derived.Test.YtdjageadgkillaaTypes
import Derived.Test.YtdjageadgkillaaF2
namespace Go.Proofs.Ytdjageadgkillaa
open Go Go.Bur Go.RowKit
set_option linter.unusedVariables false
set_option linter.unusedSimpArgs false
set_option maxRecDepth 100000
noncomputable section
/-! bursary ideal.step -/
def ideal_step_j1 (n : Nat) : Serial × Serial × Answer × Unit → Option (Serial × Answer) := fun ⟨v4, v5, v6, _⟩ =>
    some (v4, (Answer.mk 0 ([] : List Row) 0))
def ideal_step_j2 (n : Nat) (j1 : Serial × Serial × Answer × Unit → Option (Serial × Answer)) : Serial × Serial × Answer × Unit → Option (Serial × Answer) := fun ⟨v10, v11, v12, _⟩ =>
    j1 (v10, v11, v12, ())
def ideal_step_j3 (n : Nat) (j2 : Serial × Serial × Answer × Unit → Option (Serial × Answer)) : Serial × Serial × Answer × Unit → Option (Serial × Answer) := fun ⟨v13, v14, v15, _⟩ =>
    j2 (v13, v14, v15, ())
def ideal_step (n : Nat) (p0 : Serial) (p1 : Request) : Option (Serial × Answer) :=
  cond (p1.kind == 9)
    (cond ((p0.marks.length : Int) == 8)
      (some (p0, (Answer.mk 6 ([] : List Row) 0)))
      ((sub3 p0.marks (p0.marks.length : Int) (p0.marks.length : Int)).bind fun l1 =>
      (slices_Clone_Row n p0.rows).bind fun y2 =>
      (app 24 l1 ([y2] : List (List Row))).bind fun l3 =>
      some ((Serial.mk p0.schema p0.rows p0.begun l3 p0.over), (Answer.mk 0 ([] : List Row) (IntKind.wrap .i64 ((p0.marks.length : Int) + 1))))))
    (jn (ideal_step_j1 n) fun j1 =>
    cond (p1.kind == 10)
      (cond (decide (p1.n > (p0.marks.length : Int)))
        (some (p0, (Answer.mk 4 ([] : List Row) 0)))
        ((idx p0.marks (IntKind.wrap .i64 (p1.n - 1))).bind fun x7 =>
        (slices_Clone_Row n x7).bind fun y8 =>
        (sub3 p0.marks p1.n p1.n).bind fun l9 =>
        j1 ((Serial.mk p0.schema y8 p0.begun l9 p0.over), (Serial.mk (Schema.mk ([] : List Bounds)) ([] : List Row) ([] : List Row) ([] : List (List Row)) false), (Answer.mk 0 ([] : List Row) 0), ())))
      (jn (ideal_step_j2 n j1) fun j2 =>
      cond (p1.kind == 11)
        (j2 ((Serial.mk p0.schema p0.rows p0.begun ([] : List (List Row)) true), (Serial.mk (Schema.mk ([] : List Bounds)) ([] : List Row) ([] : List Row) ([] : List (List Row)) false), (Answer.mk 0 ([] : List Row) 0), ()))
        (jn (ideal_step_j3 n j2) fun j3 =>
        cond (p1.kind == 12)
          ((slices_Clone_Row n p0.begun).bind fun y16 =>
          j3 ((Serial.mk p0.schema y16 p0.begun ([] : List (List Row)) true), (Serial.mk (Schema.mk ([] : List Bounds)) ([] : List Row) ([] : List Row) ([] : List (List Row)) false), (Answer.mk 0 ([] : List Row) 0), ()))
          (j3 (p0, (Serial.mk (Schema.mk ([] : List Bounds)) ([] : List Row) ([] : List Row) ([] : List (List Row)) false), (Answer.mk 0 ([] : List Row) 0), ())))))
@[reducible] def ideal_step_ct : Ct tab := ⟨56, [.st 9, .st 4], [], [.st 9, .st 6], [], (Serial × Answer), fun y => (y.1, y.2, ()), fun y => (y.1, y.2.1), fun _ => rfl, fun n x => ideal_step n x.1 x.2.1⟩
theorem ideal_step_ok : OkC Try.prog tab ideal_step_ct := fn_ok (W := ⟨Try.prog, tab, tyOf, [slices_Clone_Row_ct]⟩) ⟨tabOk, ⟨slices_Clone_Row_ok, trivial⟩⟩ (by kernel_rfl) 72 Try.f56 (.sq (.n) (.sq (.n) (.sq (.sq (.n) (.bk none (.sq (.n) (.cd none (.n) (.sq (.n) (.cd (some ⟨[(2, .one (.box 0 0)), (4, .one (.box 1 0)), (5, .one (.box 2 0))], [.bst 9, .bst 9, .bst 6], []⟩) (.n) (.sq (.n) (.cd (some ⟨[(2, .one (.box 0 0)), (4, .one (.box 1 0)), (5, .one (.box 2 0))], [.bst 9, .bst 9, .bst 6], []⟩) (.n) (.sq (.n) (.cd (some ⟨[(2, .one (.box 0 0)), (4, .one (.box 1 0)), (5, .one (.box 2 0))], [.bst 9, .bst 9, .bst 6], []⟩) (.n) (.n))))))))))) (.n)))) Try.func56 Try.call56 rfl (by kernel_rfl) (by kernel_rfl) (by kernel_rfl) fun n x => by kernel_rfl

/-! bursary ideal.Step -/
def ideal_Step (n : Nat) (p0 : Serial) (p1 : Request) : Option (Serial × Answer) :=
  (ideal_Check n p0).bind fun y1 =>
  cond (y1 != 0)
    (some (p0, (Answer.mk 251 ([] : List Row) 0)))
    (cond p0.over
      (some (p0, (Answer.mk 252 ([] : List Row) 0)))
      ((ideal_CheckRequest n p0.schema p1).bind fun y2 =>
      cond (y2 != 0)
        (some (p0, (Answer.mk 250 ([] : List Row) 0)))
        (cond (decide (p1.kind > 8))
          ((ideal_step n p0 p1).bind fun y3 =>
          some (y3.1, y3.2))
          ((ideal_does n p0.schema p0.rows p1).bind fun y4 =>
          some ((Serial.mk p0.schema y4.2 p0.begun p0.marks p0.over), y4.1)))))
@[reducible] def ideal_Step_ct : Ct tab := ⟨28, [.st 9, .st 4], [], [.st 9, .st 6], [], (Serial × Answer), fun y => (y.1, y.2, ()), fun y => (y.1, y.2.1), fun _ => rfl, fun n x => ideal_Step n x.1 x.2.1⟩
theorem ideal_Step_ok : OkC Try.prog tab ideal_Step_ct := fn_ok (W := ⟨Try.prog, tab, tyOf, [ideal_Check_ct, ideal_CheckRequest_ct, ideal_step_ct, ideal_does_ct]⟩) ⟨tabOk, ⟨ideal_Check_ok, ideal_CheckRequest_ok, ideal_step_ok, ideal_does_ok, trivial⟩⟩ (by kernel_rfl) 49 Try.f28 (.n) Try.func28 Try.call28 rfl (by kernel_rfl) (by kernel_rfl) (by kernel_rfl) fun n x => by kernel_rfl

/-! bursary ideal.Begin -/
def ideal_Begin (n : Nat) (p0 : Schema) (p1 : List Row) : Option (Serial × Int) :=
  (row_CheckList n p0 p1).bind fun y1 =>
  cond (y1 != 0)
    (some ((Serial.mk (Schema.mk ([] : List Bounds)) ([] : List Row) ([] : List Row) ([] : List (List Row)) false), y1))
    ((slices_Clone_Row n p1).bind fun y2 =>
    (slices_Clone_Row n p1).bind fun y3 =>
    some ((Serial.mk p0 y2 y3 ([] : List (List Row)) false), 0))
@[reducible] def ideal_Begin_ct : Ct tab := ⟨30, [.st 1, .one (.d (.sl (.st 3)))], [], [.st 9, .one (.d (.int .i64))], [], (Serial × Int), fun y => (y.1, y.2, ()), fun y => (y.1, y.2.1), fun _ => rfl, fun n x => ideal_Begin n x.1 x.2.1⟩
theorem ideal_Begin_ok : OkC Try.prog tab ideal_Begin_ct := fn_ok (W := ⟨Try.prog, tab, tyOf, [row_CheckList_ct, slices_Clone_Row_ct]⟩) ⟨tabOk, ⟨row_CheckList_ok, slices_Clone_Row_ok, trivial⟩⟩ (by kernel_rfl) 20 Try.f30 (.n) Try.func30 Try.call30 rfl (by kernel_rfl) (by kernel_rfl) (by kernel_rfl) fun n x => by kernel_rfl

/-! bursary bursaryref15.Right -/
def ref15_Right_l1 (n : Nat) : Nat → Int × Serial × Unit → Option Bool := loopF fun r1 ⟨v6, v7, _⟩ =>
    cond (decide (v6 < (v7.marks.length : Int)))
      ((idx v7.marks v6).bind fun x8 =>
      (ref05_RightList n v7.schema x8).bind fun y9 =>
      cond (!y9)
        (some false)
        (r1 ((IntKind.wrap .i64 (v6 + 1)), v7, ())))
      (jn (fun (b10 : Bool) =>
          some b10) fun k11 =>
      cond (decide ((v7.marks.length : Int) ≤ 8))
        (jn (fun (b12 : Bool) =>
            k11 (!b12)) fun k13 =>
        cond v7.over
          (k13 (decide ((v7.marks.length : Int) > 0)))
          (k13 false))
        (k11 false))
def ref15_Right (n : Nat) (p0 : Serial) : Option Bool :=
  (ref05_Right n p0.schema).bind fun y1 =>
  jn (fun (b2 : Bool) =>
      jn (fun (b4 : Bool) =>
          cond b4
            (some false)
            (ref15_Right_l1 n n (0, p0, ()))) fun k5 =>
      cond b2
        (k5 true)
        ((ref05_RightList n p0.schema p0.begun).bind fun y14 =>
        k5 (!y14))) fun k3 =>
  cond (!y1)
    (k3 true)
    ((ref05_RightList n p0.schema p0.rows).bind fun y15 =>
    k3 (!y15))
@[reducible] def ref15_Right_ct : Ct tab := ⟨31, [.st 9], [], [.one (.d .bool)], [], Bool, fun y => (y, ()), fun y => y.1, fun _ => rfl, fun n x => ref15_Right n x.1⟩
theorem ref15_Right_ok : OkC Try.prog tab ref15_Right_ct := fn_ok (W := ⟨Try.prog, tab, tyOf, [ref05_Right_ct, ref05_RightList_ct]⟩) ⟨tabOk, ⟨ref05_Right_ok, ref05_RightList_ok, trivial⟩⟩ (by kernel_rfl) 55 Try.f31 (.sq (.n) (.sq (.n) (.sq (.sq (.n) (.bk none (.lp ⟨[(1, .one (.box 0 0)), (3, .one (.d (.int .i64)))], [.bst 9], []⟩ (.n)))) (.n)))) Try.func31 Try.call31 rfl (by kernel_rfl) (by kernel_rfl) (by kernel_rfl) fun n x => by kernel_rfl

/-! bursary bursaryref15.Step -/
def ref15_Step (n : Nat) (p0 : Serial) (p1 : Request) : Option (Serial × Answer) :=
  cond (p1.kind == 9)
    (cond ((p0.marks.length : Int) == 8)
      (some (p0, (Answer.mk 6 ([] : List Row) 0)))
      ((app 24 ([] : List (List Row)) p0.marks).bind fun l1 =>
      (app 24 l1 ([p0.rows] : List (List Row))).bind fun l2 =>
      some ((Serial.mk p0.schema p0.rows p0.begun l2 p0.over), (Answer.mk 0 ([] : List Row) (l2.length : Int)))))
    (cond (p1.kind == 10)
      (cond (decide (p1.n > (p0.marks.length : Int)))
        (some (p0, (Answer.mk 4 ([] : List Row) 0)))
        ((idx p0.marks (IntKind.wrap .i64 (p1.n - 1))).bind fun x3 =>
        (sub p0.marks 0 p1.n).bind fun l4 =>
        (app 24 ([] : List (List Row)) l4).bind fun l5 =>
        some ((Serial.mk p0.schema x3 p0.begun l5 p0.over), (Answer.mk 0 ([] : List Row) 0))))
      (cond (p1.kind == 11)
        (some ((Serial.mk p0.schema p0.rows p0.begun ([] : List (List Row)) true), (Answer.mk 0 ([] : List Row) 0)))
        (cond (p1.kind == 12)
          (some ((Serial.mk p0.schema p0.begun p0.begun ([] : List (List Row)) true), (Answer.mk 0 ([] : List Row) 0)))
          ((ref15_Do n p0.schema p0.rows p1).bind fun y6 =>
          some ((Serial.mk p0.schema y6.1 p0.begun p0.marks p0.over), y6.2)))))
@[reducible] def ref15_Step_ct : Ct tab := ⟨32, [.st 9, .st 4], [], [.st 9, .st 6], [], (Serial × Answer), fun y => (y.1, y.2, ()), fun y => (y.1, y.2.1), fun _ => rfl, fun n x => ref15_Step n x.1 x.2.1⟩
theorem ref15_Step_ok : OkC Try.prog tab ref15_Step_ct := fn_ok (W := ⟨Try.prog, tab, tyOf, [ref15_Do_ct]⟩) ⟨tabOk, ⟨ref15_Do_ok, trivial⟩⟩ (by kernel_rfl) 88 Try.f32 (.n) Try.func32 Try.call32 rfl (by kernel_rfl) (by kernel_rfl) (by kernel_rfl) fun n x => by kernel_rfl

/-! bursary bursarylaw15.IdealSteps -/
def law15_IdealSteps_j2 (n : Nat) : Int × Int × Serial × Request × Serial × Answer × Unit → Option Bool := fun ⟨v15, v16, v17, v18, v19, v20, _⟩ =>
    jn (fun (b21 : Bool) =>
        cond b21
          (some false)
          (cond (v16 != 0)
            ((ref15_Same n v19 v17).bind fun y23 =>
            jn (fun (b24 : Bool) =>
                some b24) fun k25 =>
            cond y23
              ((ref15_SameAnswer n v20 (Answer.mk v16 ([] : List Row) 0)).bind fun y26 =>
              k25 y26)
              (k25 false))
            ((ref15_Step n v17 v18).bind fun y27 =>
            (ref15_Same n v19 y27.1).bind fun y28 =>
            jn (fun (b29 : Bool) =>
                some b29) fun k30 =>
            cond y28
              ((ref15_SameAnswer n v20 y27.2).bind fun y31 =>
              k30 y31)
              (k30 false)))) fun k22 =>
    cond (!((v15 == 251) == (v16 == 251)))
      (k22 true)
      (jn (fun (b32 : Bool) =>
          k22 b32) fun k33 =>
      cond (v15 != 0)
        (k33 (v15 != 251))
        (k33 false))
def law15_IdealSteps_j3 (n : Nat) (j2 : Int × Int × Serial × Request × Serial × Answer × Unit → Option Bool) : Int × Int × Serial × Request × Serial × Answer × Unit → Option Bool := fun ⟨v34, v35, v36, v37, v38, v39, _⟩ =>
    j2 (v34, v35, v36, v37, v38, v39, ())
def law15_IdealSteps_j4 (n : Nat) (j3 : Int × Int × Serial × Request × Serial × Answer × Unit → Option Bool) : Int × Int × Serial × Request × Serial × Answer × Unit → Option Bool := fun ⟨v41, v42, v43, v44, v45, v46, _⟩ =>
    j3 (v41, v42, v43, v44, v45, v46, ())
def law15_IdealSteps_j1 (n : Nat) : Int × Serial × Request × Serial × Answer × Unit → Option Bool := fun ⟨v9, v10, v11, v12, v13, _⟩ =>
    (ref15_Right n v10).bind fun y14 =>
    jn (law15_IdealSteps_j2 n) fun j2 =>
    cond (!y14)
      (j2 (v9, 251, v10, v11, v12, v13, ()))
      (jn (law15_IdealSteps_j3 n j2) fun j3 =>
      cond v10.over
        (j3 (v9, 252, v10, v11, v12, v13, ()))
        ((ref15_RightRequest n v10.schema v11).bind fun y40 =>
        jn (law15_IdealSteps_j4 n j3) fun j4 =>
        cond (!y40)
          (j4 (v9, 250, v10, v11, v12, v13, ()))
          (j4 (v9, 0, v10, v11, v12, v13, ()))))
def law15_IdealSteps_j5 (n : Nat) (j1 : Int × Serial × Request × Serial × Answer × Unit → Option Bool) : Int × Serial × Request × Serial × Answer × Unit → Option Bool := fun ⟨v51, v52, v53, v54, v55, _⟩ =>
    j1 (v51, v52, v53, v54, v55, ())
def law15_IdealSteps (n : Nat) (p0 : Serial) (p1 : Request) : Option Bool :=
  (law15_wakes n).bind fun y1 =>
  cond (!y1)
    (some false)
    ((law15_overSerial n p0).bind fun y2 =>
    jn (fun (b3 : Bool) =>
        cond b3
          (some true)
          ((ideal_Step n p0 p1).bind fun y5 =>
          (ideal_Check n p0).bind fun y6 =>
          (ideal_Begin n p0.schema p0.rows).bind fun y7 =>
          (ref05_Right n p0.schema).bind fun y8 =>
          jn (law15_IdealSteps_j1 n) fun j1 =>
          cond (!y8)
            (jn (fun (b47 : Bool) =>
                cond b47
                  (some false)
                  (j1 (y6, p0, p1, y5.1, y5.2, ()))) fun k48 =>
            cond (y7.2 != 150)
              (k48 true)
              ((ref15_Same n y7.1 (Serial.mk (Schema.mk ([] : List Bounds)) ([] : List Row) ([] : List Row) ([] : List (List Row)) false)).bind fun y49 =>
              k48 (!y49)))
            ((ref05_RightList n p0.schema p0.rows).bind fun y50 =>
            jn (law15_IdealSteps_j5 n j1) fun j5 =>
            cond (!y50)
              (jn (fun (b56 : Bool) =>
                  cond b56
                    (some false)
                    (j5 (y6, p0, p1, y5.1, y5.2, ()))) fun k57 =>
              cond (y7.2 != 151)
                (k57 true)
                ((ref15_Same n y7.1 (Serial.mk (Schema.mk ([] : List Bounds)) ([] : List Row) ([] : List Row) ([] : List (List Row)) false)).bind fun y58 =>
                k57 (!y58)))
              (jn (fun (b59 : Bool) =>
                  cond b59
                    (some false)
                    (j5 (y6, p0, p1, y5.1, y5.2, ()))) fun k60 =>
              cond (y7.2 != 0)
                (k60 true)
                ((ref15_Same n y7.1 (Serial.mk p0.schema p0.rows p0.rows ([] : List (List Row)) false)).bind fun y61 =>
                k60 (!y61)))))) fun k4 =>
    cond y2
      (k4 true)
      (k4 (decide ((p1.note.size : Int) > 100))))
@[reducible] def law15_IdealSteps_ct : Ct tab := ⟨6, [.st 9, .st 4], [], [.one (.d .bool)], [], Bool, fun y => (y, ()), fun y => y.1, fun _ => rfl, fun n x => law15_IdealSteps n x.1 x.2.1⟩
theorem law15_IdealSteps_ok : OkC Try.prog tab law15_IdealSteps_ct := fn_ok (W := ⟨Try.prog, tab, tyOf, [law15_wakes_ct, law15_overSerial_ct, ideal_Step_ct, ideal_Check_ct, ideal_Begin_ct, ref05_Right_ct, ref15_Right_ct, ref15_Same_ct, ref15_SameAnswer_ct, ref15_Step_ct, ref15_RightRequest_ct, ref05_RightList_ct]⟩) ⟨tabOk, ⟨law15_wakes_ok, law15_overSerial_ok, ideal_Step_ok, ideal_Check_ok, ideal_Begin_ok, ref05_Right_ok, ref15_Right_ok, ref15_Same_ok, ref15_SameAnswer_ok, ref15_Step_ok, ref15_RightRequest_ok, ref05_RightList_ok, trivial⟩⟩ (by kernel_rfl) 133 Try.f6 (.sq (.n) (.sq (.n) (.sq (.n) (.sq (.n) (.sq (.n) (.sq (.n) (.sq (.bk none (.sq (.n) (.cd (some ⟨[(2, .one (.box 0 0)), (3, .one (.box 1 0)), (5, .one (.box 2 0)), (6, .one (.box 3 0)), (7, .one (.d (.int .i64)))], [.bst 9, .bst 4, .bst 9, .bst 6], []⟩) (.n) (.sq (.n) (.cd (some ⟨[(2, .one (.box 0 0)), (3, .one (.box 1 0)), (5, .one (.box 2 0)), (6, .one (.box 3 0)), (7, .one (.d (.int .i64)))], [.bst 9, .bst 4, .bst 9, .bst 6], []⟩) (.n) (.n)))))) (.sq (.n) (.sq (.bk none (.sq (.n) (.cd (some ⟨[(2, .one (.box 0 0)), (3, .one (.box 1 0)), (5, .one (.box 2 0)), (6, .one (.box 3 0)), (7, .one (.d (.int .i64))), (10, .one (.d (.int .i64)))], [.bst 9, .bst 4, .bst 9, .bst 6], []⟩) (.n) (.sq (.n) (.cd (some ⟨[(2, .one (.box 0 0)), (3, .one (.box 1 0)), (5, .one (.box 2 0)), (6, .one (.box 3 0)), (7, .one (.d (.int .i64))), (10, .one (.d (.int .i64)))], [.bst 9, .bst 4, .bst 9, .bst 6], []⟩) (.n) (.sq (.n) (.cd (some ⟨[(2, .one (.box 0 0)), (3, .one (.box 1 0)), (5, .one (.box 2 0)), (6, .one (.box 3 0)), (7, .one (.d (.int .i64))), (10, .one (.d (.int .i64)))], [.bst 9, .bst 4, .bst 9, .bst 6], []⟩) (.n) (.n)))))))) (.n)))))))))) Try.func6 Try.call6 rfl (by kernel_rfl) (by kernel_rfl) (by kernel_rfl) fun n x => by kernel_rfl

/-! bursary bursarylaw15.IdealBack -/
def law15_IdealBack_j1 (n : Nat) : Serial × Serial × Answer × Unit → Option Bool := fun ⟨v10, v11, v12, _⟩ =>
    (ideal_Step n v11 (Request.mk 10 (Key.mk 0 0) (Key.mk 0 0) 0 ByteArray.empty v12.n)).bind fun y13 =>
    jn (fun (b14 : Bool) =>
        jn (fun (b16 : Bool) =>
            cond b16
              (some false)
              ((ideal_Step n v11 (Request.mk 12 (Key.mk 0 0) (Key.mk 0 0) 0 ByteArray.empty 0)).bind fun y18 =>
              jn (fun (b19 : Bool) =>
                  jn (fun (b21 : Bool) =>
                      some b21) fun k22 =>
                  cond b19
                    (k22 y18.1.over)
                    (k22 false)) fun k20 =>
              cond (y18.2.err == 0)
                ((row_Same n y18.1.rows v10.begun).bind fun y23 =>
                k20 y23)
                (k20 false))) fun k17 =>
        cond b14
          (k17 true)
          (k17 ((y13.1.marks.length : Int) != v12.n))) fun k15 =>
    cond (y13.2.err != 0)
      (k15 true)
      ((row_Same n y13.1.rows v10.rows).bind fun y24 =>
      k15 (!y24))
def law15_IdealBack_j3 (n : Nat) (r2 : (List Request) × Int × Int × Serial × Serial × Answer × Unit → Option Bool) : (List Request) × Int × Int × Serial × Serial × Answer × Unit → Option Bool := fun ⟨v31, v32, v33, v34, v35, v36, _⟩ =>
    r2 (v31, v32, (IntKind.wrap .i64 (v33 + 1)), v34, v35, v36, ())
def law15_IdealBack_l2 (n : Nat) (j1 : Serial × Serial × Answer × Unit → Option Bool) : Nat → (List Request) × Int × Int × Serial × Serial × Answer × Unit → Option Bool := loopF fun r2 ⟨v25, v26, v27, v28, v29, v30, _⟩ =>
    cond (decide (v27 < v26))
      (jn (law15_IdealBack_j3 n r2) fun j3 =>
      (idx v25 v27).bind fun x37 =>
      cond (v27 == 30)
        (j1 (v28, v29, v30, ()))
        (jn (fun (b38 : Bool) =>
            jn (fun (b40 : Bool) =>
                jn (fun (b42 : Bool) =>
                    cond b42
                      (j3 (v25, v26, v27, v28, v29, v30, ()))
                      ((ideal_Step n v29 x37).bind fun y44 =>
                      j3 (v25, v26, v27, v28, y44.1, v30, ()))) fun k43 =>
                cond b40
                  (k43 true)
                  (k43 (decide ((x37.note.size : Int) > 100)))) fun k41 =>
            cond b38
              (k41 true)
              (k41 (decide (x37.kind ≥ 11)))) fun k39 =>
        cond (x37.kind == 10)
          (k39 (decide (x37.n < v30.n)))
          (k39 false)))
      (j1 (v28, v29, v30, ()))
def law15_IdealBack (n : Nat) (p0 : Serial) (p1 : List Request) (p2 : Int) : Option Bool :=
  (law15_wakes n).bind fun y1 =>
  cond (!y1)
    (some false)
    ((law15_overSerial n p0).bind fun y2 =>
    jn (fun (b3 : Bool) =>
        jn (fun (b5 : Bool) =>
            cond b5
              (some true)
              ((ideal_Step n p0 (Request.mk 9 (Key.mk 0 0) (Key.mk 0 0) 0 ByteArray.empty 0)).bind fun y7 =>
              cond (y7.2.err != 0)
                (jn (fun (b8 : Bool) =>
                    some b8) fun k9 =>
                cond (y7.2.err == 6)
                  (k9 ((p0.marks.length : Int) == 8))
                  (k9 false))
                (jn (law15_IdealBack_j1 n) fun j1 =>
                law15_IdealBack_l2 n j1 n (p1, (p1.length : Int), 0, p0, y7.1, y7.2, ())))) fun k6 =>
        cond b3
          (k6 true)
          (k6 p0.over)) fun k4 =>
    cond y2
      (k4 true)
      ((ideal_Check n p0).bind fun y45 =>
      k4 (y45 != 0)))
@[reducible] def law15_IdealBack_ct : Ct tab := ⟨7, [.st 9, .one (.d (.sl (.st 4))), .one (.d (.int .i64))], [], [.one (.d .bool)], [], Bool, fun y => (y, ()), fun y => y.1, fun _ => rfl, fun n x => law15_IdealBack n x.1 x.2.1 x.2.2.1⟩
theorem law15_IdealBack_ok : OkC Try.prog tab law15_IdealBack_ct := fn_ok (W := ⟨Try.prog, tab, tyOf, [law15_wakes_ct, law15_overSerial_ct, ideal_Step_ct, row_Same_ct, ideal_Check_ct]⟩) ⟨tabOk, ⟨law15_wakes_ok, law15_overSerial_ok, ideal_Step_ok, row_Same_ok, ideal_Check_ok, trivial⟩⟩ (by kernel_rfl) 130 Try.f7 (.sq (.n) (.sq (.n) (.sq (.n) (.sq (.n) (.sq (.n) (.sq (.sq (.n) (.bk (some ⟨[(3, .one (.box 0 0)), (7, .one (.box 1 0)), (8, .one (.box 2 0))], [.bst 9, .bst 9, .bst 6], []⟩) (.lp ⟨[(3, .one (.box 0 0)), (7, .one (.box 1 0)), (8, .one (.box 2 0)), (46, .one (.d (.sl (.st 4)))), (47, .one (.d (.int .i64))), (48, .one (.d (.int .i64)))], [.bst 9, .bst 9, .bst 6], []⟩ (.sq (.n) (.sq (.n) (.sq (.bk (some ⟨[(3, .one (.box 0 0)), (7, .one (.box 1 0)), (8, .one (.box 2 0)), (46, .one (.d (.sl (.st 4)))), (47, .one (.d (.int .i64))), (48, .one (.d (.int .i64)))], [.bst 9, .bst 9, .bst 6], []⟩) (.n)) (.n))))))) (.n))))))) Try.func7 Try.call7 rfl (by kernel_rfl) (by kernel_rfl) (by kernel_rfl) fun n x => by kernel_rfl

/-! bursary bursarylaw15.IdealKeeps -/
def law15_IdealKeeps_j1 (n : Nat) : (List Row) × Serial × Unit → Option Bool := fun ⟨v4, v5, _⟩ =>
    (row_Same n v5.begun v4).bind fun y6 =>
    some y6
def law15_IdealKeeps_j3 (n : Nat) (r2 : (List Row) × (List Request) × Int × Int × Schema × Serial × Unit → Option Bool) : (List Row) × (List Request) × Int × Int × Schema × Serial × Unit → Option Bool := fun ⟨v13, v14, v15, v16, v17, v18, _⟩ =>
    r2 (v13, v14, v15, (IntKind.wrap .i64 (v16 + 1)), v17, v18, ())
def law15_IdealKeeps_l2 (n : Nat) (j1 : (List Row) × Serial × Unit → Option Bool) : Nat → (List Row) × (List Request) × Int × Int × Schema × Serial × Unit → Option Bool := loopF fun r2 ⟨v7, v8, v9, v10, v11, v12, _⟩ =>
    cond (decide (v10 < v9))
      (jn (law15_IdealKeeps_j3 n r2) fun j3 =>
      (idx v8 v10).bind fun x19 =>
      cond (v10 == 60)
        (j1 (v7, v12, ()))
        (cond (decide ((x19.note.size : Int) > 100))
          (j3 (v7, v8, v9, v10, v11, v12, ()))
          ((ideal_Step n v12 x19).bind fun y20 =>
          (ideal_Check n y20.1).bind fun y21 =>
          jn (fun (b22 : Bool) =>
              cond b22
                (some false)
                (jn (fun (b24 : Bool) =>
                    jn (fun (b26 : Bool) =>
                        jn (fun (b28 : Bool) =>
                            cond b28
                              (some false)
                              (jn (fun (b30 : Bool) =>
                                  jn (fun (b32 : Bool) =>
                                      cond b32
                                        (some false)
                                        (j3 (v7, v8, v9, v10, v11, y20.1, ()))) fun k33 =>
                                  cond b30
                                    (k33 true)
                                    (jn (fun (b34 : Bool) =>
                                        k33 b34) fun k35 =>
                                    cond v12.over
                                      (k35 (y20.2.err != 252))
                                      (k35 false))) fun k31 =>
                              cond (y20.2.err != 0)
                                (jn (fun (b36 : Bool) =>
                                    k31 b36) fun k37 =>
                                cond (y20.2.n != 0)
                                  (k37 true)
                                  (k37 ((y20.2.rows.length : Int) != 0)))
                                (k31 false))) fun k29 =>
                        cond b26
                          ((ideal_Same n y20.1 v12).bind fun y38 =>
                          k29 (!y38))
                          (k29 false)) fun k27 =>
                    cond b24
                      (k27 true)
                      (k27 (x19.kind == 2))) fun k25 =>
                cond (y20.2.err != 0)
                  (k25 true)
                  (k25 (x19.kind == 1)))) fun k23 =>
          cond (y21 != 0)
            (k23 true)
            ((row_CheckList n v11 y20.2.rows).bind fun y39 =>
            jn (fun (b40 : Bool) =>
                k23 b40) fun k41 =>
            cond (y39 != 0)
              (k41 (x19.kind == 2))
              (k41 false)))))
      (j1 (v7, v12, ()))
def law15_IdealKeeps (n : Nat) (p0 : Schema) (p1 : List Row) (p2 : List Request) : Option Bool :=
  (law15_wakes n).bind fun y1 =>
  cond (!y1)
    (some false)
    ((law15_over n p0 p1).bind fun y2 =>
    cond y2
      (some true)
      ((ideal_Begin n p0 p1).bind fun y3 =>
      cond (y3.2 != 0)
        (some ((y3.1.rows.length : Int) == 0))
        (jn (law15_IdealKeeps_j1 n) fun j1 =>
        law15_IdealKeeps_l2 n j1 n (p1, p2, (p2.length : Int), 0, p0, y3.1, ()))))
@[reducible] def law15_IdealKeeps_ct : Ct tab := ⟨8, [.st 1, .one (.d (.sl (.st 3))), .one (.d (.sl (.st 4)))], [], [.one (.d .bool)], [], Bool, fun y => (y, ()), fun y => y.1, fun _ => rfl, fun n x => law15_IdealKeeps n x.1 x.2.1 x.2.2.1⟩
theorem law15_IdealKeeps_ok : OkC Try.prog tab law15_IdealKeeps_ct := fn_ok (W := ⟨Try.prog, tab, tyOf, [law15_wakes_ct, law15_over_ct, ideal_Begin_ct, row_Same_ct, ideal_Step_ct, ideal_Check_ct, ideal_Same_ct, row_CheckList_ct]⟩) ⟨tabOk, ⟨law15_wakes_ok, law15_over_ok, ideal_Begin_ok, row_Same_ok, ideal_Step_ok, ideal_Check_ok, ideal_Same_ok, row_CheckList_ok, trivial⟩⟩ (by kernel_rfl) 112 Try.f8 (.sq (.n) (.sq (.n) (.sq (.n) (.sq (.n) (.sq (.n) (.sq (.sq (.n) (.bk (some ⟨[(1, .one (.d (.sl (.st 3)))), (7, .one (.box 0 0))], [.bst 9], []⟩) (.lp ⟨[(1, .one (.d (.sl (.st 3)))), (3, .one (.box 0 0)), (7, .one (.box 1 0)), (30, .one (.d (.sl (.st 4)))), (31, .one (.d (.int .i64))), (32, .one (.d (.int .i64)))], [.bst 1, .bst 9], []⟩ (.sq (.n) (.sq (.n) (.sq (.bk (some ⟨[(1, .one (.d (.sl (.st 3)))), (3, .one (.box 0 0)), (7, .one (.box 1 0)), (30, .one (.d (.sl (.st 4)))), (31, .one (.d (.int .i64))), (32, .one (.d (.int .i64)))], [.bst 1, .bst 9], []⟩) (.n)) (.n))))))) (.n))))))) Try.func8 Try.call8 rfl (by kernel_rfl) (by kernel_rfl) (by kernel_rfl) fun n x => by kernel_rfl

/-! slices.Reverse   bursary api.Row bursary api.Row  -/
def slices_Reverse_Row_l1 (n : Nat) : Nat → Int × Int × (List Row) × Unit → Option ((List Row)) := loopF fun r1 ⟨v1, v2, v3, _⟩ =>
    cond (decide (v1 < v2))
      ((idx v3 v2).bind fun x4 =>
      (idx v3 v2).bind fun x5 =>
      (idx v3 v1).bind fun x6 =>
      (idx v3 v1).bind fun x7 =>
      (idx v3 v1).bind fun x8 =>
      (put v3 v1 x5).bind fun l9 =>
      (idx l9 v2).bind fun x10 =>
      (put l9 v2 x7).bind fun l11 =>
      r1 ((IntKind.wrap .i64 (v1 + 1)), (IntKind.wrap .i64 (v2 - 1)), l11, ()))
      (some v3)
def slices_Reverse_Row (n : Nat) (q0 : List Row) : Option ((List Row)) :=
  slices_Reverse_Row_l1 n n (0, (IntKind.wrap .i64 ((q0.length : Int) - 1)), q0, ())
@[reducible] def slices_Reverse_Row_ct : Ct tab := ⟨99, [.one (.own 0)], [.row 52 (.st 3)], [], [(some 0, .row 52 (.st 3))], ((List Row)), fun y => (y, ()), fun y => y.1, fun _ => rfl, fun n x => slices_Reverse_Row n x.1⟩
theorem slices_Reverse_Row_ok : OkC Try.prog tab slices_Reverse_Row_ct := fn_ok (W := ⟨Try.prog, tab, tyOf, []⟩) ⟨tabOk, trivial⟩ (by kernel_rfl) 28 Try.f99 (.sq (.n) (.bk none (.lp ⟨[(0, .one (.own 0)), (2, .one (.d (.int .i64))), (3, .one (.d (.int .i64)))], [.row 52 (.st 3)], [(0, 0)]⟩ (.n)))) Try.func99 Try.call99 rfl (by kernel_rfl) (by kernel_rfl) (by kernel_rfl) fun n x => by kernel_rfl

end
end Go.Proofs.Ytdjageadgkillaa
