/- Functions of the program: plain twins and their contracts, printed by program. -/
import Derived.Test.YtkfemopgfjooeaaTypes
import Derived.Test.YtkfemopgfjooeaaF0
namespace Go.Proofs.Ytkfemopgfjooeaa
open Go Go.Bur Go.RowKit
set_option linter.unusedVariables false
set_option linter.unusedSimpArgs false
set_option maxRecDepth 100000
noncomputable section
/-! bursary waits.Cycles -/
def waits_Cycles (n : Nat) (p0 : List Edge) (p1 : Int) : Option (Int × (List (List Int))) :=
  (waits_right n p0).bind fun y1 =>
  cond (!y1)
    (some (190, ([] : List (List Int))))
    ((waits_Cycles_1_c3_self n ([p1] : List Int) p0 p1 ([] : List (List Int))).bind fun y2 =>
    (slices_SortFunc_Lint_f43 n y2.2.2).bind fun y3 =>
    some (0, y3))
@[reducible] def waits_Cycles_ct : Ct tab := ⟨16, [.one (.d (.sl (.st 0))), .one (.d (.int .i64))], [], [.one (.own 0), .one (.d (.int .i64))], [(none, .row 24 (.sl (.int .i64)))], (Int × (List (List Int))), fun y => (y.1, y.2, ()), fun y => (y.1, y.2.1), fun _ => rfl, fun n x => waits_Cycles n x.1 x.2.1⟩
theorem waits_Cycles_ok : OkC Try.prog tab waits_Cycles_ct := fn_ok (W := ⟨Try.prog, tab, tyOf, [waits_right_ct, waits_Cycles_1_c3_self_ct, slices_SortFunc_Lint_f43_ct], addO, dpO, false⟩) ⟨tabOk, ⟨waits_right_ok, waits_Cycles_1_c3_self_ok, slices_SortFunc_Lint_f43_ok, trivial⟩, addOk⟩ (by kernel_rfl) 19 Try.f16 (.sq (.n) (.sq (.n) (.sq (.n) (.sq (.n) (.sq (.n) (.sq (.gs [.nrb 2 0 24 (.sl (.int .i64))] (.n)) (.n))))))) Try.func16 Try.call16 rfl (by kernel_rfl) (by kernel_rfl) (by kernel_rfl) fun n x => by kernel_rfl

/-! bursary waits.Circles 1 -/
def waits_Circles_1 (n : Nat) (p0 : Edge) (p1 : List Edge) : Option Bool :=
  (waits_reached n p1 p0.to).bind fun y1 =>
  (mlook .i64 false y1 p0.from_).bind fun w2 =>
  some w2
@[reducible] def waits_Circles_1_ct : Ct tab := ⟨47, [.st 0, .one (.ro (.sl (.st 0)))], [], [.one (.d .bool)], [], Bool, fun y => (y, ()), fun y => y.1, fun _ => rfl, fun n x => waits_Circles_1 n x.1 x.2.1⟩
theorem waits_Circles_1_ok : OkC Try.prog tab waits_Circles_1_ct := fn_ok (W := ⟨Try.prog, tab, tyOf, [waits_reached_ct], addO, dpO, false⟩) ⟨tabOk, ⟨waits_reached_ok, trivial⟩, addOk⟩ (by kernel_rfl) 11 Try.f47 (.n) Try.func47 Try.call47 rfl (by kernel_rfl) (by kernel_rfl) (by kernel_rfl) fun n x => by kernel_rfl

/-! slices.IndexFunc   bursary api.Edge bursary api.Edge  -/
def slices_IndexFunc_Edge_f47_l1 (n : Nat) : Nat → (List Edge) × (List Edge) × Int × Int × Unit → Option Int := loopF fun r1 ⟨v1, v2, v3, v4, _⟩ =>
    cond (decide (v4 < v3))
      ((idx v1 v4).bind fun x5 =>
      (waits_Circles_1 n x5 v2).bind fun y6 =>
      cond y6
        (some v4)
        (r1 (v1, v2, v3, (IntKind.wrap .i64 (v4 + 1)), ())))
      (some (-1))
def slices_IndexFunc_Edge_f47 (n : Nat) (p0 : List Edge) (p1 : List Edge) : Option Int :=
  slices_IndexFunc_Edge_f47_l1 n n (p0, p1, (p0.length : Int), 0, ())
@[reducible] def slices_IndexFunc_Edge_f47_ct : Ct tab := ⟨63, [.one (.d (.sl (.st 0))), .one (.fn 47 [.ro (.sl (.st 0))])], [], [.one (.d (.int .i64))], [], Int, fun y => (y, ()), fun y => y.1, fun _ => rfl, fun n x => slices_IndexFunc_Edge_f47 n x.1 x.2.1⟩
theorem slices_IndexFunc_Edge_f47_ok : OkC Try.prog tab slices_IndexFunc_Edge_f47_ct := fn_ok (W := ⟨Try.prog, tab, tyOf, [waits_Circles_1_ct], addO, dpO, false⟩) ⟨tabOk, ⟨waits_Circles_1_ok, trivial⟩, addOk⟩ (by kernel_rfl) 19 Try.f63 (.sq (.n) (.sq (.sq (.n) (.bk none (.lp ⟨[(0, .one (.d (.sl (.st 0)))), (1, .one (.fn 47 [.ro (.sl (.st 0))])), (7, .one (.d (.int .i64))), (8, .one (.d (.int .i64)))], [], []⟩ (.n)))) (.n))) Try.func63 Try.call63 rfl (by kernel_rfl) (by kernel_rfl) (by kernel_rfl) fun n x => by kernel_rfl

/-! slices.ContainsFunc   bursary api.Edge bursary api.Edge  -/
def slices_ContainsFunc_Edge_f47 (n : Nat) (p0 : List Edge) (p1 : List Edge) : Option Bool :=
  (slices_IndexFunc_Edge_f47 n p0 p1).bind fun y1 =>
  some (decide (y1 ≥ 0))
@[reducible] def slices_ContainsFunc_Edge_f47_ct : Ct tab := ⟨46, [.one (.d (.sl (.st 0))), .one (.fn 47 [.ro (.sl (.st 0))])], [], [.one (.d .bool)], [], Bool, fun y => (y, ()), fun y => y.1, fun _ => rfl, fun n x => slices_ContainsFunc_Edge_f47 n x.1 x.2.1⟩
theorem slices_ContainsFunc_Edge_f47_ok : OkC Try.prog tab slices_ContainsFunc_Edge_f47_ct := fn_ok (W := ⟨Try.prog, tab, tyOf, [slices_IndexFunc_Edge_f47_ct], addO, dpO, false⟩) ⟨tabOk, ⟨slices_IndexFunc_Edge_f47_ok, trivial⟩, addOk⟩ (by kernel_rfl) 9 Try.f46 (.n) Try.func46 Try.call46 rfl (by kernel_rfl) (by kernel_rfl) (by kernel_rfl) fun n x => by kernel_rfl

/-! bursary waits.Circles -/
def waits_Circles (n : Nat) (p0 : List Edge) : Option Bool :=
  (waits_right n p0).bind fun y1 =>
  jn (fun (b2 : Bool) =>
      some b2) fun k3 =>
  cond y1
    ((slices_ContainsFunc_Edge_f47 n p0 p0).bind fun y4 =>
    k3 y4)
    (k3 false)
@[reducible] def waits_Circles_ct : Ct tab := ⟨23, [.one (.d (.sl (.st 0)))], [], [.one (.d .bool)], [], Bool, fun y => (y, ()), fun y => y.1, fun _ => rfl, fun n x => waits_Circles n x.1⟩
theorem waits_Circles_ok : OkC Try.prog tab waits_Circles_ct := fn_ok (W := ⟨Try.prog, tab, tyOf, [waits_right_ct, slices_ContainsFunc_Edge_f47_ct], addO, dpO, false⟩) ⟨tabOk, ⟨waits_right_ok, slices_ContainsFunc_Edge_f47_ok, trivial⟩, addOk⟩ (by kernel_rfl) 10 Try.f23 (.n) Try.func23 Try.call23 rfl (by kernel_rfl) (by kernel_rfl) (by kernel_rfl) fun n x => by kernel_rfl

/-! bursary bursarylaw09.wakes -/
def law09_wakes (n : Nat) : Option Bool :=
  (law09_some n).bind fun y1 =>
  (waits_Break n y1 2).bind fun y2 =>
  (law09_some n).bind fun y3 =>
  (waits_Cycles n y3 2).bind fun y4 =>
  jn (fun (b5 : Bool) =>
      jn (fun (b7 : Bool) =>
          jn (fun (b9 : Bool) =>
              jn (fun (b11 : Bool) =>
                  jn (fun (b13 : Bool) =>
                      jn (fun (b15 : Bool) =>
                          jn (fun (b17 : Bool) =>
                              some b17) fun k18 =>
                          cond b15
                            ((law09_some n).bind fun y19 =>
                            (waits_Circles n y19).bind fun y20 =>
                            k18 y20)
                            (k18 false)) fun k16 =>
                      cond b13
                        (k16 ((y4.2.length : Int) == 2))
                        (k16 false)) fun k14 =>
                  cond b11
                    (k14 ((y2.2.2.length : Int) == 0))
                    (k14 false)) fun k12 =>
              cond b9
                ((idx y2.2.1 1).bind fun x21 =>
                (idx y2.2.1 1).bind fun x22 =>
                k12 (x22 == 2))
                (k12 false)) fun k10 =>
          cond b7
            ((idx y2.2.1 0).bind fun x23 =>
            (idx y2.2.1 0).bind fun x24 =>
            k10 (x24 == 3))
            (k10 false)) fun k8 =>
      cond b5
        (k8 ((y2.2.1.length : Int) == 2))
        (k8 false)) fun k6 =>
  cond (y2.1 == 0)
    (k6 (y4.1 == 0))
    (k6 false)
@[reducible] def law09_wakes_ct : Ct tab := ⟨10, [], [], [.one (.d .bool)], [], Bool, fun y => (y, ()), fun y => y.1, fun _ => rfl, fun n x => law09_wakes n⟩
theorem law09_wakes_ok : OkC Try.prog tab law09_wakes_ct := fn_ok (W := ⟨Try.prog, tab, tyOf, [law09_some_ct, waits_Break_ct, waits_Cycles_ct, waits_Circles_ct], addO, dpO, false⟩) ⟨tabOk, ⟨law09_some_ok, waits_Break_ok, waits_Cycles_ok, waits_Circles_ok, trivial⟩, addOk⟩ (by kernel_rfl) 54 Try.f10 (.n) Try.func10 Try.call10 rfl (by kernel_rfl) (by kernel_rfl) (by kernel_rfl) fun n x => by kernel_rfl

/-! bursary bursaryref09.Same -/
/-! bursary bursaryref09.before -/
/-! bursary bursaryref09.with -/
def ref09_with_j3 (n : Nat) (r1 : (List Int) × Int × Bool × Int × (List Int) × Unit → Option ((List Int))) : (List Int) × Int × Bool × Int × (List Int) × Unit → Option ((List Int)) := fun ⟨v14, v15, v16, v17, v18, _⟩ =>
    (idx v14 v17).bind fun x19 =>
    (app 8 v18 ([x19] : List Int)).bind fun l20 =>
    r1 (v14, v15, v16, (IntKind.wrap .i64 (v17 + 1)), l20, ())
def ref09_with_j2 (n : Nat) (r1 : (List Int) × Int × Bool × Int × (List Int) × Unit → Option ((List Int))) : (List Int) × Int × Bool × Int × (List Int) × Unit → Option ((List Int)) := fun ⟨v7, v8, v9, v10, v11, _⟩ =>
    jn (fun (b12 : Bool) =>
        jn (ref09_with_j3 n r1) fun j3 =>
        cond b12
          ((app 8 v11 ([v8] : List Int)).bind fun l21 =>
          j3 (v7, v8, true, v10, l21, ()))
          (j3 (v7, v8, v9, v10, v11, ()))) fun k13 =>
    cond (!v9)
      ((idx v7 v10).bind fun x22 =>
      k13 (decide (v8 < x22)))
      (k13 false)
def ref09_with_j4 (n : Nat) : (List Int) × Unit → Option ((List Int)) := fun ⟨v23, _⟩ =>
    some v23
def ref09_with_l1 (n : Nat) : Nat → (List Int) × Int × Bool × Int × (List Int) × Unit → Option ((List Int)) := loopF fun r1 ⟨v1, v2, v3, v4, v5, _⟩ =>
    cond (decide (v4 < (v1.length : Int)))
      ((idx v1 v4).bind fun x6 =>
      jn (ref09_with_j2 n r1) fun j2 =>
      cond (x6 == v2)
        (j2 (v1, v2, true, v4, v5, ()))
        (j2 (v1, v2, v3, v4, v5, ())))
      (jn (ref09_with_j4 n) fun j4 =>
      cond (!v3)
        ((app 8 v5 ([v2] : List Int)).bind fun l24 =>
        j4 (l24, ()))
        (j4 (v5, ())))
def ref09_with (n : Nat) (p0 : List Int) (p1 : Int) : Option ((List Int)) :=
  ref09_with_l1 n n (p0, p1, false, 0, ([] : List Int), ())
/-! bursary bursaryref09.Names -/
/-! bursary bursaryref09.Right -/
/-! bursary bursaryref09.in -/
def ref09_in_l1 (n : Nat) : Nat → (List Int) × Int × Int × Unit → Option Bool := loopF fun r1 ⟨v1, v2, v3, _⟩ =>
    cond (decide (v3 < (v1.length : Int)))
      ((idx v1 v3).bind fun x4 =>
      cond (x4 == v2)
        (some true)
        (r1 (v1, v2, (IntKind.wrap .i64 (v3 + 1)), ())))
      (some false)
def ref09_in (n : Nat) (p0 : List Int) (p1 : Int) : Option Bool :=
  ref09_in_l1 n n (p0, p1, 0, ())
/-! bursary bursaryref09.Reach -/
def ref09_Reach_j3 (n : Nat) (r2 : (List Edge) × Int × Int × Int × (List Int) × Unit → Option ((List Int))) : (List Edge) × Int × Int × Int × (List Int) × Unit → Option ((List Int)) := fun ⟨v13, v14, v15, v16, v17, _⟩ =>
    r2 (v13, v14, v15, (IntKind.wrap .i64 (v16 + 1)), v17, ())
def ref09_Reach_l2 (n : Nat) (r1 : (List Edge) × Int × Int × (List Int) × Unit → Option ((List Int))) : Nat → (List Edge) × Int × Int × Int × (List Int) × Unit → Option ((List Int)) := loopF fun r2 ⟨v5, v6, v7, v8, v9, _⟩ =>
    cond (decide (v8 < (v5.length : Int)))
      ((idx v5 v8).bind fun x10 =>
      jn (fun (b11 : Bool) =>
          jn (ref09_Reach_j3 n r2) fun j3 =>
          cond b11
            ((idx v5 v8).bind fun x18 =>
            (ref09_with n v9 x18.to).bind fun y19 =>
            j3 (v5, v6, v7, v8, y19, ()))
            (j3 (v5, v6, v7, v8, v9, ()))) fun k12 =>
      cond (x10.from_ == v6)
        (k12 true)
        ((idx v5 v8).bind fun x20 =>
        (ref09_in n v9 x20.from_).bind fun y21 =>
        k12 y21))
      (r1 (v5, v6, (IntKind.wrap .i64 (v7 + 1)), v9, ()))
def ref09_Reach_l1 (n : Nat) : Nat → (List Edge) × Int × Int × (List Int) × Unit → Option ((List Int)) := loopF fun r1 ⟨v1, v2, v3, v4, _⟩ =>
    cond (decide (v3 < 9))
      (ref09_Reach_l2 n r1 n (v1, v2, v3, 0, v4, ()))
      (some v4)
def ref09_Reach (n : Nat) (p0 : List Edge) (p1 : Int) : Option ((List Int)) :=
  ref09_Reach_l1 n n (p0, p1, 0, ([] : List Int), ())
/-! bursary bursaryref09.Bound -/
def ref09_Bound_j2 (n : Nat) (r1 : (List Edge) × Int × Int × (List Int) × (List Int) × Unit → Option ((List Int))) : (List Edge) × Int × Int × (List Int) × (List Int) × Unit → Option ((List Int)) := fun ⟨v11, v12, v13, v14, v15, _⟩ =>
    r1 (v11, v12, (IntKind.wrap .i64 (v13 + 1)), v14, v15, ())
def ref09_Bound_l1 (n : Nat) : Nat → (List Edge) × Int × Int × (List Int) × (List Int) × Unit → Option ((List Int)) := loopF fun r1 ⟨v2, v3, v4, v5, v6, _⟩ =>
    cond (decide (v4 < (v6.length : Int)))
      ((idx v6 v4).bind fun x7 =>
      (idx v6 v4).bind fun x8 =>
      (ref09_Reach n v2 x8).bind fun y9 =>
      (ref09_in n y9 v3).bind fun y10 =>
      jn (ref09_Bound_j2 n r1) fun j2 =>
      cond y10
        ((idx v6 v4).bind fun x16 =>
        (idx v6 v4).bind fun x17 =>
        (app 8 v5 ([x17] : List Int)).bind fun l18 =>
        j2 (v2, v3, v4, l18, v6, ()))
        (j2 (v2, v3, v4, v5, v6, ())))
      (some v5)
def ref09_Bound (n : Nat) (p0 : List Edge) (p1 : Int) : Option ((List Int)) :=
  (ref09_Reach n p0 p1).bind fun y1 =>
  ref09_Bound_l1 n n (p0, p1, 0, ([] : List Int), y1, ())
/-! bursary bursaryref09.Victim -/
def ref09_Victim (n : Nat) (p0 : List Edge) (p1 : Int) : Option Int :=
  (ref09_Bound n p0 p1).bind fun y1 =>
  cond ((y1.length : Int) == 0)
    (some 0)
    ((idx y1 (IntKind.wrap .i64 ((y1.length : Int) - 1))).bind fun x2 =>
    (idx y1 (IntKind.wrap .i64 ((y1.length : Int) - 1))).bind fun x3 =>
    some x3)
/-! bursary bursaryref09.Without -/
def ref09_Without_j2 (n : Nat) (r1 : (List Edge) × Int × Int × (List Edge) × Unit → Option ((List Edge))) : (List Edge) × Int × Int × (List Edge) × Unit → Option ((List Edge)) := fun ⟨v8, v9, v10, v11, _⟩ =>
    r1 (v8, v9, (IntKind.wrap .i64 (v10 + 1)), v11, ())
def ref09_Without_l1 (n : Nat) : Nat → (List Edge) × Int × Int × (List Edge) × Unit → Option ((List Edge)) := loopF fun r1 ⟨v1, v2, v3, v4, _⟩ =>
    cond (decide (v3 < (v1.length : Int)))
      ((idx v1 v3).bind fun x5 =>
      jn (fun (b6 : Bool) =>
          jn (ref09_Without_j2 n r1) fun j2 =>
          cond b6
            ((idx v1 v3).bind fun x12 =>
            (app 16 v4 ([x12] : List Edge)).bind fun l13 =>
            j2 (v1, v2, v3, l13, ()))
            (j2 (v1, v2, v3, v4, ()))) fun k7 =>
      cond (x5.from_ != v2)
        ((idx v1 v3).bind fun x14 =>
        k7 (x14.to != v2))
        (k7 false))
      (some v4)
def ref09_Without (n : Nat) (p0 : List Edge) (p1 : Int) : Option ((List Edge)) :=
  ref09_Without_l1 n n (p0, p1, 0, ([] : List Edge), ())
/-! bursary bursaryref09.Break -/
def ref09_Break_j1 (n : Nat) : (List Edge) × (List Int) × Unit → Option ((List Edge) × (List Int)) := fun ⟨v1, v2, _⟩ =>
    some (v1, v2)
def ref09_Break_l2 (n : Nat) (j1 : (List Edge) × (List Int) × Unit → Option ((List Edge) × (List Int))) : Nat → (List Edge) × Int × Int × (List Int) × Unit → Option ((List Edge) × (List Int)) := loopF fun r2 ⟨v3, v4, v5, v6, _⟩ =>
    cond (decide (v5 < 9))
      ((ref09_Victim n v3 v4).bind fun y7 =>
      cond (y7 == 0)
        (j1 (v3, v6, ()))
        ((app 8 v6 ([y7] : List Int)).bind fun l8 =>
        (ref09_Without n v3 y7).bind fun y9 =>
        r2 (y9, v4, (IntKind.wrap .i64 (v5 + 1)), l8, ())))
      (j1 (v3, v6, ()))
def ref09_Break (n : Nat) (p0 : List Edge) (p1 : Int) : Option ((List Edge) × (List Int)) :=
  jn (ref09_Break_j1 n) fun j1 =>
  ref09_Break_l2 n j1 n (p0, p1, 0, ([] : List Int), ())
/-! bursary bursaryref09.SameInts -/
/-! bursary bursarylaw09.WaitsBreaks -/
/-! bursary bursaryref09.Cycles -/
/-! bursary bursarylaw09.WaitsCycles -/
/-! bursary waits.Without -/
def waits_Without (n : Nat) (p0 : List Edge) (p1 : Int) : Option (Int × (List Edge)) :=
  (waits_right n p0).bind fun y1 =>
  cond (!y1)
    (some (190, ([] : List Edge)))
    ((waits_without n p0 p1).bind fun y2 =>
    some (0, y2))
@[reducible] def waits_Without_ct : Ct tab := ⟨19, [.one (.d (.sl (.st 0))), .one (.d (.int .i64))], [], [.one (.own 0), .one (.d (.int .i64))], [(none, .row 45 (.st 0))], (Int × (List Edge)), fun y => (y.1, y.2, ()), fun y => (y.1, y.2.1), fun _ => rfl, fun n x => waits_Without n x.1 x.2.1⟩
theorem waits_Without_ok : OkC Try.prog tab waits_Without_ct := fn_ok (W := ⟨Try.prog, tab, tyOf, [waits_right_ct, waits_without_ct], addO, dpO, false⟩) ⟨tabOk, ⟨waits_right_ok, waits_without_ok, trivial⟩, addOk⟩ (by kernel_rfl) 12 Try.f19 (.n) Try.func19 Try.call19 rfl (by kernel_rfl) (by kernel_rfl) (by kernel_rfl) fun n x => by kernel_rfl

/-! bursary waits.Leads -/
def waits_Leads (n : Nat) (p0 : List Edge) (p1 : Int) (p2 : Int) : Option Bool :=
  (waits_right n p0).bind fun y1 =>
  jn (fun (b2 : Bool) =>
      some b2) fun k3 =>
  cond y1
    ((waits_reached n p0 p1).bind fun y4 =>
    (mlook .i64 false y4 p2).bind fun w5 =>
    k3 w5)
    (k3 false)
@[reducible] def waits_Leads_ct : Ct tab := ⟨18, [.one (.d (.sl (.st 0))), .one (.d (.int .i64)), .one (.d (.int .i64))], [], [.one (.d .bool)], [], Bool, fun y => (y, ()), fun y => y.1, fun _ => rfl, fun n x => waits_Leads n x.1 x.2.1 x.2.2.1⟩
theorem waits_Leads_ok : OkC Try.prog tab waits_Leads_ct := fn_ok (W := ⟨Try.prog, tab, tyOf, [waits_right_ct, waits_reached_ct], addO, dpO, false⟩) ⟨tabOk, ⟨waits_right_ok, waits_reached_ok, trivial⟩, addOk⟩ (by kernel_rfl) 16 Try.f18 (.n) Try.func18 Try.call18 rfl (by kernel_rfl) (by kernel_rfl) (by kernel_rfl) fun n x => by kernel_rfl

/-! bursary bursarylaw09.WaitsYoungest -/
def law09_WaitsYoungest_l3 (n : Nat) (r2 : Int × (List Edge) × Int × Int × Int × Int × Int × (List Int) × (List (List Int)) × Unit → Option Bool) : Nat → Int × (List Edge) × Int × Int × Int × Int × Int × (List Int) × Int × Int × (List Int) × (List (List Int)) × Unit → Option Bool := loopF fun r3 ⟨v28, v29, v30, v31, v32, v33, v34, v35, v36, v37, v38, v39, _⟩ =>
    cond (decide (v37 < v36))
      ((idx v35 v37).bind fun x40 =>
      cond (decide (x40 > v30))
        (some false)
        (r3 (v28, v29, v30, v31, v32, v33, v34, v35, v36, (IntKind.wrap .i64 (v37 + 1)), v38, v39, ())))
      (r2 (v28, v29, v30, v31, v32, v33, (IntKind.wrap .i64 (v34 + 1)), v38, v39, ()))
def law09_WaitsYoungest_l2 (n : Nat) (r1 : Int × (List Edge) × Int × Int × (List Int) × Unit → Option Bool) : Nat → Int × (List Edge) × Int × Int × Int × Int × Int × (List Int) × (List (List Int)) × Unit → Option Bool := loopF fun r2 ⟨v17, v18, v19, v20, v21, v22, v23, v24, v25, _⟩ =>
    cond (decide (v23 < v22))
      ((idx v25 v23).bind fun x26 =>
      (idx v25 v23).bind fun x27 =>
      law09_WaitsYoungest_l3 n r2 n (v17, v18, v19, v20, v21, v22, v23, x27, (x27.length : Int), 0, v24, v25, ()))
      ((waits_Without n v18 v19).bind fun y41 =>
      cond (y41.1 != 0)
        (some false)
        (r1 (v17, y41.2, v20, (IntKind.wrap .i64 (v21 + 1)), v24, ())))
def law09_WaitsYoungest_l1 (n : Nat) : Nat → Int × (List Edge) × Int × Int × (List Int) × Unit → Option Bool := loopF fun r1 ⟨v5, v6, v7, v8, v9, _⟩ =>
    cond (decide (v8 < v7))
      ((idx v9 v8).bind fun x10 =>
      (idx v9 v8).bind fun x11 =>
      (waits_Cycles n v6 x11).bind fun y12 =>
      jn (fun (b13 : Bool) =>
          jn (fun (b15 : Bool) =>
              cond b15
                (some false)
                (law09_WaitsYoungest_l2 n r1 n (v5, v6, x11, v7, v8, (y12.2.length : Int), 0, v9, y12.2, ()))) fun k16 =>
          cond b13
            (k16 true)
            (jn (fun (b42 : Bool) =>
                k16 b42) fun k43 =>
            cond (x11 != v5)
              ((waits_Leads n v6 v5 x11).bind fun y44 =>
              jn (fun (b45 : Bool) =>
                  k43 b45) fun k46 =>
              cond (!y44)
                (k46 true)
                ((waits_Leads n v6 x11 v5).bind fun y47 =>
                k46 (!y47)))
              (k43 false))) fun k14 =>
      cond (y12.1 != 0)
        (k14 true)
        (k14 ((y12.2.length : Int) == 0)))
      ((waits_Cycles n v6 v5).bind fun y48 =>
      jn (fun (b49 : Bool) =>
          some b49) fun k50 =>
      cond (y48.1 == 0)
        (k50 ((y48.2.length : Int) == 0))
        (k50 false))
def law09_WaitsYoungest (n : Nat) (p0 : List Edge) (p1 : Int) : Option Bool :=
  (law09_wakes n).bind fun y1 =>
  cond (!y1)
    (some false)
    (cond (decide ((p0.length : Int) > 80))
      (some true)
      ((waits_Break n p0 p1).bind fun y2 =>
      cond (y2.1 != 0)
        (jn (fun (b3 : Bool) =>
            some b3) fun k4 =>
        cond ((y2.2.1.length : Int) == 0)
          (k4 ((y2.2.2.length : Int) == 0))
          (k4 false))
        (law09_WaitsYoungest_l1 n n (p1, p0, (y2.2.1.length : Int), 0, y2.2.1, ()))))
@[reducible] def law09_WaitsYoungest_ct : Ct tab := ⟨5, [.one (.d (.sl (.st 0))), .one (.d (.int .i64))], [], [.one (.d .bool)], [], Bool, fun y => (y, ()), fun y => y.1, fun _ => rfl, fun n x => law09_WaitsYoungest n x.1 x.2.1⟩
theorem law09_WaitsYoungest_ok : OkC Try.prog tab law09_WaitsYoungest_ct := fn_ok (W := ⟨Try.prog, tab, tyOf, [law09_wakes_ct, waits_Break_ct, waits_Cycles_ct, waits_Without_ct, waits_Leads_ct], addO, dpO, false⟩) ⟨tabOk, ⟨law09_wakes_ok, waits_Break_ok, waits_Cycles_ok, waits_Without_ok, waits_Leads_ok, trivial⟩, addOk⟩ (by kernel_rfl) 120 Try.f5 (.sq (.n) (.sq (.n) (.sq (.n) (.sq (.n) (.sq (.n) (.sq (.n) (.sq (.sq (.n) (.bk none (.lp ⟨[(1, .one (.d (.int .i64))), (8, .one (.d (.sl (.st 0)))), (42, .one (.own 0)), (43, .one (.d (.int .i64))), (44, .one (.d (.int .i64)))], [.row 3 (.int .i64)], []⟩ (.sq (.n) (.sq (.n) (.sq (.bk none (.sq (.n) (.sq (.n) (.sq (.n) (.sq (.sq (.n) (.bk none (.lp ⟨[(1, .one (.d (.int .i64))), (8, .one (.d (.sl (.st 0)))), (10, .one (.d (.int .i64))), (42, .one (.own 0)), (43, .one (.d (.int .i64))), (44, .one (.d (.int .i64))), (80, .one (.own 1)), (81, .one (.d (.int .i64))), (82, .one (.d (.int .i64)))], [.row 3 (.int .i64), .row 24 (.sl (.int .i64))], []⟩ (.sq (.n) (.sq (.n) (.sq (.bk none (.sq (.n) (.sq (.n) (.bk none (.lp ⟨[(1, .one (.d (.int .i64))), (8, .one (.d (.sl (.st 0)))), (10, .one (.d (.int .i64))), (42, .one (.own 0)), (43, .one (.d (.int .i64))), (44, .one (.d (.int .i64))), (80, .one (.own 1)), (81, .one (.d (.int .i64))), (82, .one (.d (.int .i64))), (86, .one (.d (.sl (.int .i64)))), (87, .one (.d (.int .i64))), (88, .one (.d (.int .i64)))], [.row 3 (.int .i64), .row 24 (.sl (.int .i64))], []⟩ (.n)))))) (.n))))))) (.n)))))) (.n))))))) (.n)))))))) Try.func5 Try.call5 rfl (by kernel_rfl) (by kernel_rfl) (by kernel_rfl) fun n x => by kernel_rfl

/-! bursary waits.Bound -/
/-! bursary waits.Check -/
/-! bursary waits.Victim -/
/-! bursary bursarylaw09.WaitsTells -/
/-! slices.Concat   bursary api.Edge bursary api.Edge  -/
end
end Go.Proofs.Ytkfemopgfjooeaa
