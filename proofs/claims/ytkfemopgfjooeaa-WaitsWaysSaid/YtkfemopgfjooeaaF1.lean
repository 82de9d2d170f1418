/- Functions of the program: plain twins and their contracts, printed by program. -/
import Derived.Test.YtkfemopgfjooeaaTypes
import Derived.Test.YtkfemopgfjooeaaF0
namespace Go.Proofs.Ytkfemopgfjooeaa
open Go Go.Bur Go.RowKit
set_option linter.unusedVariables false
set_option linter.unusedSimpArgs false
set_option maxRecDepth 100000
noncomputable section
/-! bursary waits.Cycles -/
def waits_Cycles (n : Nat) (p0 : List Edge) (p1 : Int) : Option (Int × (List (List Int))) :=
  (waits_right n p0).bind fun y1 =>
  cond (!y1)
    (some (190, ([] : List (List Int))))
    ((waits_Cycles_1_c3_self n ([p1] : List Int) p0 p1 ([] : List (List Int))).bind fun y2 =>
    (slices_SortFunc_Lint_f43 n y2.2.2).bind fun y3 =>
    some (0, y3))
@[reducible] def waits_Cycles_ct : Ct tab := ⟨16, [.one (.d (.sl (.st 0))), .one (.d (.int .i64))], [], [.one (.own 0), .one (.d (.int .i64))], [(none, .row 24 (.sl (.int .i64)))], (Int × (List (List Int))), fun y => (y.1, y.2, ()), fun y => (y.1, y.2.1), fun _ => rfl, fun n x => waits_Cycles n x.1 x.2.1⟩
theorem waits_Cycles_ok : OkC Try.prog tab waits_Cycles_ct := fn_ok (W := ⟨Try.prog, tab, tyOf, [waits_right_ct, waits_Cycles_1_c3_self_ct, slices_SortFunc_Lint_f43_ct], addO, dpO, false⟩) ⟨tabOk, ⟨waits_right_ok, waits_Cycles_1_c3_self_ok, slices_SortFunc_Lint_f43_ok, trivial⟩, addOk⟩ (by kernel_rfl) 19 Try.f16 (.sq (.n) (.sq (.n) (.sq (.n) (.sq (.n) (.sq (.n) (.sq (.gs [.nrb 2 0 24 (.sl (.int .i64))] (.n)) (.n))))))) Try.func16 Try.call16 rfl (by kernel_rfl) (by kernel_rfl) (by kernel_rfl) fun n x => by kernel_rfl

/-! bursary waits.Circles 1 -/
def waits_Circles_1 (n : Nat) (p0 : Edge) (p1 : List Edge) : Option Bool :=
  (waits_reached n p1 p0.to).bind fun y1 =>
  (mlook .i64 false y1 p0.from_).bind fun w2 =>
  some w2
@[reducible] def waits_Circles_1_ct : Ct tab := ⟨47, [.st 0, .one (.ro (.sl (.st 0)))], [], [.one (.d .bool)], [], Bool, fun y => (y, ()), fun y => y.1, fun _ => rfl, fun n x => waits_Circles_1 n x.1 x.2.1⟩
theorem waits_Circles_1_ok : OkC Try.prog tab waits_Circles_1_ct := fn_ok (W := ⟨Try.prog, tab, tyOf, [waits_reached_ct], addO, dpO, false⟩) ⟨tabOk, ⟨waits_reached_ok, trivial⟩, addOk⟩ (by kernel_rfl) 11 Try.f47 (.n) Try.func47 Try.call47 rfl (by kernel_rfl) (by kernel_rfl) (by kernel_rfl) fun n x => by kernel_rfl

/-! slices.IndexFunc   bursary api.Edge bursary api.Edge  -/
def slices_IndexFunc_Edge_f47_l1 (n : Nat) : Nat → (List Edge) × (List Edge) × Int × Int × Unit → Option Int := loopF fun r1 ⟨v1, v2, v3, v4, _⟩ =>
    cond (decide (v4 < v3))
      ((idx v1 v4).bind fun x5 =>
      (waits_Circles_1 n x5 v2).bind fun y6 =>
      cond y6
        (some v4)
        (r1 (v1, v2, v3, (IntKind.wrap .i64 (v4 + 1)), ())))
      (some (-1))
def slices_IndexFunc_Edge_f47 (n : Nat) (p0 : List Edge) (p1 : List Edge) : Option Int :=
  slices_IndexFunc_Edge_f47_l1 n n (p0, p1, (p0.length : Int), 0, ())
@[reducible] def slices_IndexFunc_Edge_f47_ct : Ct tab := ⟨63, [.one (.d (.sl (.st 0))), .one (.fn 47 [.ro (.sl (.st 0))])], [], [.one (.d (.int .i64))], [], Int, fun y => (y, ()), fun y => y.1, fun _ => rfl, fun n x => slices_IndexFunc_Edge_f47 n x.1 x.2.1⟩
theorem slices_IndexFunc_Edge_f47_ok : OkC Try.prog tab slices_IndexFunc_Edge_f47_ct := fn_ok (W := ⟨Try.prog, tab, tyOf, [waits_Circles_1_ct], addO, dpO, false⟩) ⟨tabOk, ⟨waits_Circles_1_ok, trivial⟩, addOk⟩ (by kernel_rfl) 19 Try.f63 (.sq (.n) (.sq (.sq (.n) (.bk none (.lp ⟨[(0, .one (.d (.sl (.st 0)))), (1, .one (.fn 47 [.ro (.sl (.st 0))])), (7, .one (.d (.int .i64))), (8, .one (.d (.int .i64)))], [], []⟩ (.n)))) (.n))) Try.func63 Try.call63 rfl (by kernel_rfl) (by kernel_rfl) (by kernel_rfl) fun n x => by kernel_rfl

/-! slices.ContainsFunc   bursary api.Edge bursary api.Edge  -/
def slices_ContainsFunc_Edge_f47 (n : Nat) (p0 : List Edge) (p1 : List Edge) : Option Bool :=
  (slices_IndexFunc_Edge_f47 n p0 p1).bind fun y1 =>
  some (decide (y1 ≥ 0))
@[reducible] def slices_ContainsFunc_Edge_f47_ct : Ct tab := ⟨46, [.one (.d (.sl (.st 0))), .one (.fn 47 [.ro (.sl (.st 0))])], [], [.one (.d .bool)], [], Bool, fun y => (y, ()), fun y => y.1, fun _ => rfl, fun n x => slices_ContainsFunc_Edge_f47 n x.1 x.2.1⟩
theorem slices_ContainsFunc_Edge_f47_ok : OkC Try.prog tab slices_ContainsFunc_Edge_f47_ct := fn_ok (W := ⟨Try.prog, tab, tyOf, [slices_IndexFunc_Edge_f47_ct], addO, dpO, false⟩) ⟨tabOk, ⟨slices_IndexFunc_Edge_f47_ok, trivial⟩, addOk⟩ (by kernel_rfl) 9 Try.f46 (.n) Try.func46 Try.call46 rfl (by kernel_rfl) (by kernel_rfl) (by kernel_rfl) fun n x => by kernel_rfl

/-! bursary waits.Circles -/
def waits_Circles (n : Nat) (p0 : List Edge) : Option Bool :=
  (waits_right n p0).bind fun y1 =>
  jn (fun (b2 : Bool) =>
      some b2) fun k3 =>
  cond y1
    ((slices_ContainsFunc_Edge_f47 n p0 p0).bind fun y4 =>
    k3 y4)
    (k3 false)
@[reducible] def waits_Circles_ct : Ct tab := ⟨23, [.one (.d (.sl (.st 0)))], [], [.one (.d .bool)], [], Bool, fun y => (y, ()), fun y => y.1, fun _ => rfl, fun n x => waits_Circles n x.1⟩
theorem waits_Circles_ok : OkC Try.prog tab waits_Circles_ct := fn_ok (W := ⟨Try.prog, tab, tyOf, [waits_right_ct, slices_ContainsFunc_Edge_f47_ct], addO, dpO, false⟩) ⟨tabOk, ⟨waits_right_ok, slices_ContainsFunc_Edge_f47_ok, trivial⟩, addOk⟩ (by kernel_rfl) 10 Try.f23 (.n) Try.func23 Try.call23 rfl (by kernel_rfl) (by kernel_rfl) (by kernel_rfl) fun n x => by kernel_rfl

/-! bursary bursarylaw09.wakes -/
def law09_wakes (n : Nat) : Option Bool :=
  (law09_some n).bind fun y1 =>
  (waits_Break n y1 2).bind fun y2 =>
  (law09_some n).bind fun y3 =>
  (waits_Cycles n y3 2).bind fun y4 =>
  jn (fun (b5 : Bool) =>
      jn (fun (b7 : Bool) =>
          jn (fun (b9 : Bool) =>
              jn (fun (b11 : Bool) =>
                  jn (fun (b13 : Bool) =>
                      jn (fun (b15 : Bool) =>
                          jn (fun (b17 : Bool) =>
                              some b17) fun k18 =>
                          cond b15
                            ((law09_some n).bind fun y19 =>
                            (waits_Circles n y19).bind fun y20 =>
                            k18 y20)
                            (k18 false)) fun k16 =>
                      cond b13
                        (k16 ((y4.2.length : Int) == 2))
                        (k16 false)) fun k14 =>
                  cond b11
                    (k14 ((y2.2.2.length : Int) == 0))
                    (k14 false)) fun k12 =>
              cond b9
                ((idx y2.2.1 1).bind fun x21 =>
                (idx y2.2.1 1).bind fun x22 =>
                k12 (x22 == 2))
                (k12 false)) fun k10 =>
          cond b7
            ((idx y2.2.1 0).bind fun x23 =>
            (idx y2.2.1 0).bind fun x24 =>
            k10 (x24 == 3))
            (k10 false)) fun k8 =>
      cond b5
        (k8 ((y2.2.1.length : Int) == 2))
        (k8 false)) fun k6 =>
  cond (y2.1 == 0)
    (k6 (y4.1 == 0))
    (k6 false)
@[reducible] def law09_wakes_ct : Ct tab := ⟨10, [], [], [.one (.d .bool)], [], Bool, fun y => (y, ()), fun y => y.1, fun _ => rfl, fun n x => law09_wakes n⟩
theorem law09_wakes_ok : OkC Try.prog tab law09_wakes_ct := fn_ok (W := ⟨Try.prog, tab, tyOf, [law09_some_ct, waits_Break_ct, waits_Cycles_ct, waits_Circles_ct], addO, dpO, false⟩) ⟨tabOk, ⟨law09_some_ok, waits_Break_ok, waits_Cycles_ok, waits_Circles_ok, trivial⟩, addOk⟩ (by kernel_rfl) 54 Try.f10 (.n) Try.func10 Try.call10 rfl (by kernel_rfl) (by kernel_rfl) (by kernel_rfl) fun n x => by kernel_rfl

/-! bursary bursaryref09.Same -/
/-! bursary bursaryref09.before -/
/-! bursary bursaryref09.with -/
def ref09_with_j3 (n : Nat) (r1 : (List Int) × Int × Bool × Int × (List Int) × Unit → Option ((List Int))) : (List Int) × Int × Bool × Int × (List Int) × Unit → Option ((List Int)) := fun ⟨v15, v16, v17, v18, v19, _⟩ =>
    (idx v15 v18).bind fun x20 =>
    (app 8 v19 ([x20] : List Int)).bind fun l21 =>
    r1 (v15, v16, v17, (IntKind.wrap .i64 (v18 + 1)), l21, ())
def ref09_with_j2 (n : Nat) (r1 : (List Int) × Int × Bool × Int × (List Int) × Unit → Option ((List Int))) : (List Int) × Int × Bool × Int × (List Int) × Unit → Option ((List Int)) := fun ⟨v7, v8, v9, v10, v11, _⟩ =>
    jn (fun (b12 : Bool) =>
        jn (ref09_with_j3 n r1) fun j3 =>
        cond b12
          ((app 8 v11 ([v8] : List Int)).bind fun l22 =>
          j3 (v7, v8, true, v10, l22, ()))
          (j3 (v7, v8, v9, v10, v11, ()))) fun k13 =>
    cond (!v9)
      ((idx v7 v10).bind fun x23 =>
      k13 (decide (v8 < x23)))
      (k13 false)
def ref09_with_j4 (n : Nat) : (List Int) × Unit → Option ((List Int)) := fun ⟨v25, _⟩ =>
    some v25
def ref09_with_l1 (n : Nat) : Nat → (List Int) × Int × Bool × Int × (List Int) × Unit → Option ((List Int)) := loopF fun r1 ⟨v1, v2, v3, v4, v5, _⟩ =>
    cond (decide (v4 < (v1.length : Int)))
      ((idx v1 v4).bind fun x6 =>
      jn (ref09_with_j2 n r1) fun j2 =>
      cond (x6 == v2)
        (j2 (v1, v2, true, v4, v5, ()))
        (j2 (v1, v2, v3, v4, v5, ())))
      (jn (ref09_with_j4 n) fun j4 =>
      cond (!v3)
        ((app 8 v5 ([v2] : List Int)).bind fun l26 =>
        j4 (l26, ()))
        (j4 (v5, ())))
def ref09_with (n : Nat) (p0 : List Int) (p1 : Int) : Option ((List Int)) :=
  ref09_with_l1 n n (p0, p1, false, 0, ([] : List Int), ())
/-! bursary bursaryref09.Names -/
/-! bursary bursaryref09.Right -/
/-! bursary bursaryref09.in -/
def ref09_in_l1 (n : Nat) : Nat → (List Int) × Int × Int × Unit → Option Bool := loopF fun r1 ⟨v1, v2, v3, _⟩ =>
    cond (decide (v3 < (v1.length : Int)))
      ((idx v1 v3).bind fun x4 =>
      cond (x4 == v2)
        (some true)
        (r1 (v1, v2, (IntKind.wrap .i64 (v3 + 1)), ())))
      (some false)
def ref09_in (n : Nat) (p0 : List Int) (p1 : Int) : Option Bool :=
  ref09_in_l1 n n (p0, p1, 0, ())
/-! bursary bursaryref09.Reach -/
def ref09_Reach_j3 (n : Nat) (r2 : (List Edge) × Int × Int × Int × (List Int) × Unit → Option ((List Int))) : (List Edge) × Int × Int × Int × (List Int) × Unit → Option ((List Int)) := fun ⟨v15, v16, v17, v18, v19, _⟩ =>
    r2 (v15, v16, v17, (IntKind.wrap .i64 (v18 + 1)), v19, ())
def ref09_Reach_l2 (n : Nat) (r1 : (List Edge) × Int × Int × (List Int) × Unit → Option ((List Int))) : Nat → (List Edge) × Int × Int × Int × (List Int) × Unit → Option ((List Int)) := loopF fun r2 ⟨v5, v6, v7, v8, v9, _⟩ =>
    cond (decide (v8 < (v5.length : Int)))
      ((idx v5 v8).bind fun x10 =>
      jn (fun (b11 : Bool) =>
          jn (ref09_Reach_j3 n r2) fun j3 =>
          cond b11
            ((idx v5 v8).bind fun x20 =>
            (ref09_with n v9 x20.to).bind fun y21 =>
            j3 (v5, v6, v7, v8, y21, ()))
            (j3 (v5, v6, v7, v8, v9, ()))) fun k12 =>
      cond (x10.from_ == v6)
        (k12 true)
        ((idx v5 v8).bind fun x22 =>
        (ref09_in n v9 x22.from_).bind fun y23 =>
        k12 y23))
      (r1 (v5, v6, (IntKind.wrap .i64 (v7 + 1)), v9, ()))
def ref09_Reach_l1 (n : Nat) : Nat → (List Edge) × Int × Int × (List Int) × Unit → Option ((List Int)) := loopF fun r1 ⟨v1, v2, v3, v4, _⟩ =>
    cond (decide (v3 < 9))
      (ref09_Reach_l2 n r1 n (v1, v2, v3, 0, v4, ()))
      (some v4)
def ref09_Reach (n : Nat) (p0 : List Edge) (p1 : Int) : Option ((List Int)) :=
  ref09_Reach_l1 n n (p0, p1, 0, ([] : List Int), ())
/-! bursary bursaryref09.Bound -/
def ref09_Bound_j2 (n : Nat) (r1 : (List Edge) × Int × Int × (List Int) × (List Int) × Unit → Option ((List Int))) : (List Edge) × Int × Int × (List Int) × (List Int) × Unit → Option ((List Int)) := fun ⟨v14, v15, v16, v17, v18, _⟩ =>
    r1 (v14, v15, (IntKind.wrap .i64 (v16 + 1)), v17, v18, ())
def ref09_Bound_l1 (n : Nat) : Nat → (List Edge) × Int × Int × (List Int) × (List Int) × Unit → Option ((List Int)) := loopF fun r1 ⟨v2, v3, v4, v5, v6, _⟩ =>
    cond (decide (v4 < (v6.length : Int)))
      ((idx v6 v4).bind fun x7 =>
      (idx v6 v4).bind fun x8 =>
      (ref09_Reach n v2 x8).bind fun y9 =>
      (ref09_in n y9 v3).bind fun y10 =>
      jn (ref09_Bound_j2 n r1) fun j2 =>
      cond y10
        ((idx v6 v4).bind fun x19 =>
        (idx v6 v4).bind fun x20 =>
        (app 8 v5 ([x20] : List Int)).bind fun l21 =>
        j2 (v2, v3, v4, l21, v6, ()))
        (j2 (v2, v3, v4, v5, v6, ())))
      (some v5)
def ref09_Bound (n : Nat) (p0 : List Edge) (p1 : Int) : Option ((List Int)) :=
  (ref09_Reach n p0 p1).bind fun y1 =>
  ref09_Bound_l1 n n (p0, p1, 0, ([] : List Int), y1, ())
/-! bursary bursaryref09.Victim -/
def ref09_Victim (n : Nat) (p0 : List Edge) (p1 : Int) : Option Int :=
  (ref09_Bound n p0 p1).bind fun y1 =>
  cond ((y1.length : Int) == 0)
    (some 0)
    ((idx y1 (IntKind.wrap .i64 ((y1.length : Int) - 1))).bind fun x2 =>
    (idx y1 (IntKind.wrap .i64 ((y1.length : Int) - 1))).bind fun x3 =>
    some x3)
/-! bursary bursaryref09.Without -/
def ref09_Without_j2 (n : Nat) (r1 : (List Edge) × Int × Int × (List Edge) × Unit → Option ((List Edge))) : (List Edge) × Int × Int × (List Edge) × Unit → Option ((List Edge)) := fun ⟨v10, v11, v12, v13, _⟩ =>
    r1 (v10, v11, (IntKind.wrap .i64 (v12 + 1)), v13, ())
def ref09_Without_l1 (n : Nat) : Nat → (List Edge) × Int × Int × (List Edge) × Unit → Option ((List Edge)) := loopF fun r1 ⟨v1, v2, v3, v4, _⟩ =>
    cond (decide (v3 < (v1.length : Int)))
      ((idx v1 v3).bind fun x5 =>
      jn (fun (b6 : Bool) =>
          jn (ref09_Without_j2 n r1) fun j2 =>
          cond b6
            ((idx v1 v3).bind fun x14 =>
            (app 16 v4 ([x14] : List Edge)).bind fun l15 =>
            j2 (v1, v2, v3, l15, ()))
            (j2 (v1, v2, v3, v4, ()))) fun k7 =>
      cond (x5.from_ != v2)
        ((idx v1 v3).bind fun x16 =>
        k7 (x16.to != v2))
        (k7 false))
      (some v4)
def ref09_Without (n : Nat) (p0 : List Edge) (p1 : Int) : Option ((List Edge)) :=
  ref09_Without_l1 n n (p0, p1, 0, ([] : List Edge), ())
/-! bursary bursaryref09.Break -/
def ref09_Break_j1 (n : Nat) : (List Edge) × (List Int) × Unit → Option ((List Edge) × (List Int)) := fun ⟨v8, v9, _⟩ =>
    some (v8, v9)
def ref09_Break_l2 (n : Nat) (j1 : (List Edge) × (List Int) × Unit → Option ((List Edge) × (List Int))) : Nat → (List Edge) × Int × Int × (List Int) × Unit → Option ((List Edge) × (List Int)) := loopF fun r2 ⟨v10, v11, v12, v13, _⟩ =>
    cond (decide (v12 < 9))
      ((ref09_Victim n v10 v11).bind fun y14 =>
      cond (y14 == 0)
        (j1 (v10, v13, ()))
        ((app 8 v13 ([y14] : List Int)).bind fun l15 =>
        (ref09_Without n v10 y14).bind fun y16 =>
        r2 (y16, v11, (IntKind.wrap .i64 (v12 + 1)), l15, ())))
      (j1 (v10, v13, ()))
def ref09_Break (n : Nat) (p0 : List Edge) (p1 : Int) : Option ((List Edge) × (List Int)) :=
  jn (ref09_Break_j1 n) fun j1 =>
  ref09_Break_l2 n j1 n (p0, p1, 0, ([] : List Int), ())
/-! bursary bursaryref09.SameInts -/
/-! bursary bursarylaw09.WaitsBreaks -/
/-! bursary bursaryref09.Cycles -/
/-! bursary bursarylaw09.WaitsCycles -/
/-! bursary waits.Without -/
/-! bursary waits.Leads -/
def waits_Leads (n : Nat) (p0 : List Edge) (p1 : Int) (p2 : Int) : Option Bool :=
  (waits_right n p0).bind fun y1 =>
  jn (fun (b2 : Bool) =>
      some b2) fun k3 =>
  cond y1
    ((waits_reached n p0 p1).bind fun y4 =>
    (mlook .i64 false y4 p2).bind fun w5 =>
    k3 w5)
    (k3 false)
@[reducible] def waits_Leads_ct : Ct tab := ⟨18, [.one (.d (.sl (.st 0))), .one (.d (.int .i64)), .one (.d (.int .i64))], [], [.one (.d .bool)], [], Bool, fun y => (y, ()), fun y => y.1, fun _ => rfl, fun n x => waits_Leads n x.1 x.2.1 x.2.2.1⟩
theorem waits_Leads_ok : OkC Try.prog tab waits_Leads_ct := fn_ok (W := ⟨Try.prog, tab, tyOf, [waits_right_ct, waits_reached_ct], addO, dpO, false⟩) ⟨tabOk, ⟨waits_right_ok, waits_reached_ok, trivial⟩, addOk⟩ (by kernel_rfl) 16 Try.f18 (.n) Try.func18 Try.call18 rfl (by kernel_rfl) (by kernel_rfl) (by kernel_rfl) fun n x => by kernel_rfl

/-! bursary bursarylaw09.WaitsYoungest -/
/-! bursary waits.Bound -/
def waits_Bound (n : Nat) (p0 : List Edge) (p1 : Int) : Option (Int × (List Int)) :=
  (waits_right n p0).bind fun y1 =>
  cond (!y1)
    (some (190, ([] : List Int)))
    ((waits_bound n p0 p1).bind fun y2 =>
    some (0, y2))
@[reducible] def waits_Bound_ct : Ct tab := ⟨20, [.one (.d (.sl (.st 0))), .one (.d (.int .i64))], [], [.one (.own 0), .one (.d (.int .i64))], [(none, .row 3 (.int .i64))], (Int × (List Int)), fun y => (y.1, y.2, ()), fun y => (y.1, y.2.1), fun _ => rfl, fun n x => waits_Bound n x.1 x.2.1⟩
theorem waits_Bound_ok : OkC Try.prog tab waits_Bound_ct := fn_ok (W := ⟨Try.prog, tab, tyOf, [waits_right_ct, waits_bound_ct], addO, dpO, false⟩) ⟨tabOk, ⟨waits_right_ok, waits_bound_ok, trivial⟩, addOk⟩ (by kernel_rfl) 12 Try.f20 (.n) Try.func20 Try.call20 rfl (by kernel_rfl) (by kernel_rfl) (by kernel_rfl) fun n x => by kernel_rfl

/-! bursary bursarylaw09.WaitsWays -/
def law09_WaitsWays_l3 (n : Nat) (r2 : (List Edge) × Int × Int × Int × (List (List Int)) × (List Int) × (List (Edge × Bool)) × Unit → Option Bool) : Nat → (List Edge) × Int × (List Int) × Int × Int × (List Int) × Int × Int × (List (List Int)) × (List Int) × (List (Edge × Bool)) × (List (Int × Bool)) × Unit → Option Bool := loopF fun r3 ⟨v25, v26, v27, v28, v29, v30, v31, v32, v33, v34, v35, v36, _⟩ =>
    cond (decide (v32 < v31))
      ((idx v30 v32).bind fun x37 =>
      (mlook .i64 false v36 x37).bind fun w38 =>
      jn (fun (b39 : Bool) =>
          cond b39
            (some false)
            ((mput .i64 v36 x37 true).bind fun l41 =>
            r3 (v25, v26, v27, v28, v29, v30, v31, (IntKind.wrap .i64 (v32 + 1)), v33, v34, v35, l41, ()))) fun k40 =>
      cond w38
        (k40 true)
        ((remP (IntKind.wrap .i64 (v32 + 1)) (v27.length : Int)).bind fun z42 =>
        (idx v27 z42).bind fun x43 =>
        (some (orZ false (dget (dkEq tab (.st 0)) v35 (Edge.mk x37 x43)))).bind fun w44 =>
        k40 (!w44)))
      (jn (fun (b45 : Bool) =>
          cond b45
            (some false)
            (r2 (v25, v26, v28, (IntKind.wrap .i64 (v29 + 1)), v33, v34, v35, ()))) fun k46 =>
      cond (decide ((v27.length : Int) < 2))
        (k46 true)
        ((idx v27 0).bind fun x47 =>
        k46 (x47 != v26)))
def law09_WaitsWays_l4 (n : Nat) : Nat → (List Edge) × Int × Bool × Int × Int × (List (List Int)) × (List Int) × Unit → Option Bool := loopF fun r4 ⟨v48, v49, v50, v51, v52, v53, v54, _⟩ =>
    cond (decide (v52 < v51))
      ((idx v54 v52).bind fun x55 =>
      (idx v54 v52).bind fun x56 =>
      jn (fun (b57 : Bool) =>
          (waits_Leads n v48 v49 x56).bind fun y59 =>
          jn (fun (b60 : Bool) =>
              cond b60
                (some false)
                (r4 (v48, v49, b57, v51, (IntKind.wrap .i64 (v52 + 1)), v53, v54, ()))) fun k61 =>
          cond (!y59)
            (k61 true)
            ((waits_Leads n v48 x56 v49).bind fun y62 =>
            k61 (!y62))) fun k58 =>
      cond v50
        (k58 true)
        (k58 (x56 == v49)))
      (jn (fun (b63 : Bool) =>
          some b63) fun k64 =>
      cond (v50 == (decide ((v53.length : Int) > 0)))
        (k64 (v50 == (decide ((v54.length : Int) > 0))))
        (k64 false))
def law09_WaitsWays_l2 (n : Nat) : Nat → (List Edge) × Int × Int × Int × (List (List Int)) × (List Int) × (List (Edge × Bool)) × Unit → Option Bool := loopF fun r2 ⟨v16, v17, v18, v19, v20, v21, v22, _⟩ =>
    cond (decide (v19 < v18))
      ((idx v20 v19).bind fun x23 =>
      (idx v20 v19).bind fun x24 =>
      law09_WaitsWays_l3 n r2 n (v16, v17, x24, v18, v19, x24, (x24.length : Int), 0, v20, v21, v22, ([] : List (Int × Bool)), ()))
      (law09_WaitsWays_l4 n n (v16, v17, false, (v21.length : Int), 0, v20, v21, ()))
def law09_WaitsWays_l1 (n : Nat) : Nat → (List Edge) × Int × (List Edge) × Int × Int × (List (List Int)) × (List Int) × (List (Edge × Bool)) × Unit → Option Bool := loopF fun r1 ⟨v6, v7, v8, v9, v10, v11, v12, v13, _⟩ =>
    cond (decide (v10 < v9))
      ((idx v8 v10).bind fun x14 =>
      (some (dput (dkEq tab (.st 0)) v13 x14 true)).bind fun l15 =>
      r1 (v6, v7, v8, v9, (IntKind.wrap .i64 (v10 + 1)), v11, v12, l15, ()))
      (law09_WaitsWays_l2 n n (v6, v7, (v11.length : Int), 0, v11, v12, v13, ()))
def law09_WaitsWays (n : Nat) (p0 : List Edge) (p1 : Int) : Option Bool :=
  (law09_wakes n).bind fun y1 =>
  cond (!y1)
    (some false)
    (cond (decide ((p0.length : Int) > 80))
      (some true)
      ((waits_Cycles n p0 p1).bind fun y2 =>
      (waits_Bound n p0 p1).bind fun y3 =>
      cond (y2.1 != y3.1)
        (some false)
        (cond (y2.1 != 0)
          (jn (fun (b4 : Bool) =>
              some b4) fun k5 =>
          cond ((y2.2.length : Int) == 0)
            (k5 ((y3.2.length : Int) == 0))
            (k5 false))
          (law09_WaitsWays_l1 n n (p0, p1, p0, (p0.length : Int), 0, y2.2, y3.2, ([] : List (Edge × Bool)), ())))))
@[reducible] def law09_WaitsWays_ct : Ct tab := ⟨6, [.one (.d (.sl (.st 0))), .one (.d (.int .i64))], [], [.one (.d .bool)], [], Bool, fun y => (y, ()), fun y => y.1, fun _ => rfl, fun n x => law09_WaitsWays n x.1 x.2.1⟩
theorem law09_WaitsWays_ok : OkC Try.prog tab law09_WaitsWays_ct := fn_ok (W := ⟨Try.prog, tab, tyOf, [law09_wakes_ct, waits_Cycles_ct, waits_Bound_ct, waits_Leads_ct], addO, dpO, false⟩) ⟨tabOk, ⟨law09_wakes_ok, waits_Cycles_ok, waits_Bound_ok, waits_Leads_ok, trivial⟩, addOk⟩ (by kernel_rfl) 143 Try.f6 (.sq (.n) (.sq (.n) (.sq (.n) (.sq (.n) (.sq (.n) (.sq (.n) (.sq (.n) (.sq (.n) (.sq (.sq (.n) (.bk none (.lp ⟨[(0, .one (.d (.sl (.st 0)))), (1, .one (.d (.int .i64))), (5, .one (.own 0)), (7, .one (.own 1)), (9, .one (.map 2)), (51, .one (.d (.sl (.st 0)))), (52, .one (.d (.int .i64))), (53, .one (.d (.int .i64)))], [.row 24 (.sl (.int .i64)), .row 3 (.int .i64), .dmap 45 4 (.st 0) (.bool)], []⟩ (.n)))) (.sq (.sq (.n) (.bk none (.lp ⟨[(0, .one (.d (.sl (.st 0)))), (1, .one (.d (.int .i64))), (5, .one (.own 0)), (7, .one (.own 1)), (9, .one (.map 2)), (60, .one (.own 0)), (61, .one (.d (.int .i64))), (62, .one (.d (.int .i64)))], [.row 24 (.sl (.int .i64)), .row 3 (.int .i64), .dmap 45 4 (.st 0) (.bool)], []⟩ (.sq (.n) (.sq (.n) (.sq (.bk none (.sq (.n) (.sq (.n) (.sq (.sq (.n) (.bk none (.lp ⟨[(0, .one (.d (.sl (.st 0)))), (1, .one (.d (.int .i64))), (5, .one (.own 0)), (7, .one (.own 1)), (9, .one (.map 2)), (13, .one (.d (.sl (.int .i64)))), (14, .one (.map 3)), (60, .one (.own 0)), (61, .one (.d (.int .i64))), (62, .one (.d (.int .i64))), (67, .one (.d (.sl (.int .i64)))), (68, .one (.d (.int .i64))), (69, .one (.d (.int .i64)))], [.row 24 (.sl (.int .i64)), .row 3 (.int .i64), .dmap 45 4 (.st 0) (.bool), .map .i64 3 4 .bool], []⟩ (.n)))) (.n))))) (.n))))))) (.sq (.n) (.sq (.sq (.n) (.bk none (.lp ⟨[(0, .one (.d (.sl (.st 0)))), (1, .one (.d (.int .i64))), (5, .one (.own 0)), (7, .one (.own 1)), (17, .one (.d .bool)), (106, .one (.own 1)), (107, .one (.d (.int .i64))), (108, .one (.d (.int .i64)))], [.row 24 (.sl (.int .i64)), .row 3 (.int .i64)], []⟩ (.n)))) (.n))))))))))))) Try.func6 Try.call6 rfl (by kernel_rfl) (by kernel_rfl) (by kernel_rfl) fun n x => by kernel_rfl

/-! bursary waits.Check -/
/-! bursary waits.Victim -/
/-! bursary bursarylaw09.WaitsTells -/
end
end Go.Proofs.Ytkfemopgfjooeaa
