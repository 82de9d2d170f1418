/- Functions of the program: plain twins and their contracts, printed by program. -/
import Derived.Test.YtkfemopgfjooeaaTypes
import Derived.Test.YtkfemopgfjooeaaF0
namespace Go.Proofs.Ytkfemopgfjooeaa
open Go Go.Bur Go.RowKit
set_option linter.unusedVariables false
set_option linter.unusedSimpArgs false
set_option maxRecDepth 100000
noncomputable section
/-! bursary waits.Cycles -/
def waits_Cycles (n : Nat) (p0 : List Edge) (p1 : Int) : Option (Int × (List (List Int))) :=
  (waits_right n p0).bind fun y1 =>
  cond (!y1)
    (some (190, ([] : List (List Int))))
    ((waits_Cycles_1_c3_self n ([p1] : List Int) p0 p1 ([] : List (List Int))).bind fun y2 =>
    (slices_SortFunc_Lint_f43 n y2.2.2).bind fun y3 =>
    some (0, y3))
@[reducible] def waits_Cycles_ct : Ct tab := ⟨16, [.one (.d (.sl (.st 0))), .one (.d (.int .i64))], [], [.one (.own 0), .one (.d (.int .i64))], [(none, .row 24 (.sl (.int .i64)))], (Int × (List (List Int))), fun y => (y.1, y.2, ()), fun y => (y.1, y.2.1), fun _ => rfl, fun n x => waits_Cycles n x.1 x.2.1⟩
theorem waits_Cycles_ok : OkC Try.prog tab waits_Cycles_ct := fn_ok (W := ⟨Try.prog, tab, tyOf, [waits_right_ct, waits_Cycles_1_c3_self_ct, slices_SortFunc_Lint_f43_ct], addO, dpO, false⟩) ⟨tabOk, ⟨waits_right_ok, waits_Cycles_1_c3_self_ok, slices_SortFunc_Lint_f43_ok, trivial⟩, addOk⟩ (by kernel_rfl) 19 Try.f16 (.sq (.n) (.sq (.n) (.sq (.n) (.sq (.n) (.sq (.n) (.sq (.gs [.nrb 2 0 24 (.sl (.int .i64))] (.n)) (.n))))))) Try.func16 Try.call16 rfl (by kernel_rfl) (by kernel_rfl) (by kernel_rfl) fun n x => by kernel_rfl

/-! bursary waits.Circles 1 -/
def waits_Circles_1 (n : Nat) (p0 : Edge) (p1 : List Edge) : Option Bool :=
  (waits_reached n p1 p0.to).bind fun y1 =>
  (mlook .i64 false y1 p0.from_).bind fun w2 =>
  some w2
@[reducible] def waits_Circles_1_ct : Ct tab := ⟨47, [.st 0, .one (.ro (.sl (.st 0)))], [], [.one (.d .bool)], [], Bool, fun y => (y, ()), fun y => y.1, fun _ => rfl, fun n x => waits_Circles_1 n x.1 x.2.1⟩
theorem waits_Circles_1_ok : OkC Try.prog tab waits_Circles_1_ct := fn_ok (W := ⟨Try.prog, tab, tyOf, [waits_reached_ct], addO, dpO, false⟩) ⟨tabOk, ⟨waits_reached_ok, trivial⟩, addOk⟩ (by kernel_rfl) 11 Try.f47 (.n) Try.func47 Try.call47 rfl (by kernel_rfl) (by kernel_rfl) (by kernel_rfl) fun n x => by kernel_rfl

/-! slices.IndexFunc   bursary api.Edge bursary api.Edge  -/
def slices_IndexFunc_Edge_f47_l1 (n : Nat) : Nat → (List Edge) × (List Edge) × Int × Int × Unit → Option Int := loopF fun r1 ⟨v1, v2, v3, v4, _⟩ =>
    cond (decide (v4 < v3))
      ((idx v1 v4).bind fun x5 =>
      (waits_Circles_1 n x5 v2).bind fun y6 =>
      cond y6
        (some v4)
        (r1 (v1, v2, v3, (IntKind.wrap .i64 (v4 + 1)), ())))
      (some (-1))
def slices_IndexFunc_Edge_f47 (n : Nat) (p0 : List Edge) (p1 : List Edge) : Option Int :=
  slices_IndexFunc_Edge_f47_l1 n n (p0, p1, (p0.length : Int), 0, ())
@[reducible] def slices_IndexFunc_Edge_f47_ct : Ct tab := ⟨63, [.one (.d (.sl (.st 0))), .one (.fn 47 [.ro (.sl (.st 0))])], [], [.one (.d (.int .i64))], [], Int, fun y => (y, ()), fun y => y.1, fun _ => rfl, fun n x => slices_IndexFunc_Edge_f47 n x.1 x.2.1⟩
theorem slices_IndexFunc_Edge_f47_ok : OkC Try.prog tab slices_IndexFunc_Edge_f47_ct := fn_ok (W := ⟨Try.prog, tab, tyOf, [waits_Circles_1_ct], addO, dpO, false⟩) ⟨tabOk, ⟨waits_Circles_1_ok, trivial⟩, addOk⟩ (by kernel_rfl) 19 Try.f63 (.sq (.n) (.sq (.sq (.n) (.bk none (.lp ⟨[(0, .one (.d (.sl (.st 0)))), (1, .one (.fn 47 [.ro (.sl (.st 0))])), (7, .one (.d (.int .i64))), (8, .one (.d (.int .i64)))], [], []⟩ (.n)))) (.n))) Try.func63 Try.call63 rfl (by kernel_rfl) (by kernel_rfl) (by kernel_rfl) fun n x => by kernel_rfl

/-! slices.ContainsFunc   bursary api.Edge bursary api.Edge  -/
def slices_ContainsFunc_Edge_f47 (n : Nat) (p0 : List Edge) (p1 : List Edge) : Option Bool :=
  (slices_IndexFunc_Edge_f47 n p0 p1).bind fun y1 =>
  some (decide (y1 ≥ 0))
@[reducible] def slices_ContainsFunc_Edge_f47_ct : Ct tab := ⟨46, [.one (.d (.sl (.st 0))), .one (.fn 47 [.ro (.sl (.st 0))])], [], [.one (.d .bool)], [], Bool, fun y => (y, ()), fun y => y.1, fun _ => rfl, fun n x => slices_ContainsFunc_Edge_f47 n x.1 x.2.1⟩
theorem slices_ContainsFunc_Edge_f47_ok : OkC Try.prog tab slices_ContainsFunc_Edge_f47_ct := fn_ok (W := ⟨Try.prog, tab, tyOf, [slices_IndexFunc_Edge_f47_ct], addO, dpO, false⟩) ⟨tabOk, ⟨slices_IndexFunc_Edge_f47_ok, trivial⟩, addOk⟩ (by kernel_rfl) 9 Try.f46 (.n) Try.func46 Try.call46 rfl (by kernel_rfl) (by kernel_rfl) (by kernel_rfl) fun n x => by kernel_rfl

/-! bursary waits.Circles -/
def waits_Circles (n : Nat) (p0 : List Edge) : Option Bool :=
  (waits_right n p0).bind fun y1 =>
  jn (fun (b2 : Bool) =>
      some b2) fun k3 =>
  cond y1
    ((slices_ContainsFunc_Edge_f47 n p0 p0).bind fun y4 =>
    k3 y4)
    (k3 false)
@[reducible] def waits_Circles_ct : Ct tab := ⟨23, [.one (.d (.sl (.st 0)))], [], [.one (.d .bool)], [], Bool, fun y => (y, ()), fun y => y.1, fun _ => rfl, fun n x => waits_Circles n x.1⟩
theorem waits_Circles_ok : OkC Try.prog tab waits_Circles_ct := fn_ok (W := ⟨Try.prog, tab, tyOf, [waits_right_ct, slices_ContainsFunc_Edge_f47_ct], addO, dpO, false⟩) ⟨tabOk, ⟨waits_right_ok, slices_ContainsFunc_Edge_f47_ok, trivial⟩, addOk⟩ (by kernel_rfl) 10 Try.f23 (.n) Try.func23 Try.call23 rfl (by kernel_rfl) (by kernel_rfl) (by kernel_rfl) fun n x => by kernel_rfl

/-! bursary bursarylaw09.wakes -/
def law09_wakes (n : Nat) : Option Bool :=
  (law09_some n).bind fun y1 =>
  (waits_Break n y1 2).bind fun y2 =>
  (law09_some n).bind fun y3 =>
  (waits_Cycles n y3 2).bind fun y4 =>
  jn (fun (b5 : Bool) =>
      jn (fun (b7 : Bool) =>
          jn (fun (b9 : Bool) =>
              jn (fun (b11 : Bool) =>
                  jn (fun (b13 : Bool) =>
                      jn (fun (b15 : Bool) =>
                          jn (fun (b17 : Bool) =>
                              some b17) fun k18 =>
                          cond b15
                            ((law09_some n).bind fun y19 =>
                            (waits_Circles n y19).bind fun y20 =>
                            k18 y20)
                            (k18 false)) fun k16 =>
                      cond b13
                        (k16 ((y4.2.length : Int) == 2))
                        (k16 false)) fun k14 =>
                  cond b11
                    (k14 ((y2.2.2.length : Int) == 0))
                    (k14 false)) fun k12 =>
              cond b9
                ((idx y2.2.1 1).bind fun x21 =>
                (idx y2.2.1 1).bind fun x22 =>
                k12 (x22 == 2))
                (k12 false)) fun k10 =>
          cond b7
            ((idx y2.2.1 0).bind fun x23 =>
            (idx y2.2.1 0).bind fun x24 =>
            k10 (x24 == 3))
            (k10 false)) fun k8 =>
      cond b5
        (k8 ((y2.2.1.length : Int) == 2))
        (k8 false)) fun k6 =>
  cond (y2.1 == 0)
    (k6 (y4.1 == 0))
    (k6 false)
@[reducible] def law09_wakes_ct : Ct tab := ⟨10, [], [], [.one (.d .bool)], [], Bool, fun y => (y, ()), fun y => y.1, fun _ => rfl, fun n x => law09_wakes n⟩
theorem law09_wakes_ok : OkC Try.prog tab law09_wakes_ct := fn_ok (W := ⟨Try.prog, tab, tyOf, [law09_some_ct, waits_Break_ct, waits_Cycles_ct, waits_Circles_ct], addO, dpO, false⟩) ⟨tabOk, ⟨law09_some_ok, waits_Break_ok, waits_Cycles_ok, waits_Circles_ok, trivial⟩, addOk⟩ (by kernel_rfl) 54 Try.f10 (.n) Try.func10 Try.call10 rfl (by kernel_rfl) (by kernel_rfl) (by kernel_rfl) fun n x => by kernel_rfl

/-! bursary bursaryref09.Same -/
/-! bursary bursaryref09.before -/
/-! bursary bursaryref09.with -/
def ref09_with_j3 (n : Nat) (r1 : (List Int) × Int × Bool × Int × (List Int) × Unit → Option ((List Int))) : (List Int) × Int × Bool × Int × (List Int) × Unit → Option ((List Int)) := fun ⟨v15, v16, v17, v18, v19, _⟩ =>
    (idx v15 v18).bind fun x20 =>
    (app 8 v19 ([x20] : List Int)).bind fun l21 =>
    r1 (v15, v16, v17, (IntKind.wrap .i64 (v18 + 1)), l21, ())
def ref09_with_j2 (n : Nat) (r1 : (List Int) × Int × Bool × Int × (List Int) × Unit → Option ((List Int))) : (List Int) × Int × Bool × Int × (List Int) × Unit → Option ((List Int)) := fun ⟨v7, v8, v9, v10, v11, _⟩ =>
    jn (fun (b12 : Bool) =>
        jn (ref09_with_j3 n r1) fun j3 =>
        cond b12
          ((app 8 v11 ([v8] : List Int)).bind fun l22 =>
          j3 (v7, v8, true, v10, l22, ()))
          (j3 (v7, v8, v9, v10, v11, ()))) fun k13 =>
    cond (!v9)
      ((idx v7 v10).bind fun x23 =>
      k13 (decide (v8 < x23)))
      (k13 false)
def ref09_with_j4 (n : Nat) : (List Int) × Unit → Option ((List Int)) := fun ⟨v25, _⟩ =>
    some v25
def ref09_with_l1 (n : Nat) : Nat → (List Int) × Int × Bool × Int × (List Int) × Unit → Option ((List Int)) := loopF fun r1 ⟨v1, v2, v3, v4, v5, _⟩ =>
    cond (decide (v4 < (v1.length : Int)))
      ((idx v1 v4).bind fun x6 =>
      jn (ref09_with_j2 n r1) fun j2 =>
      cond (x6 == v2)
        (j2 (v1, v2, true, v4, v5, ()))
        (j2 (v1, v2, v3, v4, v5, ())))
      (jn (ref09_with_j4 n) fun j4 =>
      cond (!v3)
        ((app 8 v5 ([v2] : List Int)).bind fun l26 =>
        j4 (l26, ()))
        (j4 (v5, ())))
def ref09_with (n : Nat) (p0 : List Int) (p1 : Int) : Option ((List Int)) :=
  ref09_with_l1 n n (p0, p1, false, 0, ([] : List Int), ())
/-! bursary bursaryref09.Names -/
/-! bursary bursaryref09.Right -/
/-! bursary bursaryref09.in -/
def ref09_in_l1 (n : Nat) : Nat → (List Int) × Int × Int × Unit → Option Bool := loopF fun r1 ⟨v1, v2, v3, _⟩ =>
    cond (decide (v3 < (v1.length : Int)))
      ((idx v1 v3).bind fun x4 =>
      cond (x4 == v2)
        (some true)
        (r1 (v1, v2, (IntKind.wrap .i64 (v3 + 1)), ())))
      (some false)
def ref09_in (n : Nat) (p0 : List Int) (p1 : Int) : Option Bool :=
  ref09_in_l1 n n (p0, p1, 0, ())
/-! bursary bursaryref09.Reach -/
def ref09_Reach_j3 (n : Nat) (r2 : (List Edge) × Int × Int × Int × (List Int) × Unit → Option ((List Int))) : (List Edge) × Int × Int × Int × (List Int) × Unit → Option ((List Int)) := fun ⟨v15, v16, v17, v18, v19, _⟩ =>
    r2 (v15, v16, v17, (IntKind.wrap .i64 (v18 + 1)), v19, ())
def ref09_Reach_l2 (n : Nat) (r1 : (List Edge) × Int × Int × (List Int) × Unit → Option ((List Int))) : Nat → (List Edge) × Int × Int × Int × (List Int) × Unit → Option ((List Int)) := loopF fun r2 ⟨v5, v6, v7, v8, v9, _⟩ =>
    cond (decide (v8 < (v5.length : Int)))
      ((idx v5 v8).bind fun x10 =>
      jn (fun (b11 : Bool) =>
          jn (ref09_Reach_j3 n r2) fun j3 =>
          cond b11
            ((idx v5 v8).bind fun x20 =>
            (ref09_with n v9 x20.to).bind fun y21 =>
            j3 (v5, v6, v7, v8, y21, ()))
            (j3 (v5, v6, v7, v8, v9, ()))) fun k12 =>
      cond (x10.from_ == v6)
        (k12 true)
        ((idx v5 v8).bind fun x22 =>
        (ref09_in n v9 x22.from_).bind fun y23 =>
        k12 y23))
      (r1 (v5, v6, (IntKind.wrap .i64 (v7 + 1)), v9, ()))
def ref09_Reach_l1 (n : Nat) : Nat → (List Edge) × Int × Int × (List Int) × Unit → Option ((List Int)) := loopF fun r1 ⟨v1, v2, v3, v4, _⟩ =>
    cond (decide (v3 < 9))
      (ref09_Reach_l2 n r1 n (v1, v2, v3, 0, v4, ()))
      (some v4)
def ref09_Reach (n : Nat) (p0 : List Edge) (p1 : Int) : Option ((List Int)) :=
  ref09_Reach_l1 n n (p0, p1, 0, ([] : List Int), ())
/-! bursary bursaryref09.Bound -/
def ref09_Bound_j2 (n : Nat) (r1 : (List Edge) × Int × Int × (List Int) × (List Int) × Unit → Option ((List Int))) : (List Edge) × Int × Int × (List Int) × (List Int) × Unit → Option ((List Int)) := fun ⟨v14, v15, v16, v17, v18, _⟩ =>
    r1 (v14, v15, (IntKind.wrap .i64 (v16 + 1)), v17, v18, ())
def ref09_Bound_l1 (n : Nat) : Nat → (List Edge) × Int × Int × (List Int) × (List Int) × Unit → Option ((List Int)) := loopF fun r1 ⟨v2, v3, v4, v5, v6, _⟩ =>
    cond (decide (v4 < (v6.length : Int)))
      ((idx v6 v4).bind fun x7 =>
      (idx v6 v4).bind fun x8 =>
      (ref09_Reach n v2 x8).bind fun y9 =>
      (ref09_in n y9 v3).bind fun y10 =>
      jn (ref09_Bound_j2 n r1) fun j2 =>
      cond y10
        ((idx v6 v4).bind fun x19 =>
        (idx v6 v4).bind fun x20 =>
        (app 8 v5 ([x20] : List Int)).bind fun l21 =>
        j2 (v2, v3, v4, l21, v6, ()))
        (j2 (v2, v3, v4, v5, v6, ())))
      (some v5)
def ref09_Bound (n : Nat) (p0 : List Edge) (p1 : Int) : Option ((List Int)) :=
  (ref09_Reach n p0 p1).bind fun y1 =>
  ref09_Bound_l1 n n (p0, p1, 0, ([] : List Int), y1, ())
/-! bursary bursaryref09.Victim -/
def ref09_Victim (n : Nat) (p0 : List Edge) (p1 : Int) : Option Int :=
  (ref09_Bound n p0 p1).bind fun y1 =>
  cond ((y1.length : Int) == 0)
    (some 0)
    ((idx y1 (IntKind.wrap .i64 ((y1.length : Int) - 1))).bind fun x2 =>
    (idx y1 (IntKind.wrap .i64 ((y1.length : Int) - 1))).bind fun x3 =>
    some x3)
/-! bursary bursaryref09.Without -/
def ref09_Without_j2 (n : Nat) (r1 : (List Edge) × Int × Int × (List Edge) × Unit → Option ((List Edge))) : (List Edge) × Int × Int × (List Edge) × Unit → Option ((List Edge)) := fun ⟨v10, v11, v12, v13, _⟩ =>
    r1 (v10, v11, (IntKind.wrap .i64 (v12 + 1)), v13, ())
def ref09_Without_l1 (n : Nat) : Nat → (List Edge) × Int × Int × (List Edge) × Unit → Option ((List Edge)) := loopF fun r1 ⟨v1, v2, v3, v4, _⟩ =>
    cond (decide (v3 < (v1.length : Int)))
      ((idx v1 v3).bind fun x5 =>
      jn (fun (b6 : Bool) =>
          jn (ref09_Without_j2 n r1) fun j2 =>
          cond b6
            ((idx v1 v3).bind fun x14 =>
            (app 16 v4 ([x14] : List Edge)).bind fun l15 =>
            j2 (v1, v2, v3, l15, ()))
            (j2 (v1, v2, v3, v4, ()))) fun k7 =>
      cond (x5.from_ != v2)
        ((idx v1 v3).bind fun x16 =>
        k7 (x16.to != v2))
        (k7 false))
      (some v4)
def ref09_Without (n : Nat) (p0 : List Edge) (p1 : Int) : Option ((List Edge)) :=
  ref09_Without_l1 n n (p0, p1, 0, ([] : List Edge), ())
/-! bursary bursaryref09.Break -/
def ref09_Break_j1 (n : Nat) : (List Edge) × (List Int) × Unit → Option ((List Edge) × (List Int)) := fun ⟨v8, v9, _⟩ =>
    some (v8, v9)
def ref09_Break_l2 (n : Nat) (j1 : (List Edge) × (List Int) × Unit → Option ((List Edge) × (List Int))) : Nat → (List Edge) × Int × Int × (List Int) × Unit → Option ((List Edge) × (List Int)) := loopF fun r2 ⟨v10, v11, v12, v13, _⟩ =>
    cond (decide (v12 < 9))
      ((ref09_Victim n v10 v11).bind fun y14 =>
      cond (y14 == 0)
        (j1 (v10, v13, ()))
        ((app 8 v13 ([y14] : List Int)).bind fun l15 =>
        (ref09_Without n v10 y14).bind fun y16 =>
        r2 (y16, v11, (IntKind.wrap .i64 (v12 + 1)), l15, ())))
      (j1 (v10, v13, ()))
def ref09_Break (n : Nat) (p0 : List Edge) (p1 : Int) : Option ((List Edge) × (List Int)) :=
  jn (ref09_Break_j1 n) fun j1 =>
  ref09_Break_l2 n j1 n (p0, p1, 0, ([] : List Int), ())
/-! bursary bursaryref09.SameInts -/
/-! bursary bursarylaw09.WaitsBreaks -/
/-! bursary bursaryref09.Cycles -/
/-! bursary bursarylaw09.WaitsCycles -/
/-! bursary waits.Without -/
def waits_Without (n : Nat) (p0 : List Edge) (p1 : Int) : Option (Int × (List Edge)) :=
  (waits_right n p0).bind fun y1 =>
  cond (!y1)
    (some (190, ([] : List Edge)))
    ((waits_without n p0 p1).bind fun y2 =>
    some (0, y2))
@[reducible] def waits_Without_ct : Ct tab := ⟨19, [.one (.d (.sl (.st 0))), .one (.d (.int .i64))], [], [.one (.own 0), .one (.d (.int .i64))], [(none, .row 45 (.st 0))], (Int × (List Edge)), fun y => (y.1, y.2, ()), fun y => (y.1, y.2.1), fun _ => rfl, fun n x => waits_Without n x.1 x.2.1⟩
theorem waits_Without_ok : OkC Try.prog tab waits_Without_ct := fn_ok (W := ⟨Try.prog, tab, tyOf, [waits_right_ct, waits_without_ct], addO, dpO, false⟩) ⟨tabOk, ⟨waits_right_ok, waits_without_ok, trivial⟩, addOk⟩ (by kernel_rfl) 12 Try.f19 (.n) Try.func19 Try.call19 rfl (by kernel_rfl) (by kernel_rfl) (by kernel_rfl) fun n x => by kernel_rfl

/-! bursary waits.Leads -/
/-! bursary bursarylaw09.WaitsYoungest -/
/-! bursary waits.Bound -/
/-! bursary waits.Check -/
def waits_Check (n : Nat) (p0 : List Edge) : Option Int :=
  (waits_right n p0).bind fun y1 =>
  cond (!y1)
    (some 190)
    (some 0)
@[reducible] def waits_Check_ct : Ct tab := ⟨21, [.one (.d (.sl (.st 0)))], [], [.one (.d (.int .i64))], [], Int, fun y => (y, ()), fun y => y.1, fun _ => rfl, fun n x => waits_Check n x.1⟩
theorem waits_Check_ok : OkC Try.prog tab waits_Check_ct := fn_ok (W := ⟨Try.prog, tab, tyOf, [waits_right_ct], addO, dpO, false⟩) ⟨tabOk, ⟨waits_right_ok, trivial⟩, addOk⟩ (by kernel_rfl) 6 Try.f21 (.n) Try.func21 Try.call21 rfl (by kernel_rfl) (by kernel_rfl) (by kernel_rfl) fun n x => by kernel_rfl

/-! bursary waits.Victim -/
/-! bursary bursarylaw09.WaitsTells -/
theorem slices_Grow_Edge_raw (p1 : Int) (r : List (Raw 2)) (h : growL 16 p1 = some r) :
    Meets Try.prog 64 #[.slice none 0 0, .int .i64 p1] [] [] fun v A P => ∃ (a0 : Option Addr) (c0 : Nat), v = .slice a0 r.length c0 ∧ A = [rowF (rawF 2) 45 a0 c0 r] ∧ P = [] := by
  unfold growL at h
  split at h
  · rename_i h0
    split at h
    · rename_i hroom
      obtain rfl := someI' h
      obtain ⟨k, rfl⟩ := Int.eq_ofNat_of_zero_le h0
      have hroom : room k 16 = true := hroom
      have hw : IntKind.wrap .i64 ((k : Int) - IntKind.wrap .i64 (((0 : Nat) : Int) - ((0 : Nat) : Int))) = (k : Int) := by
        have hb := Nat.le_of_ble_eq_true hroom
        rw [IntKind.wrap_i64, IntKind.wrap_i64]; omega
      refine meets_enter 27 Try.func64 Try.call64 rfl (by kernel_rfl) (by simp) fun C a w hS => ?_
      refine k_seq (by kernel_rfl) fun K1 hK1 => ?_
      refine k_reg 1 (by kernel_rfl) ?_
      refine r_run 0 1 [0, 1, 4] [] hS rfl (L' := [(0, .slice none 0 0), (1, .int .i64 (k : Int)), (4, .slice none 0 0)]) (As' := []) (ob := []) (by kernel_rfl) trivial fun a w hS => ?_
      refine wl_end ?_
      refine hK1 _ _ ?_
      refine k_seq (by kernel_rfl) fun K2 hK2 => ?_
      refine k_seq (by kernel_rfl) fun K3 hK3 => ?_
      refine k_reg 2 (by kernel_rfl) ?_
      refine r_run 0 2 [0, 1, 6] [] hS rfl (L' := [(0, .slice none 0 0), (1, .int .i64 (k : Int)), (6, .bool (decide ((k : Int) < 0)))]) (As' := []) (ob := []) (by kernel_rfl) trivial fun a w hS => ?_
      refine wl_end ?_
      refine hK3 _ _ ?_
      refine k_cond (decide ((k : Int) < 0)) hS.has (by kernel_rfl) (by kernel_rfl) (by kernel_rfl) (fun hq => absurd (of_decide_eq_true hq) (by omega)) (fun hq => ?_)
      refine k_skip (by kernel_rfl) ?_
      refine hK2 _ _ ?_
      refine k_seq (by kernel_rfl) fun K4 hK4 => ?_
      refine k_seq (by kernel_rfl) fun K5 hK5 => ?_
      refine k_reg 8 (by kernel_rfl) ?_
      refine r_run 0 8 [0, 1] [.as 14 (.int .i64 (k : Int))] hS rfl (L' := [(0, .slice none 0 0), (1, .int .i64 (k : Int))]) (As' := []) (ob := [fun _ => Value.int .i64 (IntKind.wrap .i64 ((k : Int) - IntKind.wrap .i64 (((0 : Nat) : Int) - ((0 : Nat) : Int)))) = .int .i64 (k : Int)]) (by kernel_rfl) ⟨Bx.c (by rw [hw]), trivial⟩ fun a w hS => ?_
      refine wl_end ?_
      refine hK5 _ _ ?_
      refine k_seq (by kernel_rfl) fun K6 hK6 => ?_
      refine k_reg 2 (by kernel_rfl) ?_
      refine r_run 0 2 [0, 1, 16] [] hS rfl (L' := [(0, .slice none 0 0), (1, .int .i64 (k : Int)), (16, .bool (decide ((k : Int) > 0)))]) (As' := []) (ob := []) (by kernel_rfl) trivial fun a w hS => ?_
      refine wl_end ?_
      refine hK6 _ _ ?_
      refine k_cond (decide ((k : Int) > 0)) hS.has (by kernel_rfl) (by kernel_rfl) (by kernel_rfl) (fun hq => ?_) (fun hq => ?_)
      · have hk : 0 < k := by have := of_decide_eq_true hq; omega
        refine k_reg 10 (by kernel_rfl) ?_
        refine r_run 0 5 [0, 20, 21] [.as 20 (.slice none 0 0)] hS rfl (L' := [(0, .slice none 0 0), (20, .slice none 0 0), (21, .int .i64 (k : Int))]) (As' := []) (ob := [fun _ => (0 : Int) ≤ 0 ∧ (0 : Int) ≤ ((0 : Nat) : Int) ∧ ((0 : Nat) : Int) ≤ ((0 : Nat) : Int), fun _ => Value.slice (slA none (Int.toNat 0) 0 2) (Int.toNat ((0 : Nat) : Int) - Int.toNat 0) (0 - Int.toNat 0) = .slice none 0 0]) (by kernel_rfl) ⟨Bx.c (by decide), Bx.c (by rfl), trivial⟩ fun a w hS => ?_
        obtain ⟨w', g2, c2, ds, hrun, hc2, hrow, hext, hg2, hg2'⟩ := run_zeros_nil (w := w) (P := Try.prog) (e := 45) (sz := ((rawF 2)).sz) (t := 22) (tn := 3) (ty := 22) (k := k) (bytes := 16) (inf := Try.t45) (z := (Try.t45.zero).getD undef) (kq := .i64) (kn := .i64) (by kernel_rfl) (by kernel_rfl) (by kernel_rfl) (by kernel_rfl) (by kernel_rfl) (by kernel_rfl) (by kernel_rfl) (by decide) (by decide) hk hroom
        refine r_bltN 5 rfl (d := some 22) (b := .append) (ts := #[22, 3]) (ty := 22) (vs := #[.slice none 0 0, .int .i64 (k : Int)]) hS (by kernel_rfl) _ hrun hrow hext (fun x hx => by simp [Asn.fp] at hx; subst hx; exact ⟨hg2, hg2'⟩) (by simp [Asn.fp]) fun a hS => ?_
        refine r_run 6 4 [0] [.as 25 (.slice (some ⟨g2, 0, none⟩) 0 c2)] hS rfl (L' := [(0, .slice (some ⟨g2, 0, none⟩) 0 c2)]) (As' := [.row (some ⟨g2, 0, none⟩) c2 45 ((rawF 2)).sz c2 ds]) (ob := [fun _ => (0 : Int) ≤ 0 ∧ (0 : Int) ≤ ((0 : Nat) : Int) ∧ ((0 : Nat) : Int) ≤ (c2 : Int), fun _ => Value.slice (slA (some ⟨g2, 0, none⟩) (Int.toNat 0) c2 2) (Int.toNat ((0 : Nat) : Int) - Int.toNat 0) (c2 - Int.toNat 0) = .slice (some ⟨g2, 0, none⟩) 0 c2]) (by kernel_rfl) ⟨Bx.c ⟨by decide, by decide, by omega⟩, Bx.c (by unfold slA; split <;> simp [Addr.add]), trivial⟩ fun a w hS => ?_
        replace hS := hS.same (B := rowF (rawF 2) 45 (some ⟨g2, 0, none⟩) c2 []) 0 rfl (fun hA => row_app_form hA rfl (Nat.zero_le _) (by simp)) rfl (by simp [Asn.fp])
        refine wl_end ?_
        refine hK4 _ _ ?_
        refine k_seq (by kernel_rfl) fun K7 hK7 => ?_
        refine k_reg 2 (by kernel_rfl) ?_
        refine r_run 0 2 [4] [] hS rfl (L' := [(4, .slice (some ⟨g2, 0, none⟩) 0 c2)]) (As' := [rowF (rawF 2) 45 (some ⟨g2, 0, none⟩) c2 []]) (ob := []) (by kernel_rfl) trivial fun a w hS => ?_
        refine wl_end ?_
        refine hK7 _ _ ?_
        refine k_ret (by kernel_rfl) ?_
        try simp only [Exit.then, Exit.inBlock]
        refine r_ret hS [.tmp 4] [] (xs := [.slice (some ⟨g2, 0, none⟩) 0 c2]) (ps := []) [0] [] rfl (by kernel_rfl) (fun hA => trivial) rfl (fun F up => trivial) ?_
        exact ⟨some ⟨g2, 0, none⟩, c2, rfl, rfl, rfl⟩
      · refine k_skip (by kernel_rfl) ?_
        refine hK4 _ _ ?_
        refine k_seq (by kernel_rfl) fun K7 hK7 => ?_
        refine k_reg 2 (by kernel_rfl) ?_
        refine r_run 0 2 [4] [] hS rfl (L' := [(4, .slice none 0 0)]) (As' := []) (ob := []) (by kernel_rfl) trivial fun a w hS => ?_
        refine wl_end ?_
        refine hK7 _ _ ?_
        refine k_ret (by kernel_rfl) ?_
        try simp only [Exit.then, Exit.inBlock]
        replace hS := hS.nilrow (e := 45) (sz := ((rawF 2)).sz)
        refine r_ret hS [.tmp 4] [] (xs := [.slice none 0 0]) (ps := []) [0] [] rfl (by kernel_rfl) (fun hA => trivial) rfl (fun F up => trivial) ?_
        exact ⟨none, 0, rfl, rfl, rfl⟩
    · cases h
  · cases h
def slices_Grow_Edge (n : Nat) (p1 : Int) : Option (List Edge) := growL 16 p1
@[reducible] def slices_Grow_Edge_ct : Ct tab := ⟨64, [.one .nil, .one (.d (.int .i64))], [], [.one (.own 0)], [(none, .row 45 (.st 0))], List Edge, fun y => (y, ()), fun y => y.1, fun _ => rfl, fun n x => slices_Grow_Edge n x.1⟩
theorem slices_Grow_Edge_ok : OkC Try.prog tab slices_Grow_Edge_ct := grow_ok (t := .st 0) (m := 2) (bytes := 16) tabOk rfl Try.call64 fun p1 r h => slices_Grow_Edge_raw p1 r h

/-! slices.Concat   bursary api.Edge bursary api.Edge  -/
def slices_Concat_Edge_j2 (n : Nat) (r1 : (List (List Edge)) × Int × (List (List Edge)) × Int × Int × Unit → Option ((List Edge))) : (List (List Edge)) × Int × (List (List Edge)) × Int × Int × Unit → Option ((List Edge)) := fun ⟨v7, v8, v9, v10, v11, _⟩ =>
    r1 (v7, v8, v9, v10, (IntKind.wrap .i64 (v11 + 1)), ())
def slices_Concat_Edge_l3 (n : Nat) : Nat → (List (List Edge)) × Int × Int × (List Edge) × Unit → Option ((List Edge)) := loopF fun r3 ⟨v13, v14, v15, v16, _⟩ =>
    cond (decide (v15 < v14))
      ((idx v13 v15).bind fun x17 =>
      (app 16 v16 x17).bind fun l18 =>
      r3 (v13, v14, (IntKind.wrap .i64 (v15 + 1)), l18, ()))
      (some v16)
def slices_Concat_Edge_l1 (n : Nat) : Nat → (List (List Edge)) × Int × (List (List Edge)) × Int × Int × Unit → Option ((List Edge)) := loopF fun r1 ⟨v1, v2, v3, v4, v5, _⟩ =>
    cond (decide (v5 < v4))
      ((idx v3 v5).bind fun x6 =>
      jn (slices_Concat_Edge_j2 n r1) fun j2 =>
      cond (decide ((IntKind.wrap .i64 (v2 + (x6.length : Int))) < 0))
        (none)
        (j2 (v1, (IntKind.wrap .i64 (v2 + (x6.length : Int))), v3, v4, v5, ())))
      ((slices_Grow_Edge n v2).bind fun y12 =>
      slices_Concat_Edge_l3 n n (v1, (v1.length : Int), 0, y12, ()))
def slices_Concat_Edge (n : Nat) (p0 : List (List Edge)) : Option ((List Edge)) :=
  slices_Concat_Edge_l1 n n (p0, 0, p0, (p0.length : Int), 0, ())
@[reducible] def slices_Concat_Edge_ct : Ct tab := ⟨49, [.one (.d (.sl (.sl (.st 0))))], [], [.one (.own 0)], [(none, .row 45 (.st 0))], ((List Edge)), fun y => (y, ()), fun y => y.1, fun _ => rfl, fun n x => slices_Concat_Edge n x.1⟩
theorem slices_Concat_Edge_ok : OkC Try.prog tab slices_Concat_Edge_ct := fn_ok (W := ⟨Try.prog, tab, tyOf, [slices_Grow_Edge_ct], addO, dpO, false⟩) ⟨tabOk, ⟨slices_Grow_Edge_ok, trivial⟩, addOk⟩ (by kernel_rfl) 36 Try.f49 (.sq (.n) (.sq (.n) (.sq (.sq (.n) (.bk none (.lp ⟨[(0, .one (.d (.sl (.sl (.st 0))))), (3, .one (.d (.int .i64))), (9, .one (.d (.sl (.sl (.st 0))))), (10, .one (.d (.int .i64))), (11, .one (.d (.int .i64)))], [], []⟩ (.sq (.n) (.sq (.n) (.sq (.bk none (.sq (.n) (.sq (.n) (.sq (.n) (.cd (some ⟨[(0, .one (.d (.sl (.sl (.st 0))))), (3, .one (.d (.int .i64))), (9, .one (.d (.sl (.sl (.st 0))))), (10, .one (.d (.int .i64))), (11, .one (.d (.int .i64)))], [], []⟩) (.n) (.n)))))) (.n))))))) (.sq (.n) (.sq (.sq (.n) (.bk none (.lp ⟨[(6, .one (.own 0)), (25, .one (.d (.sl (.sl (.st 0))))), (26, .one (.d (.int .i64))), (27, .one (.d (.int .i64)))], [.row 45 (.st 0)], []⟩ (.n)))) (.n)))))) Try.func49 Try.call49 rfl (by kernel_rfl) (by kernel_rfl) (by kernel_rfl) fun n x => by kernel_rfl

end
end Go.Proofs.Ytkfemopgfjooeaa
