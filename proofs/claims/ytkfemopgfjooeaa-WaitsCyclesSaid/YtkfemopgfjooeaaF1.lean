/- Functions of the program: plain twins and their contracts, printed by program. -/
import Derived.Test.YtkfemopgfjooeaaTypes
import Derived.Test.YtkfemopgfjooeaaF0
namespace Go.Proofs.Ytkfemopgfjooeaa
open Go Go.Bur Go.RowKit
set_option linter.unusedVariables false
set_option linter.unusedSimpArgs false
set_option maxRecDepth 100000
noncomputable section
/-! bursary waits.Cycles -/
def waits_Cycles (n : Nat) (p0 : List Edge) (p1 : Int) : Option (Int × (List (List Int))) :=
  (waits_right n p0).bind fun y1 =>
  cond (!y1)
    (some (190, ([] : List (List Int))))
    ((waits_Cycles_1_c3_self n ([p1] : List Int) p0 p1 ([] : List (List Int))).bind fun y2 =>
    (slices_SortFunc_Lint_f43 n y2.2.2).bind fun y3 =>
    some (0, y3))
@[reducible] def waits_Cycles_ct : Ct tab := ⟨16, [.one (.d (.sl (.st 0))), .one (.d (.int .i64))], [], [.one (.own 0), .one (.d (.int .i64))], [(none, .row 24 (.sl (.int .i64)))], (Int × (List (List Int))), fun y => (y.1, y.2, ()), fun y => (y.1, y.2.1), fun _ => rfl, fun n x => waits_Cycles n x.1 x.2.1⟩
theorem waits_Cycles_ok : OkC Try.prog tab waits_Cycles_ct := fn_ok (W := ⟨Try.prog, tab, tyOf, [waits_right_ct, waits_Cycles_1_c3_self_ct, slices_SortFunc_Lint_f43_ct], addO, dpO, false⟩) ⟨tabOk, ⟨waits_right_ok, waits_Cycles_1_c3_self_ok, slices_SortFunc_Lint_f43_ok, trivial⟩, addOk⟩ (by kernel_rfl) 19 Try.f16 (.sq (.n) (.sq (.n) (.sq (.n) (.sq (.n) (.sq (.n) (.sq (.gs [.nrb 2 0 24 (.sl (.int .i64))] (.n)) (.n))))))) Try.func16 Try.call16 rfl (by kernel_rfl) (by kernel_rfl) (by kernel_rfl) fun n x => by kernel_rfl

/-! bursary waits.Circles 1 -/
def waits_Circles_1 (n : Nat) (p0 : Edge) (p1 : List Edge) : Option Bool :=
  (waits_reached n p1 p0.to).bind fun y1 =>
  (mlook .i64 false y1 p0.from_).bind fun w2 =>
  some w2
@[reducible] def waits_Circles_1_ct : Ct tab := ⟨47, [.st 0, .one (.ro (.sl (.st 0)))], [], [.one (.d .bool)], [], Bool, fun y => (y, ()), fun y => y.1, fun _ => rfl, fun n x => waits_Circles_1 n x.1 x.2.1⟩
theorem waits_Circles_1_ok : OkC Try.prog tab waits_Circles_1_ct := fn_ok (W := ⟨Try.prog, tab, tyOf, [waits_reached_ct], addO, dpO, false⟩) ⟨tabOk, ⟨waits_reached_ok, trivial⟩, addOk⟩ (by kernel_rfl) 11 Try.f47 (.n) Try.func47 Try.call47 rfl (by kernel_rfl) (by kernel_rfl) (by kernel_rfl) fun n x => by kernel_rfl

/-! slices.IndexFunc   bursary api.Edge bursary api.Edge  -/
def slices_IndexFunc_Edge_f47_l1 (n : Nat) : Nat → (List Edge) × (List Edge) × Int × Int × Unit → Option Int := loopF fun r1 ⟨v1, v2, v3, v4, _⟩ =>
    cond (decide (v4 < v3))
      ((idx v1 v4).bind fun x5 =>
      (waits_Circles_1 n x5 v2).bind fun y6 =>
      cond y6
        (some v4)
        (r1 (v1, v2, v3, (IntKind.wrap .i64 (v4 + 1)), ())))
      (some (-1))
def slices_IndexFunc_Edge_f47 (n : Nat) (p0 : List Edge) (p1 : List Edge) : Option Int :=
  slices_IndexFunc_Edge_f47_l1 n n (p0, p1, (p0.length : Int), 0, ())
@[reducible] def slices_IndexFunc_Edge_f47_ct : Ct tab := ⟨63, [.one (.d (.sl (.st 0))), .one (.fn 47 [.ro (.sl (.st 0))])], [], [.one (.d (.int .i64))], [], Int, fun y => (y, ()), fun y => y.1, fun _ => rfl, fun n x => slices_IndexFunc_Edge_f47 n x.1 x.2.1⟩
theorem slices_IndexFunc_Edge_f47_ok : OkC Try.prog tab slices_IndexFunc_Edge_f47_ct := fn_ok (W := ⟨Try.prog, tab, tyOf, [waits_Circles_1_ct], addO, dpO, false⟩) ⟨tabOk, ⟨waits_Circles_1_ok, trivial⟩, addOk⟩ (by kernel_rfl) 19 Try.f63 (.sq (.n) (.sq (.sq (.n) (.bk none (.lp ⟨[(0, .one (.d (.sl (.st 0)))), (1, .one (.fn 47 [.ro (.sl (.st 0))])), (7, .one (.d (.int .i64))), (8, .one (.d (.int .i64)))], [], []⟩ (.n)))) (.n))) Try.func63 Try.call63 rfl (by kernel_rfl) (by kernel_rfl) (by kernel_rfl) fun n x => by kernel_rfl

/-! slices.ContainsFunc   bursary api.Edge bursary api.Edge  -/
def slices_ContainsFunc_Edge_f47 (n : Nat) (p0 : List Edge) (p1 : List Edge) : Option Bool :=
  (slices_IndexFunc_Edge_f47 n p0 p1).bind fun y1 =>
  some (decide (y1 ≥ 0))
@[reducible] def slices_ContainsFunc_Edge_f47_ct : Ct tab := ⟨46, [.one (.d (.sl (.st 0))), .one (.fn 47 [.ro (.sl (.st 0))])], [], [.one (.d .bool)], [], Bool, fun y => (y, ()), fun y => y.1, fun _ => rfl, fun n x => slices_ContainsFunc_Edge_f47 n x.1 x.2.1⟩
theorem slices_ContainsFunc_Edge_f47_ok : OkC Try.prog tab slices_ContainsFunc_Edge_f47_ct := fn_ok (W := ⟨Try.prog, tab, tyOf, [slices_IndexFunc_Edge_f47_ct], addO, dpO, false⟩) ⟨tabOk, ⟨slices_IndexFunc_Edge_f47_ok, trivial⟩, addOk⟩ (by kernel_rfl) 9 Try.f46 (.n) Try.func46 Try.call46 rfl (by kernel_rfl) (by kernel_rfl) (by kernel_rfl) fun n x => by kernel_rfl

/-! bursary waits.Circles -/
def waits_Circles (n : Nat) (p0 : List Edge) : Option Bool :=
  (waits_right n p0).bind fun y1 =>
  jn (fun (b2 : Bool) =>
      some b2) fun k3 =>
  cond y1
    ((slices_ContainsFunc_Edge_f47 n p0 p0).bind fun y4 =>
    k3 y4)
    (k3 false)
@[reducible] def waits_Circles_ct : Ct tab := ⟨23, [.one (.d (.sl (.st 0)))], [], [.one (.d .bool)], [], Bool, fun y => (y, ()), fun y => y.1, fun _ => rfl, fun n x => waits_Circles n x.1⟩
theorem waits_Circles_ok : OkC Try.prog tab waits_Circles_ct := fn_ok (W := ⟨Try.prog, tab, tyOf, [waits_right_ct, slices_ContainsFunc_Edge_f47_ct], addO, dpO, false⟩) ⟨tabOk, ⟨waits_right_ok, slices_ContainsFunc_Edge_f47_ok, trivial⟩, addOk⟩ (by kernel_rfl) 10 Try.f23 (.n) Try.func23 Try.call23 rfl (by kernel_rfl) (by kernel_rfl) (by kernel_rfl) fun n x => by kernel_rfl

/-! bursary bursarylaw09.wakes -/
def law09_wakes (n : Nat) : Option Bool :=
  (law09_some n).bind fun y1 =>
  (waits_Break n y1 2).bind fun y2 =>
  (law09_some n).bind fun y3 =>
  (waits_Cycles n y3 2).bind fun y4 =>
  jn (fun (b5 : Bool) =>
      jn (fun (b7 : Bool) =>
          jn (fun (b9 : Bool) =>
              jn (fun (b11 : Bool) =>
                  jn (fun (b13 : Bool) =>
                      jn (fun (b15 : Bool) =>
                          jn (fun (b17 : Bool) =>
                              some b17) fun k18 =>
                          cond b15
                            ((law09_some n).bind fun y19 =>
                            (waits_Circles n y19).bind fun y20 =>
                            k18 y20)
                            (k18 false)) fun k16 =>
                      cond b13
                        (k16 ((y4.2.length : Int) == 2))
                        (k16 false)) fun k14 =>
                  cond b11
                    (k14 ((y2.2.2.length : Int) == 0))
                    (k14 false)) fun k12 =>
              cond b9
                ((idx y2.2.1 1).bind fun x21 =>
                (idx y2.2.1 1).bind fun x22 =>
                k12 (x22 == 2))
                (k12 false)) fun k10 =>
          cond b7
            ((idx y2.2.1 0).bind fun x23 =>
            (idx y2.2.1 0).bind fun x24 =>
            k10 (x24 == 3))
            (k10 false)) fun k8 =>
      cond b5
        (k8 ((y2.2.1.length : Int) == 2))
        (k8 false)) fun k6 =>
  cond (y2.1 == 0)
    (k6 (y4.1 == 0))
    (k6 false)
@[reducible] def law09_wakes_ct : Ct tab := ⟨10, [], [], [.one (.d .bool)], [], Bool, fun y => (y, ()), fun y => y.1, fun _ => rfl, fun n x => law09_wakes n⟩
theorem law09_wakes_ok : OkC Try.prog tab law09_wakes_ct := fn_ok (W := ⟨Try.prog, tab, tyOf, [law09_some_ct, waits_Break_ct, waits_Cycles_ct, waits_Circles_ct], addO, dpO, false⟩) ⟨tabOk, ⟨law09_some_ok, waits_Break_ok, waits_Cycles_ok, waits_Circles_ok, trivial⟩, addOk⟩ (by kernel_rfl) 54 Try.f10 (.n) Try.func10 Try.call10 rfl (by kernel_rfl) (by kernel_rfl) (by kernel_rfl) fun n x => by kernel_rfl

/-! bursary bursaryref09.Same -/
/-! bursary bursaryref09.before -/
def ref09_before (n : Nat) (p0 : Edge) (p1 : Edge) : Option Bool :=
  jn (fun (b1 : Bool) =>
      some b1) fun k2 =>
  cond (decide (p0.from_ < p1.from_))
    (k2 true)
    (jn (fun (b3 : Bool) =>
        k2 b3) fun k4 =>
    cond (p0.from_ == p1.from_)
      (k4 (decide (p0.to < p1.to)))
      (k4 false))
@[reducible] def ref09_before_ct : Ct tab := ⟨36, [.st 0, .st 0], [], [.one (.d .bool)], [], Bool, fun y => (y, ()), fun y => y.1, fun _ => rfl, fun n x => ref09_before n x.1 x.2.1⟩
theorem ref09_before_ok : OkC Try.prog tab ref09_before_ct := fn_ok (W := ⟨Try.prog, tab, tyOf, [], addO, dpO, false⟩) ⟨tabOk, trivial, addOk⟩ (by kernel_rfl) 24 Try.f36 (.n) Try.func36 Try.call36 rfl (by kernel_rfl) (by kernel_rfl) (by kernel_rfl) fun n x => by kernel_rfl

/-! bursary bursaryref09.with -/
def ref09_with_j3 (n : Nat) (r1 : (List Int) × Int × Bool × Int × (List Int) × Unit → Option ((List Int))) : (List Int) × Int × Bool × Int × (List Int) × Unit → Option ((List Int)) := fun ⟨v14, v15, v16, v17, v18, _⟩ =>
    (idx v14 v17).bind fun x19 =>
    (app 8 v18 ([x19] : List Int)).bind fun l20 =>
    r1 (v14, v15, v16, (IntKind.wrap .i64 (v17 + 1)), l20, ())
def ref09_with_j2 (n : Nat) (r1 : (List Int) × Int × Bool × Int × (List Int) × Unit → Option ((List Int))) : (List Int) × Int × Bool × Int × (List Int) × Unit → Option ((List Int)) := fun ⟨v7, v8, v9, v10, v11, _⟩ =>
    jn (fun (b12 : Bool) =>
        jn (ref09_with_j3 n r1) fun j3 =>
        cond b12
          ((app 8 v11 ([v8] : List Int)).bind fun l21 =>
          j3 (v7, v8, true, v10, l21, ()))
          (j3 (v7, v8, v9, v10, v11, ()))) fun k13 =>
    cond (!v9)
      ((idx v7 v10).bind fun x22 =>
      k13 (decide (v8 < x22)))
      (k13 false)
def ref09_with_j4 (n : Nat) : (List Int) × Unit → Option ((List Int)) := fun ⟨v23, _⟩ =>
    some v23
def ref09_with_l1 (n : Nat) : Nat → (List Int) × Int × Bool × Int × (List Int) × Unit → Option ((List Int)) := loopF fun r1 ⟨v1, v2, v3, v4, v5, _⟩ =>
    cond (decide (v4 < (v1.length : Int)))
      ((idx v1 v4).bind fun x6 =>
      jn (ref09_with_j2 n r1) fun j2 =>
      cond (x6 == v2)
        (j2 (v1, v2, true, v4, v5, ()))
        (j2 (v1, v2, v3, v4, v5, ())))
      (jn (ref09_with_j4 n) fun j4 =>
      cond (!v3)
        ((app 8 v5 ([v2] : List Int)).bind fun l24 =>
        j4 (l24, ()))
        (j4 (v5, ())))
def ref09_with (n : Nat) (p0 : List Int) (p1 : Int) : Option ((List Int)) :=
  ref09_with_l1 n n (p0, p1, false, 0, ([] : List Int), ())
@[reducible] def ref09_with_ct : Ct tab := ⟨48, [.one (.d (.sl (.int .i64))), .one (.d (.int .i64))], [], [.one (.own 0)], [(none, .row 3 (.int .i64))], ((List Int)), fun y => (y, ()), fun y => y.1, fun _ => rfl, fun n x => ref09_with n x.1 x.2.1⟩
theorem ref09_with_ok : OkC Try.prog tab ref09_with_ct := fn_ok (W := ⟨Try.prog, tab, tyOf, [], addO, dpO, false⟩) ⟨tabOk, trivial, addOk⟩ (by kernel_rfl) 48 Try.f48 (.sq (.n) (.sq (.n) (.sq (.n) (.sq (.sq (.n) (.bk none (.lp ⟨[(0, .one (.d (.sl (.int .i64)))), (1, .one (.d (.int .i64))), (5, .one (.own 0)), (6, .one (.d .bool)), (7, .one (.d (.int .i64)))], [.row 3 (.int .i64)], []⟩ (.sq (.n) (.sq (.bk none (.sq (.sq (.n) (.cd (some ⟨[(0, .one (.d (.sl (.int .i64)))), (1, .one (.d (.int .i64))), (5, .one (.own 0)), (6, .one (.d .bool)), (7, .one (.d (.int .i64)))], [.row 3 (.int .i64)], []⟩) (.n) (.n))) (.sq (.sq (.n) (.cd (some ⟨[(0, .one (.d (.sl (.int .i64)))), (1, .one (.d (.int .i64))), (5, .one (.own 0)), (6, .one (.d .bool)), (7, .one (.d (.int .i64)))], [.row 3 (.int .i64)], []⟩) (.n) (.n))) (.n)))) (.n)))))) (.sq (.sq (.n) (.cd (some ⟨[(5, .one (.own 0))], [.row 3 (.int .i64)], []⟩) (.n) (.n))) (.n)))))) Try.func48 Try.call48 rfl (by kernel_rfl) (by kernel_rfl) (by kernel_rfl) fun n x => by kernel_rfl

/-! bursary bursaryref09.Names -/
def ref09_Names_l1 (n : Nat) : Nat → (List Edge) × Int × (List Int) × Unit → Option ((List Int)) := loopF fun r1 ⟨v1, v2, v3, _⟩ =>
    cond (decide (v2 < (v1.length : Int)))
      ((idx v1 v2).bind fun x4 =>
      (ref09_with n v3 x4.from_).bind fun y5 =>
      (idx v1 v2).bind fun x6 =>
      (ref09_with n y5 x6.to).bind fun y7 =>
      r1 (v1, (IntKind.wrap .i64 (v2 + 1)), y7, ()))
      (some v3)
def ref09_Names (n : Nat) (p0 : List Edge) : Option ((List Int)) :=
  ref09_Names_l1 n n (p0, 0, ([] : List Int), ())
@[reducible] def ref09_Names_ct : Ct tab := ⟨24, [.one (.d (.sl (.st 0)))], [], [.one (.own 0)], [(none, .row 3 (.int .i64))], ((List Int)), fun y => (y, ()), fun y => y.1, fun _ => rfl, fun n x => ref09_Names n x.1⟩
theorem ref09_Names_ok : OkC Try.prog tab ref09_Names_ct := fn_ok (W := ⟨Try.prog, tab, tyOf, [ref09_with_ct], addO, dpO, false⟩) ⟨tabOk, ⟨ref09_with_ok, trivial⟩, addOk⟩ (by kernel_rfl) 25 Try.f24 (.sq (.n) (.sq (.n) (.sq (.sq (.n) (.bk none (.lp ⟨[(0, .one (.d (.sl (.st 0)))), (3, .one (.own 0)), (4, .one (.d (.int .i64)))], [.row 3 (.int .i64)], []⟩ (.n)))) (.n)))) Try.func24 Try.call24 rfl (by kernel_rfl) (by kernel_rfl) (by kernel_rfl) fun n x => by kernel_rfl

/-! bursary bursaryref09.Right -/
def ref09_Right_l1 (n : Nat) : Nat → (List Edge) × Int × Unit → Option Bool := loopF fun r1 ⟨v1, v2, _⟩ =>
    cond (decide (v2 < (v1.length : Int)))
      ((idx v1 v2).bind fun x3 =>
      jn (fun (b4 : Bool) =>
          jn (fun (b6 : Bool) =>
              jn (fun (b8 : Bool) =>
                  cond b8
                    (some false)
                    (r1 (v1, (IntKind.wrap .i64 (v2 + 1)), ()))) fun k9 =>
              cond b6
                (k9 true)
                (jn (fun (b10 : Bool) =>
                    k9 b10) fun k11 =>
                cond (decide (v2 > 0))
                  ((idx v1 (IntKind.wrap .i64 (v2 - 1))).bind fun x12 =>
                  (idx v1 v2).bind fun x13 =>
                  (ref09_before n x12 x13).bind fun y14 =>
                  k11 (!y14))
                  (k11 false))) fun k7 =>
          cond b4
            (k7 true)
            ((idx v1 v2).bind fun x15 =>
            (idx v1 v2).bind fun x16 =>
            k7 (x15.from_ == x16.to))) fun k5 =>
      cond (decide (x3.from_ ≤ 0))
        (k5 true)
        ((idx v1 v2).bind fun x17 =>
        k5 (decide (x17.to ≤ 0))))
      ((ref09_Names n v1).bind fun y18 =>
      some (decide ((y18.length : Int) ≤ 8)))
def ref09_Right (n : Nat) (p0 : List Edge) : Option Bool :=
  ref09_Right_l1 n n (p0, 0, ())
@[reducible] def ref09_Right_ct : Ct tab := ⟨13, [.one (.d (.sl (.st 0)))], [], [.one (.d .bool)], [], Bool, fun y => (y, ()), fun y => y.1, fun _ => rfl, fun n x => ref09_Right n x.1⟩
theorem ref09_Right_ok : OkC Try.prog tab ref09_Right_ct := fn_ok (W := ⟨Try.prog, tab, tyOf, [ref09_before_ct, ref09_Names_ct], addO, dpO, false⟩) ⟨tabOk, ⟨ref09_before_ok, ref09_Names_ok, trivial⟩, addOk⟩ (by kernel_rfl) 58 Try.f13 (.sq (.n) (.sq (.sq (.n) (.bk none (.lp ⟨[(0, .one (.d (.sl (.st 0)))), (3, .one (.d (.int .i64)))], [], []⟩ (.n)))) (.n))) Try.func13 Try.call13 rfl (by kernel_rfl) (by kernel_rfl) (by kernel_rfl) fun n x => by kernel_rfl

/-! bursary bursaryref09.in -/
def ref09_in_l1 (n : Nat) : Nat → (List Int) × Int × Int × Unit → Option Bool := loopF fun r1 ⟨v1, v2, v3, _⟩ =>
    cond (decide (v3 < (v1.length : Int)))
      ((idx v1 v3).bind fun x4 =>
      cond (x4 == v2)
        (some true)
        (r1 (v1, v2, (IntKind.wrap .i64 (v3 + 1)), ())))
      (some false)
def ref09_in (n : Nat) (p0 : List Int) (p1 : Int) : Option Bool :=
  ref09_in_l1 n n (p0, p1, 0, ())
@[reducible] def ref09_in_ct : Ct tab := ⟨44, [.one (.d (.sl (.int .i64))), .one (.d (.int .i64))], [], [.one (.d .bool)], [], Bool, fun y => (y, ()), fun y => y.1, fun _ => rfl, fun n x => ref09_in n x.1 x.2.1⟩
theorem ref09_in_ok : OkC Try.prog tab ref09_in_ct := fn_ok (W := ⟨Try.prog, tab, tyOf, [], addO, dpO, false⟩) ⟨tabOk, trivial, addOk⟩ (by kernel_rfl) 18 Try.f44 (.sq (.n) (.sq (.sq (.n) (.bk none (.lp ⟨[(0, .one (.d (.sl (.int .i64)))), (1, .one (.d (.int .i64))), (5, .one (.d (.int .i64)))], [], []⟩ (.n)))) (.n))) Try.func44 Try.call44 rfl (by kernel_rfl) (by kernel_rfl) (by kernel_rfl) fun n x => by kernel_rfl

/-! bursary bursaryref09.Reach -/
def ref09_Reach_j3 (n : Nat) (r2 : (List Edge) × Int × Int × Int × (List Int) × Unit → Option ((List Int))) : (List Edge) × Int × Int × Int × (List Int) × Unit → Option ((List Int)) := fun ⟨v13, v14, v15, v16, v17, _⟩ =>
    r2 (v13, v14, v15, (IntKind.wrap .i64 (v16 + 1)), v17, ())
def ref09_Reach_l2 (n : Nat) (r1 : (List Edge) × Int × Int × (List Int) × Unit → Option ((List Int))) : Nat → (List Edge) × Int × Int × Int × (List Int) × Unit → Option ((List Int)) := loopF fun r2 ⟨v5, v6, v7, v8, v9, _⟩ =>
    cond (decide (v8 < (v5.length : Int)))
      ((idx v5 v8).bind fun x10 =>
      jn (fun (b11 : Bool) =>
          jn (ref09_Reach_j3 n r2) fun j3 =>
          cond b11
            ((idx v5 v8).bind fun x18 =>
            (ref09_with n v9 x18.to).bind fun y19 =>
            j3 (v5, v6, v7, v8, y19, ()))
            (j3 (v5, v6, v7, v8, v9, ()))) fun k12 =>
      cond (x10.from_ == v6)
        (k12 true)
        ((idx v5 v8).bind fun x20 =>
        (ref09_in n v9 x20.from_).bind fun y21 =>
        k12 y21))
      (r1 (v5, v6, (IntKind.wrap .i64 (v7 + 1)), v9, ()))
def ref09_Reach_l1 (n : Nat) : Nat → (List Edge) × Int × Int × (List Int) × Unit → Option ((List Int)) := loopF fun r1 ⟨v1, v2, v3, v4, _⟩ =>
    cond (decide (v3 < 9))
      (ref09_Reach_l2 n r1 n (v1, v2, v3, 0, v4, ()))
      (some v4)
def ref09_Reach (n : Nat) (p0 : List Edge) (p1 : Int) : Option ((List Int)) :=
  ref09_Reach_l1 n n (p0, p1, 0, ([] : List Int), ())
/-! bursary bursaryref09.Bound -/
def ref09_Bound_j2 (n : Nat) (r1 : (List Edge) × Int × Int × (List Int) × (List Int) × Unit → Option ((List Int))) : (List Edge) × Int × Int × (List Int) × (List Int) × Unit → Option ((List Int)) := fun ⟨v11, v12, v13, v14, v15, _⟩ =>
    r1 (v11, v12, (IntKind.wrap .i64 (v13 + 1)), v14, v15, ())
def ref09_Bound_l1 (n : Nat) : Nat → (List Edge) × Int × Int × (List Int) × (List Int) × Unit → Option ((List Int)) := loopF fun r1 ⟨v2, v3, v4, v5, v6, _⟩ =>
    cond (decide (v4 < (v6.length : Int)))
      ((idx v6 v4).bind fun x7 =>
      (idx v6 v4).bind fun x8 =>
      (ref09_Reach n v2 x8).bind fun y9 =>
      (ref09_in n y9 v3).bind fun y10 =>
      jn (ref09_Bound_j2 n r1) fun j2 =>
      cond y10
        ((idx v6 v4).bind fun x16 =>
        (idx v6 v4).bind fun x17 =>
        (app 8 v5 ([x17] : List Int)).bind fun l18 =>
        j2 (v2, v3, v4, l18, v6, ()))
        (j2 (v2, v3, v4, v5, v6, ())))
      (some v5)
def ref09_Bound (n : Nat) (p0 : List Edge) (p1 : Int) : Option ((List Int)) :=
  (ref09_Reach n p0 p1).bind fun y1 =>
  ref09_Bound_l1 n n (p0, p1, 0, ([] : List Int), y1, ())
/-! bursary bursaryref09.Victim -/
def ref09_Victim (n : Nat) (p0 : List Edge) (p1 : Int) : Option Int :=
  (ref09_Bound n p0 p1).bind fun y1 =>
  cond ((y1.length : Int) == 0)
    (some 0)
    ((idx y1 (IntKind.wrap .i64 ((y1.length : Int) - 1))).bind fun x2 =>
    (idx y1 (IntKind.wrap .i64 ((y1.length : Int) - 1))).bind fun x3 =>
    some x3)
/-! bursary bursaryref09.Without -/
def ref09_Without_j2 (n : Nat) (r1 : (List Edge) × Int × Int × (List Edge) × Unit → Option ((List Edge))) : (List Edge) × Int × Int × (List Edge) × Unit → Option ((List Edge)) := fun ⟨v8, v9, v10, v11, _⟩ =>
    r1 (v8, v9, (IntKind.wrap .i64 (v10 + 1)), v11, ())
def ref09_Without_l1 (n : Nat) : Nat → (List Edge) × Int × Int × (List Edge) × Unit → Option ((List Edge)) := loopF fun r1 ⟨v1, v2, v3, v4, _⟩ =>
    cond (decide (v3 < (v1.length : Int)))
      ((idx v1 v3).bind fun x5 =>
      jn (fun (b6 : Bool) =>
          jn (ref09_Without_j2 n r1) fun j2 =>
          cond b6
            ((idx v1 v3).bind fun x12 =>
            (app 16 v4 ([x12] : List Edge)).bind fun l13 =>
            j2 (v1, v2, v3, l13, ()))
            (j2 (v1, v2, v3, v4, ()))) fun k7 =>
      cond (x5.from_ != v2)
        ((idx v1 v3).bind fun x14 =>
        k7 (x14.to != v2))
        (k7 false))
      (some v4)
def ref09_Without (n : Nat) (p0 : List Edge) (p1 : Int) : Option ((List Edge)) :=
  ref09_Without_l1 n n (p0, p1, 0, ([] : List Edge), ())
/-! bursary bursaryref09.Break -/
def ref09_Break_j1 (n : Nat) : (List Edge) × (List Int) × Unit → Option ((List Edge) × (List Int)) := fun ⟨v1, v2, _⟩ =>
    some (v1, v2)
def ref09_Break_l2 (n : Nat) (j1 : (List Edge) × (List Int) × Unit → Option ((List Edge) × (List Int))) : Nat → (List Edge) × Int × Int × (List Int) × Unit → Option ((List Edge) × (List Int)) := loopF fun r2 ⟨v3, v4, v5, v6, _⟩ =>
    cond (decide (v5 < 9))
      ((ref09_Victim n v3 v4).bind fun y7 =>
      cond (y7 == 0)
        (j1 (v3, v6, ()))
        ((app 8 v6 ([y7] : List Int)).bind fun l8 =>
        (ref09_Without n v3 y7).bind fun y9 =>
        r2 (y9, v4, (IntKind.wrap .i64 (v5 + 1)), l8, ())))
      (j1 (v3, v6, ()))
def ref09_Break (n : Nat) (p0 : List Edge) (p1 : Int) : Option ((List Edge) × (List Int)) :=
  jn (ref09_Break_j1 n) fun j1 =>
  ref09_Break_l2 n j1 n (p0, p1, 0, ([] : List Int), ())
/-! bursary bursaryref09.SameInts -/
def ref09_SameInts_l1 (n : Nat) : Nat → (List Int) × (List Int) × Int × Unit → Option Bool := loopF fun r1 ⟨v1, v2, v3, _⟩ =>
    cond (decide (v3 < (v1.length : Int)))
      ((idx v1 v3).bind fun x4 =>
      (idx v2 v3).bind fun x5 =>
      cond (x4 != x5)
        (some false)
        (r1 (v1, v2, (IntKind.wrap .i64 (v3 + 1)), ())))
      (some true)
def ref09_SameInts (n : Nat) (p0 : List Int) (p1 : List Int) : Option Bool :=
  cond ((p0.length : Int) != (p1.length : Int))
    (some false)
    (ref09_SameInts_l1 n n (p0, p1, 0, ()))
@[reducible] def ref09_SameInts_ct : Ct tab := ⟨15, [.one (.d (.sl (.int .i64))), .one (.d (.sl (.int .i64)))], [], [.one (.d .bool)], [], Bool, fun y => (y, ()), fun y => y.1, fun _ => rfl, fun n x => ref09_SameInts n x.1 x.2.1⟩
theorem ref09_SameInts_ok : OkC Try.prog tab ref09_SameInts_ct := fn_ok (W := ⟨Try.prog, tab, tyOf, [], addO, dpO, false⟩) ⟨tabOk, trivial, addOk⟩ (by kernel_rfl) 26 Try.f15 (.sq (.n) (.sq (.n) (.sq (.sq (.n) (.bk none (.lp ⟨[(0, .one (.d (.sl (.int .i64)))), (1, .one (.d (.sl (.int .i64)))), (5, .one (.d (.int .i64)))], [], []⟩ (.n)))) (.n)))) Try.func15 Try.call15 rfl (by kernel_rfl) (by kernel_rfl) (by kernel_rfl) fun n x => by kernel_rfl

/-! bursary bursarylaw09.WaitsBreaks -/
/-! bursary bursaryref09.Cycles -/
def ref09_Cycles_j4 (n : Nat) (r3 : (List Edge) × (List Int) × Int × Int × (List (List Int)) × Unit → Option ((List (List Int)))) : (List Edge) × (List Int) × Int × Int × (List (List Int)) × Unit → Option ((List (List Int))) := fun ⟨v29, v30, v31, v32, v33, _⟩ =>
    r3 (v29, v30, v31, (IntKind.wrap .i64 (v32 + 1)), v33, ())
def ref09_Cycles_l3 (n : Nat) (self : (List Edge) × (List Int) × Unit → Option ((List (List Int)))) : Nat → (List Edge) × (List Int) × Int × Int × (List (List Int)) × Unit → Option ((List (List Int))) := loopF fun r3 ⟨v19, v20, v21, v22, v23, _⟩ =>
    cond (decide (v22 < (v19.length : Int)))
      ((idx v19 v22).bind fun x24 =>
      jn (fun (b25 : Bool) =>
          jn (fun (b27 : Bool) =>
              jn (ref09_Cycles_j4 n r3) fun j4 =>
              cond b27
                ((app 8 ([] : List Int) v20).bind fun l34 =>
                (idx v19 v22).bind fun x35 =>
                (app 8 l34 ([x35.to] : List Int)).bind fun l36 =>
                (self (v19, l36, ())).bind fun y37 =>
                (app 24 v23 y37).bind fun l38 =>
                j4 (v19, v20, v21, v22, l38, ()))
                (j4 (v19, v20, v21, v22, v23, ()))) fun k28 =>
          cond b25
            ((idx v19 v22).bind fun x39 =>
            (ref09_in n v20 x39.to).bind fun y40 =>
            k28 (!y40))
            (k28 false)) fun k26 =>
      cond (x24.from_ == v21)
        ((idx v19 v22).bind fun x41 =>
        (idx v20 0).bind fun x42 =>
        k26 (x41.to != x42))
        (k26 false))
      (some v23)
def ref09_Cycles_j2 (n : Nat) (self : (List Edge) × (List Int) × Unit → Option ((List (List Int)))) : (List Edge) × (List Int) × Int × (List (List Int)) × Unit → Option ((List (List Int))) := fun ⟨v15, v16, v17, v18, _⟩ =>
    ref09_Cycles_l3 n self n (v15, v16, v17, 0, v18, ())
def ref09_Cycles_l1 (n : Nat) (self : (List Edge) × (List Int) × Unit → Option ((List (List Int)))) : Nat → (List Edge) × (List Int) × Int × Bool × Int × (List (List Int)) × Unit → Option ((List (List Int))) := loopF fun r1 ⟨v2, v3, v4, v5, v6, v7, _⟩ =>
    cond (decide (v6 < (v2.length : Int)))
      (jn (fun (b8 : Bool) =>
          r1 (v2, v3, v4, b8, (IntKind.wrap .i64 (v6 + 1)), v7, ())) fun k9 =>
      cond v5
        (k9 true)
        ((idx v2 v6).bind fun x10 =>
        jn (fun (b11 : Bool) =>
            k9 b11) fun k12 =>
        cond (x10.from_ == v4)
          ((idx v2 v6).bind fun x13 =>
          (idx v3 0).bind fun x14 =>
          k12 (x13.to == x14))
          (k12 false)))
      (jn (ref09_Cycles_j2 n self) fun j2 =>
      cond v5
        ((app 8 ([] : List Int) v3).bind fun l43 =>
        (app 24 v7 ([l43] : List (List Int))).bind fun l44 =>
        j2 (v2, v3, v4, l44, ()))
        (j2 (v2, v3, v4, v7, ())))
def ref09_Cycles_b (n : Nat) (self : (List Edge) × (List Int) × Unit → Option ((List (List Int)))) (p0 : List Edge) (p1 : List Int) : Option ((List (List Int))) :=
  (idx p1 (IntKind.wrap .i64 ((p1.length : Int) - 1))).bind fun x1 =>
  ref09_Cycles_l1 n self n (p0, p1, x1, false, 0, ([] : List (List Int)), ())
def ref09_Cycles (n : Nat) (p0 : List Edge) (p1 : List Int) : Option ((List (List Int))) := recF (fun n self x => ref09_Cycles_b n self x.1 x.2.1) n (p0, p1, ())
@[reducible] def ref09_Cycles_ct : Ct tab := ⟨17, [.one (.d (.sl (.st 0))), .one (.d (.sl (.int .i64)))], [], [.one (.own 0)], [(none, .row 24 (.sl (.int .i64)))], ((List (List Int))), fun y => (y, ()), fun y => y.1, fun _ => rfl, fun n x => ref09_Cycles n x.1 x.2.1⟩
theorem ref09_Cycles_ok : OkC Try.prog tab ref09_Cycles_ct := fn_rec (W := ⟨Try.prog, tab, tyOf, [ref09_in_ct], addO, dpO, false⟩) ⟨tabOk, ⟨ref09_in_ok, trivial⟩, addOk⟩ (by kernel_rfl) 99 Try.f17 (.sq (.n) (.sq (.n) (.sq (.n) (.sq (.n) (.sq (.sq (.n) (.bk none (.lp ⟨[(0, .one (.d (.sl (.st 0)))), (1, .one (.d (.sl (.int .i64)))), (5, .one (.own 0)), (6, .one (.d (.int .i64))), (7, .one (.d .bool)), (8, .one (.d (.int .i64)))], [.row 24 (.sl (.int .i64))], []⟩ (.n)))) (.sq (.sq (.n) (.cd (some ⟨[(0, .one (.d (.sl (.st 0)))), (1, .one (.d (.sl (.int .i64)))), (5, .one (.own 0)), (6, .one (.d (.int .i64)))], [.row 24 (.sl (.int .i64))], []⟩) (.n) (.n))) (.sq (.sq (.n) (.bk none (.lp ⟨[(0, .one (.d (.sl (.st 0)))), (1, .one (.d (.sl (.int .i64)))), (5, .one (.own 0)), (6, .one (.d (.int .i64))), (9, .one (.d (.int .i64)))], [.row 24 (.sl (.int .i64))], []⟩ (.sq (.n) (.sq (.bk none (.sq (.n) (.cd (some ⟨[(0, .one (.d (.sl (.st 0)))), (1, .one (.d (.sl (.int .i64)))), (5, .one (.own 0)), (6, .one (.d (.int .i64))), (9, .one (.d (.int .i64)))], [.row 24 (.sl (.int .i64))], []⟩) (.n) (.n)))) (.n)))))) (.n)))))))) Try.func17 Try.call17 rfl (by kernel_rfl) (by kernel_rfl) (by kernel_rfl) (fun n self x => ref09_Cycles_b n self x.1 x.2.1) (fun _ => rfl) (fun _ _ => rfl) fun self n x => by kernel_rfl

/-! bursary bursarylaw09.WaitsCycles -/
def law09_WaitsCycles_l1 (n : Nat) : Nat → Int × Int × (List (List Int)) × (List (List Int)) × Unit → Option Bool := loopF fun r1 ⟨v9, v10, v11, v12, _⟩ =>
    cond (decide (v10 < v9))
      ((idx v11 v10).bind fun x13 =>
      (idx v11 v10).bind fun x14 =>
      (idx v12 v10).bind fun x15 =>
      (idx v12 v10).bind fun x16 =>
      (ref09_SameInts n x14 x16).bind fun y17 =>
      cond (!y17)
        (some false)
        (r1 (v9, (IntKind.wrap .i64 (v10 + 1)), v11, v12, ())))
      (some true)
def law09_WaitsCycles (n : Nat) (p0 : List Edge) (p1 : Int) : Option Bool :=
  (law09_wakes n).bind fun y1 =>
  cond (!y1)
    (some false)
    (cond (decide ((p0.length : Int) > 80))
      (some true)
      ((waits_Cycles n p0 p1).bind fun y2 =>
      (ref09_Right n p0).bind fun y3 =>
      cond (!y3)
        (jn (fun (b4 : Bool) =>
            some b4) fun k5 =>
        cond ((y2.2.length : Int) == 0)
          (k5 (y2.1 == 190))
          (k5 false))
        ((ref09_Cycles n p0 ([p1] : List Int)).bind fun y6 =>
        jn (fun (b7 : Bool) =>
            cond b7
              (some false)
              (law09_WaitsCycles_l1 n n ((y2.2.length : Int), 0, y2.2, y6, ()))) fun k8 =>
        cond (y2.1 != 0)
          (k8 true)
          (k8 ((y2.2.length : Int) != (y6.length : Int))))))
@[reducible] def law09_WaitsCycles_ct : Ct tab := ⟨4, [.one (.d (.sl (.st 0))), .one (.d (.int .i64))], [], [.one (.d .bool)], [], Bool, fun y => (y, ()), fun y => y.1, fun _ => rfl, fun n x => law09_WaitsCycles n x.1 x.2.1⟩
theorem law09_WaitsCycles_ok : OkC Try.prog tab law09_WaitsCycles_ct := fn_ok (W := ⟨Try.prog, tab, tyOf, [law09_wakes_ct, waits_Cycles_ct, ref09_Right_ct, ref09_Cycles_ct, ref09_SameInts_ct], addO, dpO, false⟩) ⟨tabOk, ⟨law09_wakes_ok, waits_Cycles_ok, ref09_Right_ok, ref09_Cycles_ok, ref09_SameInts_ok, trivial⟩, addOk⟩ (by kernel_rfl) 59 Try.f4 (.sq (.n) (.sq (.n) (.sq (.n) (.sq (.n) (.sq (.n) (.sq (.n) (.sq (.n) (.sq (.sq (.n) (.bk none (.lp ⟨[(5, .one (.own 0)), (7, .one (.own 1)), (44, .one (.d (.int .i64))), (45, .one (.d (.int .i64)))], [.row 24 (.sl (.int .i64)), .row 24 (.sl (.int .i64))], []⟩ (.n)))) (.n))))))))) Try.func4 Try.call4 rfl (by kernel_rfl) (by kernel_rfl) (by kernel_rfl) fun n x => by kernel_rfl

/-! bursary waits.Without -/
/-! bursary waits.Leads -/
/-! bursary bursarylaw09.WaitsYoungest -/
/-! bursary waits.Bound -/
/-! bursary waits.Check -/
/-! bursary waits.Victim -/
/-! bursary bursarylaw09.WaitsTells -/
/-! slices.Concat   bursary api.Edge bursary api.Edge  -/
end
end Go.Proofs.Ytkfemopgfjooeaa
