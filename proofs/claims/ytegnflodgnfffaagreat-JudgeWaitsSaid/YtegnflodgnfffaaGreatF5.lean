/- Functions of the program: plain twins and their contracts, printed by program. -/
import Derived.Test.YtegnflodgnfffaaGreatTypes
import Derived.Test.YtegnflodgnfffaaGreatF4
namespace Go.Proofs.YtegnflodgnfffaaGreat
open Go Go.Bur Go.RowKit
set_option linter.unusedVariables false
set_option linter.unusedSimpArgs false
set_option maxRecDepth 100000
noncomputable section
/-! bursary bursaryref27.Edges -/
def ref27_Edges_l2 (n : Nat) (r1 : (List Int) × (List Edge) × Int × Locks × Unit → Option ((List Edge))) : Nat → (List Int) × (List Edge) × Int × Int × Locks × (List Edge) × (List Int) × Unit → Option ((List Edge)) := loopF fun r2 ⟨v7, v8, v9, v10, v11, v12, v13, _⟩ =>
    cond (decide (v10 < (v13.length : Int)))
      ((idx v7 v9).bind fun x14 =>
      (idx v13 v10).bind fun x15 =>
      (idx v13 v10).bind fun x16 =>
      (app 16 v12 ([(Edge.mk x14 x16)] : List Edge)).bind fun l17 =>
      r2 (v7, v8, v9, (IntKind.wrap .i64 (v10 + 1)), v11, l17, v13, ()))
      ((ref09_Add n v8 v12).bind fun y18 =>
      r1 (v7, y18, (IntKind.wrap .i64 (v9 + 1)), v11, ()))
def ref27_Edges_l1 (n : Nat) : Nat → (List Int) × (List Edge) × Int × Locks × Unit → Option ((List Edge)) := loopF fun r1 ⟨v1, v2, v3, v4, _⟩ =>
    cond (decide (v3 < (v1.length : Int)))
      ((idx v1 v3).bind fun x5 =>
      (ref08_Blockers n v4 x5).bind fun y6 =>
      ref27_Edges_l2 n r1 n (v1, v2, v3, 0, v4, ([] : List Edge), y6, ()))
      (some v2)
def ref27_Edges (n : Nat) (p0 : Locks) (p1 : List Int) : Option ((List Edge)) :=
  ref27_Edges_l1 n n (p1, ([] : List Edge), 0, p0, ())
@[reducible] def ref27_Edges_ct : Ct tab := ⟨15, [.st 21, .one (.d (.sl (.int .i64)))], [], [.one (.d (.sl (.st 22)))], [], ((List Edge)), fun y => (y, ()), fun y => y.1, fun _ => rfl, fun n x => ref27_Edges n x.1 x.2.1⟩
theorem ref27_Edges_ok : OkC Tryz.prog tab ref27_Edges_ct := fn_ok (W := ⟨Tryz.prog, tab, tyOf, [ref08_Blockers_ct, ref09_Add_ct], addO, dpO, false⟩) ⟨tabOk, ⟨ref08_Blockers_ok, ref09_Add_ok, trivial⟩, addOk⟩ (by kernel_rfl) 44 Tryz.f15 (.sq (.n) (.sq (.n) (.sq (.sq (.n) (.bk none (.lp ⟨[(1, .one (.d (.sl (.int .i64)))), (2, .one (.box 0 0)), (5, .one (.d (.sl (.st 22)))), (6, .one (.d (.int .i64)))], [.bst 21], []⟩ (.sq (.n) (.sq (.bk none (.sq (.n) (.sq (.n) (.sq (.sq (.n) (.bk none (.lp ⟨[(1, .one (.d (.sl (.int .i64)))), (2, .one (.box 0 0)), (5, .one (.d (.sl (.st 22)))), (6, .one (.d (.int .i64))), (7, .one (.own 1)), (8, .one (.own 2)), (9, .one (.d (.int .i64)))], [.bst 21, .row 97 (.st 22), .row 3 (.int .i64)], []⟩ (.n)))) (.n))))) (.n)))))) (.n)))) Tryz.func15 Tryz.call15 rfl (by kernel_rfl) (by kernel_rfl) (by kernel_rfl) fun n x => by kernel_rfl

/-! bursary bursaryref09.with -/
def ref09_with_j3 (n : Nat) (r1 : (List Int) × Int × Bool × Int × (List Int) × Unit → Option ((List Int))) : (List Int) × Int × Bool × Int × (List Int) × Unit → Option ((List Int)) := fun ⟨v15, v16, v17, v18, v19, _⟩ =>
    (idx v15 v18).bind fun x20 =>
    (app 8 v19 ([x20] : List Int)).bind fun l21 =>
    r1 (v15, v16, v17, (IntKind.wrap .i64 (v18 + 1)), l21, ())
def ref09_with_j2 (n : Nat) (r1 : (List Int) × Int × Bool × Int × (List Int) × Unit → Option ((List Int))) : (List Int) × Int × Bool × Int × (List Int) × Unit → Option ((List Int)) := fun ⟨v7, v8, v9, v10, v11, _⟩ =>
    jn (fun (b12 : Bool) =>
        jn (ref09_with_j3 n r1) fun j3 =>
        cond b12
          ((app 8 v11 ([v8] : List Int)).bind fun l22 =>
          j3 (v7, v8, true, v10, l22, ()))
          (j3 (v7, v8, v9, v10, v11, ()))) fun k13 =>
    cond (!v9)
      ((idx v7 v10).bind fun x23 =>
      k13 (decide (v8 < x23)))
      (k13 false)
def ref09_with_j4 (n : Nat) : (List Int) × Unit → Option ((List Int)) := fun ⟨v25, _⟩ =>
    some v25
def ref09_with_l1 (n : Nat) : Nat → (List Int) × Int × Bool × Int × (List Int) × Unit → Option ((List Int)) := loopF fun r1 ⟨v1, v2, v3, v4, v5, _⟩ =>
    cond (decide (v4 < (v1.length : Int)))
      ((idx v1 v4).bind fun x6 =>
      jn (ref09_with_j2 n r1) fun j2 =>
      cond (x6 == v2)
        (j2 (v1, v2, true, v4, v5, ()))
        (j2 (v1, v2, v3, v4, v5, ())))
      (jn (ref09_with_j4 n) fun j4 =>
      cond (!v3)
        ((app 8 v5 ([v2] : List Int)).bind fun l26 =>
        j4 (l26, ()))
        (j4 (v5, ())))
def ref09_with (n : Nat) (p0 : List Int) (p1 : Int) : Option ((List Int)) :=
  ref09_with_l1 n n (p0, p1, false, 0, ([] : List Int), ())
@[reducible] def ref09_with_ct : Ct tab := ⟨77, [.one (.d (.sl (.int .i64))), .one (.d (.int .i64))], [], [.one (.own 0)], [(none, .row 3 (.int .i64))], ((List Int)), fun y => (y, ()), fun y => y.1, fun _ => rfl, fun n x => ref09_with n x.1 x.2.1⟩
theorem ref09_with_ok : OkC Tryz.prog tab ref09_with_ct := fn_ok (W := ⟨Tryz.prog, tab, tyOf, [], addO, dpO, false⟩) ⟨tabOk, trivial, addOk⟩ (by kernel_rfl) 48 Tryz.f77 (.sq (.n) (.sq (.n) (.sq (.n) (.sq (.sq (.n) (.bk none (.lp ⟨[(0, .one (.d (.sl (.int .i64)))), (1, .one (.d (.int .i64))), (5, .one (.own 0)), (6, .one (.d .bool)), (7, .one (.d (.int .i64)))], [.row 3 (.int .i64)], []⟩ (.sq (.n) (.sq (.bk none (.sq (.sq (.n) (.cd (some ⟨[(0, .one (.d (.sl (.int .i64)))), (1, .one (.d (.int .i64))), (5, .one (.own 0)), (6, .one (.d .bool)), (7, .one (.d (.int .i64)))], [.row 3 (.int .i64)], []⟩) (.n) (.n))) (.sq (.sq (.n) (.cd (some ⟨[(0, .one (.d (.sl (.int .i64)))), (1, .one (.d (.int .i64))), (5, .one (.own 0)), (6, .one (.d .bool)), (7, .one (.d (.int .i64)))], [.row 3 (.int .i64)], []⟩) (.n) (.n))) (.n)))) (.n)))))) (.sq (.sq (.n) (.cd (some ⟨[(5, .one (.own 0))], [.row 3 (.int .i64)], []⟩) (.n) (.n))) (.n)))))) Tryz.func77 Tryz.call77 rfl (by kernel_rfl) (by kernel_rfl) (by kernel_rfl) fun n x => by kernel_rfl

/-! bursary bursaryref09.Names -/
def ref09_Names_l1 (n : Nat) : Nat → (List Edge) × Int × (List Int) × Unit → Option ((List Int)) := loopF fun r1 ⟨v1, v2, v3, _⟩ =>
    cond (decide (v2 < (v1.length : Int)))
      ((idx v1 v2).bind fun x4 =>
      (ref09_with n v3 x4.from_).bind fun y5 =>
      (idx v1 v2).bind fun x6 =>
      (ref09_with n y5 x6.to).bind fun y7 =>
      r1 (v1, (IntKind.wrap .i64 (v2 + 1)), y7, ()))
      (some v3)
def ref09_Names (n : Nat) (p0 : List Edge) : Option ((List Int)) :=
  ref09_Names_l1 n n (p0, 0, ([] : List Int), ())
@[reducible] def ref09_Names_ct : Ct tab := ⟨38, [.one (.d (.sl (.st 22)))], [], [.one (.own 0)], [(none, .row 3 (.int .i64))], ((List Int)), fun y => (y, ()), fun y => y.1, fun _ => rfl, fun n x => ref09_Names n x.1⟩
theorem ref09_Names_ok : OkC Tryz.prog tab ref09_Names_ct := fn_ok (W := ⟨Tryz.prog, tab, tyOf, [ref09_with_ct], addO, dpO, false⟩) ⟨tabOk, ⟨ref09_with_ok, trivial⟩, addOk⟩ (by kernel_rfl) 25 Tryz.f38 (.sq (.n) (.sq (.n) (.sq (.sq (.n) (.bk none (.lp ⟨[(0, .one (.d (.sl (.st 22)))), (3, .one (.own 0)), (4, .one (.d (.int .i64)))], [.row 3 (.int .i64)], []⟩ (.n)))) (.n)))) Tryz.func38 Tryz.call38 rfl (by kernel_rfl) (by kernel_rfl) (by kernel_rfl) fun n x => by kernel_rfl

/-! bursary bursaryref09.Right -/
def ref09_Right_l1 (n : Nat) : Nat → (List Edge) × Int × Unit → Option Bool := loopF fun r1 ⟨v1, v2, _⟩ =>
    cond (decide (v2 < (v1.length : Int)))
      ((idx v1 v2).bind fun x3 =>
      jn (fun (b4 : Bool) =>
          jn (fun (b6 : Bool) =>
              jn (fun (b8 : Bool) =>
                  cond b8
                    (some false)
                    (r1 (v1, (IntKind.wrap .i64 (v2 + 1)), ()))) fun k9 =>
              cond b6
                (k9 true)
                (jn (fun (b10 : Bool) =>
                    k9 b10) fun k11 =>
                cond (decide (v2 > 0))
                  ((idx v1 (IntKind.wrap .i64 (v2 - 1))).bind fun x12 =>
                  (idx v1 v2).bind fun x13 =>
                  (ref09_before n x12 x13).bind fun y14 =>
                  k11 (!y14))
                  (k11 false))) fun k7 =>
          cond b4
            (k7 true)
            ((idx v1 v2).bind fun x15 =>
            (idx v1 v2).bind fun x16 =>
            k7 (x15.from_ == x16.to))) fun k5 =>
      cond (decide (x3.from_ ≤ 0))
        (k5 true)
        ((idx v1 v2).bind fun x17 =>
        k5 (decide (x17.to ≤ 0))))
      ((ref09_Names n v1).bind fun y18 =>
      some (decide ((y18.length : Int) ≤ 8)))
def ref09_Right (n : Nat) (p0 : List Edge) : Option Bool :=
  ref09_Right_l1 n n (p0, 0, ())
@[reducible] def ref09_Right_ct : Ct tab := ⟨37, [.one (.d (.sl (.st 22)))], [], [.one (.d .bool)], [], Bool, fun y => (y, ()), fun y => y.1, fun _ => rfl, fun n x => ref09_Right n x.1⟩
theorem ref09_Right_ok : OkC Tryz.prog tab ref09_Right_ct := fn_ok (W := ⟨Tryz.prog, tab, tyOf, [ref09_before_ct, ref09_Names_ct], addO, dpO, false⟩) ⟨tabOk, ⟨ref09_before_ok, ref09_Names_ok, trivial⟩, addOk⟩ (by kernel_rfl) 58 Tryz.f37 (.sq (.n) (.sq (.sq (.n) (.bk none (.lp ⟨[(0, .one (.d (.sl (.st 22)))), (3, .one (.d (.int .i64)))], [], []⟩ (.n)))) (.n))) Tryz.func37 Tryz.call37 rfl (by kernel_rfl) (by kernel_rfl) (by kernel_rfl) fun n x => by kernel_rfl

/-! bursary bursaryref09.in -/
def ref09_in_l1 (n : Nat) : Nat → (List Int) × Int × Int × Unit → Option Bool := loopF fun r1 ⟨v1, v2, v3, _⟩ =>
    cond (decide (v3 < (v1.length : Int)))
      ((idx v1 v3).bind fun x4 =>
      cond (x4 == v2)
        (some true)
        (r1 (v1, v2, (IntKind.wrap .i64 (v3 + 1)), ())))
      (some false)
def ref09_in (n : Nat) (p0 : List Int) (p1 : Int) : Option Bool :=
  ref09_in_l1 n n (p0, p1, 0, ())
@[reducible] def ref09_in_ct : Ct tab := ⟨79, [.one (.d (.sl (.int .i64))), .one (.d (.int .i64))], [], [.one (.d .bool)], [], Bool, fun y => (y, ()), fun y => y.1, fun _ => rfl, fun n x => ref09_in n x.1 x.2.1⟩
theorem ref09_in_ok : OkC Tryz.prog tab ref09_in_ct := fn_ok (W := ⟨Tryz.prog, tab, tyOf, [], addO, dpO, false⟩) ⟨tabOk, trivial, addOk⟩ (by kernel_rfl) 18 Tryz.f79 (.sq (.n) (.sq (.sq (.n) (.bk none (.lp ⟨[(0, .one (.d (.sl (.int .i64)))), (1, .one (.d (.int .i64))), (5, .one (.d (.int .i64)))], [], []⟩ (.n)))) (.n))) Tryz.func79 Tryz.call79 rfl (by kernel_rfl) (by kernel_rfl) (by kernel_rfl) fun n x => by kernel_rfl

/-! bursary bursaryref09.Reach -/
def ref09_Reach_j3 (n : Nat) (r2 : (List Edge) × Int × Int × Int × (List Int) × Unit → Option ((List Int))) : (List Edge) × Int × Int × Int × (List Int) × Unit → Option ((List Int)) := fun ⟨v15, v16, v17, v18, v19, _⟩ =>
    r2 (v15, v16, v17, (IntKind.wrap .i64 (v18 + 1)), v19, ())
def ref09_Reach_l2 (n : Nat) (r1 : (List Edge) × Int × Int × (List Int) × Unit → Option ((List Int))) : Nat → (List Edge) × Int × Int × Int × (List Int) × Unit → Option ((List Int)) := loopF fun r2 ⟨v5, v6, v7, v8, v9, _⟩ =>
    cond (decide (v8 < (v5.length : Int)))
      ((idx v5 v8).bind fun x10 =>
      jn (fun (b11 : Bool) =>
          jn (ref09_Reach_j3 n r2) fun j3 =>
          cond b11
            ((idx v5 v8).bind fun x20 =>
            (ref09_with n v9 x20.to).bind fun y21 =>
            j3 (v5, v6, v7, v8, y21, ()))
            (j3 (v5, v6, v7, v8, v9, ()))) fun k12 =>
      cond (x10.from_ == v6)
        (k12 true)
        ((idx v5 v8).bind fun x22 =>
        (ref09_in n v9 x22.from_).bind fun y23 =>
        k12 y23))
      (r1 (v5, v6, (IntKind.wrap .i64 (v7 + 1)), v9, ()))
def ref09_Reach_l1 (n : Nat) : Nat → (List Edge) × Int × Int × (List Int) × Unit → Option ((List Int)) := loopF fun r1 ⟨v1, v2, v3, v4, _⟩ =>
    cond (decide (v3 < 9))
      (ref09_Reach_l2 n r1 n (v1, v2, v3, 0, v4, ()))
      (some v4)
def ref09_Reach (n : Nat) (p0 : List Edge) (p1 : Int) : Option ((List Int)) :=
  ref09_Reach_l1 n n (p0, p1, 0, ([] : List Int), ())
@[reducible] def ref09_Reach_ct : Ct tab := ⟨78, [.one (.d (.sl (.st 22))), .one (.d (.int .i64))], [], [.one (.own 0)], [(none, .row 3 (.int .i64))], ((List Int)), fun y => (y, ()), fun y => y.1, fun _ => rfl, fun n x => ref09_Reach n x.1 x.2.1⟩
theorem ref09_Reach_ok : OkC Tryz.prog tab ref09_Reach_ct := fn_ok (W := ⟨Tryz.prog, tab, tyOf, [ref09_with_ct, ref09_in_ct], addO, dpO, false⟩) ⟨tabOk, ⟨ref09_with_ok, ref09_in_ok, trivial⟩, addOk⟩ (by kernel_rfl) 42 Tryz.f78 (.sq (.n) (.sq (.n) (.sq (.sq (.n) (.bk none (.lp ⟨[(0, .one (.d (.sl (.st 22)))), (1, .one (.d (.int .i64))), (5, .one (.own 0)), (6, .one (.d (.int .i64)))], [.row 3 (.int .i64)], []⟩ (.sq (.n) (.sq (.bk none (.sq (.n) (.bk none (.lp ⟨[(0, .one (.d (.sl (.st 22)))), (1, .one (.d (.int .i64))), (5, .one (.own 0)), (6, .one (.d (.int .i64))), (7, .one (.d (.int .i64)))], [.row 3 (.int .i64)], []⟩ (.sq (.n) (.sq (.bk none (.sq (.n) (.cd (some ⟨[(0, .one (.d (.sl (.st 22)))), (1, .one (.d (.int .i64))), (5, .one (.own 0)), (6, .one (.d (.int .i64))), (7, .one (.d (.int .i64)))], [.row 3 (.int .i64)], []⟩) (.n) (.n)))) (.n))))))) (.n)))))) (.n)))) Tryz.func78 Tryz.call78 rfl (by kernel_rfl) (by kernel_rfl) (by kernel_rfl) fun n x => by kernel_rfl

/-! bursary bursaryref09.Bound -/
def ref09_Bound_j2 (n : Nat) (r1 : (List Edge) × Int × Int × (List Int) × (List Int) × Unit → Option ((List Int))) : (List Edge) × Int × Int × (List Int) × (List Int) × Unit → Option ((List Int)) := fun ⟨v14, v15, v16, v17, v18, _⟩ =>
    r1 (v14, v15, (IntKind.wrap .i64 (v16 + 1)), v17, v18, ())
def ref09_Bound_l1 (n : Nat) : Nat → (List Edge) × Int × Int × (List Int) × (List Int) × Unit → Option ((List Int)) := loopF fun r1 ⟨v2, v3, v4, v5, v6, _⟩ =>
    cond (decide (v4 < (v6.length : Int)))
      ((idx v6 v4).bind fun x7 =>
      (idx v6 v4).bind fun x8 =>
      (ref09_Reach n v2 x8).bind fun y9 =>
      (ref09_in n y9 v3).bind fun y10 =>
      jn (ref09_Bound_j2 n r1) fun j2 =>
      cond y10
        ((idx v6 v4).bind fun x19 =>
        (idx v6 v4).bind fun x20 =>
        (app 8 v5 ([x20] : List Int)).bind fun l21 =>
        j2 (v2, v3, v4, l21, v6, ()))
        (j2 (v2, v3, v4, v5, v6, ())))
      (some v5)
def ref09_Bound (n : Nat) (p0 : List Edge) (p1 : Int) : Option ((List Int)) :=
  (ref09_Reach n p0 p1).bind fun y1 =>
  ref09_Bound_l1 n n (p0, p1, 0, ([] : List Int), y1, ())
@[reducible] def ref09_Bound_ct : Ct tab := ⟨39, [.one (.d (.sl (.st 22))), .one (.d (.int .i64))], [], [.one (.own 0)], [(none, .row 3 (.int .i64))], ((List Int)), fun y => (y, ()), fun y => y.1, fun _ => rfl, fun n x => ref09_Bound n x.1 x.2.1⟩
theorem ref09_Bound_ok : OkC Tryz.prog tab ref09_Bound_ct := fn_ok (W := ⟨Tryz.prog, tab, tyOf, [ref09_Reach_ct, ref09_in_ct], addO, dpO, false⟩) ⟨tabOk, ⟨ref09_Reach_ok, ref09_in_ok, trivial⟩, addOk⟩ (by kernel_rfl) 33 Tryz.f39 (.sq (.n) (.sq (.n) (.sq (.n) (.sq (.sq (.n) (.bk none (.lp ⟨[(0, .one (.d (.sl (.st 22)))), (1, .one (.d (.int .i64))), (5, .one (.own 0)), (6, .one (.own 1)), (7, .one (.d (.int .i64)))], [.row 3 (.int .i64), .row 3 (.int .i64)], []⟩ (.sq (.n) (.sq (.bk none (.sq (.n) (.cd (some ⟨[(0, .one (.d (.sl (.st 22)))), (1, .one (.d (.int .i64))), (5, .one (.own 0)), (6, .one (.own 1)), (7, .one (.d (.int .i64)))], [.row 3 (.int .i64), .row 3 (.int .i64)], []⟩) (.n) (.n)))) (.n)))))) (.n))))) Tryz.func39 Tryz.call39 rfl (by kernel_rfl) (by kernel_rfl) (by kernel_rfl) fun n x => by kernel_rfl

/-! bursary bursaryref27.Circle -/
def ref27_Circle_l1 (n : Nat) : Nat → (List Edge) × Int × (List Int) × Unit → Option Bool := loopF fun r1 ⟨v3, v4, v5, _⟩ =>
    cond (decide (v4 < (v5.length : Int)))
      ((idx v5 v4).bind fun x6 =>
      (idx v5 v4).bind fun x7 =>
      (ref09_Bound n v3 x7).bind fun y8 =>
      cond (decide ((y8.length : Int) > 0))
        (some true)
        (r1 (v3, (IntKind.wrap .i64 (v4 + 1)), v5, ())))
      (some false)
def ref27_Circle (n : Nat) (p0 : List Edge) : Option Bool :=
  (ref09_Right n p0).bind fun y1 =>
  cond (!y1)
    (some false)
    ((ref09_Names n p0).bind fun y2 =>
    ref27_Circle_l1 n n (p0, 0, y2, ()))
@[reducible] def ref27_Circle_ct : Ct tab := ⟨16, [.one (.d (.sl (.st 22)))], [], [.one (.d .bool)], [], Bool, fun y => (y, ()), fun y => y.1, fun _ => rfl, fun n x => ref27_Circle n x.1⟩
theorem ref27_Circle_ok : OkC Tryz.prog tab ref27_Circle_ct := fn_ok (W := ⟨Tryz.prog, tab, tyOf, [ref09_Right_ct, ref09_Names_ct, ref09_Bound_ct], addO, dpO, false⟩) ⟨tabOk, ⟨ref09_Right_ok, ref09_Names_ok, ref09_Bound_ok, trivial⟩, addOk⟩ (by kernel_rfl) 24 Tryz.f16 (.sq (.n) (.sq (.n) (.sq (.n) (.sq (.sq (.n) (.bk none (.lp ⟨[(0, .one (.d (.sl (.st 22)))), (3, .one (.own 0)), (4, .one (.d (.int .i64)))], [.row 3 (.int .i64)], []⟩ (.n)))) (.n))))) Tryz.func16 Tryz.call16 rfl (by kernel_rfl) (by kernel_rfl) (by kernel_rfl) fun n x => by kernel_rfl

/-! bursary bursaryref09.Same -/
def ref09_Same_l1 (n : Nat) : Nat → (List Edge) × (List Edge) × Int × Unit → Option Bool := loopF fun r1 ⟨v1, v2, v3, _⟩ =>
    cond (decide (v3 < (v1.length : Int)))
      ((idx v1 v3).bind fun x4 =>
      (idx v2 v3).bind fun x5 =>
      cond (!(Edge.eqb x4 x5))
        (some false)
        (r1 (v1, v2, (IntKind.wrap .i64 (v3 + 1)), ())))
      (some true)
def ref09_Same (n : Nat) (p0 : List Edge) (p1 : List Edge) : Option Bool :=
  cond ((p0.length : Int) != (p1.length : Int))
    (some false)
    (ref09_Same_l1 n n (p0, p1, 0, ()))
@[reducible] def ref09_Same_ct : Ct tab := ⟨17, [.one (.d (.sl (.st 22))), .one (.d (.sl (.st 22)))], [], [.one (.d .bool)], [], Bool, fun y => (y, ()), fun y => y.1, fun _ => rfl, fun n x => ref09_Same n x.1 x.2.1⟩
theorem ref09_Same_ok : OkC Tryz.prog tab ref09_Same_ct := fn_ok (W := ⟨Tryz.prog, tab, tyOf, [], addO, dpO, false⟩) ⟨tabOk, trivial, addOk⟩ (by kernel_rfl) 26 Tryz.f17 (.sq (.n) (.sq (.n) (.sq (.sq (.n) (.bk none (.lp ⟨[(0, .one (.d (.sl (.st 22)))), (1, .one (.d (.sl (.st 22)))), (5, .one (.d (.int .i64)))], [], []⟩ (.n)))) (.n)))) Tryz.func17 Tryz.call17 rfl (by kernel_rfl) (by kernel_rfl) (by kernel_rfl) fun n x => by kernel_rfl

/-! bursary bursarylaw27.JudgeWaits -/
def law27_JudgeWaits_j1 (n : Nat) : Int × Int × (List Edge) × Int × (List Edge) × Unit → Option Bool := fun ⟨v15, v16, v17, v18, v19, _⟩ =>
    jn (fun (b20 : Bool) =>
        jn (fun (b22 : Bool) =>
            some b22) fun k23 =>
        cond b20
          (k23 (v16 == v18))
          (k23 false)) fun k21 =>
    cond (v15 == 0)
      ((ref09_Same n v19 v17).bind fun y24 =>
      k21 y24)
      (k21 false)
def law27_JudgeWaits (n : Nat) (p0 : Locks) (p1 : List Int) : Option Bool :=
  (law27_wakes n).bind fun y1 =>
  cond (!y1)
    (some false)
    ((law27_overLocks n p0).bind fun y2 =>
    jn (fun (b3 : Bool) =>
        cond b3
          (some true)
          ((app 8 ([] : List Int) p1).bind fun l5 =>
          (judge_Edges n p0 l5).bind fun y6 =>
          (judge_Free n p0 p1).bind fun y7 =>
          (ref08_Right n p0).bind fun y8 =>
          cond (!y8)
            (jn (fun (b9 : Bool) =>
                jn (fun (b11 : Bool) =>
                    some b11) fun k12 =>
                cond b9
                  (k12 (y7 == 180))
                  (k12 false)) fun k10 =>
            cond ((y6.2.length : Int) == 0)
              (k10 (y6.1 == 180))
              (k10 false))
            ((ref27_Edges n p0 p1).bind fun y13 =>
            (ref27_Circle n y13).bind fun y14 =>
            jn (law27_JudgeWaits_j1 n) fun j1 =>
            cond y14
              (j1 (y6.1, y7, y13, 374, y6.2, ()))
              (j1 (y6.1, y7, y13, 0, y6.2, ()))))) fun k4 =>
    cond y2
      (k4 true)
      (k4 (decide ((p1.length : Int) > 30))))
@[reducible] def law27_JudgeWaits_ct : Ct tab := ⟨4, [.st 21, .one (.d (.sl (.int .i64)))], [], [.one (.d .bool)], [], Bool, fun y => (y, ()), fun y => y.1, fun _ => rfl, fun n x => law27_JudgeWaits n x.1 x.2.1⟩
theorem law27_JudgeWaits_ok : OkC Tryz.prog tab law27_JudgeWaits_ct := fn_ok (W := ⟨Tryz.prog, tab, tyOf, [law27_wakes_ct, law27_overLocks_ct, judge_Edges_ct, judge_Free_ct, ref08_Right_ct, ref27_Edges_ct, ref27_Circle_ct, ref09_Same_ct], addO, dpO, false⟩) ⟨tabOk, ⟨law27_wakes_ok, law27_overLocks_ok, judge_Edges_ok, judge_Free_ok, ref08_Right_ok, ref27_Edges_ok, ref27_Circle_ok, ref09_Same_ok, trivial⟩, addOk⟩ (by kernel_rfl) 61 Tryz.f4 (.sq (.n) (.sq (.n) (.sq (.n) (.sq (.n) (.sq (.n) (.sq (.n) (.sq (.n) (.sq (.n) (.sq (.sq (.n) (.cd (some ⟨[(5, .one (.own 0)), (6, .one (.d (.int .i64))), (7, .one (.d (.int .i64))), (8, .one (.d (.sl (.st 22)))), (9, .one (.d (.int .i64)))], [.row 97 (.st 22)], []⟩) (.n) (.n))) (.n)))))))))) Tryz.func4 Tryz.call4 rfl (by kernel_rfl) (by kernel_rfl) (by kernel_rfl) fun n x => by kernel_rfl

/-! cmp.Less int  -/
/-! slices.insertionSortOrdered int  -/
/-! slices.siftDownOrdered int  -/
/-! slices.heapSortOrdered int  -/
/-! slices.order2Ordered int  -/
/-! slices.medianOrdered int  -/
/-! slices.medianAdjacentOrdered int  -/
/-! slices.choosePivotOrdered int  -/
/-! slices.reverseRangeOrdered int  -/
/-! slices.partialInsertionSortOrdered int  -/
/-! slices.partitionEqualOrdered int  -/
/-! slices.partitionOrdered int  -/
/-!   slices.xorshift .Next -/
/-! slices.Reverse   bursary api.Row bursary api.Row  -/
end
end Go.Proofs.YtegnflodgnfffaaGreat
