/- Functions of the program: plain twins and their contracts, printed by program. -/
import Derived.Test.YtkfemopgfjooeaaTypes
namespace Go.Proofs.Ytkfemopgfjooeaa
open Go Go.Bur Go.RowKit
set_option linter.unusedVariables false
set_option linter.unusedSimpArgs false
set_option maxRecDepth 100000
noncomputable section
/-! bursary bursarylaw09.some -/
def law09_some (n : Nat) : Option ((List Edge)) :=
  some ([(Edge.mk 1 2), (Edge.mk 2 1), (Edge.mk 2 3), (Edge.mk 3 2)] : List Edge)
@[reducible] def law09_some_ct : Ct tab := ⟨31, [], [], [.one (.own 0)], [(none, .row 45 (.st 0))], ((List Edge)), fun y => (y, ()), fun y => y.1, fun _ => rfl, fun n x => law09_some n⟩
theorem law09_some_ok : OkC Try.prog tab law09_some_ct := fn_ok (W := ⟨Try.prog, tab, tyOf, [], addO, dpO, false⟩) ⟨tabOk, trivial, addOk⟩ (by kernel_rfl) 6 Try.f31 (.n) Try.func31 Try.call31 rfl (by kernel_rfl) (by kernel_rfl) (by kernel_rfl) fun n x => by kernel_rfl

/-! bursary waits.may -/
def waits_may (n : Nat) (p0 : Edge) : Option Bool :=
  jn (fun (b1 : Bool) =>
      jn (fun (b3 : Bool) =>
          some b3) fun k4 =>
      cond b1
        (k4 (p0.from_ != p0.to))
        (k4 false)) fun k2 =>
  cond (decide (p0.from_ > 0))
    (k2 (decide (p0.to > 0)))
    (k2 false)
@[reducible] def waits_may_ct : Ct tab := ⟨53, [.st 0], [], [.one (.d .bool)], [], Bool, fun y => (y, ()), fun y => y.1, fun _ => rfl, fun n x => waits_may n x.1⟩
theorem waits_may_ok : OkC Try.prog tab waits_may_ct := fn_ok (W := ⟨Try.prog, tab, tyOf, [], addO, dpO, false⟩) ⟨tabOk, trivial, addOk⟩ (by kernel_rfl) 18 Try.f53 (.n) Try.func53 Try.call53 rfl (by kernel_rfl) (by kernel_rfl) (by kernel_rfl) fun n x => by kernel_rfl

/-! cmp.isNaN int  -/
def cmp_isNaN_int (n : Nat) (p0 : Int) : Option Bool :=
  some (p0 != p0)
@[reducible] def cmp_isNaN_int_ct : Ct tab := ⟨77, [.one (.d (.int .i64))], [], [.one (.d .bool)], [], Bool, fun y => (y, ()), fun y => y.1, fun _ => rfl, fun n x => cmp_isNaN_int n x.1⟩
theorem cmp_isNaN_int_ok : OkC Try.prog tab cmp_isNaN_int_ct := fn_ok (W := ⟨Try.prog, tab, tyOf, [], addO, dpO, false⟩) ⟨tabOk, trivial, addOk⟩ (by kernel_rfl) 6 Try.f77 (.n) Try.func77 Try.call77 rfl (by kernel_rfl) (by kernel_rfl) (by kernel_rfl) fun n x => by kernel_rfl

/-! cmp.Compare int  -/
def cmp_Compare_int (n : Nat) (p0 : Int) (p1 : Int) : Option Int :=
  (cmp_isNaN_int n p0).bind fun y1 =>
  (cmp_isNaN_int n p1).bind fun y2 =>
  cond y1
    (cond y2
      (some 0)
      (some (-1)))
    (cond y2
      (some 1)
      (cond (decide (p0 < p1))
        (some (-1))
        (cond (decide (p0 > p1))
          (some 1)
          (some 0))))
@[reducible] def cmp_Compare_int_ct : Ct tab := ⟨61, [.one (.d (.int .i64)), .one (.d (.int .i64))], [], [.one (.d (.int .i64))], [], Int, fun y => (y, ()), fun y => y.1, fun _ => rfl, fun n x => cmp_Compare_int n x.1 x.2.1⟩
theorem cmp_Compare_int_ok : OkC Try.prog tab cmp_Compare_int_ct := fn_ok (W := ⟨Try.prog, tab, tyOf, [cmp_isNaN_int_ct], addO, dpO, false⟩) ⟨tabOk, ⟨cmp_isNaN_int_ok, trivial⟩, addOk⟩ (by kernel_rfl) 20 Try.f61 (.n) Try.func61 Try.call61 rfl (by kernel_rfl) (by kernel_rfl) (by kernel_rfl) fun n x => by kernel_rfl

/-! cmp.Or int  -/
def cmp_Or_int_l1 (n : Nat) : Nat → Int × (List Int) × Int × Int × Unit → Option Int := loopF fun r1 ⟨v1, v2, v3, v4, _⟩ =>
    cond (decide (v4 < v3))
      ((idx v2 v4).bind fun x5 =>
      cond (x5 != v1)
        (some x5)
        (r1 (v1, v2, v3, (IntKind.wrap .i64 (v4 + 1)), ())))
      (some v1)
def cmp_Or_int (n : Nat) (p0 : List Int) : Option Int :=
  cmp_Or_int_l1 n n (0, p0, (p0.length : Int), 0, ())
@[reducible] def cmp_Or_int_ct : Ct tab := ⟨66, [.one (.d (.sl (.int .i64)))], [], [.one (.d (.int .i64))], [], Int, fun y => (y, ()), fun y => y.1, fun _ => rfl, fun n x => cmp_Or_int n x.1⟩
theorem cmp_Or_int_ok : OkC Try.prog tab cmp_Or_int_ct := fn_ok (W := ⟨Try.prog, tab, tyOf, [], addO, dpO, false⟩) ⟨tabOk, trivial, addOk⟩ (by kernel_rfl) 18 Try.f66 (.sq (.n) (.sq (.n) (.sq (.sq (.n) (.bk none (.lp ⟨[(3, .one (.d (.int .i64))), (6, .one (.d (.sl (.int .i64)))), (7, .one (.d (.int .i64))), (8, .one (.d (.int .i64)))], [], []⟩ (.n)))) (.n)))) Try.func66 Try.call66 rfl (by kernel_rfl) (by kernel_rfl) (by kernel_rfl) fun n x => by kernel_rfl

/-! bursary waits.compare -/
def waits_compare (n : Nat) (p0 : Edge) (p1 : Edge) : Option Int :=
  (cmp_Compare_int n p0.from_ p1.from_).bind fun y1 =>
  (cmp_Compare_int n p0.to p1.to).bind fun y2 =>
  (cmp_Or_int n ([y1, y2] : List Int)).bind fun y3 =>
  some y3
@[reducible] def waits_compare_ct : Ct tab := ⟨51, [.st 0, .st 0], [], [.one (.d (.int .i64))], [], Int, fun y => (y, ()), fun y => y.1, fun _ => rfl, fun n x => waits_compare n x.1 x.2.1⟩
theorem waits_compare_ok : OkC Try.prog tab waits_compare_ct := fn_ok (W := ⟨Try.prog, tab, tyOf, [cmp_Compare_int_ct, cmp_Or_int_ct], addO, dpO, false⟩) ⟨tabOk, ⟨cmp_Compare_int_ok, cmp_Or_int_ok, trivial⟩, addOk⟩ (by kernel_rfl) 17 Try.f51 (.n) Try.func51 Try.call51 rfl (by kernel_rfl) (by kernel_rfl) (by kernel_rfl) fun n x => by kernel_rfl

/-! bursary waits.right -/
def waits_right_l1 (n : Nat) : Nat → (List Edge) × (List Edge) × Int × Int × (List (Int × Bool)) × Unit → Option Bool := loopF fun r1 ⟨v1, v2, v3, v4, v5, _⟩ =>
    cond (decide (v4 < v3))
      ((idx v2 v4).bind fun x6 =>
      (waits_may n x6).bind fun y7 =>
      jn (fun (b8 : Bool) =>
          cond b8
            (some false)
            ((mput .i64 v5 x6.from_ true).bind fun l10 =>
            (mput .i64 l10 x6.to true).bind fun l11 =>
            r1 (v1, v2, v3, (IntKind.wrap .i64 (v4 + 1)), l11, ()))) fun k9 =>
      cond (!y7)
        (k9 true)
        (jn (fun (b12 : Bool) =>
            k9 b12) fun k13 =>
        cond (decide (v4 > 0))
          ((idx v1 (IntKind.wrap .i64 (v4 - 1))).bind fun x14 =>
          (waits_compare n x14 x6).bind fun y15 =>
          k13 (decide (y15 ≥ 0)))
          (k13 false)))
      (some (decide (((mkeys v5).length : Int) ≤ 8)))
def waits_right (n : Nat) (p0 : List Edge) : Option Bool :=
  waits_right_l1 n n (p0, p0, (p0.length : Int), 0, ([] : List (Int × Bool)), ())
@[reducible] def waits_right_ct : Ct tab := ⟨32, [.one (.d (.sl (.st 0)))], [], [.one (.d .bool)], [], Bool, fun y => (y, ()), fun y => y.1, fun _ => rfl, fun n x => waits_right n x.1⟩
theorem waits_right_ok : OkC Try.prog tab waits_right_ct := fn_ok (W := ⟨Try.prog, tab, tyOf, [waits_may_ct, waits_compare_ct], addO, dpO, false⟩) ⟨tabOk, ⟨waits_may_ok, waits_compare_ok, trivial⟩, addOk⟩ (by kernel_rfl) 41 Try.f32 (.sq (.n) (.sq (.n) (.sq (.sq (.n) (.bk none (.lp ⟨[(0, .one (.d (.sl (.st 0)))), (3, .one (.map 0)), (7, .one (.d (.sl (.st 0)))), (8, .one (.d (.int .i64))), (9, .one (.d (.int .i64)))], [.map .i64 3 4 .bool], []⟩ (.n)))) (.n)))) Try.func32 Try.call32 rfl (by kernel_rfl) (by kernel_rfl) (by kernel_rfl) fun n x => by kernel_rfl

/-! slices.Clone   bursary api.Edge bursary api.Edge  -/
def slices_Clone_Edge (n : Nat) (p0 : List Edge) : Option ((List Edge)) :=
  nilC p0.isEmpty
    (some ([] : List Edge))
    ((app 16 ([] : List Edge) p0).bind fun l1 =>
    some l1)
@[reducible] def slices_Clone_Edge_ct : Ct tab := ⟨33, [.one (.d (.sl (.st 0)))], [], [.one (.own 0)], [(none, .row 45 (.st 0))], ((List Edge)), fun y => (y, ()), fun y => y.1, fun _ => rfl, fun n x => slices_Clone_Edge n x.1⟩
theorem slices_Clone_Edge_ok : OkC Try.prog tab slices_Clone_Edge_ct := fn_ok (W := ⟨Try.prog, tab, tyOf, [], addO, dpO, false⟩) ⟨tabOk, trivial, addOk⟩ (by kernel_rfl) 8 Try.f33 (.n) Try.func33 Try.call33 rfl (by kernel_rfl) (by kernel_rfl) (by kernel_rfl) fun n x => by kernel_rfl

/-! bursary waits.next -/
def waits_next (n : Nat) (p0 : List Edge) (p1 : Int) : Option ((List Edge) × Int) :=
  some (p0, p1)
@[reducible] def waits_next_ct : Ct tab := ⟨38, [.one (.d (.sl (.st 0))), .one (.d (.int .i64))], [], [.one (.fn 56 [.bx 0, .bx 1])], [(none, .box [.d (.sl (.st 0))]), (none, .box [.d (.int .i64)])], ((List Edge) × Int), fun y => (y.1, y.2, ()), fun y => (y.1, y.2.1), fun _ => rfl, fun n x => waits_next n x.1 x.2.1⟩
theorem waits_next_ok : OkC Try.prog tab waits_next_ct := fn_ok (W := ⟨Try.prog, tab, tyOf, [], addO, dpO, false⟩) ⟨tabOk, trivial, addOk⟩ (by kernel_rfl) 6 Try.f38 (.n) Try.func38 Try.call38 rfl (by kernel_rfl) (by kernel_rfl) (by kernel_rfl) fun n x => by kernel_rfl

/-! bursary waits.next 1 -/
def waits_next_1_fyd0_l1 (n : Nat) : Nat → Int × (List Edge) × Int × Int × (HL tabT [.int .i64] → HL tabT [.mp (.bool), .sl (.st 0)] → Option (Nat × HL tabT [.mp (.bool), .sl (.st 0)])) × Nat × (HL tabT [.mp (.bool), .sl (.st 0)]) × Unit → Option ((HL tabT [.int .i64] → HL tabT [.mp (.bool), .sl (.st 0)] → Option (Nat × HL tabT [.mp (.bool), .sl (.st 0)])) × Nat × (HL tabT [.mp (.bool), .sl (.st 0)])) := loopF fun r1 ⟨v1, v2, v3, v4, v5, v6, v7, _⟩ =>
    cond (decide (v4 < v3))
      ((idx v2 v4).bind fun x8 =>
      cond (x8.from_ == v1)
        ((callY v5 v6 (x8.to, ()) v7).bind fun y9 =>
        cond (!(Nat.beq y9.1 0))
          (some (v5, y9.1, y9.2))
          (r1 (v1, v2, v3, (IntKind.wrap .i64 (v4 + 1)), v5, y9.1, y9.2, ())))
        (cond false
          (some (v5, v6, v7))
          (r1 (v1, v2, v3, (IntKind.wrap .i64 (v4 + 1)), v5, v6, v7, ()))))
      (some (v5, v6, v7))
def waits_next_1_fyd0 (n : Nat) (p1 : List Edge) (p2 : Int) (q0_0 : HL tabT [.int .i64] → HL tabT [.mp (.bool), .sl (.st 0)] → Option (Nat × HL tabT [.mp (.bool), .sl (.st 0)])) (q0_1 : Nat) (q0_2 : HL tabT [.mp (.bool), .sl (.st 0)]) : Option ((HL tabT [.int .i64] → HL tabT [.mp (.bool), .sl (.st 0)] → Option (Nat × HL tabT [.mp (.bool), .sl (.st 0)])) × Nat × (HL tabT [.mp (.bool), .sl (.st 0)])) :=
  waits_next_1_fyd0_l1 n n (p2, p1, (p1.length : Int), 0, q0_0, q0_1, q0_2, ())
@[reducible] def waits_next_1_fyd0_ct : Ct tab := ⟨56, [.one (.yd 0), .one (.ro (.sl (.st 0))), .one (.ro (.int .i64))], [.opq [.int .i64] [.mp (.bool), .sl (.st 0)]], [], [(some 0, .opq [.int .i64] [.mp (.bool), .sl (.st 0)])], ((HL tabT [.int .i64] → HL tabT [.mp (.bool), .sl (.st 0)] → Option (Nat × HL tabT [.mp (.bool), .sl (.st 0)])) × Nat × (HL tabT [.mp (.bool), .sl (.st 0)])), fun y => (y.1, y.2.1, y.2.2, ()), fun y => (y.1, y.2.1, y.2.2.1), fun _ => rfl, fun n x => waits_next_1_fyd0 n x.1 x.2.1 x.2.2.1 x.2.2.2.1 x.2.2.2.2.1⟩
theorem waits_next_1_fyd0_ok : OkC Try.prog tab waits_next_1_fyd0_ct := fn_ok (W := ⟨Try.prog, tab, tyOf, [], addO, dpO, false⟩) ⟨tabOk, trivial, addOk⟩ (by kernel_rfl) 24 Try.f56 (.sq (.n) (.bk none (.lp ⟨[(0, .one (.yd 0)), (2, .one (.ro (.int .i64))), (6, .one (.d (.sl (.st 0)))), (7, .one (.d (.int .i64))), (8, .one (.d (.int .i64)))], [.opq [.int .i64] [.mp (.bool), .sl (.st 0)]], [(0, 0)]⟩ (.sq (.n) (.sq (.n) (.sq (.bk none (.sq (.n) (.sq (.rg [1000000]) (.n)))) (.n))))))) Try.func56 Try.call56 rfl (by kernel_rfl) (by kernel_rfl) (by kernel_rfl) fun n x => by kernel_rfl

/-! bursary waits.reached 1 -/
def waits_reached_1_c2_self_j1 (n : Nat) : (List (Int × Bool)) × (List Edge) × Unit → Option (Nat × HL tabT [.mp (.bool), .sl (.st 0)]) := fun ⟨v7, v8, _⟩ =>
    some (0, (v7, v8, ()))
def waits_reached_1_c2_self_b (n : Nat) (self : Int × (List Edge) × (List (Int × Bool)) × Unit → Option ((List Edge) × (List (Int × Bool)))) (p0 : Int) (q0 : List Edge) (q2 : List (Int × Bool)) : Option ((List Edge) × (List (Int × Bool))) :=
  (waits_next n q0 p0).bind fun y1 =>
  (waits_next_1_fyd0 n y1.1 y1.2 (fun y2 z3 =>
        (mlook .i64 false z3.1 y2.1).bind fun w4 =>
        jn (waits_reached_1_c2_self_j1 n) fun j1 =>
        cond (!w4)
          ((mput .i64 z3.1 y2.1 true).bind fun l9 =>
          (self (y2.1, z3.2.1, l9, ())).bind fun y10 =>
          j1 (y10.2, y10.1, ()))
          (j1 (z3.1, z3.2.1, ()))) 0 (q2, q0, ())).bind fun y11 =>
  sel y11.2.1 [
    some (y11.2.2.2.1, y11.2.2.1),
    some (y11.2.2.2.1, y11.2.2.1),
    some (y11.2.2.2.1, y11.2.2.1)]
def waits_reached_1_c2_self (n : Nat) (p0 : Int) (q0 : List Edge) (q2 : List (Int × Bool)) : Option ((List Edge) × (List (Int × Bool))) := recF (fun n self x => waits_reached_1_c2_self_b n self x.1 x.2.1 x.2.2.1) n (p0, q0, q2, ())
@[reducible] def waits_reached_1_c2_self_ct : Ct tab := ⟨58, [.one (.d (.int .i64)), .one (.box 0 0), .one (.box 1 0), .one (.box 3 0)], [.box [.d (.sl (.st 0))], .box [.map 2], .map .i64 3 4 .bool, .box [.fn 58 [.bx 0, .bx 1, .bx 3]]], [], [(some 0, .box [.d (.sl (.st 0))]), (some 1, .box [.map 2]), (some 2, .map .i64 3 4 .bool), (some 3, .box [.fn 58 [.bx 0, .bx 1, .bx 3]])], ((List Edge) × (List (Int × Bool))), fun y => (y.1, y.2, ()), fun y => (y.1, y.2.1), fun _ => rfl, fun n x => waits_reached_1_c2_self n x.1 x.2.1 x.2.2.1⟩
theorem waits_reached_1_c2_self_ok : OkC Try.prog tab waits_reached_1_c2_self_ct := fn_rec (W := ⟨Try.prog, tab, tyOf, [waits_next_ct, waits_next_1_fyd0_ct], addO, dpO, false⟩) ⟨tabOk, ⟨waits_next_ok, waits_next_1_fyd0_ok, trivial⟩, addOk⟩ (by kernel_rfl) 19 Try.f58 (.sq (.n) (.bk none (.rf [(2, .one (.box 0 0)), (3, .one (.box 1 0))] [(1, .one (.box 3 0)), (8, .one (.fn 56 [.ro (.sl (.st 0)), .ro (.int .i64)]))] [.box [.map 2], .box [.fn 58 [.bx 3, .bx 0, .bx 1]], .map .i64 3 4 .bool, .box [.d (.sl (.st 0))]] [] [(0, 3), (1, 0), (2, 2), (3, 1)] 8 (.fn 56 [.ro (.sl (.st 0)), .ro (.int .i64)]) [.int .i64] (.n) (.bk none (.sq (.n) (.cd (some ⟨[(2, .one (.box 0 0)), (3, .one (.box 1 0))], [.box [.map 2], .box [.fn 58 [.bx 3, .bx 0, .bx 1]], .map .i64 3 4 .bool, .box [.d (.sl (.st 0))]], [(0, 0), (1, 1), (2, 2), (3, 3)]⟩) (.n) (.n))))))) Try.func58 Try.call58 rfl (by kernel_rfl) (by kernel_rfl) (by kernel_rfl) (fun n self x => waits_reached_1_c2_self_b n self x.1 x.2.1 x.2.2.1) (fun _ => rfl) (fun _ _ => rfl) fun self n x => by kernel_rfl

/-! bursary waits.reached -/
def waits_reached (n : Nat) (p0 : List Edge) (p1 : Int) : Option ((List (Int × Bool))) :=
  (waits_reached_1_c2_self n p1 p0 ([] : List (Int × Bool))).bind fun y1 =>
  some y1.2
@[reducible] def waits_reached_ct : Ct tab := ⟨41, [.one (.d (.sl (.st 0))), .one (.d (.int .i64))], [], [.one (.map 0)], [(none, .map .i64 3 4 .bool)], ((List (Int × Bool))), fun y => (y, ()), fun y => y.1, fun _ => rfl, fun n x => waits_reached n x.1 x.2.1⟩
theorem waits_reached_ok : OkC Try.prog tab waits_reached_ct := fn_ok (W := ⟨Try.prog, tab, tyOf, [waits_reached_1_c2_self_ct], addO, dpO, false⟩) ⟨tabOk, ⟨waits_reached_1_c2_self_ok, trivial⟩, addOk⟩ (by kernel_rfl) 13 Try.f41 (.n) Try.func41 Try.call41 rfl (by kernel_rfl) (by kernel_rfl) (by kernel_rfl) fun n x => by kernel_rfl

def slices_Sort_int (n : Nat) (q0 : List Int) : Option (List Int) := match Nat.ble q0.length 4611686018427387903 with | true => some (sortZ q0) | false => none
@[reducible] def slices_Sort_int_ct : Ct tab := srtCt tab 62 3
theorem slices_Sort_int_ok : OkC Try.prog tab slices_Sort_int_ct := srt_ok Try.call62 ⟨fun blk cap zs w hH hblk hlen => Go.Proofs.AnyM.slices_Sort_int Try.sl62 blk 0 cap zs w hH hblk hlen, fun p cap w => Go.Proofs.AnyM.slices_Sort_int_none Try.sl62 p cap w⟩

/-! bursary waits.bound -/
def waits_bound_j2 (n : Nat) (r1 : (List Edge) × Int × (List Int) × (List (Int × Bool)) × (List Int) × Unit → Option ((List Int))) : (List Edge) × Int × (List Int) × (List (Int × Bool)) × (List Int) × Unit → Option ((List Int)) := fun ⟨v13, v14, v15, v16, v17, _⟩ =>
    r1 (v13, v14, v15, v16, v17, ())
def waits_bound_l1 (n : Nat) : Nat → (List Edge) × Int × (List Int) × (List (Int × Bool)) × (List Int) × Unit → Option ((List Int)) := loopF fun r1 ⟨v2, v3, v4, v5, v6, _⟩ =>
    pickK v6
      ((slices_Sort_int n v4).bind fun y9 =>
      some y9)
      (fun x7 l8 =>
      (waits_reached n v2 x7).bind fun y10 =>
      (mlook .i64 false y10 v3).bind fun w11 =>
      jn (waits_bound_j2 n r1) fun j2 =>
      cond w11
        ((app 8 v4 ([x7] : List Int)).bind fun l18 =>
        j2 (v2, v3, l18, v5, l8, ()))
        (j2 (v2, v3, v4, v5, l8, ())))
def waits_bound (n : Nat) (p0 : List Edge) (p1 : Int) : Option ((List Int)) :=
  (waits_reached n p0 p1).bind fun y1 =>
  waits_bound_l1 n n (p0, p1, ([] : List Int), y1, (mkeys y1), ())
@[reducible] def waits_bound_ct : Ct tab := ⟨45, [.one (.d (.sl (.st 0))), .one (.d (.int .i64))], [], [.one (.own 0)], [(none, .row 3 (.int .i64))], ((List Int)), fun y => (y, ()), fun y => y.1, fun _ => rfl, fun n x => waits_bound n x.1 x.2.1⟩
theorem waits_bound_ok : OkC Try.prog tab waits_bound_ct := fn_ok (W := ⟨Try.prog, tab, tyOf, [waits_reached_ct, slices_Sort_int_ct], addO, dpO, false⟩) ⟨tabOk, ⟨waits_reached_ok, slices_Sort_int_ok, trivial⟩, addOk⟩ (by kernel_rfl) 27 Try.f45 (.sq (.n) (.sq (.n) (.sq (.sq (.n) (.bk none (.lp ⟨[(0, .one (.d (.sl (.st 0)))), (1, .one (.d (.int .i64))), (5, .one (.own 0)), (10, .one (.box 1 0))], [.row 3 (.int .i64), .mit 2 .i64 3 4 .bool, .gst], []⟩ (.sq (.n) (.sq (.n) (.bk none (.sq (.n) (.sq (.n) (.cd (some ⟨[(0, .one (.d (.sl (.st 0)))), (1, .one (.d (.int .i64))), (5, .one (.own 0)), (10, .one (.box 1 0))], [.row 3 (.int .i64), .mit 2 .i64 3 4 .bool, .gst], []⟩) (.n) (.n)))))))))) (.n)))) Try.func45 Try.call45 rfl (by kernel_rfl) (by kernel_rfl) (by kernel_rfl) fun n x => by kernel_rfl

/-! bursary waits.victim -/
def waits_victim (n : Nat) (p0 : List Edge) (p1 : Int) : Option Int :=
  (waits_bound n p0 p1).bind fun y1 =>
  cond (decide ((y1.length : Int) > 0))
    ((idx y1 (IntKind.wrap .i64 ((y1.length : Int) - 1))).bind fun x2 =>
    (idx y1 (IntKind.wrap .i64 ((y1.length : Int) - 1))).bind fun x3 =>
    some x3)
    (some 0)
@[reducible] def waits_victim_ct : Ct tab := ⟨34, [.one (.d (.sl (.st 0))), .one (.d (.int .i64))], [], [.one (.d (.int .i64))], [], Int, fun y => (y, ()), fun y => y.1, fun _ => rfl, fun n x => waits_victim n x.1 x.2.1⟩
theorem waits_victim_ok : OkC Try.prog tab waits_victim_ct := fn_ok (W := ⟨Try.prog, tab, tyOf, [waits_bound_ct], addO, dpO, false⟩) ⟨tabOk, ⟨waits_bound_ok, trivial⟩, addOk⟩ (by kernel_rfl) 18 Try.f34 (.n) Try.func34 Try.call34 rfl (by kernel_rfl) (by kernel_rfl) (by kernel_rfl) fun n x => by kernel_rfl

/-! bursary waits.without 1 -/
def waits_without_1 (n : Nat) (p0 : Edge) (p1 : Int) : Option Bool :=
  jn (fun (b1 : Bool) =>
      some b1) fun k2 =>
  cond (p0.from_ == p1)
    (k2 true)
    (k2 (p0.to == p1))
@[reducible] def waits_without_1_ct : Ct tab := ⟨55, [.st 0, .one (.ro (.int .i64))], [], [.one (.d .bool)], [], Bool, fun y => (y, ()), fun y => y.1, fun _ => rfl, fun n x => waits_without_1 n x.1 x.2.1⟩
theorem waits_without_1_ok : OkC Try.prog tab waits_without_1_ct := fn_ok (W := ⟨Try.prog, tab, tyOf, [], addO, dpO, false⟩) ⟨tabOk, trivial, addOk⟩ (by kernel_rfl) 14 Try.f55 (.n) Try.func55 Try.call55 rfl (by kernel_rfl) (by kernel_rfl) (by kernel_rfl) fun n x => by kernel_rfl

/-! slices.IndexFunc   bursary api.Edge bursary api.Edge  -/
def slices_IndexFunc_Edge_f55_l1 (n : Nat) : Nat → (List Edge) × Int × Int × Int × Unit → Option Int := loopF fun r1 ⟨v1, v2, v3, v4, _⟩ =>
    cond (decide (v4 < v3))
      ((idx v1 v4).bind fun x5 =>
      (waits_without_1 n x5 v2).bind fun y6 =>
      cond y6
        (some v4)
        (r1 (v1, v2, v3, (IntKind.wrap .i64 (v4 + 1)), ())))
      (some (-1))
def slices_IndexFunc_Edge_f55 (n : Nat) (p0 : List Edge) (p1 : Int) : Option Int :=
  slices_IndexFunc_Edge_f55_l1 n n (p0, p1, (p0.length : Int), 0, ())
@[reducible] def slices_IndexFunc_Edge_f55_ct : Ct tab := ⟨63, [.one (.d (.sl (.st 0))), .one (.fn 55 [.ro (.int .i64)])], [], [.one (.d (.int .i64))], [], Int, fun y => (y, ()), fun y => y.1, fun _ => rfl, fun n x => slices_IndexFunc_Edge_f55 n x.1 x.2.1⟩
theorem slices_IndexFunc_Edge_f55_ok : OkC Try.prog tab slices_IndexFunc_Edge_f55_ct := fn_ok (W := ⟨Try.prog, tab, tyOf, [waits_without_1_ct], addO, dpO, false⟩) ⟨tabOk, ⟨waits_without_1_ok, trivial⟩, addOk⟩ (by kernel_rfl) 19 Try.f63 (.sq (.n) (.sq (.sq (.n) (.bk none (.lp ⟨[(0, .one (.d (.sl (.st 0)))), (1, .one (.fn 55 [.ro (.int .i64)])), (7, .one (.d (.int .i64))), (8, .one (.d (.int .i64)))], [], []⟩ (.n)))) (.n))) Try.func63 Try.call63 rfl (by kernel_rfl) (by kernel_rfl) (by kernel_rfl) fun n x => by kernel_rfl

theorem slices_DeleteFunc_Edge_raw {a0 : Option Addr} {c0 gd : Nat} {cv : List Value} {Pf PI : List (World → Prop)} (p0 : List (Raw 2)) (bs : List Bool) (hbl : bs.length = p0.length) (ix : Int)
    (hI : Meets Try.prog 63 #[.slice a0 p0.length c0, .func (.func gd) #[] cv.toArray] [] PI fun v A P => v = .int .i64 ix ∧ A = [] ∧ P = [])
    (hPI : ∀ (F : List Nat) (w : World), AllB F w Pf → Bx F w (fun w => (rowF (rawF 2) 45 a0 c0 p0).holds w) → AllB F w PI)
    (hix : (ix = -1 ∧ ∀ y ∈ bs, y = false) ∨ ∃ k : Nat, ix = (k : Int) ∧ bs[k]? = some true ∧ ∀ y ∈ bs.take k, y = false)
    (hD : ∀ (j : Nat) (x : (Raw 2)) (y : Bool), p0[j]? = some x → bs[j]? = some y → Meets Try.prog gd (([Value.agg x.1.toArray] ++ cv).toArray) [] Pf fun v A P => v = .bool y ∧ A = [] ∧ P = []) (hsm : p0.length < 4611686018427387904) :
    Meets Try.prog 54 #[.slice a0 p0.length c0, .func (.func gd) #[] cv.toArray] [rowF (rawF 2) 45 a0 c0 p0] Pf fun v A P => ∃ (a : Option Addr) (c : Nat), v = .slice a (keepF p0 bs).length c ∧ A = [rowF (rawF 2) 45 a c (keepF p0 bs)] ∧ P = [] := by
  have len : ∀ x : (Raw 2), ∃ v0 v1, x.1 = [v0, v1] := fun x => by
    have h := x.2.1
    generalize x.1 = l at h ⊢
    match l, h with
    | [v0, v1], _ => exact ⟨v0, v1, rfl⟩
  refine meets_enter 42 Try.func54 Try.call54 rfl (by kernel_rfl) (by simp) fun C a w hS => ?_
  have hc : p0.length ≤ c0 := (row_len (hS.st.own _ (List.mem_cons_self ..))).2.1
  have hfs : ∀ {F : List Nat} {a : Act} {w : World} {L : Env} {As : List Asn}, Sy C 42 a w L As Pf → Up C As w F → AllB F w Pf := fun {F a w L As} hS up => by
    have key : ∀ l : List (World → Prop), (∀ p ∈ l, Bx F w p) → AllB F w l := fun l => by
      induction l with
      | nil => intro _; trivial
      | cons p r ih => intro h; exact ⟨h p (by simp), ih fun q hq => h q (by simp [hq])⟩
    exact key _ fun p hp => up (hS.st.per p hp)
  refine k_seq (by kernel_rfl) fun K1 hK1 => ?_
  refine k_reg 1 (by kernel_rfl) ?_
  refine r_run 0 1 [0, 1] [] hS rfl (L' := [(0, .slice a0 p0.length c0), (1, .func (.func gd) #[] cv.toArray)]) (As' := [rowF (rawF 2) 45 a0 c0 p0]) (ob := []) (by kernel_rfl) trivial fun a w hS => ?_
  refine wl_end ?_
  refine hK1 _ _ ?_
  refine k_seq (by kernel_rfl) fun K2 hK2 => ?_
  refine k_reg 4 (by kernel_rfl) ?_
  refine r_run 0 2 [0, 1, 8, 9] [] hS rfl (L' := [(0, .slice a0 p0.length c0), (1, .func (.func gd) #[] cv.toArray), (8, .slice a0 p0.length c0), (9, .func (.func gd) #[] cv.toArray)]) (As' := [rowF (rawF 2) 45 a0 c0 p0]) (ob := []) (by kernel_rfl) trivial fun a w hS => ?_
  refine r_callX 2 rfl (d := some 10) (g := 63) (args := #[.slice a0 p0.length c0, .func (.func gd) #[] cv.toArray]) [] [0] hS (by kernel_rfl) rfl rfl hI (fun F up le => hPI F _ (hfs hS up) (le 0 rfl _ fun _ h => h)) ?_
  rintro v A' P' a w ⟨rfl, rfl, rfl⟩ hS
  refine r_run 3 1 [0, 1, 5] [] hS rfl (L' := [(0, .slice a0 p0.length c0), (1, .func (.func gd) #[] cv.toArray), (5, .int .i64 ix)]) (As' := [rowF (rawF 2) 45 a0 c0 p0]) (ob := []) (by kernel_rfl) trivial fun a w hS => ?_
  refine wl_end ?_
  refine hK2 _ _ ?_
  refine k_seq (by kernel_rfl) fun K3 hK3 => ?_
  refine k_seq (by kernel_rfl) fun K4 hK4 => ?_
  refine k_reg 2 (by kernel_rfl) ?_
  refine r_run 0 2 [0, 1, 5, 12] [] hS rfl (L' := [(0, .slice a0 p0.length c0), (1, .func (.func gd) #[] cv.toArray), (5, .int .i64 ix), (12, .bool (ix == (-1 : Int)))]) (As' := [rowF (rawF 2) 45 a0 c0 p0]) (ob := []) (by kernel_rfl) trivial fun a w hS => ?_
  refine wl_end ?_
  refine hK4 _ _ ?_
  refine k_cond (ix == (-1 : Int)) hS.has (by kernel_rfl) (by kernel_rfl) (by kernel_rfl) (fun hq => ?_) (fun hq => ?_)
  · have hall : keepF p0 bs = p0 := by
      have hq : ix = -1 := of_decide_eq_true (p := ix = (-1 : Int)) (by simpa using hq)
      rcases hix with ⟨_, h⟩ | ⟨k, h, _⟩
      · exact keepF_all hbl h
      · omega
    rw [hall]
    refine k_seq (by kernel_rfl) fun K5 hK5 => ?_
    refine k_reg 2 (by kernel_rfl) ?_
    refine r_run 0 2 [4] [] hS rfl (L' := [(4, .slice a0 p0.length c0)]) (As' := [rowF (rawF 2) 45 a0 c0 p0]) (ob := []) (by kernel_rfl) trivial fun a w hS => ?_
    refine wl_end ?_
    refine hK5 _ _ ?_
    refine k_ret (by kernel_rfl) ?_
    try simp only [Exit.then, Exit.inBlock]
    refine r_ret hS [.tmp 4] [] (xs := [.slice a0 p0.length c0]) (ps := []) [0] [] rfl (by kernel_rfl) (fun hA => trivial) rfl (fun F up => trivial) ?_
    exact ⟨a0, c0, rfl, rfl, rfl⟩
  · have hne : ix ≠ -1 := fun e => by rw [e] at hq; simp at hq
    obtain ⟨k0, rfl, hb0, htk⟩ : ∃ k : Nat, ix = (k : Int) ∧ bs[k]? = some true ∧ ∀ y ∈ bs.take k, y = false := hix.resolve_left fun h => hne h.1
    obtain ⟨hk0, _⟩ := List.getElem?_eq_some_iff.1 hb0
    rw [hbl] at hk0
    obtain ⟨g, rfl⟩ := row_block (hS.st.own _ (List.mem_cons_self ..)) (by omega)
    refine k_skip (by kernel_rfl) ?_
    refine hK3 _ _ ?_
    refine k_seq (by kernel_rfl) fun K5 hK5 => ?_
    refine k_seq (by kernel_rfl) fun K6 hK6 => ?_
    refine k_reg 3 (by kernel_rfl) ?_
    refine r_run 0 3 [0, 1, 5, 6] [.as 15 (.int .i64 ((k0 + 1 : Nat) : Int))] hS rfl (L' := [(0, .slice (some ⟨g, 0, none⟩) p0.length c0), (1, .func (.func gd) #[] cv.toArray), (5, .int .i64 (k0 : Int)), (6, .int .i64 ((k0 + 1 : Nat) : Int))]) (As' := [rowF (rawF 2) 45 (some ⟨g, 0, none⟩) c0 p0]) (ob := [fun _ => Value.int .i64 (IntKind.wrap .i64 ((k0 : Int) + 1)) = .int .i64 ((k0 + 1 : Nat) : Int)]) (by kernel_rfl) ⟨Bx.c (congrArg (Value.int .i64) (wrap_s (by omega))), trivial⟩ fun a w hS => ?_
    refine wl_end ?_
    refine hK6 _ _ ?_
    refine k_blk (by kernel_rfl) ?_
    refine k_loop (by kernel_rfl) (fun q a w => ∃ (i j : Nat) (cur : List (Raw 2)), q + j = p0.length ∧ i < j ∧ cur.length = p0.length ∧ cur.take i = keepF (p0.take j) (bs.take j) ∧ cur.drop j = p0.drop j ∧ Sy C 42 a w [(0, .slice (some ⟨g, 0, none⟩) p0.length c0), (1, .func (.func gd) #[] cv.toArray), (5, .int .i64 (i : Int)), (6, .int .i64 (j : Int))] [rowF (rawF 2) 45 (some ⟨g, 0, none⟩) c0 cur] Pf)
      (p0.length - (k0 + 1)) ⟨k0, k0 + 1, p0, by omega, by omega, rfl, ?_, rfl, hS⟩ ?_
    · obtain ⟨x0, hx0⟩ : ∃ x, p0[k0]? = some x := ⟨_, List.getElem?_eq_getElem hk0⟩
      rw [List.take_add_one, List.take_add_one, hx0, hb0]
      simp only [Option.toList_some]
      rw [keepF_snoc (by rw [List.length_take, List.length_take, hbl]), keepF_all (by rw [List.length_take, List.length_take, hbl]) htk]
      simp
    · rintro q a w ⟨i, j, cur, hqj, hij, hcl, htake, hdrop, hS⟩ K hK
      have hil : i ≤ p0.length := by omega
      refine k_seq (by kernel_rfl) fun K7 hK7 => ?_
      refine k_seq (by kernel_rfl) fun K8 hK8 => ?_
      refine k_reg 4 (by kernel_rfl) ?_
      refine r_run 0 4 [0, 1, 5, 6, 19] [] hS rfl (L' := [(0, .slice (some ⟨g, 0, none⟩) p0.length c0), (1, .func (.func gd) #[] cv.toArray), (5, .int .i64 (i : Int)), (6, .int .i64 (j : Int)), (19, .bool (decide ((j : Int) < (p0.length : Int))))]) (As' := [rowF (rawF 2) 45 (some ⟨g, 0, none⟩) c0 cur]) (ob := []) (by kernel_rfl) trivial fun a w hS => ?_
      refine wl_end ?_
      refine hK8 _ _ ?_
      refine k_cond (decide ((j : Int) < (p0.length : Int))) hS.has (by kernel_rfl) (by kernel_rfl) (by kernel_rfl) (fun hq => ?_) (fun hq => ?_)
      · have hjl : j < p0.length := by have := of_decide_eq_true hq; omega
        obtain ⟨x, hxj⟩ : ∃ x, cur[j]? = some x := ⟨_, List.getElem?_eq_getElem (by omega)⟩
        have hxp : p0[j]? = some x := by
          have h1 : (cur.drop j)[0]? = some x := by rw [List.getElem?_drop]; simpa using hxj
          rw [hdrop, List.getElem?_drop] at h1
          simpa using h1
        obtain ⟨yb, hyb⟩ : ∃ y, bs[j]? = some y := ⟨_, List.getElem?_eq_getElem (by omega)⟩
        have hd := hD j x yb hxp hyb
        have hidx : idx cur (j : Int) = some x := by unfold idx; rw [if_pos (by omega)]; simpa using hxj
        obtain ⟨v0, v1, hxv⟩ := len x
        rw [hxv] at hd
        have hone : ∀ u ∈ [v0, v1], u.oneCell' = true := fun u hu => x.2.2 u (by rw [hxv]; exact hu)
        refine k_skip (by kernel_rfl) ?_
        refine hK7 _ _ ?_
        refine k_seq (by kernel_rfl) fun K9 hK9 => ?_
        refine k_blk (by kernel_rfl) ?_
        refine k_seq (by kernel_rfl) fun K10 hK10 => ?_
        refine k_reg 6 (by kernel_rfl) ?_
        refine r_run1 0 6 [0, 1, 5, 6, 7] [.row 0 [v0, v1], .own 0 0] hS rfl (L' := fun u0 => [(0, .slice (some ⟨g, 0, none⟩) p0.length c0), (1, .func (.func gd) #[] cv.toArray), (5, .int .i64 (i : Int)), (6, .int .i64 (j : Int)), (7, newVal u0 none)]) (As' := fun u0 => [.box u0 [v0, v1], rowF (rawF 2) 45 (some ⟨g, 0, none⟩) c0 cur])
          (ob := fun u0 => [fun _ => Inb (some ⟨g, 0, none⟩) p0.length (j : Int), fun _ => LoadOk (rowF (rawF 2) 45 (some ⟨g, 0, none⟩) c0 cur) ((baseOf (some ⟨g, 0, none⟩)).add ((j : Int).toNat * 2)) [v0, v1], fun _ => (⟨u0, 0, none⟩ : Addr) = (⟨u0, 0, none⟩ : Addr).add 0, fun _ => ∀ u ∈ [v0, v1], u.oneCell' = true]) (fun u0 => by kernel_rfl) (fun u0 => ⟨Bx.c ⟨by omega, by omega, by simp⟩, Bx.c (by have := loadRow (F := (rawF 2)) (e := 45) (a := some ⟨g, 0, none⟩) (c := c0) hidx; rw [← hxv]; exact this), Bx.c (add_zero' _).symm, Bx.c hone, trivial⟩) fun u0 a w hS => ?_
        refine wl_end ?_
        refine hK10 _ _ ?_
        refine k_seq (by kernel_rfl) fun K11 hK11 => ?_
        refine k_reg 4 (by kernel_rfl) ?_
        refine r_run 0 2 [0, 1, 5, 6, 7, 26, 27] [.own 0 0] hS rfl (L' := [(0, .slice (some ⟨g, 0, none⟩) p0.length c0), (1, .func (.func gd) #[] cv.toArray), (5, .int .i64 (i : Int)), (6, .int .i64 (j : Int)), (7, newVal u0 none), (26, .func (.func gd) #[] cv.toArray), (27, .agg #[v0, v1])]) (As' := [.box u0 [v0, v1], rowF (rawF 2) 45 (some ⟨g, 0, none⟩) c0 cur]) (ob := [fun _ => (⟨u0, 0, none⟩ : Addr) = (⟨u0, 0, none⟩ : Addr).add 0]) (by kernel_rfl) ⟨Bx.c (add_zero' _).symm, trivial⟩ fun a w hS => ?_
        refine r_call 2 rfl (d := some 28) (g := gd) (args := ([Value.agg #[v0, v1]] ++ cv).toArray) [] hS (by kernel_rfl) rfl hd (fun F up => hfs hS up) ?_
        rintro v A' P' a w ⟨rfl, rfl, rfl⟩ hS
        refine r_run 3 1 [0, 1, 5, 6, 7, 29] [] hS rfl (L' := [(0, .slice (some ⟨g, 0, none⟩) p0.length c0), (1, .func (.func gd) #[] cv.toArray), (5, .int .i64 (i : Int)), (6, .int .i64 (j : Int)), (7, newVal u0 none), (29, .bool (!yb))]) (As' := [.box u0 [v0, v1], rowF (rawF 2) 45 (some ⟨g, 0, none⟩) c0 cur]) (ob := []) (by kernel_rfl) trivial fun a w hS => ?_
        refine wl_end ?_
        refine hK11 _ _ ?_
        have hnext : ∀ (i' : Nat) (cur' : List (Raw 2)) (a : Act) (w : World), i' < j + 1 → cur'.length = p0.length → cur'.take i' = keepF (p0.take (j + 1)) (bs.take (j + 1)) → cur'.drop (j + 1) = p0.drop (j + 1) →
            Sy C 42 a w [(0, .slice (some ⟨g, 0, none⟩) p0.length c0), (1, .func (.func gd) #[] cv.toArray), (5, .int .i64 (i' : Int)), (6, .int .i64 (j : Int))] [rowF (rawF 2) 45 (some ⟨g, 0, none⟩) c0 cur'] Pf → K9 a w := fun i' cur' a w h1 h2 h3 h4 hS => by
          refine hK9 _ _ ?_
          refine k_reg 3 (by kernel_rfl) ?_
          refine r_run 0 3 [0, 1, 5, 6] [.as 21 (.int .i64 ((j + 1 : Nat) : Int))] hS rfl (L' := [(0, .slice (some ⟨g, 0, none⟩) p0.length c0), (1, .func (.func gd) #[] cv.toArray), (5, .int .i64 (i' : Int)), (6, .int .i64 ((j + 1 : Nat) : Int))]) (As' := [rowF (rawF 2) 45 (some ⟨g, 0, none⟩) c0 cur']) (ob := [fun _ => Value.int .i64 (IntKind.wrap .i64 ((j : Int) + 1)) = .int .i64 ((j + 1 : Nat) : Int)]) (by kernel_rfl) ⟨Bx.c (congrArg (Value.int .i64) (wrap_s (by omega))), trivial⟩ fun a w hS => ?_
          refine wl_end ?_
          exact hK (q - 1) _ _ (by omega) ⟨i', j + 1, cur', by omega, h1, h2, h3, h4, hS⟩
        have hpt : keepF (p0.take (j + 1)) (bs.take (j + 1)) = keepF (p0.take j) (bs.take j) ++ cond yb [] [x] := by
          rw [List.take_add_one, List.take_add_one, hxp, hyb]
          exact keepF_snoc (by rw [List.length_take, List.length_take, hbl])
        have hdr : ∀ cur' : List (Raw 2), cur'.drop j = x :: p0.drop (j + 1) → cur'.drop (j + 1) = p0.drop (j + 1) := fun cur' h => by
          rw [← List.drop_drop, h]; rfl
        have hpd : p0.drop j = x :: p0.drop (j + 1) := by
          rw [List.drop_eq_getElem_cons hjl]
          obtain ⟨_, he⟩ := List.getElem?_eq_some_iff.1 hxp
          rw [he]
        refine k_cond (!yb) hS.has (by kernel_rfl) (by kernel_rfl) (by kernel_rfl) (fun hbx => ?_) (fun hbx => ?_)
        · have hput : put cur (i : Int) x = some (cur.set i x) := by unfold put; rw [if_pos (by omega)]; rfl
          obtain ⟨y, hyi⟩ : ∃ y, idx cur (i : Int) = some y := ⟨cur[i]'(by omega), by unfold idx; rw [if_pos (by omega)]; simp⟩
          refine k_seq (by kernel_rfl) fun K12 hK12 => ?_
          refine k_reg 5 (by kernel_rfl) ?_
          refine r_run 0 5 [0, 1, 5, 6] [.own 0 0, .put 1 (rowF (rawF 2) 45 (some ⟨g, 0, none⟩) c0 (cur.set i x))] hS rfl (L' := [(0, .slice (some ⟨g, 0, none⟩) p0.length c0), (1, .func (.func gd) #[] cv.toArray), (5, .int .i64 (i : Int)), (6, .int .i64 (j : Int))]) (As' := [.box u0 [v0, v1], rowF (rawF 2) 45 (some ⟨g, 0, none⟩) c0 (cur.set i x)])
            (ob := [fun _ => (⟨u0, 0, none⟩ : Addr) = (⟨u0, 0, none⟩ : Addr).add 0, fun _ => Inb (some ⟨g, 0, none⟩) p0.length (i : Int), fun _ => PutOk (rowF (rawF 2) 45 (some ⟨g, 0, none⟩) c0 cur) (rowF (rawF 2) 45 (some ⟨g, 0, none⟩) c0 (cur.set i x)) ((baseOf (some ⟨g, 0, none⟩)).add ((i : Int).toNat * 2)) [v0, v1]]) (by kernel_rfl) ⟨Bx.c (add_zero' _).symm, Bx.c ⟨by omega, by omega, by simp⟩, Bx.c (by have := putRow (F := (rawF 2)) (e := 45) (a := some ⟨g, 0, none⟩) (c := c0) hyi hput (sl := (cur.set i x).length) (by simp); rw [← hxv]; exact this), trivial⟩ fun a w hS => ?_
          refine wl_end ?_
          refine hK12 _ _ ?_
          refine k_reg 3 (by kernel_rfl) ?_
          refine r_run 0 3 [0, 1, 5, 6] [.as 35 (.int .i64 ((i + 1 : Nat) : Int))] hS rfl (L' := [(0, .slice (some ⟨g, 0, none⟩) p0.length c0), (1, .func (.func gd) #[] cv.toArray), (5, .int .i64 ((i + 1 : Nat) : Int)), (6, .int .i64 (j : Int))]) (As' := [.box u0 [v0, v1], rowF (rawF 2) 45 (some ⟨g, 0, none⟩) c0 (cur.set i x)]) (ob := [fun _ => Value.int .i64 (IntKind.wrap .i64 ((i : Int) + 1)) = .int .i64 ((i + 1 : Nat) : Int)]) (by kernel_rfl) ⟨Bx.c (congrArg (Value.int .i64) (wrap_s (by omega))), trivial⟩ fun a w hS => ?_
          refine wl_end ?_
          refine hnext (i + 1) (cur.set i x) _ _ (by omega) (by simp [hcl]) ?_ ?_ ((hS.perm (List.Perm.swap _ _ _)).sub (As := [_]) (Bs := [_]) fun _ h => h)
          · have hyf : yb = false := by simpa using hbx
            rw [hpt, ← htake, hyf, List.take_add_one, List.take_set_of_le (Nat.le_refl _), List.getElem?_set_self (by omega)]; rfl
          · exact hdr _ (by rw [List.drop_set_of_lt hij, hdrop, hpd])
        · refine k_skip (by kernel_rfl) ?_
          have hyt : yb = true := by simpa using hbx
          refine hnext i cur _ _ (by omega) hcl ?_ (hdr _ (by rw [hdrop, hpd])) (((hS.perm (List.Perm.swap _ _ _)).sub (As := [_]) (Bs := [_]) fun _ h => h).env4)
          rw [hpt, ← htake, hyt]
          simp
      · have hjl : j = p0.length := by have := of_decide_eq_false hq; omega
        subst hjl
        rw [List.take_length, show bs.take p0.length = bs from by rw [← hbl]; exact List.take_length] at htake
        refine k_exit 0 (by kernel_rfl) ?_
        try simp only [Exit.then, Exit.inBlock, if_true]
        refine hK5 _ _ ?_
        have hil2 : i = (keepF p0 bs).length := by rw [← htake, List.length_take]; omega
        have hs0 : slA (some (⟨g, 0, none⟩ : Addr)) i c0 ((rawF 2)).sz = some ⟨g, i * ((rawF 2)).sz, none⟩ := by
          unfold slA; rw [if_neg (by omega)]; simp only [Option.map_some, addr_add0]
        have hs1 : slA (some (⟨g, 0, none⟩ : Addr)) 0 c0 ((rawF 2)).sz = some ⟨g, 0, none⟩ := by
          unfold slA; rw [if_neg (by omega)]; simp only [Option.map_some, Nat.zero_mul, addr_add0]
        refine k_seq (by kernel_rfl) fun K7 hK7 => ?_
        refine k_reg 4 (by kernel_rfl) ?_
        refine r_run 0 3 [0, 5, 38] [.as 38 (.slice (some ⟨g, i * ((rawF 2)).sz, none⟩) (p0.length - i) (c0 - i))] hS rfl (L' := [(0, .slice (some ⟨g, 0, none⟩) p0.length c0), (5, .int .i64 (i : Int)), (38, .slice (some ⟨g, i * ((rawF 2)).sz, none⟩) (p0.length - i) (c0 - i))]) (As' := [rowF (rawF 2) 45 (some ⟨g, 0, none⟩) c0 cur]) (ob := [fun _ => 0 ≤ (i : Int) ∧ (i : Int) ≤ (p0.length : Int) ∧ (p0.length : Int) ≤ (c0 : Int), fun _ => Value.slice (slA (some ⟨g, 0, none⟩) i c0 ((rawF 2)).sz) (p0.length - i) (c0 - i) = .slice (some ⟨g, i * ((rawF 2)).sz, none⟩) (p0.length - i) (c0 - i)]) (by kernel_rfl) ⟨Bx.c ⟨by omega, by omega, by omega⟩, Bx.c (by rw [hs0]), trivial⟩ fun a w hS => ?_
        obtain ⟨ds, hd1, hd2, hd3, hd4⟩ := row_full (hS.st.own _ (List.mem_cons_self ..))
        replace hS := hS.same (B := .row (some ⟨g, 0, none⟩) c0 45 ((rawF 2)).sz c0 ds) 0 rfl (fun _ => hd4) rfl (by simp [Asn.fp])
        refine r_bltS 3 rfl 0 (.row (some ⟨g, 0, none⟩) c0 45 ((rawF 2)).sz c0 (spl ds (i * ((rawF 2)).sz) (Builtin.zeroCells ((Try.t45.zero).getD undef).cells (p0.length - i)).toList)) (d := none) (b := .clear) (ts := #[22]) (ty := 0) (vs := #[.slice (some ⟨g, i * ((rawF 2)).sz, none⟩) (p0.length - i) (c0 - i)]) hS (by kernel_rfl) rfl (fun hA => run_clear_row (t := 22) (ty := 0) (inf := Try.t45) (by kernel_rfl) (by kernel_rfl) (by kernel_rfl) (by kernel_rfl) (oneAll (by kernel_rfl)) hA (by rw [← Nat.add_mul]; exact Nat.mul_le_mul_right _ (by omega))) rfl (by simp [Asn.fp]) fun a w hS => ?_
        have hcut : (spl ds (i * ((rawF 2)).sz) (Builtin.zeroCells ((Try.t45.zero).getD undef).cells (p0.length - i)).toList).take (i * ((rawF 2)).sz) = (keepF p0 bs).flatMap ((rawF 2)).enc := by
          have hle : i * ((rawF 2)).sz ≤ ds.length := by rw [hd2]; exact Nat.mul_le_mul_right _ (by omega)
          have hle2 : i * ((rawF 2)).sz ≤ cur.length * ((rawF 2)).sz := Nat.mul_le_mul_right _ (by omega)
          unfold spl
          rw [List.append_assoc, List.take_left' (by rw [List.length_take]; omega), ← htake, flat_take, ← hd1, List.take_take, Nat.min_eq_left hle2]
        have hlen : (keepF p0 bs).length = i := by rw [← htake, List.length_take]; omega
        replace hS := hS.same (B := rowF (rawF 2) 45 (some ⟨g, 0, none⟩) c0 (keepF p0 bs)) 0 rfl (fun hA => by
          have := row_cut hA i (by omega)
          rw [hcut] at this
          unfold rowF
          rw [hlen]
          exact this) rfl (by simp [Asn.fp])
        refine wl_end ?_
        refine hK7 _ _ ?_
        refine k_seq (by kernel_rfl) fun K8 hK8 => ?_
        refine k_reg 4 (by kernel_rfl) ?_
        refine r_run 0 4 [4] [.as 41 (.slice (some ⟨g, 0, none⟩) i c0)] hS rfl (L' := [(4, .slice (some ⟨g, 0, none⟩) i c0)]) (As' := [rowF (rawF 2) 45 (some ⟨g, 0, none⟩) c0 (keepF p0 bs)]) (ob := [fun _ => (0 : Int) ≤ 0 ∧ (0 : Int) ≤ (i : Int) ∧ (i : Int) ≤ (c0 : Int), fun _ => Value.slice (slA (some ⟨g, 0, none⟩) 0 c0 ((rawF 2)).sz) (i - 0) (c0 - 0) = .slice (some ⟨g, 0, none⟩) i c0]) (by kernel_rfl) ⟨Bx.c ⟨by omega, by omega, by omega⟩, Bx.c (by rw [hs1]; rfl), trivial⟩ fun a w hS => ?_
        refine wl_end ?_
        refine hK8 _ _ ?_
        refine k_ret (by kernel_rfl) ?_
        try simp only [Exit.then, Exit.inBlock]
        refine r_ret hS [.tmp 4] [] (xs := [.slice (some ⟨g, 0, none⟩) i c0]) (ps := []) [0] [] rfl (by kernel_rfl) (fun hA => trivial) rfl (fun F up => trivial) ?_
        exact ⟨some ⟨g, 0, none⟩, c0, by rw [hlen]; rfl, rfl, rfl⟩
def slices_DeleteFunc_Edge_f55 (n : Nat) (p1_0 : Int) (q0 : List Edge) : Option (List Edge) := (slices_IndexFunc_Edge_f55 n q0 p1_0).bind fun z => delF (fun y => waits_without_1 n y p1_0) z q0
@[reducible] def slices_DeleteFunc_Edge_f55_ct : Ct tab := ⟨54, [.one (.own 0), .one (.fn 55 [.ro (.int .i64)])], [.row 45 (.st 0)], [.one (.own 0)], [(none, .row 45 (.st 0))], List Edge, fun y => (y, ()), fun y => y.1, fun _ => rfl, fun n x => slices_DeleteFunc_Edge_f55 n x.1 x.2.1⟩
theorem slices_DeleteFunc_Edge_f55_ok : OkC Try.prog tab slices_DeleteFunc_Edge_f55_ct := dlf_ok (i := 0) (cs := [.ro (.int .i64)]) (fI := fun n x => slices_IndexFunc_Edge_f55 n x.2.1 x.1) (fD := fun n x y => waits_without_1 n y x.1) (m := 2) tabOk rfl rfl Try.call54 Try.call63 Try.call55
  (fun n x z hz R w Ps v cv hst hv hcv => Calls.mono (slices_IndexFunc_Edge_f55_ok.2 n (x.2.1, x.1, ()) z hz R w rho0 [] Ps [v, .func (.func 55) #[] cv.toArray] hst (fun j g h => by cases h) ⟨hv, ⟨cv, rfl, hcv⟩, trivial⟩ trivial) fun e w' h => by
    obtain ⟨v1, ρ1, As1, Ps1, h1, h2, h3, _⟩ := h
    exact ⟨h1.trans (congrArg Ending.returned (show v1 = .int .i64 z from h2.1)), h3⟩)
  (fun n x y b hb R w Ps v cv hst hv hcv => Calls.mono (waits_without_1_ok.2 n (y, x.1, ()) b hb R w rho0 [] Ps (v :: cv) hst (fun j g h => by cases h) ⟨hv, capLs_rel hcv⟩ trivial) fun e w' h => by
    obtain ⟨v1, ρ1, As1, Ps1, h1, h2, h3, _⟩ := h
    exact ⟨h1.trans (congrArg Ending.returned (show v1 = .bool b from h2.1)), h3⟩) slices_DeleteFunc_Edge_raw

/-! bursary waits.without -/
def waits_without (n : Nat) (p0 : List Edge) (p1 : Int) : Option ((List Edge)) :=
  (slices_Clone_Edge n p0).bind fun y1 =>
  (slices_DeleteFunc_Edge_f55 n p1 y1).bind fun y2 =>
  some y2
@[reducible] def waits_without_ct : Ct tab := ⟨35, [.one (.d (.sl (.st 0))), .one (.d (.int .i64))], [], [.one (.own 0)], [(none, .row 45 (.st 0))], ((List Edge)), fun y => (y, ()), fun y => y.1, fun _ => rfl, fun n x => waits_without n x.1 x.2.1⟩
theorem waits_without_ok : OkC Try.prog tab waits_without_ct := fn_ok (W := ⟨Try.prog, tab, tyOf, [slices_Clone_Edge_ct, slices_DeleteFunc_Edge_f55_ct], addO, dpO, false⟩) ⟨tabOk, ⟨slices_Clone_Edge_ok, slices_DeleteFunc_Edge_f55_ok, trivial⟩, addOk⟩ (by kernel_rfl) 9 Try.f35 (.n) Try.func35 Try.call35 rfl (by kernel_rfl) (by kernel_rfl) (by kernel_rfl) fun n x => by kernel_rfl

/-! bursary waits.Break -/
def waits_Break_l1 (n : Nat) : Nat → Int × (List Edge) × (List Int) × Unit → Option (Int × (List Int) × (List Edge)) := loopF fun r1 ⟨v3, v4, v5, _⟩ =>
    (waits_victim n v4 v3).bind fun y6 =>
    cond (y6 == 0)
      (some (0, v5, v4))
      ((app 8 v5 ([y6] : List Int)).bind fun l7 =>
      (waits_without n v4 y6).bind fun y8 =>
      r1 (v3, y8, l7, ()))
def waits_Break (n : Nat) (p0 : List Edge) (p1 : Int) : Option (Int × (List Int) × (List Edge)) :=
  (waits_right n p0).bind fun y1 =>
  cond (!y1)
    (some (190, ([] : List Int), ([] : List Edge)))
    ((slices_Clone_Edge n p0).bind fun y2 =>
    waits_Break_l1 n n (p1, y2, ([] : List Int), ()))
@[reducible] def waits_Break_ct : Ct tab := ⟨11, [.one (.d (.sl (.st 0))), .one (.d (.int .i64))], [], [.one (.own 0), .one (.own 1), .one (.d (.int .i64))], [(none, .row 3 (.int .i64)), (none, .row 45 (.st 0))], (Int × (List Int) × (List Edge)), fun y => (y.1, y.2.1, y.2.2, ()), fun y => (y.1, y.2.1, y.2.2.1), fun _ => rfl, fun n x => waits_Break n x.1 x.2.1⟩
theorem waits_Break_ok : OkC Try.prog tab waits_Break_ct := fn_ok (W := ⟨Try.prog, tab, tyOf, [waits_right_ct, slices_Clone_Edge_ct, waits_victim_ct, waits_without_ct], addO, dpO, false⟩) ⟨tabOk, ⟨waits_right_ok, slices_Clone_Edge_ok, waits_victim_ok, waits_without_ok, trivial⟩, addOk⟩ (by kernel_rfl) 28 Try.f11 (.sq (.n) (.sq (.n) (.sq (.n) (.sq (.n) (.bk none (.lp ⟨[(0, .one (.own 0)), (1, .one (.d (.int .i64))), (7, .one (.own 1))], [.row 45 (.st 0), .row 3 (.int .i64)], []⟩ (.n))))))) Try.func11 Try.call11 rfl (by kernel_rfl) (by kernel_rfl) (by kernel_rfl) fun n x => by kernel_rfl

/-! bursary waits.next 1 -/
/-! slices.Clone   int int  -/
def slices_Clone_int (n : Nat) (p0 : List Int) : Option ((List Int)) :=
  nilC p0.isEmpty
    (some ([] : List Int))
    ((app 8 ([] : List Int) p0).bind fun l1 =>
    some l1)
@[reducible] def slices_Clone_int_ct : Ct tab := ⟨39, [.one (.d (.sl (.int .i64)))], [], [.one (.own 0)], [(none, .row 3 (.int .i64))], ((List Int)), fun y => (y, ()), fun y => y.1, fun _ => rfl, fun n x => slices_Clone_int n x.1⟩
theorem slices_Clone_int_ok : OkC Try.prog tab slices_Clone_int_ct := fn_ok (W := ⟨Try.prog, tab, tyOf, [], addO, dpO, false⟩) ⟨tabOk, trivial, addOk⟩ (by kernel_rfl) 8 Try.f39 (.n) Try.func39 Try.call39 rfl (by kernel_rfl) (by kernel_rfl) (by kernel_rfl) fun n x => by kernel_rfl

/-! bursary waits.next 1 -/
def waits_next_1_fyd2_l1 (n : Nat) : Nat → Int × (List Edge) × Int × Int × (HL tabT [.int .i64] → HL tabT [.sl (.st 0), .int .i64, .sl (.int .i64), .sl (.sl (.int .i64))] → Option (Nat × HL tabT [.sl (.st 0), .int .i64, .sl (.int .i64), .sl (.sl (.int .i64))])) × Nat × (HL tabT [.sl (.st 0), .int .i64, .sl (.int .i64), .sl (.sl (.int .i64))]) × Unit → Option ((HL tabT [.int .i64] → HL tabT [.sl (.st 0), .int .i64, .sl (.int .i64), .sl (.sl (.int .i64))] → Option (Nat × HL tabT [.sl (.st 0), .int .i64, .sl (.int .i64), .sl (.sl (.int .i64))])) × Nat × (HL tabT [.sl (.st 0), .int .i64, .sl (.int .i64), .sl (.sl (.int .i64))])) := loopF fun r1 ⟨v1, v2, v3, v4, v5, v6, v7, _⟩ =>
    cond (decide (v4 < v3))
      ((idx v2 v4).bind fun x8 =>
      cond (x8.from_ == v1)
        ((callY v5 v6 (x8.to, ()) v7).bind fun y9 =>
        cond (!(Nat.beq y9.1 0))
          (some (v5, y9.1, y9.2))
          (r1 (v1, v2, v3, (IntKind.wrap .i64 (v4 + 1)), v5, y9.1, y9.2, ())))
        (cond false
          (some (v5, v6, v7))
          (r1 (v1, v2, v3, (IntKind.wrap .i64 (v4 + 1)), v5, v6, v7, ()))))
      (some (v5, v6, v7))
def waits_next_1_fyd2 (n : Nat) (p1 : List Edge) (p2 : Int) (q0_0 : HL tabT [.int .i64] → HL tabT [.sl (.st 0), .int .i64, .sl (.int .i64), .sl (.sl (.int .i64))] → Option (Nat × HL tabT [.sl (.st 0), .int .i64, .sl (.int .i64), .sl (.sl (.int .i64))])) (q0_1 : Nat) (q0_2 : HL tabT [.sl (.st 0), .int .i64, .sl (.int .i64), .sl (.sl (.int .i64))]) : Option ((HL tabT [.int .i64] → HL tabT [.sl (.st 0), .int .i64, .sl (.int .i64), .sl (.sl (.int .i64))] → Option (Nat × HL tabT [.sl (.st 0), .int .i64, .sl (.int .i64), .sl (.sl (.int .i64))])) × Nat × (HL tabT [.sl (.st 0), .int .i64, .sl (.int .i64), .sl (.sl (.int .i64))])) :=
  waits_next_1_fyd2_l1 n n (p2, p1, (p1.length : Int), 0, q0_0, q0_1, q0_2, ())
@[reducible] def waits_next_1_fyd2_ct : Ct tab := ⟨56, [.one (.yd 0), .one (.ro (.sl (.st 0))), .one (.ro (.int .i64))], [.opq [.int .i64] [.sl (.st 0), .int .i64, .sl (.int .i64), .sl (.sl (.int .i64))]], [], [(some 0, .opq [.int .i64] [.sl (.st 0), .int .i64, .sl (.int .i64), .sl (.sl (.int .i64))])], ((HL tabT [.int .i64] → HL tabT [.sl (.st 0), .int .i64, .sl (.int .i64), .sl (.sl (.int .i64))] → Option (Nat × HL tabT [.sl (.st 0), .int .i64, .sl (.int .i64), .sl (.sl (.int .i64))])) × Nat × (HL tabT [.sl (.st 0), .int .i64, .sl (.int .i64), .sl (.sl (.int .i64))])), fun y => (y.1, y.2.1, y.2.2, ()), fun y => (y.1, y.2.1, y.2.2.1), fun _ => rfl, fun n x => waits_next_1_fyd2 n x.1 x.2.1 x.2.2.1 x.2.2.2.1 x.2.2.2.2.1⟩
theorem waits_next_1_fyd2_ok : OkC Try.prog tab waits_next_1_fyd2_ct := fn_ok (W := ⟨Try.prog, tab, tyOf, [], addO, dpO, false⟩) ⟨tabOk, trivial, addOk⟩ (by kernel_rfl) 24 Try.f56 (.sq (.n) (.bk none (.lp ⟨[(0, .one (.yd 0)), (2, .one (.ro (.int .i64))), (6, .one (.d (.sl (.st 0)))), (7, .one (.d (.int .i64))), (8, .one (.d (.int .i64)))], [.opq [.int .i64] [.sl (.st 0), .int .i64, .sl (.int .i64), .sl (.sl (.int .i64))]], [(0, 0)]⟩ (.sq (.n) (.sq (.n) (.sq (.bk none (.sq (.n) (.sq (.rg [1000000]) (.n)))) (.n))))))) Try.func56 Try.call56 rfl (by kernel_rfl) (by kernel_rfl) (by kernel_rfl) fun n x => by kernel_rfl

/-! slices.Index   int int  -/
def slices_Index_int_l1 (n : Nat) : Nat → (List Int) × Int × Int × Int × Unit → Option Int := loopF fun r1 ⟨v1, v2, v3, v4, _⟩ =>
    cond (decide (v4 < v3))
      ((idx v1 v4).bind fun x5 =>
      cond (v2 == x5)
        (some v4)
        (r1 (v1, v2, v3, (IntKind.wrap .i64 (v4 + 1)), ())))
      (some (-1))
def slices_Index_int (n : Nat) (p0 : List Int) (p1 : Int) : Option Int :=
  slices_Index_int_l1 n n (p0, p1, (p0.length : Int), 0, ())
@[reducible] def slices_Index_int_ct : Ct tab := ⟨57, [.one (.d (.sl (.int .i64))), .one (.d (.int .i64))], [], [.one (.d (.int .i64))], [], Int, fun y => (y, ()), fun y => y.1, fun _ => rfl, fun n x => slices_Index_int n x.1 x.2.1⟩
theorem slices_Index_int_ok : OkC Try.prog tab slices_Index_int_ct := fn_ok (W := ⟨Try.prog, tab, tyOf, [], addO, dpO, false⟩) ⟨tabOk, trivial, addOk⟩ (by kernel_rfl) 19 Try.f57 (.sq (.n) (.sq (.sq (.n) (.bk none (.lp ⟨[(0, .one (.d (.sl (.int .i64)))), (1, .one (.d (.int .i64))), (7, .one (.d (.int .i64))), (8, .one (.d (.int .i64)))], [], []⟩ (.n)))) (.n))) Try.func57 Try.call57 rfl (by kernel_rfl) (by kernel_rfl) (by kernel_rfl) fun n x => by kernel_rfl

/-! slices.Contains   int int  -/
def slices_Contains_int (n : Nat) (p0 : List Int) (p1 : Int) : Option Bool :=
  (slices_Index_int n p0 p1).bind fun y1 =>
  some (decide (y1 ≥ 0))
@[reducible] def slices_Contains_int_ct : Ct tab := ⟨40, [.one (.d (.sl (.int .i64))), .one (.d (.int .i64))], [], [.one (.d .bool)], [], Bool, fun y => (y, ()), fun y => y.1, fun _ => rfl, fun n x => slices_Contains_int n x.1 x.2.1⟩
theorem slices_Contains_int_ok : OkC Try.prog tab slices_Contains_int_ct := fn_ok (W := ⟨Try.prog, tab, tyOf, [slices_Index_int_ct], addO, dpO, false⟩) ⟨tabOk, ⟨slices_Index_int_ok, trivial⟩, addOk⟩ (by kernel_rfl) 9 Try.f40 (.n) Try.func40 Try.call40 rfl (by kernel_rfl) (by kernel_rfl) (by kernel_rfl) fun n x => by kernel_rfl

/-! bursary waits.Cycles 1 -/
def waits_Cycles_1_c3_self_j1 (n : Nat) : (List Edge) × Int × (List Int) × (List (List Int)) × Unit → Option (Nat × HL tabT [.sl (.st 0), .int .i64, .sl (.int .i64), .sl (.sl (.int .i64))]) := fun ⟨v30, v31, v32, v33, _⟩ =>
    some (0, (v30, v31, v32, v33, ()))
def waits_Cycles_1_c3_self_j2 (n : Nat) (j1 : (List Edge) × Int × (List Int) × (List (List Int)) × Unit → Option (Nat × HL tabT [.sl (.st 0), .int .i64, .sl (.int .i64), .sl (.sl (.int .i64))])) : (List Edge) × Int × (List Int) × (List (List Int)) × Unit → Option (Nat × HL tabT [.sl (.st 0), .int .i64, .sl (.int .i64), .sl (.sl (.int .i64))]) := fun ⟨v42, v43, v44, v45, _⟩ =>
    j1 (v42, v43, v44, v45, ())
def waits_Cycles_1_c3_self_j3 (n : Nat) (j1 : (List Edge) × Int × (List Int) × (List (List Int)) × Unit → Option (Nat × HL tabT [.sl (.st 0), .int .i64, .sl (.int .i64), .sl (.sl (.int .i64))])) : (List Edge) × Int × (List Int) × (List (List Int)) × Unit → Option (Nat × HL tabT [.sl (.st 0), .int .i64, .sl (.int .i64), .sl (.sl (.int .i64))]) := fun ⟨v52, v53, v54, v55, _⟩ =>
    j1 (v52, v53, v54, v55, ())
def waits_Cycles_1_c3_self_b (n : Nat) (self : (List Int) × (List Edge) × Int × (List (List Int)) × Unit → Option ((List Edge) × Int × (List (List Int)))) (p0 : List Int) (q0 : List Edge) (q1 : Int) (q3 : List (List Int)) : Option ((List Edge) × Int × (List (List Int))) :=
  (idx p0 (IntKind.wrap .i64 ((p0.length : Int) - 1))).bind fun x1 =>
  (waits_next n q0 x1).bind fun y2 =>
  (waits_next_1_fyd2 n y2.1 y2.2 (fun y3 z4 =>
        jn (waits_Cycles_1_c3_self_j1 n) fun j1 =>
        cond (y3.1 == z4.2.1)
          ((slices_Clone_int n z4.2.2.1).bind fun y34 =>
          (app 24 z4.2.2.2.1 ([y34] : List (List Int))).bind fun l35 =>
          j1 (z4.1, z4.2.1, z4.2.2.1, l35, ()))
          ((slices_Contains_int n z4.2.2.1 y3.1).bind fun y36 =>
          cond (!y36)
            ((waits_reached n z4.1 y3.1).bind fun y37 =>
            (mlook .i64 false y37 z4.2.1).bind fun w38 =>
            jn (waits_Cycles_1_c3_self_j2 n j1) fun j2 =>
            cond w38
              ((slices_Clone_int n z4.2.2.1).bind fun y46 =>
              (app 8 y46 ([y3.1] : List Int)).bind fun l47 =>
              (self (l47, z4.1, z4.2.1, z4.2.2.2.1, ())).bind fun y48 =>
              j2 (y48.1, y48.2.1, z4.2.2.1, y48.2.2, ()))
              (j2 (z4.1, z4.2.1, z4.2.2.1, z4.2.2.2.1, ())))
            (jn (waits_Cycles_1_c3_self_j3 n j1) fun j3 =>
            cond false
              ((slices_Clone_int n z4.2.2.1).bind fun y56 =>
              (app 8 y56 ([y3.1] : List Int)).bind fun l57 =>
              (self (l57, z4.1, z4.2.1, z4.2.2.2.1, ())).bind fun y58 =>
              j3 (y58.1, y58.2.1, z4.2.2.1, y58.2.2, ()))
              (j3 (z4.1, z4.2.1, z4.2.2.1, z4.2.2.2.1, ()))))) 0 (q0, q1, p0, q3, ())).bind fun y59 =>
  sel y59.2.1 [
    some (y59.2.2.1, y59.2.2.2.1, y59.2.2.2.2.2.1),
    some (y59.2.2.1, y59.2.2.2.1, y59.2.2.2.2.2.1),
    some (y59.2.2.1, y59.2.2.2.1, y59.2.2.2.2.2.1)]
def waits_Cycles_1_c3_self (n : Nat) (p0 : List Int) (q0 : List Edge) (q1 : Int) (q3 : List (List Int)) : Option ((List Edge) × Int × (List (List Int))) := recF (fun n self x => waits_Cycles_1_c3_self_b n self x.1 x.2.1 x.2.2.1 x.2.2.2.1) n (p0, q0, q1, q3, ())
@[reducible] def waits_Cycles_1_c3_self_ct : Ct tab := ⟨37, [.one (.d (.sl (.int .i64))), .one (.box 0 0), .one (.box 1 0), .one (.box 2 0), .one (.box 4 0)], [.box [.d (.sl (.st 0))], .box [.d (.int .i64)], .box [.own 3], .row 24 (.sl (.int .i64)), .box [.fn 37 [.bx 0, .bx 1, .bx 2, .bx 4]]], [], [(some 0, .box [.d (.sl (.st 0))]), (some 1, .box [.d (.int .i64)]), (some 2, .box [.own 4]), (some 4, .box [.fn 37 [.bx 0, .bx 1, .bx 2, .bx 3]]), (none, .row 24 (.sl (.int .i64)))], ((List Edge) × Int × (List (List Int))), fun y => (y.1, y.2.1, y.2.2, ()), fun y => (y.1, y.2.1, y.2.2.1), fun _ => rfl, fun n x => waits_Cycles_1_c3_self n x.1 x.2.1 x.2.2.1 x.2.2.2.1⟩
theorem waits_Cycles_1_c3_self_ok : OkC Try.prog tab waits_Cycles_1_c3_self_ct := fn_rec (W := ⟨Try.prog, tab, tyOf, [waits_next_ct, slices_Clone_int_ct, slices_Contains_int_ct, waits_reached_ct, waits_next_1_fyd2_ct], addO, dpO, false⟩) ⟨tabOk, ⟨waits_next_ok, slices_Clone_int_ok, slices_Contains_int_ok, waits_reached_ok, waits_next_1_fyd2_ok, trivial⟩, addOk⟩ (by kernel_rfl) 44 Try.f37 (.sq (.n) (.sq (.n) (.bk none (.rf [(1, .one (.box 0 0)), (2, .one (.box 1 0)), (3, .one (.box 2 0)), (4, .one (.box 3 0)), (5, .one (.box 4 0))] [(14, .one (.fn 56 [.ro (.sl (.st 0)), .ro (.int .i64)]))] [.box [.d (.sl (.st 0))], .box [.d (.int .i64)], .box [.own 5], .box [.fn 37 [.bx 0, .bx 1, .bx 2, .bx 3]], .box [.d (.sl (.int .i64))], .row 24 (.sl (.int .i64))] [] [(0, 0), (1, 1), (2, 2), (4, 3)] 14 (.fn 56 [.ro (.sl (.st 0)), .ro (.int .i64)]) [.int .i64] (.n) (.bk none (.bk none (.sq (.n) (.cd (some ⟨[(1, .one (.box 0 0)), (2, .one (.box 1 0)), (3, .one (.box 2 0)), (4, .one (.box 3 0)), (5, .one (.box 4 0))], [.box [.d (.sl (.st 0))], .box [.d (.int .i64)], .box [.own 5], .box [.fn 37 [.bx 0, .bx 1, .bx 2, .bx 3]], .box [.d (.sl (.int .i64))], .row 24 (.sl (.int .i64))], [(0, 0), (1, 1), (2, 2), (3, 3), (4, 4)]⟩) (.n) (.sq (.rg [1000000]) (.cd (some ⟨[(1, .one (.box 0 0)), (2, .one (.box 1 0)), (3, .one (.box 2 0)), (4, .one (.box 3 0)), (5, .one (.box 4 0))], [.box [.d (.sl (.st 0))], .box [.d (.int .i64)], .box [.own 5], .box [.fn 37 [.bx 0, .bx 1, .bx 2, .bx 3]], .box [.d (.sl (.int .i64))], .row 24 (.sl (.int .i64))], [(0, 0), (1, 1), (2, 2), (3, 3), (4, 4)]⟩) (.n) (.n))))))))))) Try.func37 Try.call37 rfl (by kernel_rfl) (by kernel_rfl) (by kernel_rfl) (fun n self x => waits_Cycles_1_c3_self_b n self x.1 x.2.1 x.2.2.1 x.2.2.2.1) (fun _ => rfl) (fun _ _ => rfl) fun self n x => by kernel_rfl

/-! slices.Compare   int int  -/
def slices_Compare_int_l1 (n : Nat) : Nat → (List Int) × (List Int) × (List Int) × Int × Int × Unit → Option Int := loopF fun r1 ⟨v1, v2, v3, v4, v5, _⟩ =>
    cond (decide (v5 < v4))
      ((idx v3 v5).bind fun x6 =>
      cond (decide (v5 ≥ (v2.length : Int)))
        (some 1)
        ((idx v2 v5).bind fun x7 =>
        (cmp_Compare_int n x6 x7).bind fun y8 =>
        cond (y8 != 0)
          (some y8)
          (r1 (v1, v2, v3, v4, (IntKind.wrap .i64 (v5 + 1)), ()))))
      (cond (decide ((v1.length : Int) < (v2.length : Int)))
        (some (-1))
        (some 0))
def slices_Compare_int (n : Nat) (p0 : List Int) (p1 : List Int) : Option Int :=
  slices_Compare_int_l1 n n (p0, p1, p0, (p0.length : Int), 0, ())
@[reducible] def slices_Compare_int_ct : Ct tab := ⟨43, [.one (.d (.sl (.int .i64))), .one (.d (.sl (.int .i64)))], [], [.one (.d (.int .i64))], [], Int, fun y => (y, ()), fun y => y.1, fun _ => rfl, fun n x => slices_Compare_int n x.1 x.2.1⟩
theorem slices_Compare_int_ok : OkC Try.prog tab slices_Compare_int_ct := fn_ok (W := ⟨Try.prog, tab, tyOf, [cmp_Compare_int_ct], addO, dpO, false⟩) ⟨tabOk, ⟨cmp_Compare_int_ok, trivial⟩, addOk⟩ (by kernel_rfl) 36 Try.f43 (.sq (.n) (.sq (.sq (.n) (.bk none (.lp ⟨[(0, .one (.d (.sl (.int .i64)))), (1, .one (.d (.sl (.int .i64)))), (9, .one (.d (.sl (.int .i64)))), (10, .one (.d (.int .i64))), (11, .one (.d (.int .i64)))], [], []⟩ (.n)))) (.n))) Try.func43 Try.call43 rfl (by kernel_rfl) (by kernel_rfl) (by kernel_rfl) fun n x => by kernel_rfl

noncomputable def slices_SortFunc_Lint_f43 (n : Nat) (q0 : List (List Int)) : Option (List (List Int)) := match Nat.ble q0.length 4611686018427387903 with | true => sortF (fun x y => slices_Compare_int n x y) q0 | false => none
@[reducible] noncomputable def slices_SortFunc_Lint_f43_ct : Ct tab := srtfCt tab 42 43 24 (.sl (.int .i64)) (fun n x y => slices_Compare_int n x y)
theorem slices_SortFunc_Lint_f43_ok : OkC Try.prog tab slices_SortFunc_Lint_f43_ct := srtf1_ok (u := .int .i64) (f := (fun n x y => slices_Compare_int n x y)) tabOk Try.sl42 rfl Try.call42 Try.call43
  (fun n x y c hc w Ps vx vy hst h1 h2 => Calls.mono (slices_Compare_int_ok.2 n (x, y, ()) c hc [] w rho0 [] Ps [vx, vy] hst (fun j g h => by cases h) ⟨h1, h2, trivial⟩ trivial) fun e w' h => by
    obtain ⟨v1, ρ1, As1, Ps1, g1, g2, g3, _⟩ := h
    exact ⟨g1.trans (congrArg Ending.returned (show v1 = .int .i64 c from g2.1)), g3⟩)

end
end Go.Proofs.Ytkfemopgfjooeaa
