/- Functions of the program: plain twins and their contracts, printed by program. -/
import Derived.Test.YtfidbgcdjmhjnaaTypes
import Derived.Test.YtfidbgcdjmhjnaaF0
namespace Go.Proofs.Ytfidbgcdjmhjnaa
open Go Go.Bur Go.RowKit
set_option linter.unusedVariables false
set_option linter.unusedSimpArgs false
set_option maxRecDepth 100000
noncomputable section
/-! bursary escrow.of -/
def escrow_of (n : Nat) (p0 : Int) : Option escrow_wide :=
  (shrP .i64 p0 63).bind fun z1 =>
  some (escrow_wide.mk z1 (IntKind.wrap .u64 p0))
@[reducible] def escrow_of_ct : Ct tab := ⟨75, [.one (.d (.int .i64))], [], [.st 6], [], escrow_wide, fun y => (y, ()), fun y => y.1, fun _ => rfl, fun n x => escrow_of n x.1⟩
theorem escrow_of_ok : OkC Try.prog tab escrow_of_ct := fn_ok (W := ⟨Try.prog, tab, tyOf, [], addO, dpO, false⟩) ⟨tabOk, trivial, addOk⟩ (by kernel_rfl) 8 Try.f75 (.n) Try.func75 Try.call75 rfl (by kernel_rfl) (by kernel_rfl) (by kernel_rfl) fun n x => by kernel_rfl

/-! bursary escrow.sum -/
def escrow_sum_l1 (n : Nat) : Nat → (List Int) × Int × Int × escrow_wide × escrow_wide × Unit → Option escrow_wide := loopF fun r1 ⟨v1, v2, v3, v4, v5, _⟩ =>
    cond (decide (v3 < v2))
      ((idx v1 v3).bind fun x6 =>
      (escrow_of n x6).bind fun y7 =>
      r1 (v1, v2, (IntKind.wrap .i64 (v3 + 1)), v4, (escrow_wide.mk (IntKind.wrap .i64 ((IntKind.wrap .i64 (v5.high + y7.high)) + (IntKind.wrap .i64 (add64C v5.low y7.low)))) (add64L v5.low y7.low)), ()))
      (some v5)
def escrow_sum (n : Nat) (p0 : List Int) : Option escrow_wide :=
  escrow_sum_l1 n n (p0, (p0.length : Int), 0, (escrow_wide.mk 0 0), (escrow_wide.mk 0 0), ())
@[reducible] def escrow_sum_ct : Ct tab := ⟨74, [.one (.d (.sl (.int .i64)))], [], [.st 6], [], escrow_wide, fun y => (y, ()), fun y => y.1, fun _ => rfl, fun n x => escrow_sum n x.1⟩
theorem escrow_sum_ok : OkC Try.prog tab escrow_sum_ct := fn_ok (W := ⟨Try.prog, tab, tyOf, [escrow_of_ct], addO, dpO, false⟩) ⟨tabOk, ⟨escrow_of_ok, trivial⟩, addOk⟩ (by kernel_rfl) 37 Try.f74 (.sq (.n) (.sq (.n) (.sq (.sq (.n) (.bk none (.lp ⟨[(2, .one (.box 0 0)), (3, .one (.box 1 0)), (9, .one (.d (.sl (.int .i64)))), (10, .one (.d (.int .i64))), (11, .one (.d (.int .i64)))], [.bst 6, .bst 6], []⟩ (.n)))) (.n)))) Try.func74 Try.call74 rfl (by kernel_rfl) (by kernel_rfl) (by kernel_rfl) fun n x => by kernel_rfl

/-!  bursary escrow.wide .small -/
def escrow_wide_small (n : Nat) (p0 : escrow_wide) : Option (Int × Bool) :=
  (escrow_of n (IntKind.wrap .i64 p0.low)).bind fun y1 =>
  some ((IntKind.wrap .i64 p0.low), (escrow_wide.eqb y1 p0))
@[reducible] def escrow_wide_small_ct : Ct tab := ⟨49, [.st 6], [], [.one (.d (.int .i64)), .one (.d .bool)], [], (Int × Bool), fun y => (y.1, y.2, ()), fun y => (y.1, y.2.1), fun _ => rfl, fun n x => escrow_wide_small n x.1⟩
theorem escrow_wide_small_ok : OkC Try.prog tab escrow_wide_small_ct := fn_ok (W := ⟨Try.prog, tab, tyOf, [escrow_of_ct], addO, dpO, false⟩) ⟨tabOk, ⟨escrow_of_ok, trivial⟩, addOk⟩ (by kernel_rfl) 13 Try.f49 (.n) Try.func49 Try.call49 rfl (by kernel_rfl) (by kernel_rfl) (by kernel_rfl) fun n x => by kernel_rfl

/-! bursary escrow.least -/
def escrow_least (n : Nat) (p0 : Share) : Option Int :=
  some p0.lo
@[reducible] def escrow_least_ct : Ct tab := ⟨48, [.st 1], [], [.one (.d (.int .i64))], [], Int, fun y => (y, ()), fun y => y.1, fun _ => rfl, fun n x => escrow_least n x.1⟩
theorem escrow_least_ok : OkC Try.prog tab escrow_least_ct := fn_ok (W := ⟨Try.prog, tab, tyOf, [], addO, dpO, false⟩) ⟨tabOk, trivial, addOk⟩ (by kernel_rfl) 5 Try.f48 (.n) Try.func48 Try.call48 rfl (by kernel_rfl) (by kernel_rfl) (by kernel_rfl) fun n x => by kernel_rfl

/-! bursary escrow.shares -/
def escrow_shares_f48 (n : Nat) (p0 : Pending) : Option Pending :=
  some p0
@[reducible] def escrow_shares_f48_ct : Ct tab := ⟨82, [.st 2, .one (.fn 48 [])], [], [.one (.fn 96 [.bx 0, .bx 1])], [(none, .bst 2), (none, .box [.fn 48 []])], Pending, fun y => (y, ()), fun y => y.1, fun _ => rfl, fun n x => escrow_shares_f48 n x.1⟩
theorem escrow_shares_f48_ok : OkC Try.prog tab escrow_shares_f48_ct := fn_ok (W := ⟨Try.prog, tab, tyOf, [], addO, dpO, false⟩) ⟨tabOk, trivial, addOk⟩ (by kernel_rfl) 6 Try.f82 (.n) Try.func82 Try.call82 rfl (by kernel_rfl) (by kernel_rfl) (by kernel_rfl) fun n x => by kernel_rfl

/-! bursary escrow.shares 1 -/
def escrow_shares_1_fyd0_c1_48_l1 (n : Nat) : Nat → Unit × (List Share) × Int × Int × (HL tabT [.int .i64] → HL tabT [.sl (.int .i64)] → Option (Nat × HL tabT [.sl (.int .i64)])) × Nat × (HL tabT [.sl (.int .i64)]) × Unit → Option ((HL tabT [.int .i64] → HL tabT [.sl (.int .i64)] → Option (Nat × HL tabT [.sl (.int .i64)])) × Nat × (HL tabT [.sl (.int .i64)])) := loopF fun r1 ⟨v1, v2, v3, v4, v5, v6, v7, _⟩ =>
    cond (decide (v4 < v3))
      ((idx v2 v4).bind fun x8 =>
      (escrow_least n x8).bind fun y9 =>
      (callY v5 v6 (y9, ()) v7).bind fun y10 =>
      cond (!(Nat.beq y10.1 0))
        (some (v5, y10.1, y10.2))
        (r1 (v1, v2, v3, (IntKind.wrap .i64 (v4 + 1)), v5, y10.1, y10.2, ())))
      (some (v5, v6, v7))
def escrow_shares_1_fyd0_c1_48 (n : Nat) (p1 : Pending) (p2 : Unit) (q0_0 : HL tabT [.int .i64] → HL tabT [.sl (.int .i64)] → Option (Nat × HL tabT [.sl (.int .i64)])) (q0_1 : Nat) (q0_2 : HL tabT [.sl (.int .i64)]) : Option ((HL tabT [.int .i64] → HL tabT [.sl (.int .i64)] → Option (Nat × HL tabT [.sl (.int .i64)])) × Nat × (HL tabT [.sl (.int .i64)])) :=
  escrow_shares_1_fyd0_c1_48_l1 n n (p2, p1.shares, (p1.shares.length : Int), 0, q0_0, q0_1, q0_2, ())
@[reducible] def escrow_shares_1_fyd0_c1_48_ct : Ct tab := ⟨96, [.one (.yd 0), .one (.ro (.st 2)), .one (.ro (.fnc 48))], [.opq [.int .i64] [.sl (.int .i64)]], [], [(some 0, .opq [.int .i64] [.sl (.int .i64)])], ((HL tabT [.int .i64] → HL tabT [.sl (.int .i64)] → Option (Nat × HL tabT [.sl (.int .i64)])) × Nat × (HL tabT [.sl (.int .i64)])), fun y => (y.1, y.2.1, y.2.2, ()), fun y => (y.1, y.2.1, y.2.2.1), fun _ => rfl, fun n x => escrow_shares_1_fyd0_c1_48 n x.1 x.2.1 x.2.2.1 x.2.2.2.1 x.2.2.2.2.1⟩
theorem escrow_shares_1_fyd0_c1_48_ok : OkC Try.prog tab escrow_shares_1_fyd0_c1_48_ct := fn_ok (W := ⟨Try.prog, tab, tyOf, [escrow_least_ct], addO, dpO, false⟩) ⟨tabOk, ⟨escrow_least_ok, trivial⟩, addOk⟩ (by kernel_rfl) 20 Try.f96 (.sq (.n) (.bk none (.lp ⟨[(0, .one (.yd 0)), (2, .one (.ro (.fnc 48))), (7, .one (.d (.sl (.st 1)))), (8, .one (.d (.int .i64))), (9, .one (.d (.int .i64)))], [.opq [.int .i64] [.sl (.int .i64)]], [(0, 0)]⟩ (.n)))) Try.func96 Try.call96 rfl (by kernel_rfl) (by kernel_rfl) (by kernel_rfl) fun n x => by kernel_rfl

/-! bursary escrow.end -/
def escrow_end_f48 (n : Nat) (p0 : Pending) : Option escrow_wide :=
  (escrow_shares_f48 n p0).bind fun y1 =>
  (escrow_shares_1_fyd0_c1_48 n y1 () (fun y2 z3 =>
        (app 8 z3.1 ([y2.1] : List Int)).bind fun l4 =>
        some (0, (l4, ()))) 0 (([p0.value] : List Int), ())).bind fun y5 =>
  sel y5.2.1 [
    (escrow_sum n y5.2.2.1).bind fun y6 =>
    some y6,
    some (escrow_wide.mk 0 0),
    (escrow_sum n y5.2.2.1).bind fun y7 =>
    some y7]
@[reducible] def escrow_end_f48_ct : Ct tab := ⟨47, [.st 2, .one (.fn 48 [])], [], [.st 6], [], escrow_wide, fun y => (y, ()), fun y => y.1, fun _ => rfl, fun n x => escrow_end_f48 n x.1⟩
theorem escrow_end_f48_ok : OkC Try.prog tab escrow_end_f48_ct := fn_ok (W := ⟨Try.prog, tab, tyOf, [escrow_shares_f48_ct, escrow_shares_1_fyd0_c1_48_ct, escrow_sum_ct], addO, dpO, false⟩) ⟨tabOk, ⟨escrow_shares_f48_ok, escrow_shares_1_fyd0_c1_48_ok, escrow_sum_ok, trivial⟩, addOk⟩ (by kernel_rfl) 20 Try.f47 (.sq (.n) (.sq (.n) (.sq (.sq (.n) (.bk none (.rf [(5, .one (.box 0 0))] [(1, .one (.fn 48 [])), (4, .one (.box 2 0)), (12, .one (.fn 96 [.ro (.st 2), .ro (.fnc 48)]))] [.box [.own 1], .row 2 (.int .i64)] [.bst 6] [] 12 (.fn 96 [.ro (.st 2), .ro (.fnc 48)]) [.int .i64] (.n) (.n)))) (.n)))) Try.func47 Try.call47 rfl (by kernel_rfl) (by kernel_rfl) (by kernel_rfl) fun n x => by kernel_rfl

/-! cmp.isNaN int64  -/
def cmp_isNaN_int64 (n : Nat) (p0 : Int) : Option Bool :=
  some (p0 != p0)
@[reducible] def cmp_isNaN_int64_ct : Ct tab := ⟨100, [.one (.d (.int .i64))], [], [.one (.d .bool)], [], Bool, fun y => (y, ()), fun y => y.1, fun _ => rfl, fun n x => cmp_isNaN_int64 n x.1⟩
theorem cmp_isNaN_int64_ok : OkC Try.prog tab cmp_isNaN_int64_ct := fn_ok (W := ⟨Try.prog, tab, tyOf, [], addO, dpO, false⟩) ⟨tabOk, trivial, addOk⟩ (by kernel_rfl) 6 Try.f100 (.n) Try.func100 Try.call100 rfl (by kernel_rfl) (by kernel_rfl) (by kernel_rfl) fun n x => by kernel_rfl

/-! cmp.Compare int64  -/
def cmp_Compare_int64 (n : Nat) (p0 : Int) (p1 : Int) : Option Int :=
  (cmp_isNaN_int64 n p0).bind fun y1 =>
  (cmp_isNaN_int64 n p1).bind fun y2 =>
  cond y1
    (cond y2
      (some 0)
      (some (-1)))
    (cond y2
      (some 1)
      (cond (decide (p0 < p1))
        (some (-1))
        (cond (decide (p0 > p1))
          (some 1)
          (some 0))))
@[reducible] def cmp_Compare_int64_ct : Ct tab := ⟨93, [.one (.d (.int .i64)), .one (.d (.int .i64))], [], [.one (.d (.int .i64))], [], Int, fun y => (y, ()), fun y => y.1, fun _ => rfl, fun n x => cmp_Compare_int64 n x.1 x.2.1⟩
theorem cmp_Compare_int64_ok : OkC Try.prog tab cmp_Compare_int64_ct := fn_ok (W := ⟨Try.prog, tab, tyOf, [cmp_isNaN_int64_ct], addO, dpO, false⟩) ⟨tabOk, ⟨cmp_isNaN_int64_ok, trivial⟩, addOk⟩ (by kernel_rfl) 20 Try.f93 (.n) Try.func93 Try.call93 rfl (by kernel_rfl) (by kernel_rfl) (by kernel_rfl) fun n x => by kernel_rfl

/-! cmp.isNaN uint64  -/
def cmp_isNaN_uint64 (n : Nat) (p0 : Int) : Option Bool :=
  some (p0 != p0)
@[reducible] def cmp_isNaN_uint64_ct : Ct tab := ⟨101, [.one (.d (.int .u64))], [], [.one (.d .bool)], [], Bool, fun y => (y, ()), fun y => y.1, fun _ => rfl, fun n x => cmp_isNaN_uint64 n x.1⟩
theorem cmp_isNaN_uint64_ok : OkC Try.prog tab cmp_isNaN_uint64_ct := fn_ok (W := ⟨Try.prog, tab, tyOf, [], addO, dpO, false⟩) ⟨tabOk, trivial, addOk⟩ (by kernel_rfl) 6 Try.f101 (.n) Try.func101 Try.call101 rfl (by kernel_rfl) (by kernel_rfl) (by kernel_rfl) fun n x => by kernel_rfl

/-! cmp.Compare uint64  -/
def cmp_Compare_uint64 (n : Nat) (p0 : Int) (p1 : Int) : Option Int :=
  (cmp_isNaN_uint64 n p0).bind fun y1 =>
  (cmp_isNaN_uint64 n p1).bind fun y2 =>
  cond y1
    (cond y2
      (some 0)
      (some (-1)))
    (cond y2
      (some 1)
      (cond (decide (p0 < p1))
        (some (-1))
        (cond (decide (p0 > p1))
          (some 1)
          (some 0))))
@[reducible] def cmp_Compare_uint64_ct : Ct tab := ⟨94, [.one (.d (.int .u64)), .one (.d (.int .u64))], [], [.one (.d (.int .i64))], [], Int, fun y => (y, ()), fun y => y.1, fun _ => rfl, fun n x => cmp_Compare_uint64 n x.1 x.2.1⟩
theorem cmp_Compare_uint64_ok : OkC Try.prog tab cmp_Compare_uint64_ct := fn_ok (W := ⟨Try.prog, tab, tyOf, [cmp_isNaN_uint64_ct], addO, dpO, false⟩) ⟨tabOk, ⟨cmp_isNaN_uint64_ok, trivial⟩, addOk⟩ (by kernel_rfl) 20 Try.f94 (.n) Try.func94 Try.call94 rfl (by kernel_rfl) (by kernel_rfl) (by kernel_rfl) fun n x => by kernel_rfl

/-!  bursary escrow.wide .compare -/
def escrow_wide_compare (n : Nat) (p0 : escrow_wide) (p1 : escrow_wide) : Option Int :=
  (cmp_Compare_int64 n p0.high p1.high).bind fun y1 =>
  (cmp_Compare_uint64 n p0.low p1.low).bind fun y2 =>
  (cmp_Or_int n ([y1, y2] : List Int)).bind fun y3 =>
  some y3
@[reducible] def escrow_wide_compare_ct : Ct tab := ⟨80, [.st 6, .st 6], [], [.one (.d (.int .i64))], [], Int, fun y => (y, ()), fun y => y.1, fun _ => rfl, fun n x => escrow_wide_compare n x.1 x.2.1⟩
theorem escrow_wide_compare_ok : OkC Try.prog tab escrow_wide_compare_ct := fn_ok (W := ⟨Try.prog, tab, tyOf, [cmp_Compare_int64_ct, cmp_Compare_uint64_ct, cmp_Or_int_ct], addO, dpO, false⟩) ⟨tabOk, ⟨cmp_Compare_int64_ok, cmp_Compare_uint64_ok, cmp_Or_int_ok, trivial⟩, addOk⟩ (by kernel_rfl) 17 Try.f80 (.n) Try.func80 Try.call80 rfl (by kernel_rfl) (by kernel_rfl) (by kernel_rfl) fun n x => by kernel_rfl

/-! bursary escrow.most -/
def escrow_most (n : Nat) (p0 : Share) : Option Int :=
  some p0.hi
@[reducible] def escrow_most_ct : Ct tab := ⟨51, [.st 1], [], [.one (.d (.int .i64))], [], Int, fun y => (y, ()), fun y => y.1, fun _ => rfl, fun n x => escrow_most n x.1⟩
theorem escrow_most_ok : OkC Try.prog tab escrow_most_ct := fn_ok (W := ⟨Try.prog, tab, tyOf, [], addO, dpO, false⟩) ⟨tabOk, trivial, addOk⟩ (by kernel_rfl) 5 Try.f51 (.n) Try.func51 Try.call51 rfl (by kernel_rfl) (by kernel_rfl) (by kernel_rfl) fun n x => by kernel_rfl

/-! bursary escrow.shares -/
def escrow_shares_f51 (n : Nat) (p0 : Pending) : Option Pending :=
  some p0
@[reducible] def escrow_shares_f51_ct : Ct tab := ⟨82, [.st 2, .one (.fn 51 [])], [], [.one (.fn 96 [.bx 0, .bx 1])], [(none, .bst 2), (none, .box [.fn 51 []])], Pending, fun y => (y, ()), fun y => y.1, fun _ => rfl, fun n x => escrow_shares_f51 n x.1⟩
theorem escrow_shares_f51_ok : OkC Try.prog tab escrow_shares_f51_ct := fn_ok (W := ⟨Try.prog, tab, tyOf, [], addO, dpO, false⟩) ⟨tabOk, trivial, addOk⟩ (by kernel_rfl) 6 Try.f82 (.n) Try.func82 Try.call82 rfl (by kernel_rfl) (by kernel_rfl) (by kernel_rfl) fun n x => by kernel_rfl

/-! bursary escrow.shares 1 -/
def escrow_shares_1_fyd0_c1_51_l1 (n : Nat) : Nat → Unit × (List Share) × Int × Int × (HL tabT [.int .i64] → HL tabT [.sl (.int .i64)] → Option (Nat × HL tabT [.sl (.int .i64)])) × Nat × (HL tabT [.sl (.int .i64)]) × Unit → Option ((HL tabT [.int .i64] → HL tabT [.sl (.int .i64)] → Option (Nat × HL tabT [.sl (.int .i64)])) × Nat × (HL tabT [.sl (.int .i64)])) := loopF fun r1 ⟨v1, v2, v3, v4, v5, v6, v7, _⟩ =>
    cond (decide (v4 < v3))
      ((idx v2 v4).bind fun x8 =>
      (escrow_most n x8).bind fun y9 =>
      (callY v5 v6 (y9, ()) v7).bind fun y10 =>
      cond (!(Nat.beq y10.1 0))
        (some (v5, y10.1, y10.2))
        (r1 (v1, v2, v3, (IntKind.wrap .i64 (v4 + 1)), v5, y10.1, y10.2, ())))
      (some (v5, v6, v7))
def escrow_shares_1_fyd0_c1_51 (n : Nat) (p1 : Pending) (p2 : Unit) (q0_0 : HL tabT [.int .i64] → HL tabT [.sl (.int .i64)] → Option (Nat × HL tabT [.sl (.int .i64)])) (q0_1 : Nat) (q0_2 : HL tabT [.sl (.int .i64)]) : Option ((HL tabT [.int .i64] → HL tabT [.sl (.int .i64)] → Option (Nat × HL tabT [.sl (.int .i64)])) × Nat × (HL tabT [.sl (.int .i64)])) :=
  escrow_shares_1_fyd0_c1_51_l1 n n (p2, p1.shares, (p1.shares.length : Int), 0, q0_0, q0_1, q0_2, ())
@[reducible] def escrow_shares_1_fyd0_c1_51_ct : Ct tab := ⟨96, [.one (.yd 0), .one (.ro (.st 2)), .one (.ro (.fnc 51))], [.opq [.int .i64] [.sl (.int .i64)]], [], [(some 0, .opq [.int .i64] [.sl (.int .i64)])], ((HL tabT [.int .i64] → HL tabT [.sl (.int .i64)] → Option (Nat × HL tabT [.sl (.int .i64)])) × Nat × (HL tabT [.sl (.int .i64)])), fun y => (y.1, y.2.1, y.2.2, ()), fun y => (y.1, y.2.1, y.2.2.1), fun _ => rfl, fun n x => escrow_shares_1_fyd0_c1_51 n x.1 x.2.1 x.2.2.1 x.2.2.2.1 x.2.2.2.2.1⟩
theorem escrow_shares_1_fyd0_c1_51_ok : OkC Try.prog tab escrow_shares_1_fyd0_c1_51_ct := fn_ok (W := ⟨Try.prog, tab, tyOf, [escrow_most_ct], addO, dpO, false⟩) ⟨tabOk, ⟨escrow_most_ok, trivial⟩, addOk⟩ (by kernel_rfl) 20 Try.f96 (.sq (.n) (.bk none (.lp ⟨[(0, .one (.yd 0)), (2, .one (.ro (.fnc 51))), (7, .one (.d (.sl (.st 1)))), (8, .one (.d (.int .i64))), (9, .one (.d (.int .i64)))], [.opq [.int .i64] [.sl (.int .i64)]], [(0, 0)]⟩ (.n)))) Try.func96 Try.call96 rfl (by kernel_rfl) (by kernel_rfl) (by kernel_rfl) fun n x => by kernel_rfl

/-! bursary escrow.end -/
def escrow_end_f51 (n : Nat) (p0 : Pending) : Option escrow_wide :=
  (escrow_shares_f51 n p0).bind fun y1 =>
  (escrow_shares_1_fyd0_c1_51 n y1 () (fun y2 z3 =>
        (app 8 z3.1 ([y2.1] : List Int)).bind fun l4 =>
        some (0, (l4, ()))) 0 (([p0.value] : List Int), ())).bind fun y5 =>
  sel y5.2.1 [
    (escrow_sum n y5.2.2.1).bind fun y6 =>
    some y6,
    some (escrow_wide.mk 0 0),
    (escrow_sum n y5.2.2.1).bind fun y7 =>
    some y7]
@[reducible] def escrow_end_f51_ct : Ct tab := ⟨47, [.st 2, .one (.fn 51 [])], [], [.st 6], [], escrow_wide, fun y => (y, ()), fun y => y.1, fun _ => rfl, fun n x => escrow_end_f51 n x.1⟩
theorem escrow_end_f51_ok : OkC Try.prog tab escrow_end_f51_ct := fn_ok (W := ⟨Try.prog, tab, tyOf, [escrow_shares_f51_ct, escrow_shares_1_fyd0_c1_51_ct, escrow_sum_ct], addO, dpO, false⟩) ⟨tabOk, ⟨escrow_shares_f51_ok, escrow_shares_1_fyd0_c1_51_ok, escrow_sum_ok, trivial⟩, addOk⟩ (by kernel_rfl) 20 Try.f47 (.sq (.n) (.sq (.n) (.sq (.sq (.n) (.bk none (.rf [(5, .one (.box 0 0))] [(1, .one (.fn 51 [])), (4, .one (.box 2 0)), (12, .one (.fn 96 [.ro (.st 2), .ro (.fnc 51)]))] [.box [.own 1], .row 2 (.int .i64)] [.bst 6] [] 12 (.fn 96 [.ro (.st 2), .ro (.fnc 51)]) [.int .i64] (.n) (.n)))) (.n)))) Try.func47 Try.call47 rfl (by kernel_rfl) (by kernel_rfl) (by kernel_rfl) fun n x => by kernel_rfl

/-! bursary escrow.adds -/
def escrow_adds_j1 (n : Nat) : Int × Int × Int × Int × Int × Bounds × (List Share) × Unit → Option (Int × Int × Int × Int × (List Share)) := fun ⟨v5, v6, v7, v8, v9, v10, v11, _⟩ =>
    (idx v11 v6).bind fun x12 =>
    (idx v11 v6).bind fun x13 =>
    (escrow_sum n ([x13.sum, v5] : List Int)).bind fun y14 =>
    (escrow_wide_small n y14).bind fun y15 =>
    cond (!y15.2)
      (some (152, v7, v8, v9, v11))
      ((idx v11 v6).bind fun x16 =>
      (idx v11 v6).bind fun x17 =>
      (idx v11 v6).bind fun x18 =>
      (put v11 v6 (Share.mk x18.txn y15.1 x18.hi x18.lo)).bind fun l19 =>
      (idx l19 v6).bind fun x20 =>
      (put l19 v6 (Share.mk x20.txn x20.sum (if y15.1 > x16.hi then y15.1 else x16.hi) x20.lo)).bind fun l21 =>
      (idx l21 v6).bind fun x22 =>
      (put l21 v6 (Share.mk x22.txn x22.sum x22.hi (if y15.1 < x17.lo then y15.1 else x17.lo))).bind fun l23 =>
      (escrow_end_f48 n (Pending.mk (Key.mk v7 v8) v9 l23)).bind fun y24 =>
      (escrow_of n v10.min).bind fun y25 =>
      (escrow_wide_compare n y24 y25).bind fun y26 =>
      jn (fun (b27 : Bool) =>
          cond b27
            (some (152, v7, v8, v9, l23))
            (some (0, v7, v8, v9, l23))) fun k28 =>
      cond (decide (y26 < 0))
        (k28 true)
        ((escrow_end_f51 n (Pending.mk (Key.mk v7 v8) v9 l23)).bind fun y29 =>
        (escrow_of n v10.max).bind fun y30 =>
        (escrow_wide_compare n y29 y30).bind fun y31 =>
        k28 (decide (y31 > 0))))
def escrow_adds (n : Nat) (p1 : Int) (p2 : Int) (p3 : Bounds) (q0_0 : Int) (q0_1 : Int) (q0_2 : Int) (q1 : List Share) : Option (Int × Int × Int × Int × (List Share)) :=
  (escrow_txn n p1).bind fun y1 =>
  jn (fun (b2 : Bool) =>
      cond b2
        (some (2, q0_0, q0_1, q0_2, q1))
        ((slices_BinarySearchFunc_int_f65 n q1 p1).bind fun y4 =>
        jn (escrow_adds_j1 n) fun j1 =>
        cond (!y4.2)
          (cond (decide ((q1.length : Int) ≥ 8))
            (some (6, q0_0, q0_1, q0_2, q1))
            ((slices_Insert_Share n y4.1 q1 ([(Share.mk p1 0 0 0)] : List Share)).bind fun y32 =>
            j1 (p2, y4.1, q0_0, q0_1, q0_2, p3, y32, ())))
          (j1 (p2, y4.1, q0_0, q0_1, q0_2, p3, q1, ())))) fun k3 =>
  cond (!y1)
    (k3 true)
    (k3 (decide (p3.min > p3.max)))
@[reducible] def escrow_adds_ct : Ct tab := ⟨39, [.one (.box 0 0), .one (.d (.int .i64)), .one (.d (.int .i64)), .st 3], [.box [.d (.int .i64), .d (.int .u16), .d (.int .i64), .own 1], .row 61 (.st 1)], [.one (.d (.int .i64))], [(some 0, .box [.d (.int .i64), .d (.int .u16), .d (.int .i64), .own 1]), (none, .row 61 (.st 1))], (Int × Int × Int × Int × (List Share)), fun y => (y.1, y.2.1, y.2.2.1, y.2.2.2.1, y.2.2.2.2, ()), fun y => (y.1, y.2.1, y.2.2.1, y.2.2.2.1, y.2.2.2.2.1), fun _ => rfl, fun n x => escrow_adds n x.1 x.2.1 x.2.2.1 x.2.2.2.1 x.2.2.2.2.1 x.2.2.2.2.2.1 x.2.2.2.2.2.2.1⟩
theorem escrow_adds_ok : OkC Try.prog tab escrow_adds_ct := fn_ok (W := ⟨Try.prog, tab, tyOf, [escrow_txn_ct, slices_BinarySearchFunc_int_f65_ct, escrow_sum_ct, escrow_wide_small_ct, escrow_end_f48_ct, escrow_of_ct, escrow_wide_compare_ct, escrow_end_f51_ct, slices_Insert_Share_ct], addO, dpO, false⟩) ⟨tabOk, ⟨escrow_txn_ok, slices_BinarySearchFunc_int_f65_ok, escrow_sum_ok, escrow_wide_small_ok, escrow_end_f48_ok, escrow_of_ok, escrow_wide_compare_ok, escrow_end_f51_ok, slices_Insert_Share_ok, trivial⟩, addOk⟩ (by kernel_rfl) 114 Try.f39 (.sq (.n) (.sq (.n) (.sq (.n) (.sq (.sq (.n) (.cd (some ⟨[(0, .one (.box 0 0)), (2, .one (.d (.int .i64))), (7, .one (.box 1 0)), (9, .one (.d (.int .i64)))], [.box [.d (.int .i64), .d (.int .u16), .d (.int .i64), .own 2], .bst 3, .row 61 (.st 1)], [(0, 0)]⟩) (.n) (.n))) (.n))))) Try.func39 Try.call39 rfl (by kernel_rfl) (by kernel_rfl) (by kernel_rfl) fun n x => by kernel_rfl

/-! bursary escrow.right -/
def escrow_right_l1 (n : Nat) : Nat → Bool × Int × (List Share) × Int × Int × Pending × Unit → Option Bool := loopF fun r1 ⟨v6, v7, v8, v9, v10, v11, _⟩ =>
    cond (decide (v10 < v9))
      ((idx v8 v10).bind fun x12 =>
      jn (fun (b13 : Bool) =>
          jn (fun (b15 : Bool) =>
              jn (fun (b17 : Bool) =>
                  jn (fun (b19 : Bool) =>
                      r1 (b19, x12.txn, v8, v9, (IntKind.wrap .i64 (v10 + 1)), v11, ())) fun k20 =>
                  cond b17
                    (k20 (decide (x12.hi ≥ (if x12.sum > 0 then x12.sum else 0))))
                    (k20 false)) fun k18 =>
              cond b15
                (k18 (decide (x12.lo ≤ (if x12.sum < 0 then x12.sum else 0))))
                (k18 false)) fun k16 =>
          cond b13
            (k16 (decide (x12.txn > v7)))
            (k16 false)) fun k14 =>
      cond v6
        ((escrow_txn n x12.txn).bind fun y21 =>
        k14 y21)
        (k14 false))
      ((escrow_end_f48 n v11).bind fun y22 =>
      (escrow_wide_small n y22).bind fun y23 =>
      (escrow_end_f51 n v11).bind fun y24 =>
      (escrow_wide_small n y24).bind fun y25 =>
      jn (fun (b26 : Bool) =>
          jn (fun (b28 : Bool) =>
              some b28) fun k29 =>
          cond b26
            (k29 y25.2)
            (k29 false)) fun k27 =>
      cond v6
        (k27 y23.2)
        (k27 false))
def escrow_right (n : Nat) (p0 : Pending) : Option Bool :=
  (escrow_key n p0.key).bind fun y1 =>
  jn (fun (b2 : Bool) =>
      jn (fun (b4 : Bool) =>
          escrow_right_l1 n n (b4, 0, p0.shares, (p0.shares.length : Int), 0, p0, ())) fun k5 =>
      cond b2
        (k5 (decide ((p0.shares.length : Int) ≤ 8)))
        (k5 false)) fun k3 =>
  cond y1
    (k3 (decide ((p0.shares.length : Int) > 0)))
    (k3 false)
@[reducible] def escrow_right_ct : Ct tab := ⟨37, [.st 2], [], [.one (.d .bool)], [], Bool, fun y => (y, ()), fun y => y.1, fun _ => rfl, fun n x => escrow_right n x.1⟩
theorem escrow_right_ok : OkC Try.prog tab escrow_right_ct := fn_ok (W := ⟨Try.prog, tab, tyOf, [escrow_key_ct, escrow_txn_ct, escrow_end_f48_ct, escrow_wide_small_ct, escrow_end_f51_ct], addO, dpO, false⟩) ⟨tabOk, ⟨escrow_key_ok, escrow_txn_ok, escrow_end_f48_ok, escrow_wide_small_ok, escrow_end_f51_ok, trivial⟩, addOk⟩ (by kernel_rfl) 83 Try.f37 (.sq (.n) (.sq (.n) (.sq (.n) (.sq (.sq (.n) (.bk none (.lp ⟨[(1, .one (.box 0 0)), (3, .one (.d .bool)), (4, .one (.d (.int .i64))), (27, .one (.d (.sl (.st 1)))), (28, .one (.d (.int .i64))), (29, .one (.d (.int .i64)))], [.bst 2], []⟩ (.n)))) (.n))))) Try.func37 Try.call37 rfl (by kernel_rfl) (by kernel_rfl) (by kernel_rfl) fun n x => by kernel_rfl

/-! bursary escrow.Check -/
def escrow_Check_l1 (n : Nat) : Nat → (List Pending) × Int × Int × Escrow × Unit → Option Int := loopF fun r1 ⟨v1, v2, v3, v4, _⟩ =>
    cond (decide (v3 < v2))
      ((idx v1 v3).bind fun x5 =>
      (escrow_right n x5).bind fun y6 =>
      jn (fun (b7 : Bool) =>
          cond b7
            (some 200)
            (r1 (v1, v2, (IntKind.wrap .i64 (v3 + 1)), v4, ()))) fun k8 =>
      cond (!y6)
        (k8 true)
        (jn (fun (b9 : Bool) =>
            k8 b9) fun k10 =>
        cond (decide (v3 > 0))
          ((idx v4.rows (IntKind.wrap .i64 (v3 - 1))).bind fun x11 =>
          (escrow_byKey n x11 x5.key).bind fun y12 =>
          k10 (decide (y12 ≥ 0)))
          (k10 false)))
      (some 0)
def escrow_Check (n : Nat) (p0 : Escrow) : Option Int :=
  cond (decide ((p0.rows.length : Int) > 60))
    (some 200)
    (escrow_Check_l1 n n (p0.rows, (p0.rows.length : Int), 0, p0, ()))
@[reducible] def escrow_Check_ct : Ct tab := ⟨15, [.st 5], [], [.one (.d (.int .i64))], [], Int, fun y => (y, ()), fun y => y.1, fun _ => rfl, fun n x => escrow_Check n x.1⟩
theorem escrow_Check_ok : OkC Try.prog tab escrow_Check_ct := fn_ok (W := ⟨Try.prog, tab, tyOf, [escrow_right_ct, escrow_byKey_ct], addO, dpO, false⟩) ⟨tabOk, ⟨escrow_right_ok, escrow_byKey_ok, trivial⟩, addOk⟩ (by kernel_rfl) 37 Try.f15 (.sq (.n) (.sq (.n) (.sq (.sq (.n) (.bk none (.lp ⟨[(1, .one (.box 0 0)), (10, .one (.d (.sl (.st 2)))), (11, .one (.d (.int .i64))), (12, .one (.d (.int .i64)))], [.bst 5], []⟩ (.n)))) (.n)))) Try.func15 Try.call15 rfl (by kernel_rfl) (by kernel_rfl) (by kernel_rfl) fun n x => by kernel_rfl

/-! slices.Clone   bursary api.Pending bursary api.Pending  -/
def slices_Clone_Pending (n : Nat) (p0 : List Pending) : Option ((List Pending)) :=
  nilC p0.isEmpty
    (some ([] : List Pending))
    ((app 48 ([] : List Pending) p0).bind fun l1 =>
    some l1)
@[reducible] def slices_Clone_Pending_ct : Ct tab := ⟨85, [.one (.d (.sl (.st 2)))], [], [.one (.own 0)], [(none, .row 27 (.st 2))], ((List Pending)), fun y => (y, ()), fun y => y.1, fun _ => rfl, fun n x => slices_Clone_Pending n x.1⟩
theorem slices_Clone_Pending_ok : OkC Try.prog tab slices_Clone_Pending_ct := fn_ok (W := ⟨Try.prog, tab, tyOf, [], addO, dpO, false⟩) ⟨tabOk, trivial, addOk⟩ (by kernel_rfl) 8 Try.f85 (.n) Try.func85 Try.call85 rfl (by kernel_rfl) (by kernel_rfl) (by kernel_rfl) fun n x => by kernel_rfl

/-! slices.Clone   bursary api.Share bursary api.Share  -/
def slices_Clone_Share (n : Nat) (p0 : List Share) : Option ((List Share)) :=
  nilC p0.isEmpty
    (some ([] : List Share))
    ((app 32 ([] : List Share) p0).bind fun l1 =>
    some l1)
@[reducible] def slices_Clone_Share_ct : Ct tab := ⟨38, [.one (.d (.sl (.st 1)))], [], [.one (.own 0)], [(none, .row 61 (.st 1))], ((List Share)), fun y => (y, ()), fun y => y.1, fun _ => rfl, fun n x => slices_Clone_Share n x.1⟩
theorem slices_Clone_Share_ok : OkC Try.prog tab slices_Clone_Share_ct := fn_ok (W := ⟨Try.prog, tab, tyOf, [], addO, dpO, false⟩) ⟨tabOk, trivial, addOk⟩ (by kernel_rfl) 8 Try.f38 (.n) Try.func38 Try.call38 rfl (by kernel_rfl) (by kernel_rfl) (by kernel_rfl) fun n x => by kernel_rfl

/-! bursary escrow.Add 1 -/
def escrow_Add_1_j1 (n : Nat) : Int × Key × Adding × (List Pending) × Unit → Option (Int × Key × Adding × (List Pending)) := fun ⟨v3, v4, v5, v6, _⟩ =>
    (idx v6 v3).bind fun x7 =>
    (sameI v3 v3).bind fun u8 =>
    (escrow_adds n v5.txn v5.by_ v5.bounds x7.key.table x7.key.id x7.value x7.shares).bind fun y9 =>
    some (y9.1, v4, v5, (List.set v6 (Int.toNat v3) (Pending.mk (Key.mk y9.2.1 y9.2.2.1) y9.2.2.2.1 y9.2.2.2.2)))
def escrow_Add_1 (n : Nat) (q1 : List Pending) (q2 : Key) (q3 : Adding) : Option (Int × Key × Adding × (List Pending)) :=
  (escrow_key n q2).bind fun y1 =>
  cond (!y1)
    (some (2, q2, q3, q1))
    ((slices_BinarySearchFunc_Key_f41 n q1 q2).bind fun y2 =>
    jn (escrow_Add_1_j1 n) fun j1 =>
    cond (!y2.2)
      (cond (decide ((q1.length : Int) ≥ 60))
        (some (6, q2, q3, q1))
        ((slices_Insert_Pending n y2.1 q1 ([(Pending.mk q2 q3.now ([] : List Share))] : List Pending)).bind fun y10 =>
        j1 (y2.1, q2, q3, y10, ())))
      (j1 (y2.1, q2, q3, q1, ())))
@[reducible] def escrow_Add_1_ct : Ct tab := ⟨69, [.one (.box 0 0), .one (.box 2 0), .one (.box 3 0)], [.box [.own 1], .deep 27 (.st 2) [none, none, none, some 61], .bst 0, .bst 4], [.one (.d (.int .i64))], [(some 0, .box [.own 3]), (some 2, .bst 0), (some 3, .bst 4), (none, .deep 27 (.st 2) [none, none, none, some 61])], (Int × Key × Adding × (List Pending)), fun y => (y.1, y.2.1, y.2.2.1, y.2.2.2, ()), fun y => (y.1, y.2.1, y.2.2.1, y.2.2.2.1), fun _ => rfl, fun n x => escrow_Add_1 n x.1 x.2.1 x.2.2.1⟩
theorem escrow_Add_1_ok : OkC Try.prog tab escrow_Add_1_ct := fn_ok (W := ⟨Try.prog, tab, tyOf, [escrow_key_ct, slices_BinarySearchFunc_Key_f41_ct, escrow_adds_ct, slices_Insert_Pending_ct], addO, dpO, false⟩) ⟨tabOk, ⟨escrow_key_ok, slices_BinarySearchFunc_Key_f41_ok, escrow_adds_ok, slices_Insert_Pending_ok, trivial⟩, addOk⟩ (by kernel_rfl) 54 Try.f69 (.sq (.n) (.sq (.n) (.sq (.n) (.sq (.sq (.n) (.cd (some ⟨[(0, .one (.box 0 0)), (1, .one (.box 1 0)), (2, .one (.box 2 0)), (5, .one (.d (.int .i64)))], [.box [.own 3], .bst 0, .bst 4, .deep 27 (.st 2) [none, none, none, some 61]], [(0, 0), (2, 1), (3, 2)]⟩) (.n) (.n))) (.sq (.gs [.foc 3 5] (.n)) (.n)))))) Try.func69 Try.call69 rfl (by kernel_rfl) (by kernel_rfl) (by kernel_rfl) fun n x => by kernel_rfl

/-! bursary escrow.Back 1 -/
def escrow_Back_1 (n : Nat) (q1 : List Pending) (q2 : Key) (q3 : Int) (q4 : Int) : Option (Int × Key × Int × Int × (List Pending)) :=
  (slices_BinarySearchFunc_Key_f41 n q1 q2).bind fun y1 =>
  cond (!y1.2)
    (some (4, q2, q3, q4, q1))
    ((idx q1 y1.1).bind fun x2 =>
    (sameI y1.1 y1.1).bind fun u3 =>
    (slices_BinarySearchFunc_int_f65 n x2.shares q3).bind fun y4 =>
    cond (!y4.2)
      (some (4, q2, q3, q4, (List.set q1 (Int.toNat y1.1) x2)))
      ((sameI y1.1 y1.1).bind fun u5 =>
      (idx x2.shares y4.1).bind fun x6 =>
      (idx x2.shares y4.1).bind fun x7 =>
      (escrow_sum n ([(IntKind.wrap .i64 (x7.sum - q4)), q4] : List Int)).bind fun y8 =>
      (idx x2.shares y4.1).bind fun x9 =>
      (escrow_of n x9.sum).bind fun y10 =>
      jn (fun (b11 : Bool) =>
          jn (fun (b13 : Bool) =>
              cond b13
                (some (2, q2, q3, q4, (List.set q1 (Int.toNat y1.1) x2)))
                ((idx x2.shares y4.1).bind fun x15 =>
                (put x2.shares y4.1 (Share.mk x15.txn (IntKind.wrap .i64 (x7.sum - q4)) x15.hi x15.lo)).bind fun l16 =>
                some (0, q2, q3, q4, (List.set q1 (Int.toNat y1.1) (Pending.mk x2.key x2.value l16))))) fun k14 =>
          cond b11
            (k14 true)
            ((idx x2.shares y4.1).bind fun x17 =>
            k14 (decide ((IntKind.wrap .i64 (x7.sum - q4)) > x17.hi)))) fun k12 =>
      cond (!(escrow_wide.eqb y8 y10))
        (k12 true)
        ((idx x2.shares y4.1).bind fun x18 =>
        k12 (decide ((IntKind.wrap .i64 (x7.sum - q4)) < x18.lo)))))
@[reducible] def escrow_Back_1_ct : Ct tab := ⟨73, [.one (.box 0 0), .one (.box 2 0), .one (.box 3 0), .one (.box 4 0)], [.box [.own 1], .deep 27 (.st 2) [none, none, none, some 61], .bst 0, .box [.d (.int .i64)], .box [.d (.int .i64)]], [.one (.d (.int .i64))], [(some 0, .box [.own 4]), (some 2, .bst 0), (some 3, .box [.d (.int .i64)]), (some 4, .box [.d (.int .i64)]), (none, .deep 27 (.st 2) [none, none, none, some 61])], (Int × Key × Int × Int × (List Pending)), fun y => (y.1, y.2.1, y.2.2.1, y.2.2.2.1, y.2.2.2.2, ()), fun y => (y.1, y.2.1, y.2.2.1, y.2.2.2.1, y.2.2.2.2.1), fun _ => rfl, fun n x => escrow_Back_1 n x.1 x.2.1 x.2.2.1 x.2.2.2.1⟩
theorem escrow_Back_1_ok : OkC Try.prog tab escrow_Back_1_ct := fn_ok (W := ⟨Try.prog, tab, tyOf, [slices_BinarySearchFunc_Key_f41_ct, slices_BinarySearchFunc_int_f65_ct, escrow_sum_ct, escrow_of_ct], addO, dpO, false⟩) ⟨tabOk, ⟨slices_BinarySearchFunc_Key_f41_ok, slices_BinarySearchFunc_int_f65_ok, escrow_sum_ok, escrow_of_ok, trivial⟩, addOk⟩ (by kernel_rfl) 83 Try.f73 (.sq (.n) (.sq (.n) (.sq (.n) (.sq (.gs [.foc 1 6] (.n)) (.n))))) Try.func73 Try.call73 rfl (by kernel_rfl) (by kernel_rfl) (by kernel_rfl) fun n x => by kernel_rfl

/-! bursary escrow.Find 1 -/
def escrow_Find_1 (n : Nat) (p0 : Pending) (p1 : Key) : Option Bool :=
  some (Key.eqb p0.key p1)
@[reducible] def escrow_Find_1_ct : Ct tab := ⟨46, [.st 2, .one (.ro (.st 0))], [], [.one (.d .bool)], [], Bool, fun y => (y, ()), fun y => y.1, fun _ => rfl, fun n x => escrow_Find_1 n x.1 x.2.1⟩
theorem escrow_Find_1_ok : OkC Try.prog tab escrow_Find_1_ct := fn_ok (W := ⟨Try.prog, tab, tyOf, [], addO, dpO, false⟩) ⟨tabOk, trivial, addOk⟩ (by kernel_rfl) 8 Try.f46 (.n) Try.func46 Try.call46 rfl (by kernel_rfl) (by kernel_rfl) (by kernel_rfl) fun n x => by kernel_rfl

/-! slices.IndexFunc   bursary api.Pending bursary api.Pending  -/
def slices_IndexFunc_Pending_f46_l1 (n : Nat) : Nat → (List Pending) × Key × Int × Int × Unit → Option Int := loopF fun r1 ⟨v1, v2, v3, v4, _⟩ =>
    cond (decide (v4 < v3))
      ((idx v1 v4).bind fun x5 =>
      (escrow_Find_1 n x5 v2).bind fun y6 =>
      cond y6
        (some v4)
        (r1 (v1, v2, v3, (IntKind.wrap .i64 (v4 + 1)), ())))
      (some (-1))
def slices_IndexFunc_Pending_f46 (n : Nat) (p0 : List Pending) (p1 : Key) : Option Int :=
  slices_IndexFunc_Pending_f46_l1 n n (p0, p1, (p0.length : Int), 0, ())
@[reducible] def slices_IndexFunc_Pending_f46_ct : Ct tab := ⟨45, [.one (.d (.sl (.st 2))), .one (.fn 46 [.ro (.st 0)])], [], [.one (.d (.int .i64))], [], Int, fun y => (y, ()), fun y => y.1, fun _ => rfl, fun n x => slices_IndexFunc_Pending_f46 n x.1 x.2.1⟩
theorem slices_IndexFunc_Pending_f46_ok : OkC Try.prog tab slices_IndexFunc_Pending_f46_ct := fn_ok (W := ⟨Try.prog, tab, tyOf, [escrow_Find_1_ct], addO, dpO, false⟩) ⟨tabOk, ⟨escrow_Find_1_ok, trivial⟩, addOk⟩ (by kernel_rfl) 19 Try.f45 (.sq (.n) (.sq (.sq (.n) (.bk none (.lp ⟨[(0, .one (.d (.sl (.st 2)))), (1, .one (.fn 46 [.ro (.st 0)])), (7, .one (.d (.int .i64))), (8, .one (.d (.int .i64)))], [], []⟩ (.n)))) (.n))) Try.func45 Try.call45 rfl (by kernel_rfl) (by kernel_rfl) (by kernel_rfl) fun n x => by kernel_rfl

/-! bursary escrow.Find -/
def escrow_Find (n : Nat) (p0 : Escrow) (p1 : Key) : Option (Pending × Bool) :=
  (slices_IndexFunc_Pending_f46 n p0.rows p1).bind fun y1 =>
  cond (decide (y1 < 0))
    (some ((Pending.mk (Key.mk 0 0) 0 ([] : List Share)), false))
    ((idx p0.rows y1).bind fun x2 =>
    some (x2, true))
@[reducible] def escrow_Find_ct : Ct tab := ⟨18, [.st 5, .st 0], [], [.st 2, .one (.d .bool)], [], (Pending × Bool), fun y => (y.1, y.2, ()), fun y => (y.1, y.2.1), fun _ => rfl, fun n x => escrow_Find n x.1 x.2.1⟩
theorem escrow_Find_ok : OkC Try.prog tab escrow_Find_ct := fn_ok (W := ⟨Try.prog, tab, tyOf, [slices_IndexFunc_Pending_f46_ct], addO, dpO, false⟩) ⟨tabOk, ⟨slices_IndexFunc_Pending_f46_ok, trivial⟩, addOk⟩ (by kernel_rfl) 19 Try.f18 (.n) Try.func18 Try.call18 rfl (by kernel_rfl) (by kernel_rfl) (by kernel_rfl) fun n x => by kernel_rfl

/-! bursary bursarylaw10.few -/
/-! bursary bursaryref10.key -/
/-! bursary bursaryref10.Of -/
/-! bursary bursaryref10.Plus -/
/-! bursary bursaryref10.ends -/
/-! bursary bursaryref10.Small -/
/-! bursary bursaryref10.RightPending -/
/-! bursary bursaryref10.Above -/
/-! bursary bursaryref10.widened -/
/-! bursary bursaryref10.Admit -/
/-! bursary escrow.Admit -/
/-! bursary bursaryref10.order -/
/-! bursary bursaryref10.Right -/
/-! bursary bursaryref10.Find -/
/-! bursary bursaryref10.SamePending -/
/-! bursary escrow.whole -/
def escrow_whole (n : Nat) (p0 : Share) : Option Int :=
  some p0.sum
/-! bursary escrow.shares -/
def escrow_shares_f50 (n : Nat) (p0 : Pending) : Option Pending :=
  some p0
end
end Go.Proofs.Ytfidbgcdjmhjnaa
