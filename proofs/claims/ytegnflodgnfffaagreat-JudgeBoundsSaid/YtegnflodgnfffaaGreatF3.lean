/- Functions of the program: plain twins and their contracts, printed by program. -/
import Derived.Test.YtegnflodgnfffaaGreatTypes
import Derived.Test.YtegnflodgnfffaaGreatF2
namespace Go.Proofs.YtegnflodgnfffaaGreat
open Go Go.Bur Go.RowKit
set_option linter.unusedVariables false
set_option linter.unusedSimpArgs false
set_option maxRecDepth 100000
noncomputable section
/-! bursary escrow.byKey -/
def escrow_byKey (n : Nat) (p0 : Pending) (p1 : Key) : Option Int :=
  (row_Compare n p0.key p1).bind fun y1 =>
  some y1
@[reducible] def escrow_byKey_ct : Ct tab := ⟨46, [.st 4, .st 2], [], [.one (.d (.int .i64))], [], Int, fun y => (y, ()), fun y => y.1, fun _ => rfl, fun n x => escrow_byKey n x.1 x.2.1⟩
theorem escrow_byKey_ok : OkC Tryz.prog tab escrow_byKey_ct := fn_ok (W := ⟨Tryz.prog, tab, tyOf, [row_Compare_ct], addO, dpO, false⟩) ⟨tabOk, ⟨row_Compare_ok, trivial⟩, addOk⟩ (by kernel_rfl) 9 Tryz.f46 (.n) Tryz.func46 Tryz.call46 rfl (by kernel_rfl) (by kernel_rfl) (by kernel_rfl) fun n x => by kernel_rfl

/-! bursary escrow.Check -/
def escrow_Check_l1 (n : Nat) : Nat → (List Pending) × Int × Int × Escrow × Unit → Option Int := loopF fun r1 ⟨v1, v2, v3, v4, _⟩ =>
    cond (decide (v3 < v2))
      ((idx v1 v3).bind fun x5 =>
      (escrow_right n x5).bind fun y6 =>
      jn (fun (b7 : Bool) =>
          cond b7
            (some 200)
            (r1 (v1, v2, (IntKind.wrap .i64 (v3 + 1)), v4, ()))) fun k8 =>
      cond (!y6)
        (k8 true)
        (jn (fun (b9 : Bool) =>
            k8 b9) fun k10 =>
        cond (decide (v3 > 0))
          ((idx v4.rows (IntKind.wrap .i64 (v3 - 1))).bind fun x11 =>
          (escrow_byKey n x11 x5.key).bind fun y12 =>
          k10 (decide (y12 ≥ 0)))
          (k10 false)))
      (some 0)
def escrow_Check (n : Nat) (p0 : Escrow) : Option Int :=
  cond (decide ((p0.rows.length : Int) > 60))
    (some 200)
    (escrow_Check_l1 n n (p0.rows, (p0.rows.length : Int), 0, p0, ()))
@[reducible] def escrow_Check_ct : Ct tab := ⟨23, [.st 5], [], [.one (.d (.int .i64))], [], Int, fun y => (y, ()), fun y => y.1, fun _ => rfl, fun n x => escrow_Check n x.1⟩
theorem escrow_Check_ok : OkC Tryz.prog tab escrow_Check_ct := fn_ok (W := ⟨Tryz.prog, tab, tyOf, [escrow_right_ct, escrow_byKey_ct], addO, dpO, false⟩) ⟨tabOk, ⟨escrow_right_ok, escrow_byKey_ok, trivial⟩, addOk⟩ (by kernel_rfl) 37 Tryz.f23 (.sq (.n) (.sq (.n) (.sq (.sq (.n) (.bk none (.lp ⟨[(1, .one (.box 0 0)), (10, .one (.d (.sl (.st 4)))), (11, .one (.d (.int .i64))), (12, .one (.d (.int .i64)))], [.bst 5], []⟩ (.n)))) (.n)))) Tryz.func23 Tryz.call23 rfl (by kernel_rfl) (by kernel_rfl) (by kernel_rfl) fun n x => by kernel_rfl

/-! bursary escrow.whole -/
def escrow_whole (n : Nat) (p0 : Share) : Option Int :=
  some p0.sum
@[reducible] def escrow_whole_ct : Ct tab := ⟨52, [.st 3], [], [.one (.d (.int .i64))], [], Int, fun y => (y, ()), fun y => y.1, fun _ => rfl, fun n x => escrow_whole n x.1⟩
theorem escrow_whole_ok : OkC Tryz.prog tab escrow_whole_ct := fn_ok (W := ⟨Tryz.prog, tab, tyOf, [], addO, dpO, false⟩) ⟨tabOk, trivial, addOk⟩ (by kernel_rfl) 5 Tryz.f52 (.n) Tryz.func52 Tryz.call52 rfl (by kernel_rfl) (by kernel_rfl) (by kernel_rfl) fun n x => by kernel_rfl

/-! bursary escrow.shares -/
def escrow_shares_f52 (n : Nat) (p0 : Pending) : Option Pending :=
  some p0
@[reducible] def escrow_shares_f52_ct : Ct tab := ⟨88, [.st 4, .one (.fn 52 [])], [], [.one (.fn 124 [.bx 0, .bx 1])], [(none, .bst 4), (none, .box [.fn 52 []])], Pending, fun y => (y, ()), fun y => y.1, fun _ => rfl, fun n x => escrow_shares_f52 n x.1⟩
theorem escrow_shares_f52_ok : OkC Tryz.prog tab escrow_shares_f52_ct := fn_ok (W := ⟨Tryz.prog, tab, tyOf, [], addO, dpO, false⟩) ⟨tabOk, trivial, addOk⟩ (by kernel_rfl) 6 Tryz.f88 (.n) Tryz.func88 Tryz.call88 rfl (by kernel_rfl) (by kernel_rfl) (by kernel_rfl) fun n x => by kernel_rfl

/-! bursary escrow.shares 1 -/
def escrow_shares_1_fyd1_c1_52_l1 (n : Nat) : Nat → Unit × (List Share) × Int × Int × (HL tabT [.int .i64] → HL tabT [.sl (.int .i64)] → Option (Nat × HL tabT [.sl (.int .i64)])) × Nat × (HL tabT [.sl (.int .i64)]) × Unit → Option ((HL tabT [.int .i64] → HL tabT [.sl (.int .i64)] → Option (Nat × HL tabT [.sl (.int .i64)])) × Nat × (HL tabT [.sl (.int .i64)])) := loopF fun r1 ⟨v1, v2, v3, v4, v5, v6, v7, _⟩ =>
    cond (decide (v4 < v3))
      ((idx v2 v4).bind fun x8 =>
      (escrow_whole n x8).bind fun y9 =>
      (callY v5 v6 (y9, ()) v7).bind fun y10 =>
      cond (!(Nat.beq y10.1 0))
        (some (v5, y10.1, y10.2))
        (r1 (v1, v2, v3, (IntKind.wrap .i64 (v4 + 1)), v5, y10.1, y10.2, ())))
      (some (v5, v6, v7))
def escrow_shares_1_fyd1_c1_52 (n : Nat) (p1 : Pending) (p2 : Unit) (q0_0 : HL tabT [.int .i64] → HL tabT [.sl (.int .i64)] → Option (Nat × HL tabT [.sl (.int .i64)])) (q0_1 : Nat) (q0_2 : HL tabT [.sl (.int .i64)]) : Option ((HL tabT [.int .i64] → HL tabT [.sl (.int .i64)] → Option (Nat × HL tabT [.sl (.int .i64)])) × Nat × (HL tabT [.sl (.int .i64)])) :=
  escrow_shares_1_fyd1_c1_52_l1 n n (p2, p1.shares, (p1.shares.length : Int), 0, q0_0, q0_1, q0_2, ())
@[reducible] def escrow_shares_1_fyd1_c1_52_ct : Ct tab := ⟨124, [.one (.yd 0), .one (.ro (.st 4)), .one (.ro (.fnc 52))], [.opq [.int .i64] [.sl (.int .i64)]], [], [(some 0, .opq [.int .i64] [.sl (.int .i64)])], ((HL tabT [.int .i64] → HL tabT [.sl (.int .i64)] → Option (Nat × HL tabT [.sl (.int .i64)])) × Nat × (HL tabT [.sl (.int .i64)])), fun y => (y.1, y.2.1, y.2.2, ()), fun y => (y.1, y.2.1, y.2.2.1), fun _ => rfl, fun n x => escrow_shares_1_fyd1_c1_52 n x.1 x.2.1 x.2.2.1 x.2.2.2.1 x.2.2.2.2.1⟩
theorem escrow_shares_1_fyd1_c1_52_ok : OkC Tryz.prog tab escrow_shares_1_fyd1_c1_52_ct := fn_ok (W := ⟨Tryz.prog, tab, tyOf, [escrow_whole_ct], addO, dpO, false⟩) ⟨tabOk, ⟨escrow_whole_ok, trivial⟩, addOk⟩ (by kernel_rfl) 20 Tryz.f124 (.sq (.n) (.bk none (.lp ⟨[(0, .one (.yd 0)), (2, .one (.ro (.fnc 52))), (7, .one (.d (.sl (.st 3)))), (8, .one (.d (.int .i64))), (9, .one (.d (.int .i64)))], [.opq [.int .i64] [.sl (.int .i64)]], [(0, 0)]⟩ (.n)))) Tryz.func124 Tryz.call124 rfl (by kernel_rfl) (by kernel_rfl) (by kernel_rfl) fun n x => by kernel_rfl

/-! bursary escrow.end -/
def escrow_end_f52 (n : Nat) (p0 : Pending) : Option escrow_wide :=
  (escrow_shares_f52 n p0).bind fun y1 =>
  (escrow_shares_1_fyd1_c1_52 n y1 () (fun y2 z3 =>
        (app 8 z3.1 ([y2.1] : List Int)).bind fun l4 =>
        some (0, (l4, ()))) 0 (([p0.value] : List Int), ())).bind fun y5 =>
  sel y5.2.1 [
    (escrow_sum n y5.2.2.1).bind fun y6 =>
    some y6,
    some (escrow_wide.mk 0 0),
    (escrow_sum n y5.2.2.1).bind fun y7 =>
    some y7]
@[reducible] def escrow_end_f52_ct : Ct tab := ⟨49, [.st 4, .one (.fn 52 [])], [], [.st 15], [], escrow_wide, fun y => (y, ()), fun y => y.1, fun _ => rfl, fun n x => escrow_end_f52 n x.1⟩
theorem escrow_end_f52_ok : OkC Tryz.prog tab escrow_end_f52_ct := fn_ok (W := ⟨Tryz.prog, tab, tyOf, [escrow_shares_f52_ct, escrow_shares_1_fyd1_c1_52_ct, escrow_sum_ct], addO, dpO, false⟩) ⟨tabOk, ⟨escrow_shares_f52_ok, escrow_shares_1_fyd1_c1_52_ok, escrow_sum_ok, trivial⟩, addOk⟩ (by kernel_rfl) 20 Tryz.f49 (.sq (.n) (.sq (.n) (.sq (.sq (.n) (.bk none (.rf [(5, .one (.box 0 0))] [(1, .one (.fn 52 [])), (4, .one (.box 2 0)), (12, .one (.fn 124 [.ro (.st 4), .ro (.fnc 52)]))] [.box [.own 1], .row 2 (.int .i64)] [.bst 15] [] 12 (.fn 124 [.ro (.st 4), .ro (.fnc 52)]) [.int .i64] (.n) (.n)))) (.n)))) Tryz.func49 Tryz.call49 rfl (by kernel_rfl) (by kernel_rfl) (by kernel_rfl) fun n x => by kernel_rfl

/-! bursary escrow.Ends -/
def escrow_Ends (n : Nat) (p0 : Pending) : Option (Int × Int × Int × Int) :=
  (escrow_right n p0).bind fun y1 =>
  cond (!y1)
    (some (0, 0, 0, 200))
    ((escrow_end_f50 n p0).bind fun y2 =>
    (escrow_wide_small n y2).bind fun y3 =>
    (escrow_end_f52 n p0).bind fun y4 =>
    (escrow_wide_small n y4).bind fun y5 =>
    (escrow_end_f53 n p0).bind fun y6 =>
    (escrow_wide_small n y6).bind fun y7 =>
    some (y3.1, y5.1, y7.1, 0))
@[reducible] def escrow_Ends_ct : Ct tab := ⟨25, [.st 4], [], [.one (.d (.int .i64)), .one (.d (.int .i64)), .one (.d (.int .i64)), .one (.d (.int .i64))], [], (Int × Int × Int × Int), fun y => (y.1, y.2.1, y.2.2.1, y.2.2.2, ()), fun y => (y.1, y.2.1, y.2.2.1, y.2.2.2.1), fun _ => rfl, fun n x => escrow_Ends n x.1⟩
theorem escrow_Ends_ok : OkC Tryz.prog tab escrow_Ends_ct := fn_ok (W := ⟨Tryz.prog, tab, tyOf, [escrow_right_ct, escrow_end_f50_ct, escrow_wide_small_ct, escrow_end_f52_ct, escrow_end_f53_ct], addO, dpO, false⟩) ⟨tabOk, ⟨escrow_right_ok, escrow_end_f50_ok, escrow_wide_small_ok, escrow_end_f52_ok, escrow_end_f53_ok, trivial⟩, addOk⟩ (by kernel_rfl) 36 Tryz.f25 (.n) Tryz.func25 Tryz.call25 rfl (by kernel_rfl) (by kernel_rfl) (by kernel_rfl) fun n x => by kernel_rfl

/-! bursary judge.Within -/
def judge_Within_l1 (n : Nat) : Nat → (List Pending) × Int × Int × Schema × Key × Unit → Option (Key × Int) := loopF fun r1 ⟨v3, v4, v5, v6, v7, _⟩ =>
    cond (decide (v5 < v4))
      ((idx v3 v5).bind fun x8 =>
      (row_CheckKey n v6 x8.key).bind fun y9 =>
      cond (y9 != 0)
        (some (x8.key, 373))
        ((idx v6.tables x8.key.table).bind fun x10 =>
        (escrow_Ends n x8).bind fun y11 =>
        jn (fun (b12 : Bool) =>
            jn (fun (b14 : Bool) =>
                cond b14
                  (some (x8.key, 373))
                  (r1 (v3, v4, (IntKind.wrap .i64 (v5 + 1)), v6, v7, ()))) fun k15 =>
            cond b12
              (k15 true)
              (k15 (decide (y11.2.2.1 > x10.max)))) fun k13 =>
        cond (y11.2.2.2 != 0)
          (k13 true)
          (k13 (decide (y11.1 < x10.min)))))
      (some ((Key.mk 0 0), 0))
def judge_Within (n : Nat) (p0 : Schema) (p1 : Escrow) : Option (Key × Int) :=
  (row_Check n p0).bind fun y1 =>
  cond (y1 != 0)
    (some ((Key.mk 0 0), y1))
    ((escrow_Check n p1).bind fun y2 =>
    cond (y2 != 0)
      (some ((Key.mk 0 0), y2))
      (judge_Within_l1 n n (p1.rows, (p1.rows.length : Int), 0, p0, (Key.mk 0 0), ())))
@[reducible] def judge_Within_ct : Ct tab := ⟨7, [.st 1, .st 5], [], [.st 2, .one (.d (.int .i64))], [], (Key × Int), fun y => (y.1, y.2, ()), fun y => (y.1, y.2.1), fun _ => rfl, fun n x => judge_Within n x.1 x.2.1⟩
theorem judge_Within_ok : OkC Tryz.prog tab judge_Within_ct := fn_ok (W := ⟨Tryz.prog, tab, tyOf, [row_Check_ct, escrow_Check_ct, row_CheckKey_ct, escrow_Ends_ct], addO, dpO, false⟩) ⟨tabOk, ⟨row_Check_ok, escrow_Check_ok, row_CheckKey_ok, escrow_Ends_ok, trivial⟩, addOk⟩ (by kernel_rfl) 73 Tryz.f7 (.sq (.n) (.sq (.n) (.sq (.n) (.sq (.sq (.n) (.bk none (.lp ⟨[(2, .one (.box 0 0)), (4, .one (.box 1 0)), (28, .one (.d (.sl (.st 4)))), (29, .one (.d (.int .i64))), (30, .one (.d (.int .i64)))], [.bst 1, .bst 2], []⟩ (.n)))) (.n))))) Tryz.func7 Tryz.call7 rfl (by kernel_rfl) (by kernel_rfl) (by kernel_rfl) fun n x => by kernel_rfl

/-! bursary bursaryref05.Right -/
def ref05_Right_l1 (n : Nat) : Nat → Int × Schema × Unit → Option Bool := loopF fun r1 ⟨v3, v4, _⟩ =>
    cond (decide (v3 < (v4.tables.length : Int)))
      ((idx v4.tables v3).bind fun x5 =>
      (idx v4.tables v3).bind fun x6 =>
      cond (decide (x5.min > x6.max))
        (some false)
        (r1 ((IntKind.wrap .i64 (v3 + 1)), v4, ())))
      (some true)
def ref05_Right (n : Nat) (p0 : Schema) : Option Bool :=
  jn (fun (b1 : Bool) =>
      cond b1
        (some false)
        (ref05_Right_l1 n n (0, p0, ()))) fun k2 =>
  cond (decide ((p0.tables.length : Int) < 1))
    (k2 true)
    (k2 (decide ((p0.tables.length : Int) > 3)))
@[reducible] def ref05_Right_ct : Ct tab := ⟨8, [.st 1], [], [.one (.d .bool)], [], Bool, fun y => (y, ()), fun y => y.1, fun _ => rfl, fun n x => ref05_Right n x.1⟩
theorem ref05_Right_ok : OkC Tryz.prog tab ref05_Right_ct := fn_ok (W := ⟨Tryz.prog, tab, tyOf, [], addO, dpO, false⟩) ⟨tabOk, trivial, addOk⟩ (by kernel_rfl) 34 Tryz.f8 (.sq (.n) (.sq (.n) (.sq (.sq (.n) (.bk none (.lp ⟨[(1, .one (.box 0 0)), (3, .one (.d (.int .i64)))], [.bst 1], []⟩ (.n)))) (.n)))) Tryz.func8 Tryz.call8 rfl (by kernel_rfl) (by kernel_rfl) (by kernel_rfl) fun n x => by kernel_rfl

/-! bursary bursaryref10.key -/
def ref10_key (n : Nat) (p0 : Key) : Option Bool :=
  jn (fun (b1 : Bool) =>
      some b1) fun k2 =>
  cond (decide (p0.table ≥ 0))
    (k2 (decide (p0.table < 3)))
    (k2 false)
@[reducible] def ref10_key_ct : Ct tab := ⟨54, [.st 2], [], [.one (.d .bool)], [], Bool, fun y => (y, ()), fun y => y.1, fun _ => rfl, fun n x => ref10_key n x.1⟩
theorem ref10_key_ok : OkC Tryz.prog tab ref10_key_ct := fn_ok (W := ⟨Tryz.prog, tab, tyOf, [], addO, dpO, false⟩) ⟨tabOk, trivial, addOk⟩ (by kernel_rfl) 11 Tryz.f54 (.n) Tryz.func54 Tryz.call54 rfl (by kernel_rfl) (by kernel_rfl) (by kernel_rfl) fun n x => by kernel_rfl

/-! bursary bursaryref10.Of -/
def ref10_Of (n : Nat) (p0 : Int) : Option ref10_Big :=
  (shrP .i64 p0 32).bind fun z1 =>
  some (ref10_Big.mk z1 (andV .i64 p0 4294967295))
@[reducible] def ref10_Of_ct : Ct tab := ⟨91, [.one (.d (.int .i64))], [], [.st 16], [], ref10_Big, fun y => (y, ()), fun y => y.1, fun _ => rfl, fun n x => ref10_Of n x.1⟩
theorem ref10_Of_ok : OkC Tryz.prog tab ref10_Of_ct := fn_ok (W := ⟨Tryz.prog, tab, tyOf, [], addO, dpO, false⟩) ⟨tabOk, trivial, addOk⟩ (by kernel_rfl) 8 Tryz.f91 (.n) Tryz.func91 Tryz.call91 rfl (by kernel_rfl) (by kernel_rfl) (by kernel_rfl) fun n x => by kernel_rfl

/-! bursary bursaryref10.Plus -/
def ref10_Plus (n : Nat) (p0 : ref10_Big) (p1 : ref10_Big) : Option ref10_Big :=
  (shrP .i64 (IntKind.wrap .i64 (p0.l + p1.l)) 32).bind fun z1 =>
  some (ref10_Big.mk (IntKind.wrap .i64 ((IntKind.wrap .i64 (p0.h + p1.h)) + z1)) (andV .i64 (IntKind.wrap .i64 (p0.l + p1.l)) 4294967295))
@[reducible] def ref10_Plus_ct : Ct tab := ⟨92, [.st 16, .st 16], [], [.st 16], [], ref10_Big, fun y => (y, ()), fun y => y.1, fun _ => rfl, fun n x => ref10_Plus n x.1 x.2.1⟩
theorem ref10_Plus_ok : OkC Tryz.prog tab ref10_Plus_ct := fn_ok (W := ⟨Tryz.prog, tab, tyOf, [], addO, dpO, false⟩) ⟨tabOk, trivial, addOk⟩ (by kernel_rfl) 22 Tryz.f92 (.n) Tryz.func92 Tryz.call92 rfl (by kernel_rfl) (by kernel_rfl) (by kernel_rfl) fun n x => by kernel_rfl

/-! bursary bursaryref10.ends -/
def ref10_ends_l1 (n : Nat) : Nat → (List Share) × Int × Int × ref10_Big × ref10_Big × ref10_Big × ref10_Big × ref10_Big × ref10_Big × Unit → Option (ref10_Big × ref10_Big × ref10_Big) := loopF fun r1 ⟨v4, v5, v6, v7, v8, v9, v10, v11, v12, _⟩ =>
    cond (decide (v6 < v5))
      ((idx v4 v6).bind fun x13 =>
      (ref10_Of n x13.lo).bind fun y14 =>
      (ref10_Plus n v10 y14).bind fun y15 =>
      (ref10_Of n x13.sum).bind fun y16 =>
      (ref10_Plus n v11 y16).bind fun y17 =>
      (ref10_Of n x13.hi).bind fun y18 =>
      (ref10_Plus n v12 y18).bind fun y19 =>
      r1 (v4, v5, (IntKind.wrap .i64 (v6 + 1)), v7, v8, v9, y15, y17, y19, ()))
      (some (v10, v11, v12))
def ref10_ends (n : Nat) (p0 : Pending) : Option (ref10_Big × ref10_Big × ref10_Big) :=
  (ref10_Of n p0.value).bind fun y1 =>
  (ref10_Of n p0.value).bind fun y2 =>
  (ref10_Of n p0.value).bind fun y3 =>
  ref10_ends_l1 n n (p0.shares, (p0.shares.length : Int), 0, (ref10_Big.mk 0 0), (ref10_Big.mk 0 0), (ref10_Big.mk 0 0), y1, y2, y3, ())
@[reducible] def ref10_ends_ct : Ct tab := ⟨55, [.st 4], [], [.st 16, .st 16, .st 16], [], (ref10_Big × ref10_Big × ref10_Big), fun y => (y.1, y.2.1, y.2.2, ()), fun y => (y.1, y.2.1, y.2.2.1), fun _ => rfl, fun n x => ref10_ends n x.1⟩
theorem ref10_ends_ok : OkC Tryz.prog tab ref10_ends_ct := fn_ok (W := ⟨Tryz.prog, tab, tyOf, [ref10_Of_ct, ref10_Plus_ct], addO, dpO, false⟩) ⟨tabOk, ⟨ref10_Of_ok, ref10_Plus_ok, trivial⟩, addOk⟩ (by kernel_rfl) 45 Tryz.f55 (.sq (.n) (.sq (.n) (.sq (.sq (.n) (.bk none (.lp ⟨[(2, .one (.box 0 0)), (3, .one (.box 1 0)), (4, .one (.box 2 0)), (5, .one (.box 3 0)), (6, .one (.box 4 0)), (7, .one (.box 5 0)), (20, .one (.d (.sl (.st 3)))), (21, .one (.d (.int .i64))), (22, .one (.d (.int .i64)))], [.bst 16, .bst 16, .bst 16, .bst 16, .bst 16, .bst 16], []⟩ (.n)))) (.n)))) Tryz.func55 Tryz.call55 rfl (by kernel_rfl) (by kernel_rfl) (by kernel_rfl) fun n x => by kernel_rfl

/-! bursary bursaryref10.Small -/
def ref10_Small (n : Nat) (p0 : ref10_Big) : Option (Int × Bool) :=
  jn (fun (b1 : Bool) =>
      cond b1
        (some (0, false))
        ((shlP .i64 p0.h 32).bind fun z3 =>
        some ((IntKind.wrap .i64 (z3 + p0.l)), true))) fun k2 =>
  cond (decide (p0.h < (-2147483648)))
    (k2 true)
    (k2 (decide (p0.h ≥ 2147483648)))
@[reducible] def ref10_Small_ct : Ct tab := ⟨56, [.st 16], [], [.one (.d (.int .i64)), .one (.d .bool)], [], (Int × Bool), fun y => (y.1, y.2, ()), fun y => (y.1, y.2.1), fun _ => rfl, fun n x => ref10_Small n x.1⟩
theorem ref10_Small_ok : OkC Tryz.prog tab ref10_Small_ct := fn_ok (W := ⟨Tryz.prog, tab, tyOf, [], addO, dpO, false⟩) ⟨tabOk, trivial, addOk⟩ (by kernel_rfl) 18 Tryz.f56 (.n) Tryz.func56 Tryz.call56 rfl (by kernel_rfl) (by kernel_rfl) (by kernel_rfl) fun n x => by kernel_rfl

/-! bursary bursaryref10.RightPending -/
def ref10_RightPending_l1 (n : Nat) : Nat → (List Share) × Int × Int × Pending × Unit → Option Bool := loopF fun r1 ⟨v6, v7, v8, v9, _⟩ =>
    cond (decide (v8 < v7))
      ((idx v6 v8).bind fun x10 =>
      jn (fun (b11 : Bool) =>
          jn (fun (b13 : Bool) =>
              jn (fun (b15 : Bool) =>
                  jn (fun (b17 : Bool) =>
                      jn (fun (b19 : Bool) =>
                          jn (fun (b21 : Bool) =>
                              cond b21
                                (some false)
                                (r1 (v6, v7, (IntKind.wrap .i64 (v8 + 1)), v9, ()))) fun k22 =>
                          cond b19
                            (k22 true)
                            (k22 (decide (x10.sum > x10.hi)))) fun k20 =>
                      cond b17
                        (k20 true)
                        (k20 (decide (x10.sum < x10.lo)))) fun k18 =>
                  cond b15
                    (k18 true)
                    (k18 (decide (x10.hi < 0)))) fun k16 =>
              cond b13
                (k16 true)
                (k16 (decide (x10.lo > 0)))) fun k14 =>
          cond b11
            (k14 true)
            (jn (fun (b23 : Bool) =>
                k14 b23) fun k24 =>
            cond (decide (v8 > 0))
              ((idx v9.shares (IntKind.wrap .i64 (v8 - 1))).bind fun x25 =>
              k24 (decide (x25.txn ≥ x10.txn)))
              (k24 false))) fun k12 =>
      cond (decide (x10.txn < 1))
        (k12 true)
        (k12 (decide (x10.txn > 1073741824))))
      ((ref10_ends n v9).bind fun y26 =>
      (ref10_Small n y26.1).bind fun y27 =>
      (ref10_Small n y26.2.2).bind fun y28 =>
      jn (fun (b29 : Bool) =>
          some b29) fun k30 =>
      cond y27.2
        (k30 y28.2)
        (k30 false))
def ref10_RightPending (n : Nat) (p0 : Pending) : Option Bool :=
  (ref10_key n p0.key).bind fun y1 =>
  jn (fun (b2 : Bool) =>
      jn (fun (b4 : Bool) =>
          cond b4
            (some false)
            (ref10_RightPending_l1 n n (p0.shares, (p0.shares.length : Int), 0, p0, ()))) fun k5 =>
      cond b2
        (k5 true)
        (k5 (decide ((p0.shares.length : Int) > 8)))) fun k3 =>
  cond (!y1)
    (k3 true)
    (k3 (decide ((p0.shares.length : Int) < 1)))
@[reducible] def ref10_RightPending_ct : Ct tab := ⟨26, [.st 4], [], [.one (.d .bool)], [], Bool, fun y => (y, ()), fun y => y.1, fun _ => rfl, fun n x => ref10_RightPending n x.1⟩
theorem ref10_RightPending_ok : OkC Tryz.prog tab ref10_RightPending_ct := fn_ok (W := ⟨Tryz.prog, tab, tyOf, [ref10_key_ct, ref10_ends_ct, ref10_Small_ct], addO, dpO, false⟩) ⟨tabOk, ⟨ref10_key_ok, ref10_ends_ok, ref10_Small_ok, trivial⟩, addOk⟩ (by kernel_rfl) 105 Tryz.f26 (.sq (.n) (.sq (.n) (.sq (.sq (.n) (.bk none (.lp ⟨[(1, .one (.box 0 0)), (29, .one (.d (.sl (.st 3)))), (30, .one (.d (.int .i64))), (31, .one (.d (.int .i64)))], [.bst 4], []⟩ (.n)))) (.n)))) Tryz.func26 Tryz.call26 rfl (by kernel_rfl) (by kernel_rfl) (by kernel_rfl) fun n x => by kernel_rfl

/-! bursary bursaryref10.order -/
def ref10_order (n : Nat) (p0 : Key) (p1 : Key) : Option Int :=
  cond (decide ((IntKind.wrap .i64 ((IntKind.wrap .i64 (p0.table * 65536)) + (IntKind.wrap .i64 p0.id))) < (IntKind.wrap .i64 ((IntKind.wrap .i64 (p1.table * 65536)) + (IntKind.wrap .i64 p1.id)))))
    (some (-1))
    (cond (decide ((IntKind.wrap .i64 ((IntKind.wrap .i64 (p0.table * 65536)) + (IntKind.wrap .i64 p0.id))) > (IntKind.wrap .i64 ((IntKind.wrap .i64 (p1.table * 65536)) + (IntKind.wrap .i64 p1.id)))))
      (some 1)
      (some 0))
@[reducible] def ref10_order_ct : Ct tab := ⟨27, [.st 2, .st 2], [], [.one (.d (.int .i64))], [], Int, fun y => (y, ()), fun y => y.1, fun _ => rfl, fun n x => ref10_order n x.1 x.2.1⟩
theorem ref10_order_ok : OkC Tryz.prog tab ref10_order_ct := fn_ok (W := ⟨Tryz.prog, tab, tyOf, [], addO, dpO, false⟩) ⟨tabOk, trivial, addOk⟩ (by kernel_rfl) 29 Tryz.f27 (.n) Tryz.func27 Tryz.call27 rfl (by kernel_rfl) (by kernel_rfl) (by kernel_rfl) fun n x => by kernel_rfl

/-! bursary bursaryref10.Right -/
def ref10_Right_l1 (n : Nat) : Nat → (List Pending) × Int × Int × Escrow × Unit → Option Bool := loopF fun r1 ⟨v1, v2, v3, v4, _⟩ =>
    cond (decide (v3 < v2))
      ((idx v1 v3).bind fun x5 =>
      (ref10_RightPending n x5).bind fun y6 =>
      jn (fun (b7 : Bool) =>
          cond b7
            (some false)
            (r1 (v1, v2, (IntKind.wrap .i64 (v3 + 1)), v4, ()))) fun k8 =>
      cond (!y6)
        (k8 true)
        (jn (fun (b9 : Bool) =>
            k8 b9) fun k10 =>
        cond (decide (v3 > 0))
          ((idx v4.rows (IntKind.wrap .i64 (v3 - 1))).bind fun x11 =>
          (ref10_order n x11.key x5.key).bind fun y12 =>
          k10 (decide (y12 ≥ 0)))
          (k10 false)))
      (some true)
def ref10_Right (n : Nat) (p0 : Escrow) : Option Bool :=
  cond (decide ((p0.rows.length : Int) > 60))
    (some false)
    (ref10_Right_l1 n n (p0.rows, (p0.rows.length : Int), 0, p0, ()))
@[reducible] def ref10_Right_ct : Ct tab := ⟨9, [.st 5], [], [.one (.d .bool)], [], Bool, fun y => (y, ()), fun y => y.1, fun _ => rfl, fun n x => ref10_Right n x.1⟩
theorem ref10_Right_ok : OkC Tryz.prog tab ref10_Right_ct := fn_ok (W := ⟨Tryz.prog, tab, tyOf, [ref10_RightPending_ct, ref10_order_ct], addO, dpO, false⟩) ⟨tabOk, ⟨ref10_RightPending_ok, ref10_order_ok, trivial⟩, addOk⟩ (by kernel_rfl) 38 Tryz.f9 (.sq (.n) (.sq (.n) (.sq (.sq (.n) (.bk none (.lp ⟨[(1, .one (.box 0 0)), (10, .one (.d (.sl (.st 4)))), (11, .one (.d (.int .i64))), (12, .one (.d (.int .i64)))], [.bst 5], []⟩ (.n)))) (.n)))) Tryz.func9 Tryz.call9 rfl (by kernel_rfl) (by kernel_rfl) (by kernel_rfl) fun n x => by kernel_rfl

/-! bursary bursaryref05.KeyError -/
def ref05_KeyError (n : Nat) (p0 : Schema) (p1 : Key) : Option Int :=
  jn (fun (b1 : Bool) =>
      cond b1
        (some 151)
        (some 0)) fun k2 =>
  cond (decide (p1.table < 0))
    (k2 true)
    (k2 (decide (p1.table ≥ (p0.tables.length : Int))))
@[reducible] def ref05_KeyError_ct : Ct tab := ⟨28, [.st 1, .st 2], [], [.one (.d (.int .i64))], [], Int, fun y => (y, ()), fun y => y.1, fun _ => rfl, fun n x => ref05_KeyError n x.1 x.2.1⟩
theorem ref05_KeyError_ok : OkC Tryz.prog tab ref05_KeyError_ct := fn_ok (W := ⟨Tryz.prog, tab, tyOf, [], addO, dpO, false⟩) ⟨tabOk, trivial, addOk⟩ (by kernel_rfl) 16 Tryz.f28 (.n) Tryz.func28 Tryz.call28 rfl (by kernel_rfl) (by kernel_rfl) (by kernel_rfl) fun n x => by kernel_rfl

/-! bursary bursaryref10.Ends -/
def ref10_Ends (n : Nat) (p0 : Pending) : Option (Int × Int × Int) :=
  (ref10_ends n p0).bind fun y1 =>
  (ref10_Small n y1.1).bind fun y2 =>
  (ref10_Small n y1.2.1).bind fun y3 =>
  (ref10_Small n y1.2.2).bind fun y4 =>
  some (y2.1, y3.1, y4.1)
@[reducible] def ref10_Ends_ct : Ct tab := ⟨29, [.st 4], [], [.one (.d (.int .i64)), .one (.d (.int .i64)), .one (.d (.int .i64))], [], (Int × Int × Int), fun y => (y.1, y.2.1, y.2.2, ()), fun y => (y.1, y.2.1, y.2.2.1), fun _ => rfl, fun n x => ref10_Ends n x.1⟩
theorem ref10_Ends_ok : OkC Tryz.prog tab ref10_Ends_ct := fn_ok (W := ⟨Tryz.prog, tab, tyOf, [ref10_ends_ct, ref10_Small_ct], addO, dpO, false⟩) ⟨tabOk, ⟨ref10_ends_ok, ref10_Small_ok, trivial⟩, addOk⟩ (by kernel_rfl) 38 Tryz.f29 (.n) Tryz.func29 Tryz.call29 rfl (by kernel_rfl) (by kernel_rfl) (by kernel_rfl) fun n x => by kernel_rfl

/-! bursary bursaryref27.Within -/
def ref27_Within_l1 (n : Nat) : Nat → Int × Schema × Escrow × Key × Unit → Option (Key × Bool) := loopF fun r1 ⟨v1, v2, v3, v4, _⟩ =>
    cond (decide (v1 < (v3.rows.length : Int)))
      ((idx v3.rows v1).bind fun x5 =>
      (ref05_KeyError n v2 x5.key).bind fun y6 =>
      cond (y6 != 0)
        (some (x5.key, false))
        ((idx v2.tables x5.key.table).bind fun x7 =>
        (ref10_Ends n x5).bind fun y8 =>
        jn (fun (b9 : Bool) =>
            cond b9
              (some (x5.key, false))
              (r1 ((IntKind.wrap .i64 (v1 + 1)), v2, v3, v4, ()))) fun k10 =>
        cond (decide (y8.1 < x7.min))
          (k10 true)
          (k10 (decide (y8.2.2 > x7.max)))))
      (some ((Key.mk 0 0), true))
def ref27_Within (n : Nat) (p0 : Schema) (p1 : Escrow) : Option (Key × Bool) :=
  ref27_Within_l1 n n (0, p0, p1, (Key.mk 0 0), ())
@[reducible] def ref27_Within_ct : Ct tab := ⟨10, [.st 1, .st 5], [], [.st 2, .one (.d .bool)], [], (Key × Bool), fun y => (y.1, y.2, ()), fun y => (y.1, y.2.1), fun _ => rfl, fun n x => ref27_Within n x.1 x.2.1⟩
theorem ref27_Within_ok : OkC Tryz.prog tab ref27_Within_ct := fn_ok (W := ⟨Tryz.prog, tab, tyOf, [ref05_KeyError_ct, ref10_Ends_ct], addO, dpO, false⟩) ⟨tabOk, ⟨ref05_KeyError_ok, ref10_Ends_ok, trivial⟩, addOk⟩ (by kernel_rfl) 57 Tryz.f10 (.sq (.n) (.sq (.sq (.n) (.bk none (.lp ⟨[(2, .one (.box 0 0)), (3, .one (.box 1 0)), (4, .one (.box 2 0)), (6, .one (.d (.int .i64)))], [.bst 1, .bst 5, .bst 2], []⟩ (.n)))) (.n))) Tryz.func10 Tryz.call10 rfl (by kernel_rfl) (by kernel_rfl) (by kernel_rfl) fun n x => by kernel_rfl

/-! bursary bursarylaw27.overEscrow -/
def law27_overEscrow_l1 (n : Nat) : Nat → (List Pending) × Int × Int × Unit → Option Bool := loopF fun r1 ⟨v1, v2, v3, _⟩ =>
    cond (decide (v3 < v2))
      ((idx v1 v3).bind fun x4 =>
      cond (decide ((x4.shares.length : Int) > 20))
        (some true)
        (r1 (v1, v2, (IntKind.wrap .i64 (v3 + 1)), ())))
      (some false)
def law27_overEscrow (n : Nat) (p0 : Escrow) : Option Bool :=
  cond (decide ((p0.rows.length : Int) > 80))
    (some true)
    (law27_overEscrow_l1 n n (p0.rows, (p0.rows.length : Int), 0, ()))
@[reducible] def law27_overEscrow_ct : Ct tab := ⟨6, [.st 5], [], [.one (.d .bool)], [], Bool, fun y => (y, ()), fun y => y.1, fun _ => rfl, fun n x => law27_overEscrow n x.1⟩
theorem law27_overEscrow_ok : OkC Tryz.prog tab law27_overEscrow_ct := fn_ok (W := ⟨Tryz.prog, tab, tyOf, [], addO, dpO, false⟩) ⟨tabOk, trivial, addOk⟩ (by kernel_rfl) 21 Tryz.f6 (.sq (.n) (.sq (.n) (.sq (.sq (.n) (.bk none (.lp ⟨[(10, .one (.d (.sl (.st 4)))), (11, .one (.d (.int .i64))), (12, .one (.d (.int .i64)))], [], []⟩ (.n)))) (.n)))) Tryz.func6 Tryz.call6 rfl (by kernel_rfl) (by kernel_rfl) (by kernel_rfl) fun n x => by kernel_rfl

/-! bursary bursarylaw27.JudgeBounds -/
def law27_JudgeBounds (n : Nat) (p0 : Schema) (p1 : Escrow) : Option Bool :=
  (law27_wakes n).bind fun y1 =>
  cond (!y1)
    (some false)
    (jn (fun (b2 : Bool) =>
        cond b2
          (some true)
          ((judge_Within n p0 p1).bind fun y4 =>
          (ref05_Right n p0).bind fun y5 =>
          cond (!y5)
            (jn (fun (b6 : Bool) =>
                some b6) fun k7 =>
            cond (Key.eqb y4.1 (Key.mk 0 0))
              (k7 (y4.2 == 150))
              (k7 false))
            ((ref10_Right n p1).bind fun y8 =>
            cond (!y8)
              (jn (fun (b9 : Bool) =>
                  some b9) fun k10 =>
              cond (Key.eqb y4.1 (Key.mk 0 0))
                (k10 (y4.2 == 200))
                (k10 false))
              ((ref27_Within n p0 p1).bind fun y11 =>
              cond (!y11.2)
                (jn (fun (b12 : Bool) =>
                    some b12) fun k13 =>
                cond (Key.eqb y4.1 y11.1)
                  (k13 (y4.2 == 373))
                  (k13 false))
                (jn (fun (b14 : Bool) =>
                    some b14) fun k15 =>
                cond (Key.eqb y4.1 (Key.mk 0 0))
                  (k15 (y4.2 == 0))
                  (k15 false)))))) fun k3 =>
    cond (decide ((p0.tables.length : Int) > 20))
      (k3 true)
      ((law27_overEscrow n p1).bind fun y16 =>
      k3 y16))
@[reducible] def law27_JudgeBounds_ct : Ct tab := ⟨3, [.st 1, .st 5], [], [.one (.d .bool)], [], Bool, fun y => (y, ()), fun y => y.1, fun _ => rfl, fun n x => law27_JudgeBounds n x.1 x.2.1⟩
theorem law27_JudgeBounds_ok : OkC Tryz.prog tab law27_JudgeBounds_ct := fn_ok (W := ⟨Tryz.prog, tab, tyOf, [law27_wakes_ct, judge_Within_ct, ref05_Right_ct, ref10_Right_ct, ref27_Within_ct, law27_overEscrow_ct], addO, dpO, false⟩) ⟨tabOk, ⟨law27_wakes_ok, judge_Within_ok, ref05_Right_ok, ref10_Right_ok, ref27_Within_ok, law27_overEscrow_ok, trivial⟩, addOk⟩ (by kernel_rfl) 69 Tryz.f3 (.n) Tryz.func3 Tryz.call3 rfl (by kernel_rfl) (by kernel_rfl) (by kernel_rfl) fun n x => by kernel_rfl

end
end Go.Proofs.YtegnflodgnfffaaGreat
