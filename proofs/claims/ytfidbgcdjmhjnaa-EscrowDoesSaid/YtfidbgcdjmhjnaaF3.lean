/- Functions of the program: plain twins and their contracts, printed by program. -/
import Derived.Test.YtfidbgcdjmhjnaaTypes
import Derived.Test.YtfidbgcdjmhjnaaF2
namespace Go.Proofs.Ytfidbgcdjmhjnaa
open Go Go.Bur Go.RowKit
set_option linter.unusedVariables false
set_option linter.unusedSimpArgs false
set_option maxRecDepth 100000
noncomputable section
/-!  bursary bursarylaw10.Op .wants -/
def law10_Op_wants_j2 (n : Nat) : Int × Bool × law10_Op × Escrow × Escrow × Unit → Option (Escrow × Int) := fun ⟨v10, v11, v12, v13, v14, _⟩ =>
    cond v11
      ((law10_Op_key n v12 v13).bind fun y15 =>
      (ref10_Back n v13 y15 v12.adding.txn v12.adding.by_).bind fun y16 =>
      some (y16.1, y16.2))
      (cond (v10 == 5)
        ((ref10_Over n v13 v12.adding.txn true).bind fun y17 =>
        some (y17.1, y17.2))
        ((ref10_Over n v13 v12.adding.txn false).bind fun y18 =>
        some (y18.1, y18.2)))
def law10_Op_wants_j1 (n : Nat) : Int × Bool × law10_Op × Escrow × Escrow × Unit → Option (Escrow × Int) := fun ⟨v3, v4, v5, v6, v7, _⟩ =>
    cond v4
      ((law10_Op_key n v5 v6).bind fun y8 =>
      (ref10_Add n v6 y8 v5.adding).bind fun y9 =>
      some (y9.1, y9.2))
      (jn (law10_Op_wants_j2 n) fun j2 =>
      cond (v3 == 3)
        (j2 (v3, (v3 == 3), v5, v6, v7, ()))
        (j2 (v3, (v3 == 4), v5, v6, v7, ())))
def law10_Op_wants_j3 (n : Nat) (j1 : Int × Bool × law10_Op × Escrow × Escrow × Unit → Option (Escrow × Int)) : Int × Bool × law10_Op × Escrow × Escrow × Unit → Option (Escrow × Int) := fun ⟨v19, v20, v21, v22, v23, _⟩ =>
    j1 (v19, v20, v21, v22, v23, ())
def law10_Op_wants (n : Nat) (p0 : law10_Op) (p1 : Escrow) : Option (Escrow × Int) :=
  (ref10_Right n p1).bind fun y1 =>
  cond (!y1)
    (some ((Escrow.mk ([] : List Pending)), 200))
    ((remP (IntKind.wrap .u64 p0.kind) 7).bind fun z2 =>
    jn (law10_Op_wants_j1 n) fun j1 =>
    cond (z2 == 0)
      (j1 (z2, (z2 == 0), p0, p1, (Escrow.mk ([] : List Pending)), ()))
      (jn (law10_Op_wants_j3 n j1) fun j3 =>
      cond (z2 == 1)
        (j3 (z2, (z2 == 1), p0, p1, (Escrow.mk ([] : List Pending)), ()))
        (j3 (z2, (z2 == 2), p0, p1, (Escrow.mk ([] : List Pending)), ()))))
@[reducible] def law10_Op_wants_ct : Ct tab := ⟨25, [.st 8, .st 5], [], [.st 5, .one (.d (.int .i64))], [], (Escrow × Int), fun y => (y.1, y.2, ()), fun y => (y.1, y.2.1), fun _ => rfl, fun n x => law10_Op_wants n x.1 x.2.1⟩
theorem law10_Op_wants_ok : OkC Try.prog tab law10_Op_wants_ct := fn_ok (W := ⟨Try.prog, tab, tyOf, [ref10_Right_ct, law10_Op_key_ct, ref10_Add_ct, ref10_Back_ct, ref10_Over_ct], addO, dpO⟩) ⟨tabOk, ⟨ref10_Right_ok, law10_Op_key_ok, ref10_Add_ok, ref10_Back_ok, ref10_Over_ok, trivial⟩, addOk⟩ (by kernel_rfl) 59 Try.f25 (.sq (.n) (.sq (.n) (.sq (.sq (.n) (.bk none (.sq (.sq (.n) (.cd (some ⟨[(2, .one (.box 0 0)), (3, .one (.box 1 0)), (4, .one (.box 2 0)), (13, .one (.d (.int .u64))), (14, .one (.d .bool))], [.bst 8, .bst 5, .bst 5], []⟩) (.n) (.sq (.n) (.cd (some ⟨[(2, .one (.box 0 0)), (3, .one (.box 1 0)), (4, .one (.box 2 0)), (13, .one (.d (.int .u64))), (14, .one (.d .bool))], [.bst 8, .bst 5, .bst 5], []⟩) (.n) (.n))))) (.cd none (.n) (.sq (.sq (.n) (.cd (some ⟨[(2, .one (.box 0 0)), (3, .one (.box 1 0)), (4, .one (.box 2 0)), (13, .one (.d (.int .u64))), (27, .one (.d .bool))], [.bst 8, .bst 5, .bst 5], []⟩) (.n) (.n))) (.n)))))) (.n)))) Try.func25 Try.call25 rfl (by kernel_rfl) (by kernel_rfl) (by kernel_rfl) fun n x => by kernel_rfl

/-! bursary bursaryref10.Copy -/
def ref10_Copy_l1 (n : Nat) : Nat → (List Pending) × Int × Int × Escrow × (List Pending) × Unit → Option Escrow := loopF fun r1 ⟨v1, v2, v3, v4, v5, _⟩ =>
    cond (decide (v3 < v2))
      ((idx v1 v3).bind fun x6 =>
      (ref10_copied n x6).bind fun y7 =>
      (app 48 v5 ([(Pending.mk (Key.mk y7.1 y7.2.1) y7.2.2.1 y7.2.2.2)] : List Pending)).bind fun l8 =>
      r1 (v1, v2, (IntKind.wrap .i64 (v3 + 1)), v4, l8, ()))
      (some (Escrow.mk v5))
def ref10_Copy (n : Nat) (p0 : Escrow) : Option Escrow :=
  ref10_Copy_l1 n n (p0.rows, (p0.rows.length : Int), 0, (Escrow.mk ([] : List Pending)), ([] : List Pending), ())
@[reducible] def ref10_Copy_ct : Ct tab := ⟨23, [.st 5], [], [.st 5], [], Escrow, fun y => (y, ()), fun y => y.1, fun _ => rfl, fun n x => ref10_Copy n x.1⟩
theorem ref10_Copy_ok : OkC Try.prog tab ref10_Copy_ct := fn_ok (W := ⟨Try.prog, tab, tyOf, [ref10_copied_ct], addO, dpO⟩) ⟨tabOk, ⟨ref10_copied_ok, trivial⟩, addOk⟩ (by kernel_rfl) 22 Try.f23 (.sq (.n) (.sq (.n) (.sq (.sq (.n) (.bk none (.lp ⟨[(2, .one (.box 0 0)), (3, .one (.box 1 0)), (7, .one (.d (.sl (.st 2)))), (8, .one (.d (.int .i64))), (9, .one (.d (.int .i64)))], [.bst 5, .box [.own 2], .row 27 (.st 2)], []⟩ (.n)))) (.n)))) Try.func23 Try.call23 rfl (by kernel_rfl) (by kernel_rfl) (by kernel_rfl) fun n x => by kernel_rfl

/-! bursary escrow.with -/
def escrow_with_f69_l1 (n : Nat) : Nat → Int × Int × Key × Adding × Escrow × Nat × (List Pending) × Unit → Option (Int × Key × Adding × (List Pending)) := loopF fun r1 ⟨v3, v4, v5, v6, v7, v8, v9, _⟩ =>
    cond (decide (v4 < v3))
      ((idxM v9 v4 v8).bind fun x10 =>
      (sameI v4 v4).bind fun u11 =>
      (slices_Clone_Share n x10.shares).bind fun y12 =>
      (sameI v4 v4).bind fun u13 =>
      r1 (v3, (IntKind.wrap .i64 (v4 + 1)), v5, v6, v7, (v8 + 1), (List.set v9 (Int.toNat v4) (Pending.mk x10.key x10.value y12)), ()))
      ((sameN v8 (v9).length).bind fun u14 =>
      (escrow_Add_1 n v9 v5 v6).bind fun y15 =>
      cond (y15.1 != 0)
        (some (y15.1, y15.2.1, y15.2.2.1, ([] : List Pending)))
        (some (0, y15.2.1, y15.2.2.1, y15.2.2.2)))
def escrow_with_f69 (n : Nat) (p0 : Escrow) (q0 : Key) (q1 : Adding) : Option (Int × Key × Adding × (List Pending)) :=
  (escrow_Check n p0).bind fun y1 =>
  cond (y1 != 0)
    (some (y1, q0, q1, ([] : List Pending)))
    ((slices_Clone_Pending n p0.rows).bind fun y2 =>
    escrow_with_f69_l1 n n ((y2.length : Int), 0, q0, q1, (Escrow.mk ([] : List Pending)), 0, y2, ()))
@[reducible] def escrow_with_f69_ct : Ct tab := ⟨61, [.st 5, .one (.fn 69 [.bx 0, .bx 1])], [.bst 0, .bst 4], [.agg [.own 2], .one (.d (.int .i64))], [(some 0, .bst 0), (some 1, .bst 4), (none, .deep 27 (.st 2) [none, none, none, some 61])], (Int × Key × Adding × (List Pending)), fun y => (y.1, y.2.1, y.2.2.1, y.2.2.2, ()), fun y => (y.1, y.2.1, y.2.2.1, y.2.2.2.1), fun _ => rfl, fun n x => escrow_with_f69 n x.1 x.2.1 x.2.2.1⟩
theorem escrow_with_f69_ok : OkC Try.prog tab escrow_with_f69_ct := fn_ok (W := ⟨Try.prog, tab, tyOf, [escrow_Check_ct, slices_Clone_Pending_ct, slices_Clone_Share_ct, escrow_Add_1_ct], addO, dpO⟩) ⟨tabOk, ⟨escrow_Check_ok, slices_Clone_Pending_ok, slices_Clone_Share_ok, escrow_Add_1_ok, trivial⟩, addOk⟩ (by kernel_rfl) 46 Try.f61 (.sq (.n) (.sq (.n) (.sq (.n) (.sq (.sq (.gs [.dpn 4 [none, none, none, some 61]] (.n)) (.bk none (.lp ⟨[(1, .one (.fn 69 [.bx 0, .bx 1])), (4, .one (.box 2 0)), (7, .one (.box 3 0)), (22, .one (.d (.int .i64))), (23, .one (.d (.int .i64)))], [.bst 0, .bst 4, .bst 5, .box [.own 4], .pdeep 27 (.st 2) [none, none, none, some 61]], [(0, 0), (1, 1)]⟩ (.sq (.n) (.sq (.n) (.sq (.bk none (.sq (.n) (.gs [.foc 4 8] (.n)))) (.n))))))) (.sq (.sq (.gs [.fin 4] (.n)) (.n)) (.n)))))) Try.func61 Try.call61 rfl (by kernel_rfl) (by kernel_rfl) (by kernel_rfl) fun n x => by kernel_rfl

/-! bursary escrow.Add -/
def escrow_Add (n : Nat) (p0 : Escrow) (p1 : Key) (p2 : Adding) : Option (Int × (List Pending)) :=
  (escrow_with_f69 n p0 p1 p2).bind fun y1 =>
  some (y1.1, y1.2.2.2)
@[reducible] def escrow_Add_ct : Ct tab := ⟨31, [.st 5, .st 0, .st 4], [], [.agg [.own 0], .one (.d (.int .i64))], [(none, .deep 27 (.st 2) [none, none, none, some 61])], (Int × (List Pending)), fun y => (y.1, y.2, ()), fun y => (y.1, y.2.1), fun _ => rfl, fun n x => escrow_Add n x.1 x.2.1 x.2.2.1⟩
theorem escrow_Add_ok : OkC Try.prog tab escrow_Add_ct := fn_ok (W := ⟨Try.prog, tab, tyOf, [escrow_with_f69_ct], addO, dpO⟩) ⟨tabOk, ⟨escrow_with_f69_ok, trivial⟩, addOk⟩ (by kernel_rfl) 13 Try.f31 (.n) Try.func31 Try.call31 rfl (by kernel_rfl) (by kernel_rfl) (by kernel_rfl) fun n x => by kernel_rfl

/-! bursary escrow.with -/
def escrow_with_f73_l1 (n : Nat) : Nat → Int × Int × Key × Int × Int × Escrow × Nat × (List Pending) × Unit → Option (Int × Key × Int × Int × (List Pending)) := loopF fun r1 ⟨v3, v4, v5, v6, v7, v8, v9, v10, _⟩ =>
    cond (decide (v4 < v3))
      ((idxM v10 v4 v9).bind fun x11 =>
      (sameI v4 v4).bind fun u12 =>
      (slices_Clone_Share n x11.shares).bind fun y13 =>
      (sameI v4 v4).bind fun u14 =>
      r1 (v3, (IntKind.wrap .i64 (v4 + 1)), v5, v6, v7, v8, (v9 + 1), (List.set v10 (Int.toNat v4) (Pending.mk x11.key x11.value y13)), ()))
      ((sameN v9 (v10).length).bind fun u15 =>
      (escrow_Back_1 n v10 v5 v6 v7).bind fun y16 =>
      cond (y16.1 != 0)
        (some (y16.1, y16.2.1, y16.2.2.1, y16.2.2.2.1, ([] : List Pending)))
        (some (0, y16.2.1, y16.2.2.1, y16.2.2.2.1, y16.2.2.2.2)))
def escrow_with_f73 (n : Nat) (p0 : Escrow) (q0 : Key) (q1 : Int) (q2 : Int) : Option (Int × Key × Int × Int × (List Pending)) :=
  (escrow_Check n p0).bind fun y1 =>
  cond (y1 != 0)
    (some (y1, q0, q1, q2, ([] : List Pending)))
    ((slices_Clone_Pending n p0.rows).bind fun y2 =>
    escrow_with_f73_l1 n n ((y2.length : Int), 0, q0, q1, q2, (Escrow.mk ([] : List Pending)), 0, y2, ()))
@[reducible] def escrow_with_f73_ct : Ct tab := ⟨61, [.st 5, .one (.fn 73 [.bx 0, .bx 1, .bx 2])], [.bst 0, .box [.d (.int .i64)], .box [.d (.int .i64)]], [.agg [.own 3], .one (.d (.int .i64))], [(some 0, .bst 0), (some 1, .box [.d (.int .i64)]), (some 2, .box [.d (.int .i64)]), (none, .deep 27 (.st 2) [none, none, none, some 61])], (Int × Key × Int × Int × (List Pending)), fun y => (y.1, y.2.1, y.2.2.1, y.2.2.2.1, y.2.2.2.2, ()), fun y => (y.1, y.2.1, y.2.2.1, y.2.2.2.1, y.2.2.2.2.1), fun _ => rfl, fun n x => escrow_with_f73 n x.1 x.2.1 x.2.2.1 x.2.2.2.1⟩
theorem escrow_with_f73_ok : OkC Try.prog tab escrow_with_f73_ct := fn_ok (W := ⟨Try.prog, tab, tyOf, [escrow_Check_ct, slices_Clone_Pending_ct, slices_Clone_Share_ct, escrow_Back_1_ct], addO, dpO⟩) ⟨tabOk, ⟨escrow_Check_ok, slices_Clone_Pending_ok, slices_Clone_Share_ok, escrow_Back_1_ok, trivial⟩, addOk⟩ (by kernel_rfl) 46 Try.f61 (.sq (.n) (.sq (.n) (.sq (.n) (.sq (.sq (.gs [.dpn 5 [none, none, none, some 61]] (.n)) (.bk none (.lp ⟨[(1, .one (.fn 73 [.bx 0, .bx 1, .bx 2])), (4, .one (.box 3 0)), (7, .one (.box 4 0)), (22, .one (.d (.int .i64))), (23, .one (.d (.int .i64)))], [.bst 0, .box [.d (.int .i64)], .box [.d (.int .i64)], .bst 5, .box [.own 5], .pdeep 27 (.st 2) [none, none, none, some 61]], [(0, 0), (1, 1), (2, 2)]⟩ (.sq (.n) (.sq (.n) (.sq (.bk none (.sq (.n) (.gs [.foc 5 8] (.n)))) (.n))))))) (.sq (.sq (.gs [.fin 5] (.n)) (.n)) (.n)))))) Try.func61 Try.call61 rfl (by kernel_rfl) (by kernel_rfl) (by kernel_rfl) fun n x => by kernel_rfl

/-! bursary escrow.with -/
def escrow_with_f62_l1 (n : Nat) : Nat → Int × Int × Int × Bool × Escrow × Nat × (List Pending) × Unit → Option (Int × Int × Bool × (List Pending)) := loopF fun r1 ⟨v3, v4, v5, v6, v7, v8, v9, _⟩ =>
    cond (decide (v4 < v3))
      ((idxM v9 v4 v8).bind fun x10 =>
      (sameI v4 v4).bind fun u11 =>
      (slices_Clone_Share n x10.shares).bind fun y12 =>
      (sameI v4 v4).bind fun u13 =>
      r1 (v3, (IntKind.wrap .i64 (v4 + 1)), v5, v6, v7, (v8 + 1), (List.set v9 (Int.toNat v4) (Pending.mk x10.key x10.value y12)), ()))
      ((sameN v8 (v9).length).bind fun u14 =>
      (escrow_Over_1 n v9 v5 v6).bind fun y15 =>
      cond (y15.1 != 0)
        (some (y15.1, y15.2.1, y15.2.2.1, ([] : List Pending)))
        (some (0, y15.2.1, y15.2.2.1, y15.2.2.2)))
def escrow_with_f62 (n : Nat) (p0 : Escrow) (q0 : Int) (q1 : Bool) : Option (Int × Int × Bool × (List Pending)) :=
  (escrow_Check n p0).bind fun y1 =>
  cond (y1 != 0)
    (some (y1, q0, q1, ([] : List Pending)))
    ((slices_Clone_Pending n p0.rows).bind fun y2 =>
    escrow_with_f62_l1 n n ((y2.length : Int), 0, q0, q1, (Escrow.mk ([] : List Pending)), 0, y2, ()))
@[reducible] def escrow_with_f62_ct : Ct tab := ⟨61, [.st 5, .one (.fn 62 [.bx 0, .bx 1])], [.box [.d (.int .i64)], .box [.d .bool]], [.agg [.own 2], .one (.d (.int .i64))], [(some 0, .box [.d (.int .i64)]), (some 1, .box [.d .bool]), (none, .deep 27 (.st 2) [none, none, none, some 61])], (Int × Int × Bool × (List Pending)), fun y => (y.1, y.2.1, y.2.2.1, y.2.2.2, ()), fun y => (y.1, y.2.1, y.2.2.1, y.2.2.2.1), fun _ => rfl, fun n x => escrow_with_f62 n x.1 x.2.1 x.2.2.1⟩
theorem escrow_with_f62_ok : OkC Try.prog tab escrow_with_f62_ct := fn_ok (W := ⟨Try.prog, tab, tyOf, [escrow_Check_ct, slices_Clone_Pending_ct, slices_Clone_Share_ct, escrow_Over_1_ct], addO, dpO⟩) ⟨tabOk, ⟨escrow_Check_ok, slices_Clone_Pending_ok, slices_Clone_Share_ok, escrow_Over_1_ok, trivial⟩, addOk⟩ (by kernel_rfl) 46 Try.f61 (.sq (.n) (.sq (.n) (.sq (.n) (.sq (.sq (.gs [.dpn 4 [none, none, none, some 61]] (.n)) (.bk none (.lp ⟨[(1, .one (.fn 62 [.bx 0, .bx 1])), (4, .one (.box 2 0)), (7, .one (.box 3 0)), (22, .one (.d (.int .i64))), (23, .one (.d (.int .i64)))], [.box [.d (.int .i64)], .box [.d .bool], .bst 5, .box [.own 4], .pdeep 27 (.st 2) [none, none, none, some 61]], [(0, 0), (1, 1)]⟩ (.sq (.n) (.sq (.n) (.sq (.bk none (.sq (.n) (.gs [.foc 4 8] (.n)))) (.n))))))) (.sq (.sq (.gs [.fin 4] (.n)) (.n)) (.n)))))) Try.func61 Try.call61 rfl (by kernel_rfl) (by kernel_rfl) (by kernel_rfl) fun n x => by kernel_rfl

/-! bursary escrow.Back -/
def escrow_Back (n : Nat) (p0 : Escrow) (p1 : Key) (p2 : Int) (p3 : Int) : Option (Int × (List Pending)) :=
  (escrow_with_f73 n p0 p1 p2 p3).bind fun y1 =>
  some (y1.1, y1.2.2.2.2)
@[reducible] def escrow_Back_ct : Ct tab := ⟨32, [.st 5, .st 0, .one (.d (.int .i64)), .one (.d (.int .i64))], [], [.agg [.own 0], .one (.d (.int .i64))], [(none, .deep 27 (.st 2) [none, none, none, some 61])], (Int × (List Pending)), fun y => (y.1, y.2, ()), fun y => (y.1, y.2.1), fun _ => rfl, fun n x => escrow_Back n x.1 x.2.1 x.2.2.1 x.2.2.2.1⟩
theorem escrow_Back_ok : OkC Try.prog tab escrow_Back_ct := fn_ok (W := ⟨Try.prog, tab, tyOf, [escrow_with_f73_ct], addO, dpO⟩) ⟨tabOk, ⟨escrow_with_f73_ok, trivial⟩, addOk⟩ (by kernel_rfl) 15 Try.f32 (.n) Try.func32 Try.call32 rfl (by kernel_rfl) (by kernel_rfl) (by kernel_rfl) fun n x => by kernel_rfl

/-! bursary escrow.Over -/
def escrow_Over (n : Nat) (p0 : Escrow) (p1 : Int) (p2 : Bool) : Option (Int × (List Pending)) :=
  (escrow_with_f62 n p0 p1 p2).bind fun y1 =>
  some (y1.1, y1.2.2.2)
@[reducible] def escrow_Over_ct : Ct tab := ⟨30, [.st 5, .one (.d (.int .i64)), .one (.d .bool)], [], [.agg [.own 0], .one (.d (.int .i64))], [(none, .deep 27 (.st 2) [none, none, none, some 61])], (Int × (List Pending)), fun y => (y.1, y.2, ()), fun y => (y.1, y.2.1), fun _ => rfl, fun n x => escrow_Over n x.1 x.2.1 x.2.2.1⟩
theorem escrow_Over_ok : OkC Try.prog tab escrow_Over_ct := fn_ok (W := ⟨Try.prog, tab, tyOf, [escrow_with_f62_ct], addO, dpO⟩) ⟨tabOk, ⟨escrow_with_f62_ok, trivial⟩, addOk⟩ (by kernel_rfl) 13 Try.f30 (.n) Try.func30 Try.call30 rfl (by kernel_rfl) (by kernel_rfl) (by kernel_rfl) fun n x => by kernel_rfl

/-!  bursary bursarylaw10.Op .run -/
def law10_Op_run_j2 (n : Nat) : Int × Bool × law10_Op × Escrow × Escrow × Unit → Option (Int × (List Pending)) := fun ⟨v9, v10, v11, v12, v13, _⟩ =>
    cond v10
      ((law10_Op_key n v11 v12).bind fun y14 =>
      (escrow_Back n v12 y14 v11.adding.txn v11.adding.by_).bind fun y15 =>
      some (y15.1, y15.2))
      (cond (v9 == 5)
        ((escrow_Over n v12 v11.adding.txn true).bind fun y16 =>
        some (y16.1, y16.2))
        ((escrow_Over n v12 v11.adding.txn false).bind fun y17 =>
        some (y17.1, y17.2)))
def law10_Op_run_j1 (n : Nat) : Int × Bool × law10_Op × Escrow × Escrow × Unit → Option (Int × (List Pending)) := fun ⟨v2, v3, v4, v5, v6, _⟩ =>
    cond v3
      ((law10_Op_key n v4 v5).bind fun y7 =>
      (escrow_Add n v5 y7 v4.adding).bind fun y8 =>
      some (y8.1, y8.2))
      (jn (law10_Op_run_j2 n) fun j2 =>
      cond (v2 == 3)
        (j2 (v2, (v2 == 3), v4, v5, v6, ()))
        (j2 (v2, (v2 == 4), v4, v5, v6, ())))
def law10_Op_run_j3 (n : Nat) (j1 : Int × Bool × law10_Op × Escrow × Escrow × Unit → Option (Int × (List Pending))) : Int × Bool × law10_Op × Escrow × Escrow × Unit → Option (Int × (List Pending)) := fun ⟨v18, v19, v20, v21, v22, _⟩ =>
    j1 (v18, v19, v20, v21, v22, ())
def law10_Op_run (n : Nat) (p0 : law10_Op) (p1 : Escrow) : Option (Int × (List Pending)) :=
  (remP (IntKind.wrap .u64 p0.kind) 7).bind fun z1 =>
  jn (law10_Op_run_j1 n) fun j1 =>
  cond (z1 == 0)
    (j1 (z1, (z1 == 0), p0, p1, (Escrow.mk ([] : List Pending)), ()))
    (jn (law10_Op_run_j3 n j1) fun j3 =>
    cond (z1 == 1)
      (j3 (z1, (z1 == 1), p0, p1, (Escrow.mk ([] : List Pending)), ()))
      (j3 (z1, (z1 == 2), p0, p1, (Escrow.mk ([] : List Pending)), ())))
@[reducible] def law10_Op_run_ct : Ct tab := ⟨24, [.st 8, .st 5], [], [.agg [.own 0], .one (.d (.int .i64))], [(none, .deep 27 (.st 2) [none, none, none, some 61])], (Int × (List Pending)), fun y => (y.1, y.2, ()), fun y => (y.1, y.2.1), fun _ => rfl, fun n x => law10_Op_run n x.1 x.2.1⟩
theorem law10_Op_run_ok : OkC Try.prog tab law10_Op_run_ct := fn_ok (W := ⟨Try.prog, tab, tyOf, [law10_Op_key_ct, escrow_Add_ct, escrow_Back_ct, escrow_Over_ct], addO, dpO⟩) ⟨tabOk, ⟨law10_Op_key_ok, escrow_Add_ok, escrow_Back_ok, escrow_Over_ok, trivial⟩, addOk⟩ (by kernel_rfl) 55 Try.f24 (.sq (.n) (.sq (.sq (.n) (.bk none (.sq (.sq (.n) (.cd (some ⟨[(2, .one (.box 0 0)), (3, .one (.box 1 0)), (4, .one (.box 2 0)), (9, .one (.d (.int .u64))), (10, .one (.d .bool))], [.bst 8, .bst 5, .bst 5], []⟩) (.n) (.sq (.n) (.cd (some ⟨[(2, .one (.box 0 0)), (3, .one (.box 1 0)), (4, .one (.box 2 0)), (9, .one (.d (.int .u64))), (10, .one (.d .bool))], [.bst 8, .bst 5, .bst 5], []⟩) (.n) (.n))))) (.cd none (.n) (.sq (.sq (.n) (.cd (some ⟨[(2, .one (.box 0 0)), (3, .one (.box 1 0)), (4, .one (.box 2 0)), (9, .one (.d (.int .u64))), (23, .one (.d .bool))], [.bst 8, .bst 5, .bst 5], []⟩) (.n) (.n))) (.n)))))) (.n))) Try.func24 Try.call24 rfl (by kernel_rfl) (by kernel_rfl) (by kernel_rfl) fun n x => by kernel_rfl

/-! bursary bursarylaw10.wakes -/
def law10_wakes (n : Nat) : Option Bool :=
  (escrow_Add n (Escrow.mk ([] : List Pending)) (Key.mk 0 7) (Adding.mk 1 5 4 (Bounds.mk 0 10))).bind fun y1 =>
  (escrow_Add n (Escrow.mk y1.2) (Key.mk 0 7) (Adding.mk 2 2 0 (Bounds.mk 0 10))).bind fun y2 =>
  (escrow_Back n (Escrow.mk y1.2) (Key.mk 0 7) 1 5).bind fun y3 =>
  (escrow_Find n (Escrow.mk y3.2) (Key.mk 0 7)).bind fun y4 =>
  jn (fun (b5 : Bool) =>
      jn (fun (b7 : Bool) =>
          jn (fun (b9 : Bool) =>
              jn (fun (b11 : Bool) =>
                  jn (fun (b13 : Bool) =>
                      jn (fun (b15 : Bool) =>
                          some b15) fun k16 =>
                      cond b13
                        (k16 (y4.1.value == 4))
                        (k16 false)) fun k14 =>
                  cond b11
                    ((idx y4.1.shares 0).bind fun x17 =>
                    k14 (Share.eqb x17 (Share.mk 1 0 5 0)))
                    (k14 false)) fun k12 =>
              cond b9
                (k12 ((y4.1.shares.length : Int) == 1))
                (k12 false)) fun k10 =>
          cond b7
            (k10 y4.2)
            (k10 false)) fun k8 =>
      cond b5
        (k8 (y3.1 == 0))
        (k8 false)) fun k6 =>
  cond (y1.1 == 0)
    (k6 (y2.1 == 152))
    (k6 false)
@[reducible] def law10_wakes_ct : Ct tab := ⟨9, [], [], [.one (.d .bool)], [], Bool, fun y => (y, ()), fun y => y.1, fun _ => rfl, fun n x => law10_wakes n⟩
theorem law10_wakes_ok : OkC Try.prog tab law10_wakes_ct := fn_ok (W := ⟨Try.prog, tab, tyOf, [escrow_Add_ct, escrow_Back_ct, escrow_Find_ct], addO, dpO⟩) ⟨tabOk, ⟨escrow_Add_ok, escrow_Back_ok, escrow_Find_ok, trivial⟩, addOk⟩ (by kernel_rfl) 71 Try.f9 (.n) Try.func9 Try.call9 rfl (by kernel_rfl) (by kernel_rfl) (by kernel_rfl) fun n x => by kernel_rfl

/-! bursary bursarylaw10.EscrowDoes -/
def law10_EscrowDoes_j1 (n : Nat) : Unit → Option Bool := fun _ =>
    some true
def law10_EscrowDoes_l4 (n : Nat) (r3 : Int × (List law10_Op) × Int × Int × Int × Int × Escrow × Escrow × Escrow × (List Pending) × Unit → Option Bool) : Nat → Int × Int × (List law10_Op) × Int × Int × Int × Int × Int × Int × Escrow × Escrow × Escrow × (List Pending) × Unit → Option Bool := loopF fun r4 ⟨v31, v32, v33, v34, v35, v36, v37, v38, v39, v40, v41, v42, v43, _⟩ =>
    cond (decide (v39 < v38))
      ((idx v43 v32).bind fun x44 =>
      (sameI v32 v32).bind fun u45 =>
      (idx x44.shares v39).bind fun x46 =>
      (idx x44.shares v39).bind fun x47 =>
      (put x44.shares v39 (Share.mk 99 x47.sum x47.hi x47.lo)).bind fun l48 =>
      r4 (v31, v32, v33, v34, v35, v36, v37, v38, (IntKind.wrap .i64 (v39 + 1)), v40, v41, v42, (List.set v43 (Int.toNat v32) (Pending.mk x44.key x44.value l48)), ()))
      (r3 (v31, v33, v34, v35, v36, (IntKind.wrap .i64 (v37 + 1)), v40, v41, v42, v43, ()))
def law10_EscrowDoes_j5 (n : Nat) (r2 : (List law10_Op) × Int × Int × Escrow × Unit → Option Bool) : (List law10_Op) × Int × Int × Escrow × Unit → Option Bool := fun ⟨v50, v51, v52, v53, _⟩ =>
    r2 (v50, v51, (IntKind.wrap .i64 (v52 + 1)), v53, ())
def law10_EscrowDoes_l3 (n : Nat) (r2 : (List law10_Op) × Int × Int × Escrow × Unit → Option Bool) : Nat → Int × (List law10_Op) × Int × Int × Int × Int × Escrow × Escrow × Escrow × (List Pending) × Unit → Option Bool := loopF fun r3 ⟨v17, v18, v19, v20, v21, v22, v23, v24, v25, v26, _⟩ =>
    cond (decide (v22 < v21))
      ((idx v26 v22).bind fun x27 =>
      (sameI v22 v22).bind fun u28 =>
      (sameI v22 v22).bind fun u29 =>
      (sameI v22 v22).bind fun u30 =>
      law10_EscrowDoes_l4 n r3 n (v17, v22, v18, v19, v20, v21, v22, (x27.shares.length : Int), 0, v23, v24, v25, (List.set v26 (Int.toNat v22) (Pending.mk x27.key (IntKind.wrap .i64 (x27.value + 1)) x27.shares)), ()))
      ((ref10_Same n v23 v24).bind fun y49 =>
      cond (!y49)
        (some false)
        (jn (law10_EscrowDoes_j5 n r2) fun j5 =>
        cond (v17 == 0)
          (j5 (v18, v19, v20, v25, ()))
          (j5 (v18, v19, v20, v23, ()))))
def law10_EscrowDoes_l2 (n : Nat) (j1 : Unit → Option Bool) : Nat → (List law10_Op) × Int × Int × Escrow × Unit → Option Bool := loopF fun r2 ⟨v3, v4, v5, v6, _⟩ =>
    cond (decide (v5 < v4))
      ((idx v3 v5).bind fun x7 =>
      cond (v5 == 40)
        (j1 (()))
        ((ref10_Copy n v6).bind fun y8 =>
        (law10_Op_run n x7 v6).bind fun y9 =>
        (ref10_Copy n y8).bind fun y10 =>
        (law10_Op_wants n x7 y10).bind fun y11 =>
        jn (fun (b12 : Bool) =>
            jn (fun (b14 : Bool) =>
                cond b14
                  (some false)
                  ((ref10_Copy n y11.1).bind fun y16 =>
                  law10_EscrowDoes_l3 n r2 n (y9.1, v3, v4, v5, (y9.2.length : Int), 0, v6, y8, y16, y9.2, ()))) fun k15 =>
            cond b12
              (k15 true)
              ((ref10_Same n v6 y8).bind fun y54 =>
              k15 (!y54))) fun k13 =>
        cond (y9.1 != y11.2)
          (k13 true)
          ((ref10_Same n (Escrow.mk y9.2) y11.1).bind fun y55 =>
          k13 (!y55))))
      (j1 (()))
def law10_EscrowDoes (n : Nat) (p0 : Escrow) (p1 : List law10_Op) : Option Bool :=
  (law10_wakes n).bind fun y1 =>
  cond (!y1)
    (some false)
    ((law10_few n p0).bind fun y2 =>
    jn (law10_EscrowDoes_j1 n) fun j1 =>
    law10_EscrowDoes_l2 n j1 n (p1, (p1.length : Int), 0, y2, ()))
@[reducible] def law10_EscrowDoes_ct : Ct tab := ⟨5, [.st 5, .one (.d (.sl (.st 8)))], [], [.one (.d .bool)], [], Bool, fun y => (y, ()), fun y => y.1, fun _ => rfl, fun n x => law10_EscrowDoes n x.1 x.2.1⟩
theorem law10_EscrowDoes_ok : OkC Try.prog tab law10_EscrowDoes_ct := fn_ok (W := ⟨Try.prog, tab, tyOf, [law10_wakes_ct, law10_few_ct, ref10_Copy_ct, law10_Op_run_ct, law10_Op_wants_ct, ref10_Same_ct], addO, dpO⟩) ⟨tabOk, ⟨law10_wakes_ok, law10_few_ok, ref10_Copy_ok, law10_Op_run_ok, law10_Op_wants_ok, ref10_Same_ok, trivial⟩, addOk⟩ (by kernel_rfl) 104 Try.f5 (.sq (.n) (.sq (.n) (.sq (.n) (.sq (.sq (.n) (.bk (some ⟨[], [], []⟩) (.lp ⟨[(5, .one (.box 0 0)), (19, .one (.d (.sl (.st 8)))), (20, .one (.d (.int .i64))), (21, .one (.d (.int .i64)))], [.bst 5], []⟩ (.sq (.n) (.sq (.n) (.sq (.bk none (.sq (.n) (.sq (.n) (.sq (.n) (.sq (.n) (.sq (.n) (.sq (.n) (.sq (.n) (.sq (.sq (.n) (.bk none (.lp ⟨[(5, .one (.box 0 0)), (8, .one (.box 1 0)), (9, .one (.box 2 0)), (10, .one (.d (.int .i64))), (11, .one (.box 3 0)), (19, .one (.d (.sl (.st 8)))), (20, .one (.d (.int .i64))), (21, .one (.d (.int .i64))), (62, .one (.d (.int .i64))), (63, .one (.d (.int .i64)))], [.bst 5, .bst 5, .box [.own 4], .bst 5, .deep 27 (.st 2) [none, none, none, some 61]], []⟩ (.sq (.n) (.sq (.n) (.sq (.bk none (.sq (.n) (.sq (.gs [.foc 4 13] (.n)) (.sq (.n) (.bk none (.lp ⟨[(5, .one (.box 0 0)), (8, .one (.box 1 0)), (9, .one (.box 2 0)), (10, .one (.d (.int .i64))), (11, .one (.box 3 0)), (13, .one (.d (.int .i64))), (19, .one (.d (.sl (.st 8)))), (20, .one (.d (.int .i64))), (21, .one (.d (.int .i64))), (62, .one (.d (.int .i64))), (63, .one (.d (.int .i64))), (81, .one (.d (.int .i64))), (82, .one (.d (.int .i64)))], [.bst 5, .bst 5, .box [.own 4], .bst 5, .deep 27 (.st 2) [none, none, none, some 61]], []⟩ (.sq (.n) (.sq (.n) (.sq (.bk none (.sq (.n) (.gs [.foc 4 13] (.n)))) (.n)))))))))) (.n))))))) (.sq (.n) (.sq (.n) (.cd (some ⟨[(5, .one (.box 0 0)), (19, .one (.d (.sl (.st 8)))), (20, .one (.d (.int .i64))), (21, .one (.d (.int .i64)))], [.bst 5], []⟩) (.n) (.n))))))))))))) (.n))))))) (.n))))) Try.func5 Try.call5 rfl (by kernel_rfl) (by kernel_rfl) (by kernel_rfl) fun n x => by kernel_rfl

/-!   bursary bursarylaw10.book .sum -/
/-! bursary bursarylaw10.key -/
/-!   bursary bursarylaw10.book .now -/
/-!   bursary bursarylaw10.book .reach -/
/-!   bursary bursarylaw10.book .fits -/
/-!   bursary bursarylaw10.book .adds -/
/-!   bursary bursarylaw10.book .back -/
/-!   bursary bursarylaw10.book .over -/
/-! bursary bursarylaw10.EscrowTurns -/
end
end Go.Proofs.Ytfidbgcdjmhjnaa
