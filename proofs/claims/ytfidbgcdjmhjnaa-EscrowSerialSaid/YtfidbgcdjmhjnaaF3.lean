/- Functions of the program: plain twins and their contracts, printed by program. -/
import Derived.Test.YtfidbgcdjmhjnaaTypes
import Derived.Test.YtfidbgcdjmhjnaaF2
namespace Go.Proofs.Ytfidbgcdjmhjnaa
open Go Go.Bur Go.RowKit
set_option linter.unusedVariables false
set_option linter.unusedSimpArgs false
set_option maxRecDepth 100000
noncomputable section
/-!  bursary bursarylaw10.Op .wants -/
/-! bursary bursaryref10.Copy -/
/-! bursary escrow.with -/
def escrow_with_f69_l1 (n : Nat) : Nat → Int × Int × Key × Adding × Escrow × Nat × (List Pending) × Unit → Option (Int × Key × Adding × (List Pending)) := loopF fun r1 ⟨v3, v4, v5, v6, v7, v8, v9, _⟩ =>
    cond (decide (v4 < v3))
      ((idxM v9 v4 v8).bind fun x10 =>
      (sameI v4 v4).bind fun u11 =>
      (slices_Clone_Share n x10.shares).bind fun y12 =>
      (sameI v4 v4).bind fun u13 =>
      r1 (v3, (IntKind.wrap .i64 (v4 + 1)), v5, v6, v7, (v8 + 1), (List.set v9 (Int.toNat v4) (Pending.mk x10.key x10.value y12)), ()))
      ((sameN v8 (v9).length).bind fun u14 =>
      (escrow_Add_1 n v9 v5 v6).bind fun y15 =>
      cond (y15.1 != 0)
        (some (y15.1, y15.2.1, y15.2.2.1, ([] : List Pending)))
        (some (0, y15.2.1, y15.2.2.1, y15.2.2.2)))
def escrow_with_f69 (n : Nat) (p0 : Escrow) (q0 : Key) (q1 : Adding) : Option (Int × Key × Adding × (List Pending)) :=
  (escrow_Check n p0).bind fun y1 =>
  cond (y1 != 0)
    (some (y1, q0, q1, ([] : List Pending)))
    ((slices_Clone_Pending n p0.rows).bind fun y2 =>
    escrow_with_f69_l1 n n ((y2.length : Int), 0, q0, q1, (Escrow.mk ([] : List Pending)), 0, y2, ()))
@[reducible] def escrow_with_f69_ct : Ct tab := ⟨61, [.st 5, .one (.fn 69 [.bx 0, .bx 1])], [.bst 0, .bst 4], [.agg [.own 2], .one (.d (.int .i64))], [(some 0, .bst 0), (some 1, .bst 4), (none, .deep 27 (.st 2) [none, none, none, some 61])], (Int × Key × Adding × (List Pending)), fun y => (y.1, y.2.1, y.2.2.1, y.2.2.2, ()), fun y => (y.1, y.2.1, y.2.2.1, y.2.2.2.1), fun _ => rfl, fun n x => escrow_with_f69 n x.1 x.2.1 x.2.2.1⟩
theorem escrow_with_f69_ok : OkC Try.prog tab escrow_with_f69_ct := fn_ok (W := ⟨Try.prog, tab, tyOf, [escrow_Check_ct, slices_Clone_Pending_ct, slices_Clone_Share_ct, escrow_Add_1_ct], addO, dpO, false⟩) ⟨tabOk, ⟨escrow_Check_ok, slices_Clone_Pending_ok, slices_Clone_Share_ok, escrow_Add_1_ok, trivial⟩, addOk⟩ (by kernel_rfl) 46 Try.f61 (.sq (.n) (.sq (.n) (.sq (.n) (.sq (.sq (.gs [.dpn 4 [none, none, none, some 61]] (.n)) (.bk none (.lp ⟨[(1, .one (.fn 69 [.bx 0, .bx 1])), (4, .one (.box 2 0)), (7, .one (.box 3 0)), (22, .one (.d (.int .i64))), (23, .one (.d (.int .i64)))], [.bst 0, .bst 4, .bst 5, .box [.own 4], .pdeep 27 (.st 2) [none, none, none, some 61]], [(0, 0), (1, 1)]⟩ (.sq (.n) (.sq (.n) (.sq (.bk none (.sq (.n) (.gs [.foc 4 8] (.n)))) (.n))))))) (.sq (.sq (.gs [.fin 4] (.n)) (.n)) (.n)))))) Try.func61 Try.call61 rfl (by kernel_rfl) (by kernel_rfl) (by kernel_rfl) fun n x => by kernel_rfl

/-! bursary escrow.Add -/
def escrow_Add (n : Nat) (p0 : Escrow) (p1 : Key) (p2 : Adding) : Option (Int × (List Pending)) :=
  (escrow_with_f69 n p0 p1 p2).bind fun y1 =>
  some (y1.1, y1.2.2.2)
@[reducible] def escrow_Add_ct : Ct tab := ⟨31, [.st 5, .st 0, .st 4], [], [.agg [.own 0], .one (.d (.int .i64))], [(none, .deep 27 (.st 2) [none, none, none, some 61])], (Int × (List Pending)), fun y => (y.1, y.2, ()), fun y => (y.1, y.2.1), fun _ => rfl, fun n x => escrow_Add n x.1 x.2.1 x.2.2.1⟩
theorem escrow_Add_ok : OkC Try.prog tab escrow_Add_ct := fn_ok (W := ⟨Try.prog, tab, tyOf, [escrow_with_f69_ct], addO, dpO, false⟩) ⟨tabOk, ⟨escrow_with_f69_ok, trivial⟩, addOk⟩ (by kernel_rfl) 13 Try.f31 (.n) Try.func31 Try.call31 rfl (by kernel_rfl) (by kernel_rfl) (by kernel_rfl) fun n x => by kernel_rfl

/-! bursary escrow.with -/
def escrow_with_f73_l1 (n : Nat) : Nat → Int × Int × Key × Int × Int × Escrow × Nat × (List Pending) × Unit → Option (Int × Key × Int × Int × (List Pending)) := loopF fun r1 ⟨v3, v4, v5, v6, v7, v8, v9, v10, _⟩ =>
    cond (decide (v4 < v3))
      ((idxM v10 v4 v9).bind fun x11 =>
      (sameI v4 v4).bind fun u12 =>
      (slices_Clone_Share n x11.shares).bind fun y13 =>
      (sameI v4 v4).bind fun u14 =>
      r1 (v3, (IntKind.wrap .i64 (v4 + 1)), v5, v6, v7, v8, (v9 + 1), (List.set v10 (Int.toNat v4) (Pending.mk x11.key x11.value y13)), ()))
      ((sameN v9 (v10).length).bind fun u15 =>
      (escrow_Back_1 n v10 v5 v6 v7).bind fun y16 =>
      cond (y16.1 != 0)
        (some (y16.1, y16.2.1, y16.2.2.1, y16.2.2.2.1, ([] : List Pending)))
        (some (0, y16.2.1, y16.2.2.1, y16.2.2.2.1, y16.2.2.2.2)))
def escrow_with_f73 (n : Nat) (p0 : Escrow) (q0 : Key) (q1 : Int) (q2 : Int) : Option (Int × Key × Int × Int × (List Pending)) :=
  (escrow_Check n p0).bind fun y1 =>
  cond (y1 != 0)
    (some (y1, q0, q1, q2, ([] : List Pending)))
    ((slices_Clone_Pending n p0.rows).bind fun y2 =>
    escrow_with_f73_l1 n n ((y2.length : Int), 0, q0, q1, q2, (Escrow.mk ([] : List Pending)), 0, y2, ()))
@[reducible] def escrow_with_f73_ct : Ct tab := ⟨61, [.st 5, .one (.fn 73 [.bx 0, .bx 1, .bx 2])], [.bst 0, .box [.d (.int .i64)], .box [.d (.int .i64)]], [.agg [.own 3], .one (.d (.int .i64))], [(some 0, .bst 0), (some 1, .box [.d (.int .i64)]), (some 2, .box [.d (.int .i64)]), (none, .deep 27 (.st 2) [none, none, none, some 61])], (Int × Key × Int × Int × (List Pending)), fun y => (y.1, y.2.1, y.2.2.1, y.2.2.2.1, y.2.2.2.2, ()), fun y => (y.1, y.2.1, y.2.2.1, y.2.2.2.1, y.2.2.2.2.1), fun _ => rfl, fun n x => escrow_with_f73 n x.1 x.2.1 x.2.2.1 x.2.2.2.1⟩
theorem escrow_with_f73_ok : OkC Try.prog tab escrow_with_f73_ct := fn_ok (W := ⟨Try.prog, tab, tyOf, [escrow_Check_ct, slices_Clone_Pending_ct, slices_Clone_Share_ct, escrow_Back_1_ct], addO, dpO, false⟩) ⟨tabOk, ⟨escrow_Check_ok, slices_Clone_Pending_ok, slices_Clone_Share_ok, escrow_Back_1_ok, trivial⟩, addOk⟩ (by kernel_rfl) 46 Try.f61 (.sq (.n) (.sq (.n) (.sq (.n) (.sq (.sq (.gs [.dpn 5 [none, none, none, some 61]] (.n)) (.bk none (.lp ⟨[(1, .one (.fn 73 [.bx 0, .bx 1, .bx 2])), (4, .one (.box 3 0)), (7, .one (.box 4 0)), (22, .one (.d (.int .i64))), (23, .one (.d (.int .i64)))], [.bst 0, .box [.d (.int .i64)], .box [.d (.int .i64)], .bst 5, .box [.own 5], .pdeep 27 (.st 2) [none, none, none, some 61]], [(0, 0), (1, 1), (2, 2)]⟩ (.sq (.n) (.sq (.n) (.sq (.bk none (.sq (.n) (.gs [.foc 5 8] (.n)))) (.n))))))) (.sq (.sq (.gs [.fin 5] (.n)) (.n)) (.n)))))) Try.func61 Try.call61 rfl (by kernel_rfl) (by kernel_rfl) (by kernel_rfl) fun n x => by kernel_rfl

/-! bursary escrow.with -/
def escrow_with_f62_l1 (n : Nat) : Nat → Int × Int × Int × Bool × Escrow × Nat × (List Pending) × Unit → Option (Int × Int × Bool × (List Pending)) := loopF fun r1 ⟨v3, v4, v5, v6, v7, v8, v9, _⟩ =>
    cond (decide (v4 < v3))
      ((idxM v9 v4 v8).bind fun x10 =>
      (sameI v4 v4).bind fun u11 =>
      (slices_Clone_Share n x10.shares).bind fun y12 =>
      (sameI v4 v4).bind fun u13 =>
      r1 (v3, (IntKind.wrap .i64 (v4 + 1)), v5, v6, v7, (v8 + 1), (List.set v9 (Int.toNat v4) (Pending.mk x10.key x10.value y12)), ()))
      ((sameN v8 (v9).length).bind fun u14 =>
      (escrow_Over_1 n v9 v5 v6).bind fun y15 =>
      cond (y15.1 != 0)
        (some (y15.1, y15.2.1, y15.2.2.1, ([] : List Pending)))
        (some (0, y15.2.1, y15.2.2.1, y15.2.2.2)))
def escrow_with_f62 (n : Nat) (p0 : Escrow) (q0 : Int) (q1 : Bool) : Option (Int × Int × Bool × (List Pending)) :=
  (escrow_Check n p0).bind fun y1 =>
  cond (y1 != 0)
    (some (y1, q0, q1, ([] : List Pending)))
    ((slices_Clone_Pending n p0.rows).bind fun y2 =>
    escrow_with_f62_l1 n n ((y2.length : Int), 0, q0, q1, (Escrow.mk ([] : List Pending)), 0, y2, ()))
@[reducible] def escrow_with_f62_ct : Ct tab := ⟨61, [.st 5, .one (.fn 62 [.bx 0, .bx 1])], [.box [.d (.int .i64)], .box [.d .bool]], [.agg [.own 2], .one (.d (.int .i64))], [(some 0, .box [.d (.int .i64)]), (some 1, .box [.d .bool]), (none, .deep 27 (.st 2) [none, none, none, some 61])], (Int × Int × Bool × (List Pending)), fun y => (y.1, y.2.1, y.2.2.1, y.2.2.2, ()), fun y => (y.1, y.2.1, y.2.2.1, y.2.2.2.1), fun _ => rfl, fun n x => escrow_with_f62 n x.1 x.2.1 x.2.2.1⟩
theorem escrow_with_f62_ok : OkC Try.prog tab escrow_with_f62_ct := fn_ok (W := ⟨Try.prog, tab, tyOf, [escrow_Check_ct, slices_Clone_Pending_ct, slices_Clone_Share_ct, escrow_Over_1_ct], addO, dpO, false⟩) ⟨tabOk, ⟨escrow_Check_ok, slices_Clone_Pending_ok, slices_Clone_Share_ok, escrow_Over_1_ok, trivial⟩, addOk⟩ (by kernel_rfl) 46 Try.f61 (.sq (.n) (.sq (.n) (.sq (.n) (.sq (.sq (.gs [.dpn 4 [none, none, none, some 61]] (.n)) (.bk none (.lp ⟨[(1, .one (.fn 62 [.bx 0, .bx 1])), (4, .one (.box 2 0)), (7, .one (.box 3 0)), (22, .one (.d (.int .i64))), (23, .one (.d (.int .i64)))], [.box [.d (.int .i64)], .box [.d .bool], .bst 5, .box [.own 4], .pdeep 27 (.st 2) [none, none, none, some 61]], [(0, 0), (1, 1)]⟩ (.sq (.n) (.sq (.n) (.sq (.bk none (.sq (.n) (.gs [.foc 4 8] (.n)))) (.n))))))) (.sq (.sq (.gs [.fin 4] (.n)) (.n)) (.n)))))) Try.func61 Try.call61 rfl (by kernel_rfl) (by kernel_rfl) (by kernel_rfl) fun n x => by kernel_rfl

/-! bursary escrow.Back -/
def escrow_Back (n : Nat) (p0 : Escrow) (p1 : Key) (p2 : Int) (p3 : Int) : Option (Int × (List Pending)) :=
  (escrow_with_f73 n p0 p1 p2 p3).bind fun y1 =>
  some (y1.1, y1.2.2.2.2)
@[reducible] def escrow_Back_ct : Ct tab := ⟨32, [.st 5, .st 0, .one (.d (.int .i64)), .one (.d (.int .i64))], [], [.agg [.own 0], .one (.d (.int .i64))], [(none, .deep 27 (.st 2) [none, none, none, some 61])], (Int × (List Pending)), fun y => (y.1, y.2, ()), fun y => (y.1, y.2.1), fun _ => rfl, fun n x => escrow_Back n x.1 x.2.1 x.2.2.1 x.2.2.2.1⟩
theorem escrow_Back_ok : OkC Try.prog tab escrow_Back_ct := fn_ok (W := ⟨Try.prog, tab, tyOf, [escrow_with_f73_ct], addO, dpO, false⟩) ⟨tabOk, ⟨escrow_with_f73_ok, trivial⟩, addOk⟩ (by kernel_rfl) 15 Try.f32 (.n) Try.func32 Try.call32 rfl (by kernel_rfl) (by kernel_rfl) (by kernel_rfl) fun n x => by kernel_rfl

/-! bursary escrow.Over -/
def escrow_Over (n : Nat) (p0 : Escrow) (p1 : Int) (p2 : Bool) : Option (Int × (List Pending)) :=
  (escrow_with_f62 n p0 p1 p2).bind fun y1 =>
  some (y1.1, y1.2.2.2)
@[reducible] def escrow_Over_ct : Ct tab := ⟨30, [.st 5, .one (.d (.int .i64)), .one (.d .bool)], [], [.agg [.own 0], .one (.d (.int .i64))], [(none, .deep 27 (.st 2) [none, none, none, some 61])], (Int × (List Pending)), fun y => (y.1, y.2, ()), fun y => (y.1, y.2.1), fun _ => rfl, fun n x => escrow_Over n x.1 x.2.1 x.2.2.1⟩
theorem escrow_Over_ok : OkC Try.prog tab escrow_Over_ct := fn_ok (W := ⟨Try.prog, tab, tyOf, [escrow_with_f62_ct], addO, dpO, false⟩) ⟨tabOk, ⟨escrow_with_f62_ok, trivial⟩, addOk⟩ (by kernel_rfl) 13 Try.f30 (.n) Try.func30 Try.call30 rfl (by kernel_rfl) (by kernel_rfl) (by kernel_rfl) fun n x => by kernel_rfl

/-!  bursary bursarylaw10.Op .run -/
/-! bursary bursarylaw10.wakes -/
def law10_wakes (n : Nat) : Option Bool :=
  (escrow_Add n (Escrow.mk ([] : List Pending)) (Key.mk 0 7) (Adding.mk 1 5 4 (Bounds.mk 0 10))).bind fun y1 =>
  (escrow_Add n (Escrow.mk y1.2) (Key.mk 0 7) (Adding.mk 2 2 0 (Bounds.mk 0 10))).bind fun y2 =>
  (escrow_Back n (Escrow.mk y1.2) (Key.mk 0 7) 1 5).bind fun y3 =>
  (escrow_Find n (Escrow.mk y3.2) (Key.mk 0 7)).bind fun y4 =>
  jn (fun (b5 : Bool) =>
      jn (fun (b7 : Bool) =>
          jn (fun (b9 : Bool) =>
              jn (fun (b11 : Bool) =>
                  jn (fun (b13 : Bool) =>
                      jn (fun (b15 : Bool) =>
                          some b15) fun k16 =>
                      cond b13
                        (k16 (y4.1.value == 4))
                        (k16 false)) fun k14 =>
                  cond b11
                    ((idx y4.1.shares 0).bind fun x17 =>
                    k14 (Share.eqb x17 (Share.mk 1 0 5 0)))
                    (k14 false)) fun k12 =>
              cond b9
                (k12 ((y4.1.shares.length : Int) == 1))
                (k12 false)) fun k10 =>
          cond b7
            (k10 y4.2)
            (k10 false)) fun k8 =>
      cond b5
        (k8 (y3.1 == 0))
        (k8 false)) fun k6 =>
  cond (y1.1 == 0)
    (k6 (y2.1 == 152))
    (k6 false)
@[reducible] def law10_wakes_ct : Ct tab := ⟨9, [], [], [.one (.d .bool)], [], Bool, fun y => (y, ()), fun y => y.1, fun _ => rfl, fun n x => law10_wakes n⟩
theorem law10_wakes_ok : OkC Try.prog tab law10_wakes_ct := fn_ok (W := ⟨Try.prog, tab, tyOf, [escrow_Add_ct, escrow_Back_ct, escrow_Find_ct], addO, dpO, false⟩) ⟨tabOk, ⟨escrow_Add_ok, escrow_Back_ok, escrow_Find_ok, trivial⟩, addOk⟩ (by kernel_rfl) 71 Try.f9 (.n) Try.func9 Try.call9 rfl (by kernel_rfl) (by kernel_rfl) (by kernel_rfl) fun n x => by kernel_rfl

/-! bursary bursarylaw10.EscrowDoes -/
/-!   bursary bursarylaw10.book .sum -/
def law10_book_sum_l1 (n : Nat) : Nat → Int × (List Int) × Int × Int × Unit → Option Int := loopF fun r1 ⟨v1, v2, v3, v4, _⟩ =>
    cond (decide (v4 < v3))
      ((idx v2 v4).bind fun x5 =>
      r1 ((IntKind.wrap .i64 (v1 + x5)), v2, v3, (IntKind.wrap .i64 (v4 + 1)), ()))
      (some v1)
def law10_book_sum_l2 (n : Nat) : Nat → Int × (List Int) × Int × Int × Unit → Option Int := loopF fun r2 ⟨v6, v7, v8, v9, _⟩ =>
    cond (decide (v9 < v8))
      ((idx v7 v9).bind fun x10 =>
      r2 ((IntKind.wrap .i64 (v6 + x10)), v7, v8, (IntKind.wrap .i64 (v9 + 1)), ()))
      (some v6)
def law10_book_sum_l3 (n : Nat) : Nat → Int × (List Int) × Int × Int × Unit → Option Int := loopF fun r3 ⟨v11, v12, v13, v14, _⟩ =>
    cond (decide (v14 < v13))
      ((idx v12 v14).bind fun x15 =>
      r3 ((IntKind.wrap .i64 (v11 + x15)), v12, v13, (IntKind.wrap .i64 (v14 + 1)), ()))
      (some v11)
def law10_book_sum_l4 (n : Nat) : Nat → Int × (List Int) × Int × Int × Unit → Option Int := loopF fun r4 ⟨v16, v17, v18, v19, _⟩ =>
    cond (decide (v19 < v18))
      ((idx v17 v19).bind fun x20 =>
      r4 ((IntKind.wrap .i64 (v16 + x20)), v17, v18, (IntKind.wrap .i64 (v19 + 1)), ()))
      (some v16)
def law10_book_sum_l5 (n : Nat) : Nat → Int × (List Int) × Int × Int × Unit → Option Int := loopF fun r5 ⟨v21, v22, v23, v24, _⟩ =>
    cond (decide (v24 < v23))
      ((idx v22 v24).bind fun x25 =>
      r5 ((IntKind.wrap .i64 (v21 + x25)), v22, v23, (IntKind.wrap .i64 (v24 + 1)), ()))
      (some v21)
def law10_book_sum (n : Nat) (p0 : law10_book) (p1 : Int) : Option Int :=
  cond (decide (p1 = 0))
    (law10_book_sum_l1 n n (0, p0.stand.a0, (p0.stand.a0.length : Int), 0, ()))
    (cond (decide (p1 = 1))
      (law10_book_sum_l2 n n (0, p0.stand.a1, (p0.stand.a1.length : Int), 0, ()))
      (cond (decide (p1 = 2))
        (law10_book_sum_l3 n n (0, p0.stand.a2, (p0.stand.a2.length : Int), 0, ()))
        (cond (decide (p1 = 3))
          (law10_book_sum_l4 n n (0, p0.stand.a3, (p0.stand.a3.length : Int), 0, ()))
          (cond (decide (p1 = 4))
            (law10_book_sum_l5 n n (0, p0.stand.a4, (p0.stand.a4.length : Int), 0, ()))
            (none)))))
@[reducible] def law10_book_sum_ct : Ct tab := ⟨57, [.one (.ro (.st 12)), .one (.d (.int .i64))], [], [.one (.d (.int .i64))], [], Int, fun y => (y, ()), fun y => y.1, fun _ => rfl, fun n x => law10_book_sum n x.1 x.2.1⟩
theorem law10_book_sum_ok : OkC Try.prog tab law10_book_sum_ct := fn_ok (W := ⟨Try.prog, tab, tyOf, [], addO, dpO, false⟩) ⟨tabOk, trivial, addOk⟩ (by kernel_rfl) 24 Try.f57 (.sq (.n) (.sq (.n) (.sq (.sq (.rs [(1, 5)] []) (.bk none (.lp ⟨[(5, .one (.d (.int .i64))), (13, .one (.d (.sl (.int .i64)))), (14, .one (.d (.int .i64))), (15, .one (.d (.int .i64)))], [], []⟩ (.n)))) (.n)))) Try.func57 Try.call57 rfl (by kernel_rfl) (by kernel_rfl) (by kernel_rfl) fun n x => by kernel_rfl

/-! bursary bursarylaw10.key -/
def law10_key (n : Nat) : Option Key :=
  some (Key.mk 0 3)
@[reducible] def law10_key_ct : Ct tab := ⟨58, [], [], [.st 0], [], Key, fun y => (y, ()), fun y => y.1, fun _ => rfl, fun n x => law10_key n⟩
theorem law10_key_ok : OkC Try.prog tab law10_key_ct := fn_ok (W := ⟨Try.prog, tab, tyOf, [], addO, dpO, false⟩) ⟨tabOk, trivial, addOk⟩ (by kernel_rfl) 2 Try.f58 (.n) Try.func58 Try.call58 rfl (by kernel_rfl) (by kernel_rfl) (by kernel_rfl) fun n x => by kernel_rfl

/-!   bursary bursarylaw10.book .now -/
def law10_book_now_l1 (n : Nat) : Nat → law10_book × Int × Int × Unit → Option Int := loopF fun r1 ⟨v1, v2, v3, _⟩ =>
    cond (decide (v3 < 5))
      ((law10_book_sum n v1 v3).bind fun y4 =>
      r1 (v1, (IntKind.wrap .i64 (v2 + y4)), (IntKind.wrap .i64 (v3 + 1)), ()))
      (some v2)
def law10_book_now (n : Nat) (p0 : law10_book) : Option Int :=
  law10_book_now_l1 n n (p0, p0.value, 0, ())
@[reducible] def law10_book_now_ct : Ct tab := ⟨59, [.one (.ro (.st 12))], [], [.one (.d (.int .i64))], [], Int, fun y => (y, ()), fun y => y.1, fun _ => rfl, fun n x => law10_book_now n x.1⟩
theorem law10_book_now_ok : OkC Try.prog tab law10_book_now_ct := fn_ok (W := ⟨Try.prog, tab, tyOf, [law10_book_sum_ct], addO, dpO, false⟩) ⟨tabOk, ⟨law10_book_sum_ok, trivial⟩, addOk⟩ (by kernel_rfl) 19 Try.f59 (.sq (.n) (.sq (.n) (.sq (.sq (.n) (.bk none (.lp ⟨[(0, .one (.ro (.st 12))), (3, .one (.d (.int .i64))), (9, .one (.d (.int .i64)))], [], []⟩ (.n)))) (.n)))) Try.func59 Try.call59 rfl (by kernel_rfl) (by kernel_rfl) (by kernel_rfl) fun n x => by kernel_rfl

/-!   bursary bursarylaw10.book .reach -/
def law10_book_reach_l1 (n : Nat) : Nat → Int × Int × (List Int) × Int × Int × Unit → Option (Int × Int) := loopF fun r1 ⟨v1, v2, v3, v4, v5, _⟩ =>
    cond (decide (v5 < v4))
      ((idx v3 v5).bind fun x6 =>
      r1 ((if x6 < v1 then x6 else v1), (if x6 > v2 then x6 else v2), v3, v4, (IntKind.wrap .i64 (v5 + 1)), ()))
      (some (v1, v2))
def law10_book_reach_l2 (n : Nat) : Nat → Int × Int × (List Int) × Int × Int × Unit → Option (Int × Int) := loopF fun r2 ⟨v7, v8, v9, v10, v11, _⟩ =>
    cond (decide (v11 < v10))
      ((idx v9 v11).bind fun x12 =>
      r2 ((if x12 < v7 then x12 else v7), (if x12 > v8 then x12 else v8), v9, v10, (IntKind.wrap .i64 (v11 + 1)), ()))
      (some (v7, v8))
def law10_book_reach_l3 (n : Nat) : Nat → Int × Int × (List Int) × Int × Int × Unit → Option (Int × Int) := loopF fun r3 ⟨v13, v14, v15, v16, v17, _⟩ =>
    cond (decide (v17 < v16))
      ((idx v15 v17).bind fun x18 =>
      r3 ((if x18 < v13 then x18 else v13), (if x18 > v14 then x18 else v14), v15, v16, (IntKind.wrap .i64 (v17 + 1)), ()))
      (some (v13, v14))
def law10_book_reach_l4 (n : Nat) : Nat → Int × Int × (List Int) × Int × Int × Unit → Option (Int × Int) := loopF fun r4 ⟨v19, v20, v21, v22, v23, _⟩ =>
    cond (decide (v23 < v22))
      ((idx v21 v23).bind fun x24 =>
      r4 ((if x24 < v19 then x24 else v19), (if x24 > v20 then x24 else v20), v21, v22, (IntKind.wrap .i64 (v23 + 1)), ()))
      (some (v19, v20))
def law10_book_reach_l5 (n : Nat) : Nat → Int × Int × (List Int) × Int × Int × Unit → Option (Int × Int) := loopF fun r5 ⟨v25, v26, v27, v28, v29, _⟩ =>
    cond (decide (v29 < v28))
      ((idx v27 v29).bind fun x30 =>
      r5 ((if x30 < v25 then x30 else v25), (if x30 > v26 then x30 else v26), v27, v28, (IntKind.wrap .i64 (v29 + 1)), ()))
      (some (v25, v26))
def law10_book_reach (n : Nat) (p0 : law10_book) (p1 : Int) : Option (Int × Int) :=
  cond (decide (p1 = 0))
    (law10_book_reach_l1 n n (0, 0, p0.ever.a0, (p0.ever.a0.length : Int), 0, ()))
    (cond (decide (p1 = 1))
      (law10_book_reach_l2 n n (0, 0, p0.ever.a1, (p0.ever.a1.length : Int), 0, ()))
      (cond (decide (p1 = 2))
        (law10_book_reach_l3 n n (0, 0, p0.ever.a2, (p0.ever.a2.length : Int), 0, ()))
        (cond (decide (p1 = 3))
          (law10_book_reach_l4 n n (0, 0, p0.ever.a3, (p0.ever.a3.length : Int), 0, ()))
          (cond (decide (p1 = 4))
            (law10_book_reach_l5 n n (0, 0, p0.ever.a4, (p0.ever.a4.length : Int), 0, ()))
            (none)))))
@[reducible] def law10_book_reach_ct : Ct tab := ⟨84, [.one (.ro (.st 12)), .one (.d (.int .i64))], [], [.one (.d (.int .i64)), .one (.d (.int .i64))], [], (Int × Int), fun y => (y.1, y.2, ()), fun y => (y.1, y.2.1), fun _ => rfl, fun n x => law10_book_reach n x.1 x.2.1⟩
theorem law10_book_reach_ok : OkC Try.prog tab law10_book_reach_ct := fn_ok (W := ⟨Try.prog, tab, tyOf, [], addO, dpO, false⟩) ⟨tabOk, trivial, addOk⟩ (by kernel_rfl) 30 Try.f84 (.sq (.n) (.sq (.n) (.sq (.sq (.rs [(1, 5)] []) (.bk none (.lp ⟨[(6, .one (.d (.int .i64))), (7, .one (.d (.int .i64))), (15, .one (.d (.sl (.int .i64)))), (16, .one (.d (.int .i64))), (17, .one (.d (.int .i64)))], [], []⟩ (.n)))) (.n)))) Try.func84 Try.call84 rfl (by kernel_rfl) (by kernel_rfl) (by kernel_rfl) fun n x => by kernel_rfl

/-!   bursary bursarylaw10.book .fits -/
def law10_book_fits_j2 (n : Nat) (r1 : law10_book × Int × Int × Int × Int × Int × Unit → Option Bool) : law10_book × Int × Int × Int × Int × Int × Int × Int × Unit → Option Bool := fun ⟨v8, v9, v10, v11, v12, v13, v14, v15, _⟩ =>
    r1 (v8, v9, v10, (IntKind.wrap .i64 (v11 + v13)), (IntKind.wrap .i64 (v12 + v14)), (IntKind.wrap .i64 (v15 + 1)), ())
def law10_book_fits_l1 (n : Nat) : Nat → law10_book × Int × Int × Int × Int × Int × Unit → Option Bool := loopF fun r1 ⟨v1, v2, v3, v4, v5, v6, _⟩ =>
    cond (decide (v6 < 5))
      ((law10_book_reach n v1 v6).bind fun y7 =>
      jn (law10_book_fits_j2 n r1) fun j2 =>
      cond (v6 == v2)
        (j2 (v1, v2, v3, v4, v5, (if v3 < y7.1 then v3 else y7.1), (if v3 > y7.2 then v3 else y7.2), v6, ()))
        (j2 (v1, v2, v3, v4, v5, y7.1, y7.2, v6, ())))
      (jn (fun (b16 : Bool) =>
          some b16) fun k17 =>
      cond (decide (v4 ≥ v1.bounds.min))
        (k17 (decide (v5 ≤ v1.bounds.max)))
        (k17 false))
def law10_book_fits (n : Nat) (p0 : law10_book) (p1 : Int) (p2 : Int) : Option Bool :=
  law10_book_fits_l1 n n (p0, p1, p2, p0.value, p0.value, 0, ())
@[reducible] def law10_book_fits_ct : Ct tab := ⟨60, [.one (.ro (.st 12)), .one (.d (.int .i64)), .one (.d (.int .i64))], [], [.one (.d .bool)], [], Bool, fun y => (y, ()), fun y => y.1, fun _ => rfl, fun n x => law10_book_fits n x.1 x.2.1 x.2.2.1⟩
theorem law10_book_fits_ok : OkC Try.prog tab law10_book_fits_ct := fn_ok (W := ⟨Try.prog, tab, tyOf, [law10_book_reach_ct], addO, dpO, false⟩) ⟨tabOk, ⟨law10_book_reach_ok, trivial⟩, addOk⟩ (by kernel_rfl) 61 Try.f60 (.sq (.n) (.sq (.n) (.sq (.sq (.n) (.bk none (.lp ⟨[(0, .one (.ro (.st 12))), (1, .one (.d (.int .i64))), (2, .one (.d (.int .i64))), (7, .one (.d (.int .i64))), (8, .one (.d (.int .i64))), (20, .one (.d (.int .i64)))], [], []⟩ (.sq (.n) (.sq (.n) (.sq (.bk none (.sq (.n) (.sq (.n) (.sq (.sq (.n) (.cd (some ⟨[(0, .one (.ro (.st 12))), (1, .one (.d (.int .i64))), (2, .one (.d (.int .i64))), (7, .one (.d (.int .i64))), (8, .one (.d (.int .i64))), (10, .one (.d (.int .i64))), (11, .one (.d (.int .i64))), (20, .one (.d (.int .i64)))], [], []⟩) (.n) (.n))) (.n))))) (.n))))))) (.n)))) Try.func60 Try.call60 rfl (by kernel_rfl) (by kernel_rfl) (by kernel_rfl) fun n x => by kernel_rfl

/-!   bursary bursarylaw10.book .adds -/
def law10_book_adds_j1 (n : Nat) : (List Pending) × Int × Int × Int × (List Int) × (List Int) × (List Int) × (List Int) × (List Int) × (List Int) × (List Int) × (List Int) × (List Int) × (List Int) × Unit → Option (Bool × (List Pending) × Int × Int × Int × (List Int) × (List Int) × (List Int) × (List Int) × (List Int) × (List Int) × (List Int) × (List Int) × (List Int) × (List Int)) := fun ⟨v8, v9, v10, v11, v12, v13, v14, v15, v16, v17, v18, v19, v20, v21, _⟩ =>
    some (true, v8, v9, v10, v11, v12, v13, v14, v15, v16, v17, v18, v19, v20, v21)
def law10_book_adds (n : Nat) (p1 : Int) (p2 : Int) (q0_0 : List Pending) (q0_1 : Int) (q0_2 : Int) (q0_3 : Int) (q1 : List Int) (q2 : List Int) (q3 : List Int) (q4 : List Int) (q5 : List Int) (q6 : List Int) (q7 : List Int) (q8 : List Int) (q9 : List Int) (q10 : List Int) : Option (Bool × (List Pending) × Int × Int × Int × (List Int) × (List Int) × (List Int) × (List Int) × (List Int) × (List Int) × (List Int) × (List Int) × (List Int) × (List Int)) :=
  (law10_book_sum n (law10_book.mk (Escrow.mk q0_0) (Bounds.mk q0_1 q0_2) q0_3 (Arr5_int64.mk q1 q2 q3 q4 q5) (Arr5_int64.mk q6 q7 q8 q9 q10)) p1).bind fun y1 =>
  (law10_key n).bind fun y2 =>
  (law10_book_now n (law10_book.mk (Escrow.mk q0_0) (Bounds.mk q0_1 q0_2) q0_3 (Arr5_int64.mk q1 q2 q3 q4 q5) (Arr5_int64.mk q6 q7 q8 q9 q10))).bind fun y3 =>
  (escrow_Add n (Escrow.mk q0_0) y2 (Adding.mk p1 p2 y3 (Bounds.mk q0_1 q0_2))).bind fun y4 =>
  (law10_book_fits n (law10_book.mk (Escrow.mk q0_0) (Bounds.mk q0_1 q0_2) q0_3 (Arr5_int64.mk q1 q2 q3 q4 q5) (Arr5_int64.mk q6 q7 q8 q9 q10)) p1 (IntKind.wrap .i64 (y1 + p2))).bind fun y5 =>
  jn (fun (b6 : Bool) =>
      cond b6
        (some (false, q0_0, q0_1, q0_2, q0_3, q1, q2, q3, q4, q5, q6, q7, q8, q9, q10))
        (jn (law10_book_adds_j1 n) fun j1 =>
        cond (y4.1 == 0)
          (cond (decide (p1 = 0))
            ((app 8 q1 ([p2] : List Int)).bind fun l22 =>
            (app 8 q6 ([(IntKind.wrap .i64 (y1 + p2))] : List Int)).bind fun l23 =>
            j1 (y4.2, q0_1, q0_2, q0_3, l22, q2, q3, q4, q5, l23, q7, q8, q9, q10, ()))
            (cond (decide (p1 = 1))
              ((app 8 q2 ([p2] : List Int)).bind fun l24 =>
              (app 8 q7 ([(IntKind.wrap .i64 (y1 + p2))] : List Int)).bind fun l25 =>
              j1 (y4.2, q0_1, q0_2, q0_3, q1, l24, q3, q4, q5, q6, l25, q8, q9, q10, ()))
              (cond (decide (p1 = 2))
                ((app 8 q3 ([p2] : List Int)).bind fun l26 =>
                (app 8 q8 ([(IntKind.wrap .i64 (y1 + p2))] : List Int)).bind fun l27 =>
                j1 (y4.2, q0_1, q0_2, q0_3, q1, q2, l26, q4, q5, q6, q7, l27, q9, q10, ()))
                (cond (decide (p1 = 3))
                  ((app 8 q4 ([p2] : List Int)).bind fun l28 =>
                  (app 8 q9 ([(IntKind.wrap .i64 (y1 + p2))] : List Int)).bind fun l29 =>
                  j1 (y4.2, q0_1, q0_2, q0_3, q1, q2, q3, l28, q5, q6, q7, q8, l29, q10, ()))
                  (cond (decide (p1 = 4))
                    ((app 8 q5 ([p2] : List Int)).bind fun l30 =>
                    (app 8 q10 ([(IntKind.wrap .i64 (y1 + p2))] : List Int)).bind fun l31 =>
                    j1 (y4.2, q0_1, q0_2, q0_3, q1, q2, q3, q4, l30, q6, q7, q8, q9, l31, ()))
                    (none))))))
          (j1 (q0_0, q0_1, q0_2, q0_3, q1, q2, q3, q4, q5, q6, q7, q8, q9, q10, ())))) fun k7 =>
  cond (!((y4.1 == 0) == y5))
    (k7 true)
    (jn (fun (b32 : Bool) =>
        k7 b32) fun k33 =>
    cond (y4.1 != 0)
      (k33 (y4.1 != 152))
      (k33 false))
@[reducible] def law10_book_adds_ct : Ct tab := ⟨26, [.one (.box 0 0), .one (.d (.int .i64)), .one (.d (.int .i64))], [.box [.d (.sl (.st 2)), .d (.int .i64), .d (.int .i64), .d (.int .i64), .own 1, .own 2, .own 3, .own 4, .own 5, .own 6, .own 7, .own 8, .own 9, .own 10], .row 2 (.int .i64), .row 2 (.int .i64), .row 2 (.int .i64), .row 2 (.int .i64), .row 2 (.int .i64), .row 2 (.int .i64), .row 2 (.int .i64), .row 2 (.int .i64), .row 2 (.int .i64), .row 2 (.int .i64)], [.one (.d .bool)], [(some 0, .box [.d (.sl (.st 2)), .d (.int .i64), .d (.int .i64), .d (.int .i64), .own 1, .own 2, .own 3, .own 4, .own 5, .own 6, .own 7, .own 8, .own 9, .own 10]), (none, .row 2 (.int .i64)), (none, .row 2 (.int .i64)), (none, .row 2 (.int .i64)), (none, .row 2 (.int .i64)), (none, .row 2 (.int .i64)), (none, .row 2 (.int .i64)), (none, .row 2 (.int .i64)), (none, .row 2 (.int .i64)), (none, .row 2 (.int .i64)), (none, .row 2 (.int .i64))], (Bool × (List Pending) × Int × Int × Int × (List Int) × (List Int) × (List Int) × (List Int) × (List Int) × (List Int) × (List Int) × (List Int) × (List Int) × (List Int)), fun y => (y.1, y.2.1, y.2.2.1, y.2.2.2.1, y.2.2.2.2.1, y.2.2.2.2.2.1, y.2.2.2.2.2.2.1, y.2.2.2.2.2.2.2.1, y.2.2.2.2.2.2.2.2.1, y.2.2.2.2.2.2.2.2.2.1, y.2.2.2.2.2.2.2.2.2.2.1, y.2.2.2.2.2.2.2.2.2.2.2.1, y.2.2.2.2.2.2.2.2.2.2.2.2.1, y.2.2.2.2.2.2.2.2.2.2.2.2.2.1, y.2.2.2.2.2.2.2.2.2.2.2.2.2.2, ()), fun y => (y.1, y.2.1, y.2.2.1, y.2.2.2.1, y.2.2.2.2.1, y.2.2.2.2.2.1, y.2.2.2.2.2.2.1, y.2.2.2.2.2.2.2.1, y.2.2.2.2.2.2.2.2.1, y.2.2.2.2.2.2.2.2.2.1, y.2.2.2.2.2.2.2.2.2.2.1, y.2.2.2.2.2.2.2.2.2.2.2.1, y.2.2.2.2.2.2.2.2.2.2.2.2.1, y.2.2.2.2.2.2.2.2.2.2.2.2.2.1, y.2.2.2.2.2.2.2.2.2.2.2.2.2.2.1), fun _ => rfl, fun n x => law10_book_adds n x.1 x.2.1 x.2.2.1 x.2.2.2.1 x.2.2.2.2.1 x.2.2.2.2.2.1 x.2.2.2.2.2.2.1 x.2.2.2.2.2.2.2.1 x.2.2.2.2.2.2.2.2.1 x.2.2.2.2.2.2.2.2.2.1 x.2.2.2.2.2.2.2.2.2.2.1 x.2.2.2.2.2.2.2.2.2.2.2.1 x.2.2.2.2.2.2.2.2.2.2.2.2.1 x.2.2.2.2.2.2.2.2.2.2.2.2.2.1 x.2.2.2.2.2.2.2.2.2.2.2.2.2.2.1 x.2.2.2.2.2.2.2.2.2.2.2.2.2.2.2.1⟩
theorem law10_book_adds_ok : OkC Try.prog tab law10_book_adds_ct := fn_ok (W := ⟨Try.prog, tab, tyOf, [law10_book_sum_ct, law10_key_ct, law10_book_now_ct, escrow_Add_ct, law10_book_fits_ct], addO, dpO, false⟩) ⟨tabOk, ⟨law10_book_sum_ok, law10_key_ok, law10_book_now_ok, escrow_Add_ok, law10_book_fits_ok, trivial⟩, addOk⟩ (by kernel_rfl) 82 Try.f26 (.sq (.n) (.sq (.n) (.sq (.n) (.sq (.n) (.sq (.sq (.n) (.cd (some ⟨[(0, .one (.box 0 0))], [.box [.d (.sl (.st 2)), .d (.int .i64), .d (.int .i64), .d (.int .i64), .own 1, .own 2, .own 3, .own 4, .own 5, .own 6, .own 7, .own 8, .own 9, .own 10], .row 2 (.int .i64), .row 2 (.int .i64), .row 2 (.int .i64), .row 2 (.int .i64), .row 2 (.int .i64), .row 2 (.int .i64), .row 2 (.int .i64), .row 2 (.int .i64), .row 2 (.int .i64), .row 2 (.int .i64)], [(0, 0)]⟩) (.sq (.n) (.rs [(1, 5)] [])) (.n))) (.n)))))) Try.func26 Try.call26 rfl (by kernel_rfl) (by kernel_rfl) (by kernel_rfl) fun n x => by kernel_rfl

/-!   bursary bursarylaw10.book .back -/
def law10_book_back (n : Nat) (p1 : Int) (q0_0 : List Pending) (q0_1 : Int) (q0_2 : Int) (q0_3 : Int) (q1 : List Int) (q2 : List Int) (q3 : List Int) (q4 : List Int) (q5 : List Int) (q6 : List Int) (q7 : List Int) (q8 : List Int) (q9 : List Int) (q10 : List Int) : Option (Bool × (List Pending) × Int × Int × Int × (List Int) × (List Int) × (List Int) × (List Int) × (List Int) × (List Int) × (List Int) × (List Int) × (List Int) × (List Int)) :=
  cond (decide (p1 = 0))
    (cond ((q1.length : Int) == 0)
      (some (true, q0_0, q0_1, q0_2, q0_3, q1, q2, q3, q4, q5, q6, q7, q8, q9, q10))
      ((law10_key n).bind fun y1 =>
      (idx q1 (IntKind.wrap .i64 ((q1.length : Int) - 1))).bind fun x2 =>
      (idx q1 (IntKind.wrap .i64 ((q1.length : Int) - 1))).bind fun x3 =>
      (escrow_Back n (Escrow.mk q0_0) y1 0 x3).bind fun y4 =>
      (sub q1 0 (IntKind.wrap .i64 ((q1.length : Int) - 1))).bind fun l5 =>
      some ((y4.1 == 0), y4.2, q0_1, q0_2, q0_3, l5, q2, q3, q4, q5, q6, q7, q8, q9, q10)))
    (cond (decide (p1 = 1))
      (cond ((q2.length : Int) == 0)
        (some (true, q0_0, q0_1, q0_2, q0_3, q1, q2, q3, q4, q5, q6, q7, q8, q9, q10))
        ((law10_key n).bind fun y6 =>
        (idx q2 (IntKind.wrap .i64 ((q2.length : Int) - 1))).bind fun x7 =>
        (idx q2 (IntKind.wrap .i64 ((q2.length : Int) - 1))).bind fun x8 =>
        (escrow_Back n (Escrow.mk q0_0) y6 1 x8).bind fun y9 =>
        (sub q2 0 (IntKind.wrap .i64 ((q2.length : Int) - 1))).bind fun l10 =>
        some ((y9.1 == 0), y9.2, q0_1, q0_2, q0_3, q1, l10, q3, q4, q5, q6, q7, q8, q9, q10)))
      (cond (decide (p1 = 2))
        (cond ((q3.length : Int) == 0)
          (some (true, q0_0, q0_1, q0_2, q0_3, q1, q2, q3, q4, q5, q6, q7, q8, q9, q10))
          ((law10_key n).bind fun y11 =>
          (idx q3 (IntKind.wrap .i64 ((q3.length : Int) - 1))).bind fun x12 =>
          (idx q3 (IntKind.wrap .i64 ((q3.length : Int) - 1))).bind fun x13 =>
          (escrow_Back n (Escrow.mk q0_0) y11 2 x13).bind fun y14 =>
          (sub q3 0 (IntKind.wrap .i64 ((q3.length : Int) - 1))).bind fun l15 =>
          some ((y14.1 == 0), y14.2, q0_1, q0_2, q0_3, q1, q2, l15, q4, q5, q6, q7, q8, q9, q10)))
        (cond (decide (p1 = 3))
          (cond ((q4.length : Int) == 0)
            (some (true, q0_0, q0_1, q0_2, q0_3, q1, q2, q3, q4, q5, q6, q7, q8, q9, q10))
            ((law10_key n).bind fun y16 =>
            (idx q4 (IntKind.wrap .i64 ((q4.length : Int) - 1))).bind fun x17 =>
            (idx q4 (IntKind.wrap .i64 ((q4.length : Int) - 1))).bind fun x18 =>
            (escrow_Back n (Escrow.mk q0_0) y16 3 x18).bind fun y19 =>
            (sub q4 0 (IntKind.wrap .i64 ((q4.length : Int) - 1))).bind fun l20 =>
            some ((y19.1 == 0), y19.2, q0_1, q0_2, q0_3, q1, q2, q3, l20, q5, q6, q7, q8, q9, q10)))
          (cond (decide (p1 = 4))
            (cond ((q5.length : Int) == 0)
              (some (true, q0_0, q0_1, q0_2, q0_3, q1, q2, q3, q4, q5, q6, q7, q8, q9, q10))
              ((law10_key n).bind fun y21 =>
              (idx q5 (IntKind.wrap .i64 ((q5.length : Int) - 1))).bind fun x22 =>
              (idx q5 (IntKind.wrap .i64 ((q5.length : Int) - 1))).bind fun x23 =>
              (escrow_Back n (Escrow.mk q0_0) y21 4 x23).bind fun y24 =>
              (sub q5 0 (IntKind.wrap .i64 ((q5.length : Int) - 1))).bind fun l25 =>
              some ((y24.1 == 0), y24.2, q0_1, q0_2, q0_3, q1, q2, q3, q4, l25, q6, q7, q8, q9, q10)))
            (none)))))
@[reducible] def law10_book_back_ct : Ct tab := ⟨27, [.one (.box 0 0), .one (.d (.int .i64))], [.box [.d (.sl (.st 2)), .d (.int .i64), .d (.int .i64), .d (.int .i64), .own 1, .own 2, .own 3, .own 4, .own 5, .own 6, .own 7, .own 8, .own 9, .own 10], .row 2 (.int .i64), .row 2 (.int .i64), .row 2 (.int .i64), .row 2 (.int .i64), .row 2 (.int .i64), .row 2 (.int .i64), .row 2 (.int .i64), .row 2 (.int .i64), .row 2 (.int .i64), .row 2 (.int .i64)], [.one (.d .bool)], [(some 0, .box [.d (.sl (.st 2)), .d (.int .i64), .d (.int .i64), .d (.int .i64), .own 1, .own 2, .own 3, .own 4, .own 5, .own 6, .own 7, .own 8, .own 9, .own 10]), (none, .row 2 (.int .i64)), (none, .row 2 (.int .i64)), (none, .row 2 (.int .i64)), (none, .row 2 (.int .i64)), (none, .row 2 (.int .i64)), (none, .row 2 (.int .i64)), (none, .row 2 (.int .i64)), (none, .row 2 (.int .i64)), (none, .row 2 (.int .i64)), (none, .row 2 (.int .i64))], (Bool × (List Pending) × Int × Int × Int × (List Int) × (List Int) × (List Int) × (List Int) × (List Int) × (List Int) × (List Int) × (List Int) × (List Int) × (List Int)), fun y => (y.1, y.2.1, y.2.2.1, y.2.2.2.1, y.2.2.2.2.1, y.2.2.2.2.2.1, y.2.2.2.2.2.2.1, y.2.2.2.2.2.2.2.1, y.2.2.2.2.2.2.2.2.1, y.2.2.2.2.2.2.2.2.2.1, y.2.2.2.2.2.2.2.2.2.2.1, y.2.2.2.2.2.2.2.2.2.2.2.1, y.2.2.2.2.2.2.2.2.2.2.2.2.1, y.2.2.2.2.2.2.2.2.2.2.2.2.2.1, y.2.2.2.2.2.2.2.2.2.2.2.2.2.2, ()), fun y => (y.1, y.2.1, y.2.2.1, y.2.2.2.1, y.2.2.2.2.1, y.2.2.2.2.2.1, y.2.2.2.2.2.2.1, y.2.2.2.2.2.2.2.1, y.2.2.2.2.2.2.2.2.1, y.2.2.2.2.2.2.2.2.2.1, y.2.2.2.2.2.2.2.2.2.2.1, y.2.2.2.2.2.2.2.2.2.2.2.1, y.2.2.2.2.2.2.2.2.2.2.2.2.1, y.2.2.2.2.2.2.2.2.2.2.2.2.2.1, y.2.2.2.2.2.2.2.2.2.2.2.2.2.2.1), fun _ => rfl, fun n x => law10_book_back n x.1 x.2.1 x.2.2.1 x.2.2.2.1 x.2.2.2.2.1 x.2.2.2.2.2.1 x.2.2.2.2.2.2.1 x.2.2.2.2.2.2.2.1 x.2.2.2.2.2.2.2.2.1 x.2.2.2.2.2.2.2.2.2.1 x.2.2.2.2.2.2.2.2.2.2.1 x.2.2.2.2.2.2.2.2.2.2.2.1 x.2.2.2.2.2.2.2.2.2.2.2.2.1 x.2.2.2.2.2.2.2.2.2.2.2.2.2.1 x.2.2.2.2.2.2.2.2.2.2.2.2.2.2.1⟩
theorem law10_book_back_ok : OkC Try.prog tab law10_book_back_ct := fn_ok (W := ⟨Try.prog, tab, tyOf, [law10_key_ct, escrow_Back_ct], addO, dpO, true⟩) ⟨tabOk, ⟨law10_key_ok, escrow_Back_ok, trivial⟩, addOk⟩ (by kernel_rfl) 49 Try.f27 (.sq (.n) (.sq (.rs [(1, 5)] []) (.n))) Try.func27 Try.call27 rfl (by kernel_rfl) (by kernel_rfl) (by kernel_rfl) fun n x => by kernel_rfl

/-!   bursary bursarylaw10.book .over -/
def law10_book_over_l1 (n : Nat) : Nat → Int × Bool × (List Pending) × Int × Int × Int × (List Int) × (List Int) × (List Int) × (List Int) × (List Int) × (List Int) × (List Int) × (List Int) × (List Int) × (List Int) × Unit → Option (Bool × (List Pending) × Int × Int × Int × (List Int) × (List Int) × (List Int) × (List Int) × (List Int) × (List Int) × (List Int) × (List Int) × (List Int) × (List Int)) := loopF fun r1 ⟨v1, v2, v3, v4, v5, v6, v7, v8, v9, v10, v11, v12, v13, v14, v15, v16, _⟩ =>
    cond (decide (v1 = 0))
      (jn (fun (b17 : Bool) =>
          cond b17
            ((law10_book_back n 0 v3 v4 v5 v6 v7 v8 v9 v10 v11 v12 v13 v14 v15 v16).bind fun y19 =>
            cond (!y19.1)
              (some (false, y19.2.1, y19.2.2.1, y19.2.2.2.1, y19.2.2.2.2.1, y19.2.2.2.2.2.1, y19.2.2.2.2.2.2.1, y19.2.2.2.2.2.2.2.1, y19.2.2.2.2.2.2.2.2.1, y19.2.2.2.2.2.2.2.2.2.1, y19.2.2.2.2.2.2.2.2.2.2.1, y19.2.2.2.2.2.2.2.2.2.2.2.1, y19.2.2.2.2.2.2.2.2.2.2.2.2.1, y19.2.2.2.2.2.2.2.2.2.2.2.2.2.1, y19.2.2.2.2.2.2.2.2.2.2.2.2.2.2))
              (r1 (0, v2, y19.2.1, y19.2.2.1, y19.2.2.2.1, y19.2.2.2.2.1, y19.2.2.2.2.2.1, y19.2.2.2.2.2.2.1, y19.2.2.2.2.2.2.2.1, y19.2.2.2.2.2.2.2.2.1, y19.2.2.2.2.2.2.2.2.2.1, y19.2.2.2.2.2.2.2.2.2.2.1, y19.2.2.2.2.2.2.2.2.2.2.2.1, y19.2.2.2.2.2.2.2.2.2.2.2.2.1, y19.2.2.2.2.2.2.2.2.2.2.2.2.2.1, y19.2.2.2.2.2.2.2.2.2.2.2.2.2.2, ())))
            ((escrow_Over n (Escrow.mk v3) 0 v2).bind fun y20 =>
            (law10_book_sum n (law10_book.mk (Escrow.mk v3) (Bounds.mk v4 v5) v6 (Arr5_int64.mk v7 v8 v9 v10 v11) (Arr5_int64.mk v12 v13 v14 v15 v16)) 0).bind fun y21 =>
            cond (decide (0 = 0))
              (some ((y20.1 == 0), y20.2, v4, v5, (IntKind.wrap .i64 (v6 + y21)), ([] : List Int), v8, v9, v10, v11, ([] : List Int), v13, v14, v15, v16))
              (cond (decide (0 = 1))
                (some ((y20.1 == 0), y20.2, v4, v5, (IntKind.wrap .i64 (v6 + y21)), v7, ([] : List Int), v9, v10, v11, v12, ([] : List Int), v14, v15, v16))
                (cond (decide (0 = 2))
                  (some ((y20.1 == 0), y20.2, v4, v5, (IntKind.wrap .i64 (v6 + y21)), v7, v8, ([] : List Int), v10, v11, v12, v13, ([] : List Int), v15, v16))
                  (cond (decide (0 = 3))
                    (some ((y20.1 == 0), y20.2, v4, v5, (IntKind.wrap .i64 (v6 + y21)), v7, v8, v9, ([] : List Int), v11, v12, v13, v14, ([] : List Int), v16))
                    (cond (decide (0 = 4))
                      (some ((y20.1 == 0), y20.2, v4, v5, (IntKind.wrap .i64 (v6 + y21)), v7, v8, v9, v10, ([] : List Int), v12, v13, v14, v15, ([] : List Int)))
                      (none))))))) fun k18 =>
      cond (!v2)
        (k18 (decide ((v7.length : Int) > 0)))
        (k18 false))
      (cond (decide (v1 = 1))
        (jn (fun (b22 : Bool) =>
            cond b22
              ((law10_book_back n 1 v3 v4 v5 v6 v7 v8 v9 v10 v11 v12 v13 v14 v15 v16).bind fun y24 =>
              cond (!y24.1)
                (some (false, y24.2.1, y24.2.2.1, y24.2.2.2.1, y24.2.2.2.2.1, y24.2.2.2.2.2.1, y24.2.2.2.2.2.2.1, y24.2.2.2.2.2.2.2.1, y24.2.2.2.2.2.2.2.2.1, y24.2.2.2.2.2.2.2.2.2.1, y24.2.2.2.2.2.2.2.2.2.2.1, y24.2.2.2.2.2.2.2.2.2.2.2.1, y24.2.2.2.2.2.2.2.2.2.2.2.2.1, y24.2.2.2.2.2.2.2.2.2.2.2.2.2.1, y24.2.2.2.2.2.2.2.2.2.2.2.2.2.2))
                (r1 (1, v2, y24.2.1, y24.2.2.1, y24.2.2.2.1, y24.2.2.2.2.1, y24.2.2.2.2.2.1, y24.2.2.2.2.2.2.1, y24.2.2.2.2.2.2.2.1, y24.2.2.2.2.2.2.2.2.1, y24.2.2.2.2.2.2.2.2.2.1, y24.2.2.2.2.2.2.2.2.2.2.1, y24.2.2.2.2.2.2.2.2.2.2.2.1, y24.2.2.2.2.2.2.2.2.2.2.2.2.1, y24.2.2.2.2.2.2.2.2.2.2.2.2.2.1, y24.2.2.2.2.2.2.2.2.2.2.2.2.2.2, ())))
              ((escrow_Over n (Escrow.mk v3) 1 v2).bind fun y25 =>
              (law10_book_sum n (law10_book.mk (Escrow.mk v3) (Bounds.mk v4 v5) v6 (Arr5_int64.mk v7 v8 v9 v10 v11) (Arr5_int64.mk v12 v13 v14 v15 v16)) 1).bind fun y26 =>
              cond (decide (1 = 0))
                (some ((y25.1 == 0), y25.2, v4, v5, (IntKind.wrap .i64 (v6 + y26)), ([] : List Int), v8, v9, v10, v11, ([] : List Int), v13, v14, v15, v16))
                (cond (decide (1 = 1))
                  (some ((y25.1 == 0), y25.2, v4, v5, (IntKind.wrap .i64 (v6 + y26)), v7, ([] : List Int), v9, v10, v11, v12, ([] : List Int), v14, v15, v16))
                  (cond (decide (1 = 2))
                    (some ((y25.1 == 0), y25.2, v4, v5, (IntKind.wrap .i64 (v6 + y26)), v7, v8, ([] : List Int), v10, v11, v12, v13, ([] : List Int), v15, v16))
                    (cond (decide (1 = 3))
                      (some ((y25.1 == 0), y25.2, v4, v5, (IntKind.wrap .i64 (v6 + y26)), v7, v8, v9, ([] : List Int), v11, v12, v13, v14, ([] : List Int), v16))
                      (cond (decide (1 = 4))
                        (some ((y25.1 == 0), y25.2, v4, v5, (IntKind.wrap .i64 (v6 + y26)), v7, v8, v9, v10, ([] : List Int), v12, v13, v14, v15, ([] : List Int)))
                        (none))))))) fun k23 =>
        cond (!v2)
          (k23 (decide ((v8.length : Int) > 0)))
          (k23 false))
        (cond (decide (v1 = 2))
          (jn (fun (b27 : Bool) =>
              cond b27
                ((law10_book_back n 2 v3 v4 v5 v6 v7 v8 v9 v10 v11 v12 v13 v14 v15 v16).bind fun y29 =>
                cond (!y29.1)
                  (some (false, y29.2.1, y29.2.2.1, y29.2.2.2.1, y29.2.2.2.2.1, y29.2.2.2.2.2.1, y29.2.2.2.2.2.2.1, y29.2.2.2.2.2.2.2.1, y29.2.2.2.2.2.2.2.2.1, y29.2.2.2.2.2.2.2.2.2.1, y29.2.2.2.2.2.2.2.2.2.2.1, y29.2.2.2.2.2.2.2.2.2.2.2.1, y29.2.2.2.2.2.2.2.2.2.2.2.2.1, y29.2.2.2.2.2.2.2.2.2.2.2.2.2.1, y29.2.2.2.2.2.2.2.2.2.2.2.2.2.2))
                  (r1 (2, v2, y29.2.1, y29.2.2.1, y29.2.2.2.1, y29.2.2.2.2.1, y29.2.2.2.2.2.1, y29.2.2.2.2.2.2.1, y29.2.2.2.2.2.2.2.1, y29.2.2.2.2.2.2.2.2.1, y29.2.2.2.2.2.2.2.2.2.1, y29.2.2.2.2.2.2.2.2.2.2.1, y29.2.2.2.2.2.2.2.2.2.2.2.1, y29.2.2.2.2.2.2.2.2.2.2.2.2.1, y29.2.2.2.2.2.2.2.2.2.2.2.2.2.1, y29.2.2.2.2.2.2.2.2.2.2.2.2.2.2, ())))
                ((escrow_Over n (Escrow.mk v3) 2 v2).bind fun y30 =>
                (law10_book_sum n (law10_book.mk (Escrow.mk v3) (Bounds.mk v4 v5) v6 (Arr5_int64.mk v7 v8 v9 v10 v11) (Arr5_int64.mk v12 v13 v14 v15 v16)) 2).bind fun y31 =>
                cond (decide (2 = 0))
                  (some ((y30.1 == 0), y30.2, v4, v5, (IntKind.wrap .i64 (v6 + y31)), ([] : List Int), v8, v9, v10, v11, ([] : List Int), v13, v14, v15, v16))
                  (cond (decide (2 = 1))
                    (some ((y30.1 == 0), y30.2, v4, v5, (IntKind.wrap .i64 (v6 + y31)), v7, ([] : List Int), v9, v10, v11, v12, ([] : List Int), v14, v15, v16))
                    (cond (decide (2 = 2))
                      (some ((y30.1 == 0), y30.2, v4, v5, (IntKind.wrap .i64 (v6 + y31)), v7, v8, ([] : List Int), v10, v11, v12, v13, ([] : List Int), v15, v16))
                      (cond (decide (2 = 3))
                        (some ((y30.1 == 0), y30.2, v4, v5, (IntKind.wrap .i64 (v6 + y31)), v7, v8, v9, ([] : List Int), v11, v12, v13, v14, ([] : List Int), v16))
                        (cond (decide (2 = 4))
                          (some ((y30.1 == 0), y30.2, v4, v5, (IntKind.wrap .i64 (v6 + y31)), v7, v8, v9, v10, ([] : List Int), v12, v13, v14, v15, ([] : List Int)))
                          (none))))))) fun k28 =>
          cond (!v2)
            (k28 (decide ((v9.length : Int) > 0)))
            (k28 false))
          (cond (decide (v1 = 3))
            (jn (fun (b32 : Bool) =>
                cond b32
                  ((law10_book_back n 3 v3 v4 v5 v6 v7 v8 v9 v10 v11 v12 v13 v14 v15 v16).bind fun y34 =>
                  cond (!y34.1)
                    (some (false, y34.2.1, y34.2.2.1, y34.2.2.2.1, y34.2.2.2.2.1, y34.2.2.2.2.2.1, y34.2.2.2.2.2.2.1, y34.2.2.2.2.2.2.2.1, y34.2.2.2.2.2.2.2.2.1, y34.2.2.2.2.2.2.2.2.2.1, y34.2.2.2.2.2.2.2.2.2.2.1, y34.2.2.2.2.2.2.2.2.2.2.2.1, y34.2.2.2.2.2.2.2.2.2.2.2.2.1, y34.2.2.2.2.2.2.2.2.2.2.2.2.2.1, y34.2.2.2.2.2.2.2.2.2.2.2.2.2.2))
                    (r1 (3, v2, y34.2.1, y34.2.2.1, y34.2.2.2.1, y34.2.2.2.2.1, y34.2.2.2.2.2.1, y34.2.2.2.2.2.2.1, y34.2.2.2.2.2.2.2.1, y34.2.2.2.2.2.2.2.2.1, y34.2.2.2.2.2.2.2.2.2.1, y34.2.2.2.2.2.2.2.2.2.2.1, y34.2.2.2.2.2.2.2.2.2.2.2.1, y34.2.2.2.2.2.2.2.2.2.2.2.2.1, y34.2.2.2.2.2.2.2.2.2.2.2.2.2.1, y34.2.2.2.2.2.2.2.2.2.2.2.2.2.2, ())))
                  ((escrow_Over n (Escrow.mk v3) 3 v2).bind fun y35 =>
                  (law10_book_sum n (law10_book.mk (Escrow.mk v3) (Bounds.mk v4 v5) v6 (Arr5_int64.mk v7 v8 v9 v10 v11) (Arr5_int64.mk v12 v13 v14 v15 v16)) 3).bind fun y36 =>
                  cond (decide (3 = 0))
                    (some ((y35.1 == 0), y35.2, v4, v5, (IntKind.wrap .i64 (v6 + y36)), ([] : List Int), v8, v9, v10, v11, ([] : List Int), v13, v14, v15, v16))
                    (cond (decide (3 = 1))
                      (some ((y35.1 == 0), y35.2, v4, v5, (IntKind.wrap .i64 (v6 + y36)), v7, ([] : List Int), v9, v10, v11, v12, ([] : List Int), v14, v15, v16))
                      (cond (decide (3 = 2))
                        (some ((y35.1 == 0), y35.2, v4, v5, (IntKind.wrap .i64 (v6 + y36)), v7, v8, ([] : List Int), v10, v11, v12, v13, ([] : List Int), v15, v16))
                        (cond (decide (3 = 3))
                          (some ((y35.1 == 0), y35.2, v4, v5, (IntKind.wrap .i64 (v6 + y36)), v7, v8, v9, ([] : List Int), v11, v12, v13, v14, ([] : List Int), v16))
                          (cond (decide (3 = 4))
                            (some ((y35.1 == 0), y35.2, v4, v5, (IntKind.wrap .i64 (v6 + y36)), v7, v8, v9, v10, ([] : List Int), v12, v13, v14, v15, ([] : List Int)))
                            (none))))))) fun k33 =>
            cond (!v2)
              (k33 (decide ((v10.length : Int) > 0)))
              (k33 false))
            (cond (decide (v1 = 4))
              (jn (fun (b37 : Bool) =>
                  cond b37
                    ((law10_book_back n 4 v3 v4 v5 v6 v7 v8 v9 v10 v11 v12 v13 v14 v15 v16).bind fun y39 =>
                    cond (!y39.1)
                      (some (false, y39.2.1, y39.2.2.1, y39.2.2.2.1, y39.2.2.2.2.1, y39.2.2.2.2.2.1, y39.2.2.2.2.2.2.1, y39.2.2.2.2.2.2.2.1, y39.2.2.2.2.2.2.2.2.1, y39.2.2.2.2.2.2.2.2.2.1, y39.2.2.2.2.2.2.2.2.2.2.1, y39.2.2.2.2.2.2.2.2.2.2.2.1, y39.2.2.2.2.2.2.2.2.2.2.2.2.1, y39.2.2.2.2.2.2.2.2.2.2.2.2.2.1, y39.2.2.2.2.2.2.2.2.2.2.2.2.2.2))
                      (r1 (4, v2, y39.2.1, y39.2.2.1, y39.2.2.2.1, y39.2.2.2.2.1, y39.2.2.2.2.2.1, y39.2.2.2.2.2.2.1, y39.2.2.2.2.2.2.2.1, y39.2.2.2.2.2.2.2.2.1, y39.2.2.2.2.2.2.2.2.2.1, y39.2.2.2.2.2.2.2.2.2.2.1, y39.2.2.2.2.2.2.2.2.2.2.2.1, y39.2.2.2.2.2.2.2.2.2.2.2.2.1, y39.2.2.2.2.2.2.2.2.2.2.2.2.2.1, y39.2.2.2.2.2.2.2.2.2.2.2.2.2.2, ())))
                    ((escrow_Over n (Escrow.mk v3) 4 v2).bind fun y40 =>
                    (law10_book_sum n (law10_book.mk (Escrow.mk v3) (Bounds.mk v4 v5) v6 (Arr5_int64.mk v7 v8 v9 v10 v11) (Arr5_int64.mk v12 v13 v14 v15 v16)) 4).bind fun y41 =>
                    cond (decide (4 = 0))
                      (some ((y40.1 == 0), y40.2, v4, v5, (IntKind.wrap .i64 (v6 + y41)), ([] : List Int), v8, v9, v10, v11, ([] : List Int), v13, v14, v15, v16))
                      (cond (decide (4 = 1))
                        (some ((y40.1 == 0), y40.2, v4, v5, (IntKind.wrap .i64 (v6 + y41)), v7, ([] : List Int), v9, v10, v11, v12, ([] : List Int), v14, v15, v16))
                        (cond (decide (4 = 2))
                          (some ((y40.1 == 0), y40.2, v4, v5, (IntKind.wrap .i64 (v6 + y41)), v7, v8, ([] : List Int), v10, v11, v12, v13, ([] : List Int), v15, v16))
                          (cond (decide (4 = 3))
                            (some ((y40.1 == 0), y40.2, v4, v5, (IntKind.wrap .i64 (v6 + y41)), v7, v8, v9, ([] : List Int), v11, v12, v13, v14, ([] : List Int), v16))
                            (cond (decide (4 = 4))
                              (some ((y40.1 == 0), y40.2, v4, v5, (IntKind.wrap .i64 (v6 + y41)), v7, v8, v9, v10, ([] : List Int), v12, v13, v14, v15, ([] : List Int)))
                              (none))))))) fun k38 =>
              cond (!v2)
                (k38 (decide ((v11.length : Int) > 0)))
                (k38 false))
              (none)))))
def law10_book_over (n : Nat) (p1 : Int) (p2 : Bool) (q0_0 : List Pending) (q0_1 : Int) (q0_2 : Int) (q0_3 : Int) (q1 : List Int) (q2 : List Int) (q3 : List Int) (q4 : List Int) (q5 : List Int) (q6 : List Int) (q7 : List Int) (q8 : List Int) (q9 : List Int) (q10 : List Int) : Option (Bool × (List Pending) × Int × Int × Int × (List Int) × (List Int) × (List Int) × (List Int) × (List Int) × (List Int) × (List Int) × (List Int) × (List Int) × (List Int)) :=
  law10_book_over_l1 n n (p1, p2, q0_0, q0_1, q0_2, q0_3, q1, q2, q3, q4, q5, q6, q7, q8, q9, q10, ())
@[reducible] def law10_book_over_ct : Ct tab := ⟨28, [.one (.box 0 0), .one (.d (.int .i64)), .one (.d .bool)], [.box [.d (.sl (.st 2)), .d (.int .i64), .d (.int .i64), .d (.int .i64), .own 1, .own 2, .own 3, .own 4, .own 5, .own 6, .own 7, .own 8, .own 9, .own 10], .row 2 (.int .i64), .row 2 (.int .i64), .row 2 (.int .i64), .row 2 (.int .i64), .row 2 (.int .i64), .row 2 (.int .i64), .row 2 (.int .i64), .row 2 (.int .i64), .row 2 (.int .i64), .row 2 (.int .i64)], [.one (.d .bool)], [(some 0, .box [.d (.sl (.st 2)), .d (.int .i64), .d (.int .i64), .d (.int .i64), .own 1, .own 2, .own 3, .own 4, .own 5, .own 6, .own 7, .own 8, .own 9, .own 10]), (none, .row 2 (.int .i64)), (none, .row 2 (.int .i64)), (none, .row 2 (.int .i64)), (none, .row 2 (.int .i64)), (none, .row 2 (.int .i64)), (none, .row 2 (.int .i64)), (none, .row 2 (.int .i64)), (none, .row 2 (.int .i64)), (none, .row 2 (.int .i64)), (none, .row 2 (.int .i64))], (Bool × (List Pending) × Int × Int × Int × (List Int) × (List Int) × (List Int) × (List Int) × (List Int) × (List Int) × (List Int) × (List Int) × (List Int) × (List Int)), fun y => (y.1, y.2.1, y.2.2.1, y.2.2.2.1, y.2.2.2.2.1, y.2.2.2.2.2.1, y.2.2.2.2.2.2.1, y.2.2.2.2.2.2.2.1, y.2.2.2.2.2.2.2.2.1, y.2.2.2.2.2.2.2.2.2.1, y.2.2.2.2.2.2.2.2.2.2.1, y.2.2.2.2.2.2.2.2.2.2.2.1, y.2.2.2.2.2.2.2.2.2.2.2.2.1, y.2.2.2.2.2.2.2.2.2.2.2.2.2.1, y.2.2.2.2.2.2.2.2.2.2.2.2.2.2, ()), fun y => (y.1, y.2.1, y.2.2.1, y.2.2.2.1, y.2.2.2.2.1, y.2.2.2.2.2.1, y.2.2.2.2.2.2.1, y.2.2.2.2.2.2.2.1, y.2.2.2.2.2.2.2.2.1, y.2.2.2.2.2.2.2.2.2.1, y.2.2.2.2.2.2.2.2.2.2.1, y.2.2.2.2.2.2.2.2.2.2.2.1, y.2.2.2.2.2.2.2.2.2.2.2.2.1, y.2.2.2.2.2.2.2.2.2.2.2.2.2.1, y.2.2.2.2.2.2.2.2.2.2.2.2.2.2.1), fun _ => rfl, fun n x => law10_book_over n x.1 x.2.1 x.2.2.1 x.2.2.2.1 x.2.2.2.2.1 x.2.2.2.2.2.1 x.2.2.2.2.2.2.1 x.2.2.2.2.2.2.2.1 x.2.2.2.2.2.2.2.2.1 x.2.2.2.2.2.2.2.2.2.1 x.2.2.2.2.2.2.2.2.2.2.1 x.2.2.2.2.2.2.2.2.2.2.2.1 x.2.2.2.2.2.2.2.2.2.2.2.2.1 x.2.2.2.2.2.2.2.2.2.2.2.2.2.1 x.2.2.2.2.2.2.2.2.2.2.2.2.2.2.1 x.2.2.2.2.2.2.2.2.2.2.2.2.2.2.2.1⟩
theorem law10_book_over_ok : OkC Try.prog tab law10_book_over_ct := fn_ok (W := ⟨Try.prog, tab, tyOf, [law10_book_back_ct, escrow_Over_ct, law10_book_sum_ct], addO, dpO, false⟩) ⟨tabOk, ⟨law10_book_back_ok, escrow_Over_ok, law10_book_sum_ok, trivial⟩, addOk⟩ (by kernel_rfl) 61 Try.f28 (.sq (.n) (.sq (.bk none (.lp ⟨[(0, .one (.box 0 0)), (1, .one (.d (.int .i64))), (2, .one (.d .bool))], [.box [.d (.sl (.st 2)), .d (.int .i64), .d (.int .i64), .d (.int .i64), .own 1, .own 2, .own 3, .own 4, .own 5, .own 6, .own 7, .own 8, .own 9, .own 10], .row 2 (.int .i64), .row 2 (.int .i64), .row 2 (.int .i64), .row 2 (.int .i64), .row 2 (.int .i64), .row 2 (.int .i64), .row 2 (.int .i64), .row 2 (.int .i64), .row 2 (.int .i64), .row 2 (.int .i64)], [(0, 0)]⟩ (.sq (.sq (.rs [(1, 5)] []) (.n)) (.n)))) (.sq (.n) (.sq (.n) (.sq (.rs [(1, 5)] []) (.n)))))) Try.func28 Try.call28 rfl (by kernel_rfl) (by kernel_rfl) (by kernel_rfl) fun n x => by kernel_rfl

end
end Go.Proofs.Ytfidbgcdjmhjnaa
