/- Functions of the program: plain twins and their contracts, printed by program. -/
import Derived.Test.YtfidbgcdjmhjnaaTypes
import Derived.Test.YtfidbgcdjmhjnaaF3
namespace Go.Proofs.Ytfidbgcdjmhjnaa
open Go Go.Bur Go.RowKit
set_option linter.unusedVariables false
set_option linter.unusedSimpArgs false
set_option maxRecDepth 100000
noncomputable section
/-!   bursary bursarylaw10.book .holds -/
def law10_book_holds (n : Nat) (p0 : law10_book) : Option Bool :=
  (law10_key n).bind fun y1 =>
  (escrow_Find n p0.e y1).bind fun y2 =>
  cond (!y2.2)
    ((escrow_Check n p0.e).bind fun y3 =>
    jn (fun (b4 : Bool) =>
        jn (fun (b6 : Bool) =>
            some b6) fun k7 =>
        cond b4
          ((law10_book_now n p0).bind fun y8 =>
          k7 (y8 == p0.value))
          (k7 false)) fun k5 =>
    cond (y3 == 0)
      (k5 ((p0.e.rows.length : Int) == 0))
      (k5 false))
    ((escrow_Ends n y2.1).bind fun y9 =>
    jn (fun (b10 : Bool) =>
        jn (fun (b12 : Bool) =>
            jn (fun (b14 : Bool) =>
                jn (fun (b16 : Bool) =>
                    jn (fun (b18 : Bool) =>
                        some b18) fun k19 =>
                    cond b16
                      (k19 (decide (y9.2.2.1 ≤ p0.bounds.max)))
                      (k19 false)) fun k17 =>
                cond b14
                  (k17 (decide (y9.1 ≥ p0.bounds.min)))
                  (k17 false)) fun k15 =>
            cond b12
              ((law10_book_now n p0).bind fun y20 =>
              k15 (y9.2.1 == y20))
              (k15 false)) fun k13 =>
        cond b10
          (k13 (y2.1.value == p0.value))
          (k13 false)) fun k11 =>
    cond (y9.2.2.2 == 0)
      ((escrow_Check n p0.e).bind fun y21 =>
      k11 (y21 == 0))
      (k11 false))
@[reducible] def law10_book_holds_ct : Ct tab := ⟨29, [.one (.ro (.st 12))], [], [.one (.d .bool)], [], Bool, fun y => (y, ()), fun y => y.1, fun _ => rfl, fun n x => law10_book_holds n x.1⟩
theorem law10_book_holds_ok : OkC Try.prog tab law10_book_holds_ct := fn_ok (W := ⟨Try.prog, tab, tyOf, [law10_key_ct, escrow_Find_ct, escrow_Check_ct, law10_book_now_ct, escrow_Ends_ct], addO, dpO⟩) ⟨tabOk, ⟨law10_key_ok, escrow_Find_ok, escrow_Check_ok, law10_book_now_ok, escrow_Ends_ok, trivial⟩, addOk⟩ (by kernel_rfl) 94 Try.f29 (.n) Try.func29 Try.call29 rfl (by kernel_rfl) (by kernel_rfl) (by kernel_rfl) fun n x => by kernel_rfl

/-! slices.Reverse   bursary api.Pending bursary api.Pending  -/
def slices_Reverse_Pending_l1 (n : Nat) : Nat → Int × Int × (List Pending) × Unit → Option ((List Pending)) := loopF fun r1 ⟨v1, v2, v3, _⟩ =>
    cond (decide (v1 < v2))
      ((idx v3 v2).bind fun x4 =>
      (idx v3 v2).bind fun x5 =>
      (idx v3 v1).bind fun x6 =>
      (idx v3 v1).bind fun x7 =>
      (idx v3 v1).bind fun x8 =>
      (put v3 v1 x5).bind fun l9 =>
      (idx l9 v2).bind fun x10 =>
      (put l9 v2 x7).bind fun l11 =>
      r1 ((IntKind.wrap .i64 (v1 + 1)), (IntKind.wrap .i64 (v2 - 1)), l11, ()))
      (some v3)
def slices_Reverse_Pending (n : Nat) (q0 : List Pending) : Option ((List Pending)) :=
  slices_Reverse_Pending_l1 n n (0, (IntKind.wrap .i64 ((q0.length : Int) - 1)), q0, ())
@[reducible] def slices_Reverse_Pending_ct : Ct tab := ⟨103, [.one (.own 0)], [.row 27 (.st 2)], [], [(some 0, .row 27 (.st 2))], ((List Pending)), fun y => (y, ()), fun y => y.1, fun _ => rfl, fun n x => slices_Reverse_Pending n x.1⟩
theorem slices_Reverse_Pending_ok : OkC Try.prog tab slices_Reverse_Pending_ct := fn_ok (W := ⟨Try.prog, tab, tyOf, [], addO, dpO⟩) ⟨tabOk, trivial, addOk⟩ (by kernel_rfl) 28 Try.f103 (.sq (.n) (.bk none (.lp ⟨[(0, .one (.own 0)), (2, .one (.d (.int .i64))), (3, .one (.d (.int .i64)))], [.row 27 (.st 2)], [(0, 0)]⟩ (.n)))) Try.func103 Try.call103 rfl (by kernel_rfl) (by kernel_rfl) (by kernel_rfl) fun n x => by kernel_rfl

/-! slices.Reverse   bursary api.Share bursary api.Share  -/
def slices_Reverse_Share_l1 (n : Nat) : Nat → Int × Int × (List Share) × Unit → Option ((List Share)) := loopF fun r1 ⟨v1, v2, v3, _⟩ =>
    cond (decide (v1 < v2))
      ((idx v3 v2).bind fun x4 =>
      (idx v3 v2).bind fun x5 =>
      (idx v3 v1).bind fun x6 =>
      (idx v3 v1).bind fun x7 =>
      (idx v3 v1).bind fun x8 =>
      (put v3 v1 x5).bind fun l9 =>
      (idx l9 v2).bind fun x10 =>
      (put l9 v2 x7).bind fun l11 =>
      r1 ((IntKind.wrap .i64 (v1 + 1)), (IntKind.wrap .i64 (v2 - 1)), l11, ()))
      (some v3)
def slices_Reverse_Share (n : Nat) (q0 : List Share) : Option ((List Share)) :=
  slices_Reverse_Share_l1 n n (0, (IntKind.wrap .i64 ((q0.length : Int) - 1)), q0, ())
@[reducible] def slices_Reverse_Share_ct : Ct tab := ⟨104, [.one (.own 0)], [.row 61 (.st 1)], [], [(some 0, .row 61 (.st 1))], ((List Share)), fun y => (y, ()), fun y => y.1, fun _ => rfl, fun n x => slices_Reverse_Share n x.1⟩
theorem slices_Reverse_Share_ok : OkC Try.prog tab slices_Reverse_Share_ct := fn_ok (W := ⟨Try.prog, tab, tyOf, [], addO, dpO⟩) ⟨tabOk, trivial, addOk⟩ (by kernel_rfl) 28 Try.f104 (.sq (.n) (.bk none (.lp ⟨[(0, .one (.own 0)), (2, .one (.d (.int .i64))), (3, .one (.d (.int .i64)))], [.row 61 (.st 1)], [(0, 0)]⟩ (.n)))) Try.func104 Try.call104 rfl (by kernel_rfl) (by kernel_rfl) (by kernel_rfl) fun n x => by kernel_rfl

/-! bursary bursarylaw10.EscrowAdmits -/
def law10_EscrowAdmits_j1 (n : Nat) : Unit → Option Bool := fun _ =>
    some true
def law10_EscrowAdmits_j3 (n : Nat) (r2 : (List Adding) × Int × Int × Pending × Unit → Option Bool) : Int × (List Adding) × Int × Int × Pending × Adding × Unit → Option Bool := fun ⟨v10, v11, v12, v13, v14, v15, _⟩ =>
    (escrow_Admit n v14 v15.txn v15.by_ v15.bounds).bind fun y16 =>
    cond (y16 != v10)
      (some false)
      (r2 (v11, v12, (IntKind.wrap .i64 (v13 + 1)), v14, ()))
def law10_EscrowAdmits_l2 (n : Nat) (j1 : Unit → Option Bool) : Nat → (List Adding) × Int × Int × Pending × Unit → Option Bool := loopF fun r2 ⟨v4, v5, v6, v7, _⟩ =>
    cond (decide (v6 < v5))
      ((idx v4 v6).bind fun x8 =>
      cond (v6 == 20)
        (j1 (()))
        ((ref10_RightPending n v7).bind fun y9 =>
        jn (law10_EscrowAdmits_j3 n r2) fun j3 =>
        cond y9
          ((ref10_Admit n v7 x8.txn x8.by_ x8.bounds).bind fun y17 =>
          j3 (y17, v4, v5, v6, v7, x8, ()))
          (j3 (200, v4, v5, v6, v7, x8, ()))))
      (j1 (()))
def law10_EscrowAdmits (n : Nat) (p0 : Pending) (p1 : List Adding) : Option Bool :=
  (law10_wakes n).bind fun y1 =>
  cond (!y1)
    (some false)
    ((law10_few n (Escrow.mk ([p0] : List Pending))).bind fun y2 =>
    (idx y2.rows 0).bind fun x3 =>
    jn (law10_EscrowAdmits_j1 n) fun j1 =>
    law10_EscrowAdmits_l2 n j1 n (p1, (p1.length : Int), 0, x3, ()))
@[reducible] def law10_EscrowAdmits_ct : Ct tab := ⟨3, [.st 2, .one (.d (.sl (.st 4)))], [], [.one (.d .bool)], [], Bool, fun y => (y, ()), fun y => y.1, fun _ => rfl, fun n x => law10_EscrowAdmits n x.1 x.2.1⟩
theorem law10_EscrowAdmits_ok : OkC Try.prog tab law10_EscrowAdmits_ct := fn_ok (W := ⟨Try.prog, tab, tyOf, [law10_wakes_ct, law10_few_ct, ref10_RightPending_ct, escrow_Admit_ct, ref10_Admit_ct], addO, dpO⟩) ⟨tabOk, ⟨law10_wakes_ok, law10_few_ok, ref10_RightPending_ok, escrow_Admit_ok, ref10_Admit_ok, trivial⟩, addOk⟩ (by kernel_rfl) 47 Try.f3 (.sq (.n) (.sq (.n) (.sq (.n) (.sq (.sq (.n) (.bk (some ⟨[], [], []⟩) (.lp ⟨[(2, .one (.box 0 0)), (17, .one (.d (.sl (.st 4)))), (18, .one (.d (.int .i64))), (19, .one (.d (.int .i64)))], [.bst 2], []⟩ (.sq (.n) (.sq (.n) (.sq (.bk none (.sq (.n) (.sq (.n) (.sq (.n) (.sq (.sq (.n) (.cd (some ⟨[(2, .one (.box 0 0)), (6, .one (.box 1 0)), (7, .one (.d (.int .i64))), (17, .one (.d (.sl (.st 4)))), (18, .one (.d (.int .i64))), (19, .one (.d (.int .i64)))], [.bst 2, .bst 4], []⟩) (.n) (.n))) (.n)))))) (.n))))))) (.n))))) Try.func3 Try.call3 rfl (by kernel_rfl) (by kernel_rfl) (by kernel_rfl) fun n x => by kernel_rfl

/-! bursary bursarylaw10.EscrowTells -/
def law10_EscrowTells_j1 (n : Nat) : Unit → Option Bool := fun _ =>
    some true
def law10_EscrowTells_j5 (n : Nat) (r4 : (List Escrow) × (List Key) × (List Escrow) × Int × Int × (List Pending) × Int × Int × Unit → Option Bool) : (List Escrow) × (List Key) × (List Escrow) × Int × Int × (List Pending) × Int × Int × Unit → Option Bool := fun ⟨v33, v34, v35, v36, v37, v38, v39, v40, _⟩ =>
    r4 (v33, v34, v35, v36, v37, v38, v39, (IntKind.wrap .i64 (v40 + 1)), ())
def law10_EscrowTells_l4 (n : Nat) (r2 : (List Escrow) × (List Key) × (List Escrow) × Int × Int × Unit → Option Bool) : Nat → (List Escrow) × (List Key) × (List Escrow) × Int × Int × (List Pending) × Int × Int × Unit → Option Bool := loopF fun r4 ⟨v25, v26, v27, v28, v29, v30, v31, v32, _⟩ =>
    cond (decide (v32 < v31))
      (jn (law10_EscrowTells_j5 n r4) fun j5 =>
      (idx v30 v32).bind fun x41 =>
      (escrow_Ends n x41).bind fun y42 =>
      (ref10_RightPending n x41).bind fun y43 =>
      cond (!y43)
        (jn (fun (b44 : Bool) =>
            jn (fun (b46 : Bool) =>
                jn (fun (b48 : Bool) =>
                    cond b48
                      (some false)
                      (j5 (v25, v26, v27, v28, v29, v30, v31, v32, ()))) fun k49 =>
                cond b46
                  (k49 true)
                  (k49 (y42.2.2.1 != 0))) fun k47 =>
            cond b44
              (k47 true)
              (k47 (y42.2.1 != 0))) fun k45 =>
        cond (y42.2.2.2 != 200)
          (k45 true)
          (k45 (y42.1 != 0)))
        ((ref10_Ends n x41).bind fun y50 =>
        jn (fun (b51 : Bool) =>
            jn (fun (b53 : Bool) =>
                jn (fun (b55 : Bool) =>
                    cond b55
                      (some false)
                      (j5 (v25, v26, v27, v28, v29, v30, v31, v32, ()))) fun k56 =>
                cond b53
                  (k56 true)
                  (k56 (y42.2.2.1 != y50.2.2))) fun k54 =>
            cond b51
              (k54 true)
              (k54 (y42.2.1 != y50.2.1))) fun k52 =>
        cond (y42.2.2.2 != 0)
          (k52 true)
          (k52 (y42.1 != y50.1))))
      (r2 (v25, v26, v27, v28, (IntKind.wrap .i64 (v29 + 1)), ()))
def law10_EscrowTells_j3 (n : Nat) (r2 : (List Escrow) × (List Key) × (List Escrow) × Int × Int × Unit → Option Bool) : (List Escrow) × (List Key) × (List Escrow) × Int × Int × Escrow × Unit → Option Bool := fun ⟨v19, v20, v21, v22, v23, v24, _⟩ =>
    law10_EscrowTells_l4 n r2 n (v19, v20, v21, v22, v23, v24.rows, (v24.rows.length : Int), 0, ())
def law10_EscrowTells_l6 (n : Nat) (j3 : (List Escrow) × (List Key) × (List Escrow) × Int × Int × Escrow × Unit → Option Bool) : Nat → (List Escrow) × (List Key) × (List Escrow) × Int × Int × (List Key) × Int × Int × Escrow × Unit → Option Bool := loopF fun r6 ⟨v57, v58, v59, v60, v61, v62, v63, v64, v65, _⟩ =>
    cond (decide (v64 < v63))
      ((idx v62 v64).bind fun x66 =>
      cond (v64 == 10)
        (j3 (v57, v58, v59, v60, v61, v65, ()))
        ((escrow_Find n v65 x66).bind fun y67 =>
        (ref10_Find n v65 x66).bind fun y68 =>
        jn (fun (b69 : Bool) =>
            cond b69
              (some false)
              (r6 (v57, v58, v59, v60, v61, v62, v63, (IntKind.wrap .i64 (v64 + 1)), v65, ()))) fun k70 =>
        cond (!(y67.2 == y68.2))
          (k70 true)
          ((ref10_SamePending n y67.1 y68.1).bind fun y71 =>
          k70 (!y71))))
      (j3 (v57, v58, v59, v60, v61, v65, ()))
def law10_EscrowTells_l2 (n : Nat) (j1 : Unit → Option Bool) : Nat → (List Escrow) × (List Key) × (List Escrow) × Int × Int × Unit → Option Bool := loopF fun r2 ⟨v2, v3, v4, v5, v6, _⟩ =>
    cond (decide (v6 < v5))
      ((idx v4 v6).bind fun x7 =>
      cond (v6 == 6)
        (j1 (()))
        ((law10_few n x7).bind fun y8 =>
        (idx v2 0).bind fun x9 =>
        (law10_few n x9).bind fun y10 =>
        (ref10_Right n y8).bind fun y11 =>
        (escrow_Check n y8).bind fun y12 =>
        jn (fun (b13 : Bool) =>
            jn (fun (b15 : Bool) =>
                jn (fun (b17 : Bool) =>
                    cond b17
                      (some false)
                      (jn (law10_EscrowTells_j3 n r2) fun j3 =>
                      law10_EscrowTells_l6 n j3 n (v2, v3, v4, v5, v6, v3, (v3.length : Int), 0, y8, ()))) fun k18 =>
                cond b15
                  (k18 true)
                  ((law10_few n x7).bind fun y72 =>
                  (escrow_Same n y8 y72).bind fun y73 =>
                  k18 (!y73))) fun k16 =>
            cond b13
              (k16 true)
              ((escrow_Same n y8 y10).bind fun y74 =>
              (ref10_Same n y8 y10).bind fun y75 =>
              k16 (!(y74 == y75)))) fun k14 =>
        cond (!((y12 == 0) == y11))
          (k14 true)
          (jn (fun (b76 : Bool) =>
              k14 b76) fun k77 =>
          cond (!y11)
            (k77 (y12 != 200))
            (k77 false))))
      (j1 (()))
def law10_EscrowTells (n : Nat) (p0 : List Escrow) (p1 : List Key) : Option Bool :=
  (law10_wakes n).bind fun y1 =>
  cond (!y1)
    (some false)
    (jn (law10_EscrowTells_j1 n) fun j1 =>
    law10_EscrowTells_l2 n j1 n (p0, p1, p0, (p0.length : Int), 0, ()))
@[reducible] def law10_EscrowTells_ct : Ct tab := ⟨4, [.one (.d (.sl (.st 5))), .one (.d (.sl (.st 0)))], [], [.one (.d .bool)], [], Bool, fun y => (y, ()), fun y => y.1, fun _ => rfl, fun n x => law10_EscrowTells n x.1 x.2.1⟩
theorem law10_EscrowTells_ok : OkC Try.prog tab law10_EscrowTells_ct := fn_ok (W := ⟨Try.prog, tab, tyOf, [law10_wakes_ct, law10_few_ct, ref10_Right_ct, escrow_Check_ct, escrow_Ends_ct, ref10_RightPending_ct, ref10_Ends_ct, escrow_Find_ct, ref10_Find_ct, ref10_SamePending_ct, escrow_Same_ct, ref10_Same_ct], addO, dpO⟩) ⟨tabOk, ⟨law10_wakes_ok, law10_few_ok, ref10_Right_ok, escrow_Check_ok, escrow_Ends_ok, ref10_RightPending_ok, ref10_Ends_ok, escrow_Find_ok, ref10_Find_ok, ref10_SamePending_ok, escrow_Same_ok, ref10_Same_ok, trivial⟩, addOk⟩ (by kernel_rfl) 162 Try.f4 (.sq (.n) (.sq (.n) (.sq (.sq (.n) (.bk (some ⟨[], [], []⟩) (.lp ⟨[(0, .one (.d (.sl (.st 5)))), (1, .one (.d (.sl (.st 0)))), (28, .one (.d (.sl (.st 5)))), (29, .one (.d (.int .i64))), (30, .one (.d (.int .i64)))], [], []⟩ (.sq (.n) (.sq (.n) (.sq (.bk none (.sq (.n) (.sq (.n) (.sq (.n) (.sq (.n) (.sq (.n) (.sq (.sq (.n) (.bk (some ⟨[(0, .one (.d (.sl (.st 5)))), (1, .one (.d (.sl (.st 0)))), (7, .one (.box 0 0)), (28, .one (.d (.sl (.st 5)))), (29, .one (.d (.int .i64))), (30, .one (.d (.int .i64)))], [.bst 5], []⟩) (.lp ⟨[(0, .one (.d (.sl (.st 5)))), (1, .one (.d (.sl (.st 0)))), (7, .one (.box 0 0)), (28, .one (.d (.sl (.st 5)))), (29, .one (.d (.int .i64))), (30, .one (.d (.int .i64))), (75, .one (.d (.sl (.st 0)))), (76, .one (.d (.int .i64))), (77, .one (.d (.int .i64)))], [.bst 5], []⟩ (.n)))) (.sq (.n) (.bk none (.lp ⟨[(0, .one (.d (.sl (.st 5)))), (1, .one (.d (.sl (.st 0)))), (28, .one (.d (.sl (.st 5)))), (29, .one (.d (.int .i64))), (30, .one (.d (.int .i64))), (107, .one (.d (.sl (.st 2)))), (108, .one (.d (.int .i64))), (109, .one (.d (.int .i64)))], [], []⟩ (.sq (.n) (.sq (.n) (.sq (.bk (some ⟨[(0, .one (.d (.sl (.st 5)))), (1, .one (.d (.sl (.st 0)))), (28, .one (.d (.sl (.st 5)))), (29, .one (.d (.int .i64))), (30, .one (.d (.int .i64))), (107, .one (.d (.sl (.st 2)))), (108, .one (.d (.int .i64))), (109, .one (.d (.int .i64)))], [], []⟩) (.n)) (.n)))))))))))))) (.n))))))) (.n)))) Try.func4 Try.call4 rfl (by kernel_rfl) (by kernel_rfl) (by kernel_rfl) fun n x => by kernel_rfl

end
end Go.Proofs.Ytfidbgcdjmhjnaa
