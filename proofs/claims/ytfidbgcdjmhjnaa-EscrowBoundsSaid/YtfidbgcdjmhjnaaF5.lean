/- Functions of the program: plain twins and their contracts, printed by program. -/
import Derived.Test.YtfidbgcdjmhjnaaTypes
import Derived.Test.YtfidbgcdjmhjnaaF4
namespace Go.Proofs.Ytfidbgcdjmhjnaa
open Go Go.Bur Go.RowKit
set_option linter.unusedVariables false
set_option linter.unusedSimpArgs false
set_option maxRecDepth 100000
noncomputable section
/-!   bursary bursarylaw10.book .holds -/
def law10_book_holds (n : Nat) (p0 : law10_book) : Option Bool :=
  (law10_key n).bind fun y1 =>
  (escrow_Find n p0.e y1).bind fun y2 =>
  cond (!y2.2)
    ((escrow_Check n p0.e).bind fun y3 =>
    jn (fun (b4 : Bool) =>
        jn (fun (b6 : Bool) =>
            some b6) fun k7 =>
        cond b4
          ((law10_book_now n p0).bind fun y8 =>
          k7 (y8 == p0.value))
          (k7 false)) fun k5 =>
    cond (y3 == 0)
      (k5 ((p0.e.rows.length : Int) == 0))
      (k5 false))
    ((escrow_Ends n y2.1).bind fun y9 =>
    jn (fun (b10 : Bool) =>
        jn (fun (b12 : Bool) =>
            jn (fun (b14 : Bool) =>
                jn (fun (b16 : Bool) =>
                    jn (fun (b18 : Bool) =>
                        some b18) fun k19 =>
                    cond b16
                      (k19 (decide (y9.2.2.1 ≤ p0.bounds.max)))
                      (k19 false)) fun k17 =>
                cond b14
                  (k17 (decide (y9.1 ≥ p0.bounds.min)))
                  (k17 false)) fun k15 =>
            cond b12
              ((law10_book_now n p0).bind fun y20 =>
              k15 (y9.2.1 == y20))
              (k15 false)) fun k13 =>
        cond b10
          (k13 (y2.1.value == p0.value))
          (k13 false)) fun k11 =>
    cond (y9.2.2.2 == 0)
      ((escrow_Check n p0.e).bind fun y21 =>
      k11 (y21 == 0))
      (k11 false))
@[reducible] def law10_book_holds_ct : Ct tab := ⟨29, [.one (.ro (.st 12))], [], [.one (.d .bool)], [], Bool, fun y => (y, ()), fun y => y.1, fun _ => rfl, fun n x => law10_book_holds n x.1⟩
theorem law10_book_holds_ok : OkC Try.prog tab law10_book_holds_ct := fn_ok (W := ⟨Try.prog, tab, tyOf, [law10_key_ct, escrow_Find_ct, escrow_Check_ct, law10_book_now_ct, escrow_Ends_ct], addO, dpO, false⟩) ⟨tabOk, ⟨law10_key_ok, escrow_Find_ok, escrow_Check_ok, law10_book_now_ok, escrow_Ends_ok, trivial⟩, addOk⟩ (by kernel_rfl) 94 Try.f29 (.n) Try.func29 Try.call29 rfl (by kernel_rfl) (by kernel_rfl) (by kernel_rfl) fun n x => by kernel_rfl

/-! bursary bursarylaw10.EscrowBounds -/
def law10_EscrowBounds_j1 (n : Nat) : Unit → Option Bool := fun _ =>
    some true
def law10_EscrowBounds_j4 (n : Nat) (r2 : (List law10_Deed) × Int × Int × (List Pending) × Int × Int × Int × (List Int) × (List Int) × (List Int) × (List Int) × (List Int) × (List Int) × (List Int) × (List Int) × (List Int) × (List Int) × Unit → Option Bool) : Bool × (List law10_Deed) × Int × Int × (List Pending) × Int × Int × Int × (List Int) × (List Int) × (List Int) × (List Int) × (List Int) × (List Int) × (List Int) × (List Int) × (List Int) × (List Int) × Unit → Option Bool := fun ⟨v45, v46, v47, v48, v49, v50, v51, v52, v53, v54, v55, v56, v57, v58, v59, v60, v61, v62, _⟩ =>
    jn (fun (b63 : Bool) =>
        jn (fun (b65 : Bool) =>
            jn (fun (b67 : Bool) =>
                cond b67
                  (some false)
                  (r2 (v46, v47, (IntKind.wrap .i64 (v48 + 1)), v49, v50, v51, v52, v53, v54, v55, v56, v57, v58, v59, v60, v61, v62, ()))) fun k68 =>
            cond b65
              (k68 true)
              (k68 (decide (v52 > v51)))) fun k66 =>
        cond b63
          (k66 true)
          (k66 (decide (v52 < v50)))) fun k64 =>
    cond (!v45)
      (k64 true)
      ((law10_book_holds n (law10_book.mk (Escrow.mk v49) (Bounds.mk v50 v51) v52 (Arr5_int64.mk v53 v54 v55 v56 v57) (Arr5_int64.mk v58 v59 v60 v61 v62))).bind fun y69 =>
      k64 (!y69))
def law10_EscrowBounds_j5 (n : Nat) (j4 : Bool × (List law10_Deed) × Int × Int × (List Pending) × Int × Int × Int × (List Int) × (List Int) × (List Int) × (List Int) × (List Int) × (List Int) × (List Int) × (List Int) × (List Int) × (List Int) × Unit → Option Bool) : Bool × (List law10_Deed) × Int × Int × (List Pending) × Int × Int × Int × (List Int) × (List Int) × (List Int) × (List Int) × (List Int) × (List Int) × (List Int) × (List Int) × (List Int) × (List Int) × Unit → Option Bool := fun ⟨v72, v73, v74, v75, v76, v77, v78, v79, v80, v81, v82, v83, v84, v85, v86, v87, v88, v89, _⟩ =>
    j4 (v72, v73, v74, v75, v76, v77, v78, v79, v80, v81, v82, v83, v84, v85, v86, v87, v88, v89, ())
def law10_EscrowBounds_j6 (n : Nat) (j5 : Bool × (List law10_Deed) × Int × Int × (List Pending) × Int × Int × Int × (List Int) × (List Int) × (List Int) × (List Int) × (List Int) × (List Int) × (List Int) × (List Int) × (List Int) × (List Int) × Unit → Option Bool) : Bool × (List law10_Deed) × Int × Int × (List Pending) × Int × Int × Int × (List Int) × (List Int) × (List Int) × (List Int) × (List Int) × (List Int) × (List Int) × (List Int) × (List Int) × (List Int) × Unit → Option Bool := fun ⟨v91, v92, v93, v94, v95, v96, v97, v98, v99, v100, v101, v102, v103, v104, v105, v106, v107, v108, _⟩ =>
    j5 (v91, v92, v93, v94, v95, v96, v97, v98, v99, v100, v101, v102, v103, v104, v105, v106, v107, v108, ())
def law10_EscrowBounds_j3 (n : Nat) (r2 : (List law10_Deed) × Int × Int × (List Pending) × Int × Int × Int × (List Int) × (List Int) × (List Int) × (List Int) × (List Int) × (List Int) × (List Int) × (List Int) × (List Int) × (List Int) × Unit → Option Bool) : Int × (List law10_Deed) × Int × Int × Int × Bool × (List Pending) × Int × Int × Int × law10_Deed × (List Int) × (List Int) × (List Int) × (List Int) × (List Int) × (List Int) × (List Int) × (List Int) × (List Int) × (List Int) × Unit → Option Bool := fun ⟨v24, v25, v26, v27, v28, v29, v30, v31, v32, v33, v34, v35, v36, v37, v38, v39, v40, v41, v42, v43, v44, _⟩ =>
    jn (law10_EscrowBounds_j4 n r2) fun j4 =>
    cond v29
      ((remP v34.by_ 2000).bind fun z70 =>
      (law10_book_adds n v24 z70 v30 v31 v32 v33 v35 v36 v37 v38 v39 v40 v41 v42 v43 v44).bind fun y71 =>
      j4 (y71.1, v25, v26, v27, y71.2.1, y71.2.2.1, y71.2.2.2.1, y71.2.2.2.2.1, y71.2.2.2.2.2.1, y71.2.2.2.2.2.2.1, y71.2.2.2.2.2.2.2.1, y71.2.2.2.2.2.2.2.2.1, y71.2.2.2.2.2.2.2.2.2.1, y71.2.2.2.2.2.2.2.2.2.2.1, y71.2.2.2.2.2.2.2.2.2.2.2.1, y71.2.2.2.2.2.2.2.2.2.2.2.2.1, y71.2.2.2.2.2.2.2.2.2.2.2.2.2.1, y71.2.2.2.2.2.2.2.2.2.2.2.2.2.2, ()))
      (jn (law10_EscrowBounds_j5 n j4) fun j5 =>
      cond (v28 == 3)
        ((law10_book_back n v24 v30 v31 v32 v33 v35 v36 v37 v38 v39 v40 v41 v42 v43 v44).bind fun y90 =>
        j5 (y90.1, v25, v26, v27, y90.2.1, y90.2.2.1, y90.2.2.2.1, y90.2.2.2.2.1, y90.2.2.2.2.2.1, y90.2.2.2.2.2.2.1, y90.2.2.2.2.2.2.2.1, y90.2.2.2.2.2.2.2.2.1, y90.2.2.2.2.2.2.2.2.2.1, y90.2.2.2.2.2.2.2.2.2.2.1, y90.2.2.2.2.2.2.2.2.2.2.2.1, y90.2.2.2.2.2.2.2.2.2.2.2.2.1, y90.2.2.2.2.2.2.2.2.2.2.2.2.2.1, y90.2.2.2.2.2.2.2.2.2.2.2.2.2.2, ()))
        (jn (law10_EscrowBounds_j6 n j5) fun j6 =>
        cond (v28 == 4)
          ((law10_book_over n v24 true v30 v31 v32 v33 v35 v36 v37 v38 v39 v40 v41 v42 v43 v44).bind fun y109 =>
          j6 (y109.1, v25, v26, v27, y109.2.1, y109.2.2.1, y109.2.2.2.1, y109.2.2.2.2.1, y109.2.2.2.2.2.1, y109.2.2.2.2.2.2.1, y109.2.2.2.2.2.2.2.1, y109.2.2.2.2.2.2.2.2.1, y109.2.2.2.2.2.2.2.2.2.1, y109.2.2.2.2.2.2.2.2.2.2.1, y109.2.2.2.2.2.2.2.2.2.2.2.1, y109.2.2.2.2.2.2.2.2.2.2.2.2.1, y109.2.2.2.2.2.2.2.2.2.2.2.2.2.1, y109.2.2.2.2.2.2.2.2.2.2.2.2.2.2, ()))
          ((law10_book_over n v24 false v30 v31 v32 v33 v35 v36 v37 v38 v39 v40 v41 v42 v43 v44).bind fun y110 =>
          j6 (y110.1, v25, v26, v27, y110.2.1, y110.2.2.1, y110.2.2.2.1, y110.2.2.2.2.1, y110.2.2.2.2.2.1, y110.2.2.2.2.2.2.1, y110.2.2.2.2.2.2.2.1, y110.2.2.2.2.2.2.2.2.1, y110.2.2.2.2.2.2.2.2.2.1, y110.2.2.2.2.2.2.2.2.2.2.1, y110.2.2.2.2.2.2.2.2.2.2.2.1, y110.2.2.2.2.2.2.2.2.2.2.2.2.1, y110.2.2.2.2.2.2.2.2.2.2.2.2.2.1, y110.2.2.2.2.2.2.2.2.2.2.2.2.2.2, ()))))
def law10_EscrowBounds_j7 (n : Nat) (j3 : Int × (List law10_Deed) × Int × Int × Int × Bool × (List Pending) × Int × Int × Int × law10_Deed × (List Int) × (List Int) × (List Int) × (List Int) × (List Int) × (List Int) × (List Int) × (List Int) × (List Int) × (List Int) × Unit → Option Bool) : Int × (List law10_Deed) × Int × Int × Int × Bool × (List Pending) × Int × Int × Int × law10_Deed × (List Int) × (List Int) × (List Int) × (List Int) × (List Int) × (List Int) × (List Int) × (List Int) × (List Int) × (List Int) × Unit → Option Bool := fun ⟨v111, v112, v113, v114, v115, v116, v117, v118, v119, v120, v121, v122, v123, v124, v125, v126, v127, v128, v129, v130, v131, _⟩ =>
    j3 (v111, v112, v113, v114, v115, v116, v117, v118, v119, v120, v121, v122, v123, v124, v125, v126, v127, v128, v129, v130, v131, ())
def law10_EscrowBounds_l2 (n : Nat) (j1 : Unit → Option Bool) : Nat → (List law10_Deed) × Int × Int × (List Pending) × Int × Int × Int × (List Int) × (List Int) × (List Int) × (List Int) × (List Int) × (List Int) × (List Int) × (List Int) × (List Int) × (List Int) × Unit → Option Bool := loopF fun r2 ⟨v4, v5, v6, v7, v8, v9, v10, v11, v12, v13, v14, v15, v16, v17, v18, v19, v20, _⟩ =>
    cond (decide (v6 < v5))
      ((idx v4 v6).bind fun x21 =>
      cond (v6 == 80)
        (j1 (()))
        ((remP (IntKind.wrap .u64 x21.txn) 4).bind fun z22 =>
        (remP (IntKind.wrap .u64 x21.kind) 6).bind fun z23 =>
        jn (law10_EscrowBounds_j3 n r2) fun j3 =>
        cond (z23 == 0)
          (j3 ((IntKind.wrap .i64 ((IntKind.wrap .i64 z22) + 1)), v4, v5, v6, z23, (z23 == 0), v7, v8, v9, v10, x21, v11, v12, v13, v14, v15, v16, v17, v18, v19, v20, ()))
          (jn (law10_EscrowBounds_j7 n j3) fun j7 =>
          cond (z23 == 1)
            (j7 ((IntKind.wrap .i64 ((IntKind.wrap .i64 z22) + 1)), v4, v5, v6, z23, (z23 == 1), v7, v8, v9, v10, x21, v11, v12, v13, v14, v15, v16, v17, v18, v19, v20, ()))
            (j7 ((IntKind.wrap .i64 ((IntKind.wrap .i64 z22) + 1)), v4, v5, v6, z23, (z23 == 2), v7, v8, v9, v10, x21, v11, v12, v13, v14, v15, v16, v17, v18, v19, v20, ())))))
      (j1 (()))
def law10_EscrowBounds (n : Nat) (p0 : Arr2_int64) (p1 : List law10_Deed) : Option Bool :=
  (law10_wakes n).bind fun y1 =>
  cond (!y1)
    (some false)
    ((remP (if 0 > p0.a0 then 0 else p0.a0) 1000).bind fun z2 =>
    (remP (if 0 > p0.a1 then 0 else p0.a1) 1000).bind fun z3 =>
    jn (law10_EscrowBounds_j1 n) fun j1 =>
    law10_EscrowBounds_l2 n j1 n (p1, (p1.length : Int), 0, ([] : List Pending), (IntKind.wrap .i64 (0 - z2)), z3, 0, ([] : List Int), ([] : List Int), ([] : List Int), ([] : List Int), ([] : List Int), ([] : List Int), ([] : List Int), ([] : List Int), ([] : List Int), ([] : List Int), ()))
@[reducible] def law10_EscrowBounds_ct : Ct tab := ⟨7, [.st 9, .one (.d (.sl (.st 10)))], [], [.one (.d .bool)], [], Bool, fun y => (y, ()), fun y => y.1, fun _ => rfl, fun n x => law10_EscrowBounds n x.1 x.2.1⟩
theorem law10_EscrowBounds_ok : OkC Try.prog tab law10_EscrowBounds_ct := fn_ok (W := ⟨Try.prog, tab, tyOf, [law10_wakes_ct, law10_book_holds_ct, law10_book_adds_ct, law10_book_back_ct, law10_book_over_ct], addO, dpO, false⟩) ⟨tabOk, ⟨law10_wakes_ok, law10_book_holds_ok, law10_book_adds_ok, law10_book_back_ok, law10_book_over_ok, trivial⟩, addOk⟩ (by kernel_rfl) 98 Try.f7 (.sq (.n) (.sq (.n) (.sq (.n) (.sq (.sq (.n) (.bk (some ⟨[], [], []⟩) (.lp ⟨[(5, .one (.box 0 0)), (24, .one (.d (.sl (.st 10)))), (25, .one (.d (.int .i64))), (26, .one (.d (.int .i64)))], [.box [.d (.sl (.st 2)), .d (.int .i64), .d (.int .i64), .d (.int .i64), .own 1, .own 2, .own 3, .own 4, .own 5, .own 6, .own 7, .own 8, .own 9, .own 10], .row 2 (.int .i64), .row 2 (.int .i64), .row 2 (.int .i64), .row 2 (.int .i64), .row 2 (.int .i64), .row 2 (.int .i64), .row 2 (.int .i64), .row 2 (.int .i64), .row 2 (.int .i64), .row 2 (.int .i64)], []⟩ (.sq (.n) (.sq (.n) (.sq (.bk none (.sq (.n) (.sq (.n) (.sq (.n) (.sq (.n) (.sq (.sq (.n) (.bk none (.sq (.sq (.n) (.cd (some ⟨[(5, .one (.box 0 0)), (7, .one (.box 1 0)), (8, .one (.d (.int .i64))), (24, .one (.d (.sl (.st 10)))), (25, .one (.d (.int .i64))), (26, .one (.d (.int .i64))), (42, .one (.d (.int .u64))), (46, .one (.d .bool))], [.box [.d (.sl (.st 2)), .d (.int .i64), .d (.int .i64), .d (.int .i64), .own 2, .own 3, .own 4, .own 5, .own 6, .own 7, .own 8, .own 9, .own 10, .own 11], .bst 10, .row 2 (.int .i64), .row 2 (.int .i64), .row 2 (.int .i64), .row 2 (.int .i64), .row 2 (.int .i64), .row 2 (.int .i64), .row 2 (.int .i64), .row 2 (.int .i64), .row 2 (.int .i64), .row 2 (.int .i64)], []⟩) (.n) (.sq (.n) (.cd (some ⟨[(5, .one (.box 0 0)), (7, .one (.box 1 0)), (8, .one (.d (.int .i64))), (24, .one (.d (.sl (.st 10)))), (25, .one (.d (.int .i64))), (26, .one (.d (.int .i64))), (42, .one (.d (.int .u64))), (46, .one (.d .bool))], [.box [.d (.sl (.st 2)), .d (.int .i64), .d (.int .i64), .d (.int .i64), .own 2, .own 3, .own 4, .own 5, .own 6, .own 7, .own 8, .own 9, .own 10, .own 11], .bst 10, .row 2 (.int .i64), .row 2 (.int .i64), .row 2 (.int .i64), .row 2 (.int .i64), .row 2 (.int .i64), .row 2 (.int .i64), .row 2 (.int .i64), .row 2 (.int .i64), .row 2 (.int .i64), .row 2 (.int .i64)], []⟩) (.n) (.n))))) (.cd (some ⟨[(5, .one (.box 0 0)), (9, .one (.d .bool)), (24, .one (.d (.sl (.st 10)))), (25, .one (.d (.int .i64))), (26, .one (.d (.int .i64)))], [.box [.d (.sl (.st 2)), .d (.int .i64), .d (.int .i64), .d (.int .i64), .own 1, .own 2, .own 3, .own 4, .own 5, .own 6, .own 7, .own 8, .own 9, .own 10], .row 2 (.int .i64), .row 2 (.int .i64), .row 2 (.int .i64), .row 2 (.int .i64), .row 2 (.int .i64), .row 2 (.int .i64), .row 2 (.int .i64), .row 2 (.int .i64), .row 2 (.int .i64), .row 2 (.int .i64)], []⟩) (.n) (.sq (.n) (.cd (some ⟨[(5, .one (.box 0 0)), (9, .one (.d .bool)), (24, .one (.d (.sl (.st 10)))), (25, .one (.d (.int .i64))), (26, .one (.d (.int .i64)))], [.box [.d (.sl (.st 2)), .d (.int .i64), .d (.int .i64), .d (.int .i64), .own 1, .own 2, .own 3, .own 4, .own 5, .own 6, .own 7, .own 8, .own 9, .own 10], .row 2 (.int .i64), .row 2 (.int .i64), .row 2 (.int .i64), .row 2 (.int .i64), .row 2 (.int .i64), .row 2 (.int .i64), .row 2 (.int .i64), .row 2 (.int .i64), .row 2 (.int .i64), .row 2 (.int .i64)], []⟩) (.n) (.sq (.n) (.cd (some ⟨[(5, .one (.box 0 0)), (9, .one (.d .bool)), (24, .one (.d (.sl (.st 10)))), (25, .one (.d (.int .i64))), (26, .one (.d (.int .i64)))], [.box [.d (.sl (.st 2)), .d (.int .i64), .d (.int .i64), .d (.int .i64), .own 1, .own 2, .own 3, .own 4, .own 5, .own 6, .own 7, .own 8, .own 9, .own 10], .row 2 (.int .i64), .row 2 (.int .i64), .row 2 (.int .i64), .row 2 (.int .i64), .row 2 (.int .i64), .row 2 (.int .i64), .row 2 (.int .i64), .row 2 (.int .i64), .row 2 (.int .i64), .row 2 (.int .i64)], []⟩) (.n) (.n))))))))) (.n))))))) (.n))))))) (.n))))) Try.func7 Try.call7 rfl (by kernel_rfl) (by kernel_rfl) (by kernel_rfl) fun n x => by kernel_rfl

/-! bursary bursarylaw10.EscrowTurns -/
/-! slices.Reverse   bursary api.Pending bursary api.Pending  -/
/-! slices.Reverse   bursary api.Share bursary api.Share  -/
/-! bursary bursarylaw10.EscrowAdmits -/
/-! bursary bursarylaw10.EscrowTells -/
end
end Go.Proofs.Ytfidbgcdjmhjnaa
