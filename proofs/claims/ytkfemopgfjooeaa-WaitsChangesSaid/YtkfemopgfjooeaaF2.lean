/- Functions of the program: plain twins and their contracts, printed by program. -/
import Derived.Test.YtkfemopgfjooeaaTypes
import Derived.Test.YtkfemopgfjooeaaF1
namespace Go.Proofs.Ytkfemopgfjooeaa
open Go Go.Bur Go.RowKit
set_option linter.unusedVariables false
set_option linter.unusedSimpArgs false
set_option maxRecDepth 100000
noncomputable section
noncomputable def slices_SortFunc_Edge_f51 (n : Nat) (q0 : List Edge) : Option (List Edge) := match Nat.ble q0.length 4611686018427387903 with | true => sortF (fun x y => waits_compare n x y) q0 | false => none
@[reducible] noncomputable def slices_SortFunc_Edge_f51_ct : Ct tab := srtfCt tab 50 51 45 (.st 0) (fun n x y => waits_compare n x y)
theorem slices_SortFunc_Edge_f51_ok : OkC Try.prog tab slices_SortFunc_Edge_f51_ct := srtfK_ok (i := 0) (f := (fun n x y => waits_compare n x y)) tabOk Try.sl50 rfl rfl Try.isAgg45 Try.sizeOf45 Try.call50 Try.call51
  (fun n x y c hc w Ps vx vy hst h1 h2 => Calls.mono (waits_compare_ok.2 n (x, y, ()) c hc [] w rho0 [] Ps [vx, vy] hst (fun j g h => by cases h) ⟨h1, h2, trivial⟩ trivial) fun e w' h => by
    obtain ⟨v1, ρ1, As1, Ps1, g1, g2, g3, _⟩ := h
    exact ⟨g1.trans (congrArg Ending.returned (show v1 = .int .i64 c from g2.1)), g3⟩)

/-! slices.Compact   bursary api.Edge bursary api.Edge  -/
def slices_Compact_Edge_j3 (n : Nat) (r2 : Int × Int × Int × (List Edge) × Unit → Option ((List Edge))) : Int × Int × Int × (List Edge) × Unit → Option ((List Edge)) := fun ⟨v23, v24, v25, v26, _⟩ =>
    r2 (v23, v24, (IntKind.wrap .i64 (v25 + 1)), v26, ())
def slices_Compact_Edge_l2 (n : Nat) : Nat → Int × Int × Int × (List Edge) × Unit → Option ((List Edge)) := loopF fun r2 ⟨v8, v9, v10, v11, _⟩ =>
    cond (decide (v10 < ((v11.length - v9.toNat : Nat) : Int)))
      ((vwI v9 v10).bind fun i12 =>
      (idx v11 i12).bind fun x13 =>
      (idx v11 i12).bind fun x14 =>
      (vwI v9 (IntKind.wrap .i64 (v10 - 1))).bind fun i15 =>
      (idx v11 i15).bind fun x16 =>
      (idx v11 i15).bind fun x17 =>
      jn (slices_Compact_Edge_j3 n r2) fun j3 =>
      cond (!(Edge.eqb x14 x17))
        ((vwI v9 v10).bind fun i27 =>
        (idx v11 i27).bind fun x28 =>
        (idx v11 i27).bind fun x29 =>
        (idx v11 v8).bind fun x30 =>
        (put v11 v8 x29).bind fun l31 =>
        j3 ((IntKind.wrap .i64 (v8 + 1)), v9, v10, l31, ()))
        (j3 (v8, v9, v10, v11, ())))
      ((sub v11 v8 (v11.length : Int)).bind fun l32 =>
      (sub (v11.take v8.toNat ++ List.replicate (v11.length - v8.toNat) (Edge.mk 0 0)) 0 v8).bind fun l33 =>
      some l33)
def slices_Compact_Edge_l1 (n : Nat) : Nat → Int × (List Edge) × Unit → Option ((List Edge)) := loopF fun r1 ⟨v1, v2, _⟩ =>
    cond (decide (v1 < (v2.length : Int)))
      ((idx v2 v1).bind fun x3 =>
      (idx v2 v1).bind fun x4 =>
      (idx v2 (IntKind.wrap .i64 (v1 - 1))).bind fun x5 =>
      (idx v2 (IntKind.wrap .i64 (v1 - 1))).bind fun x6 =>
      cond (Edge.eqb x4 x6)
        ((sub v2 v1 (v2.length : Int)).bind fun l7 =>
        slices_Compact_Edge_l2 n n (v1, v1, 1, v2, ()))
        (r1 ((IntKind.wrap .i64 (v1 + 1)), v2, ())))
      (some v2)
def slices_Compact_Edge (n : Nat) (q0 : List Edge) : Option ((List Edge)) :=
  cond (decide ((q0.length : Int) < 2))
    (some q0)
    (slices_Compact_Edge_l1 n n (1, q0, ()))
@[reducible] def slices_Compact_Edge_ct : Ct tab := ⟨52, [.one (.own 0)], [.row 45 (.st 0)], [.one (.d (.sl (.st 0)))], [], ((List Edge)), fun y => (y, ()), fun y => y.1, fun _ => rfl, fun n x => slices_Compact_Edge n x.1⟩
theorem slices_Compact_Edge_ok : OkC Try.prog tab slices_Compact_Edge_ct := fn_ok (W := ⟨Try.prog, tab, tyOf, [], addO, dpO, true⟩) ⟨tabOk, trivial, addOk⟩ (by kernel_rfl) 61 Try.f52 (.sq (.n) (.sq (.n) (.sq (.sq (.n) (.bk none (.lp ⟨[(0, .one (.own 0)), (3, .one (.d (.int .i64)))], [.row 45 (.st 0)], []⟩ (.sq (.n) (.sq (.bk none (.sq (.n) (.cd none (.sq (.n) (.sq (.sq (.n) (.bk none (.lp ⟨[(0, .one (.own 0)), (3, .one (.d (.int .i64))), (4, .one (.vw 0 2)), (5, .one (.d (.int .i64)))], [.row 45 (.st 0)], []⟩ (.sq (.n) (.sq (.bk none (.sq (.n) (.cd (some ⟨[(0, .one (.own 0)), (3, .one (.d (.int .i64))), (4, .one (.vw 0 2)), (5, .one (.d (.int .i64)))], [.row 45 (.st 0)], []⟩) (.n) (.n)))) (.n)))))) (.n))) (.n)))) (.n)))))) (.n)))) Try.func52 Try.call52 rfl (by kernel_rfl) (by kernel_rfl) (by kernel_rfl) fun n x => by kernel_rfl

/-! bursary waits.Add -/
def waits_Add (n : Nat) (p0 : List Edge) (p1 : List Edge) : Option ((List Edge) × Int) :=
  (waits_right n p0).bind fun y1 =>
  cond (!y1)
    (some (([] : List Edge), 190))
    ((slices_Concat_Edge n ([p0, p1] : List (List Edge))).bind fun y2 =>
    (slices_SortFunc_Edge_f51 n y2).bind fun y3 =>
    (slices_Compact_Edge n y3).bind fun y4 =>
    (waits_right n y4).bind fun y5 =>
    cond (!y5)
      (some (([] : List Edge), 2))
      (some (y4, 0)))
@[reducible] def waits_Add_ct : Ct tab := ⟨28, [.one (.d (.sl (.st 0))), .one (.d (.sl (.st 0)))], [], [.one (.d (.sl (.st 0))), .one (.d (.int .i64))], [], ((List Edge) × Int), fun y => (y.1, y.2, ()), fun y => (y.1, y.2.1), fun _ => rfl, fun n x => waits_Add n x.1 x.2.1⟩
theorem waits_Add_ok : OkC Try.prog tab waits_Add_ct := fn_ok (W := ⟨Try.prog, tab, tyOf, [waits_right_ct, slices_Concat_Edge_ct, slices_SortFunc_Edge_f51_ct, slices_Compact_Edge_ct], addO, dpO, false⟩) ⟨tabOk, ⟨waits_right_ok, slices_Concat_Edge_ok, slices_SortFunc_Edge_f51_ok, slices_Compact_Edge_ok, trivial⟩, addOk⟩ (by kernel_rfl) 22 Try.f28 (.n) Try.func28 Try.call28 rfl (by kernel_rfl) (by kernel_rfl) (by kernel_rfl) fun n x => by kernel_rfl

/-! bursary bursaryref09.Add -/
def ref09_Add_j4 (n : Nat) (r2 : (List Edge) × (List Edge) × Int × Bool × Int × (List Edge) × Unit → Option ((List Edge))) : (List Edge) × (List Edge) × Int × Bool × Int × (List Edge) × Unit → Option ((List Edge)) := fun ⟨v22, v23, v24, v25, v26, v27, _⟩ =>
    (idx v23 v26).bind fun x28 =>
    (app 16 v27 ([x28] : List Edge)).bind fun l29 =>
    r2 (v22, v23, v24, v25, (IntKind.wrap .i64 (v26 + 1)), l29, ())
def ref09_Add_j3 (n : Nat) (r2 : (List Edge) × (List Edge) × Int × Bool × Int × (List Edge) × Unit → Option ((List Edge))) : (List Edge) × (List Edge) × Int × Bool × Int × (List Edge) × Unit → Option ((List Edge)) := fun ⟨v12, v13, v14, v15, v16, v17, _⟩ =>
    jn (fun (b18 : Bool) =>
        jn (ref09_Add_j4 n r2) fun j4 =>
        cond b18
          ((idx v12 v14).bind fun x30 =>
          (app 16 v17 ([x30] : List Edge)).bind fun l31 =>
          j4 (v12, v13, v14, true, v16, l31, ()))
          (j4 (v12, v13, v14, v15, v16, v17, ()))) fun k19 =>
    cond (!v15)
      ((idx v12 v14).bind fun x32 =>
      (idx v13 v16).bind fun x33 =>
      (ref09_before n x32 x33).bind fun y34 =>
      k19 y34)
      (k19 false)
def ref09_Add_j5 (n : Nat) (r1 : (List Edge) × (List Edge) × Int × Unit → Option ((List Edge))) : (List Edge) × Int × (List Edge) × Unit → Option ((List Edge)) := fun ⟨v37, v38, v39, _⟩ =>
    r1 (v37, v39, (IntKind.wrap .i64 (v38 + 1)), ())
def ref09_Add_l2 (n : Nat) (r1 : (List Edge) × (List Edge) × Int × Unit → Option ((List Edge))) : Nat → (List Edge) × (List Edge) × Int × Bool × Int × (List Edge) × Unit → Option ((List Edge)) := loopF fun r2 ⟨v4, v5, v6, v7, v8, v9, _⟩ =>
    cond (decide (v8 < (v5.length : Int)))
      ((idx v5 v8).bind fun x10 =>
      (idx v4 v6).bind fun x11 =>
      jn (ref09_Add_j3 n r2) fun j3 =>
      cond (Edge.eqb x10 x11)
        (j3 (v4, v5, v6, true, v8, v9, ()))
        (j3 (v4, v5, v6, v7, v8, v9, ())))
      (jn (ref09_Add_j5 n r1) fun j5 =>
      cond (!v7)
        ((idx v4 v6).bind fun x40 =>
        (app 16 v9 ([x40] : List Edge)).bind fun l41 =>
        j5 (v4, v6, l41, ()))
        (j5 (v4, v6, v9, ())))
def ref09_Add_l1 (n : Nat) : Nat → (List Edge) × (List Edge) × Int × Unit → Option ((List Edge)) := loopF fun r1 ⟨v1, v2, v3, _⟩ =>
    cond (decide (v3 < (v1.length : Int)))
      (ref09_Add_l2 n r1 n (v1, v2, v3, false, 0, ([] : List Edge), ()))
      (some v2)
def ref09_Add (n : Nat) (p0 : List Edge) (p1 : List Edge) : Option ((List Edge)) :=
  ref09_Add_l1 n n (p1, p0, 0, ())
@[reducible] def ref09_Add_ct : Ct tab := ⟨30, [.one (.d (.sl (.st 0))), .one (.d (.sl (.st 0)))], [], [.one (.d (.sl (.st 0)))], [], ((List Edge)), fun y => (y, ()), fun y => y.1, fun _ => rfl, fun n x => ref09_Add n x.1 x.2.1⟩
theorem ref09_Add_ok : OkC Try.prog tab ref09_Add_ct := fn_ok (W := ⟨Try.prog, tab, tyOf, [ref09_before_ct], addO, dpO, false⟩) ⟨tabOk, ⟨ref09_before_ok, trivial⟩, addOk⟩ (by kernel_rfl) 70 Try.f30 (.sq (.n) (.sq (.n) (.sq (.sq (.n) (.bk none (.lp ⟨[(1, .one (.d (.sl (.st 0)))), (5, .one (.d (.sl (.st 0)))), (6, .one (.d (.int .i64)))], [], []⟩ (.sq (.n) (.sq (.bk none (.sq (.n) (.sq (.n) (.sq (.sq (.n) (.bk none (.lp ⟨[(1, .one (.d (.sl (.st 0)))), (5, .one (.d (.sl (.st 0)))), (6, .one (.d (.int .i64))), (7, .one (.own 0)), (8, .one (.d .bool)), (9, .one (.d (.int .i64)))], [.row 45 (.st 0)], []⟩ (.sq (.n) (.sq (.bk none (.sq (.sq (.n) (.cd (some ⟨[(1, .one (.d (.sl (.st 0)))), (5, .one (.d (.sl (.st 0)))), (6, .one (.d (.int .i64))), (7, .one (.own 0)), (8, .one (.d .bool)), (9, .one (.d (.int .i64)))], [.row 45 (.st 0)], []⟩) (.n) (.n))) (.sq (.sq (.n) (.cd (some ⟨[(1, .one (.d (.sl (.st 0)))), (5, .one (.d (.sl (.st 0)))), (6, .one (.d (.int .i64))), (7, .one (.own 0)), (8, .one (.d .bool)), (9, .one (.d (.int .i64)))], [.row 45 (.st 0)], []⟩) (.n) (.n))) (.n)))) (.n)))))) (.sq (.sq (.n) (.cd (some ⟨[(1, .one (.d (.sl (.st 0)))), (6, .one (.d (.int .i64))), (7, .one (.own 0))], [.row 45 (.st 0)], []⟩) (.n) (.n))) (.n)))))) (.n)))))) (.n)))) Try.func30 Try.call30 rfl (by kernel_rfl) (by kernel_rfl) (by kernel_rfl) fun n x => by kernel_rfl

/-! bursary bursarylaw09.WaitsChanges -/
def law09_WaitsChanges (n : Nat) (p0 : List Edge) (p1 : List Edge) (p2 : Int) : Option Bool :=
  (law09_wakes n).bind fun y1 =>
  cond (!y1)
    (some false)
    (jn (fun (b2 : Bool) =>
        cond b2
          (some true)
          ((waits_Add n p0 p1).bind fun y4 =>
          (waits_Without n p0 p2).bind fun y5 =>
          (ref09_Right n p0).bind fun y6 =>
          cond (!y6)
            (jn (fun (b7 : Bool) =>
                jn (fun (b9 : Bool) =>
                    jn (fun (b11 : Bool) =>
                        some b11) fun k12 =>
                    cond b9
                      (k12 (y5.1 == 190))
                      (k12 false)) fun k10 =>
                cond b7
                  (k10 ((y5.2.length : Int) == 0))
                  (k10 false)) fun k8 =>
            cond ((y4.1.length : Int) == 0)
              (k8 (y4.2 == 190))
              (k8 false))
            (jn (fun (b13 : Bool) =>
                cond b13
                  (some false)
                  ((ref09_Add n p0 p1).bind fun y15 =>
                  (ref09_Right n y15).bind fun y16 =>
                  cond (!y16)
                    (jn (fun (b17 : Bool) =>
                        some b17) fun k18 =>
                    cond ((y4.1.length : Int) == 0)
                      (k18 (y4.2 == 2))
                      (k18 false))
                    (jn (fun (b19 : Bool) =>
                        some b19) fun k20 =>
                    cond (y4.2 == 0)
                      ((ref09_Same n y4.1 y15).bind fun y21 =>
                      k20 y21)
                      (k20 false)))) fun k14 =>
            cond (y5.1 != 0)
              (k14 true)
              ((ref09_Without n p0 p2).bind fun y22 =>
              (ref09_Same n y5.2 y22).bind fun y23 =>
              k14 (!y23))))) fun k3 =>
    cond (decide ((p0.length : Int) > 80))
      (k3 true)
      (k3 (decide ((p1.length : Int) > 80))))
@[reducible] def law09_WaitsChanges_ct : Ct tab := ⟨8, [.one (.d (.sl (.st 0))), .one (.d (.sl (.st 0))), .one (.d (.int .i64))], [], [.one (.d .bool)], [], Bool, fun y => (y, ()), fun y => y.1, fun _ => rfl, fun n x => law09_WaitsChanges n x.1 x.2.1 x.2.2.1⟩
theorem law09_WaitsChanges_ok : OkC Try.prog tab law09_WaitsChanges_ct := fn_ok (W := ⟨Try.prog, tab, tyOf, [law09_wakes_ct, waits_Add_ct, waits_Without_ct, ref09_Right_ct, ref09_Add_ct, ref09_Same_ct, ref09_Without_ct], addO, dpO, false⟩) ⟨tabOk, ⟨law09_wakes_ok, waits_Add_ok, waits_Without_ok, ref09_Right_ok, ref09_Add_ok, ref09_Same_ok, ref09_Without_ok, trivial⟩, addOk⟩ (by kernel_rfl) 83 Try.f8 (.n) Try.func8 Try.call8 rfl (by kernel_rfl) (by kernel_rfl) (by kernel_rfl) fun n x => by kernel_rfl

/-! bursary bursarylaw09.WaitsThrough -/
/-! cmp.Less int  -/
/-! slices.insertionSortOrdered int  -/
/-! slices.siftDownOrdered int  -/
/-! slices.heapSortOrdered int  -/
/-!   slices.xorshift .Next -/
/-! slices.order2Ordered int  -/
/-! slices.medianOrdered int  -/
/-! slices.medianAdjacentOrdered int  -/
/-! slices.choosePivotOrdered int  -/
/-! slices.reverseRangeOrdered int  -/
/-! slices.partialInsertionSortOrdered int  -/
/-! slices.partitionEqualOrdered int  -/
/-! slices.partitionOrdered int  -/
end
end Go.Proofs.Ytkfemopgfjooeaa
