/- Functions of the program: plain twins and their contracts, printed by program. -/
import Derived.Test.YtkfemopgfjooeaaTypes
import Derived.Test.YtkfemopgfjooeaaF1
namespace Go.Proofs.Ytkfemopgfjooeaa
open Go Go.Bur Go.RowKit
set_option linter.unusedVariables false
set_option linter.unusedSimpArgs false
set_option maxRecDepth 100000
noncomputable section
noncomputable def slices_SortFunc_Edge_f51 (n : Nat) (q0 : List Edge) : Option (List Edge) := match Nat.ble q0.length 4611686018427387903 with | true => sortF (fun x y => waits_compare n x y) q0 | false => none
@[reducible] noncomputable def slices_SortFunc_Edge_f51_ct : Ct tab := srtfCt tab 50 51 45 (.st 0) (fun n x y => waits_compare n x y)
theorem slices_SortFunc_Edge_f51_ok : OkC Try.prog tab slices_SortFunc_Edge_f51_ct := srtfK_ok (i := 0) (f := (fun n x y => waits_compare n x y)) tabOk Try.sl50 rfl rfl Try.isAgg45 Try.sizeOf45 Try.call50 Try.call51
  (fun n x y c hc w Ps vx vy hst h1 h2 => Calls.mono (waits_compare_ok.2 n (x, y, ()) c hc [] w rho0 [] Ps [vx, vy] hst (fun j g h => by cases h) ⟨h1, h2, trivial⟩ trivial) fun e w' h => by
    obtain ⟨v1, ρ1, As1, Ps1, g1, g2, g3, _⟩ := h
    exact ⟨g1.trans (congrArg Ending.returned (show v1 = .int .i64 c from g2.1)), g3⟩)

/-! slices.Compact   bursary api.Edge bursary api.Edge  -/
def slices_Compact_Edge_j3 (n : Nat) (r2 : Int × Int × Int × (List Edge) × Unit → Option ((List Edge))) : Int × Int × Int × (List Edge) × Unit → Option ((List Edge)) := fun ⟨v23, v24, v25, v26, _⟩ =>
    r2 (v23, v24, (IntKind.wrap .i64 (v25 + 1)), v26, ())
def slices_Compact_Edge_l2 (n : Nat) : Nat → Int × Int × Int × (List Edge) × Unit → Option ((List Edge)) := loopF fun r2 ⟨v8, v9, v10, v11, _⟩ =>
    cond (decide (v10 < ((v11.length - v9.toNat : Nat) : Int)))
      ((vwI v9 v10).bind fun i12 =>
      (idx v11 i12).bind fun x13 =>
      (idx v11 i12).bind fun x14 =>
      (vwI v9 (IntKind.wrap .i64 (v10 - 1))).bind fun i15 =>
      (idx v11 i15).bind fun x16 =>
      (idx v11 i15).bind fun x17 =>
      jn (slices_Compact_Edge_j3 n r2) fun j3 =>
      cond (!(Edge.eqb x14 x17))
        ((vwI v9 v10).bind fun i27 =>
        (idx v11 i27).bind fun x28 =>
        (idx v11 i27).bind fun x29 =>
        (idx v11 v8).bind fun x30 =>
        (put v11 v8 x29).bind fun l31 =>
        j3 ((IntKind.wrap .i64 (v8 + 1)), v9, v10, l31, ()))
        (j3 (v8, v9, v10, v11, ())))
      ((sub v11 v8 (v11.length : Int)).bind fun l32 =>
      (sub (v11.take v8.toNat ++ List.replicate (v11.length - v8.toNat) (Edge.mk 0 0)) 0 v8).bind fun l33 =>
      some l33)
def slices_Compact_Edge_l1 (n : Nat) : Nat → Int × (List Edge) × Unit → Option ((List Edge)) := loopF fun r1 ⟨v1, v2, _⟩ =>
    cond (decide (v1 < (v2.length : Int)))
      ((idx v2 v1).bind fun x3 =>
      (idx v2 v1).bind fun x4 =>
      (idx v2 (IntKind.wrap .i64 (v1 - 1))).bind fun x5 =>
      (idx v2 (IntKind.wrap .i64 (v1 - 1))).bind fun x6 =>
      cond (Edge.eqb x4 x6)
        ((sub v2 v1 (v2.length : Int)).bind fun l7 =>
        slices_Compact_Edge_l2 n n (v1, v1, 1, v2, ()))
        (r1 ((IntKind.wrap .i64 (v1 + 1)), v2, ())))
      (some v2)
def slices_Compact_Edge (n : Nat) (q0 : List Edge) : Option ((List Edge)) :=
  cond (decide ((q0.length : Int) < 2))
    (some q0)
    (slices_Compact_Edge_l1 n n (1, q0, ()))
@[reducible] def slices_Compact_Edge_ct : Ct tab := ⟨52, [.one (.own 0)], [.row 45 (.st 0)], [.one (.d (.sl (.st 0)))], [], ((List Edge)), fun y => (y, ()), fun y => y.1, fun _ => rfl, fun n x => slices_Compact_Edge n x.1⟩
theorem slices_Compact_Edge_ok : OkC Try.prog tab slices_Compact_Edge_ct := fn_ok (W := ⟨Try.prog, tab, tyOf, [], addO, dpO, true⟩) ⟨tabOk, trivial, addOk⟩ (by kernel_rfl) 61 Try.f52 (.sq (.n) (.sq (.n) (.sq (.sq (.n) (.bk none (.lp ⟨[(0, .one (.own 0)), (3, .one (.d (.int .i64)))], [.row 45 (.st 0)], []⟩ (.sq (.n) (.sq (.bk none (.sq (.n) (.cd none (.sq (.n) (.sq (.sq (.n) (.bk none (.lp ⟨[(0, .one (.own 0)), (3, .one (.d (.int .i64))), (4, .one (.vw 0 2)), (5, .one (.d (.int .i64)))], [.row 45 (.st 0)], []⟩ (.sq (.n) (.sq (.bk none (.sq (.n) (.cd (some ⟨[(0, .one (.own 0)), (3, .one (.d (.int .i64))), (4, .one (.vw 0 2)), (5, .one (.d (.int .i64)))], [.row 45 (.st 0)], []⟩) (.n) (.n)))) (.n)))))) (.n))) (.n)))) (.n)))))) (.n)))) Try.func52 Try.call52 rfl (by kernel_rfl) (by kernel_rfl) (by kernel_rfl) fun n x => by kernel_rfl

/-! bursary waits.Add -/
def waits_Add (n : Nat) (p0 : List Edge) (p1 : List Edge) : Option ((List Edge) × Int) :=
  (waits_right n p0).bind fun y1 =>
  cond (!y1)
    (some (([] : List Edge), 190))
    ((slices_Concat_Edge n ([p0, p1] : List (List Edge))).bind fun y2 =>
    (slices_SortFunc_Edge_f51 n y2).bind fun y3 =>
    (slices_Compact_Edge n y3).bind fun y4 =>
    (waits_right n y4).bind fun y5 =>
    cond (!y5)
      (some (([] : List Edge), 2))
      (some (y4, 0)))
@[reducible] def waits_Add_ct : Ct tab := ⟨28, [.one (.d (.sl (.st 0))), .one (.d (.sl (.st 0)))], [], [.one (.d (.sl (.st 0))), .one (.d (.int .i64))], [], ((List Edge) × Int), fun y => (y.1, y.2, ()), fun y => (y.1, y.2.1), fun _ => rfl, fun n x => waits_Add n x.1 x.2.1⟩
theorem waits_Add_ok : OkC Try.prog tab waits_Add_ct := fn_ok (W := ⟨Try.prog, tab, tyOf, [waits_right_ct, slices_Concat_Edge_ct, slices_SortFunc_Edge_f51_ct, slices_Compact_Edge_ct], addO, dpO, false⟩) ⟨tabOk, ⟨waits_right_ok, slices_Concat_Edge_ok, slices_SortFunc_Edge_f51_ok, slices_Compact_Edge_ok, trivial⟩, addOk⟩ (by kernel_rfl) 22 Try.f28 (.n) Try.func28 Try.call28 rfl (by kernel_rfl) (by kernel_rfl) (by kernel_rfl) fun n x => by kernel_rfl

/-! bursary bursaryref09.Add -/
/-! bursary bursarylaw09.WaitsChanges -/
/-! bursary bursarylaw09.WaitsThrough -/
def law09_WaitsThrough_l2 (n : Nat) : Nat → (List Edge) × Int × (List Int) × Int × Int × (List Edge) × Unit → Option Bool := loopF fun r2 ⟨v19, v20, v21, v22, v23, v24, _⟩ =>
    cond (decide (v23 < v22))
      ((idx v21 v23).bind fun x25 =>
      (app 16 v24 ([(Edge.mk x25 v20)] : List Edge)).bind fun l26 =>
      r2 (v19, v20, v21, v22, (IntKind.wrap .i64 (v23 + 1)), l26, ()))
      ((waits_Add n v19 v24).bind fun y27 =>
      cond (y27.2 != 0)
        (some ((y27.1.length : Int) == 0))
        ((waits_Without n y27.1 v20).bind fun y28 =>
        jn (fun (b29 : Bool) =>
            cond b29
              (some false)
              ((waits_Break n y27.1 v20).bind fun y31 =>
              jn (fun (b32 : Bool) =>
                  jn (fun (b34 : Bool) =>
                      some b34) fun k35 =>
                  cond b32
                    ((waits_Circles n y27.1).bind fun y36 =>
                    k35 ((decide ((y31.2.1.length : Int) > 0)) == y36))
                    (k35 false)) fun k33 =>
              cond (y31.1 == 0)
                ((waits_Circles n y31.2.2).bind fun y37 =>
                k33 (!y37))
                (k33 false))) fun k30 =>
        cond (y28.1 != 0)
          (k30 true)
          ((waits_Circles n y28.2).bind fun y38 =>
          k30 y38)))
def law09_WaitsThrough_l1 (n : Nat) : Nat → (List Edge) × Int × (List Int) × (List Int) × Int × Int × (List Edge) × Unit → Option Bool := loopF fun r1 ⟨v10, v11, v12, v13, v14, v15, v16, _⟩ =>
    cond (decide (v15 < v14))
      ((idx v13 v15).bind fun x17 =>
      (app 16 v16 ([(Edge.mk v11 x17)] : List Edge)).bind fun l18 =>
      r1 (v10, v11, v12, v13, v14, (IntKind.wrap .i64 (v15 + 1)), l18, ()))
      (law09_WaitsThrough_l2 n n (v10, v11, v12, (v12.length : Int), 0, v16, ()))
def law09_WaitsThrough (n : Nat) (p0 : List Edge) (p1 : Int) (p2 : Arr2_int) : Option Bool :=
  (law09_wakes n).bind fun y1 =>
  cond (!y1)
    (some false)
    (jn (fun (b2 : Bool) =>
        jn (fun (b4 : Bool) =>
            jn (fun (b6 : Bool) =>
                jn (fun (b8 : Bool) =>
                    cond b8
                      (some true)
                      (law09_WaitsThrough_l1 n n (p0, p1, p2.a1, p2.a0, (p2.a0.length : Int), 0, ([] : List Edge), ()))) fun k9 =>
                cond b6
                  (k9 true)
                  ((waits_Circles n p0).bind fun y39 =>
                  k9 y39)) fun k7 =>
            cond b4
              (k7 true)
              ((waits_Check n p0).bind fun y40 =>
              k7 (y40 != 0))) fun k5 =>
        cond b2
          (k5 true)
          (k5 (decide ((p2.a1.length : Int) > 20)))) fun k3 =>
    cond (decide ((p0.length : Int) > 80))
      (k3 true)
      (k3 (decide ((p2.a0.length : Int) > 20))))
@[reducible] def law09_WaitsThrough_ct : Ct tab := ⟨9, [.one (.d (.sl (.st 0))), .one (.d (.int .i64)), .st 1], [], [.one (.d .bool)], [], Bool, fun y => (y, ()), fun y => y.1, fun _ => rfl, fun n x => law09_WaitsThrough n x.1 x.2.1 x.2.2.1⟩
theorem law09_WaitsThrough_ok : OkC Try.prog tab law09_WaitsThrough_ct := fn_ok (W := ⟨Try.prog, tab, tyOf, [law09_wakes_ct, waits_Add_ct, waits_Without_ct, waits_Break_ct, waits_Circles_ct, waits_Check_ct], addO, dpO, false⟩) ⟨tabOk, ⟨law09_wakes_ok, waits_Add_ok, waits_Without_ok, waits_Break_ok, waits_Circles_ok, waits_Check_ok, trivial⟩, addOk⟩ (by kernel_rfl) 118 Try.f9 (.sq (.n) (.sq (.n) (.sq (.n) (.sq (.n) (.sq (.n) (.sq (.sq (.n) (.bk none (.lp ⟨[(0, .one (.d (.sl (.st 0)))), (1, .one (.d (.int .i64))), (8, .one (.d (.sl (.int .i64)))), (9, .one (.own 0)), (47, .one (.d (.sl (.int .i64)))), (48, .one (.d (.int .i64))), (49, .one (.d (.int .i64)))], [.row 45 (.st 0)], []⟩ (.n)))) (.sq (.sq (.n) (.bk none (.lp ⟨[(0, .one (.d (.sl (.st 0)))), (1, .one (.d (.int .i64))), (9, .one (.own 0)), (60, .one (.d (.sl (.int .i64)))), (61, .one (.d (.int .i64))), (62, .one (.d (.int .i64)))], [.row 45 (.st 0)], []⟩ (.n)))) (.n)))))))) Try.func9 Try.call9 rfl (by kernel_rfl) (by kernel_rfl) (by kernel_rfl) fun n x => by kernel_rfl

/-! cmp.Less int  -/
/-! slices.insertionSortOrdered int  -/
/-! slices.siftDownOrdered int  -/
/-! slices.heapSortOrdered int  -/
/-!   slices.xorshift .Next -/
/-! slices.order2Ordered int  -/
/-! slices.medianOrdered int  -/
/-! slices.medianAdjacentOrdered int  -/
/-! slices.choosePivotOrdered int  -/
/-! slices.reverseRangeOrdered int  -/
/-! slices.partialInsertionSortOrdered int  -/
/-! slices.partitionEqualOrdered int  -/
/-! slices.partitionOrdered int  -/
end
end Go.Proofs.Ytkfemopgfjooeaa
