/- Functions of the program: plain twins and their contracts, printed by program. -/
import Derived.Test.YtegnflodgnfffaaTypes
import Derived.Test.YtegnflodgnfffaaF2
namespace Go.Proofs.Ytegnflodgnfffaa
open Go Go.Bur Go.RowKit
set_option linter.unusedVariables false
set_option linter.unusedSimpArgs false
set_option maxRecDepth 100000
noncomputable section
/-! bursary bursaryref27.Order -/
def ref27_Order_j2 (n : Nat) (r1 : Int × History × (List Int) × Unit → Option ((List Int))) : Int × History × (List Int) × Unit → Option ((List Int)) := fun ⟨v7, v8, v9, _⟩ =>
    r1 ((IntKind.wrap .i64 (v7 + 1)), v8, v9, ())
def ref27_Order_l1 (n : Nat) : Nat → Int × History × (List Int) × Unit → Option ((List Int)) := loopF fun r1 ⟨v1, v2, v3, _⟩ =>
    cond (decide (v1 < (v2.entries.length : Int)))
      ((idx v2.entries v1).bind fun x4 =>
      jn (fun (b5 : Bool) =>
          jn (ref27_Order_j2 n r1) fun j2 =>
          cond b5
            ((idx v2.entries v1).bind fun x10 =>
            (app 8 v3 ([x10.txn] : List Int)).bind fun l11 =>
            j2 (v1, v2, l11, ()))
            (j2 (v1, v2, v3, ()))) fun k6 =>
      cond (x4.request.kind == 11)
        ((idx v2.entries v1).bind fun x12 =>
        k6 (x12.answer.err == 0))
        (k6 false))
      (some v3)
def ref27_Order (n : Nat) (p0 : History) : Option ((List Int)) :=
  ref27_Order_l1 n n (0, p0, ([] : List Int), ())
@[reducible] def ref27_Order_ct : Ct tab := ⟨21, [.st 7], [], [.one (.own 0)], [(none, .row 3 (.int .i64))], ((List Int)), fun y => (y, ()), fun y => y.1, fun _ => rfl, fun n x => ref27_Order n x.1⟩
theorem ref27_Order_ok : OkC Try.prog tab ref27_Order_ct := fn_ok (W := ⟨Try.prog, tab, tyOf, []⟩) ⟨tabOk, trivial⟩ (by kernel_rfl) 40 Try.f21 (.sq (.n) (.sq (.n) (.sq (.sq (.n) (.bk none (.lp ⟨[(1, .one (.box 0 0)), (3, .one (.own 1)), (4, .one (.d (.int .i64)))], [.bst 7, .row 3 (.int .i64)], []⟩ (.sq (.n) (.sq (.bk none (.sq (.n) (.cd (some ⟨[(1, .one (.box 0 0)), (3, .one (.own 1)), (4, .one (.d (.int .i64)))], [.bst 7, .row 3 (.int .i64)], []⟩) (.n) (.n)))) (.n)))))) (.n)))) Try.func21 Try.call21 rfl (by kernel_rfl) (by kernel_rfl) (by kernel_rfl) fun n x => by kernel_rfl

/-! bursary bursaryref09.SameInts -/
def ref09_SameInts_l1 (n : Nat) : Nat → (List Int) × (List Int) × Int × Unit → Option Bool := loopF fun r1 ⟨v1, v2, v3, _⟩ =>
    cond (decide (v3 < (v1.length : Int)))
      ((idx v1 v3).bind fun x4 =>
      (idx v2 v3).bind fun x5 =>
      cond (x4 != x5)
        (some false)
        (r1 (v1, v2, (IntKind.wrap .i64 (v3 + 1)), ())))
      (some true)
def ref09_SameInts (n : Nat) (p0 : List Int) (p1 : List Int) : Option Bool :=
  cond ((p0.length : Int) != (p1.length : Int))
    (some false)
    (ref09_SameInts_l1 n n (p0, p1, 0, ()))
@[reducible] def ref09_SameInts_ct : Ct tab := ⟨20, [.one (.d (.sl (.int .i64))), .one (.d (.sl (.int .i64)))], [], [.one (.d .bool)], [], Bool, fun y => (y, ()), fun y => y.1, fun _ => rfl, fun n x => ref09_SameInts n x.1 x.2.1⟩
theorem ref09_SameInts_ok : OkC Try.prog tab ref09_SameInts_ct := fn_ok (W := ⟨Try.prog, tab, tyOf, []⟩) ⟨tabOk, trivial⟩ (by kernel_rfl) 26 Try.f20 (.sq (.n) (.sq (.n) (.sq (.sq (.n) (.bk none (.lp ⟨[(0, .one (.d (.sl (.int .i64)))), (1, .one (.d (.sl (.int .i64)))), (5, .one (.d (.int .i64)))], [], []⟩ (.n)))) (.n)))) Try.func20 Try.call20 rfl (by kernel_rfl) (by kernel_rfl) (by kernel_rfl) fun n x => by kernel_rfl

/-! bursary bursarylaw27.JudgeTells -/
def law27_JudgeTells_l1 (n : Nat) : Nat → Int × Int × (List Entry) × Int × Int × History × (List Int) × Unit → Option Bool := loopF fun r1 ⟨v11, v12, v13, v14, v15, v16, v17, _⟩ =>
    cond (decide (v15 < v14))
      ((idx v13 v15).bind fun x18 =>
      (judge_Passes n x18).bind fun y19 =>
      (ref27_Passes n x18).bind fun y20 =>
      cond (!(y19 == y20))
        (some false)
        (r1 (v11, v12, v13, v14, (IntKind.wrap .i64 (v15 + 1)), v16, v17, ())))
      ((ref27_Right n v16).bind fun y21 =>
      cond (!y21)
        (jn (fun (b22 : Bool) =>
            jn (fun (b24 : Bool) =>
                some b24) fun k25 =>
            cond b22
              (k25 (v12 == 370))
              (k25 false)) fun k23 =>
        cond (v11 == 370)
          (k23 ((v17.length : Int) == 0))
          (k23 false))
        (jn (fun (b26 : Bool) =>
            jn (fun (b28 : Bool) =>
                some b28) fun k29 =>
            cond b26
              ((ref27_Order n v16).bind fun y30 =>
              (ref09_SameInts n v17 y30).bind fun y31 =>
              k29 y31)
              (k29 false)) fun k27 =>
        cond (v11 == 0)
          (k27 (v12 == 0))
          (k27 false)))
def law27_JudgeTells (n : Nat) (p0 : History) (p1 : History) : Option Bool :=
  (law27_wakes n).bind fun y1 =>
  cond (!y1)
    (some false)
    ((law27_over n p0).bind fun y2 =>
    jn (fun (b3 : Bool) =>
        cond b3
          (some true)
          ((judge_Check n p0).bind fun y5 =>
          (judge_Order n p0).bind fun y6 =>
          (judge_Same n p0 p1).bind fun y7 =>
          (ref27_Same n p0 p1).bind fun y8 =>
          jn (fun (b9 : Bool) =>
              cond b9
                (some false)
                (law27_JudgeTells_l1 n n (y5, y6.1, p0.entries, (p0.entries.length : Int), 0, p0, y6.2, ()))) fun k10 =>
          cond (!(y7 == y8))
            (k10 true)
            ((judge_Same n p0 p0).bind fun y32 =>
            k10 (!y32)))) fun k4 =>
    cond y2
      (k4 true)
      ((law27_over n p1).bind fun y33 =>
      k4 y33))
@[reducible] def law27_JudgeTells_ct : Ct tab := ⟨6, [.st 7, .st 7], [], [.one (.d .bool)], [], Bool, fun y => (y, ()), fun y => y.1, fun _ => rfl, fun n x => law27_JudgeTells n x.1 x.2.1⟩
theorem law27_JudgeTells_ok : OkC Try.prog tab law27_JudgeTells_ct := fn_ok (W := ⟨Try.prog, tab, tyOf, [law27_wakes_ct, law27_over_ct, judge_Check_ct, judge_Order_ct, judge_Same_ct, ref27_Same_ct, judge_Passes_ct, ref27_Passes_ct, ref27_Right_ct, ref27_Order_ct, ref09_SameInts_ct]⟩) ⟨tabOk, ⟨law27_wakes_ok, law27_over_ok, judge_Check_ok, judge_Order_ok, judge_Same_ok, ref27_Same_ok, judge_Passes_ok, ref27_Passes_ok, ref27_Right_ok, ref27_Order_ok, ref09_SameInts_ok, trivial⟩⟩ (by kernel_rfl) 77 Try.f6 (.sq (.n) (.sq (.n) (.sq (.n) (.sq (.n) (.sq (.n) (.sq (.n) (.sq (.sq (.n) (.bk none (.lp ⟨[(2, .one (.box 0 0)), (5, .one (.d (.int .i64))), (6, .one (.own 1)), (7, .one (.d (.int .i64))), (39, .one (.d (.sl (.st 6)))), (40, .one (.d (.int .i64))), (41, .one (.d (.int .i64)))], [.bst 7, .row 3 (.int .i64)], []⟩ (.n)))) (.n)))))))) Try.func6 Try.call6 rfl (by kernel_rfl) (by kernel_rfl) (by kernel_rfl) fun n x => by kernel_rfl

/-! slices.Reverse   bursary api.Row bursary api.Row  -/
def slices_Reverse_Row_l1 (n : Nat) : Nat → Int × Int × (List Row) × Unit → Option ((List Row)) := loopF fun r1 ⟨v1, v2, v3, _⟩ =>
    cond (decide (v1 < v2))
      ((idx v3 v2).bind fun x4 =>
      (idx v3 v2).bind fun x5 =>
      (idx v3 v1).bind fun x6 =>
      (idx v3 v1).bind fun x7 =>
      (idx v3 v1).bind fun x8 =>
      (put v3 v1 x5).bind fun l9 =>
      (idx l9 v2).bind fun x10 =>
      (put l9 v2 x7).bind fun l11 =>
      r1 ((IntKind.wrap .i64 (v1 + 1)), (IntKind.wrap .i64 (v2 - 1)), l11, ()))
      (some v3)
def slices_Reverse_Row (n : Nat) (q0 : List Row) : Option ((List Row)) :=
  slices_Reverse_Row_l1 n n (0, (IntKind.wrap .i64 ((q0.length : Int) - 1)), q0, ())
@[reducible] def slices_Reverse_Row_ct : Ct tab := ⟨104, [.one (.own 0)], [.row 67 (.st 3)], [], [(some 0, .row 67 (.st 3))], ((List Row)), fun y => (y, ()), fun y => y.1, fun _ => rfl, fun n x => slices_Reverse_Row n x.1⟩
theorem slices_Reverse_Row_ok : OkC Try.prog tab slices_Reverse_Row_ct := fn_ok (W := ⟨Try.prog, tab, tyOf, []⟩) ⟨tabOk, trivial⟩ (by kernel_rfl) 28 Try.f104 (.sq (.n) (.bk none (.lp ⟨[(0, .one (.own 0)), (2, .one (.d (.int .i64))), (3, .one (.d (.int .i64)))], [.row 67 (.st 3)], [(0, 0)]⟩ (.n)))) Try.func104 Try.call104 rfl (by kernel_rfl) (by kernel_rfl) (by kernel_rfl) fun n x => by kernel_rfl

end
end Go.Proofs.Ytegnflodgnfffaa
