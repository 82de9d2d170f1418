/- Functions of the program: plain twins and their contracts, printed by program. -/
import Derived.Test.YtndehfninoimgaaGreatTypes
import Derived.Test.YtndehfninoimgaaGreatF4
namespace Go.Proofs.YtndehfninoimgaaGreat
open Go Go.Bur Go.RowKit
set_option linter.unusedVariables false
set_option linter.unusedSimpArgs false
set_option maxRecDepth 100000
noncomputable section
/-! bursary locks.own 1 -/
def locks_own_1_fyd1_l1 (n : Nat) : Nat → Int × (List Queue) × Int × Int × (HL tabT [.st 5] → HL tabT [.sl (.st 5)] → Option (Nat × HL tabT [.sl (.st 5)])) × Nat × (HL tabT [.sl (.st 5)]) × Unit → Option ((HL tabT [.st 5] → HL tabT [.sl (.st 5)] → Option (Nat × HL tabT [.sl (.st 5)])) × Nat × (HL tabT [.sl (.st 5)])) := loopF fun r1 ⟨v1, v2, v3, v4, v5, v6, v7, _⟩ =>
    cond (decide (v4 < v3))
      ((idx v2 v4).bind fun x8 =>
      (locks_held n x8 v1).bind fun y9 =>
      cond (y9 != 0)
        ((callY v5 v6 ((Lock.mk x8.res y9), ()) v7).bind fun y10 =>
        cond (!(Nat.beq y10.1 0))
          (some (v5, y10.1, y10.2))
          (r1 (v1, v2, v3, (IntKind.wrap .i64 (v4 + 1)), v5, y10.1, y10.2, ())))
        (cond false
          (some (v5, v6, v7))
          (r1 (v1, v2, v3, (IntKind.wrap .i64 (v4 + 1)), v5, v6, v7, ()))))
      (some (v5, v6, v7))
def locks_own_1_fyd1 (n : Nat) (p1 : Locks) (p2 : Int) (q0_0 : HL tabT [.st 5] → HL tabT [.sl (.st 5)] → Option (Nat × HL tabT [.sl (.st 5)])) (q0_1 : Nat) (q0_2 : HL tabT [.sl (.st 5)]) : Option ((HL tabT [.st 5] → HL tabT [.sl (.st 5)] → Option (Nat × HL tabT [.sl (.st 5)])) × Nat × (HL tabT [.sl (.st 5)])) :=
  locks_own_1_fyd1_l1 n n (p2, p1.queues, (p1.queues.length : Int), 0, q0_0, q0_1, q0_2, ())
@[reducible] def locks_own_1_fyd1_ct : Ct tab := ⟨85, [.one (.yd 0), .one (.ro (.st 4)), .one (.ro (.int .i64))], [.opq [.st 5] [.sl (.st 5)]], [], [(some 0, .opq [.st 5] [.sl (.st 5)])], ((HL tabT [.st 5] → HL tabT [.sl (.st 5)] → Option (Nat × HL tabT [.sl (.st 5)])) × Nat × (HL tabT [.sl (.st 5)])), fun y => (y.1, y.2.1, y.2.2, ()), fun y => (y.1, y.2.1, y.2.2.1), fun _ => rfl, fun n x => locks_own_1_fyd1 n x.1 x.2.1 x.2.2.1 x.2.2.2.1 x.2.2.2.2.1⟩
theorem locks_own_1_fyd1_ok : OkC Tryz.prog tab locks_own_1_fyd1_ct := fn_ok (W := ⟨Tryz.prog, tab, tyOf, [locks_held_ct], addO, dpO, false⟩) ⟨tabOk, ⟨locks_held_ok, trivial⟩, addOk⟩ (by kernel_rfl) 29 Tryz.f85 (.sq (.n) (.bk none (.lp ⟨[(0, .one (.yd 0)), (2, .one (.ro (.int .i64))), (8, .one (.d (.sl (.st 3)))), (9, .one (.d (.int .i64))), (10, .one (.d (.int .i64)))], [.opq [.st 5] [.sl (.st 5)]], [(0, 0)]⟩ (.sq (.n) (.sq (.n) (.sq (.bk none (.sq (.n) (.sq (.n) (.sq (.rg [1000000]) (.n))))) (.n))))))) Tryz.func85 Tryz.call85 rfl (by kernel_rfl) (by kernel_rfl) (by kernel_rfl) fun n x => by kernel_rfl

/-! bursary locks.Holds -/
def locks_Holds (n : Nat) (p0 : Locks) (p1 : Int) : Option ((List Lock)) :=
  (locks_Check n p0).bind fun y1 =>
  cond (y1 != 0)
    (some ([] : List Lock))
    ((locks_own n p0 p1).bind fun y2 =>
    (locks_own_1_fyd1 n y2.1 y2.2 (fun y3 z4 =>
        (app 24 z4.1 ([y3.1] : List Lock)).bind fun l5 =>
        some (0, (l5, ()))) 0 (([] : List Lock), ())).bind fun y6 =>
    sel y6.2.1 [
      some y6.2.2.1,
      some ([] : List Lock),
      some y6.2.2.1])
@[reducible] def locks_Holds_ct : Ct tab := ⟨22, [.st 4, .one (.d (.int .i64))], [], [.one (.own 0)], [(none, .row 65 (.st 5))], ((List Lock)), fun y => (y, ()), fun y => y.1, fun _ => rfl, fun n x => locks_Holds n x.1 x.2.1⟩
theorem locks_Holds_ok : OkC Tryz.prog tab locks_Holds_ct := fn_ok (W := ⟨Tryz.prog, tab, tyOf, [locks_Check_ct, locks_own_ct, locks_own_1_fyd1_ct], addO, dpO, false⟩) ⟨tabOk, ⟨locks_Check_ok, locks_own_ok, locks_own_1_fyd1_ok, trivial⟩, addOk⟩ (by kernel_rfl) 19 Tryz.f22 (.sq (.n) (.sq (.n) (.sq (.n) (.sq (.sq (.n) (.bk none (.rf [(5, .one (.box 0 0))] [(4, .one (.own 2)), (12, .one (.fn 85 [.ro (.st 4), .ro (.int .i64)]))] [.box [.own 1], .row 65 (.st 5)] [.row 65 (.st 5)] [] 12 (.fn 85 [.ro (.st 4), .ro (.int .i64)]) [.st 5] (.n) (.n)))) (.n))))) Tryz.func22 Tryz.call22 rfl (by kernel_rfl) (by kernel_rfl) (by kernel_rfl) fun n x => by kernel_rfl

/-! bursary bursaryref08.Holds -/
def ref08_Holds_j2 (n : Nat) (r1 : Int × (List Queue) × Int × Int × (List Lock) × Unit → Option ((List Lock))) : Int × (List Queue) × Int × Int × (List Lock) × Unit → Option ((List Lock)) := fun ⟨v9, v10, v11, v12, v13, _⟩ =>
    r1 (v9, v10, v11, (IntKind.wrap .i64 (v12 + 1)), v13, ())
def ref08_Holds_l1 (n : Nat) : Nat → Int × (List Queue) × Int × Int × (List Lock) × Unit → Option ((List Lock)) := loopF fun r1 ⟨v1, v2, v3, v4, v5, _⟩ =>
    cond (decide (v4 < v3))
      ((idx v2 v4).bind fun x6 =>
      (ref08_held n x6 v1).bind fun y7 =>
      jn (ref08_Holds_j2 n r1) fun j2 =>
      cond (y7 != 0)
        ((app 24 v5 ([(Lock.mk x6.res y7)] : List Lock)).bind fun l14 =>
        j2 (v1, v2, v3, v4, l14, ()))
        (j2 (v1, v2, v3, v4, v5, ())))
      (some v5)
def ref08_Holds (n : Nat) (p0 : Locks) (p1 : Int) : Option ((List Lock)) :=
  ref08_Holds_l1 n n (p1, p0.queues, (p0.queues.length : Int), 0, ([] : List Lock), ())
@[reducible] def ref08_Holds_ct : Ct tab := ⟨25, [.st 4, .one (.d (.int .i64))], [], [.one (.own 0)], [(none, .row 65 (.st 5))], ((List Lock)), fun y => (y, ()), fun y => y.1, fun _ => rfl, fun n x => ref08_Holds n x.1 x.2.1⟩
theorem ref08_Holds_ok : OkC Tryz.prog tab ref08_Holds_ct := fn_ok (W := ⟨Tryz.prog, tab, tyOf, [ref08_held_ct], addO, dpO, false⟩) ⟨tabOk, ⟨ref08_held_ok, trivial⟩, addOk⟩ (by kernel_rfl) 30 Tryz.f25 (.sq (.n) (.sq (.n) (.sq (.sq (.n) (.bk none (.lp ⟨[(1, .one (.d (.int .i64))), (5, .one (.own 0)), (10, .one (.d (.sl (.st 3)))), (11, .one (.d (.int .i64))), (12, .one (.d (.int .i64)))], [.row 65 (.st 5)], []⟩ (.sq (.n) (.sq (.n) (.sq (.bk none (.sq (.n) (.sq (.n) (.sq (.n) (.cd (some ⟨[(1, .one (.d (.int .i64))), (5, .one (.own 0)), (10, .one (.d (.sl (.st 3)))), (11, .one (.d (.int .i64))), (12, .one (.d (.int .i64)))], [.row 65 (.st 5)], []⟩) (.n) (.n)))))) (.n))))))) (.n)))) Tryz.func25 Tryz.call25 rfl (by kernel_rfl) (by kernel_rfl) (by kernel_rfl) fun n x => by kernel_rfl

/-! bursary bursaryref08.Blockers -/
def ref08_Blockers_j3 (n : Nat) (r2 : Int × (List Queue) × Int × Int × (List Wait) × Int × Int × (List (Int × Bool)) × Queue × Unit → Option ((List Int))) : Int × (List Queue) × Int × Int × (List Wait) × Int × Int × (List (Int × Bool)) × Queue × Unit → Option ((List Int)) := fun ⟨v66, v67, v68, v69, v70, v71, v72, v73, v74, _⟩ =>
    r2 (v66, v67, v68, v69, v70, v71, (IntKind.wrap .i64 (v72 + 1)), v73, v74, ())
def ref08_Blockers_j5 (n : Nat) (r4 : Int × Int × (List Queue) × Int × Int × (List Wait) × Int × Int × (List Hold) × Int × Int × (List (Int × Bool)) × Queue × Wait × Unit → Option ((List Int))) : Int × Int × (List Queue) × Int × Int × (List Wait) × Int × Int × (List Hold) × Int × Int × (List (Int × Bool)) × Queue × Wait × Unit → Option ((List Int)) := fun ⟨v94, v95, v96, v97, v98, v99, v100, v101, v102, v103, v104, v105, v106, v107, _⟩ =>
    r4 (v94, v95, v96, v97, v98, v99, v100, v101, v102, v103, (IntKind.wrap .i64 (v104 + 1)), v105, v106, v107, ())
def ref08_Blockers_l6 (n : Nat) (j3 : Int × (List Queue) × Int × Int × (List Wait) × Int × Int × (List (Int × Bool)) × Queue × Unit → Option ((List Int))) : Nat → Int × (List Queue) × Int × Int × (List Wait) × Int × Int × (List Wait) × Int × Int × (List (Int × Bool)) × Queue × Unit → Option ((List Int)) := loopF fun r6 ⟨v111, v112, v113, v114, v115, v116, v117, v118, v119, v120, v121, v122, _⟩ =>
    cond (decide (v120 < v119))
      ((idx v118 v120).bind fun x123 =>
      (mput .i64 v121 x123.txn true).bind fun l124 =>
      r6 (v111, v112, v113, v114, v115, v116, v117, v118, v119, (IntKind.wrap .i64 (v120 + 1)), l124, v122, ()))
      (j3 (v111, v112, v113, v114, v115, v116, v117, v121, v122, ()))
def ref08_Blockers_l4 (n : Nat) (j3 : Int × (List Queue) × Int × Int × (List Wait) × Int × Int × (List (Int × Bool)) × Queue × Unit → Option ((List Int))) : Nat → Int × Int × (List Queue) × Int × Int × (List Wait) × Int × Int × (List Hold) × Int × Int × (List (Int × Bool)) × Queue × Wait × Unit → Option ((List Int)) := loopF fun r4 ⟨v76, v77, v78, v79, v80, v81, v82, v83, v84, v85, v86, v87, v88, v89, _⟩ =>
    cond (decide (v86 < v85))
      ((idx v84 v86).bind fun x90 =>
      jn (fun (b91 : Bool) =>
          jn (ref08_Blockers_j5 n r4) fun j5 =>
          cond b91
            ((mput .i64 v87 x90.txn true).bind fun l108 =>
            j5 (v76, v77, v78, v79, v80, v81, v82, v83, v84, v85, v86, l108, v88, v89, ()))
            (j5 (v76, v77, v78, v79, v80, v81, v82, v83, v84, v85, v86, v87, v88, v89, ()))) fun k92 =>
      cond (x90.txn != v76)
        ((ref07_Goes n x90.mode v89.mode).bind fun y109 =>
        k92 (!y109))
        (k92 false))
      ((sub v88.waiters 0 v77).bind fun l110 =>
      ref08_Blockers_l6 n j3 n (v76, v78, v79, v80, v81, v82, v83, l110, (l110.length : Int), 0, v87, v88, ()))
def ref08_Blockers_l2 (n : Nat) (r1 : Int × (List Queue) × Int × Int × (List (Int × Bool)) × Unit → Option ((List Int))) : Nat → Int × (List Queue) × Int × Int × (List Wait) × Int × Int × (List (Int × Bool)) × Queue × Unit → Option ((List Int)) := loopF fun r2 ⟨v7, v8, v9, v10, v11, v12, v13, v14, v15, _⟩ =>
    cond (decide (v13 < v12))
      (jn (ref08_Blockers_j3 n r2) fun j3 =>
      (idx v11 v13).bind fun x75 =>
      cond (x75.txn != v7)
        (j3 (v7, v8, v9, v10, v11, v12, v13, v14, v15, ()))
        (ref08_Blockers_l4 n j3 n (v7, v13, v8, v9, v10, v11, v12, v13, v15.holders, (v15.holders.length : Int), 0, v14, v15, x75, ())))
      (r1 (v7, v8, v9, (IntKind.wrap .i64 (v10 + 1)), v14, ()))
def ref08_Blockers_j9 (n : Nat) (r8 : Int × (List Int) × (List (Int × Bool)) × (List Int) × Unit → Option ((List Int))) : Int × (List Int) × (List (Int × Bool)) × (List Int) × Unit → Option ((List Int)) := fun ⟨v137, v138, v139, v140, _⟩ =>
    r8 (v137, v138, v139, v140, ())
def ref08_Blockers_l8 (n : Nat) (r7 : (List (Int × Bool)) × (List Int) × Unit → Option ((List Int))) : Nat → Int × (List Int) × (List (Int × Bool)) × (List Int) × Unit → Option ((List Int)) := loopF fun r8 ⟨v127, v128, v129, v130, _⟩ =>
    pickK v130
      ((mdel .i64 v129 v127).bind fun l133 =>
      (app 8 v128 ([v127] : List Int)).bind fun l134 =>
      r7 (l133, l134, ()))
      (fun x131 l132 =>
      jn (fun (b135 : Bool) =>
          jn (ref08_Blockers_j9 n r8) fun j9 =>
          cond b135
            (j9 (x131, v128, v129, l132, ()))
            (j9 (v127, v128, v129, l132, ()))) fun k136 =>
      cond (v127 == 0)
        (k136 true)
        (k136 (decide (x131 < v127))))
def ref08_Blockers_l7 (n : Nat) : Nat → (List (Int × Bool)) × (List Int) × Unit → Option ((List Int)) := loopF fun r7 ⟨v125, v126, _⟩ =>
    cond (decide (((mkeys v125).length : Int) > 0))
      (ref08_Blockers_l8 n r7 n (0, v126, v125, (mkeys v125), ()))
      (some v126)
def ref08_Blockers_l1 (n : Nat) : Nat → Int × (List Queue) × Int × Int × (List (Int × Bool)) × Unit → Option ((List Int)) := loopF fun r1 ⟨v1, v2, v3, v4, v5, _⟩ =>
    cond (decide (v4 < v3))
      ((idx v2 v4).bind fun x6 =>
      ref08_Blockers_l2 n r1 n (v1, v2, v3, v4, x6.waiters, (x6.waiters.length : Int), 0, v5, x6, ()))
      (ref08_Blockers_l7 n n (v5, ([] : List Int), ()))
def ref08_Blockers (n : Nat) (p0 : Locks) (p1 : Int) : Option ((List Int)) :=
  ref08_Blockers_l1 n n (p1, p0.queues, (p0.queues.length : Int), 0, ([] : List (Int × Bool)), ())
@[reducible] def ref08_Blockers_ct : Ct tab := ⟨26, [.st 4, .one (.d (.int .i64))], [], [.one (.own 0)], [(none, .row 3 (.int .i64))], ((List Int)), fun y => (y, ()), fun y => y.1, fun _ => rfl, fun n x => ref08_Blockers n x.1 x.2.1⟩
theorem ref08_Blockers_ok : OkC Tryz.prog tab ref08_Blockers_ct := fn_ok (W := ⟨Tryz.prog, tab, tyOf, [ref07_Goes_ct], addO, dpO, false⟩) ⟨tabOk, ⟨ref07_Goes_ok, trivial⟩, addOk⟩ (by kernel_rfl) 99 Tryz.f26 (.sq (.n) (.sq (.n) (.sq (.sq (.n) (.bk none (.lp ⟨[(1, .one (.d (.int .i64))), (5, .one (.map 0)), (19, .one (.d (.sl (.st 3)))), (20, .one (.d (.int .i64))), (21, .one (.d (.int .i64)))], [.map .i64 3 4 .bool], []⟩ (.sq (.n) (.sq (.n) (.sq (.bk none (.sq (.n) (.sq (.n) (.bk none (.lp ⟨[(1, .one (.d (.int .i64))), (5, .one (.map 0)), (7, .one (.box 1 0)), (19, .one (.d (.sl (.st 3)))), (20, .one (.d (.int .i64))), (21, .one (.d (.int .i64))), (26, .one (.d (.sl (.st 2)))), (27, .one (.d (.int .i64))), (28, .one (.d (.int .i64)))], [.map .i64 3 4 .bool, .bst 3], []⟩ (.sq (.n) (.sq (.n) (.sq (.bk (some ⟨[(1, .one (.d (.int .i64))), (5, .one (.map 0)), (7, .one (.box 1 0)), (19, .one (.d (.sl (.st 3)))), (20, .one (.d (.int .i64))), (21, .one (.d (.int .i64))), (26, .one (.d (.sl (.st 2)))), (27, .one (.d (.int .i64))), (28, .one (.d (.int .i64)))], [.map .i64 3 4 .bool, .bst 3], []⟩) (.sq (.n) (.sq (.n) (.sq (.sq (.n) (.bk none (.lp ⟨[(1, .one (.d (.int .i64))), (5, .one (.map 0)), (7, .one (.box 1 0)), (8, .one (.d (.int .i64))), (9, .one (.box 2 0)), (19, .one (.d (.sl (.st 3)))), (20, .one (.d (.int .i64))), (21, .one (.d (.int .i64))), (26, .one (.d (.sl (.st 2)))), (27, .one (.d (.int .i64))), (28, .one (.d (.int .i64))), (38, .one (.d (.sl (.st 1)))), (39, .one (.d (.int .i64))), (40, .one (.d (.int .i64)))], [.map .i64 3 4 .bool, .bst 3, .bst 2], []⟩ (.sq (.n) (.sq (.n) (.sq (.bk none (.sq (.n) (.sq (.n) (.cd (some ⟨[(1, .one (.d (.int .i64))), (5, .one (.map 0)), (7, .one (.box 1 0)), (8, .one (.d (.int .i64))), (9, .one (.box 2 0)), (19, .one (.d (.sl (.st 3)))), (20, .one (.d (.int .i64))), (21, .one (.d (.int .i64))), (26, .one (.d (.sl (.st 2)))), (27, .one (.d (.int .i64))), (28, .one (.d (.int .i64))), (38, .one (.d (.sl (.st 1)))), (39, .one (.d (.int .i64))), (40, .one (.d (.int .i64)))], [.map .i64 3 4 .bool, .bst 3, .bst 2], []⟩) (.n) (.n))))) (.n))))))) (.sq (.n) (.bk none (.lp ⟨[(1, .one (.d (.int .i64))), (5, .one (.map 0)), (7, .one (.box 1 0)), (19, .one (.d (.sl (.st 3)))), (20, .one (.d (.int .i64))), (21, .one (.d (.int .i64))), (26, .one (.d (.sl (.st 2)))), (27, .one (.d (.int .i64))), (28, .one (.d (.int .i64))), (63, .one (.d (.sl (.st 2)))), (64, .one (.d (.int .i64))), (65, .one (.d (.int .i64)))], [.map .i64 3 4 .bool, .bst 3], []⟩ (.n)))))))) (.n))))))))) (.n))))))) (.sq (.n) (.sq (.bk none (.lp ⟨[(5, .one (.map 0)), (14, .one (.own 1))], [.map .i64 3 4 .bool, .row 3 (.int .i64)], []⟩ (.sq (.n) (.bk none (.sq (.n) (.sq (.sq (.n) (.bk none (.lp ⟨[(5, .one (.map 0)), (14, .one (.own 1)), (15, .one (.d (.int .i64))), (79, .one (.box 2 0))], [.gst, .row 3 (.int .i64), .mit 0 .i64 3 4 .bool], []⟩ (.sq (.n) (.sq (.n) (.bk none (.sq (.n) (.sq (.n) (.cd (some ⟨[(5, .one (.map 0)), (14, .one (.own 1)), (15, .one (.d (.int .i64))), (79, .one (.box 2 0))], [.gst, .row 3 (.int .i64), .mit 0 .i64 3 4 .bool], []⟩) (.n) (.n)))))))))) (.n))))))) (.n)))))) Tryz.func26 Tryz.call26 rfl (by kernel_rfl) (by kernel_rfl) (by kernel_rfl) fun n x => by kernel_rfl

/-! bursary bursaryref08.Mode -/
def ref08_Mode_l1 (n : Nat) : Nat → Int × (List Queue) × Int × Int × Res × Unit → Option Int := loopF fun r1 ⟨v1, v2, v3, v4, v5, _⟩ =>
    cond (decide (v4 < v3))
      ((idx v2 v4).bind fun x6 =>
      cond (Res.eqb x6.res v5)
        ((ref08_held n x6 v1).bind fun y7 =>
        some y7)
        (r1 (v1, v2, v3, (IntKind.wrap .i64 (v4 + 1)), v5, ())))
      (some 0)
def ref08_Mode (n : Nat) (p0 : Locks) (p1 : Int) (p2 : Res) : Option Int :=
  ref08_Mode_l1 n n (p1, p0.queues, (p0.queues.length : Int), 0, p2, ())
@[reducible] def ref08_Mode_ct : Ct tab := ⟨27, [.st 4, .one (.d (.int .i64)), .st 0], [], [.one (.d (.int .i64))], [], Int, fun y => (y, ()), fun y => y.1, fun _ => rfl, fun n x => ref08_Mode n x.1 x.2.1 x.2.2.1⟩
theorem ref08_Mode_ok : OkC Tryz.prog tab ref08_Mode_ct := fn_ok (W := ⟨Tryz.prog, tab, tyOf, [ref08_held_ct], addO, dpO, false⟩) ⟨tabOk, ⟨ref08_held_ok, trivial⟩, addOk⟩ (by kernel_rfl) 24 Tryz.f27 (.sq (.n) (.sq (.sq (.n) (.bk none (.lp ⟨[(1, .one (.d (.int .i64))), (5, .one (.box 0 0)), (10, .one (.d (.sl (.st 3)))), (11, .one (.d (.int .i64))), (12, .one (.d (.int .i64)))], [.bst 0], []⟩ (.n)))) (.n))) Tryz.func27 Tryz.call27 rfl (by kernel_rfl) (by kernel_rfl) (by kernel_rfl) fun n x => by kernel_rfl

/-! bursary bursaryref08.SameInts -/
def ref08_SameInts_l1 (n : Nat) : Nat → (List Int) × (List Int) × Int × Int × Unit → Option Bool := loopF fun r1 ⟨v1, v2, v3, v4, _⟩ =>
    cond (decide (v4 < v3))
      ((idx v1 v4).bind fun x5 =>
      (idx v2 v4).bind fun x6 =>
      cond (x5 != x6)
        (some false)
        (r1 (v1, v2, v3, (IntKind.wrap .i64 (v4 + 1)), ())))
      (some true)
def ref08_SameInts (n : Nat) (p0 : List Int) (p1 : List Int) : Option Bool :=
  cond ((p0.length : Int) != (p1.length : Int))
    (some false)
    (ref08_SameInts_l1 n n (p0, p1, (p0.length : Int), 0, ()))
@[reducible] def ref08_SameInts_ct : Ct tab := ⟨13, [.one (.d (.sl (.int .i64))), .one (.d (.sl (.int .i64)))], [], [.one (.d .bool)], [], Bool, fun y => (y, ()), fun y => y.1, fun _ => rfl, fun n x => ref08_SameInts n x.1 x.2.1⟩
theorem ref08_SameInts_ok : OkC Tryz.prog tab ref08_SameInts_ct := fn_ok (W := ⟨Tryz.prog, tab, tyOf, [], addO, dpO, false⟩) ⟨tabOk, trivial, addOk⟩ (by kernel_rfl) 26 Tryz.f13 (.sq (.n) (.sq (.n) (.sq (.sq (.n) (.bk none (.lp ⟨[(0, .one (.d (.sl (.int .i64)))), (1, .one (.d (.sl (.int .i64)))), (12, .one (.d (.int .i64))), (13, .one (.d (.int .i64)))], [], []⟩ (.n)))) (.n)))) Tryz.func13 Tryz.call13 rfl (by kernel_rfl) (by kernel_rfl) (by kernel_rfl) fun n x => by kernel_rfl

/-! slices.Equal   bursary api.Wait bursary api.Wait  -/
def slices_Equal_Wait_l1 (n : Nat) : Nat → (List Wait) × (List Wait) × Int × Int × Unit → Option Bool := loopF fun r1 ⟨v1, v2, v3, v4, _⟩ =>
    cond (decide (v4 < v3))
      ((idx v1 v4).bind fun x5 =>
      (idx v2 v4).bind fun x6 =>
      cond (!(Wait.eqb x5 x6))
        (some false)
        (r1 (v1, v2, v3, (IntKind.wrap .i64 (v4 + 1)), ())))
      (some true)
def slices_Equal_Wait (n : Nat) (p0 : List Wait) (p1 : List Wait) : Option Bool :=
  cond ((p0.length : Int) != (p1.length : Int))
    (some false)
    (slices_Equal_Wait_l1 n n (p0, p1, (p0.length : Int), 0, ()))
@[reducible] def slices_Equal_Wait_ct : Ct tab := ⟨50, [.one (.d (.sl (.st 2))), .one (.d (.sl (.st 2)))], [], [.one (.d .bool)], [], Bool, fun y => (y, ()), fun y => y.1, fun _ => rfl, fun n x => slices_Equal_Wait n x.1 x.2.1⟩
theorem slices_Equal_Wait_ok : OkC Tryz.prog tab slices_Equal_Wait_ct := fn_ok (W := ⟨Tryz.prog, tab, tyOf, [], addO, dpO, false⟩) ⟨tabOk, trivial, addOk⟩ (by kernel_rfl) 26 Tryz.f50 (.sq (.n) (.sq (.n) (.sq (.sq (.n) (.bk none (.lp ⟨[(0, .one (.d (.sl (.st 2)))), (1, .one (.d (.sl (.st 2)))), (12, .one (.d (.int .i64))), (13, .one (.d (.int .i64)))], [], []⟩ (.n)))) (.n)))) Tryz.func50 Tryz.call50 rfl (by kernel_rfl) (by kernel_rfl) (by kernel_rfl) fun n x => by kernel_rfl

/-! slices.Equal   bursary api.Hold bursary api.Hold  -/
def slices_Equal_Hold_l1 (n : Nat) : Nat → (List Hold) × (List Hold) × Int × Int × Unit → Option Bool := loopF fun r1 ⟨v1, v2, v3, v4, _⟩ =>
    cond (decide (v4 < v3))
      ((idx v1 v4).bind fun x5 =>
      (idx v2 v4).bind fun x6 =>
      cond (!(Hold.eqb x5 x6))
        (some false)
        (r1 (v1, v2, v3, (IntKind.wrap .i64 (v4 + 1)), ())))
      (some true)
def slices_Equal_Hold (n : Nat) (p0 : List Hold) (p1 : List Hold) : Option Bool :=
  cond ((p0.length : Int) != (p1.length : Int))
    (some false)
    (slices_Equal_Hold_l1 n n (p0, p1, (p0.length : Int), 0, ()))
@[reducible] def slices_Equal_Hold_ct : Ct tab := ⟨49, [.one (.d (.sl (.st 1))), .one (.d (.sl (.st 1)))], [], [.one (.d .bool)], [], Bool, fun y => (y, ()), fun y => y.1, fun _ => rfl, fun n x => slices_Equal_Hold n x.1 x.2.1⟩
theorem slices_Equal_Hold_ok : OkC Tryz.prog tab slices_Equal_Hold_ct := fn_ok (W := ⟨Tryz.prog, tab, tyOf, [], addO, dpO, false⟩) ⟨tabOk, trivial, addOk⟩ (by kernel_rfl) 26 Tryz.f49 (.sq (.n) (.sq (.n) (.sq (.sq (.n) (.bk none (.lp ⟨[(0, .one (.d (.sl (.st 1)))), (1, .one (.d (.sl (.st 1)))), (12, .one (.d (.int .i64))), (13, .one (.d (.int .i64)))], [], []⟩ (.n)))) (.n)))) Tryz.func49 Tryz.call49 rfl (by kernel_rfl) (by kernel_rfl) (by kernel_rfl) fun n x => by kernel_rfl

/-! bursary locks.Same 1 -/
def locks_Same_1 (n : Nat) (p0 : Queue) (p1 : Queue) : Option Bool :=
  jn (fun (b1 : Bool) =>
      jn (fun (b3 : Bool) =>
          some b3) fun k4 =>
      cond b1
        ((slices_Equal_Wait n p0.waiters p1.waiters).bind fun y5 =>
        k4 y5)
        (k4 false)) fun k2 =>
  cond (Res.eqb p0.res p1.res)
    ((slices_Equal_Hold n p0.holders p1.holders).bind fun y6 =>
    k2 y6)
    (k2 false)
@[reducible] def locks_Same_1_ct : Ct tab := ⟨48, [.st 3, .st 3], [], [.one (.d .bool)], [], Bool, fun y => (y, ()), fun y => y.1, fun _ => rfl, fun n x => locks_Same_1 n x.1 x.2.1⟩
theorem locks_Same_1_ok : OkC Tryz.prog tab locks_Same_1_ct := fn_ok (W := ⟨Tryz.prog, tab, tyOf, [slices_Equal_Wait_ct, slices_Equal_Hold_ct], addO, dpO, false⟩) ⟨tabOk, ⟨slices_Equal_Wait_ok, slices_Equal_Hold_ok, trivial⟩, addOk⟩ (by kernel_rfl) 24 Tryz.f48 (.n) Tryz.func48 Tryz.call48 rfl (by kernel_rfl) (by kernel_rfl) (by kernel_rfl) fun n x => by kernel_rfl

/-! slices.EqualFunc   bursary api.Queue   bursary api.Queue bursary api.Queue bursary api.Queue  -/
def slices_EqualFunc_Queue_f48_l1 (n : Nat) : Nat → (List Queue) × (List Queue) × Int × Int × Unit → Option Bool := loopF fun r1 ⟨v1, v2, v3, v4, _⟩ =>
    cond (decide (v4 < v3))
      ((idx v2 v4).bind fun x5 =>
      (idx v1 v4).bind fun x6 =>
      (locks_Same_1 n x5 x6).bind fun y7 =>
      cond (!y7)
        (some false)
        (r1 (v1, v2, v3, (IntKind.wrap .i64 (v4 + 1)), ())))
      (some true)
def slices_EqualFunc_Queue_f48 (n : Nat) (p0 : List Queue) (p1 : List Queue) : Option Bool :=
  cond ((p0.length : Int) != (p1.length : Int))
    (some false)
    (slices_EqualFunc_Queue_f48_l1 n n (p1, p0, (p0.length : Int), 0, ()))
@[reducible] def slices_EqualFunc_Queue_f48_ct : Ct tab := ⟨47, [.one (.d (.sl (.st 3))), .one (.d (.sl (.st 3))), .one (.fn 48 [])], [], [.one (.d .bool)], [], Bool, fun y => (y, ()), fun y => y.1, fun _ => rfl, fun n x => slices_EqualFunc_Queue_f48 n x.1 x.2.1⟩
theorem slices_EqualFunc_Queue_f48_ok : OkC Tryz.prog tab slices_EqualFunc_Queue_f48_ct := fn_ok (W := ⟨Tryz.prog, tab, tyOf, [locks_Same_1_ct], addO, dpO, false⟩) ⟨tabOk, ⟨locks_Same_1_ok, trivial⟩, addOk⟩ (by kernel_rfl) 32 Tryz.f47 (.sq (.n) (.sq (.n) (.sq (.sq (.n) (.bk none (.lp ⟨[(1, .one (.d (.sl (.st 3)))), (2, .one (.fn 48 [])), (15, .one (.d (.sl (.st 3)))), (16, .one (.d (.int .i64))), (17, .one (.d (.int .i64)))], [], []⟩ (.n)))) (.n)))) Tryz.func47 Tryz.call47 rfl (by kernel_rfl) (by kernel_rfl) (by kernel_rfl) fun n x => by kernel_rfl

/-! bursary locks.Same -/
def locks_Same (n : Nat) (p0 : Locks) (p1 : Locks) : Option Bool :=
  (slices_EqualFunc_Queue_f48 n p0.queues p1.queues).bind fun y1 =>
  some y1
@[reducible] def locks_Same_ct : Ct tab := ⟨21, [.st 4, .st 4], [], [.one (.d .bool)], [], Bool, fun y => (y, ()), fun y => y.1, fun _ => rfl, fun n x => locks_Same n x.1 x.2.1⟩
theorem locks_Same_ok : OkC Tryz.prog tab locks_Same_ct := fn_ok (W := ⟨Tryz.prog, tab, tyOf, [slices_EqualFunc_Queue_f48_ct], addO, dpO, false⟩) ⟨tabOk, ⟨slices_EqualFunc_Queue_f48_ok, trivial⟩, addOk⟩ (by kernel_rfl) 10 Tryz.f21 (.n) Tryz.func21 Tryz.call21 rfl (by kernel_rfl) (by kernel_rfl) (by kernel_rfl) fun n x => by kernel_rfl

/-! bursary bursaryref08.Same -/
def ref08_Same_l3 (n : Nat) (r1 : (List Queue) × Int × Int × Locks × Unit → Option Bool) : Nat → (List Queue) × Int × Int × Int × Int × Locks × Queue × Queue × Unit → Option Bool := loopF fun r3 ⟨v21, v22, v23, v24, v25, v26, v27, v28, _⟩ =>
    cond (decide (v25 < v24))
      ((idx v27.waiters v25).bind fun x29 =>
      (idx v28.waiters v25).bind fun x30 =>
      cond (!(Wait.eqb x29 x30))
        (some false)
        (r3 (v21, v22, v23, v24, (IntKind.wrap .i64 (v25 + 1)), v26, v27, v28, ())))
      (r1 (v21, v22, (IntKind.wrap .i64 (v23 + 1)), v26, ()))
def ref08_Same_l2 (n : Nat) (r1 : (List Queue) × Int × Int × Locks × Unit → Option Bool) : Nat → (List Queue) × Int × Int × Int × Int × Locks × Queue × Queue × Unit → Option Bool := loopF fun r2 ⟨v11, v12, v13, v14, v15, v16, v17, v18, _⟩ =>
    cond (decide (v15 < v14))
      ((idx v17.holders v15).bind fun x19 =>
      (idx v18.holders v15).bind fun x20 =>
      cond (!(Hold.eqb x19 x20))
        (some false)
        (r2 (v11, v12, v13, v14, (IntKind.wrap .i64 (v15 + 1)), v16, v17, v18, ())))
      (ref08_Same_l3 n r1 n (v11, v12, v13, (v17.waiters.length : Int), 0, v16, v17, v18, ()))
def ref08_Same_l1 (n : Nat) : Nat → (List Queue) × Int × Int × Locks × Unit → Option Bool := loopF fun r1 ⟨v1, v2, v3, v4, _⟩ =>
    cond (decide (v3 < v2))
      ((idx v1 v3).bind fun x5 =>
      (idx v4.queues v3).bind fun x6 =>
      jn (fun (b7 : Bool) =>
          jn (fun (b9 : Bool) =>
              cond b9
                (some false)
                (ref08_Same_l2 n r1 n (v1, v2, v3, (x5.holders.length : Int), 0, v4, x5, x6, ()))) fun k10 =>
          cond b7
            (k10 true)
            (k10 ((x5.waiters.length : Int) != (x6.waiters.length : Int)))) fun k8 =>
      cond (!(Res.eqb x5.res x6.res))
        (k8 true)
        (k8 ((x5.holders.length : Int) != (x6.holders.length : Int))))
      (some true)
def ref08_Same (n : Nat) (p0 : Locks) (p1 : Locks) : Option Bool :=
  cond ((p0.queues.length : Int) != (p1.queues.length : Int))
    (some false)
    (ref08_Same_l1 n n (p0.queues, (p0.queues.length : Int), 0, p1, ()))
@[reducible] def ref08_Same_ct : Ct tab := ⟨14, [.st 4, .st 4], [], [.one (.d .bool)], [], Bool, fun y => (y, ()), fun y => y.1, fun _ => rfl, fun n x => ref08_Same n x.1 x.2.1⟩
theorem ref08_Same_ok : OkC Tryz.prog tab ref08_Same_ct := fn_ok (W := ⟨Tryz.prog, tab, tyOf, [], addO, dpO, false⟩) ⟨tabOk, trivial, addOk⟩ (by kernel_rfl) 90 Tryz.f14 (.sq (.n) (.sq (.n) (.sq (.sq (.n) (.bk none (.lp ⟨[(3, .one (.box 0 0)), (18, .one (.d (.sl (.st 3)))), (19, .one (.d (.int .i64))), (20, .one (.d (.int .i64)))], [.bst 4], []⟩ (.sq (.n) (.sq (.n) (.sq (.bk none (.sq (.n) (.sq (.n) (.sq (.n) (.sq (.sq (.n) (.bk none (.lp ⟨[(3, .one (.box 0 0)), (6, .one (.box 1 0)), (7, .one (.box 2 0)), (18, .one (.d (.sl (.st 3)))), (19, .one (.d (.int .i64))), (20, .one (.d (.int .i64))), (55, .one (.d (.int .i64))), (56, .one (.d (.int .i64)))], [.bst 4, .bst 3, .bst 3], []⟩ (.n)))) (.sq (.n) (.bk none (.lp ⟨[(3, .one (.box 0 0)), (6, .one (.box 1 0)), (7, .one (.box 2 0)), (18, .one (.d (.sl (.st 3)))), (19, .one (.d (.int .i64))), (20, .one (.d (.int .i64))), (73, .one (.d (.int .i64))), (74, .one (.d (.int .i64)))], [.bst 4, .bst 3, .bst 3], []⟩ (.n))))))))) (.n))))))) (.n)))) Tryz.func14 Tryz.call14 rfl (by kernel_rfl) (by kernel_rfl) (by kernel_rfl) fun n x => by kernel_rfl

/-! bursary bursarylaw08.LocksTells -/
def law08_LocksTells_j1 (n : Nat) : Unit → Option Bool := fun _ =>
    some true
def law08_LocksTells_j3 (n : Nat) (r2 : (List Locks) × (List Int) × (List Res) × (List Locks) × Int × Int × Unit → Option Bool) : (List Locks) × (List Int) × (List Res) × (List Locks) × Int × Int × Unit → Option Bool := fun ⟨v383, v384, v385, v386, v387, v388, _⟩ =>
    r2 (v383, v384, v385, v386, v387, (IntKind.wrap .i64 (v388 + 1)), ())
def law08_LocksTells_j8 (n : Nat) (r7 : (List Locks) × (List Int) × (List Res) × Bool × Int × (List Locks) × Int × Int × (List Int) × Int × Int × (List Res) × Int × Int × Locks × Unit → Option Bool) : (List Locks) × (List Int) × (List Res) × Bool × Int × Int × Int × (List Locks) × Int × Int × (List Int) × Int × Int × (List Res) × Int × Int × Locks × Res × Unit → Option Bool := fun ⟨v474, v475, v476, v477, v478, v479, v480, v481, v482, v483, v484, v485, v486, v487, v488, v489, v490, v491, _⟩ =>
    jn (fun (b492 : Bool) =>
        cond b492
          (some false)
          (r7 (v474, v475, v476, v477, v478, v481, v482, v483, v484, v485, v486, v487, v488, (IntKind.wrap .i64 (v489 + 1)), v490, ()))) fun k493 =>
    cond (decide (v479 < 8))
      ((locks_Mode n v490 v478 v491).bind fun y494 =>
      k493 (y494 != v480))
      (k493 false)
def law08_LocksTells_l7 (n : Nat) (r4 : (List Locks) × (List Int) × (List Res) × Bool × (List Locks) × Int × Int × (List Int) × Int × Int × Locks × Unit → Option Bool) : Nat → (List Locks) × (List Int) × (List Res) × Bool × Int × (List Locks) × Int × Int × (List Int) × Int × Int × (List Res) × Int × Int × Locks × Unit → Option Bool := loopF fun r7 ⟨v457, v458, v459, v460, v461, v462, v463, v464, v465, v466, v467, v468, v469, v470, v471, _⟩ =>
    cond (decide (v470 < v469))
      ((idx v468 v470).bind fun x472 =>
      jn (law08_LocksTells_j8 n r7) fun j8 =>
      cond v460
        ((ref08_Mode n v471 v461 x472).bind fun y495 =>
        j8 (v457, v458, v459, v460, v461, v470, y495, v462, v463, v464, v465, v466, v467, v468, v469, v470, v471, x472, ()))
        (j8 (v457, v458, v459, v460, v461, v470, 0, v462, v463, v464, v465, v466, v467, v468, v469, v470, v471, x472, ())))
      (r4 (v457, v458, v459, v460, v462, v463, v464, v465, v466, (IntKind.wrap .i64 (v467 + 1)), v471, ()))
def law08_LocksTells_l6 (n : Nat) (r4 : (List Locks) × (List Int) × (List Res) × Bool × (List Locks) × Int × Int × (List Int) × Int × Int × Locks × Unit → Option Bool) : Nat → (List Locks) × (List Int) × (List Res) × Bool × Int × (List Locks) × Int × Int × (List Int) × Int × Int × Int × Int × Locks × (List Lock) × (List Lock) × Unit → Option Bool := loopF fun r6 ⟨v437, v438, v439, v440, v441, v442, v443, v444, v445, v446, v447, v448, v449, v450, v451, v452, _⟩ =>
    cond (decide (v449 < v448))
      ((idx v451 v449).bind fun x453 =>
      (idx v451 v449).bind fun x454 =>
      (idx v452 v449).bind fun x455 =>
      (idx v452 v449).bind fun x456 =>
      cond (!(Lock.eqb x454 x456))
        (some false)
        (r6 (v437, v438, v439, v440, v441, v442, v443, v444, v445, v446, v447, v448, (IntKind.wrap .i64 (v449 + 1)), v450, v451, v452, ())))
      (law08_LocksTells_l7 n r4 n (v437, v438, v439, v440, v441, v442, v443, v444, v445, v446, v447, v439, (v439.length : Int), 0, v450, ()))
def law08_LocksTells_j5 (n : Nat) (r4 : (List Locks) × (List Int) × (List Res) × Bool × (List Locks) × Int × Int × (List Int) × Int × Int × Locks × Unit → Option Bool) : (List Locks) × (List Int) × (List Res) × Bool × Int × Int × Bool × Int × Bool × (List Locks) × Int × Int × (List Int) × Int × Int × Locks × Res × (List Lock) × (List Int) × Res × (List Lock) × (List Int) × Unit → Option Bool := fun ⟨v407, v408, v409, v410, v411, v412, v413, v414, v415, v416, v417, v418, v419, v420, v421, v422, v423, v424, v425, v426, v427, v428, _⟩ =>
    jn (fun (b429 : Bool) =>
        jn (fun (b431 : Bool) =>
            jn (fun (b433 : Bool) =>
                jn (fun (b435 : Bool) =>
                    cond b435
                      (some false)
                      (law08_LocksTells_l6 n r4 n (v407, v408, v409, v410, v411, v416, v417, v418, v419, v420, v421, (v427.length : Int), 0, v422, v424, v427, ()))) fun k436 =>
                cond b433
                  (k436 true)
                  ((ref08_SameInts n v425 v428).bind fun y496 =>
                  k436 (!y496))) fun k434 =>
            cond b431
              (k434 true)
              (k434 ((v424.length : Int) != (v427.length : Int)))) fun k432 =>
        cond b429
          (k432 true)
          (k432 (!(v413 == v415)))) fun k430 =>
    cond (!(Res.eqb v423 v426))
      (k430 true)
      (k430 (v412 != v414))
def law08_LocksTells_l4 (n : Nat) (j3 : (List Locks) × (List Int) × (List Res) × (List Locks) × Int × Int × Unit → Option Bool) : Nat → (List Locks) × (List Int) × (List Res) × Bool × (List Locks) × Int × Int × (List Int) × Int × Int × Locks × Unit → Option Bool := loopF fun r4 ⟨v389, v390, v391, v392, v393, v394, v395, v396, v397, v398, v399, _⟩ =>
    cond (decide (v398 < v397))
      ((idx v396 v398).bind fun x400 =>
      cond (v398 == 10)
        (j3 (v389, v390, v391, v393, v394, v395, ()))
        ((locks_Waits n v399 x400).bind fun y401 =>
        (locks_Holds n v399 x400).bind fun y402 =>
        (locks_Blockers n v399 x400).bind fun y403 =>
        jn (law08_LocksTells_j5 n r4) fun j5 =>
        cond v392
          ((ref08_Waits n v399 x400).bind fun y497 =>
          (ref08_Holds n v399 x400).bind fun y498 =>
          (ref08_Blockers n v399 x400).bind fun y499 =>
          j5 (v389, v390, v391, v392, x400, y401.2.1, y401.2.2, y497.2.1, y497.2.2, v393, v394, v395, v396, v397, v398, v399, y401.1, y402, y403, y497.1, y498, y499, ()))
          (j5 (v389, v390, v391, v392, x400, y401.2.1, y401.2.2, 0, false, v393, v394, v395, v396, v397, v398, v399, y401.1, y402, y403, (Res.mk 0 false 0), ([] : List Lock), ([] : List Int), ()))))
      (j3 (v389, v390, v391, v393, v394, v395, ()))
def law08_LocksTells_l2 (n : Nat) (j1 : Unit → Option Bool) : Nat → (List Locks) × (List Int) × (List Res) × (List Locks) × Int × Int × Unit → Option Bool := loopF fun r2 ⟨v254, v255, v256, v257, v258, v259, _⟩ =>
    cond (decide (v259 < v258))
      ((idx v257 v259).bind fun x260 =>
      cond (v259 == 5)
        (j1 (()))
        ((law08_few n x260).bind fun y261 =>
        (idx v254 0).bind fun x262 =>
        (law08_few n x262).bind fun y263 =>
        (ref08_Right n y261).bind fun y264 =>
        (locks_Check n y261).bind fun y265 =>
        jn (fun (b266 : Bool) =>
            jn (fun (b268 : Bool) =>
                jn (fun (b270 : Bool) =>
                    cond b270
                      (some false)
                      (jn (law08_LocksTells_j3 n r2) fun j3 =>
                      law08_LocksTells_l4 n j3 n (v254, v255, v256, y264, v257, v258, v259, v255, (v255.length : Int), 0, y261, ()))) fun k271 =>
                cond b268
                  (k271 true)
                  ((law08_few n x260).bind fun y500 =>
                  (locks_Same n y261 y500).bind fun y501 =>
                  k271 (!y501))) fun k269 =>
            cond b266
              (k269 true)
              ((locks_Same n y261 y263).bind fun y502 =>
              (ref08_Same n y261 y263).bind fun y503 =>
              k269 (!(y502 == y503)))) fun k267 =>
        cond (!((y265 == 0) == y264))
          (k267 true)
          (jn (fun (b504 : Bool) =>
              k267 b504) fun k505 =>
          cond (!y264)
            (k505 (y265 != 180))
            (k505 false))))
      (j1 (()))
def law08_LocksTells (n : Nat) (p0 : List Locks) (p1 : List Int) (p2 : List Res) : Option Bool :=
  (law08_wakes n).bind fun y1 =>
  cond (!y1)
    (some false)
    (jn (law08_LocksTells_j1 n) fun j1 =>
    law08_LocksTells_l2 n j1 n (p0, p1, p2, p0, (p0.length : Int), 0, ()))
@[reducible] def law08_LocksTells_ct : Ct tab := ⟨7, [.one (.d (.sl (.st 4))), .one (.d (.sl (.int .i64))), .one (.d (.sl (.st 0)))], [], [.one (.d .bool)], [], Bool, fun y => (y, ()), fun y => y.1, fun _ => rfl, fun n x => law08_LocksTells n x.1 x.2.1 x.2.2.1⟩
theorem law08_LocksTells_ok : OkC Tryz.prog tab law08_LocksTells_ct := fn_ok (W := ⟨Tryz.prog, tab, tyOf, [law08_wakes_ct, law08_few_ct, ref08_Right_ct, locks_Check_ct, locks_Waits_ct, locks_Holds_ct, locks_Blockers_ct, locks_Mode_ct, ref08_Mode_ct, ref08_SameInts_ct, ref08_Waits_ct, ref08_Holds_ct, ref08_Blockers_ct, locks_Same_ct, ref08_Same_ct], addO, dpO, false⟩) ⟨tabOk, ⟨law08_wakes_ok, law08_few_ok, ref08_Right_ok, locks_Check_ok, locks_Waits_ok, locks_Holds_ok, locks_Blockers_ok, locks_Mode_ok, ref08_Mode_ok, ref08_SameInts_ok, ref08_Waits_ok, ref08_Holds_ok, ref08_Blockers_ok, locks_Same_ok, ref08_Same_ok, trivial⟩, addOk⟩ (by kernel_rfl) 181 Tryz.f7 (.sq (.n) (.sq (.n) (.sq (.sq (.n) (.bk (some ⟨[], [], []⟩) (.lp ⟨[(0, .one (.d (.sl (.st 4)))), (1, .one (.d (.sl (.int .i64)))), (2, .one (.d (.sl (.st 0)))), (31, .one (.d (.sl (.st 4)))), (32, .one (.d (.int .i64))), (33, .one (.d (.int .i64)))], [], []⟩ (.sq (.n) (.sq (.n) (.sq (.bk none (.sq (.n) (.sq (.n) (.sq (.n) (.sq (.n) (.sq (.n) (.sq (.n) (.bk (some ⟨[(0, .one (.d (.sl (.st 4)))), (1, .one (.d (.sl (.int .i64)))), (2, .one (.d (.sl (.st 0)))), (31, .one (.d (.sl (.st 4)))), (32, .one (.d (.int .i64))), (33, .one (.d (.int .i64)))], [], []⟩) (.lp ⟨[(0, .one (.d (.sl (.st 4)))), (1, .one (.d (.sl (.int .i64)))), (2, .one (.d (.sl (.st 0)))), (9, .one (.box 0 0)), (11, .one (.d .bool)), (31, .one (.d (.sl (.st 4)))), (32, .one (.d (.int .i64))), (33, .one (.d (.int .i64))), (78, .one (.d (.sl (.int .i64)))), (79, .one (.d (.int .i64))), (80, .one (.d (.int .i64)))], [.bst 4], []⟩ (.sq (.n) (.sq (.n) (.sq (.bk none (.sq (.n) (.sq (.n) (.sq (.n) (.sq (.n) (.sq (.n) (.sq (.n) (.sq (.n) (.sq (.sq (.n) (.cd (some ⟨[(0, .one (.d (.sl (.st 4)))), (1, .one (.d (.sl (.int .i64)))), (2, .one (.d (.sl (.st 0)))), (9, .one (.box 0 0)), (11, .one (.d .bool)), (14, .one (.d (.int .i64))), (15, .one (.box 1 0)), (16, .one (.d (.int .i64))), (17, .one (.d .bool)), (18, .one (.own 2)), (19, .one (.own 3)), (20, .one (.box 4 0)), (21, .one (.d (.int .i64))), (22, .one (.d .bool)), (23, .one (.own 5)), (24, .one (.own 6)), (31, .one (.d (.sl (.st 4)))), (32, .one (.d (.int .i64))), (33, .one (.d (.int .i64))), (78, .one (.d (.sl (.int .i64)))), (79, .one (.d (.int .i64))), (80, .one (.d (.int .i64)))], [.bst 4, .bst 0, .row 65 (.st 5), .row 3 (.int .i64), .bst 0, .row 65 (.st 5), .row 3 (.int .i64)], []⟩) (.n) (.n))) (.sq (.n) (.sq (.sq (.n) (.bk none (.lp ⟨[(0, .one (.d (.sl (.st 4)))), (1, .one (.d (.sl (.int .i64)))), (2, .one (.d (.sl (.st 0)))), (9, .one (.box 0 0)), (11, .one (.d .bool)), (14, .one (.d (.int .i64))), (18, .one (.own 1)), (23, .one (.own 2)), (31, .one (.d (.sl (.st 4)))), (32, .one (.d (.int .i64))), (33, .one (.d (.int .i64))), (78, .one (.d (.sl (.int .i64)))), (79, .one (.d (.int .i64))), (80, .one (.d (.int .i64))), (142, .one (.d (.int .i64))), (143, .one (.d (.int .i64)))], [.bst 4, .row 65 (.st 5), .row 65 (.st 5)], []⟩ (.n)))) (.sq (.n) (.bk none (.lp ⟨[(0, .one (.d (.sl (.st 4)))), (1, .one (.d (.sl (.int .i64)))), (2, .one (.d (.sl (.st 0)))), (9, .one (.box 0 0)), (11, .one (.d .bool)), (14, .one (.d (.int .i64))), (31, .one (.d (.sl (.st 4)))), (32, .one (.d (.int .i64))), (33, .one (.d (.int .i64))), (78, .one (.d (.sl (.int .i64)))), (79, .one (.d (.int .i64))), (80, .one (.d (.int .i64))), (156, .one (.d (.sl (.st 0)))), (157, .one (.d (.int .i64))), (158, .one (.d (.int .i64)))], [.bst 4], []⟩ (.sq (.n) (.sq (.n) (.sq (.bk none (.sq (.n) (.sq (.n) (.sq (.sq (.n) (.cd (some ⟨[(0, .one (.d (.sl (.st 4)))), (1, .one (.d (.sl (.int .i64)))), (2, .one (.d (.sl (.st 0)))), (9, .one (.box 0 0)), (11, .one (.d .bool)), (14, .one (.d (.int .i64))), (26, .one (.d (.int .i64))), (27, .one (.box 1 0)), (28, .one (.d (.int .i64))), (31, .one (.d (.sl (.st 4)))), (32, .one (.d (.int .i64))), (33, .one (.d (.int .i64))), (78, .one (.d (.sl (.int .i64)))), (79, .one (.d (.int .i64))), (80, .one (.d (.int .i64))), (156, .one (.d (.sl (.st 0)))), (157, .one (.d (.int .i64))), (158, .one (.d (.int .i64)))], [.bst 4, .bst 0], []⟩) (.n) (.n))) (.n))))) (.n)))))))))))))))))) (.n))))))))))))) (.n))))))) (.n)))) Tryz.func7 Tryz.call7 rfl (by kernel_rfl) (by kernel_rfl) (by kernel_rfl) fun n x => by kernel_rfl

end
end Go.Proofs.YtndehfninoimgaaGreat
