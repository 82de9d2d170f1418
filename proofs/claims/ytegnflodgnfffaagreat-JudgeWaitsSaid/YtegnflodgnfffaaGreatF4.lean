/- Functions of the program: plain twins and their contracts, printed by program. -/
import Derived.Test.YtegnflodgnfffaaGreatTypes
import Derived.Test.YtegnflodgnfffaaGreatF3
namespace Go.Proofs.YtegnflodgnfffaaGreat
open Go Go.Bur Go.RowKit
set_option linter.unusedVariables false
set_option linter.unusedSimpArgs false
set_option maxRecDepth 100000
noncomputable section
def slices_Sort_int (n : Nat) (q0 : List Int) : Option (List Int) := match Nat.ble q0.length 4611686018427387903 with | true => some (sortZ q0) | false => none
@[reducible] def slices_Sort_int_ct : Ct tab := srtCt tab 62 3
theorem slices_Sort_int_ok : OkC Tryz.prog tab slices_Sort_int_ct := srt_ok Tryz.call62 ⟨fun blk cap zs w hH hblk hlen => Go.Proofs.AnyM.slices_Sort_int Tryz.sl62 blk 0 cap zs w hH hblk hlen, fun p cap w => Go.Proofs.AnyM.slices_Sort_int_none Tryz.sl62 p cap w⟩

def slices_Compact_int (n : Nat) (q0 : List Int) : Option (List Int) := match Nat.ble q0.length 4611686018427387903 with | true => some (cpZ q0) | false => none
@[reducible] def slices_Compact_int_ct : Ct tab := cptCt tab 63 3
theorem slices_Compact_int_ok : OkC Tryz.prog tab slices_Compact_int_ct := cpt_ok Tryz.call63 ⟨fun blk cap zs w hH hl hc => Go.Proofs.AnyG.slices_Compact_int Tryz.sl63 blk 0 cap zs w hH (by omega) hc, fun p cap w => Go.Proofs.AnyG.slices_Compact_int_empty Tryz.sl63 p cap w⟩

/-! bursary locks.waits 1 -/
def locks_waits_1 (n : Nat) (p0 : Wait) (p1 : Int) : Option Bool :=
  some (p0.txn == p1)
@[reducible] def locks_waits_1_ct : Ct tab := ⟨149, [.st 19, .one (.ro (.int .i64))], [], [.one (.d .bool)], [], Bool, fun y => (y, ()), fun y => y.1, fun _ => rfl, fun n x => locks_waits_1 n x.1 x.2.1⟩
theorem locks_waits_1_ok : OkC Tryz.prog tab locks_waits_1_ct := fn_ok (W := ⟨Tryz.prog, tab, tyOf, [], addO, dpO, false⟩) ⟨tabOk, trivial, addOk⟩ (by kernel_rfl) 8 Tryz.f149 (.n) Tryz.func149 Tryz.call149 rfl (by kernel_rfl) (by kernel_rfl) (by kernel_rfl) fun n x => by kernel_rfl

/-! slices.IndexFunc   bursary api.Wait bursary api.Wait  -/
def slices_IndexFunc_Wait_f149_l1 (n : Nat) : Nat → (List Wait) × Int × Int × Int × Unit → Option Int := loopF fun r1 ⟨v1, v2, v3, v4, _⟩ =>
    cond (decide (v4 < v3))
      ((idx v1 v4).bind fun x5 =>
      (locks_waits_1 n x5 v2).bind fun y6 =>
      cond y6
        (some v4)
        (r1 (v1, v2, v3, (IntKind.wrap .i64 (v4 + 1)), ())))
      (some (-1))
def slices_IndexFunc_Wait_f149 (n : Nat) (p0 : List Wait) (p1 : Int) : Option Int :=
  slices_IndexFunc_Wait_f149_l1 n n (p0, p1, (p0.length : Int), 0, ())
@[reducible] def slices_IndexFunc_Wait_f149_ct : Ct tab := ⟨148, [.one (.d (.sl (.st 19))), .one (.fn 149 [.ro (.int .i64)])], [], [.one (.d (.int .i64))], [], Int, fun y => (y, ()), fun y => y.1, fun _ => rfl, fun n x => slices_IndexFunc_Wait_f149 n x.1 x.2.1⟩
theorem slices_IndexFunc_Wait_f149_ok : OkC Tryz.prog tab slices_IndexFunc_Wait_f149_ct := fn_ok (W := ⟨Tryz.prog, tab, tyOf, [locks_waits_1_ct], addO, dpO, false⟩) ⟨tabOk, ⟨locks_waits_1_ok, trivial⟩, addOk⟩ (by kernel_rfl) 19 Tryz.f148 (.sq (.n) (.sq (.sq (.n) (.bk none (.lp ⟨[(0, .one (.d (.sl (.st 19)))), (1, .one (.fn 149 [.ro (.int .i64)])), (7, .one (.d (.int .i64))), (8, .one (.d (.int .i64)))], [], []⟩ (.n)))) (.n))) Tryz.func148 Tryz.call148 rfl (by kernel_rfl) (by kernel_rfl) (by kernel_rfl) fun n x => by kernel_rfl

/-! bursary locks.waits -/
def locks_waits_l1 (n : Nat) : Nat → (List Queue) × Int × Int × Int × Unit → Option (Int × Int × Bool) := loopF fun r1 ⟨v1, v2, v3, v4, _⟩ =>
    cond (decide (v3 < v2))
      ((idx v1 v3).bind fun x5 =>
      (slices_IndexFunc_Wait_f149 n x5.waiters v4).bind fun y6 =>
      cond (decide (y6 ≥ 0))
        (some (v3, y6, true))
        (r1 (v1, v2, (IntKind.wrap .i64 (v3 + 1)), v4, ())))
      (some (0, 0, false))
def locks_waits (n : Nat) (p0 : Locks) (p1 : Int) : Option (Int × Int × Bool) :=
  locks_waits_l1 n n (p0.queues, (p0.queues.length : Int), 0, p1, ())
@[reducible] def locks_waits_ct : Ct tab := ⟨105, [.st 21, .one (.d (.int .i64))], [], [.one (.d (.int .i64)), .one (.d (.int .i64)), .one (.d .bool)], [], (Int × Int × Bool), fun y => (y.1, y.2.1, y.2.2, ()), fun y => (y.1, y.2.1, y.2.2.1), fun _ => rfl, fun n x => locks_waits n x.1 x.2.1⟩
theorem locks_waits_ok : OkC Tryz.prog tab locks_waits_ct := fn_ok (W := ⟨Tryz.prog, tab, tyOf, [slices_IndexFunc_Wait_f149_ct], addO, dpO, false⟩) ⟨tabOk, ⟨slices_IndexFunc_Wait_f149_ok, trivial⟩, addOk⟩ (by kernel_rfl) 27 Tryz.f105 (.sq (.n) (.sq (.sq (.n) (.bk none (.lp ⟨[(3, .one (.box 0 0)), (11, .one (.d (.sl (.st 20)))), (12, .one (.d (.int .i64))), (13, .one (.d (.int .i64)))], [.box [.d (.int .i64)]], []⟩ (.n)))) (.n))) Tryz.func105 Tryz.call105 rfl (by kernel_rfl) (by kernel_rfl) (by kernel_rfl) fun n x => by kernel_rfl

/-! bursary locks.Blockers -/
def locks_Blockers_j2 (n : Nat) (r1 : Int × Int × (List Hold) × Int × Int × Queue × (List Int) × Unit → Option ((List Int))) : Int × Int × (List Hold) × Int × Int × Queue × (List Int) × Unit → Option ((List Int)) := fun ⟨v16, v17, v18, v19, v20, v21, v22, _⟩ =>
    r1 (v16, v17, v18, v19, (IntKind.wrap .i64 (v20 + 1)), v21, v22, ())
def locks_Blockers_l3 (n : Nat) : Nat → (List Wait) × Int × Int × (List Int) × Unit → Option ((List Int)) := loopF fun r3 ⟨v27, v28, v29, v30, _⟩ =>
    cond (decide (v29 < v28))
      ((idx v27 v29).bind fun x31 =>
      (app 8 v30 ([x31.txn] : List Int)).bind fun l32 =>
      r3 (v27, v28, (IntKind.wrap .i64 (v29 + 1)), l32, ()))
      ((slices_Sort_int n v30).bind fun y33 =>
      (slices_Compact_int n y33).bind fun y34 =>
      some y34)
def locks_Blockers_l1 (n : Nat) : Nat → Int × Int × (List Hold) × Int × Int × Queue × (List Int) × Unit → Option ((List Int)) := loopF fun r1 ⟨v5, v6, v7, v8, v9, v10, v11, _⟩ =>
    cond (decide (v9 < v8))
      ((idx v7 v9).bind fun x12 =>
      jn (fun (b13 : Bool) =>
          jn (locks_Blockers_j2 n r1) fun j2 =>
          cond b13
            ((app 8 v11 ([x12.txn] : List Int)).bind fun l23 =>
            j2 (v5, v6, v7, v8, v9, v10, l23, ()))
            (j2 (v5, v6, v7, v8, v9, v10, v11, ()))) fun k14 =>
      cond (x12.txn != v5)
        ((idx v10.waiters v6).bind fun x24 =>
        (mode_Goes n x12.mode x24.mode).bind fun y25 =>
        k14 (!y25))
        (k14 false))
      ((sub v10.waiters 0 v6).bind fun l26 =>
      locks_Blockers_l3 n n (l26, (l26.length : Int), 0, v11, ()))
def locks_Blockers (n : Nat) (p0 : Locks) (p1 : Int) : Option ((List Int)) :=
  (locks_waits n p0 p1).bind fun y1 =>
  jn (fun (b2 : Bool) =>
      cond b2
        (some ([] : List Int))
        ((idx p0.queues y1.1).bind fun x4 =>
        locks_Blockers_l1 n n (p1, y1.2.1, x4.holders, (x4.holders.length : Int), 0, x4, ([] : List Int), ()))) fun k3 =>
  cond (!y1.2.2)
    (k3 true)
    ((locks_Check n p0).bind fun y35 =>
    k3 (y35 != 0))
@[reducible] def locks_Blockers_ct : Ct tab := ⟨64, [.st 21, .one (.d (.int .i64))], [], [.one (.own 0)], [(none, .row 3 (.int .i64))], ((List Int)), fun y => (y, ()), fun y => y.1, fun _ => rfl, fun n x => locks_Blockers n x.1 x.2.1⟩
theorem locks_Blockers_ok : OkC Tryz.prog tab locks_Blockers_ct := fn_ok (W := ⟨Tryz.prog, tab, tyOf, [locks_waits_ct, mode_Goes_ct, slices_Sort_int_ct, slices_Compact_int_ct, locks_Check_ct], addO, dpO, false⟩) ⟨tabOk, ⟨locks_waits_ok, mode_Goes_ok, slices_Sort_int_ok, slices_Compact_int_ok, locks_Check_ok, trivial⟩, addOk⟩ (by kernel_rfl) 81 Tryz.f64 (.sq (.n) (.sq (.n) (.sq (.n) (.sq (.n) (.sq (.n) (.sq (.sq (.n) (.bk none (.lp ⟨[(1, .one (.d (.int .i64))), (6, .one (.d (.int .i64))), (8, .one (.box 0 0)), (9, .one (.own 1)), (34, .one (.d (.sl (.st 18)))), (35, .one (.d (.int .i64))), (36, .one (.d (.int .i64)))], [.bst 20, .row 3 (.int .i64)], []⟩ (.sq (.n) (.sq (.n) (.sq (.bk none (.sq (.n) (.sq (.n) (.cd (some ⟨[(1, .one (.d (.int .i64))), (6, .one (.d (.int .i64))), (8, .one (.box 0 0)), (9, .one (.own 1)), (34, .one (.d (.sl (.st 18)))), (35, .one (.d (.int .i64))), (36, .one (.d (.int .i64)))], [.bst 20, .row 3 (.int .i64)], []⟩) (.n) (.n))))) (.n))))))) (.sq (.sq (.n) (.bk none (.lp ⟨[(9, .one (.own 0)), (65, .one (.d (.sl (.st 19)))), (66, .one (.d (.int .i64))), (67, .one (.d (.int .i64)))], [.row 3 (.int .i64)], []⟩ (.n)))) (.n)))))))) Tryz.func64 Tryz.call64 rfl (by kernel_rfl) (by kernel_rfl) (by kernel_rfl) fun n x => by kernel_rfl

/-! bursary judge.edges -/
def judge_edges_l2 (n : Nat) (r1 : Int × Int × Locks × (List Edge) × (List Int) × Unit → Option ((List Edge))) : Nat → Int × Int × Int × Int × Int × Locks × (List Edge) × (List Edge) × (List Int) × (List Int) × Unit → Option ((List Edge)) := loopF fun r2 ⟨v12, v13, v14, v15, v16, v17, v18, v19, v20, v21, _⟩ =>
    cond (decide (v16 < v15))
      ((idx v21 v16).bind fun x22 =>
      (idx v21 v16).bind fun x23 =>
      (app 16 v19 ([(Edge.mk v12 x23)] : List Edge)).bind fun l24 =>
      r2 (v12, v13, v14, v15, (IntKind.wrap .i64 (v16 + 1)), v17, v18, l24, v20, v21, ()))
      ((app 16 v18 v19).bind fun l25 =>
      r1 (v13, (IntKind.wrap .i64 (v14 + 1)), v17, l25, v20, ()))
def judge_edges_l1 (n : Nat) : Nat → Int × Int × Locks × (List Edge) × (List Int) × Unit → Option ((List Edge)) := loopF fun r1 ⟨v4, v5, v6, v7, v8, _⟩ =>
    cond (decide (v5 < v4))
      ((idx v8 v5).bind fun x9 =>
      (idx v8 v5).bind fun x10 =>
      (locks_Blockers n v6 x10).bind fun y11 =>
      judge_edges_l2 n r1 n (x10, v4, v5, (y11.length : Int), 0, v6, v7, ([] : List Edge), v8, y11, ()))
      (some v7)
def judge_edges (n : Nat) (p0 : Locks) (p1 : List Int) : Option ((List Edge)) :=
  (slices_Clone_int n p1).bind fun y1 =>
  (slices_Sort_int n y1).bind fun y2 =>
  (slices_Compact_int n y2).bind fun y3 =>
  judge_edges_l1 n n ((y3.length : Int), 0, p0, ([] : List Edge), y3, ())
@[reducible] def judge_edges_ct : Ct tab := ⟨31, [.st 21, .one (.d (.sl (.int .i64)))], [], [.one (.own 0)], [(none, .row 97 (.st 22))], ((List Edge)), fun y => (y, ()), fun y => y.1, fun _ => rfl, fun n x => judge_edges n x.1 x.2.1⟩
theorem judge_edges_ok : OkC Tryz.prog tab judge_edges_ct := fn_ok (W := ⟨Tryz.prog, tab, tyOf, [slices_Clone_int_ct, slices_Sort_int_ct, slices_Compact_int_ct, locks_Blockers_ct], addO, dpO, false⟩) ⟨tabOk, ⟨slices_Clone_int_ok, slices_Sort_int_ok, slices_Compact_int_ok, locks_Blockers_ok, trivial⟩, addOk⟩ (by kernel_rfl) 42 Tryz.f31 (.sq (.n) (.sq (.n) (.sq (.n) (.sq (.n) (.sq (.sq (.n) (.bk none (.lp ⟨[(2, .one (.box 0 0)), (5, .one (.own 1)), (16, .one (.own 2)), (17, .one (.d (.int .i64))), (18, .one (.d (.int .i64)))], [.bst 21, .row 97 (.st 22), .row 3 (.int .i64)], []⟩ (.sq (.n) (.sq (.n) (.sq (.bk none (.sq (.n) (.sq (.n) (.sq (.sq (.n) (.bk none (.lp ⟨[(2, .one (.box 0 0)), (5, .one (.own 1)), (7, .one (.d (.int .i64))), (8, .one (.own 2)), (16, .one (.own 3)), (17, .one (.d (.int .i64))), (18, .one (.d (.int .i64))), (24, .one (.own 4)), (25, .one (.d (.int .i64))), (26, .one (.d (.int .i64)))], [.bst 21, .row 97 (.st 22), .row 97 (.st 22), .row 3 (.int .i64), .row 3 (.int .i64)], []⟩ (.n)))) (.n))))) (.n))))))) (.n)))))) Tryz.func31 Tryz.call31 rfl (by kernel_rfl) (by kernel_rfl) (by kernel_rfl) fun n x => by kernel_rfl

/-! bursary judge.Edges -/
def judge_Edges (n : Nat) (p0 : Locks) (p1 : List Int) : Option (Int × (List Edge)) :=
  (locks_Check n p0).bind fun y1 =>
  cond (y1 != 0)
    (some (y1, ([] : List Edge)))
    ((judge_edges n p0 p1).bind fun y2 =>
    some (0, y2))
@[reducible] def judge_Edges_ct : Ct tab := ⟨12, [.st 21, .one (.d (.sl (.int .i64)))], [], [.one (.own 0), .one (.d (.int .i64))], [(none, .row 97 (.st 22))], (Int × (List Edge)), fun y => (y.1, y.2, ()), fun y => (y.1, y.2.1), fun _ => rfl, fun n x => judge_Edges n x.1 x.2.1⟩
theorem judge_Edges_ok : OkC Tryz.prog tab judge_Edges_ct := fn_ok (W := ⟨Tryz.prog, tab, tyOf, [locks_Check_ct, judge_edges_ct], addO, dpO, false⟩) ⟨tabOk, ⟨locks_Check_ok, judge_edges_ok, trivial⟩, addOk⟩ (by kernel_rfl) 15 Tryz.f12 (.n) Tryz.func12 Tryz.call12 rfl (by kernel_rfl) (by kernel_rfl) (by kernel_rfl) fun n x => by kernel_rfl

/-! bursary waits.may -/
def waits_may (n : Nat) (p0 : Edge) : Option Bool :=
  jn (fun (b1 : Bool) =>
      jn (fun (b3 : Bool) =>
          some b3) fun k4 =>
      cond b1
        (k4 (p0.from_ != p0.to))
        (k4 false)) fun k2 =>
  cond (decide (p0.from_ > 0))
    (k2 (decide (p0.to > 0)))
    (k2 false)
@[reducible] def waits_may_ct : Ct tab := ⟨107, [.st 22], [], [.one (.d .bool)], [], Bool, fun y => (y, ()), fun y => y.1, fun _ => rfl, fun n x => waits_may n x.1⟩
theorem waits_may_ok : OkC Tryz.prog tab waits_may_ct := fn_ok (W := ⟨Tryz.prog, tab, tyOf, [], addO, dpO, false⟩) ⟨tabOk, trivial, addOk⟩ (by kernel_rfl) 18 Tryz.f107 (.n) Tryz.func107 Tryz.call107 rfl (by kernel_rfl) (by kernel_rfl) (by kernel_rfl) fun n x => by kernel_rfl

/-! bursary waits.compare -/
def waits_compare (n : Nat) (p0 : Edge) (p1 : Edge) : Option Int :=
  (cmp_Compare_int n p0.from_ p1.from_).bind fun y1 =>
  (cmp_Compare_int n p0.to p1.to).bind fun y2 =>
  (cmp_Or_int n ([y1, y2] : List Int)).bind fun y3 =>
  some y3
@[reducible] def waits_compare_ct : Ct tab := ⟨108, [.st 22, .st 22], [], [.one (.d (.int .i64))], [], Int, fun y => (y, ()), fun y => y.1, fun _ => rfl, fun n x => waits_compare n x.1 x.2.1⟩
theorem waits_compare_ok : OkC Tryz.prog tab waits_compare_ct := fn_ok (W := ⟨Tryz.prog, tab, tyOf, [cmp_Compare_int_ct, cmp_Or_int_ct], addO, dpO, false⟩) ⟨tabOk, ⟨cmp_Compare_int_ok, cmp_Or_int_ok, trivial⟩, addOk⟩ (by kernel_rfl) 17 Tryz.f108 (.n) Tryz.func108 Tryz.call108 rfl (by kernel_rfl) (by kernel_rfl) (by kernel_rfl) fun n x => by kernel_rfl

/-! bursary waits.right -/
def waits_right_l1 (n : Nat) : Nat → (List Edge) × (List Edge) × Int × Int × (List (Int × Bool)) × Unit → Option Bool := loopF fun r1 ⟨v1, v2, v3, v4, v5, _⟩ =>
    cond (decide (v4 < v3))
      ((idx v2 v4).bind fun x6 =>
      (waits_may n x6).bind fun y7 =>
      jn (fun (b8 : Bool) =>
          cond b8
            (some false)
            ((mput .i64 v5 x6.from_ true).bind fun l10 =>
            (mput .i64 l10 x6.to true).bind fun l11 =>
            r1 (v1, v2, v3, (IntKind.wrap .i64 (v4 + 1)), l11, ()))) fun k9 =>
      cond (!y7)
        (k9 true)
        (jn (fun (b12 : Bool) =>
            k9 b12) fun k13 =>
        cond (decide (v4 > 0))
          ((idx v1 (IntKind.wrap .i64 (v4 - 1))).bind fun x14 =>
          (waits_compare n x14 x6).bind fun y15 =>
          k13 (decide (y15 ≥ 0)))
          (k13 false)))
      (some (decide (((mkeys v5).length : Int) ≤ 8)))
def waits_right (n : Nat) (p0 : List Edge) : Option Bool :=
  waits_right_l1 n n (p0, p0, (p0.length : Int), 0, ([] : List (Int × Bool)), ())
@[reducible] def waits_right_ct : Ct tab := ⟨65, [.one (.d (.sl (.st 22)))], [], [.one (.d .bool)], [], Bool, fun y => (y, ()), fun y => y.1, fun _ => rfl, fun n x => waits_right n x.1⟩
theorem waits_right_ok : OkC Tryz.prog tab waits_right_ct := fn_ok (W := ⟨Tryz.prog, tab, tyOf, [waits_may_ct, waits_compare_ct], addO, dpO, false⟩) ⟨tabOk, ⟨waits_may_ok, waits_compare_ok, trivial⟩, addOk⟩ (by kernel_rfl) 41 Tryz.f65 (.sq (.n) (.sq (.n) (.sq (.sq (.n) (.bk none (.lp ⟨[(0, .one (.d (.sl (.st 22)))), (3, .one (.map 0)), (7, .one (.d (.sl (.st 22)))), (8, .one (.d (.int .i64))), (9, .one (.d (.int .i64)))], [.map .i64 3 4 .bool], []⟩ (.n)))) (.n)))) Tryz.func65 Tryz.call65 rfl (by kernel_rfl) (by kernel_rfl) (by kernel_rfl) fun n x => by kernel_rfl

/-! bursary waits.next -/
def waits_next (n : Nat) (p0 : List Edge) (p1 : Int) : Option ((List Edge) × Int) :=
  some (p0, p1)
@[reducible] def waits_next_ct : Ct tab := ⟨111, [.one (.d (.sl (.st 22))), .one (.d (.int .i64))], [], [.one (.fn 151 [.bx 0, .bx 1])], [(none, .box [.d (.sl (.st 22))]), (none, .box [.d (.int .i64)])], ((List Edge) × Int), fun y => (y.1, y.2, ()), fun y => (y.1, y.2.1), fun _ => rfl, fun n x => waits_next n x.1 x.2.1⟩
theorem waits_next_ok : OkC Tryz.prog tab waits_next_ct := fn_ok (W := ⟨Tryz.prog, tab, tyOf, [], addO, dpO, false⟩) ⟨tabOk, trivial, addOk⟩ (by kernel_rfl) 6 Tryz.f111 (.n) Tryz.func111 Tryz.call111 rfl (by kernel_rfl) (by kernel_rfl) (by kernel_rfl) fun n x => by kernel_rfl

/-! bursary waits.next 1 -/
def waits_next_1_fyd2_l1 (n : Nat) : Nat → Int × (List Edge) × Int × Int × (HL tabT [.int .i64] → HL tabT [.mp (.bool), .sl (.st 22)] → Option (Nat × HL tabT [.mp (.bool), .sl (.st 22)])) × Nat × (HL tabT [.mp (.bool), .sl (.st 22)]) × Unit → Option ((HL tabT [.int .i64] → HL tabT [.mp (.bool), .sl (.st 22)] → Option (Nat × HL tabT [.mp (.bool), .sl (.st 22)])) × Nat × (HL tabT [.mp (.bool), .sl (.st 22)])) := loopF fun r1 ⟨v1, v2, v3, v4, v5, v6, v7, _⟩ =>
    cond (decide (v4 < v3))
      ((idx v2 v4).bind fun x8 =>
      cond (x8.from_ == v1)
        ((callY v5 v6 (x8.to, ()) v7).bind fun y9 =>
        cond (!(Nat.beq y9.1 0))
          (some (v5, y9.1, y9.2))
          (r1 (v1, v2, v3, (IntKind.wrap .i64 (v4 + 1)), v5, y9.1, y9.2, ())))
        (cond false
          (some (v5, v6, v7))
          (r1 (v1, v2, v3, (IntKind.wrap .i64 (v4 + 1)), v5, v6, v7, ()))))
      (some (v5, v6, v7))
def waits_next_1_fyd2 (n : Nat) (p1 : List Edge) (p2 : Int) (q0_0 : HL tabT [.int .i64] → HL tabT [.mp (.bool), .sl (.st 22)] → Option (Nat × HL tabT [.mp (.bool), .sl (.st 22)])) (q0_1 : Nat) (q0_2 : HL tabT [.mp (.bool), .sl (.st 22)]) : Option ((HL tabT [.int .i64] → HL tabT [.mp (.bool), .sl (.st 22)] → Option (Nat × HL tabT [.mp (.bool), .sl (.st 22)])) × Nat × (HL tabT [.mp (.bool), .sl (.st 22)])) :=
  waits_next_1_fyd2_l1 n n (p2, p1, (p1.length : Int), 0, q0_0, q0_1, q0_2, ())
@[reducible] def waits_next_1_fyd2_ct : Ct tab := ⟨151, [.one (.yd 0), .one (.ro (.sl (.st 22))), .one (.ro (.int .i64))], [.opq [.int .i64] [.mp (.bool), .sl (.st 22)]], [], [(some 0, .opq [.int .i64] [.mp (.bool), .sl (.st 22)])], ((HL tabT [.int .i64] → HL tabT [.mp (.bool), .sl (.st 22)] → Option (Nat × HL tabT [.mp (.bool), .sl (.st 22)])) × Nat × (HL tabT [.mp (.bool), .sl (.st 22)])), fun y => (y.1, y.2.1, y.2.2, ()), fun y => (y.1, y.2.1, y.2.2.1), fun _ => rfl, fun n x => waits_next_1_fyd2 n x.1 x.2.1 x.2.2.1 x.2.2.2.1 x.2.2.2.2.1⟩
theorem waits_next_1_fyd2_ok : OkC Tryz.prog tab waits_next_1_fyd2_ct := fn_ok (W := ⟨Tryz.prog, tab, tyOf, [], addO, dpO, false⟩) ⟨tabOk, trivial, addOk⟩ (by kernel_rfl) 24 Tryz.f151 (.sq (.n) (.bk none (.lp ⟨[(0, .one (.yd 0)), (2, .one (.ro (.int .i64))), (6, .one (.d (.sl (.st 22)))), (7, .one (.d (.int .i64))), (8, .one (.d (.int .i64)))], [.opq [.int .i64] [.mp (.bool), .sl (.st 22)]], [(0, 0)]⟩ (.sq (.n) (.sq (.n) (.sq (.bk none (.sq (.n) (.sq (.rg [1000000]) (.n)))) (.n))))))) Tryz.func151 Tryz.call151 rfl (by kernel_rfl) (by kernel_rfl) (by kernel_rfl) fun n x => by kernel_rfl

/-! bursary waits.reached 1 -/
def waits_reached_1_c2_self_j1 (n : Nat) : (List (Int × Bool)) × (List Edge) × Unit → Option (Nat × HL tabT [.mp (.bool), .sl (.st 22)]) := fun ⟨v7, v8, _⟩ =>
    some (0, (v7, v8, ()))
def waits_reached_1_c2_self_b (n : Nat) (self : Int × (List Edge) × (List (Int × Bool)) × Unit → Option ((List Edge) × (List (Int × Bool)))) (p0 : Int) (q0 : List Edge) (q2 : List (Int × Bool)) : Option ((List Edge) × (List (Int × Bool))) :=
  (waits_next n q0 p0).bind fun y1 =>
  (waits_next_1_fyd2 n y1.1 y1.2 (fun y2 z3 =>
        (mlook .i64 false z3.1 y2.1).bind fun w4 =>
        jn (waits_reached_1_c2_self_j1 n) fun j1 =>
        cond (!w4)
          ((mput .i64 z3.1 y2.1 true).bind fun l9 =>
          (self (y2.1, z3.2.1, l9, ())).bind fun y10 =>
          j1 (y10.2, y10.1, ()))
          (j1 (z3.1, z3.2.1, ()))) 0 (q2, q0, ())).bind fun y11 =>
  sel y11.2.1 [
    some (y11.2.2.2.1, y11.2.2.1),
    some (y11.2.2.2.1, y11.2.2.1),
    some (y11.2.2.2.1, y11.2.2.1)]
def waits_reached_1_c2_self (n : Nat) (p0 : Int) (q0 : List Edge) (q2 : List (Int × Bool)) : Option ((List Edge) × (List (Int × Bool))) := recF (fun n self x => waits_reached_1_c2_self_b n self x.1 x.2.1 x.2.2.1) n (p0, q0, q2, ())
@[reducible] def waits_reached_1_c2_self_ct : Ct tab := ⟨110, [.one (.d (.int .i64)), .one (.box 0 0), .one (.box 1 0), .one (.box 3 0)], [.box [.d (.sl (.st 22))], .box [.map 2], .map .i64 3 4 .bool, .box [.fn 110 [.bx 0, .bx 1, .bx 3]]], [], [(some 0, .box [.d (.sl (.st 22))]), (some 1, .box [.map 2]), (some 2, .map .i64 3 4 .bool), (some 3, .box [.fn 110 [.bx 0, .bx 1, .bx 3]])], ((List Edge) × (List (Int × Bool))), fun y => (y.1, y.2, ()), fun y => (y.1, y.2.1), fun _ => rfl, fun n x => waits_reached_1_c2_self n x.1 x.2.1 x.2.2.1⟩
theorem waits_reached_1_c2_self_ok : OkC Tryz.prog tab waits_reached_1_c2_self_ct := fn_rec (W := ⟨Tryz.prog, tab, tyOf, [waits_next_ct, waits_next_1_fyd2_ct], addO, dpO, false⟩) ⟨tabOk, ⟨waits_next_ok, waits_next_1_fyd2_ok, trivial⟩, addOk⟩ (by kernel_rfl) 19 Tryz.f110 (.sq (.n) (.bk none (.rf [(2, .one (.box 0 0)), (3, .one (.box 1 0))] [(1, .one (.box 3 0)), (8, .one (.fn 151 [.ro (.sl (.st 22)), .ro (.int .i64)]))] [.box [.map 2], .box [.fn 110 [.bx 3, .bx 0, .bx 1]], .map .i64 3 4 .bool, .box [.d (.sl (.st 22))]] [] [(0, 3), (1, 0), (2, 2), (3, 1)] 8 (.fn 151 [.ro (.sl (.st 22)), .ro (.int .i64)]) [.int .i64] (.n) (.bk none (.sq (.n) (.cd (some ⟨[(2, .one (.box 0 0)), (3, .one (.box 1 0))], [.box [.map 2], .box [.fn 110 [.bx 3, .bx 0, .bx 1]], .map .i64 3 4 .bool, .box [.d (.sl (.st 22))]], [(0, 0), (1, 1), (2, 2), (3, 3)]⟩) (.n) (.n))))))) Tryz.func110 Tryz.call110 rfl (by kernel_rfl) (by kernel_rfl) (by kernel_rfl) (fun n self x => waits_reached_1_c2_self_b n self x.1 x.2.1 x.2.2.1) (fun _ => rfl) (fun _ _ => rfl) fun self n x => by kernel_rfl

/-! bursary waits.reached -/
def waits_reached (n : Nat) (p0 : List Edge) (p1 : Int) : Option ((List (Int × Bool))) :=
  (waits_reached_1_c2_self n p1 p0 ([] : List (Int × Bool))).bind fun y1 =>
  some y1.2
@[reducible] def waits_reached_ct : Ct tab := ⟨68, [.one (.d (.sl (.st 22))), .one (.d (.int .i64))], [], [.one (.map 0)], [(none, .map .i64 3 4 .bool)], ((List (Int × Bool))), fun y => (y, ()), fun y => y.1, fun _ => rfl, fun n x => waits_reached n x.1 x.2.1⟩
theorem waits_reached_ok : OkC Tryz.prog tab waits_reached_ct := fn_ok (W := ⟨Tryz.prog, tab, tyOf, [waits_reached_1_c2_self_ct], addO, dpO, false⟩) ⟨tabOk, ⟨waits_reached_1_c2_self_ok, trivial⟩, addOk⟩ (by kernel_rfl) 13 Tryz.f68 (.n) Tryz.func68 Tryz.call68 rfl (by kernel_rfl) (by kernel_rfl) (by kernel_rfl) fun n x => by kernel_rfl

/-! bursary waits.Circles 1 -/
def waits_Circles_1 (n : Nat) (p0 : Edge) (p1 : List Edge) : Option Bool :=
  (waits_reached n p1 p0.to).bind fun y1 =>
  (mlook .i64 false y1 p0.from_).bind fun w2 =>
  some w2
@[reducible] def waits_Circles_1_ct : Ct tab := ⟨67, [.st 22, .one (.ro (.sl (.st 22)))], [], [.one (.d .bool)], [], Bool, fun y => (y, ()), fun y => y.1, fun _ => rfl, fun n x => waits_Circles_1 n x.1 x.2.1⟩
theorem waits_Circles_1_ok : OkC Tryz.prog tab waits_Circles_1_ct := fn_ok (W := ⟨Tryz.prog, tab, tyOf, [waits_reached_ct], addO, dpO, false⟩) ⟨tabOk, ⟨waits_reached_ok, trivial⟩, addOk⟩ (by kernel_rfl) 11 Tryz.f67 (.n) Tryz.func67 Tryz.call67 rfl (by kernel_rfl) (by kernel_rfl) (by kernel_rfl) fun n x => by kernel_rfl

/-! slices.IndexFunc   bursary api.Edge bursary api.Edge  -/
def slices_IndexFunc_Edge_f67_l1 (n : Nat) : Nat → (List Edge) × (List Edge) × Int × Int × Unit → Option Int := loopF fun r1 ⟨v1, v2, v3, v4, _⟩ =>
    cond (decide (v4 < v3))
      ((idx v1 v4).bind fun x5 =>
      (waits_Circles_1 n x5 v2).bind fun y6 =>
      cond y6
        (some v4)
        (r1 (v1, v2, v3, (IntKind.wrap .i64 (v4 + 1)), ())))
      (some (-1))
def slices_IndexFunc_Edge_f67 (n : Nat) (p0 : List Edge) (p1 : List Edge) : Option Int :=
  slices_IndexFunc_Edge_f67_l1 n n (p0, p1, (p0.length : Int), 0, ())
@[reducible] def slices_IndexFunc_Edge_f67_ct : Ct tab := ⟨109, [.one (.d (.sl (.st 22))), .one (.fn 67 [.ro (.sl (.st 22))])], [], [.one (.d (.int .i64))], [], Int, fun y => (y, ()), fun y => y.1, fun _ => rfl, fun n x => slices_IndexFunc_Edge_f67 n x.1 x.2.1⟩
theorem slices_IndexFunc_Edge_f67_ok : OkC Tryz.prog tab slices_IndexFunc_Edge_f67_ct := fn_ok (W := ⟨Tryz.prog, tab, tyOf, [waits_Circles_1_ct], addO, dpO, false⟩) ⟨tabOk, ⟨waits_Circles_1_ok, trivial⟩, addOk⟩ (by kernel_rfl) 19 Tryz.f109 (.sq (.n) (.sq (.sq (.n) (.bk none (.lp ⟨[(0, .one (.d (.sl (.st 22)))), (1, .one (.fn 67 [.ro (.sl (.st 22))])), (7, .one (.d (.int .i64))), (8, .one (.d (.int .i64)))], [], []⟩ (.n)))) (.n))) Tryz.func109 Tryz.call109 rfl (by kernel_rfl) (by kernel_rfl) (by kernel_rfl) fun n x => by kernel_rfl

/-! slices.ContainsFunc   bursary api.Edge bursary api.Edge  -/
def slices_ContainsFunc_Edge_f67 (n : Nat) (p0 : List Edge) (p1 : List Edge) : Option Bool :=
  (slices_IndexFunc_Edge_f67 n p0 p1).bind fun y1 =>
  some (decide (y1 ≥ 0))
@[reducible] def slices_ContainsFunc_Edge_f67_ct : Ct tab := ⟨66, [.one (.d (.sl (.st 22))), .one (.fn 67 [.ro (.sl (.st 22))])], [], [.one (.d .bool)], [], Bool, fun y => (y, ()), fun y => y.1, fun _ => rfl, fun n x => slices_ContainsFunc_Edge_f67 n x.1 x.2.1⟩
theorem slices_ContainsFunc_Edge_f67_ok : OkC Tryz.prog tab slices_ContainsFunc_Edge_f67_ct := fn_ok (W := ⟨Tryz.prog, tab, tyOf, [slices_IndexFunc_Edge_f67_ct], addO, dpO, false⟩) ⟨tabOk, ⟨slices_IndexFunc_Edge_f67_ok, trivial⟩, addOk⟩ (by kernel_rfl) 9 Tryz.f66 (.n) Tryz.func66 Tryz.call66 rfl (by kernel_rfl) (by kernel_rfl) (by kernel_rfl) fun n x => by kernel_rfl

/-! bursary waits.Circles -/
def waits_Circles (n : Nat) (p0 : List Edge) : Option Bool :=
  (waits_right n p0).bind fun y1 =>
  jn (fun (b2 : Bool) =>
      some b2) fun k3 =>
  cond y1
    ((slices_ContainsFunc_Edge_f67 n p0 p0).bind fun y4 =>
    k3 y4)
    (k3 false)
@[reducible] def waits_Circles_ct : Ct tab := ⟨32, [.one (.d (.sl (.st 22)))], [], [.one (.d .bool)], [], Bool, fun y => (y, ()), fun y => y.1, fun _ => rfl, fun n x => waits_Circles n x.1⟩
theorem waits_Circles_ok : OkC Tryz.prog tab waits_Circles_ct := fn_ok (W := ⟨Tryz.prog, tab, tyOf, [waits_right_ct, slices_ContainsFunc_Edge_f67_ct], addO, dpO, false⟩) ⟨tabOk, ⟨waits_right_ok, slices_ContainsFunc_Edge_f67_ok, trivial⟩, addOk⟩ (by kernel_rfl) 10 Tryz.f32 (.n) Tryz.func32 Tryz.call32 rfl (by kernel_rfl) (by kernel_rfl) (by kernel_rfl) fun n x => by kernel_rfl

/-! bursary judge.Free -/
def judge_Free (n : Nat) (p0 : Locks) (p1 : List Int) : Option Int :=
  (locks_Check n p0).bind fun y1 =>
  cond (y1 != 0)
    (some y1)
    ((judge_edges n p0 p1).bind fun y2 =>
    (waits_Circles n y2).bind fun y3 =>
    cond y3
      (some 374)
      (some 0))
@[reducible] def judge_Free_ct : Ct tab := ⟨13, [.st 21, .one (.d (.sl (.int .i64)))], [], [.one (.d (.int .i64))], [], Int, fun y => (y, ()), fun y => y.1, fun _ => rfl, fun n x => judge_Free n x.1 x.2.1⟩
theorem judge_Free_ok : OkC Tryz.prog tab judge_Free_ct := fn_ok (W := ⟨Tryz.prog, tab, tyOf, [locks_Check_ct, judge_edges_ct, waits_Circles_ct], addO, dpO, false⟩) ⟨tabOk, ⟨locks_Check_ok, judge_edges_ok, waits_Circles_ok, trivial⟩, addOk⟩ (by kernel_rfl) 15 Tryz.f13 (.n) Tryz.func13 Tryz.call13 rfl (by kernel_rfl) (by kernel_rfl) (by kernel_rfl) fun n x => by kernel_rfl

/-! bursary bursaryref08.RightRes -/
def ref08_RightRes (n : Nat) (p0 : Res) : Option Bool :=
  jn (fun (b1 : Bool) =>
      jn (fun (b3 : Bool) =>
          some b3) fun k4 =>
      cond b1
        (jn (fun (b5 : Bool) =>
            k4 b5) fun k6 =>
        cond p0.isKey
          (k6 true)
          (k6 (p0.id == 0)))
        (k4 false)) fun k2 =>
  cond (decide (p0.table ≥ 0))
    (k2 (decide (p0.table < 3)))
    (k2 false)
@[reducible] def ref08_RightRes_ct : Ct tab := ⟨69, [.st 17], [], [.one (.d .bool)], [], Bool, fun y => (y, ()), fun y => y.1, fun _ => rfl, fun n x => ref08_RightRes n x.1⟩
theorem ref08_RightRes_ok : OkC Tryz.prog tab ref08_RightRes_ct := fn_ok (W := ⟨Tryz.prog, tab, tyOf, [], addO, dpO, false⟩) ⟨tabOk, trivial, addOk⟩ (by kernel_rfl) 20 Tryz.f69 (.n) Tryz.func69 Tryz.call69 rfl (by kernel_rfl) (by kernel_rfl) (by kernel_rfl) fun n x => by kernel_rfl

/-! bursary bursaryref08.txn -/
def ref08_txn (n : Nat) (p0 : Int) : Option Bool :=
  jn (fun (b1 : Bool) =>
      some b1) fun k2 =>
  cond (decide (p0 ≥ 1))
    (k2 (decide (p0 ≤ 1073741824)))
    (k2 false)
@[reducible] def ref08_txn_ct : Ct tab := ⟨70, [.one (.d (.int .i64))], [], [.one (.d .bool)], [], Bool, fun y => (y, ()), fun y => y.1, fun _ => rfl, fun n x => ref08_txn n x.1⟩
theorem ref08_txn_ok : OkC Tryz.prog tab ref08_txn_ct := fn_ok (W := ⟨Tryz.prog, tab, tyOf, [], addO, dpO, false⟩) ⟨tabOk, trivial, addOk⟩ (by kernel_rfl) 9 Tryz.f70 (.n) Tryz.func70 Tryz.call70 rfl (by kernel_rfl) (by kernel_rfl) (by kernel_rfl) fun n x => by kernel_rfl

/-! bursary bursaryref07.Is -/
def ref07_Is (n : Nat) (p0 : Int) : Option Bool :=
  jn (fun (b1 : Bool) =>
      some b1) fun k2 =>
  cond (decide (p0 ≥ 0))
    (k2 (decide (p0 ≤ 6)))
    (k2 false)
@[reducible] def ref07_Is_ct : Ct tab := ⟨114, [.one (.d (.int .i64))], [], [.one (.d .bool)], [], Bool, fun y => (y, ()), fun y => y.1, fun _ => rfl, fun n x => ref07_Is n x.1⟩
theorem ref07_Is_ok : OkC Tryz.prog tab ref07_Is_ct := fn_ok (W := ⟨Tryz.prog, tab, tyOf, [], addO, dpO, false⟩) ⟨tabOk, trivial, addOk⟩ (by kernel_rfl) 9 Tryz.f114 (.n) Tryz.func114 Tryz.call114 rfl (by kernel_rfl) (by kernel_rfl) (by kernel_rfl) fun n x => by kernel_rfl

/-! bursary bursaryref07.pair -/
def ref07_pair (n : Nat) (p0 : Int) (p1 : Int) (p2 : Int) (p3 : Int) : Option Bool :=
  jn (fun (b1 : Bool) =>
      jn (fun (b3 : Bool) =>
          some b3) fun k4 =>
      cond b1
        (k4 true)
        (jn (fun (b5 : Bool) =>
            k4 b5) fun k6 =>
        cond (p0 == p3)
          (k6 (p1 == p2))
          (k6 false))) fun k2 =>
  cond (p0 == p2)
    (k2 (p1 == p3))
    (k2 false)
@[reducible] def ref07_pair_ct : Ct tab := ⟨115, [.one (.d (.int .i64)), .one (.d (.int .i64)), .one (.d (.int .i64)), .one (.d (.int .i64))], [], [.one (.d .bool)], [], Bool, fun y => (y, ()), fun y => y.1, fun _ => rfl, fun n x => ref07_pair n x.1 x.2.1 x.2.2.1 x.2.2.2.1⟩
theorem ref07_pair_ok : OkC Tryz.prog tab ref07_pair_ct := fn_ok (W := ⟨Tryz.prog, tab, tyOf, [], addO, dpO, false⟩) ⟨tabOk, trivial, addOk⟩ (by kernel_rfl) 27 Tryz.f115 (.n) Tryz.func115 Tryz.call115 rfl (by kernel_rfl) (by kernel_rfl) (by kernel_rfl) fun n x => by kernel_rfl

/-! bursary bursaryref07.Goes -/
def ref07_Goes (n : Nat) (p0 : Int) (p1 : Int) : Option Bool :=
  (ref07_Is n p0).bind fun y1 =>
  jn (fun (b2 : Bool) =>
      cond b2
        (some false)
        (jn (fun (b4 : Bool) =>
            cond b4
              (some true)
              ((ref07_pair n p0 p1 1 1).bind fun y6 =>
              jn (fun (b7 : Bool) =>
                  jn (fun (b9 : Bool) =>
                      jn (fun (b11 : Bool) =>
                          jn (fun (b13 : Bool) =>
                              jn (fun (b15 : Bool) =>
                                  jn (fun (b17 : Bool) =>
                                      some b17) fun k18 =>
                                  cond b15
                                    (k18 true)
                                    ((ref07_pair n p0 p1 6 6).bind fun y19 =>
                                    k18 y19)) fun k16 =>
                              cond b13
                                (k16 true)
                                ((ref07_pair n p0 p1 3 3).bind fun y20 =>
                                k16 y20)) fun k14 =>
                          cond b11
                            (k14 true)
                            ((ref07_pair n p0 p1 2 2).bind fun y21 =>
                            k14 y21)) fun k12 =>
                      cond b9
                        (k12 true)
                        ((ref07_pair n p0 p1 1 4).bind fun y22 =>
                        k12 y22)) fun k10 =>
                  cond b7
                    (k10 true)
                    ((ref07_pair n p0 p1 1 3).bind fun y23 =>
                    k10 y23)) fun k8 =>
              cond y6
                (k8 true)
                ((ref07_pair n p0 p1 1 2).bind fun y24 =>
                k8 y24))) fun k5 =>
        cond (p0 == 0)
          (k5 true)
          (k5 (p1 == 0)))) fun k3 =>
  cond (!y1)
    (k3 true)
    ((ref07_Is n p1).bind fun y25 =>
    k3 (!y25))
@[reducible] def ref07_Goes_ct : Ct tab := ⟨75, [.one (.d (.int .i64)), .one (.d (.int .i64))], [], [.one (.d .bool)], [], Bool, fun y => (y, ()), fun y => y.1, fun _ => rfl, fun n x => ref07_Goes n x.1 x.2.1⟩
theorem ref07_Goes_ok : OkC Tryz.prog tab ref07_Goes_ct := fn_ok (W := ⟨Tryz.prog, tab, tyOf, [ref07_Is_ct, ref07_pair_ct], addO, dpO, false⟩) ⟨tabOk, ⟨ref07_Is_ok, ref07_pair_ok, trivial⟩, addOk⟩ (by kernel_rfl) 52 Tryz.f75 (.n) Tryz.func75 Tryz.call75 rfl (by kernel_rfl) (by kernel_rfl) (by kernel_rfl) fun n x => by kernel_rfl

/-! bursary bursaryref08.goes -/
def ref08_goes_l1 (n : Nat) : Nat → Int × Int × (List Hold) × Int × Int × Unit → Option Bool := loopF fun r1 ⟨v1, v2, v3, v4, v5, _⟩ =>
    cond (decide (v5 < v4))
      ((idx v3 v5).bind fun x6 =>
      jn (fun (b7 : Bool) =>
          cond b7
            (some false)
            (r1 (v1, v2, v3, v4, (IntKind.wrap .i64 (v5 + 1)), ()))) fun k8 =>
      cond (x6.txn != v1)
        ((ref07_Goes n x6.mode v2).bind fun y9 =>
        k8 (!y9))
        (k8 false))
      (some true)
def ref08_goes (n : Nat) (p0 : Queue) (p1 : Int) (p2 : Int) : Option Bool :=
  ref08_goes_l1 n n (p1, p2, p0.holders, (p0.holders.length : Int), 0, ())
@[reducible] def ref08_goes_ct : Ct tab := ⟨72, [.st 20, .one (.d (.int .i64)), .one (.d (.int .i64))], [], [.one (.d .bool)], [], Bool, fun y => (y, ()), fun y => y.1, fun _ => rfl, fun n x => ref08_goes n x.1 x.2.1 x.2.2.1⟩
theorem ref08_goes_ok : OkC Tryz.prog tab ref08_goes_ct := fn_ok (W := ⟨Tryz.prog, tab, tyOf, [ref07_Goes_ct], addO, dpO, false⟩) ⟨tabOk, ⟨ref07_Goes_ok, trivial⟩, addOk⟩ (by kernel_rfl) 28 Tryz.f72 (.sq (.n) (.sq (.sq (.n) (.bk none (.lp ⟨[(1, .one (.d (.int .i64))), (2, .one (.d (.int .i64))), (10, .one (.d (.sl (.st 18)))), (11, .one (.d (.int .i64))), (12, .one (.d (.int .i64)))], [], []⟩ (.n)))) (.n))) Tryz.func72 Tryz.call72 rfl (by kernel_rfl) (by kernel_rfl) (by kernel_rfl) fun n x => by kernel_rfl

/-! bursary bursaryref07.Keys -/
def ref07_Keys (n : Nat) (p0 : Int) : Option Bool :=
  jn (fun (b1 : Bool) =>
      jn (fun (b3 : Bool) =>
          jn (fun (b5 : Bool) =>
              some b5) fun k6 =>
          cond b3
            (k6 true)
            (k6 (p0 == 6))) fun k4 =>
      cond b1
        (k4 true)
        (k4 (p0 == 5))) fun k2 =>
  cond (p0 == 0)
    (k2 true)
    (k2 (p0 == 3))
@[reducible] def ref07_Keys_ct : Ct tab := ⟨112, [.one (.d (.int .i64))], [], [.one (.d .bool)], [], Bool, fun y => (y, ()), fun y => y.1, fun _ => rfl, fun n x => ref07_Keys n x.1⟩
theorem ref07_Keys_ok : OkC Tryz.prog tab ref07_Keys_ct := fn_ok (W := ⟨Tryz.prog, tab, tyOf, [], addO, dpO, false⟩) ⟨tabOk, trivial, addOk⟩ (by kernel_rfl) 17 Tryz.f112 (.n) Tryz.func112 Tryz.call112 rfl (by kernel_rfl) (by kernel_rfl) (by kernel_rfl) fun n x => by kernel_rfl

/-! bursary bursaryref07.Tables -/
def ref07_Tables (n : Nat) (p0 : Int) : Option Bool :=
  (ref07_Is n p0).bind fun y1 =>
  jn (fun (b2 : Bool) =>
      some b2) fun k3 =>
  cond y1
    (k3 (p0 != 6))
    (k3 false)
@[reducible] def ref07_Tables_ct : Ct tab := ⟨113, [.one (.d (.int .i64))], [], [.one (.d .bool)], [], Bool, fun y => (y, ()), fun y => y.1, fun _ => rfl, fun n x => ref07_Tables n x.1⟩
theorem ref07_Tables_ok : OkC Tryz.prog tab ref07_Tables_ct := fn_ok (W := ⟨Tryz.prog, tab, tyOf, [ref07_Is_ct], addO, dpO, false⟩) ⟨tabOk, ⟨ref07_Is_ok, trivial⟩, addOk⟩ (by kernel_rfl) 9 Tryz.f113 (.n) Tryz.func113 Tryz.call113 rfl (by kernel_rfl) (by kernel_rfl) (by kernel_rfl) fun n x => by kernel_rfl

/-! bursary bursaryref08.RightMode -/
def ref08_RightMode (n : Nat) (p0 : Res) (p1 : Int) : Option Bool :=
  cond (p1 == 0)
    (some false)
    (cond p0.isKey
      ((ref07_Keys n p1).bind fun y1 =>
      some y1)
      ((ref07_Tables n p1).bind fun y2 =>
      some y2))
@[reducible] def ref08_RightMode_ct : Ct tab := ⟨71, [.st 17, .one (.d (.int .i64))], [], [.one (.d .bool)], [], Bool, fun y => (y, ()), fun y => y.1, fun _ => rfl, fun n x => ref08_RightMode n x.1 x.2.1⟩
theorem ref08_RightMode_ok : OkC Tryz.prog tab ref08_RightMode_ct := fn_ok (W := ⟨Tryz.prog, tab, tyOf, [ref07_Keys_ct, ref07_Tables_ct], addO, dpO, false⟩) ⟨tabOk, ⟨ref07_Keys_ok, ref07_Tables_ok, trivial⟩, addOk⟩ (by kernel_rfl) 13 Tryz.f71 (.n) Tryz.func71 Tryz.call71 rfl (by kernel_rfl) (by kernel_rfl) (by kernel_rfl) fun n x => by kernel_rfl

/-! bursary bursaryref07.Covers -/
def ref07_Covers (n : Nat) (p0 : Int) (p1 : Int) : Option Bool :=
  (ref07_Is n p0).bind fun y1 =>
  jn (fun (b2 : Bool) =>
      cond b2
        (some false)
        (jn (fun (b4 : Bool) =>
            jn (fun (b6 : Bool) =>
                cond b6
                  (some true)
                  (jn (fun (b8 : Bool) =>
                      jn (fun (b10 : Bool) =>
                          some b10) fun k11 =>
                      cond b8
                        (k11 true)
                        (jn (fun (b12 : Bool) =>
                            k11 b12) fun k13 =>
                        cond (p0 == 4)
                          (jn (fun (b14 : Bool) =>
                              k13 b14) fun k15 =>
                          cond (p1 == 2)
                            (k15 true)
                            (k15 (p1 == 3)))
                          (k13 false))) fun k9 =>
                  cond (p1 == 1)
                    (jn (fun (b16 : Bool) =>
                        jn (fun (b18 : Bool) =>
                            k9 b18) fun k19 =>
                        cond b16
                          (k19 true)
                          (k19 (p0 == 4))) fun k17 =>
                    cond (p0 == 2)
                      (k17 true)
                      (k17 (p0 == 3)))
                    (k9 false))) fun k7 =>
            cond b4
              (k7 true)
              (k7 (p0 == 5))) fun k5 =>
        cond (p0 == p1)
          (k5 true)
          (k5 (p1 == 0)))) fun k3 =>
  cond (!y1)
    (k3 true)
    ((ref07_Is n p1).bind fun y20 =>
    k3 (!y20))
@[reducible] def ref07_Covers_ct : Ct tab := ⟨74, [.one (.d (.int .i64)), .one (.d (.int .i64))], [], [.one (.d .bool)], [], Bool, fun y => (y, ()), fun y => y.1, fun _ => rfl, fun n x => ref07_Covers n x.1 x.2.1⟩
theorem ref07_Covers_ok : OkC Tryz.prog tab ref07_Covers_ct := fn_ok (W := ⟨Tryz.prog, tab, tyOf, [ref07_Is_ct], addO, dpO, false⟩) ⟨tabOk, ⟨ref07_Is_ok, trivial⟩, addOk⟩ (by kernel_rfl) 50 Tryz.f74 (.n) Tryz.func74 Tryz.call74 rfl (by kernel_rfl) (by kernel_rfl) (by kernel_rfl) fun n x => by kernel_rfl

/-! bursary bursaryref08.held -/
def ref08_held_l1 (n : Nat) : Nat → Int × (List Hold) × Int × Int × Unit → Option Int := loopF fun r1 ⟨v1, v2, v3, v4, _⟩ =>
    cond (decide (v4 < v3))
      ((idx v2 v4).bind fun x5 =>
      cond (x5.txn == v1)
        (some x5.mode)
        (r1 (v1, v2, v3, (IntKind.wrap .i64 (v4 + 1)), ())))
      (some 0)
def ref08_held (n : Nat) (p0 : Queue) (p1 : Int) : Option Int :=
  ref08_held_l1 n n (p1, p0.holders, (p0.holders.length : Int), 0, ())
@[reducible] def ref08_held_ct : Ct tab := ⟨73, [.st 20, .one (.d (.int .i64))], [], [.one (.d (.int .i64))], [], Int, fun y => (y, ()), fun y => y.1, fun _ => rfl, fun n x => ref08_held n x.1 x.2.1⟩
theorem ref08_held_ok : OkC Tryz.prog tab ref08_held_ct := fn_ok (W := ⟨Tryz.prog, tab, tyOf, [], addO, dpO, false⟩) ⟨tabOk, trivial, addOk⟩ (by kernel_rfl) 21 Tryz.f73 (.sq (.n) (.sq (.sq (.n) (.bk none (.lp ⟨[(1, .one (.d (.int .i64))), (8, .one (.d (.sl (.st 18)))), (9, .one (.d (.int .i64))), (10, .one (.d (.int .i64)))], [], []⟩ (.n)))) (.n))) Tryz.func73 Tryz.call73 rfl (by kernel_rfl) (by kernel_rfl) (by kernel_rfl) fun n x => by kernel_rfl

/-! bursary bursaryref08.RightQueue -/
def ref08_RightQueue_l3 (n : Nat) (r2 : (List Wait) × Int × Int × Queue × Unit → Option Bool) : Nat → (List Wait) × Int × Int × (List Wait) × Int × Int × Queue × Wait × Unit → Option Bool := loopF fun r3 ⟨v40, v41, v42, v43, v44, v45, v46, v47, _⟩ =>
    cond (decide (v45 < v44))
      ((idx v43 v45).bind fun x48 =>
      cond (x48.txn == v47.txn)
        (some false)
        (r3 (v40, v41, v42, v43, v44, (IntKind.wrap .i64 (v45 + 1)), v46, v47, ())))
      (r2 (v40, v41, (IntKind.wrap .i64 (v42 + 1)), v46, ()))
def ref08_RightQueue_l2 (n : Nat) : Nat → (List Wait) × Int × Int × Queue × Unit → Option Bool := loopF fun r2 ⟨v21, v22, v23, v24, _⟩ =>
    cond (decide (v23 < v22))
      ((idx v21 v23).bind fun x25 =>
      (ref08_txn n x25.txn).bind fun y26 =>
      jn (fun (b27 : Bool) =>
          jn (fun (b29 : Bool) =>
              jn (fun (b31 : Bool) =>
                  jn (fun (b33 : Bool) =>
                      cond b33
                        (some false)
                        (jn (fun (b35 : Bool) =>
                            jn (fun (b37 : Bool) =>
                                cond b37
                                  (some false)
                                  ((sub v24.waiters 0 v23).bind fun l39 =>
                                  ref08_RightQueue_l3 n r2 n (v21, v22, v23, l39, (l39.length : Int), 0, v24, x25, ()))) fun k38 =>
                            cond b35
                              ((idx v24.waiters (IntKind.wrap .i64 (v23 - 1))).bind fun x49 =>
                              k38 (x49.held == 0))
                              (k38 false)) fun k36 =>
                        cond (decide (v23 > 0))
                          (k36 (x25.held != 0))
                          (k36 false))) fun k34 =>
                  cond b31
                    (k34 true)
                    ((ref07_Covers n x25.mode x25.held).bind fun y50 =>
                    k34 (!y50))) fun k32 =>
              cond b29
                (k32 true)
                ((ref07_Covers n x25.held x25.mode).bind fun y51 =>
                k32 y51)) fun k30 =>
          cond b27
            (k30 true)
            ((ref08_held n v24 x25.txn).bind fun y52 =>
            k30 (x25.held != y52))) fun k28 =>
      cond (!y26)
        (k28 true)
        ((ref08_RightMode n v24.res x25.mode).bind fun y53 =>
        k28 (!y53)))
      (jn (fun (b54 : Bool) =>
          some b54) fun k55 =>
      cond ((v24.waiters.length : Int) == 0)
        (k55 true)
        ((idx v24.waiters 0).bind fun x56 =>
        (idx v24.waiters 0).bind fun x57 =>
        (ref08_goes n v24 x56.txn x57.mode).bind fun y58 =>
        k55 (!y58)))
def ref08_RightQueue_l1 (n : Nat) : Nat → (List Hold) × Int × Int × Queue × Unit → Option Bool := loopF fun r1 ⟨v4, v5, v6, v7, _⟩ =>
    cond (decide (v6 < v5))
      ((idx v4 v6).bind fun x8 =>
      (ref08_txn n x8.txn).bind fun y9 =>
      jn (fun (b10 : Bool) =>
          jn (fun (b12 : Bool) =>
              jn (fun (b14 : Bool) =>
                  cond b14
                    (some false)
                    (r1 (v4, v5, (IntKind.wrap .i64 (v6 + 1)), v7, ()))) fun k15 =>
              cond b12
                (k15 true)
                ((ref08_goes n v7 x8.txn x8.mode).bind fun y16 =>
                k15 (!y16))) fun k13 =>
          cond b10
            (k13 true)
            ((ref08_RightMode n v7.res x8.mode).bind fun y17 =>
            k13 (!y17))) fun k11 =>
      cond (!y9)
        (k11 true)
        (jn (fun (b18 : Bool) =>
            k11 b18) fun k19 =>
        cond (decide (v6 > 0))
          ((idx v7.holders (IntKind.wrap .i64 (v6 - 1))).bind fun x20 =>
          k19 (decide (x20.txn ≥ x8.txn)))
          (k19 false)))
      (ref08_RightQueue_l2 n n (v7.waiters, (v7.waiters.length : Int), 0, v7, ()))
def ref08_RightQueue (n : Nat) (p0 : Queue) : Option Bool :=
  (ref08_RightRes n p0.res).bind fun y1 =>
  jn (fun (b2 : Bool) =>
      cond b2
        (some false)
        (ref08_RightQueue_l1 n n (p0.holders, (p0.holders.length : Int), 0, p0, ()))) fun k3 =>
  cond (!y1)
    (k3 true)
    (k3 ((p0.holders.length : Int) == 0))
@[reducible] def ref08_RightQueue_ct : Ct tab := ⟨33, [.st 20], [], [.one (.d .bool)], [], Bool, fun y => (y, ()), fun y => y.1, fun _ => rfl, fun n x => ref08_RightQueue n x.1⟩
theorem ref08_RightQueue_ok : OkC Tryz.prog tab ref08_RightQueue_ct := fn_ok (W := ⟨Tryz.prog, tab, tyOf, [ref08_RightRes_ct, ref08_txn_ct, ref08_goes_ct, ref08_RightMode_ct, ref07_Covers_ct, ref08_held_ct], addO, dpO, false⟩) ⟨tabOk, ⟨ref08_RightRes_ok, ref08_txn_ok, ref08_goes_ok, ref08_RightMode_ok, ref07_Covers_ok, ref08_held_ok, trivial⟩, addOk⟩ (by kernel_rfl) 161 Tryz.f33 (.sq (.n) (.sq (.n) (.sq (.sq (.n) (.bk none (.lp ⟨[(1, .one (.box 0 0)), (20, .one (.d (.sl (.st 18)))), (21, .one (.d (.int .i64))), (22, .one (.d (.int .i64)))], [.bst 20], []⟩ (.n)))) (.sq (.sq (.n) (.bk none (.lp ⟨[(1, .one (.box 0 0)), (66, .one (.d (.sl (.st 19)))), (67, .one (.d (.int .i64))), (68, .one (.d (.int .i64)))], [.bst 20], []⟩ (.sq (.n) (.sq (.n) (.sq (.bk none (.sq (.n) (.sq (.n) (.sq (.n) (.sq (.n) (.bk none (.lp ⟨[(1, .one (.box 0 0)), (6, .one (.box 1 0)), (66, .one (.d (.sl (.st 19)))), (67, .one (.d (.int .i64))), (68, .one (.d (.int .i64))), (129, .one (.d (.sl (.st 19)))), (130, .one (.d (.int .i64))), (131, .one (.d (.int .i64)))], [.bst 20, .bst 19], []⟩ (.n)))))))) (.n))))))) (.n))))) Tryz.func33 Tryz.call33 rfl (by kernel_rfl) (by kernel_rfl) (by kernel_rfl) fun n x => by kernel_rfl

/-! bursary bursaryref08.order -/
def ref08_order_j1 (n : Nat) : Int × Unit → Option Int := fun ⟨v1, _⟩ =>
    some v1
def ref08_order (n : Nat) (p0 : Res) : Option Int :=
  jn (ref08_order_j1 n) fun j1 =>
  cond p0.isKey
    (j1 ((IntKind.wrap .i64 ((IntKind.wrap .i64 (p0.table * 100000)) + (IntKind.wrap .i64 (1 + (IntKind.wrap .i64 p0.id))))), ()))
    (j1 ((IntKind.wrap .i64 (p0.table * 100000)), ()))
@[reducible] def ref08_order_ct : Ct tab := ⟨34, [.st 17], [], [.one (.d (.int .i64))], [], Int, fun y => (y, ()), fun y => y.1, fun _ => rfl, fun n x => ref08_order n x.1⟩
theorem ref08_order_ok : OkC Tryz.prog tab ref08_order_ct := fn_ok (W := ⟨Tryz.prog, tab, tyOf, [], addO, dpO, false⟩) ⟨tabOk, trivial, addOk⟩ (by kernel_rfl) 16 Tryz.f34 (.sq (.n) (.sq (.n) (.sq (.sq (.n) (.cd (some ⟨[(3, .one (.d (.int .i64)))], [], []⟩) (.n) (.n))) (.n)))) Tryz.func34 Tryz.call34 rfl (by kernel_rfl) (by kernel_rfl) (by kernel_rfl) fun n x => by kernel_rfl

/-! bursary bursaryref08.Right -/
def ref08_Right_l2 (n : Nat) (r1 : (List Queue) × Int × Int × Locks × (List (Int × Bool)) × Unit → Option Bool) : Nat → (List Queue) × Int × Int × (List Wait) × Int × Int × Locks × (List (Int × Bool)) × Unit → Option Bool := loopF fun r2 ⟨v10, v11, v12, v13, v14, v15, v16, v17, _⟩ =>
    cond (decide (v15 < v14))
      ((idx v13 v15).bind fun x18 =>
      (mlook .i64 false v17 x18.txn).bind fun w19 =>
      cond w19
        (some false)
        ((mput .i64 v17 x18.txn true).bind fun l20 =>
        r2 (v10, v11, v12, v13, v14, (IntKind.wrap .i64 (v15 + 1)), v16, l20, ())))
      (r1 (v10, v11, (IntKind.wrap .i64 (v12 + 1)), v16, v17, ()))
def ref08_Right_l1 (n : Nat) : Nat → (List Queue) × Int × Int × Locks × (List (Int × Bool)) × Unit → Option Bool := loopF fun r1 ⟨v1, v2, v3, v4, v5, _⟩ =>
    cond (decide (v3 < v2))
      ((idx v1 v3).bind fun x6 =>
      (ref08_RightQueue n x6).bind fun y7 =>
      jn (fun (b8 : Bool) =>
          cond b8
            (some false)
            (ref08_Right_l2 n r1 n (v1, v2, v3, x6.waiters, (x6.waiters.length : Int), 0, v4, v5, ()))) fun k9 =>
      cond (!y7)
        (k9 true)
        (jn (fun (b21 : Bool) =>
            k9 b21) fun k22 =>
        cond (decide (v3 > 0))
          ((idx v4.queues (IntKind.wrap .i64 (v3 - 1))).bind fun x23 =>
          (ref08_order n x23.res).bind fun y24 =>
          (ref08_order n x6.res).bind fun y25 =>
          k22 (decide (y24 ≥ y25)))
          (k22 false)))
      (some true)
def ref08_Right (n : Nat) (p0 : Locks) : Option Bool :=
  cond (decide ((p0.queues.length : Int) > 500))
    (some false)
    (ref08_Right_l1 n n (p0.queues, (p0.queues.length : Int), 0, p0, ([] : List (Int × Bool)), ()))
@[reducible] def ref08_Right_ct : Ct tab := ⟨14, [.st 21], [], [.one (.d .bool)], [], Bool, fun y => (y, ()), fun y => y.1, fun _ => rfl, fun n x => ref08_Right n x.1⟩
theorem ref08_Right_ok : OkC Tryz.prog tab ref08_Right_ct := fn_ok (W := ⟨Tryz.prog, tab, tyOf, [ref08_RightQueue_ct, ref08_order_ct], addO, dpO, false⟩) ⟨tabOk, ⟨ref08_RightQueue_ok, ref08_order_ok, trivial⟩, addOk⟩ (by kernel_rfl) 58 Tryz.f14 (.sq (.n) (.sq (.n) (.sq (.n) (.sq (.sq (.n) (.bk none (.lp ⟨[(1, .one (.box 0 0)), (3, .one (.map 1)), (14, .one (.d (.sl (.st 20)))), (15, .one (.d (.int .i64))), (16, .one (.d (.int .i64)))], [.bst 21, .map .i64 3 4 .bool], []⟩ (.sq (.n) (.sq (.n) (.sq (.bk none (.sq (.n) (.sq (.n) (.sq (.n) (.bk none (.lp ⟨[(1, .one (.box 0 0)), (3, .one (.map 1)), (14, .one (.d (.sl (.st 20)))), (15, .one (.d (.int .i64))), (16, .one (.d (.int .i64))), (43, .one (.d (.sl (.st 19)))), (44, .one (.d (.int .i64))), (45, .one (.d (.int .i64)))], [.bst 21, .map .i64 3 4 .bool], []⟩ (.n))))))) (.n))))))) (.n))))) Tryz.func14 Tryz.call14 rfl (by kernel_rfl) (by kernel_rfl) (by kernel_rfl) fun n x => by kernel_rfl

/-! bursary bursaryref08.Blockers -/
def ref08_Blockers_j3 (n : Nat) (r2 : Int × (List Queue) × Int × Int × (List Wait) × Int × Int × (List (Int × Bool)) × Queue × Unit → Option ((List Int))) : Int × (List Queue) × Int × Int × (List Wait) × Int × Int × (List (Int × Bool)) × Queue × Unit → Option ((List Int)) := fun ⟨v66, v67, v68, v69, v70, v71, v72, v73, v74, _⟩ =>
    r2 (v66, v67, v68, v69, v70, v71, (IntKind.wrap .i64 (v72 + 1)), v73, v74, ())
def ref08_Blockers_j5 (n : Nat) (r4 : Int × Int × (List Queue) × Int × Int × (List Wait) × Int × Int × (List Hold) × Int × Int × (List (Int × Bool)) × Queue × Wait × Unit → Option ((List Int))) : Int × Int × (List Queue) × Int × Int × (List Wait) × Int × Int × (List Hold) × Int × Int × (List (Int × Bool)) × Queue × Wait × Unit → Option ((List Int)) := fun ⟨v94, v95, v96, v97, v98, v99, v100, v101, v102, v103, v104, v105, v106, v107, _⟩ =>
    r4 (v94, v95, v96, v97, v98, v99, v100, v101, v102, v103, (IntKind.wrap .i64 (v104 + 1)), v105, v106, v107, ())
def ref08_Blockers_l6 (n : Nat) (j3 : Int × (List Queue) × Int × Int × (List Wait) × Int × Int × (List (Int × Bool)) × Queue × Unit → Option ((List Int))) : Nat → Int × (List Queue) × Int × Int × (List Wait) × Int × Int × (List Wait) × Int × Int × (List (Int × Bool)) × Queue × Unit → Option ((List Int)) := loopF fun r6 ⟨v111, v112, v113, v114, v115, v116, v117, v118, v119, v120, v121, v122, _⟩ =>
    cond (decide (v120 < v119))
      ((idx v118 v120).bind fun x123 =>
      (mput .i64 v121 x123.txn true).bind fun l124 =>
      r6 (v111, v112, v113, v114, v115, v116, v117, v118, v119, (IntKind.wrap .i64 (v120 + 1)), l124, v122, ()))
      (j3 (v111, v112, v113, v114, v115, v116, v117, v121, v122, ()))
def ref08_Blockers_l4 (n : Nat) (j3 : Int × (List Queue) × Int × Int × (List Wait) × Int × Int × (List (Int × Bool)) × Queue × Unit → Option ((List Int))) : Nat → Int × Int × (List Queue) × Int × Int × (List Wait) × Int × Int × (List Hold) × Int × Int × (List (Int × Bool)) × Queue × Wait × Unit → Option ((List Int)) := loopF fun r4 ⟨v76, v77, v78, v79, v80, v81, v82, v83, v84, v85, v86, v87, v88, v89, _⟩ =>
    cond (decide (v86 < v85))
      ((idx v84 v86).bind fun x90 =>
      jn (fun (b91 : Bool) =>
          jn (ref08_Blockers_j5 n r4) fun j5 =>
          cond b91
            ((mput .i64 v87 x90.txn true).bind fun l108 =>
            j5 (v76, v77, v78, v79, v80, v81, v82, v83, v84, v85, v86, l108, v88, v89, ()))
            (j5 (v76, v77, v78, v79, v80, v81, v82, v83, v84, v85, v86, v87, v88, v89, ()))) fun k92 =>
      cond (x90.txn != v76)
        ((ref07_Goes n x90.mode v89.mode).bind fun y109 =>
        k92 (!y109))
        (k92 false))
      ((sub v88.waiters 0 v77).bind fun l110 =>
      ref08_Blockers_l6 n j3 n (v76, v78, v79, v80, v81, v82, v83, l110, (l110.length : Int), 0, v87, v88, ()))
def ref08_Blockers_l2 (n : Nat) (r1 : Int × (List Queue) × Int × Int × (List (Int × Bool)) × Unit → Option ((List Int))) : Nat → Int × (List Queue) × Int × Int × (List Wait) × Int × Int × (List (Int × Bool)) × Queue × Unit → Option ((List Int)) := loopF fun r2 ⟨v7, v8, v9, v10, v11, v12, v13, v14, v15, _⟩ =>
    cond (decide (v13 < v12))
      (jn (ref08_Blockers_j3 n r2) fun j3 =>
      (idx v11 v13).bind fun x75 =>
      cond (x75.txn != v7)
        (j3 (v7, v8, v9, v10, v11, v12, v13, v14, v15, ()))
        (ref08_Blockers_l4 n j3 n (v7, v13, v8, v9, v10, v11, v12, v13, v15.holders, (v15.holders.length : Int), 0, v14, v15, x75, ())))
      (r1 (v7, v8, v9, (IntKind.wrap .i64 (v10 + 1)), v14, ()))
def ref08_Blockers_j9 (n : Nat) (r8 : Int × (List Int) × (List (Int × Bool)) × (List Int) × Unit → Option ((List Int))) : Int × (List Int) × (List (Int × Bool)) × (List Int) × Unit → Option ((List Int)) := fun ⟨v137, v138, v139, v140, _⟩ =>
    r8 (v137, v138, v139, v140, ())
def ref08_Blockers_l8 (n : Nat) (r7 : (List (Int × Bool)) × (List Int) × Unit → Option ((List Int))) : Nat → Int × (List Int) × (List (Int × Bool)) × (List Int) × Unit → Option ((List Int)) := loopF fun r8 ⟨v127, v128, v129, v130, _⟩ =>
    pickK v130
      ((mdel .i64 v129 v127).bind fun l133 =>
      (app 8 v128 ([v127] : List Int)).bind fun l134 =>
      r7 (l133, l134, ()))
      (fun x131 l132 =>
      jn (fun (b135 : Bool) =>
          jn (ref08_Blockers_j9 n r8) fun j9 =>
          cond b135
            (j9 (x131, v128, v129, l132, ()))
            (j9 (v127, v128, v129, l132, ()))) fun k136 =>
      cond (v127 == 0)
        (k136 true)
        (k136 (decide (x131 < v127))))
def ref08_Blockers_l7 (n : Nat) : Nat → (List (Int × Bool)) × (List Int) × Unit → Option ((List Int)) := loopF fun r7 ⟨v125, v126, _⟩ =>
    cond (decide (((mkeys v125).length : Int) > 0))
      (ref08_Blockers_l8 n r7 n (0, v126, v125, (mkeys v125), ()))
      (some v126)
def ref08_Blockers_l1 (n : Nat) : Nat → Int × (List Queue) × Int × Int × (List (Int × Bool)) × Unit → Option ((List Int)) := loopF fun r1 ⟨v1, v2, v3, v4, v5, _⟩ =>
    cond (decide (v4 < v3))
      ((idx v2 v4).bind fun x6 =>
      ref08_Blockers_l2 n r1 n (v1, v2, v3, v4, x6.waiters, (x6.waiters.length : Int), 0, v5, x6, ()))
      (ref08_Blockers_l7 n n (v5, ([] : List Int), ()))
def ref08_Blockers (n : Nat) (p0 : Locks) (p1 : Int) : Option ((List Int)) :=
  ref08_Blockers_l1 n n (p1, p0.queues, (p0.queues.length : Int), 0, ([] : List (Int × Bool)), ())
@[reducible] def ref08_Blockers_ct : Ct tab := ⟨35, [.st 21, .one (.d (.int .i64))], [], [.one (.own 0)], [(none, .row 3 (.int .i64))], ((List Int)), fun y => (y, ()), fun y => y.1, fun _ => rfl, fun n x => ref08_Blockers n x.1 x.2.1⟩
theorem ref08_Blockers_ok : OkC Tryz.prog tab ref08_Blockers_ct := fn_ok (W := ⟨Tryz.prog, tab, tyOf, [ref07_Goes_ct], addO, dpO, false⟩) ⟨tabOk, ⟨ref07_Goes_ok, trivial⟩, addOk⟩ (by kernel_rfl) 99 Tryz.f35 (.sq (.n) (.sq (.n) (.sq (.sq (.n) (.bk none (.lp ⟨[(1, .one (.d (.int .i64))), (5, .one (.map 0)), (19, .one (.d (.sl (.st 20)))), (20, .one (.d (.int .i64))), (21, .one (.d (.int .i64)))], [.map .i64 3 4 .bool], []⟩ (.sq (.n) (.sq (.n) (.sq (.bk none (.sq (.n) (.sq (.n) (.bk none (.lp ⟨[(1, .one (.d (.int .i64))), (5, .one (.map 0)), (7, .one (.box 1 0)), (19, .one (.d (.sl (.st 20)))), (20, .one (.d (.int .i64))), (21, .one (.d (.int .i64))), (26, .one (.d (.sl (.st 19)))), (27, .one (.d (.int .i64))), (28, .one (.d (.int .i64)))], [.map .i64 3 4 .bool, .bst 20], []⟩ (.sq (.n) (.sq (.n) (.sq (.bk (some ⟨[(1, .one (.d (.int .i64))), (5, .one (.map 0)), (7, .one (.box 1 0)), (19, .one (.d (.sl (.st 20)))), (20, .one (.d (.int .i64))), (21, .one (.d (.int .i64))), (26, .one (.d (.sl (.st 19)))), (27, .one (.d (.int .i64))), (28, .one (.d (.int .i64)))], [.map .i64 3 4 .bool, .bst 20], []⟩) (.sq (.n) (.sq (.n) (.sq (.sq (.n) (.bk none (.lp ⟨[(1, .one (.d (.int .i64))), (5, .one (.map 0)), (7, .one (.box 1 0)), (8, .one (.d (.int .i64))), (9, .one (.box 2 0)), (19, .one (.d (.sl (.st 20)))), (20, .one (.d (.int .i64))), (21, .one (.d (.int .i64))), (26, .one (.d (.sl (.st 19)))), (27, .one (.d (.int .i64))), (28, .one (.d (.int .i64))), (38, .one (.d (.sl (.st 18)))), (39, .one (.d (.int .i64))), (40, .one (.d (.int .i64)))], [.map .i64 3 4 .bool, .bst 20, .bst 19], []⟩ (.sq (.n) (.sq (.n) (.sq (.bk none (.sq (.n) (.sq (.n) (.cd (some ⟨[(1, .one (.d (.int .i64))), (5, .one (.map 0)), (7, .one (.box 1 0)), (8, .one (.d (.int .i64))), (9, .one (.box 2 0)), (19, .one (.d (.sl (.st 20)))), (20, .one (.d (.int .i64))), (21, .one (.d (.int .i64))), (26, .one (.d (.sl (.st 19)))), (27, .one (.d (.int .i64))), (28, .one (.d (.int .i64))), (38, .one (.d (.sl (.st 18)))), (39, .one (.d (.int .i64))), (40, .one (.d (.int .i64)))], [.map .i64 3 4 .bool, .bst 20, .bst 19], []⟩) (.n) (.n))))) (.n))))))) (.sq (.n) (.bk none (.lp ⟨[(1, .one (.d (.int .i64))), (5, .one (.map 0)), (7, .one (.box 1 0)), (19, .one (.d (.sl (.st 20)))), (20, .one (.d (.int .i64))), (21, .one (.d (.int .i64))), (26, .one (.d (.sl (.st 19)))), (27, .one (.d (.int .i64))), (28, .one (.d (.int .i64))), (63, .one (.d (.sl (.st 19)))), (64, .one (.d (.int .i64))), (65, .one (.d (.int .i64)))], [.map .i64 3 4 .bool, .bst 20], []⟩ (.n)))))))) (.n))))))))) (.n))))))) (.sq (.n) (.sq (.bk none (.lp ⟨[(5, .one (.map 0)), (14, .one (.own 1))], [.map .i64 3 4 .bool, .row 3 (.int .i64)], []⟩ (.sq (.n) (.bk none (.sq (.n) (.sq (.sq (.n) (.bk none (.lp ⟨[(5, .one (.map 0)), (14, .one (.own 1)), (15, .one (.d (.int .i64))), (79, .one (.box 2 0))], [.gst, .row 3 (.int .i64), .mit 0 .i64 3 4 .bool], []⟩ (.sq (.n) (.sq (.n) (.bk none (.sq (.n) (.sq (.n) (.cd (some ⟨[(5, .one (.map 0)), (14, .one (.own 1)), (15, .one (.d (.int .i64))), (79, .one (.box 2 0))], [.gst, .row 3 (.int .i64), .mit 0 .i64 3 4 .bool], []⟩) (.n) (.n)))))))))) (.n))))))) (.n)))))) Tryz.func35 Tryz.call35 rfl (by kernel_rfl) (by kernel_rfl) (by kernel_rfl) fun n x => by kernel_rfl

/-! bursary bursaryref09.before -/
def ref09_before (n : Nat) (p0 : Edge) (p1 : Edge) : Option Bool :=
  jn (fun (b1 : Bool) =>
      some b1) fun k2 =>
  cond (decide (p0.from_ < p1.from_))
    (k2 true)
    (jn (fun (b3 : Bool) =>
        k2 b3) fun k4 =>
    cond (p0.from_ == p1.from_)
      (k4 (decide (p0.to < p1.to)))
      (k4 false))
@[reducible] def ref09_before_ct : Ct tab := ⟨76, [.st 22, .st 22], [], [.one (.d .bool)], [], Bool, fun y => (y, ()), fun y => y.1, fun _ => rfl, fun n x => ref09_before n x.1 x.2.1⟩
theorem ref09_before_ok : OkC Tryz.prog tab ref09_before_ct := fn_ok (W := ⟨Tryz.prog, tab, tyOf, [], addO, dpO, false⟩) ⟨tabOk, trivial, addOk⟩ (by kernel_rfl) 24 Tryz.f76 (.n) Tryz.func76 Tryz.call76 rfl (by kernel_rfl) (by kernel_rfl) (by kernel_rfl) fun n x => by kernel_rfl

/-! bursary bursaryref09.Add -/
def ref09_Add_j4 (n : Nat) (r2 : (List Edge) × (List Edge) × Int × Bool × Int × (List Edge) × Unit → Option ((List Edge))) : (List Edge) × (List Edge) × Int × Bool × Int × (List Edge) × Unit → Option ((List Edge)) := fun ⟨v22, v23, v24, v25, v26, v27, _⟩ =>
    (idx v23 v26).bind fun x28 =>
    (app 16 v27 ([x28] : List Edge)).bind fun l29 =>
    r2 (v22, v23, v24, v25, (IntKind.wrap .i64 (v26 + 1)), l29, ())
def ref09_Add_j3 (n : Nat) (r2 : (List Edge) × (List Edge) × Int × Bool × Int × (List Edge) × Unit → Option ((List Edge))) : (List Edge) × (List Edge) × Int × Bool × Int × (List Edge) × Unit → Option ((List Edge)) := fun ⟨v12, v13, v14, v15, v16, v17, _⟩ =>
    jn (fun (b18 : Bool) =>
        jn (ref09_Add_j4 n r2) fun j4 =>
        cond b18
          ((idx v12 v14).bind fun x30 =>
          (app 16 v17 ([x30] : List Edge)).bind fun l31 =>
          j4 (v12, v13, v14, true, v16, l31, ()))
          (j4 (v12, v13, v14, v15, v16, v17, ()))) fun k19 =>
    cond (!v15)
      ((idx v12 v14).bind fun x32 =>
      (idx v13 v16).bind fun x33 =>
      (ref09_before n x32 x33).bind fun y34 =>
      k19 y34)
      (k19 false)
def ref09_Add_j5 (n : Nat) (r1 : (List Edge) × (List Edge) × Int × Unit → Option ((List Edge))) : (List Edge) × Int × (List Edge) × Unit → Option ((List Edge)) := fun ⟨v37, v38, v39, _⟩ =>
    r1 (v37, v39, (IntKind.wrap .i64 (v38 + 1)), ())
def ref09_Add_l2 (n : Nat) (r1 : (List Edge) × (List Edge) × Int × Unit → Option ((List Edge))) : Nat → (List Edge) × (List Edge) × Int × Bool × Int × (List Edge) × Unit → Option ((List Edge)) := loopF fun r2 ⟨v4, v5, v6, v7, v8, v9, _⟩ =>
    cond (decide (v8 < (v5.length : Int)))
      ((idx v5 v8).bind fun x10 =>
      (idx v4 v6).bind fun x11 =>
      jn (ref09_Add_j3 n r2) fun j3 =>
      cond (Edge.eqb x10 x11)
        (j3 (v4, v5, v6, true, v8, v9, ()))
        (j3 (v4, v5, v6, v7, v8, v9, ())))
      (jn (ref09_Add_j5 n r1) fun j5 =>
      cond (!v7)
        ((idx v4 v6).bind fun x40 =>
        (app 16 v9 ([x40] : List Edge)).bind fun l41 =>
        j5 (v4, v6, l41, ()))
        (j5 (v4, v6, v9, ())))
def ref09_Add_l1 (n : Nat) : Nat → (List Edge) × (List Edge) × Int × Unit → Option ((List Edge)) := loopF fun r1 ⟨v1, v2, v3, _⟩ =>
    cond (decide (v3 < (v1.length : Int)))
      (ref09_Add_l2 n r1 n (v1, v2, v3, false, 0, ([] : List Edge), ()))
      (some v2)
def ref09_Add (n : Nat) (p0 : List Edge) (p1 : List Edge) : Option ((List Edge)) :=
  ref09_Add_l1 n n (p1, p0, 0, ())
@[reducible] def ref09_Add_ct : Ct tab := ⟨36, [.one (.d (.sl (.st 22))), .one (.d (.sl (.st 22)))], [], [.one (.d (.sl (.st 22)))], [], ((List Edge)), fun y => (y, ()), fun y => y.1, fun _ => rfl, fun n x => ref09_Add n x.1 x.2.1⟩
theorem ref09_Add_ok : OkC Tryz.prog tab ref09_Add_ct := fn_ok (W := ⟨Tryz.prog, tab, tyOf, [ref09_before_ct], addO, dpO, false⟩) ⟨tabOk, ⟨ref09_before_ok, trivial⟩, addOk⟩ (by kernel_rfl) 70 Tryz.f36 (.sq (.n) (.sq (.n) (.sq (.sq (.n) (.bk none (.lp ⟨[(1, .one (.d (.sl (.st 22)))), (5, .one (.d (.sl (.st 22)))), (6, .one (.d (.int .i64)))], [], []⟩ (.sq (.n) (.sq (.bk none (.sq (.n) (.sq (.n) (.sq (.sq (.n) (.bk none (.lp ⟨[(1, .one (.d (.sl (.st 22)))), (5, .one (.d (.sl (.st 22)))), (6, .one (.d (.int .i64))), (7, .one (.own 0)), (8, .one (.d .bool)), (9, .one (.d (.int .i64)))], [.row 97 (.st 22)], []⟩ (.sq (.n) (.sq (.bk none (.sq (.sq (.n) (.cd (some ⟨[(1, .one (.d (.sl (.st 22)))), (5, .one (.d (.sl (.st 22)))), (6, .one (.d (.int .i64))), (7, .one (.own 0)), (8, .one (.d .bool)), (9, .one (.d (.int .i64)))], [.row 97 (.st 22)], []⟩) (.n) (.n))) (.sq (.sq (.n) (.cd (some ⟨[(1, .one (.d (.sl (.st 22)))), (5, .one (.d (.sl (.st 22)))), (6, .one (.d (.int .i64))), (7, .one (.own 0)), (8, .one (.d .bool)), (9, .one (.d (.int .i64)))], [.row 97 (.st 22)], []⟩) (.n) (.n))) (.n)))) (.n)))))) (.sq (.sq (.n) (.cd (some ⟨[(1, .one (.d (.sl (.st 22)))), (6, .one (.d (.int .i64))), (7, .one (.own 0))], [.row 97 (.st 22)], []⟩) (.n) (.n))) (.n)))))) (.n)))))) (.n)))) Tryz.func36 Tryz.call36 rfl (by kernel_rfl) (by kernel_rfl) (by kernel_rfl) fun n x => by kernel_rfl

end
end Go.Proofs.YtegnflodgnfffaaGreat
