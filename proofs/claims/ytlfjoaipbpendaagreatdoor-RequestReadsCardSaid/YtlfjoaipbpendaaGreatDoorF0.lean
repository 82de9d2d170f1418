/- Functions of the program: plain twins and their contracts, printed by program. -/
import Derived.Test.YtlfjoaipbpendaaGreatDoorTypes
namespace Go.Proofs.YtlfjoaipbpendaaGreatDoor
open Go Go.Bur Go.RowKit
set_option linter.unusedVariables false
set_option linter.unusedSimpArgs false
set_option maxRecDepth 100000
noncomputable section
/-! bursary bursarylaw19.two -/
def law19_two (n : Nat) : Option Schema :=
  some (Schema.mk ([(Bounds.mk 0 10), (Bounds.mk 0 10)] : List Bounds))
@[reducible] def law19_two_ct : Ct tab := ⟨33, [], [], [.st 1], [], Schema, fun y => (y, ()), fun y => y.1, fun _ => rfl, fun n x => law19_two n⟩
theorem law19_two_ok : OkC Tryz.prog tab law19_two_ct := fn_ok (W := ⟨Tryz.prog, tab, tyOf, [], addO, dpO, false⟩) ⟨tabOk, trivial, addOk⟩ (by kernel_rfl) 5 Tryz.f33 (.n) Tryz.func33 Tryz.call33 rfl (by kernel_rfl) (by kernel_rfl) (by kernel_rfl) fun n x => by kernel_rfl

/-! bursary row.Check 1 -/
def row_Check_1 (n : Nat) (p0 : Bounds) : Option Bool :=
  some (decide (p0.min > p0.max))
@[reducible] def row_Check_1_ct : Ct tab := ⟨72, [.st 0], [], [.one (.d .bool)], [], Bool, fun y => (y, ()), fun y => y.1, fun _ => rfl, fun n x => row_Check_1 n x.1⟩
theorem row_Check_1_ok : OkC Tryz.prog tab row_Check_1_ct := fn_ok (W := ⟨Tryz.prog, tab, tyOf, [], addO, dpO, false⟩) ⟨tabOk, trivial, addOk⟩ (by kernel_rfl) 8 Tryz.f72 (.n) Tryz.func72 Tryz.call72 rfl (by kernel_rfl) (by kernel_rfl) (by kernel_rfl) fun n x => by kernel_rfl

/-! slices.IndexFunc   bursary api.Bounds bursary api.Bounds  -/
def slices_IndexFunc_Bounds_f72_l1 (n : Nat) : Nat → (List Bounds) × Int × Int × Unit → Option Int := loopF fun r1 ⟨v1, v2, v3, _⟩ =>
    cond (decide (v3 < v2))
      ((idx v1 v3).bind fun x4 =>
      (row_Check_1 n x4).bind fun y5 =>
      cond y5
        (some v3)
        (r1 (v1, v2, (IntKind.wrap .i64 (v3 + 1)), ())))
      (some (-1))
def slices_IndexFunc_Bounds_f72 (n : Nat) (p0 : List Bounds) : Option Int :=
  slices_IndexFunc_Bounds_f72_l1 n n (p0, (p0.length : Int), 0, ())
@[reducible] def slices_IndexFunc_Bounds_f72_ct : Ct tab := ⟨102, [.one (.d (.sl (.st 0))), .one (.fn 72 [])], [], [.one (.d (.int .i64))], [], Int, fun y => (y, ()), fun y => y.1, fun _ => rfl, fun n x => slices_IndexFunc_Bounds_f72 n x.1⟩
theorem slices_IndexFunc_Bounds_f72_ok : OkC Tryz.prog tab slices_IndexFunc_Bounds_f72_ct := fn_ok (W := ⟨Tryz.prog, tab, tyOf, [row_Check_1_ct], addO, dpO, false⟩) ⟨tabOk, ⟨row_Check_1_ok, trivial⟩, addOk⟩ (by kernel_rfl) 19 Tryz.f102 (.sq (.n) (.sq (.sq (.n) (.bk none (.lp ⟨[(0, .one (.d (.sl (.st 0)))), (1, .one (.fn 72 [])), (7, .one (.d (.int .i64))), (8, .one (.d (.int .i64)))], [], []⟩ (.n)))) (.n))) Tryz.func102 Tryz.call102 rfl (by kernel_rfl) (by kernel_rfl) (by kernel_rfl) fun n x => by kernel_rfl

/-! slices.ContainsFunc   bursary api.Bounds bursary api.Bounds  -/
def slices_ContainsFunc_Bounds_f72 (n : Nat) (p0 : List Bounds) : Option Bool :=
  (slices_IndexFunc_Bounds_f72 n p0).bind fun y1 =>
  some (decide (y1 ≥ 0))
@[reducible] def slices_ContainsFunc_Bounds_f72_ct : Ct tab := ⟨73, [.one (.d (.sl (.st 0))), .one (.fn 72 [])], [], [.one (.d .bool)], [], Bool, fun y => (y, ()), fun y => y.1, fun _ => rfl, fun n x => slices_ContainsFunc_Bounds_f72 n x.1⟩
theorem slices_ContainsFunc_Bounds_f72_ok : OkC Tryz.prog tab slices_ContainsFunc_Bounds_f72_ct := fn_ok (W := ⟨Tryz.prog, tab, tyOf, [slices_IndexFunc_Bounds_f72_ct], addO, dpO, false⟩) ⟨tabOk, ⟨slices_IndexFunc_Bounds_f72_ok, trivial⟩, addOk⟩ (by kernel_rfl) 9 Tryz.f73 (.n) Tryz.func73 Tryz.call73 rfl (by kernel_rfl) (by kernel_rfl) (by kernel_rfl) fun n x => by kernel_rfl

/-! bursary row.Check -/
def row_Check (n : Nat) (p0 : Schema) : Option Int :=
  jn (fun (b1 : Bool) =>
      jn (fun (b3 : Bool) =>
          cond b3
            (some 150)
            (some 0)) fun k4 =>
      cond b1
        (k4 true)
        ((slices_ContainsFunc_Bounds_f72 n p0.tables).bind fun y5 =>
        k4 y5)) fun k2 =>
  cond (decide ((p0.tables.length : Int) < 1))
    (k2 true)
    (k2 (decide ((p0.tables.length : Int) > 3)))
@[reducible] def row_Check_ct : Ct tab := ⟨40, [.st 1], [], [.one (.d (.int .i64))], [], Int, fun y => (y, ()), fun y => y.1, fun _ => rfl, fun n x => row_Check n x.1⟩
theorem row_Check_ok : OkC Tryz.prog tab row_Check_ct := fn_ok (W := ⟨Tryz.prog, tab, tyOf, [slices_ContainsFunc_Bounds_f72_ct], addO, dpO, false⟩) ⟨tabOk, ⟨slices_ContainsFunc_Bounds_f72_ok, trivial⟩, addOk⟩ (by kernel_rfl) 20 Tryz.f40 (.n) Tryz.func40 Tryz.call40 rfl (by kernel_rfl) (by kernel_rfl) (by kernel_rfl) fun n x => by kernel_rfl

/-! bursary row.known -/
def row_known (n : Nat) (p0 : Schema) (p1 : Key) : Option row_rule :=
  jn (fun (b1 : Bool) =>
      some (row_rule.mk b1 151)) fun k2 =>
  cond (decide (p1.table ≥ 0))
    (k2 (decide (p1.table < (p0.tables.length : Int))))
    (k2 false)
@[reducible] def row_known_ct : Ct tab := ⟨97, [.st 1, .st 2], [], [.st 4], [], row_rule, fun y => (y, ()), fun y => y.1, fun _ => rfl, fun n x => row_known n x.1 x.2.1⟩
theorem row_known_ok : OkC Tryz.prog tab row_known_ct := fn_ok (W := ⟨Tryz.prog, tab, tyOf, [], addO, dpO, false⟩) ⟨tabOk, trivial, addOk⟩ (by kernel_rfl) 17 Tryz.f97 (.n) Tryz.func97 Tryz.call97 rfl (by kernel_rfl) (by kernel_rfl) (by kernel_rfl) fun n x => by kernel_rfl

/-! bursary row.all -/
def row_all_l1 (n : Nat) : Nat → (List row_rule) × Int × Int × Unit → Option Int := loopF fun r1 ⟨v1, v2, v3, _⟩ =>
    cond (decide (v3 < v2))
      ((idx v1 v3).bind fun x4 =>
      cond (!x4.is)
        (some x4.no)
        (r1 (v1, v2, (IntKind.wrap .i64 (v3 + 1)), ())))
      (some 0)
def row_all (n : Nat) (p0 : List row_rule) : Option Int :=
  row_all_l1 n n (p0, (p0.length : Int), 0, ())
@[reducible] def row_all_ct : Ct tab := ⟨62, [.one (.d (.sl (.st 4)))], [], [.one (.d (.int .i64))], [], Int, fun y => (y, ()), fun y => y.1, fun _ => rfl, fun n x => row_all n x.1⟩
theorem row_all_ok : OkC Tryz.prog tab row_all_ct := fn_ok (W := ⟨Tryz.prog, tab, tyOf, [], addO, dpO, false⟩) ⟨tabOk, trivial, addOk⟩ (by kernel_rfl) 17 Tryz.f62 (.sq (.n) (.sq (.sq (.n) (.bk none (.lp ⟨[(5, .one (.d (.sl (.st 4)))), (6, .one (.d (.int .i64))), (7, .one (.d (.int .i64)))], [], []⟩ (.n)))) (.n))) Tryz.func62 Tryz.call62 rfl (by kernel_rfl) (by kernel_rfl) (by kernel_rfl) fun n x => by kernel_rfl

/-! bursary row.CheckKey -/
def row_CheckKey (n : Nat) (p0 : Schema) (p1 : Key) : Option Int :=
  (row_Check n p0).bind fun y1 =>
  cond (y1 != 0)
    (some y1)
    ((row_known n p0 p1).bind fun y2 =>
    (row_all n ([y2] : List row_rule)).bind fun y3 =>
    some y3)
@[reducible] def row_CheckKey_ct : Ct tab := ⟨69, [.st 1, .st 2], [], [.one (.d (.int .i64))], [], Int, fun y => (y, ()), fun y => y.1, fun _ => rfl, fun n x => row_CheckKey n x.1 x.2.1⟩
theorem row_CheckKey_ok : OkC Tryz.prog tab row_CheckKey_ct := fn_ok (W := ⟨Tryz.prog, tab, tyOf, [row_Check_ct, row_known_ct, row_all_ct], addO, dpO, false⟩) ⟨tabOk, ⟨row_Check_ok, row_known_ok, row_all_ok, trivial⟩, addOk⟩ (by kernel_rfl) 16 Tryz.f69 (.n) Tryz.func69 Tryz.call69 rfl (by kernel_rfl) (by kernel_rfl) (by kernel_rfl) fun n x => by kernel_rfl

/-! bursary ideal.bare -/
def ideal_bare_j2 (n : Nat) : Request × Request × Unit → Option Request := fun ⟨v163, v164, _⟩ =>
    some (Request.mk 0 v163.key v163.to v163.val v163.note v163.n)
def ideal_bare_j3 (n : Nat) (j2 : Request × Request × Unit → Option Request) : Request × Request × Unit → Option Request := fun ⟨v243, v244, _⟩ =>
    j2 (v243, v244, ())
def ideal_bare_j4 (n : Nat) (j3 : Request × Request × Unit → Option Request) : Request × Request × Unit → Option Request := fun ⟨v283, v284, _⟩ =>
    j3 (v283, v284, ())
def ideal_bare_j5 (n : Nat) (j4 : Request × Request × Unit → Option Request) : Request × Request × Unit → Option Request := fun ⟨v303, v304, _⟩ =>
    j4 (v303, v304, ())
def ideal_bare_j7 (n : Nat) (j5 : Request × Request × Unit → Option Request) : Request × Request × Unit → Option Request := fun ⟨v315, v316, _⟩ =>
    j5 (v315, v316, ())
def ideal_bare_j8 (n : Nat) (j7 : Request × Request × Unit → Option Request) : Request × Request × Unit → Option Request := fun ⟨v319, v320, _⟩ =>
    j7 (v319, v320, ())
def ideal_bare_j9 (n : Nat) (j8 : Request × Request × Unit → Option Request) : Request × Request × Unit → Option Request := fun ⟨v321, v322, _⟩ =>
    j8 (v321, v322, ())
def ideal_bare_j6 (n : Nat) (j5 : Request × Request × Unit → Option Request) : Int × Bool × Request × Request × Unit → Option Request := fun ⟨v305, v306, v307, v308, _⟩ =>
    jn (ideal_bare_j7 n j5) fun j7 =>
    cond v306
      (j7 ((Request.mk v307.kind (Key.mk 0 0) v307.to 0 v307.note v307.n), v308, ()))
      (jn (ideal_bare_j8 n j7) fun j8 =>
      cond (v305 == 8)
        (j8 ((Request.mk v307.kind (Key.mk 0 0) (Key.mk 0 0) 0 v307.note v307.n), v308, ()))
        (jn (ideal_bare_j9 n j8) fun j9 =>
        cond (v305 == 10)
          (j9 ((Request.mk v307.kind v307.key v307.to v307.val v307.note 0), v308, ()))
          (j9 (v307, v308, ()))))
def ideal_bare_j1 (n : Nat) : Int × Bool × Request × Request × Unit → Option Request := fun ⟨v1, v2, v3, v4, _⟩ =>
    jn (ideal_bare_j2 n) fun j2 =>
    cond v2
      (j2 ((Request.mk v3.kind (Key.mk 0 0) v3.to v3.val v3.note v3.n), v4, ()))
      (jn (ideal_bare_j3 n j2) fun j3 =>
      cond (v1 == 2)
        (j3 ((Request.mk v3.kind (Key.mk 0 v3.key.id) v3.to v3.val v3.note v3.n), v4, ()))
        (jn (ideal_bare_j4 n j3) fun j4 =>
        cond (v1 == 3)
          (j4 ((Request.mk v3.kind (Key.mk 0 0) v3.to 0 (ByteArray.mk #[]) v3.n), v4, ()))
          (jn (ideal_bare_j5 n j4) fun j5 =>
          cond (v1 == 5)
            (j5 ((Request.mk v3.kind (Key.mk 0 0) v3.to v3.val (ByteArray.mk #[]) v3.n), v4, ()))
            (jn (ideal_bare_j6 n j5) fun j6 =>
            cond (v1 == 6)
              (j6 (v1, (v1 == 6), v3, v4, ()))
              (j6 (v1, (v1 == 7), v3, v4, ()))))))
def ideal_bare (n : Nat) (p0 : Request) : Option Request :=
  jn (ideal_bare_j1 n) fun j1 =>
  cond (p0.kind == 1)
    (j1 (p0.kind, (p0.kind == 1), p0, (Request.mk 0 (Key.mk 0 0) (Key.mk 0 0) 0 ByteArray.empty 0), ()))
    (j1 (p0.kind, (p0.kind == 4), p0, (Request.mk 0 (Key.mk 0 0) (Key.mk 0 0) 0 ByteArray.empty 0), ()))
@[reducible] def ideal_bare_ct : Ct tab := ⟨68, [.st 3], [], [.st 3], [], Request, fun y => (y, ()), fun y => y.1, fun _ => rfl, fun n x => ideal_bare n x.1⟩
theorem ideal_bare_ok : OkC Tryz.prog tab ideal_bare_ct := fn_ok (W := ⟨Tryz.prog, tab, tyOf, [], addO, dpO, false⟩) ⟨tabOk, trivial, addOk⟩ (by kernel_rfl) 43 Tryz.f68 (.sq (.n) (.sq (.sq (.n) (.bk none (.sq (.sq (.n) (.cd (some ⟨[(1, .one (.box 0 0)), (2, .one (.box 1 0)), (4, .one (.d (.int .i64))), (5, .one (.d .bool))], [.bst 3, .bst 3], []⟩) (.n) (.n))) (.cd (some ⟨[(1, .one (.box 0 0)), (2, .one (.box 1 0))], [.bst 3, .bst 3], []⟩) (.n) (.sq (.n) (.cd (some ⟨[(1, .one (.box 0 0)), (2, .one (.box 1 0))], [.bst 3, .bst 3], []⟩) (.n) (.sq (.n) (.cd (some ⟨[(1, .one (.box 0 0)), (2, .one (.box 1 0))], [.bst 3, .bst 3], []⟩) (.n) (.sq (.n) (.cd (some ⟨[(1, .one (.box 0 0)), (2, .one (.box 1 0))], [.bst 3, .bst 3], []⟩) (.n) (.sq (.sq (.n) (.cd (some ⟨[(1, .one (.box 0 0)), (2, .one (.box 1 0)), (4, .one (.d (.int .i64))), (25, .one (.d .bool))], [.bst 3, .bst 3], []⟩) (.n) (.n))) (.cd (some ⟨[(1, .one (.box 0 0)), (2, .one (.box 1 0))], [.bst 3, .bst 3], []⟩) (.n) (.sq (.n) (.cd (some ⟨[(1, .one (.box 0 0)), (2, .one (.box 1 0))], [.bst 3, .bst 3], []⟩) (.n) (.sq (.n) (.cd (some ⟨[(1, .one (.box 0 0)), (2, .one (.box 1 0))], [.bst 3, .bst 3], []⟩) (.n) (.n))))))))))))))))) (.n))) Tryz.func68 Tryz.call68 rfl (by kernel_rfl) (by kernel_rfl) (by kernel_rfl) fun n x => by kernel_rfl

/-! bursary ideal.CheckRequest -/
def ideal_CheckRequest_j1 (n : Nat) : Bool × Unit → Option Int := fun ⟨v21, _⟩ =>
    cond (!v21)
      (some 250)
      (some 0)
def ideal_CheckRequest_j2 (n : Nat) (j1 : Bool × Unit → Option Int) : Bool × Unit → Option Int := fun ⟨v28, _⟩ =>
    j1 (v28, ())
def ideal_CheckRequest (n : Nat) (p0 : Schema) (p1 : Request) : Option Int :=
  (row_Check n p0).bind fun y1 =>
  cond (y1 != 0)
    (some y1)
    (jn (fun (b2 : Bool) =>
        jn (fun (b4 : Bool) =>
            jn (fun (b6 : Bool) =>
                jn (fun (b8 : Bool) =>
                    jn (fun (b10 : Bool) =>
                        jn (ideal_CheckRequest_j1 n) fun j1 =>
                        cond (p1.kind == 8)
                          (jn (fun (b22 : Bool) =>
                              jn (fun (b24 : Bool) =>
                                  j1 (b24, ())) fun k25 =>
                              cond b22
                                (k25 (decide (p1.val ≥ 0)))
                                (k25 false)) fun k23 =>
                          cond b10
                            (k23 (!(Key.eqb p1.key p1.to)))
                            (k23 false))
                          (jn (ideal_CheckRequest_j2 n j1) fun j2 =>
                          cond (p1.kind == 10)
                            (jn (fun (b29 : Bool) =>
                                j2 (b29, ())) fun k30 =>
                            cond b10
                              (k30 (decide (p1.n ≥ 1)))
                              (k30 false))
                            (j2 (b10, ())))) fun k11 =>
                    cond b8
                      ((row_CheckKey n p0 p1.to).bind fun y31 =>
                      k11 (y31 == 0))
                      (k11 false)) fun k9 =>
                cond b6
                  ((row_CheckKey n p0 p1.key).bind fun y32 =>
                  k9 (y32 == 0))
                  (k9 false)) fun k7 =>
            cond b4
              (k7 (decide ((p1.note.size : Int) ≤ 8)))
              (k7 false)) fun k5 =>
        cond b2
          ((ideal_bare n p1).bind fun y33 =>
          k5 (Request.eqb y33 (Request.mk 0 (Key.mk 0 0) (Key.mk 0 0) 0 ByteArray.empty 0)))
          (k5 false)) fun k3 =>
    cond (decide (p1.kind ≥ 1))
      (k3 (decide (p1.kind ≤ 12)))
      (k3 false))
@[reducible] def ideal_CheckRequest_ct : Ct tab := ⟨34, [.st 1, .st 3], [], [.one (.d (.int .i64))], [], Int, fun y => (y, ()), fun y => y.1, fun _ => rfl, fun n x => ideal_CheckRequest n x.1 x.2.1⟩
theorem ideal_CheckRequest_ok : OkC Tryz.prog tab ideal_CheckRequest_ct := fn_ok (W := ⟨Tryz.prog, tab, tyOf, [row_Check_ct, row_CheckKey_ct, ideal_bare_ct], addO, dpO, false⟩) ⟨tabOk, ⟨row_Check_ok, row_CheckKey_ok, ideal_bare_ok, trivial⟩, addOk⟩ (by kernel_rfl) 74 Tryz.f34 (.sq (.n) (.sq (.n) (.sq (.n) (.sq (.n) (.sq (.sq (.n) (.bk none (.sq (.n) (.cd (some ⟨[(6, .one (.d .bool))], [], []⟩) (.n) (.sq (.n) (.cd (some ⟨[(6, .one (.d .bool))], [], []⟩) (.n) (.n))))))) (.n)))))) Tryz.func34 Tryz.call34 rfl (by kernel_rfl) (by kernel_rfl) (by kernel_rfl) fun n x => by kernel_rfl

/-! bursary request.needs -/
def request_needs (n : Nat) (p0 : Int) : Option request_need :=
  cond (decide (p0 = 0))
    (some (request_need.mk 0 0))
    (cond (decide (p0 = 1))
      (some (request_need.mk 1 3))
      (cond (decide (p0 = 2))
        (some (request_need.mk 3 0))
        (cond (decide (p0 = 3))
          (some (request_need.mk 2 5))
          (cond (decide (p0 = 4))
            (some (request_need.mk 2 5))
            (cond (decide (p0 = 5))
              (some (request_need.mk 2 5))
              (cond (decide (p0 = 6))
                (some (request_need.mk 2 5))
                (cond (decide (p0 = 7))
                  (some (request_need.mk 2 6))
                  (cond (decide (p0 = 8))
                    (some (request_need.mk 2 6))
                    (cond (decide (p0 = 9))
                      (some (request_need.mk 0 0))
                      (cond (decide (p0 = 10))
                        (some (request_need.mk 0 0))
                        (cond (decide (p0 = 11))
                          (some (request_need.mk 0 0))
                          (cond (decide (p0 = 12))
                            (some (request_need.mk 0 0))
                            (none)))))))))))))
@[reducible] def request_needs_ct : Ct tab := ⟨80, [.one (.d (.int .i64))], [], [.st 5], [], request_need, fun y => (y, ()), fun y => y.1, fun _ => rfl, fun n x => request_needs n x.1⟩
theorem request_needs_ok : OkC Tryz.prog tab request_needs_ct := fn_ok (W := ⟨Tryz.prog, tab, tyOf, [], addO, dpO, false⟩) ⟨tabOk, trivial, addOk⟩ (by kernel_rfl) 17 Tryz.f80 (.sq (.n) (.sq (.n) (.sq (.rs [(0, 13)] []) (.n)))) Tryz.func80 Tryz.call80 rfl (by kernel_rfl) (by kernel_rfl) (by kernel_rfl) fun n x => by kernel_rfl

/-! cmp.isNaN int  -/
def cmp_isNaN_int (n : Nat) (p0 : Int) : Option Bool :=
  some (p0 != p0)
@[reducible] def cmp_isNaN_int_ct : Ct tab := ⟨82, [.one (.d (.int .i64))], [], [.one (.d .bool)], [], Bool, fun y => (y, ()), fun y => y.1, fun _ => rfl, fun n x => cmp_isNaN_int n x.1⟩
theorem cmp_isNaN_int_ok : OkC Tryz.prog tab cmp_isNaN_int_ct := fn_ok (W := ⟨Tryz.prog, tab, tyOf, [], addO, dpO, false⟩) ⟨tabOk, trivial, addOk⟩ (by kernel_rfl) 6 Tryz.f82 (.n) Tryz.func82 Tryz.call82 rfl (by kernel_rfl) (by kernel_rfl) (by kernel_rfl) fun n x => by kernel_rfl

/-! cmp.Compare int  -/
def cmp_Compare_int (n : Nat) (p0 : Int) (p1 : Int) : Option Int :=
  (cmp_isNaN_int n p0).bind fun y1 =>
  (cmp_isNaN_int n p1).bind fun y2 =>
  cond y1
    (cond y2
      (some 0)
      (some (-1)))
    (cond y2
      (some 1)
      (cond (decide (p0 < p1))
        (some (-1))
        (cond (decide (p0 > p1))
          (some 1)
          (some 0))))
@[reducible] def cmp_Compare_int_ct : Ct tab := ⟨54, [.one (.d (.int .i64)), .one (.d (.int .i64))], [], [.one (.d (.int .i64))], [], Int, fun y => (y, ()), fun y => y.1, fun _ => rfl, fun n x => cmp_Compare_int n x.1 x.2.1⟩
theorem cmp_Compare_int_ok : OkC Tryz.prog tab cmp_Compare_int_ct := fn_ok (W := ⟨Tryz.prog, tab, tyOf, [cmp_isNaN_int_ct], addO, dpO, false⟩) ⟨tabOk, ⟨cmp_isNaN_int_ok, trivial⟩, addOk⟩ (by kernel_rfl) 20 Tryz.f54 (.n) Tryz.func54 Tryz.call54 rfl (by kernel_rfl) (by kernel_rfl) (by kernel_rfl) fun n x => by kernel_rfl

/-! cmp.isNaN uint16  -/
def cmp_isNaN_uint16 (n : Nat) (p0 : Int) : Option Bool :=
  some (p0 != p0)
@[reducible] def cmp_isNaN_uint16_ct : Ct tab := ⟨83, [.one (.d (.int .u16))], [], [.one (.d .bool)], [], Bool, fun y => (y, ()), fun y => y.1, fun _ => rfl, fun n x => cmp_isNaN_uint16 n x.1⟩
theorem cmp_isNaN_uint16_ok : OkC Tryz.prog tab cmp_isNaN_uint16_ct := fn_ok (W := ⟨Tryz.prog, tab, tyOf, [], addO, dpO, false⟩) ⟨tabOk, trivial, addOk⟩ (by kernel_rfl) 6 Tryz.f83 (.n) Tryz.func83 Tryz.call83 rfl (by kernel_rfl) (by kernel_rfl) (by kernel_rfl) fun n x => by kernel_rfl

/-! cmp.Compare uint16  -/
def cmp_Compare_uint16 (n : Nat) (p0 : Int) (p1 : Int) : Option Int :=
  (cmp_isNaN_uint16 n p0).bind fun y1 =>
  (cmp_isNaN_uint16 n p1).bind fun y2 =>
  cond y1
    (cond y2
      (some 0)
      (some (-1)))
    (cond y2
      (some 1)
      (cond (decide (p0 < p1))
        (some (-1))
        (cond (decide (p0 > p1))
          (some 1)
          (some 0))))
@[reducible] def cmp_Compare_uint16_ct : Ct tab := ⟨55, [.one (.d (.int .u16)), .one (.d (.int .u16))], [], [.one (.d (.int .i64))], [], Int, fun y => (y, ()), fun y => y.1, fun _ => rfl, fun n x => cmp_Compare_uint16 n x.1 x.2.1⟩
theorem cmp_Compare_uint16_ok : OkC Tryz.prog tab cmp_Compare_uint16_ct := fn_ok (W := ⟨Tryz.prog, tab, tyOf, [cmp_isNaN_uint16_ct], addO, dpO, false⟩) ⟨tabOk, ⟨cmp_isNaN_uint16_ok, trivial⟩, addOk⟩ (by kernel_rfl) 20 Tryz.f55 (.n) Tryz.func55 Tryz.call55 rfl (by kernel_rfl) (by kernel_rfl) (by kernel_rfl) fun n x => by kernel_rfl

/-! cmp.Or int  -/
def cmp_Or_int_l1 (n : Nat) : Nat → Int × (List Int) × Int × Int × Unit → Option Int := loopF fun r1 ⟨v1, v2, v3, v4, _⟩ =>
    cond (decide (v4 < v3))
      ((idx v2 v4).bind fun x5 =>
      cond (x5 != v1)
        (some x5)
        (r1 (v1, v2, v3, (IntKind.wrap .i64 (v4 + 1)), ())))
      (some v1)
def cmp_Or_int (n : Nat) (p0 : List Int) : Option Int :=
  cmp_Or_int_l1 n n (0, p0, (p0.length : Int), 0, ())
@[reducible] def cmp_Or_int_ct : Ct tab := ⟨53, [.one (.d (.sl (.int .i64)))], [], [.one (.d (.int .i64))], [], Int, fun y => (y, ()), fun y => y.1, fun _ => rfl, fun n x => cmp_Or_int n x.1⟩
theorem cmp_Or_int_ok : OkC Tryz.prog tab cmp_Or_int_ct := fn_ok (W := ⟨Tryz.prog, tab, tyOf, [], addO, dpO, false⟩) ⟨tabOk, trivial, addOk⟩ (by kernel_rfl) 18 Tryz.f53 (.sq (.n) (.sq (.n) (.sq (.sq (.n) (.bk none (.lp ⟨[(3, .one (.d (.int .i64))), (6, .one (.d (.sl (.int .i64)))), (7, .one (.d (.int .i64))), (8, .one (.d (.int .i64)))], [], []⟩ (.n)))) (.n)))) Tryz.func53 Tryz.call53 rfl (by kernel_rfl) (by kernel_rfl) (by kernel_rfl) fun n x => by kernel_rfl

/-! bursary row.Compare -/
def row_Compare (n : Nat) (p0 : Key) (p1 : Key) : Option Int :=
  (cmp_Compare_int n p0.table p1.table).bind fun y1 =>
  (cmp_Compare_uint16 n p0.id p1.id).bind fun y2 =>
  (cmp_Or_int n ([y1, y2] : List Int)).bind fun y3 =>
  some y3
@[reducible] def row_Compare_ct : Ct tab := ⟨17, [.st 2, .st 2], [], [.one (.d (.int .i64))], [], Int, fun y => (y, ()), fun y => y.1, fun _ => rfl, fun n x => row_Compare n x.1 x.2.1⟩
theorem row_Compare_ok : OkC Tryz.prog tab row_Compare_ct := fn_ok (W := ⟨Tryz.prog, tab, tyOf, [cmp_Compare_int_ct, cmp_Compare_uint16_ct, cmp_Or_int_ct], addO, dpO, false⟩) ⟨tabOk, ⟨cmp_Compare_int_ok, cmp_Compare_uint16_ok, cmp_Or_int_ok, trivial⟩, addOk⟩ (by kernel_rfl) 17 Tryz.f17 (.n) Tryz.func17 Tryz.call17 rfl (by kernel_rfl) (by kernel_rfl) (by kernel_rfl) fun n x => by kernel_rfl

/-! math bits.Len32 -/
def bits_Len32_j2 (n : Nat) : Int × Int × Unit → Option Int := fun ⟨v5, v6, _⟩ =>
    (sIdx (ByteArray.mk #[0, 1, 2, 2, 3, 3, 3, 3, 4, 4, 4, 4, 4, 4, 4, 4, 5, 5, 5, 5, 5, 5, 5, 5, 5, 5, 5, 5, 5, 5, 5, 5, 6, 6, 6, 6, 6, 6, 6, 6, 6, 6, 6, 6, 6, 6, 6, 6, 6, 6, 6, 6, 6, 6, 6, 6, 6, 6, 6, 6, 6, 6, 6, 6, 7, 7, 7, 7, 7, 7, 7, 7, 7, 7, 7, 7, 7, 7, 7, 7, 7, 7, 7, 7, 7, 7, 7, 7, 7, 7, 7, 7, 7, 7, 7, 7, 7, 7, 7, 7, 7, 7, 7, 7, 7, 7, 7, 7, 7, 7, 7, 7, 7, 7, 7, 7, 7, 7, 7, 7, 7, 7, 7, 7, 7, 7, 7, 7, 8, 8, 8, 8, 8, 8, 8, 8, 8, 8, 8, 8, 8, 8, 8, 8, 8, 8, 8, 8, 8, 8, 8, 8, 8, 8, 8, 8, 8, 8, 8, 8, 8, 8, 8, 8, 8, 8, 8, 8, 8, 8, 8, 8, 8, 8, 8, 8, 8, 8, 8, 8, 8, 8, 8, 8, 8, 8, 8, 8, 8, 8, 8, 8, 8, 8, 8, 8, 8, 8, 8, 8, 8, 8, 8, 8, 8, 8, 8, 8, 8, 8, 8, 8, 8, 8, 8, 8, 8, 8, 8, 8, 8, 8, 8, 8, 8, 8, 8, 8, 8, 8, 8, 8, 8, 8, 8, 8, 8, 8, 8, 8, 8, 8, 8, 8, 8, 8, 8, 8, 8, 8, 8, 8, 8, 8, 8, 8]) (IntKind.wrap .u8 v5)).bind fun c7 =>
    some (IntKind.wrap .i64 (v6 + (IntKind.wrap .i64 c7)))
def bits_Len32_j1 (n : Nat) : Int × Int × Unit → Option Int := fun ⟨v2, v3, _⟩ =>
    jn (bits_Len32_j2 n) fun j2 =>
    cond (decide (v2 ≥ 256))
      ((shrP .u32 v2 8).bind fun z8 =>
      j2 (z8, (IntKind.wrap .i64 (v3 + 8)), ()))
      (j2 (v2, v3, ()))
def bits_Len32 (n : Nat) (p0 : Int) : Option Int :=
  jn (bits_Len32_j1 n) fun j1 =>
  cond (decide (p0 ≥ 65536))
    ((shrP .u32 p0 16).bind fun z9 =>
    j1 (z9, 16, ()))
    (j1 (p0, 0, ()))
@[reducible] def bits_Len32_ct : Ct tab := ⟨138, [.one (.d (.int .u32))], [], [.one (.d (.int .i64))], [], Int, fun y => (y, ()), fun y => y.1, fun _ => rfl, fun n x => bits_Len32 n x.1⟩
theorem bits_Len32_ok : OkC Tryz.prog tab bits_Len32_ct := fn_ok (W := ⟨Tryz.prog, tab, tyOf, [], addO, dpO, false⟩) ⟨tabOk, trivial, addOk⟩ (by kernel_rfl) 19 Tryz.f138 (.sq (.n) (.sq (.sq (.n) (.cd (some ⟨[(0, .one (.d (.int .u32))), (2, .one (.d (.int .i64)))], [], []⟩) (.n) (.n))) (.sq (.sq (.n) (.cd (some ⟨[(0, .one (.d (.int .u32))), (2, .one (.d (.int .i64)))], [], []⟩) (.n) (.n))) (.n)))) Tryz.func138 Tryz.call138 rfl (by kernel_rfl) (by kernel_rfl) (by kernel_rfl) fun n x => by kernel_rfl

/-! math bits.Len64 -/
def bits_Len64_j3 (n : Nat) : Int × Int × Unit → Option Int := fun ⟨v8, v9, _⟩ =>
    (sIdx (ByteArray.mk #[0, 1, 2, 2, 3, 3, 3, 3, 4, 4, 4, 4, 4, 4, 4, 4, 5, 5, 5, 5, 5, 5, 5, 5, 5, 5, 5, 5, 5, 5, 5, 5, 6, 6, 6, 6, 6, 6, 6, 6, 6, 6, 6, 6, 6, 6, 6, 6, 6, 6, 6, 6, 6, 6, 6, 6, 6, 6, 6, 6, 6, 6, 6, 6, 7, 7, 7, 7, 7, 7, 7, 7, 7, 7, 7, 7, 7, 7, 7, 7, 7, 7, 7, 7, 7, 7, 7, 7, 7, 7, 7, 7, 7, 7, 7, 7, 7, 7, 7, 7, 7, 7, 7, 7, 7, 7, 7, 7, 7, 7, 7, 7, 7, 7, 7, 7, 7, 7, 7, 7, 7, 7, 7, 7, 7, 7, 7, 7, 8, 8, 8, 8, 8, 8, 8, 8, 8, 8, 8, 8, 8, 8, 8, 8, 8, 8, 8, 8, 8, 8, 8, 8, 8, 8, 8, 8, 8, 8, 8, 8, 8, 8, 8, 8, 8, 8, 8, 8, 8, 8, 8, 8, 8, 8, 8, 8, 8, 8, 8, 8, 8, 8, 8, 8, 8, 8, 8, 8, 8, 8, 8, 8, 8, 8, 8, 8, 8, 8, 8, 8, 8, 8, 8, 8, 8, 8, 8, 8, 8, 8, 8, 8, 8, 8, 8, 8, 8, 8, 8, 8, 8, 8, 8, 8, 8, 8, 8, 8, 8, 8, 8, 8, 8, 8, 8, 8, 8, 8, 8, 8, 8, 8, 8, 8, 8, 8, 8, 8, 8, 8, 8, 8, 8, 8, 8, 8]) (IntKind.wrap .u8 v8)).bind fun c10 =>
    some (IntKind.wrap .i64 (v9 + (IntKind.wrap .i64 c10)))
def bits_Len64_j2 (n : Nat) : Int × Int × Unit → Option Int := fun ⟨v5, v6, _⟩ =>
    jn (bits_Len64_j3 n) fun j3 =>
    cond (decide (v5 ≥ 256))
      ((shrP .u64 v5 8).bind fun z11 =>
      j3 (z11, (IntKind.wrap .i64 (v6 + 8)), ()))
      (j3 (v5, v6, ()))
def bits_Len64_j1 (n : Nat) : Int × Int × Unit → Option Int := fun ⟨v2, v3, _⟩ =>
    jn (bits_Len64_j2 n) fun j2 =>
    cond (decide (v2 ≥ 65536))
      ((shrP .u64 v2 16).bind fun z12 =>
      j2 (z12, (IntKind.wrap .i64 (v3 + 16)), ()))
      (j2 (v2, v3, ()))
def bits_Len64 (n : Nat) (p0 : Int) : Option Int :=
  jn (bits_Len64_j1 n) fun j1 =>
  cond (decide (p0 ≥ 4294967296))
    ((shrP .u64 p0 32).bind fun z13 =>
    j1 (z13, 32, ()))
    (j1 (p0, 0, ()))
@[reducible] def bits_Len64_ct : Ct tab := ⟨139, [.one (.d (.int .u64))], [], [.one (.d (.int .i64))], [], Int, fun y => (y, ()), fun y => y.1, fun _ => rfl, fun n x => bits_Len64 n x.1⟩
theorem bits_Len64_ok : OkC Tryz.prog tab bits_Len64_ct := fn_ok (W := ⟨Tryz.prog, tab, tyOf, [], addO, dpO, false⟩) ⟨tabOk, trivial, addOk⟩ (by kernel_rfl) 25 Tryz.f139 (.sq (.n) (.sq (.sq (.n) (.cd (some ⟨[(0, .one (.d (.int .u64))), (2, .one (.d (.int .i64)))], [], []⟩) (.n) (.n))) (.sq (.sq (.n) (.cd (some ⟨[(0, .one (.d (.int .u64))), (2, .one (.d (.int .i64)))], [], []⟩) (.n) (.n))) (.sq (.sq (.n) (.cd (some ⟨[(0, .one (.d (.int .u64))), (2, .one (.d (.int .i64)))], [], []⟩) (.n) (.n))) (.n))))) Tryz.func139 Tryz.call139 rfl (by kernel_rfl) (by kernel_rfl) (by kernel_rfl) fun n x => by kernel_rfl

/-! math bits.Len -/
def bits_Len (n : Nat) (p0 : Int) : Option Int :=
  cond false
    ((bits_Len32 n (IntKind.wrap .u32 p0)).bind fun y1 =>
    some y1)
    ((bits_Len64 n p0).bind fun y2 =>
    some y2)
@[reducible] def bits_Len_ct : Ct tab := ⟨106, [.one (.d (.int .u64))], [], [.one (.d (.int .i64))], [], Int, fun y => (y, ()), fun y => y.1, fun _ => rfl, fun n x => bits_Len n x.1⟩
theorem bits_Len_ok : OkC Tryz.prog tab bits_Len_ct := fn_ok (W := ⟨Tryz.prog, tab, tyOf, [bits_Len32_ct, bits_Len64_ct], addO, dpO, false⟩) ⟨tabOk, ⟨bits_Len32_ok, bits_Len64_ok, trivial⟩, addOk⟩ (by kernel_rfl) 8 Tryz.f106 (.n) Tryz.func106 Tryz.call106 rfl (by kernel_rfl) (by kernel_rfl) (by kernel_rfl) fun n x => by kernel_rfl

/-! slices.insertionSortCmpFunc bursary api.Key  -/
def slices_insertionSortCmpFunc_Key_f17_l2 (n : Nat) (r1 : Int × Int × Int × (List Key) × Unit → Option ((List Key))) : Nat → Int × Int × Int × Int × (List Key) × Unit → Option ((List Key)) := loopF fun r2 ⟨v5, v6, v7, v8, v9, _⟩ =>
    jn (fun (b10 : Bool) =>
        cond b10
          ((idx v9 (IntKind.wrap .i64 (v8 - 1))).bind fun x12 =>
          (idx v9 (IntKind.wrap .i64 (v8 - 1))).bind fun x13 =>
          (idx v9 v8).bind fun x14 =>
          (idx v9 v8).bind fun x15 =>
          (idx v9 v8).bind fun x16 =>
          (put v9 v8 x13).bind fun l17 =>
          (idx l17 (IntKind.wrap .i64 (v8 - 1))).bind fun x18 =>
          (put l17 (IntKind.wrap .i64 (v8 - 1)) x15).bind fun l19 =>
          r2 (v5, v6, v7, (IntKind.wrap .i64 (v8 - 1)), l19, ()))
          (r1 (v5, v6, (IntKind.wrap .i64 (v7 + 1)), v9, ()))) fun k11 =>
    cond (decide (v8 > v5))
      ((idx v9 v8).bind fun x20 =>
      (idx v9 v8).bind fun x21 =>
      (idx v9 (IntKind.wrap .i64 (v8 - 1))).bind fun x22 =>
      (idx v9 (IntKind.wrap .i64 (v8 - 1))).bind fun x23 =>
      (row_Compare n x21 x23).bind fun y24 =>
      k11 (decide (y24 < 0)))
      (k11 false)
def slices_insertionSortCmpFunc_Key_f17_l1 (n : Nat) : Nat → Int × Int × Int × (List Key) × Unit → Option ((List Key)) := loopF fun r1 ⟨v1, v2, v3, v4, _⟩ =>
    cond (decide (v3 < v2))
      (slices_insertionSortCmpFunc_Key_f17_l2 n r1 n (v1, v2, v3, v3, v4, ()))
      (some v4)
def slices_insertionSortCmpFunc_Key_f17 (n : Nat) (p1 : Int) (p2 : Int) (q0 : List Key) : Option ((List Key)) :=
  slices_insertionSortCmpFunc_Key_f17_l1 n n (p1, p2, (IntKind.wrap .i64 (p1 + 1)), q0, ())
@[reducible] def slices_insertionSortCmpFunc_Key_f17_ct : Ct tab := ⟨130, [.one (.own 0), .one (.d (.int .i64)), .one (.d (.int .i64)), .one (.fn 17 [])], [.row 27 (.st 2)], [], [(some 0, .row 27 (.st 2))], ((List Key)), fun y => (y, ()), fun y => y.1, fun _ => rfl, fun n x => slices_insertionSortCmpFunc_Key_f17 n x.1 x.2.1 x.2.2.1⟩
theorem slices_insertionSortCmpFunc_Key_f17_ok : OkC Tryz.prog tab slices_insertionSortCmpFunc_Key_f17_ct := fn_ok (W := ⟨Tryz.prog, tab, tyOf, [row_Compare_ct], addO, dpO, false⟩) ⟨tabOk, ⟨row_Compare_ok, trivial⟩, addOk⟩ (by kernel_rfl) 53 Tryz.f130 (.sq (.n) (.bk none (.lp ⟨[(0, .one (.own 0)), (1, .one (.d (.int .i64))), (2, .one (.d (.int .i64))), (3, .one (.fn 17 [])), (8, .one (.d (.int .i64)))], [.row 27 (.st 2)], [(0, 0)]⟩ (.sq (.n) (.sq (.bk none (.sq (.n) (.bk none (.lp ⟨[(0, .one (.own 0)), (1, .one (.d (.int .i64))), (2, .one (.d (.int .i64))), (3, .one (.fn 17 [])), (8, .one (.d (.int .i64))), (9, .one (.d (.int .i64)))], [.row 27 (.st 2)], [(0, 0)]⟩ (.n))))) (.n)))))) Tryz.func130 Tryz.call130 rfl (by kernel_rfl) (by kernel_rfl) (by kernel_rfl) fun n x => by kernel_rfl

/-! slices.pdqsortCmpFunc bursary api.Key  -/
def slices_pdqsortCmpFunc_Key_f17_j2 (n : Nat) : Int × Int × Int × Bool × Bool × Int × (List Key) × Unit → Option ((List Key)) := fun ⟨v16, v17, v18, v19, v20, v21, v22, _⟩ =>
    none
def slices_pdqsortCmpFunc_Key_f17_l1 (n : Nat) : Nat → Int × Int × Int × Bool × Bool × (List Key) × Unit → Option ((List Key)) := loopF fun r1 ⟨v1, v2, v3, v4, v5, v6, _⟩ =>
    cond (decide ((IntKind.wrap .i64 (v2 - v1)) ≤ 12))
      ((slices_insertionSortCmpFunc_Key_f17 n v1 v2 v6).bind fun y15 =>
      some y15)
      (cond (v3 == 0)
        (none)
        (jn (slices_pdqsortCmpFunc_Key_f17_j2 n) fun j2 =>
        cond (!v4)
          (none)
          (j2 (v1, v2, v3, v4, v5, (IntKind.wrap .i64 (v2 - v1)), v6, ()))))
def slices_pdqsortCmpFunc_Key_f17 (n : Nat) (p1 : Int) (p2 : Int) (p3 : Int) (q0 : List Key) : Option ((List Key)) :=
  slices_pdqsortCmpFunc_Key_f17_l1 n n (p1, p2, p3, true, true, q0, ())
@[reducible] def slices_pdqsortCmpFunc_Key_f17_ct : Ct tab := ⟨105, [.one (.own 0), .one (.d (.int .i64)), .one (.d (.int .i64)), .one (.d (.int .i64)), .one (.fn 17 [])], [.row 27 (.st 2)], [], [(some 0, .row 27 (.st 2))], ((List Key)), fun y => (y, ()), fun y => y.1, fun _ => rfl, fun n x => slices_pdqsortCmpFunc_Key_f17 n x.1 x.2.1 x.2.2.1 x.2.2.2.1⟩
theorem slices_pdqsortCmpFunc_Key_f17_ok : OkC Tryz.prog tab slices_pdqsortCmpFunc_Key_f17_ct := fn_ok (W := ⟨Tryz.prog, tab, tyOf, [slices_insertionSortCmpFunc_Key_f17_ct], addO, dpO, false⟩) ⟨tabOk, ⟨slices_insertionSortCmpFunc_Key_f17_ok, trivial⟩, addOk⟩ (by kernel_rfl) 148 Tryz.f105 (.sq (.n) (.sq (.n) (.bk none (.lp ⟨[(0, .one (.own 0)), (1, .one (.d (.int .i64))), (2, .one (.d (.int .i64))), (3, .one (.d (.int .i64))), (4, .one (.fn 17 [])), (10, .one (.d .bool)), (11, .one (.d .bool))], [.row 27 (.st 2)], [(0, 0)]⟩ (.bk (some ⟨[], [], []⟩) (.sq (.n) (.sq (.n) (.sq (.n) (.sq (.sq (.n) (.cd (some ⟨[(0, .one (.own 0)), (1, .one (.d (.int .i64))), (2, .one (.d (.int .i64))), (3, .one (.d (.int .i64))), (4, .one (.fn 17 [])), (10, .one (.d .bool)), (11, .one (.d .bool)), (12, .one (.d (.int .i64)))], [.row 27 (.st 2)], [(0, 0)]⟩) (.n) (.n))) (.n)))))))))) Tryz.func105 Tryz.call105 rfl (by kernel_rfl) (by kernel_rfl) (by kernel_rfl) fun n x => by kernel_rfl

/-! slices.SortFunc   bursary api.Key bursary api.Key  -/
def slices_SortFunc_Key_f17 (n : Nat) (q0 : List Key) : Option ((List Key)) :=
  (bits_Len n (IntKind.wrap .u64 (q0.length : Int))).bind fun y1 =>
  (slices_pdqsortCmpFunc_Key_f17 n 0 (q0.length : Int) y1 q0).bind fun y2 =>
  some y2
@[reducible] def slices_SortFunc_Key_f17_ct : Ct tab := ⟨81, [.one (.own 0), .one (.fn 17 [])], [.row 27 (.st 2)], [], [(some 0, .row 27 (.st 2))], ((List Key)), fun y => (y, ()), fun y => y.1, fun _ => rfl, fun n x => slices_SortFunc_Key_f17 n x.1⟩
theorem slices_SortFunc_Key_f17_ok : OkC Tryz.prog tab slices_SortFunc_Key_f17_ct := fn_ok (W := ⟨Tryz.prog, tab, tyOf, [bits_Len_ct, slices_pdqsortCmpFunc_Key_f17_ct], addO, dpO, false⟩) ⟨tabOk, ⟨bits_Len_ok, slices_pdqsortCmpFunc_Key_f17_ok, trivial⟩, addOk⟩ (by kernel_rfl) 14 Tryz.f81 (.n) Tryz.func81 Tryz.call81 rfl (by kernel_rfl) (by kernel_rfl) (by kernel_rfl) fun n x => by kernel_rfl

/-! bursary request.locks -/
def request_locks_j4 (n : Nat) (r2 : Int × Int × request_need × (List Key) × (List Want) × (List Want) × Unit → Option ((List Want))) : Int × Int × request_need × (List Key) × (List Want) × (List Want) × Unit → Option ((List Want)) := fun ⟨v25, v26, v27, v28, v29, v30, _⟩ =>
    r2 (v25, (IntKind.wrap .i64 (v26 + 1)), v27, v28, v29, v30, ())
def request_locks_j3 (n : Nat) (r2 : Int × Int × request_need × (List Key) × (List Want) × (List Want) × Unit → Option ((List Want))) : Int × Int × request_need × (List Key) × (List Want) × (List Want) × Key × Unit → Option ((List Want)) := fun ⟨v17, v18, v19, v20, v21, v22, v23, _⟩ =>
    jn (request_locks_j4 n r2) fun j4 =>
    cond (v19.key != 0)
      ((app 24 v22 ([(Want.mk (Res.mk v23.table true v23.id) v19.key)] : List Want)).bind fun l31 =>
      j4 (v17, v18, v19, v20, v21, l31, ()))
      (j4 (v17, v18, v19, v20, v21, v22, ()))
def request_locks_l2 (n : Nat) : Nat → Int × Int × request_need × (List Key) × (List Want) × (List Want) × Unit → Option ((List Want)) := loopF fun r2 ⟨v6, v7, v8, v9, v10, v11, _⟩ =>
    cond (decide (v7 < v6))
      ((idx v9 v7).bind fun x12 =>
      (idx v9 v7).bind fun x13 =>
      jn (fun (b14 : Bool) =>
          jn (request_locks_j3 n r2) fun j3 =>
          cond b14
            ((app 24 v10 ([(Want.mk (Res.mk x13.table false 0) v8.table)] : List Want)).bind fun l32 =>
            j3 (v6, v7, v8, v9, l32, v11, x13, ()))
            (j3 (v6, v7, v8, v9, v10, v11, x13, ()))) fun k15 =>
      cond (v8.table != 0)
        (jn (fun (b33 : Bool) =>
            k15 b33) fun k34 =>
        cond (v7 == 0)
          (k34 true)
          ((idx v9 (IntKind.wrap .i64 (v7 - 1))).bind fun x35 =>
          (idx v9 (IntKind.wrap .i64 (v7 - 1))).bind fun x36 =>
          k34 (x36.table != x13.table)))
        (k15 false))
      ((app 24 v10 v11).bind fun l37 =>
      some l37)
def request_locks_j1 (n : Nat) : request_need × (List Key) × Unit → Option ((List Want)) := fun ⟨v4, v5, _⟩ =>
    request_locks_l2 n n ((v5.length : Int), 0, v4, v5, ([] : List Want), ([] : List Want), ())
def request_locks (n : Nat) (p0 : Request) : Option ((List Want)) :=
  (request_needs n p0.kind).bind fun y1 =>
  jn (request_locks_j1 n) fun j1 =>
  cond (p0.kind == 8)
    ((app 16 ([p0.key] : List Key) ([p0.to] : List Key)).bind fun l38 =>
    (slices_SortFunc_Key_f17 n l38).bind fun y39 =>
    j1 (y1, y39, ()))
    (j1 (y1, ([p0.key] : List Key), ()))
@[reducible] def request_locks_ct : Ct tab := ⟨52, [.st 3], [], [.one (.own 0)], [(none, .row 48 (.st 7))], ((List Want)), fun y => (y, ()), fun y => y.1, fun _ => rfl, fun n x => request_locks n x.1⟩
theorem request_locks_ok : OkC Tryz.prog tab request_locks_ct := fn_ok (W := ⟨Tryz.prog, tab, tyOf, [request_needs_ct, slices_SortFunc_Key_f17_ct], addO, dpO, false⟩) ⟨tabOk, ⟨request_needs_ok, slices_SortFunc_Key_f17_ok, trivial⟩, addOk⟩ (by kernel_rfl) 77 Tryz.f52 (.sq (.n) (.sq (.n) (.sq (.n) (.sq (.sq (.n) (.cd (some ⟨[(3, .one (.box 0 0)), (4, .one (.own 1))], [.bst 5, .row 27 (.st 2)], []⟩) (.n) (.n))) (.sq (.n) (.sq (.sq (.n) (.bk none (.lp ⟨[(3, .one (.box 0 0)), (4, .one (.own 1)), (5, .one (.own 2)), (6, .one (.own 3)), (25, .one (.own 1)), (26, .one (.d (.int .i64))), (27, .one (.d (.int .i64)))], [.bst 5, .row 27 (.st 2), .row 48 (.st 7), .row 48 (.st 7)], []⟩ (.sq (.n) (.sq (.n) (.sq (.bk none (.sq (.n) (.sq (.sq (.n) (.cd (some ⟨[(3, .one (.box 0 0)), (4, .one (.own 1)), (5, .one (.own 2)), (6, .one (.own 3)), (8, .one (.box 4 0)), (25, .one (.own 1)), (26, .one (.d (.int .i64))), (27, .one (.d (.int .i64)))], [.bst 5, .row 27 (.st 2), .row 48 (.st 7), .row 48 (.st 7), .bst 2], []⟩) (.n) (.n))) (.sq (.n) (.cd (some ⟨[(3, .one (.box 0 0)), (4, .one (.own 1)), (5, .one (.own 2)), (6, .one (.own 3)), (25, .one (.own 1)), (26, .one (.d (.int .i64))), (27, .one (.d (.int .i64)))], [.bst 5, .row 27 (.st 2), .row 48 (.st 7), .row 48 (.st 7)], []⟩) (.n) (.n)))))) (.n))))))) (.n))))))) Tryz.func52 Tryz.call52 rfl (by kernel_rfl) (by kernel_rfl) (by kernel_rfl) fun n x => by kernel_rfl

/-! bursary request.Locks -/
def request_Locks (n : Nat) (p0 : Schema) (p1 : Request) : Option (Int × (List Want)) :=
  (ideal_CheckRequest n p0 p1).bind fun y1 =>
  cond (y1 != 0)
    (some (y1, ([] : List Want)))
    ((request_locks n p1).bind fun y2 =>
    some (0, y2))
@[reducible] def request_Locks_ct : Ct tab := ⟨16, [.st 1, .st 3], [], [.one (.own 0), .one (.d (.int .i64))], [(none, .row 48 (.st 7))], (Int × (List Want)), fun y => (y.1, y.2, ()), fun y => (y.1, y.2.1), fun _ => rfl, fun n x => request_Locks n x.1 x.2.1⟩
theorem request_Locks_ok : OkC Tryz.prog tab request_Locks_ct := fn_ok (W := ⟨Tryz.prog, tab, tyOf, [ideal_CheckRequest_ct, request_locks_ct], addO, dpO, false⟩) ⟨tabOk, ⟨ideal_CheckRequest_ok, request_locks_ok, trivial⟩, addOk⟩ (by kernel_rfl) 15 Tryz.f16 (.n) Tryz.func16 Tryz.call16 rfl (by kernel_rfl) (by kernel_rfl) (by kernel_rfl) fun n x => by kernel_rfl

/-! bursary request.quoted -/
def request_quoted_l1 (n : Nat) : Nat → ByteArray × Int × Int × Unit → Option (ByteArray × Bool) := loopF fun r1 ⟨v1, v2, v3, _⟩ =>
    cond (decide (v3 < v2))
      ((sIdx v1 v3).bind fun c4 =>
      jn (fun (b5 : Bool) =>
          jn (fun (b7 : Bool) =>
              cond b7
                (some ((ByteArray.mk #[]), false))
                (r1 (v1, v2, (IntKind.wrap .i64 (v3 + 1)), ()))) fun k8 =>
          cond b5
            (k8 true)
            ((sIdx v1 v3).bind fun c9 =>
            k8 (c9 == 34))) fun k6 =>
      cond (decide (c4 < 32))
        (k6 true)
        ((sIdx v1 v3).bind fun c10 =>
        k6 (decide (c10 > 126))))
      ((catP (ByteArray.mk #[34]) v1).bind fun s11 =>
      (catP s11 (ByteArray.mk #[34])).bind fun s12 =>
      some (s12, true))
def request_quoted (n : Nat) (p0 : ByteArray) : Option (ByteArray × Bool) :=
  request_quoted_l1 n n (p0, (p0.size : Int), 0, ())
@[reducible] def request_quoted_ct : Ct tab := ⟨35, [.one (.d .str)], [], [.one (.d .str), .one (.d .bool)], [], (ByteArray × Bool), fun y => (y.1, y.2, ()), fun y => (y.1, y.2.1), fun _ => rfl, fun n x => request_quoted n x.1⟩
theorem request_quoted_ok : OkC Tryz.prog tab request_quoted_ct := fn_ok (W := ⟨Tryz.prog, tab, tyOf, [], addO, dpO, false⟩) ⟨tabOk, trivial, addOk⟩ (by kernel_rfl) 30 Tryz.f35 (.sq (.n) (.sq (.sq (.n) (.bk none (.lp ⟨[(0, .one (.d .str)), (6, .one (.d (.int .i64))), (7, .one (.d (.int .i64)))], [], []⟩ (.n)))) (.n))) Tryz.func35 Tryz.call35 rfl (by kernel_rfl) (by kernel_rfl) (by kernel_rfl) fun n x => by kernel_rfl

/-! strconv.FormatInt -/
def strconv_FormatInt (n : Nat) (p0 : Int) (p1 : Int) : Option ByteArray := fmtZ p0 p1
@[reducible] def strconv_FormatInt_ct : Ct tab := fmtCt tab 71
theorem strconv_FormatInt_ok : OkC Tryz.prog tab strconv_FormatInt_ct := fmt_ok Tryz.call71 fmtRaw

/-! bursary request.word -/
def request_word (n : Nat) (p0 : Int) : Option ByteArray :=
  (strconv_FormatInt n p0 10).bind fun y1 =>
  some y1
@[reducible] def request_word_ct : Ct tab := ⟨38, [.one (.d (.int .i64))], [], [.one (.d .str)], [], ByteArray, fun y => (y, ()), fun y => y.1, fun _ => rfl, fun n x => request_word n x.1⟩
theorem request_word_ok : OkC Tryz.prog tab request_word_ct := fn_ok (W := ⟨Tryz.prog, tab, tyOf, [strconv_FormatInt_ct], addO, dpO, false⟩) ⟨tabOk, ⟨strconv_FormatInt_ok, trivial⟩, addOk⟩ (by kernel_rfl) 5 Tryz.f38 (.n) Tryz.func38 Tryz.call38 rfl (by kernel_rfl) (by kernel_rfl) (by kernel_rfl) fun n x => by kernel_rfl

/-! bursary request.key -/
def request_key (n : Nat) (p0 : Key) : Option ByteArray :=
  (request_word n p0.table).bind fun y1 =>
  (catP y1 (ByteArray.mk #[32])).bind fun s2 =>
  (request_word n (IntKind.wrap .i64 p0.id)).bind fun y3 =>
  (catP s2 y3).bind fun s4 =>
  some s4
@[reducible] def request_key_ct : Ct tab := ⟨37, [.st 2], [], [.one (.d .str)], [], ByteArray, fun y => (y, ()), fun y => y.1, fun _ => rfl, fun n x => request_key n x.1⟩
theorem request_key_ok : OkC Tryz.prog tab request_key_ct := fn_ok (W := ⟨Tryz.prog, tab, tyOf, [request_word_ct], addO, dpO, false⟩) ⟨tabOk, ⟨request_word_ok, trivial⟩, addOk⟩ (by kernel_rfl) 12 Tryz.f37 (.n) Tryz.func37 Tryz.call37 rfl (by kernel_rfl) (by kernel_rfl) (by kernel_rfl) fun n x => by kernel_rfl

/-! strings.Join -/
def strings_Join (n : Nat) (p0 : List ByteArray) (p1 : ByteArray) : Option ByteArray := joinZ p0 p1
@[reducible] def strings_Join_ct : Ct tab := joinCt tab 70
theorem strings_Join_ok : OkC Tryz.prog tab strings_Join_ct := join_ok Tryz.call70 joinRaw

/-! bursary request.line -/
def request_line (n : Nat) (p0 : List ByteArray) : Option ByteArray :=
  (strings_Join n p0 (ByteArray.mk #[32])).bind fun y1 =>
  some y1
@[reducible] def request_line_ct : Ct tab := ⟨36, [.one (.d (.sl (.str)))], [], [.one (.d .str)], [], ByteArray, fun y => (y, ()), fun y => y.1, fun _ => rfl, fun n x => request_line n x.1⟩
theorem request_line_ok : OkC Tryz.prog tab request_line_ct := fn_ok (W := ⟨Tryz.prog, tab, tyOf, [strings_Join_ct], addO, dpO, false⟩) ⟨tabOk, ⟨strings_Join_ok, trivial⟩, addOk⟩ (by kernel_rfl) 5 Tryz.f36 (.n) Tryz.func36 Tryz.call36 rfl (by kernel_rfl) (by kernel_rfl) (by kernel_rfl) fun n x => by kernel_rfl

/-! bursary request.Text -/
def request_Text (n : Nat) (p0 : Schema) (p1 : Request) : Option (ByteArray × Int) :=
  (ideal_CheckRequest n p0 p1).bind fun y1 =>
  cond (y1 != 0)
    (some ((ByteArray.mk #[]), y1))
    ((request_quoted n p1.note).bind fun y2 =>
    cond (!y2.2)
      (some ((ByteArray.mk #[]), 250))
      (cond (p1.kind == 1)
        ((request_key n p1.key).bind fun y3 =>
        (request_line n ([(ByteArray.mk #[114, 101, 97, 100]), y3] : List ByteArray)).bind fun y4 =>
        some (y4, 0))
        (cond (p1.kind == 2)
          ((request_word n p1.key.table).bind fun y5 =>
          (request_line n ([(ByteArray.mk #[115, 99, 97, 110]), y5] : List ByteArray)).bind fun y6 =>
          some (y6, 0))
          (cond (p1.kind == 3)
            ((request_key n p1.key).bind fun y7 =>
            (request_word n p1.val).bind fun y8 =>
            (request_line n ([(ByteArray.mk #[105, 110, 115, 101, 114, 116]), y7, y8, y2.1] : List ByteArray)).bind fun y9 =>
            some (y9, 0))
            (cond (p1.kind == 4)
              ((request_key n p1.key).bind fun y10 =>
              (request_line n ([(ByteArray.mk #[100, 101, 108, 101, 116, 101]), y10] : List ByteArray)).bind fun y11 =>
              some (y11, 0))
              (cond (p1.kind == 5)
                ((request_key n p1.key).bind fun y12 =>
                (request_line n ([(ByteArray.mk #[110, 111, 116, 101]), y12, y2.1] : List ByteArray)).bind fun y13 =>
                some (y13, 0))
                (cond (p1.kind == 6)
                  ((request_key n p1.key).bind fun y14 =>
                  (request_word n p1.val).bind fun y15 =>
                  (request_line n ([(ByteArray.mk #[115, 101, 116]), y14, y15] : List ByteArray)).bind fun y16 =>
                  some (y16, 0))
                  (cond (p1.kind == 7)
                    ((request_key n p1.key).bind fun y17 =>
                    (request_word n p1.val).bind fun y18 =>
                    (request_line n ([(ByteArray.mk #[97, 100, 100]), y17, y18] : List ByteArray)).bind fun y19 =>
                    some (y19, 0))
                    (cond (p1.kind == 8)
                      ((request_key n p1.key).bind fun y20 =>
                      (request_key n p1.to).bind fun y21 =>
                      (request_word n p1.val).bind fun y22 =>
                      (request_line n ([(ByteArray.mk #[109, 111, 118, 101]), y20, y21, y22] : List ByteArray)).bind fun y23 =>
                      some (y23, 0))
                      (cond (p1.kind == 9)
                        (some ((ByteArray.mk #[109, 97, 114, 107]), 0))
                        (cond (p1.kind == 10)
                          ((request_word n p1.n).bind fun y24 =>
                          (request_line n ([(ByteArray.mk #[98, 97, 99, 107]), y24] : List ByteArray)).bind fun y25 =>
                          some (y25, 0))
                          (cond (p1.kind == 11)
                            (some ((ByteArray.mk #[99, 111, 109, 109, 105, 116]), 0))
                            (some ((ByteArray.mk #[97, 98, 111, 114, 116]), 0))))))))))))))
@[reducible] def request_Text_ct : Ct tab := ⟨11, [.st 1, .st 3], [], [.one (.d .str), .one (.d (.int .i64))], [], (ByteArray × Int), fun y => (y.1, y.2, ()), fun y => (y.1, y.2.1), fun _ => rfl, fun n x => request_Text n x.1 x.2.1⟩
theorem request_Text_ok : OkC Tryz.prog tab request_Text_ct := fn_ok (W := ⟨Tryz.prog, tab, tyOf, [ideal_CheckRequest_ct, request_quoted_ct, request_key_ct, request_line_ct, request_word_ct], addO, dpO, false⟩) ⟨tabOk, ⟨ideal_CheckRequest_ok, request_quoted_ok, request_key_ok, request_line_ok, request_word_ok, trivial⟩, addOk⟩ (by kernel_rfl) 110 Tryz.f11 (.n) Tryz.func11 Tryz.call11 rfl (by kernel_rfl) (by kernel_rfl) (by kernel_rfl) fun n x => by kernel_rfl

/-! strings.Cut -/
def strings_Cut (n : Nat) (p0 : ByteArray) (p1 : ByteArray) : Option (ByteArray × ByteArray × Bool) := cutZ p0 p1
@[reducible] def strings_Cut_ct : Ct tab := cutCt tab 78
theorem strings_Cut_ok : OkC Tryz.prog tab strings_Cut_ct := cut_ok Tryz.call78 cutRaw

/-!   bursary request.reader .next -/
def request_reader_next (n : Nat) (q0 : request_reader) : Option (ByteArray × request_reader) :=
  (strings_Cut n q0.rest (ByteArray.mk #[32])).bind fun y1 =>
  jn (fun (b2 : Bool) =>
      some (y1.1, (request_reader.mk q0.schema y1.2.1 b2))) fun k3 =>
  cond q0.bad
    (k3 true)
    (jn (fun (b4 : Bool) =>
        k3 b4) fun k5 =>
    cond y1.2.2
      (k5 (y1.2.1.toList == (ByteArray.mk #[]).toList))
      (k5 false))
@[reducible] def request_reader_next_ct : Ct tab := ⟨49, [.one (.box 0 0)], [.bst 8], [.one (.d .str)], [(some 0, .bst 8)], (ByteArray × request_reader), fun y => (y.1, y.2, ()), fun y => (y.1, y.2.1), fun _ => rfl, fun n x => request_reader_next n x.1⟩
theorem request_reader_next_ok : OkC Tryz.prog tab request_reader_next_ct := fn_ok (W := ⟨Tryz.prog, tab, tyOf, [strings_Cut_ct], addO, dpO, false⟩) ⟨tabOk, ⟨strings_Cut_ok, trivial⟩, addOk⟩ (by kernel_rfl) 34 Tryz.f49 (.n) Tryz.func49 Tryz.call49 rfl (by kernel_rfl) (by kernel_rfl) (by kernel_rfl) fun n x => by kernel_rfl

/-! strconv.ParseInt -/
def strconv_ParseInt (n : Nat) (p0 : ByteArray) (p1 : Int) (p2 : Int) : Option (Int × Bool) := parZ p0 p1 p2
@[reducible] def strconv_ParseInt_ct : Ct tab := parCt tab 103
theorem strconv_ParseInt_ok : OkC Tryz.prog tab strconv_ParseInt_ct := par_ok Tryz.call103 parRaw

/-!   bursary request.reader .number -/
def request_reader_number (n : Nat) (q0 : request_reader) : Option (Int × request_reader) :=
  (request_reader_next n q0).bind fun y1 =>
  (strconv_ParseInt n y1.1 10 64).bind fun y2 =>
  jn (fun (b3 : Bool) =>
      jn (fun (b5 : Bool) =>
          some (y2.1, (request_reader.mk y1.2.schema y1.2.rest b5))) fun k6 =>
      cond b3
        (k6 true)
        ((request_word n y2.1).bind fun y7 =>
        k6 (!(y7.toList == y1.1.toList)))) fun k4 =>
  cond y1.2.bad
    (k4 true)
    (k4 y2.2)
@[reducible] def request_reader_number_ct : Ct tab := ⟨77, [.one (.box 0 0)], [.bst 8], [.one (.d (.int .i64))], [(some 0, .bst 8)], (Int × request_reader), fun y => (y.1, y.2, ()), fun y => (y.1, y.2.1), fun _ => rfl, fun n x => request_reader_number n x.1⟩
theorem request_reader_number_ok : OkC Tryz.prog tab request_reader_number_ct := fn_ok (W := ⟨Tryz.prog, tab, tyOf, [request_reader_next_ct, strconv_ParseInt_ct, request_word_ct], addO, dpO, false⟩) ⟨tabOk, ⟨request_reader_next_ok, strconv_ParseInt_ok, request_word_ok, trivial⟩, addOk⟩ (by kernel_rfl) 31 Tryz.f77 (.n) Tryz.func77 Tryz.call77 rfl (by kernel_rfl) (by kernel_rfl) (by kernel_rfl) fun n x => by kernel_rfl

/-!   bursary request.reader .place -/
def request_reader_place (n : Nat) (p1 : Int) (q0 : request_reader) : Option (Int × request_reader) :=
  (request_reader_number n q0).bind fun y1 =>
  jn (fun (b2 : Bool) =>
      jn (fun (b4 : Bool) =>
          some ((if 0 > (if p1 < y1.1 then p1 else y1.1) then 0 else (if p1 < y1.1 then p1 else y1.1)), (request_reader.mk y1.2.schema y1.2.rest b4))) fun k5 =>
      cond b2
        (k5 true)
        (k5 (decide (y1.1 > p1)))) fun k3 =>
  cond y1.2.bad
    (k3 true)
    (k3 (decide (y1.1 < 0)))
@[reducible] def request_reader_place_ct : Ct tab := ⟨75, [.one (.box 0 0), .one (.d (.int .i64))], [.bst 8], [.one (.d (.int .i64))], [(some 0, .bst 8)], (Int × request_reader), fun y => (y.1, y.2, ()), fun y => (y.1, y.2.1), fun _ => rfl, fun n x => request_reader_place n x.1 x.2.1⟩
theorem request_reader_place_ok : OkC Tryz.prog tab request_reader_place_ct := fn_ok (W := ⟨Tryz.prog, tab, tyOf, [request_reader_number_ct], addO, dpO, false⟩) ⟨tabOk, ⟨request_reader_number_ok, trivial⟩, addOk⟩ (by kernel_rfl) 28 Tryz.f75 (.n) Tryz.func75 Tryz.call75 rfl (by kernel_rfl) (by kernel_rfl) (by kernel_rfl) fun n x => by kernel_rfl

/-!   bursary request.reader .key -/
def request_reader_key (n : Nat) (q0 : request_reader) : Option (Key × request_reader) :=
  (request_reader_place n 3 q0).bind fun y1 =>
  (request_reader_place n 65535 y1.2).bind fun y2 =>
  some ((Key.mk y1.1 (IntKind.wrap .u16 y2.1)), y2.2)
@[reducible] def request_reader_key_ct : Ct tab := ⟨74, [.one (.box 0 0)], [.bst 8], [.st 2], [(some 0, .bst 8)], (Key × request_reader), fun y => (y.1, y.2, ()), fun y => (y.1, y.2.1), fun _ => rfl, fun n x => request_reader_key n x.1⟩
theorem request_reader_key_ok : OkC Tryz.prog tab request_reader_key_ct := fn_ok (W := ⟨Tryz.prog, tab, tyOf, [request_reader_place_ct], addO, dpO, false⟩) ⟨tabOk, ⟨request_reader_place_ok, trivial⟩, addOk⟩ (by kernel_rfl) 11 Tryz.f74 (.n) Tryz.func74 Tryz.call74 rfl (by kernel_rfl) (by kernel_rfl) (by kernel_rfl) fun n x => by kernel_rfl

/-!   bursary request.reader .keyed -/
def request_reader_keyed (n : Nat) (q0 : request_reader) (q1 : Request) : Option (request_reader × Request) :=
  (request_reader_key n q0).bind fun y1 =>
  some (y1.2, (Request.mk q1.kind y1.1 q1.to q1.val q1.note q1.n))
@[reducible] def request_reader_keyed_ct : Ct tab := ⟨41, [.one (.box 0 0), .one (.box 1 0)], [.bst 8, .bst 3], [], [(some 0, .bst 8), (some 1, .bst 3)], (request_reader × Request), fun y => (y.1, y.2, ()), fun y => (y.1, y.2.1), fun _ => rfl, fun n x => request_reader_keyed n x.1 x.2.1⟩
theorem request_reader_keyed_ok : OkC Tryz.prog tab request_reader_keyed_ct := fn_ok (W := ⟨Tryz.prog, tab, tyOf, [request_reader_key_ct], addO, dpO, false⟩) ⟨tabOk, ⟨request_reader_key_ok, trivial⟩, addOk⟩ (by kernel_rfl) 9 Tryz.f41 (.n) Tryz.func41 Tryz.call41 rfl (by kernel_rfl) (by kernel_rfl) (by kernel_rfl) fun n x => by kernel_rfl

/-!   bursary request.reader .scanned -/
def request_reader_scanned (n : Nat) (q0 : request_reader) (q1 : Request) : Option (request_reader × Request) :=
  (request_reader_place n 3 q0).bind fun y1 =>
  some (y1.2, (Request.mk q1.kind (Key.mk y1.1 q1.key.id) q1.to q1.val q1.note q1.n))
@[reducible] def request_reader_scanned_ct : Ct tab := ⟨42, [.one (.box 0 0), .one (.box 1 0)], [.bst 8, .bst 3], [], [(some 0, .bst 8), (some 1, .bst 3)], (request_reader × Request), fun y => (y.1, y.2, ()), fun y => (y.1, y.2.1), fun _ => rfl, fun n x => request_reader_scanned n x.1 x.2.1⟩
theorem request_reader_scanned_ok : OkC Tryz.prog tab request_reader_scanned_ct := fn_ok (W := ⟨Tryz.prog, tab, tyOf, [request_reader_place_ct], addO, dpO, false⟩) ⟨tabOk, ⟨request_reader_place_ok, trivial⟩, addOk⟩ (by kernel_rfl) 10 Tryz.f42 (.n) Tryz.func42 Tryz.call42 rfl (by kernel_rfl) (by kernel_rfl) (by kernel_rfl) fun n x => by kernel_rfl

/-!   bursary request.reader .valued -/
def request_reader_valued (n : Nat) (q0 : request_reader) (q1 : Request) : Option (request_reader × Request) :=
  (request_reader_key n q0).bind fun y1 =>
  (request_reader_number n y1.2).bind fun y2 =>
  some (y2.2, (Request.mk q1.kind y1.1 q1.to y2.1 q1.note q1.n))
@[reducible] def request_reader_valued_ct : Ct tab := ⟨45, [.one (.box 0 0), .one (.box 1 0)], [.bst 8, .bst 3], [], [(some 0, .bst 8), (some 1, .bst 3)], (request_reader × Request), fun y => (y.1, y.2, ()), fun y => (y.1, y.2.1), fun _ => rfl, fun n x => request_reader_valued n x.1 x.2.1⟩
theorem request_reader_valued_ok : OkC Tryz.prog tab request_reader_valued_ct := fn_ok (W := ⟨Tryz.prog, tab, tyOf, [request_reader_key_ct, request_reader_number_ct], addO, dpO, false⟩) ⟨tabOk, ⟨request_reader_key_ok, request_reader_number_ok, trivial⟩, addOk⟩ (by kernel_rfl) 14 Tryz.f45 (.n) Tryz.func45 Tryz.call45 rfl (by kernel_rfl) (by kernel_rfl) (by kernel_rfl) fun n x => by kernel_rfl

/-!   bursary request.reader .note -/
def request_reader_note (n : Nat) (q0 : request_reader) : Option (ByteArray × request_reader) :=
  jn (fun (b1 : Bool) =>
      jn (fun (b3 : Bool) =>
          cond b3
            (some ((ByteArray.mk #[]), (request_reader.mk q0.schema (ByteArray.mk #[]) true)))
            (cond (decide ((0 : Int) ≤ 1 ∧ 1 ≤ (IntKind.wrap .i64 ((q0.rest.size : Int) - 1)) ∧ (IntKind.wrap .i64 ((q0.rest.size : Int) - 1)) ≤ (q0.rest.size : Int)))
              ((request_quoted n (ByteArray.extract q0.rest (Int.toNat 1) (Int.toNat (IntKind.wrap .i64 ((q0.rest.size : Int) - 1))))).bind fun y5 =>
              jn (fun (b6 : Bool) =>
                  some ((ByteArray.extract q0.rest (Int.toNat 1) (Int.toNat (IntKind.wrap .i64 ((q0.rest.size : Int) - 1)))), (request_reader.mk q0.schema (ByteArray.mk #[]) b6))) fun k7 =>
              cond q0.bad
                (k7 true)
                (k7 (!y5.2)))
              (none))) fun k4 =>
      cond b1
        (k4 true)
        ((sIdx q0.rest (IntKind.wrap .i64 ((q0.rest.size : Int) - 1))).bind fun c8 =>
        k4 (c8 != 34))) fun k2 =>
  cond (decide ((q0.rest.size : Int) < 2))
    (k2 true)
    ((sIdx q0.rest 0).bind fun c9 =>
    k2 (c9 != 34))
@[reducible] def request_reader_note_ct : Ct tab := ⟨76, [.one (.box 0 0)], [.bst 8], [.one (.d .str)], [(some 0, .bst 8)], (ByteArray × request_reader), fun y => (y.1, y.2, ()), fun y => (y.1, y.2.1), fun _ => rfl, fun n x => request_reader_note n x.1⟩
theorem request_reader_note_ok : OkC Tryz.prog tab request_reader_note_ct := fn_ok (W := ⟨Tryz.prog, tab, tyOf, [request_quoted_ct], addO, dpO, false⟩) ⟨tabOk, ⟨request_quoted_ok, trivial⟩, addOk⟩ (by kernel_rfl) 54 Tryz.f76 (.n) Tryz.func76 Tryz.call76 rfl (by kernel_rfl) (by kernel_rfl) (by kernel_rfl) fun n x => by kernel_rfl

/-!   bursary request.reader .inserted -/
def request_reader_inserted (n : Nat) (q0 : request_reader) (q1 : Request) : Option (request_reader × Request) :=
  (request_reader_valued n q0 q1).bind fun y1 =>
  (request_reader_note n y1.1).bind fun y2 =>
  some (y2.2, (Request.mk y1.2.kind y1.2.key y1.2.to y1.2.val y2.1 y1.2.n))
@[reducible] def request_reader_inserted_ct : Ct tab := ⟨43, [.one (.box 0 0), .one (.box 1 0)], [.bst 8, .bst 3], [], [(some 0, .bst 8), (some 1, .bst 3)], (request_reader × Request), fun y => (y.1, y.2, ()), fun y => (y.1, y.2.1), fun _ => rfl, fun n x => request_reader_inserted n x.1 x.2.1⟩
theorem request_reader_inserted_ok : OkC Tryz.prog tab request_reader_inserted_ct := fn_ok (W := ⟨Tryz.prog, tab, tyOf, [request_reader_valued_ct, request_reader_note_ct], addO, dpO, false⟩) ⟨tabOk, ⟨request_reader_valued_ok, request_reader_note_ok, trivial⟩, addOk⟩ (by kernel_rfl) 12 Tryz.f43 (.n) Tryz.func43 Tryz.call43 rfl (by kernel_rfl) (by kernel_rfl) (by kernel_rfl) fun n x => by kernel_rfl

/-!   bursary request.reader .noted -/
def request_reader_noted (n : Nat) (q0 : request_reader) (q1 : Request) : Option (request_reader × Request) :=
  (request_reader_key n q0).bind fun y1 =>
  (request_reader_note n y1.2).bind fun y2 =>
  some (y2.2, (Request.mk q1.kind y1.1 q1.to q1.val y2.1 q1.n))
@[reducible] def request_reader_noted_ct : Ct tab := ⟨44, [.one (.box 0 0), .one (.box 1 0)], [.bst 8, .bst 3], [], [(some 0, .bst 8), (some 1, .bst 3)], (request_reader × Request), fun y => (y.1, y.2, ()), fun y => (y.1, y.2.1), fun _ => rfl, fun n x => request_reader_noted n x.1 x.2.1⟩
theorem request_reader_noted_ok : OkC Tryz.prog tab request_reader_noted_ct := fn_ok (W := ⟨Tryz.prog, tab, tyOf, [request_reader_key_ct, request_reader_note_ct], addO, dpO, false⟩) ⟨tabOk, ⟨request_reader_key_ok, request_reader_note_ok, trivial⟩, addOk⟩ (by kernel_rfl) 14 Tryz.f44 (.n) Tryz.func44 Tryz.call44 rfl (by kernel_rfl) (by kernel_rfl) (by kernel_rfl) fun n x => by kernel_rfl

/-!   bursary request.reader .moved -/
def request_reader_moved (n : Nat) (q0 : request_reader) (q1 : Request) : Option (request_reader × Request) :=
  (request_reader_key n q0).bind fun y1 =>
  (request_reader_key n y1.2).bind fun y2 =>
  (request_reader_number n y2.2).bind fun y3 =>
  some (y3.2, (Request.mk q1.kind y1.1 y2.1 y3.1 q1.note q1.n))
@[reducible] def request_reader_moved_ct : Ct tab := ⟨46, [.one (.box 0 0), .one (.box 1 0)], [.bst 8, .bst 3], [], [(some 0, .bst 8), (some 1, .bst 3)], (request_reader × Request), fun y => (y.1, y.2, ()), fun y => (y.1, y.2.1), fun _ => rfl, fun n x => request_reader_moved n x.1 x.2.1⟩
theorem request_reader_moved_ok : OkC Tryz.prog tab request_reader_moved_ct := fn_ok (W := ⟨Tryz.prog, tab, tyOf, [request_reader_key_ct, request_reader_number_ct], addO, dpO, false⟩) ⟨tabOk, ⟨request_reader_key_ok, request_reader_number_ok, trivial⟩, addOk⟩ (by kernel_rfl) 19 Tryz.f46 (.n) Tryz.func46 Tryz.call46 rfl (by kernel_rfl) (by kernel_rfl) (by kernel_rfl) fun n x => by kernel_rfl

/-!   bursary request.reader .alone -/
def request_reader_alone (n : Nat) (p0 : request_reader) (p1 : Request) : Option Unit :=
  some ()
@[reducible] def request_reader_alone_ct : Ct tab := ⟨47, [.one (.ro (.st 8)), .one (.ro (.st 3))], [], [], [], Unit, fun y => (), fun y => (), fun _ => rfl, fun n x => request_reader_alone n x.1 x.2.1⟩
theorem request_reader_alone_ok : OkC Tryz.prog tab request_reader_alone_ct := fn_ok (W := ⟨Tryz.prog, tab, tyOf, [], addO, dpO, false⟩) ⟨tabOk, trivial, addOk⟩ (by kernel_rfl) 4 Tryz.f47 (.n) Tryz.func47 Tryz.call47 rfl (by kernel_rfl) (by kernel_rfl) (by kernel_rfl) fun n x => by kernel_rfl

/-!   bursary request.reader .backed -/
def request_reader_backed (n : Nat) (q0 : request_reader) (q1 : Request) : Option (request_reader × Request) :=
  (request_reader_place n 9223372036854775807 q0).bind fun y1 =>
  some (y1.2, (Request.mk q1.kind q1.key q1.to q1.val q1.note y1.1))
@[reducible] def request_reader_backed_ct : Ct tab := ⟨48, [.one (.box 0 0), .one (.box 1 0)], [.bst 8, .bst 3], [], [(some 0, .bst 8), (some 1, .bst 3)], (request_reader × Request), fun y => (y.1, y.2, ()), fun y => (y.1, y.2.1), fun _ => rfl, fun n x => request_reader_backed n x.1 x.2.1⟩
theorem request_reader_backed_ok : OkC Tryz.prog tab request_reader_backed_ct := fn_ok (W := ⟨Tryz.prog, tab, tyOf, [request_reader_place_ct], addO, dpO, false⟩) ⟨tabOk, ⟨request_reader_place_ok, trivial⟩, addOk⟩ (by kernel_rfl) 9 Tryz.f48 (.n) Tryz.func48 Tryz.call48 rfl (by kernel_rfl) (by kernel_rfl) (by kernel_rfl) fun n x => by kernel_rfl

/-! bursary request.Parse -/
def request_Parse (n : Nat) (p0 : Schema) (p1 : ByteArray) : Option (Request × Int) :=
  (row_Check n p0).bind fun y1 =>
  cond (y1 != 0)
    (some ((Request.mk 0 (Key.mk 0 0) (Key.mk 0 0) 0 ByteArray.empty 0), y1))
    ((request_reader_next n (request_reader.mk p0 p1 false)).bind fun y2 =>
    cond (strEq y2.1 (ByteArray.mk #[114, 101, 97, 100]))
      (cond (!true)
        (some ((Request.mk 0 (Key.mk 0 0) (Key.mk 0 0) 0 ByteArray.empty 0), 250))
        ((request_reader_keyed n y2.2 (Request.mk 1 (Key.mk 0 0) (Key.mk 0 0) 0 ByteArray.empty 0)).bind fun y3 =>
        (request_Text n y3.1.schema y3.2).bind fun y4 =>
        jn (fun (b5 : Bool) =>
            jn (fun (b7 : Bool) =>
                jn (fun (b9 : Bool) =>
                    cond b9
                      (some ((Request.mk 0 (Key.mk 0 0) (Key.mk 0 0) 0 ByteArray.empty 0), 250))
                      (some (y3.2, 0))) fun k10 =>
                cond b7
                  (k10 true)
                  (k10 (!(y4.1.toList == p1.toList)))) fun k8 =>
            cond b5
              (k8 true)
              (k8 (y4.2 != 0))) fun k6 =>
        cond y3.1.bad
          (k6 true)
          (k6 (!(y3.1.rest.toList == (ByteArray.mk #[]).toList)))))
      (cond (strEq y2.1 (ByteArray.mk #[115, 99, 97, 110]))
        (cond (!true)
          (some ((Request.mk 0 (Key.mk 0 0) (Key.mk 0 0) 0 ByteArray.empty 0), 250))
          ((request_reader_scanned n y2.2 (Request.mk 2 (Key.mk 0 0) (Key.mk 0 0) 0 ByteArray.empty 0)).bind fun y11 =>
          (request_Text n y11.1.schema y11.2).bind fun y12 =>
          jn (fun (b13 : Bool) =>
              jn (fun (b15 : Bool) =>
                  jn (fun (b17 : Bool) =>
                      cond b17
                        (some ((Request.mk 0 (Key.mk 0 0) (Key.mk 0 0) 0 ByteArray.empty 0), 250))
                        (some (y11.2, 0))) fun k18 =>
                  cond b15
                    (k18 true)
                    (k18 (!(y12.1.toList == p1.toList)))) fun k16 =>
              cond b13
                (k16 true)
                (k16 (y12.2 != 0))) fun k14 =>
          cond y11.1.bad
            (k14 true)
            (k14 (!(y11.1.rest.toList == (ByteArray.mk #[]).toList)))))
        (cond (strEq y2.1 (ByteArray.mk #[105, 110, 115, 101, 114, 116]))
          (cond (!true)
            (some ((Request.mk 0 (Key.mk 0 0) (Key.mk 0 0) 0 ByteArray.empty 0), 250))
            ((request_reader_inserted n y2.2 (Request.mk 3 (Key.mk 0 0) (Key.mk 0 0) 0 ByteArray.empty 0)).bind fun y19 =>
            (request_Text n y19.1.schema y19.2).bind fun y20 =>
            jn (fun (b21 : Bool) =>
                jn (fun (b23 : Bool) =>
                    jn (fun (b25 : Bool) =>
                        cond b25
                          (some ((Request.mk 0 (Key.mk 0 0) (Key.mk 0 0) 0 ByteArray.empty 0), 250))
                          (some (y19.2, 0))) fun k26 =>
                    cond b23
                      (k26 true)
                      (k26 (!(y20.1.toList == p1.toList)))) fun k24 =>
                cond b21
                  (k24 true)
                  (k24 (y20.2 != 0))) fun k22 =>
            cond y19.1.bad
              (k22 true)
              (k22 (!(y19.1.rest.toList == (ByteArray.mk #[]).toList)))))
          (cond (strEq y2.1 (ByteArray.mk #[100, 101, 108, 101, 116, 101]))
            (cond (!true)
              (some ((Request.mk 0 (Key.mk 0 0) (Key.mk 0 0) 0 ByteArray.empty 0), 250))
              ((request_reader_keyed n y2.2 (Request.mk 4 (Key.mk 0 0) (Key.mk 0 0) 0 ByteArray.empty 0)).bind fun y27 =>
              (request_Text n y27.1.schema y27.2).bind fun y28 =>
              jn (fun (b29 : Bool) =>
                  jn (fun (b31 : Bool) =>
                      jn (fun (b33 : Bool) =>
                          cond b33
                            (some ((Request.mk 0 (Key.mk 0 0) (Key.mk 0 0) 0 ByteArray.empty 0), 250))
                            (some (y27.2, 0))) fun k34 =>
                      cond b31
                        (k34 true)
                        (k34 (!(y28.1.toList == p1.toList)))) fun k32 =>
                  cond b29
                    (k32 true)
                    (k32 (y28.2 != 0))) fun k30 =>
              cond y27.1.bad
                (k30 true)
                (k30 (!(y27.1.rest.toList == (ByteArray.mk #[]).toList)))))
            (cond (strEq y2.1 (ByteArray.mk #[110, 111, 116, 101]))
              (cond (!true)
                (some ((Request.mk 0 (Key.mk 0 0) (Key.mk 0 0) 0 ByteArray.empty 0), 250))
                ((request_reader_noted n y2.2 (Request.mk 5 (Key.mk 0 0) (Key.mk 0 0) 0 ByteArray.empty 0)).bind fun y35 =>
                (request_Text n y35.1.schema y35.2).bind fun y36 =>
                jn (fun (b37 : Bool) =>
                    jn (fun (b39 : Bool) =>
                        jn (fun (b41 : Bool) =>
                            cond b41
                              (some ((Request.mk 0 (Key.mk 0 0) (Key.mk 0 0) 0 ByteArray.empty 0), 250))
                              (some (y35.2, 0))) fun k42 =>
                        cond b39
                          (k42 true)
                          (k42 (!(y36.1.toList == p1.toList)))) fun k40 =>
                    cond b37
                      (k40 true)
                      (k40 (y36.2 != 0))) fun k38 =>
                cond y35.1.bad
                  (k38 true)
                  (k38 (!(y35.1.rest.toList == (ByteArray.mk #[]).toList)))))
              (cond (strEq y2.1 (ByteArray.mk #[115, 101, 116]))
                (cond (!true)
                  (some ((Request.mk 0 (Key.mk 0 0) (Key.mk 0 0) 0 ByteArray.empty 0), 250))
                  ((request_reader_valued n y2.2 (Request.mk 6 (Key.mk 0 0) (Key.mk 0 0) 0 ByteArray.empty 0)).bind fun y43 =>
                  (request_Text n y43.1.schema y43.2).bind fun y44 =>
                  jn (fun (b45 : Bool) =>
                      jn (fun (b47 : Bool) =>
                          jn (fun (b49 : Bool) =>
                              cond b49
                                (some ((Request.mk 0 (Key.mk 0 0) (Key.mk 0 0) 0 ByteArray.empty 0), 250))
                                (some (y43.2, 0))) fun k50 =>
                          cond b47
                            (k50 true)
                            (k50 (!(y44.1.toList == p1.toList)))) fun k48 =>
                      cond b45
                        (k48 true)
                        (k48 (y44.2 != 0))) fun k46 =>
                  cond y43.1.bad
                    (k46 true)
                    (k46 (!(y43.1.rest.toList == (ByteArray.mk #[]).toList)))))
                (cond (strEq y2.1 (ByteArray.mk #[97, 100, 100]))
                  (cond (!true)
                    (some ((Request.mk 0 (Key.mk 0 0) (Key.mk 0 0) 0 ByteArray.empty 0), 250))
                    ((request_reader_valued n y2.2 (Request.mk 7 (Key.mk 0 0) (Key.mk 0 0) 0 ByteArray.empty 0)).bind fun y51 =>
                    (request_Text n y51.1.schema y51.2).bind fun y52 =>
                    jn (fun (b53 : Bool) =>
                        jn (fun (b55 : Bool) =>
                            jn (fun (b57 : Bool) =>
                                cond b57
                                  (some ((Request.mk 0 (Key.mk 0 0) (Key.mk 0 0) 0 ByteArray.empty 0), 250))
                                  (some (y51.2, 0))) fun k58 =>
                            cond b55
                              (k58 true)
                              (k58 (!(y52.1.toList == p1.toList)))) fun k56 =>
                        cond b53
                          (k56 true)
                          (k56 (y52.2 != 0))) fun k54 =>
                    cond y51.1.bad
                      (k54 true)
                      (k54 (!(y51.1.rest.toList == (ByteArray.mk #[]).toList)))))
                  (cond (strEq y2.1 (ByteArray.mk #[109, 111, 118, 101]))
                    (cond (!true)
                      (some ((Request.mk 0 (Key.mk 0 0) (Key.mk 0 0) 0 ByteArray.empty 0), 250))
                      ((request_reader_moved n y2.2 (Request.mk 8 (Key.mk 0 0) (Key.mk 0 0) 0 ByteArray.empty 0)).bind fun y59 =>
                      (request_Text n y59.1.schema y59.2).bind fun y60 =>
                      jn (fun (b61 : Bool) =>
                          jn (fun (b63 : Bool) =>
                              jn (fun (b65 : Bool) =>
                                  cond b65
                                    (some ((Request.mk 0 (Key.mk 0 0) (Key.mk 0 0) 0 ByteArray.empty 0), 250))
                                    (some (y59.2, 0))) fun k66 =>
                              cond b63
                                (k66 true)
                                (k66 (!(y60.1.toList == p1.toList)))) fun k64 =>
                          cond b61
                            (k64 true)
                            (k64 (y60.2 != 0))) fun k62 =>
                      cond y59.1.bad
                        (k62 true)
                        (k62 (!(y59.1.rest.toList == (ByteArray.mk #[]).toList)))))
                    (cond (strEq y2.1 (ByteArray.mk #[109, 97, 114, 107]))
                      (cond (!true)
                        (some ((Request.mk 0 (Key.mk 0 0) (Key.mk 0 0) 0 ByteArray.empty 0), 250))
                        ((request_reader_alone n y2.2 (Request.mk 9 (Key.mk 0 0) (Key.mk 0 0) 0 ByteArray.empty 0)).bind fun y67 =>
                        (request_Text n y2.2.schema (Request.mk 9 (Key.mk 0 0) (Key.mk 0 0) 0 ByteArray.empty 0)).bind fun y68 =>
                        jn (fun (b69 : Bool) =>
                            jn (fun (b71 : Bool) =>
                                jn (fun (b73 : Bool) =>
                                    cond b73
                                      (some ((Request.mk 0 (Key.mk 0 0) (Key.mk 0 0) 0 ByteArray.empty 0), 250))
                                      (some ((Request.mk 9 (Key.mk 0 0) (Key.mk 0 0) 0 ByteArray.empty 0), 0))) fun k74 =>
                                cond b71
                                  (k74 true)
                                  (k74 (!(y68.1.toList == p1.toList)))) fun k72 =>
                            cond b69
                              (k72 true)
                              (k72 (y68.2 != 0))) fun k70 =>
                        cond y2.2.bad
                          (k70 true)
                          (k70 (!(y2.2.rest.toList == (ByteArray.mk #[]).toList)))))
                      (cond (strEq y2.1 (ByteArray.mk #[98, 97, 99, 107]))
                        (cond (!true)
                          (some ((Request.mk 0 (Key.mk 0 0) (Key.mk 0 0) 0 ByteArray.empty 0), 250))
                          ((request_reader_backed n y2.2 (Request.mk 10 (Key.mk 0 0) (Key.mk 0 0) 0 ByteArray.empty 0)).bind fun y75 =>
                          (request_Text n y75.1.schema y75.2).bind fun y76 =>
                          jn (fun (b77 : Bool) =>
                              jn (fun (b79 : Bool) =>
                                  jn (fun (b81 : Bool) =>
                                      cond b81
                                        (some ((Request.mk 0 (Key.mk 0 0) (Key.mk 0 0) 0 ByteArray.empty 0), 250))
                                        (some (y75.2, 0))) fun k82 =>
                                  cond b79
                                    (k82 true)
                                    (k82 (!(y76.1.toList == p1.toList)))) fun k80 =>
                              cond b77
                                (k80 true)
                                (k80 (y76.2 != 0))) fun k78 =>
                          cond y75.1.bad
                            (k78 true)
                            (k78 (!(y75.1.rest.toList == (ByteArray.mk #[]).toList)))))
                        (cond (strEq y2.1 (ByteArray.mk #[99, 111, 109, 109, 105, 116]))
                          (cond (!true)
                            (some ((Request.mk 0 (Key.mk 0 0) (Key.mk 0 0) 0 ByteArray.empty 0), 250))
                            ((request_reader_alone n y2.2 (Request.mk 11 (Key.mk 0 0) (Key.mk 0 0) 0 ByteArray.empty 0)).bind fun y83 =>
                            (request_Text n y2.2.schema (Request.mk 11 (Key.mk 0 0) (Key.mk 0 0) 0 ByteArray.empty 0)).bind fun y84 =>
                            jn (fun (b85 : Bool) =>
                                jn (fun (b87 : Bool) =>
                                    jn (fun (b89 : Bool) =>
                                        cond b89
                                          (some ((Request.mk 0 (Key.mk 0 0) (Key.mk 0 0) 0 ByteArray.empty 0), 250))
                                          (some ((Request.mk 11 (Key.mk 0 0) (Key.mk 0 0) 0 ByteArray.empty 0), 0))) fun k90 =>
                                    cond b87
                                      (k90 true)
                                      (k90 (!(y84.1.toList == p1.toList)))) fun k88 =>
                                cond b85
                                  (k88 true)
                                  (k88 (y84.2 != 0))) fun k86 =>
                            cond y2.2.bad
                              (k86 true)
                              (k86 (!(y2.2.rest.toList == (ByteArray.mk #[]).toList)))))
                          (cond (strEq y2.1 (ByteArray.mk #[97, 98, 111, 114, 116]))
                            (cond (!true)
                              (some ((Request.mk 0 (Key.mk 0 0) (Key.mk 0 0) 0 ByteArray.empty 0), 250))
                              ((request_reader_alone n y2.2 (Request.mk 12 (Key.mk 0 0) (Key.mk 0 0) 0 ByteArray.empty 0)).bind fun y91 =>
                              (request_Text n y2.2.schema (Request.mk 12 (Key.mk 0 0) (Key.mk 0 0) 0 ByteArray.empty 0)).bind fun y92 =>
                              jn (fun (b93 : Bool) =>
                                  jn (fun (b95 : Bool) =>
                                      jn (fun (b97 : Bool) =>
                                          cond b97
                                            (some ((Request.mk 0 (Key.mk 0 0) (Key.mk 0 0) 0 ByteArray.empty 0), 250))
                                            (some ((Request.mk 12 (Key.mk 0 0) (Key.mk 0 0) 0 ByteArray.empty 0), 0))) fun k98 =>
                                      cond b95
                                        (k98 true)
                                        (k98 (!(y92.1.toList == p1.toList)))) fun k96 =>
                                  cond b93
                                    (k96 true)
                                    (k96 (y92.2 != 0))) fun k94 =>
                              cond y2.2.bad
                                (k94 true)
                                (k94 (!(y2.2.rest.toList == (ByteArray.mk #[]).toList)))))
                            (cond (!false)
                              (some ((Request.mk 0 (Key.mk 0 0) (Key.mk 0 0) 0 ByteArray.empty 0), 250))
                              (none))))))))))))))
@[reducible] def request_Parse_ct : Ct tab := ⟨14, [.st 1, .one (.d .str)], [], [.st 3, .one (.d (.int .i64))], [], (Request × Int), fun y => (y.1, y.2, ()), fun y => (y.1, y.2.1), fun _ => rfl, fun n x => request_Parse n x.1 x.2.1⟩
theorem request_Parse_ok : OkC Tryz.prog tab request_Parse_ct := fn_ok (W := ⟨Tryz.prog, tab, tyOf, [row_Check_ct, request_reader_next_ct, request_reader_keyed_ct, request_Text_ct, request_reader_scanned_ct, request_reader_inserted_ct, request_reader_noted_ct, request_reader_valued_ct, request_reader_moved_ct, request_reader_alone_ct, request_reader_backed_ct], addO, dpO, false⟩) ⟨tabOk, ⟨row_Check_ok, request_reader_next_ok, request_reader_keyed_ok, request_Text_ok, request_reader_scanned_ok, request_reader_inserted_ok, request_reader_noted_ok, request_reader_valued_ok, request_reader_moved_ok, request_reader_alone_ok, request_reader_backed_ok, trivial⟩, addOk⟩ (by kernel_rfl) 109 Tryz.f14 (.n) Tryz.func14 Tryz.call14 rfl (by kernel_rfl) (by kernel_rfl) (by kernel_rfl) fun n x => by kernel_rfl

end
end Go.Proofs.YtlfjoaipbpendaaGreatDoor
