/- Functions of the program: plain twins and their contracts, printed by program. -/
import Derived.Test.YtlfjoaipbpendaaGreatDoorTypes
import Derived.Test.YtlfjoaipbpendaaGreatDoorF0
namespace Go.Proofs.YtlfjoaipbpendaaGreatDoor
open Go Go.Bur Go.RowKit
set_option linter.unusedVariables false
set_option linter.unusedSimpArgs false
set_option maxRecDepth 100000
noncomputable section
/-! bursary bursarylaw19.wakes -/
def law19_wakes (n : Nat) : Option Bool :=
  (law19_two n).bind fun y1 =>
  (request_Locks n y1 (Request.mk 8 (Key.mk 1 5) (Key.mk 0 7) 2 ByteArray.empty 0)).bind fun y2 =>
  (law19_two n).bind fun y3 =>
  (request_Text n y3 (Request.mk 8 (Key.mk 1 5) (Key.mk 0 7) 2 ByteArray.empty 0)).bind fun y4 =>
  (law19_two n).bind fun y5 =>
  (request_Parse n y5 y4.1).bind fun y6 =>
  jn (fun (b7 : Bool) =>
      jn (fun (b9 : Bool) =>
          jn (fun (b11 : Bool) =>
              jn (fun (b13 : Bool) =>
                  jn (fun (b15 : Bool) =>
                      jn (fun (b17 : Bool) =>
                          jn (fun (b19 : Bool) =>
                              some b19) fun k20 =>
                          cond b17
                            (k20 (Request.eqb y6.1 (Request.mk 8 (Key.mk 1 5) (Key.mk 0 7) 2 ByteArray.empty 0)))
                            (k20 false)) fun k18 =>
                      cond b15
                        (k18 (y4.1.toList == (ByteArray.mk #[109, 111, 118, 101, 32, 49, 32, 53, 32, 48, 32, 55, 32, 50]).toList))
                        (k18 false)) fun k16 =>
                  cond b13
                    ((idx y2.2 2).bind fun x21 =>
                    (idx y2.2 2).bind fun x22 =>
                    k16 (x22.res.id == 7))
                    (k16 false)) fun k14 =>
              cond b11
                ((idx y2.2 0).bind fun x23 =>
                (idx y2.2 0).bind fun x24 =>
                k14 (x24.mode == 2))
                (k14 false)) fun k12 =>
          cond b9
            (k12 ((y2.2.length : Int) == 4))
            (k12 false)) fun k10 =>
      cond b7
        (k10 (y6.2 == 0))
        (k10 false)) fun k8 =>
  cond (y2.1 == 0)
    (k8 (y4.2 == 0))
    (k8 false)
@[reducible] def law19_wakes_ct : Ct tab := ⟨9, [], [], [.one (.d .bool)], [], Bool, fun y => (y, ()), fun y => y.1, fun _ => rfl, fun n x => law19_wakes n⟩
theorem law19_wakes_ok : OkC Tryz.prog tab law19_wakes_ct := fn_ok (W := ⟨Tryz.prog, tab, tyOf, [law19_two_ct, request_Locks_ct, request_Text_ct, request_Parse_ct], addO, dpO, false⟩) ⟨tabOk, ⟨law19_two_ok, request_Locks_ok, request_Text_ok, request_Parse_ok, trivial⟩, addOk⟩ (by kernel_rfl) 68 Tryz.f9 (.n) Tryz.func9 Tryz.call9 rfl (by kernel_rfl) (by kernel_rfl) (by kernel_rfl) fun n x => by kernel_rfl

/-! bursary bursarylaw19.over -/
def law19_over_l1 (n : Nat) : Nat → (List Request) × Int × Int × Unit → Option Bool := loopF fun r1 ⟨v1, v2, v3, _⟩ =>
    cond (decide (v3 < v2))
      ((idx v1 v3).bind fun x4 =>
      cond (decide ((x4.note.size : Int) > 100))
        (some true)
        (r1 (v1, v2, (IntKind.wrap .i64 (v3 + 1)), ())))
      (some false)
def law19_over (n : Nat) (p0 : Schema) (p1 : List Request) : Option Bool :=
  cond (decide ((p0.tables.length : Int) > 20))
    (some true)
    (law19_over_l1 n n (p1, (p1.length : Int), 0, ()))
@[reducible] def law19_over_ct : Ct tab := ⟨10, [.st 1, .one (.d (.sl (.st 3)))], [], [.one (.d .bool)], [], Bool, fun y => (y, ()), fun y => y.1, fun _ => rfl, fun n x => law19_over n x.1 x.2.1⟩
theorem law19_over_ok : OkC Tryz.prog tab law19_over_ct := fn_ok (W := ⟨Tryz.prog, tab, tyOf, [], addO, dpO, false⟩) ⟨tabOk, trivial, addOk⟩ (by kernel_rfl) 22 Tryz.f10 (.sq (.n) (.sq (.n) (.sq (.sq (.n) (.bk none (.lp ⟨[(11, .one (.d (.sl (.st 3)))), (12, .one (.d (.int .i64))), (13, .one (.d (.int .i64)))], [], []⟩ (.n)))) (.n)))) Tryz.func10 Tryz.call10 rfl (by kernel_rfl) (by kernel_rfl) (by kernel_rfl) fun n x => by kernel_rfl

/-! bursary bursaryref05.Right -/
def ref05_Right_l1 (n : Nat) : Nat → Int × Schema × Unit → Option Bool := loopF fun r1 ⟨v3, v4, _⟩ =>
    cond (decide (v3 < (v4.tables.length : Int)))
      ((idx v4.tables v3).bind fun x5 =>
      (idx v4.tables v3).bind fun x6 =>
      cond (decide (x5.min > x6.max))
        (some false)
        (r1 ((IntKind.wrap .i64 (v3 + 1)), v4, ())))
      (some true)
def ref05_Right (n : Nat) (p0 : Schema) : Option Bool :=
  jn (fun (b1 : Bool) =>
      cond b1
        (some false)
        (ref05_Right_l1 n n (0, p0, ()))) fun k2 =>
  cond (decide ((p0.tables.length : Int) < 1))
    (k2 true)
    (k2 (decide ((p0.tables.length : Int) > 3)))
@[reducible] def ref05_Right_ct : Ct tab := ⟨12, [.st 1], [], [.one (.d .bool)], [], Bool, fun y => (y, ()), fun y => y.1, fun _ => rfl, fun n x => ref05_Right n x.1⟩
theorem ref05_Right_ok : OkC Tryz.prog tab ref05_Right_ct := fn_ok (W := ⟨Tryz.prog, tab, tyOf, [], addO, dpO, false⟩) ⟨tabOk, trivial, addOk⟩ (by kernel_rfl) 34 Tryz.f12 (.sq (.n) (.sq (.n) (.sq (.sq (.n) (.bk none (.lp ⟨[(1, .one (.box 0 0)), (3, .one (.d (.int .i64)))], [.bst 1], []⟩ (.n)))) (.n)))) Tryz.func12 Tryz.call12 rfl (by kernel_rfl) (by kernel_rfl) (by kernel_rfl) fun n x => by kernel_rfl

/-! bursary bursaryref05.KeyError -/
def ref05_KeyError (n : Nat) (p0 : Schema) (p1 : Key) : Option Int :=
  jn (fun (b1 : Bool) =>
      cond b1
        (some 151)
        (some 0)) fun k2 =>
  cond (decide (p1.table < 0))
    (k2 true)
    (k2 (decide (p1.table ≥ (p0.tables.length : Int))))
@[reducible] def ref05_KeyError_ct : Ct tab := ⟨57, [.st 1, .st 2], [], [.one (.d (.int .i64))], [], Int, fun y => (y, ()), fun y => y.1, fun _ => rfl, fun n x => ref05_KeyError n x.1 x.2.1⟩
theorem ref05_KeyError_ok : OkC Tryz.prog tab ref05_KeyError_ct := fn_ok (W := ⟨Tryz.prog, tab, tyOf, [], addO, dpO, false⟩) ⟨tabOk, trivial, addOk⟩ (by kernel_rfl) 16 Tryz.f57 (.n) Tryz.func57 Tryz.call57 rfl (by kernel_rfl) (by kernel_rfl) (by kernel_rfl) fun n x => by kernel_rfl

/-! bursary bursaryref15.RightRequest -/
def ref15_RightRequest_j2 (n : Nat) : Schema × Request × Request × Unit → Option Bool := fun ⟨v395, v396, v397, _⟩ =>
    jn (fun (b398 : Bool) =>
        jn (fun (b400 : Bool) =>
            some b400) fun k401 =>
        cond b398
          (k401 (decide ((v396.note.size : Int) ≤ 8)))
          (k401 false)) fun k399 =>
    cond (Request.eqb v396 v397)
      ((ref05_KeyError n v395 v396.key).bind fun y402 =>
      k399 (y402 == 0))
      (k399 false)
def ref15_RightRequest_j3 (n : Nat) (j2 : Schema × Request × Request × Unit → Option Bool) : Schema × Request × Request × Unit → Option Bool := fun ⟨v596, v597, v598, _⟩ =>
    j2 (v596, v597, v598, ())
def ref15_RightRequest_j4 (n : Nat) (j3 : Schema × Request × Request × Unit → Option Bool) : Schema × Request × Request × Unit → Option Bool := fun ⟨v694, v695, v696, _⟩ =>
    j3 (v694, v695, v696, ())
def ref15_RightRequest_j5 (n : Nat) (j4 : Schema × Request × Request × Unit → Option Bool) : Schema × Request × Request × Unit → Option Bool := fun ⟨v743, v744, v745, _⟩ =>
    j4 (v743, v744, v745, ())
def ref15_RightRequest_j7 (n : Nat) (j5 : Schema × Request × Request × Unit → Option Bool) : Schema × Request × Request × Unit → Option Bool := fun ⟨v770, v771, v772, _⟩ =>
    j5 (v770, v771, v772, ())
def ref15_RightRequest_j8 (n : Nat) : Int × Bool × Request × Request × Unit → Option Bool := fun ⟨v782, v783, v784, v785, _⟩ =>
    cond v783
      (some (Request.eqb v784 v785))
      (cond (v782 == 10)
        (jn (fun (b786 : Bool) =>
            some b786) fun k787 =>
        cond (Request.eqb v784 (Request.mk v785.kind v785.key v785.to v785.val v785.note v784.n))
          (k787 (decide (v784.n ≥ 1)))
          (k787 false))
        (some false))
def ref15_RightRequest_j9 (n : Nat) (j8 : Int × Bool × Request × Request × Unit → Option Bool) : Int × Bool × Request × Request × Unit → Option Bool := fun ⟨v788, v789, v790, v791, _⟩ =>
    j8 (v788, v789, v790, v791, ())
def ref15_RightRequest_j6 (n : Nat) (j5 : Schema × Request × Request × Unit → Option Bool) : Int × Bool × Schema × Request × Request × Unit → Option Bool := fun ⟨v746, v747, v748, v749, v750, _⟩ =>
    jn (ref15_RightRequest_j7 n j5) fun j7 =>
    cond v747
      (j7 (v748, v749, (Request.mk v750.kind v749.key v750.to v749.val v750.note v750.n), ()))
      (cond (v746 == 8)
        (jn (fun (b773 : Bool) =>
            jn (fun (b775 : Bool) =>
                cond b775
                  (some false)
                  (j7 (v748, v749, (Request.mk v750.kind v749.key v749.to v749.val v750.note v750.n), ()))) fun k776 =>
            cond b773
              (k776 true)
              ((ref05_KeyError n v748 v749.to).bind fun y777 =>
              k776 (y777 != 0))) fun k774 =>
        cond (Key.eqb v749.key v749.to)
          (k774 true)
          (k774 (decide (v749.val < 0))))
        (jn (ref15_RightRequest_j8 n) fun j8 =>
        cond (v746 == 9)
          (j8 (v746, (v746 == 9), v749, v750, ()))
          (jn (ref15_RightRequest_j9 n j8) fun j9 =>
          cond (v746 == 11)
            (j9 (v746, (v746 == 11), v749, v750, ()))
            (j9 (v746, (v746 == 12), v749, v750, ())))))
def ref15_RightRequest_j1 (n : Nat) : Int × Bool × Schema × Request × Request × Unit → Option Bool := fun ⟨v1, v2, v3, v4, v5, _⟩ =>
    jn (ref15_RightRequest_j2 n) fun j2 =>
    cond v2
      (j2 (v3, v4, (Request.mk v5.kind v4.key v5.to v5.val v5.note v5.n), ()))
      (jn (ref15_RightRequest_j3 n j2) fun j3 =>
      cond (v1 == 2)
        (j3 (v3, v4, (Request.mk v5.kind (Key.mk v4.key.table v5.key.id) v5.to v5.val v5.note v5.n), ()))
        (jn (ref15_RightRequest_j4 n j3) fun j4 =>
        cond (v1 == 3)
          (j4 (v3, v4, (Request.mk v5.kind v4.key v5.to v4.val v4.note v5.n), ()))
          (jn (ref15_RightRequest_j5 n j4) fun j5 =>
          cond (v1 == 5)
            (j5 (v3, v4, (Request.mk v5.kind v4.key v5.to v5.val v4.note v5.n), ()))
            (jn (ref15_RightRequest_j6 n j5) fun j6 =>
            cond (v1 == 6)
              (j6 (v1, (v1 == 6), v3, v4, v5, ()))
              (j6 (v1, (v1 == 7), v3, v4, v5, ()))))))
def ref15_RightRequest (n : Nat) (p0 : Schema) (p1 : Request) : Option Bool :=
  jn (ref15_RightRequest_j1 n) fun j1 =>
  cond (p1.kind == 1)
    (j1 (p1.kind, (p1.kind == 1), p0, p1, (Request.mk p1.kind (Key.mk 0 0) (Key.mk 0 0) 0 ByteArray.empty 0), ()))
    (j1 (p1.kind, (p1.kind == 4), p0, p1, (Request.mk p1.kind (Key.mk 0 0) (Key.mk 0 0) 0 ByteArray.empty 0), ()))
@[reducible] def ref15_RightRequest_ct : Ct tab := ⟨21, [.st 1, .st 3], [], [.one (.d .bool)], [], Bool, fun y => (y, ()), fun y => y.1, fun _ => rfl, fun n x => ref15_RightRequest n x.1 x.2.1⟩
theorem ref15_RightRequest_ok : OkC Tryz.prog tab ref15_RightRequest_ct := fn_ok (W := ⟨Tryz.prog, tab, tyOf, [ref05_KeyError_ct], addO, dpO, false⟩) ⟨tabOk, ⟨ref05_KeyError_ok, trivial⟩, addOk⟩ (by kernel_rfl) 116 Tryz.f21 (.sq (.n) (.sq (.n) (.sq (.sq (.n) (.bk none (.sq (.sq (.n) (.cd (some ⟨[(2, .one (.box 0 0)), (3, .one (.box 1 0)), (5, .one (.box 2 0)), (10, .one (.d (.int .i64))), (11, .one (.d .bool))], [.bst 1, .bst 3, .bst 3], []⟩) (.n) (.n))) (.cd (some ⟨[(2, .one (.box 0 0)), (3, .one (.box 1 0)), (5, .one (.box 2 0))], [.bst 1, .bst 3, .bst 3], []⟩) (.n) (.sq (.n) (.cd (some ⟨[(2, .one (.box 0 0)), (3, .one (.box 1 0)), (5, .one (.box 2 0))], [.bst 1, .bst 3, .bst 3], []⟩) (.n) (.sq (.n) (.cd (some ⟨[(2, .one (.box 0 0)), (3, .one (.box 1 0)), (5, .one (.box 2 0))], [.bst 1, .bst 3, .bst 3], []⟩) (.n) (.sq (.n) (.cd (some ⟨[(2, .one (.box 0 0)), (3, .one (.box 1 0)), (5, .one (.box 2 0))], [.bst 1, .bst 3, .bst 3], []⟩) (.n) (.sq (.sq (.n) (.cd (some ⟨[(2, .one (.box 0 0)), (3, .one (.box 1 0)), (5, .one (.box 2 0)), (10, .one (.d (.int .i64))), (43, .one (.d .bool))], [.bst 1, .bst 3, .bst 3], []⟩) (.n) (.n))) (.cd (some ⟨[(2, .one (.box 0 0)), (3, .one (.box 1 0)), (5, .one (.box 2 0))], [.bst 1, .bst 3, .bst 3], []⟩) (.n) (.sq (.n) (.cd none (.n) (.sq (.sq (.n) (.cd (some ⟨[(3, .one (.box 0 0)), (5, .one (.box 1 0)), (10, .one (.d (.int .i64))), (80, .one (.d .bool))], [.bst 3, .bst 3], []⟩) (.n) (.sq (.n) (.cd (some ⟨[(3, .one (.box 0 0)), (5, .one (.box 1 0)), (10, .one (.d (.int .i64))), (80, .one (.d .bool))], [.bst 3, .bst 3], []⟩) (.n) (.n))))) (.n)))))))))))))))) (.n)))) Tryz.func21 Tryz.call21 rfl (by kernel_rfl) (by kernel_rfl) (by kernel_rfl) fun n x => by kernel_rfl

/-! bursary bursaryref19.Quotes -/
def ref19_Quotes_l1 (n : Nat) : Nat → ByteArray × Int × Unit → Option Bool := loopF fun r1 ⟨v1, v2, _⟩ =>
    cond (decide (v2 < (v1.size : Int)))
      ((sIdx v1 v2).bind fun c3 =>
      jn (fun (b4 : Bool) =>
          jn (fun (b6 : Bool) =>
              cond b6
                (some false)
                (r1 (v1, (IntKind.wrap .i64 (v2 + 1)), ()))) fun k7 =>
          cond b4
            (k7 true)
            ((sIdx v1 v2).bind fun c8 =>
            k7 (c8 == 34))) fun k5 =>
      cond (decide (c3 < 32))
        (k5 true)
        ((sIdx v1 v2).bind fun c9 =>
        k5 (decide (c9 > 126))))
      (some true)
def ref19_Quotes (n : Nat) (p0 : ByteArray) : Option Bool :=
  ref19_Quotes_l1 n n (p0, 0, ())
@[reducible] def ref19_Quotes_ct : Ct tab := ⟨39, [.one (.d .str)], [], [.one (.d .bool)], [], Bool, fun y => (y, ()), fun y => y.1, fun _ => rfl, fun n x => ref19_Quotes n x.1⟩
theorem ref19_Quotes_ok : OkC Tryz.prog tab ref19_Quotes_ct := fn_ok (W := ⟨Tryz.prog, tab, tyOf, [], addO, dpO, false⟩) ⟨tabOk, trivial, addOk⟩ (by kernel_rfl) 26 Tryz.f39 (.sq (.n) (.sq (.sq (.n) (.bk none (.lp ⟨[(0, .one (.d .str)), (3, .one (.d (.int .i64)))], [], []⟩ (.n)))) (.n))) Tryz.func39 Tryz.call39 rfl (by kernel_rfl) (by kernel_rfl) (by kernel_rfl) fun n x => by kernel_rfl

/-! bursary bursaryref19.Right -/
def ref19_Right (n : Nat) (p0 : Schema) (p1 : Request) : Option Bool :=
  (ref15_RightRequest n p0 p1).bind fun y1 =>
  jn (fun (b2 : Bool) =>
      some b2) fun k3 =>
  cond y1
    ((ref19_Quotes n p1.note).bind fun y4 =>
    k3 y4)
    (k3 false)
@[reducible] def ref19_Right_ct : Ct tab := ⟨13, [.st 1, .st 3], [], [.one (.d .bool)], [], Bool, fun y => (y, ()), fun y => y.1, fun _ => rfl, fun n x => ref19_Right n x.1 x.2.1⟩
theorem ref19_Right_ok : OkC Tryz.prog tab ref19_Right_ct := fn_ok (W := ⟨Tryz.prog, tab, tyOf, [ref15_RightRequest_ct, ref19_Quotes_ct], addO, dpO, false⟩) ⟨tabOk, ⟨ref15_RightRequest_ok, ref19_Quotes_ok, trivial⟩, addOk⟩ (by kernel_rfl) 13 Tryz.f13 (.n) Tryz.func13 Tryz.call13 rfl (by kernel_rfl) (by kernel_rfl) (by kernel_rfl) fun n x => by kernel_rfl

/-! bursary bursaryref19.digits -/
def ref19_digits_b (n : Nat) (self : Int × Unit → Option ByteArray) (p0 : Int) : Option ByteArray :=
  cond (decide (p0 < 10))
    (some (bstr ([(IntKind.wrap .u8 (IntKind.wrap .u64 (48 + p0)))] : List Int)))
    ((quoP .u64 p0 10).bind fun z1 =>
    (self (z1, ())).bind fun y2 =>
    (remP p0 10).bind fun z3 =>
    (self (z3, ())).bind fun y4 =>
    (catP y2 y4).bind fun s5 =>
    some s5)
def ref19_digits (n : Nat) (p0 : Int) : Option ByteArray := recF (fun n self x => ref19_digits_b n self x.1) n (p0, ())
@[reducible] def ref19_digits_ct : Ct tab := ⟨79, [.one (.d (.int .u64))], [], [.one (.d .str)], [], ByteArray, fun y => (y, ()), fun y => y.1, fun _ => rfl, fun n x => ref19_digits n x.1⟩
theorem ref19_digits_ok : OkC Tryz.prog tab ref19_digits_ct := fn_rec (W := ⟨Tryz.prog, tab, tyOf, [], addO, dpO, false⟩) ⟨tabOk, trivial, addOk⟩ (by kernel_rfl) 17 Tryz.f79 (.n) Tryz.func79 Tryz.call79 rfl (by kernel_rfl) (by kernel_rfl) (by kernel_rfl) (fun n self x => ref19_digits_b n self x.1) (fun _ => rfl) (fun _ _ => rfl) fun self n x => by kernel_rfl

/-! bursary bursaryref19.Number -/
def ref19_Number (n : Nat) (p0 : Int) : Option ByteArray :=
  cond (decide (p0 < 0))
    ((ref19_digits n (IntKind.wrap .u64 ((IntKind.wrap .u64 (IntKind.wrap .i64 (0 - (IntKind.wrap .i64 (p0 + 1))))) + 1))).bind fun y1 =>
    (catP (ByteArray.mk #[45]) y1).bind fun s2 =>
    some s2)
    ((ref19_digits n (IntKind.wrap .u64 p0)).bind fun y3 =>
    some y3)
@[reducible] def ref19_Number_ct : Ct tab := ⟨50, [.one (.d (.int .i64))], [], [.one (.d .str)], [], ByteArray, fun y => (y, ()), fun y => y.1, fun _ => rfl, fun n x => ref19_Number n x.1⟩
theorem ref19_Number_ok : OkC Tryz.prog tab ref19_Number_ct := fn_ok (W := ⟨Tryz.prog, tab, tyOf, [ref19_digits_ct], addO, dpO, false⟩) ⟨tabOk, ⟨ref19_digits_ok, trivial⟩, addOk⟩ (by kernel_rfl) 15 Tryz.f50 (.n) Tryz.func50 Tryz.call50 rfl (by kernel_rfl) (by kernel_rfl) (by kernel_rfl) fun n x => by kernel_rfl

/-! bursary bursaryref19.key -/
def ref19_key (n : Nat) (p0 : Key) : Option ByteArray :=
  (ref19_Number n p0.table).bind fun y1 =>
  (catP (ByteArray.mk #[32]) y1).bind fun s2 =>
  (catP s2 (ByteArray.mk #[32])).bind fun s3 =>
  (ref19_Number n (IntKind.wrap .i64 p0.id)).bind fun y4 =>
  (catP s3 y4).bind fun s5 =>
  some s5
@[reducible] def ref19_key_ct : Ct tab := ⟨51, [.st 2], [], [.one (.d .str)], [], ByteArray, fun y => (y, ()), fun y => y.1, fun _ => rfl, fun n x => ref19_key n x.1⟩
theorem ref19_key_ok : OkC Tryz.prog tab ref19_key_ct := fn_ok (W := ⟨Tryz.prog, tab, tyOf, [ref19_Number_ct], addO, dpO, false⟩) ⟨tabOk, ⟨ref19_Number_ok, trivial⟩, addOk⟩ (by kernel_rfl) 13 Tryz.f51 (.n) Tryz.func51 Tryz.call51 rfl (by kernel_rfl) (by kernel_rfl) (by kernel_rfl) fun n x => by kernel_rfl

/-! bursary bursaryref19.Text -/
def ref19_Text (n : Nat) (p0 : Request) : Option ByteArray :=
  (ref19_Number n p0.val).bind fun y1 =>
  (catP (ByteArray.mk #[32]) y1).bind fun s2 =>
  (catP (ByteArray.mk #[32, 34]) p0.note).bind fun s3 =>
  (catP s3 (ByteArray.mk #[34])).bind fun s4 =>
  cond (p0.kind == 1)
    ((ref19_key n p0.key).bind fun y5 =>
    (catP (ByteArray.mk #[114, 101, 97, 100]) y5).bind fun s6 =>
    some s6)
    (cond (p0.kind == 2)
      ((ref19_Number n p0.key.table).bind fun y7 =>
      (catP (ByteArray.mk #[115, 99, 97, 110, 32]) y7).bind fun s8 =>
      some s8)
      (cond (p0.kind == 3)
        ((ref19_key n p0.key).bind fun y9 =>
        (catP (ByteArray.mk #[105, 110, 115, 101, 114, 116]) y9).bind fun s10 =>
        (catP s10 s2).bind fun s11 =>
        (catP s11 s4).bind fun s12 =>
        some s12)
        (cond (p0.kind == 4)
          ((ref19_key n p0.key).bind fun y13 =>
          (catP (ByteArray.mk #[100, 101, 108, 101, 116, 101]) y13).bind fun s14 =>
          some s14)
          (cond (p0.kind == 5)
            ((ref19_key n p0.key).bind fun y15 =>
            (catP (ByteArray.mk #[110, 111, 116, 101]) y15).bind fun s16 =>
            (catP s16 s4).bind fun s17 =>
            some s17)
            (cond (p0.kind == 6)
              ((ref19_key n p0.key).bind fun y18 =>
              (catP (ByteArray.mk #[115, 101, 116]) y18).bind fun s19 =>
              (catP s19 s2).bind fun s20 =>
              some s20)
              (cond (p0.kind == 7)
                ((ref19_key n p0.key).bind fun y21 =>
                (catP (ByteArray.mk #[97, 100, 100]) y21).bind fun s22 =>
                (catP s22 s2).bind fun s23 =>
                some s23)
                (cond (p0.kind == 8)
                  ((ref19_key n p0.key).bind fun y24 =>
                  (catP (ByteArray.mk #[109, 111, 118, 101]) y24).bind fun s25 =>
                  (ref19_key n p0.to).bind fun y26 =>
                  (catP s25 y26).bind fun s27 =>
                  (catP s27 s2).bind fun s28 =>
                  some s28)
                  (cond (p0.kind == 9)
                    (some (ByteArray.mk #[109, 97, 114, 107]))
                    (cond (p0.kind == 10)
                      ((ref19_Number n p0.n).bind fun y29 =>
                      (catP (ByteArray.mk #[98, 97, 99, 107, 32]) y29).bind fun s30 =>
                      some s30)
                      (cond (p0.kind == 11)
                        (some (ByteArray.mk #[99, 111, 109, 109, 105, 116]))
                        (some (ByteArray.mk #[97, 98, 111, 114, 116]))))))))))))
@[reducible] def ref19_Text_ct : Ct tab := ⟨15, [.st 3], [], [.one (.d .str)], [], ByteArray, fun y => (y, ()), fun y => y.1, fun _ => rfl, fun n x => ref19_Text n x.1⟩
theorem ref19_Text_ok : OkC Tryz.prog tab ref19_Text_ct := fn_ok (W := ⟨Tryz.prog, tab, tyOf, [ref19_Number_ct, ref19_key_ct], addO, dpO, false⟩) ⟨tabOk, ⟨ref19_Number_ok, ref19_key_ok, trivial⟩, addOk⟩ (by kernel_rfl) 90 Tryz.f15 (.n) Tryz.func15 Tryz.call15 rfl (by kernel_rfl) (by kernel_rfl) (by kernel_rfl) fun n x => by kernel_rfl

/-! bursary bursarylaw19.RequestTexts -/
/-! bursary bursarylaw19.RequestReads -/
def law19_RequestReads (n : Nat) (p0 : Schema) (p1 : ByteArray) : Option Bool :=
  (law19_wakes n).bind fun y1 =>
  cond (!y1)
    (some false)
    ((law19_over n p0 ([] : List Request)).bind fun y2 =>
    jn (fun (b3 : Bool) =>
        cond b3
          (some true)
          ((request_Parse n p0 p1).bind fun y5 =>
          (ref05_Right n p0).bind fun y6 =>
          cond (!y6)
            (jn (fun (b7 : Bool) =>
                some b7) fun k8 =>
            cond (Request.eqb y5.1 (Request.mk 0 (Key.mk 0 0) (Key.mk 0 0) 0 ByteArray.empty 0))
              (k8 (y5.2 == 150))
              (k8 false))
            (cond (y5.2 != 0)
              (jn (fun (b9 : Bool) =>
                  some b9) fun k10 =>
              cond (Request.eqb y5.1 (Request.mk 0 (Key.mk 0 0) (Key.mk 0 0) 0 ByteArray.empty 0))
                (k10 (y5.2 == 250))
                (k10 false))
              ((ref19_Right n p0 y5.1).bind fun y11 =>
              jn (fun (b12 : Bool) =>
                  some b12) fun k13 =>
              cond y11
                ((ref19_Text n y5.1).bind fun y14 =>
                k13 (y14.toList == p1.toList))
                (k13 false))))) fun k4 =>
    cond y2
      (k4 true)
      (k4 (decide ((p1.size : Int) > 300))))
@[reducible] def law19_RequestReads_ct : Ct tab := ⟨4, [.st 1, .one (.d .str)], [], [.one (.d .bool)], [], Bool, fun y => (y, ()), fun y => y.1, fun _ => rfl, fun n x => law19_RequestReads n x.1 x.2.1⟩
theorem law19_RequestReads_ok : OkC Tryz.prog tab law19_RequestReads_ct := fn_ok (W := ⟨Tryz.prog, tab, tyOf, [law19_wakes_ct, law19_over_ct, request_Parse_ct, ref05_Right_ct, ref19_Right_ct, ref19_Text_ct], addO, dpO, false⟩) ⟨tabOk, ⟨law19_wakes_ok, law19_over_ok, request_Parse_ok, ref05_Right_ok, ref19_Right_ok, ref19_Text_ok, trivial⟩, addOk⟩ (by kernel_rfl) 50 Tryz.f4 (.n) Tryz.func4 Tryz.call4 rfl (by kernel_rfl) (by kernel_rfl) (by kernel_rfl) fun n x => by kernel_rfl

/-! bursary bursarylaw19.RequestOrder -/
/-! bursary mode.is -/
/-! bursary mode.set -/
/-! bursary mode.goes -/
/-! bursary mode.has -/
/-! bursary mode.Goes -/
/-! bursary request.Together -/
/-! bursary request.Blind -/
/-! bursary bursaryref19.Modes -/
/-! bursary bursaryref05.Compare -/
/-! bursary bursaryref19.Locks -/
/-! bursary bursaryref07.Is -/
/-! bursary bursaryref07.pair -/
/-! bursary bursaryref07.Goes -/
/-! bursary bursaryref19.Together -/
/-! bursary bursaryref19.SameWants -/
/-! bursary request.Ends -/
/-! bursary bursarylaw19.RequestLocks -/
/-! bursary row.CheckRow -/
/-! bursary row.CheckList -/
/-! slices.Clone   bursary api.Row bursary api.Row  -/
/-!   bursary ideal.turn .read 1 -/
end
end Go.Proofs.YtlfjoaipbpendaaGreatDoor
