/- Functions of the program: plain twins and their contracts, printed by program. -/
import Derived.Test.YtlfjoaipbpendaaGreatDoorTypes
import Derived.Test.YtlfjoaipbpendaaGreatDoorF0
namespace Go.Proofs.YtlfjoaipbpendaaGreatDoor
open Go Go.Bur Go.RowKit
set_option linter.unusedVariables false
set_option linter.unusedSimpArgs false
set_option maxRecDepth 100000
noncomputable section
/-! bursary bursarylaw19.wakes -/
def law19_wakes (n : Nat) : Option Bool :=
  (law19_two n).bind fun y1 =>
  (request_Locks n y1 (Request.mk 8 (Key.mk 1 5) (Key.mk 0 7) 2 ByteArray.empty 0)).bind fun y2 =>
  (law19_two n).bind fun y3 =>
  (request_Text n y3 (Request.mk 8 (Key.mk 1 5) (Key.mk 0 7) 2 ByteArray.empty 0)).bind fun y4 =>
  (law19_two n).bind fun y5 =>
  (request_Parse n y5 y4.1).bind fun y6 =>
  jn (fun (b7 : Bool) =>
      jn (fun (b9 : Bool) =>
          jn (fun (b11 : Bool) =>
              jn (fun (b13 : Bool) =>
                  jn (fun (b15 : Bool) =>
                      jn (fun (b17 : Bool) =>
                          jn (fun (b19 : Bool) =>
                              some b19) fun k20 =>
                          cond b17
                            (k20 (Request.eqb y6.1 (Request.mk 8 (Key.mk 1 5) (Key.mk 0 7) 2 ByteArray.empty 0)))
                            (k20 false)) fun k18 =>
                      cond b15
                        (k18 (y4.1.toList == (ByteArray.mk #[109, 111, 118, 101, 32, 49, 32, 53, 32, 48, 32, 55, 32, 50]).toList))
                        (k18 false)) fun k16 =>
                  cond b13
                    ((idx y2.2 2).bind fun x21 =>
                    (idx y2.2 2).bind fun x22 =>
                    k16 (x22.res.id == 7))
                    (k16 false)) fun k14 =>
              cond b11
                ((idx y2.2 0).bind fun x23 =>
                (idx y2.2 0).bind fun x24 =>
                k14 (x24.mode == 2))
                (k14 false)) fun k12 =>
          cond b9
            (k12 ((y2.2.length : Int) == 4))
            (k12 false)) fun k10 =>
      cond b7
        (k10 (y6.2 == 0))
        (k10 false)) fun k8 =>
  cond (y2.1 == 0)
    (k8 (y4.2 == 0))
    (k8 false)
@[reducible] def law19_wakes_ct : Ct tab := ⟨9, [], [], [.one (.d .bool)], [], Bool, fun y => (y, ()), fun y => y.1, fun _ => rfl, fun n x => law19_wakes n⟩
theorem law19_wakes_ok : OkC Tryz.prog tab law19_wakes_ct := fn_ok (W := ⟨Tryz.prog, tab, tyOf, [law19_two_ct, request_Locks_ct, request_Text_ct, request_Parse_ct], addO, dpO, false⟩) ⟨tabOk, ⟨law19_two_ok, request_Locks_ok, request_Text_ok, request_Parse_ok, trivial⟩, addOk⟩ (by kernel_rfl) 68 Tryz.f9 (.n) Tryz.func9 Tryz.call9 rfl (by kernel_rfl) (by kernel_rfl) (by kernel_rfl) fun n x => by kernel_rfl

/-! bursary bursarylaw19.over -/
def law19_over_l1 (n : Nat) : Nat → (List Request) × Int × Int × Unit → Option Bool := loopF fun r1 ⟨v1, v2, v3, _⟩ =>
    cond (decide (v3 < v2))
      ((idx v1 v3).bind fun x4 =>
      cond (decide ((x4.note.size : Int) > 100))
        (some true)
        (r1 (v1, v2, (IntKind.wrap .i64 (v3 + 1)), ())))
      (some false)
def law19_over (n : Nat) (p0 : Schema) (p1 : List Request) : Option Bool :=
  cond (decide ((p0.tables.length : Int) > 20))
    (some true)
    (law19_over_l1 n n (p1, (p1.length : Int), 0, ()))
@[reducible] def law19_over_ct : Ct tab := ⟨10, [.st 1, .one (.d (.sl (.st 3)))], [], [.one (.d .bool)], [], Bool, fun y => (y, ()), fun y => y.1, fun _ => rfl, fun n x => law19_over n x.1 x.2.1⟩
theorem law19_over_ok : OkC Tryz.prog tab law19_over_ct := fn_ok (W := ⟨Tryz.prog, tab, tyOf, [], addO, dpO, false⟩) ⟨tabOk, trivial, addOk⟩ (by kernel_rfl) 22 Tryz.f10 (.sq (.n) (.sq (.n) (.sq (.sq (.n) (.bk none (.lp ⟨[(11, .one (.d (.sl (.st 3)))), (12, .one (.d (.int .i64))), (13, .one (.d (.int .i64)))], [], []⟩ (.n)))) (.n)))) Tryz.func10 Tryz.call10 rfl (by kernel_rfl) (by kernel_rfl) (by kernel_rfl) fun n x => by kernel_rfl

/-! bursary bursaryref05.Right -/
def ref05_Right_l1 (n : Nat) : Nat → Int × Schema × Unit → Option Bool := loopF fun r1 ⟨v3, v4, _⟩ =>
    cond (decide (v3 < (v4.tables.length : Int)))
      ((idx v4.tables v3).bind fun x5 =>
      (idx v4.tables v3).bind fun x6 =>
      cond (decide (x5.min > x6.max))
        (some false)
        (r1 ((IntKind.wrap .i64 (v3 + 1)), v4, ())))
      (some true)
def ref05_Right (n : Nat) (p0 : Schema) : Option Bool :=
  jn (fun (b1 : Bool) =>
      cond b1
        (some false)
        (ref05_Right_l1 n n (0, p0, ()))) fun k2 =>
  cond (decide ((p0.tables.length : Int) < 1))
    (k2 true)
    (k2 (decide ((p0.tables.length : Int) > 3)))
@[reducible] def ref05_Right_ct : Ct tab := ⟨12, [.st 1], [], [.one (.d .bool)], [], Bool, fun y => (y, ()), fun y => y.1, fun _ => rfl, fun n x => ref05_Right n x.1⟩
theorem ref05_Right_ok : OkC Tryz.prog tab ref05_Right_ct := fn_ok (W := ⟨Tryz.prog, tab, tyOf, [], addO, dpO, false⟩) ⟨tabOk, trivial, addOk⟩ (by kernel_rfl) 34 Tryz.f12 (.sq (.n) (.sq (.n) (.sq (.sq (.n) (.bk none (.lp ⟨[(1, .one (.box 0 0)), (3, .one (.d (.int .i64)))], [.bst 1], []⟩ (.n)))) (.n)))) Tryz.func12 Tryz.call12 rfl (by kernel_rfl) (by kernel_rfl) (by kernel_rfl) fun n x => by kernel_rfl

/-! bursary bursaryref05.KeyError -/
def ref05_KeyError (n : Nat) (p0 : Schema) (p1 : Key) : Option Int :=
  jn (fun (b1 : Bool) =>
      cond b1
        (some 151)
        (some 0)) fun k2 =>
  cond (decide (p1.table < 0))
    (k2 true)
    (k2 (decide (p1.table ≥ (p0.tables.length : Int))))
@[reducible] def ref05_KeyError_ct : Ct tab := ⟨57, [.st 1, .st 2], [], [.one (.d (.int .i64))], [], Int, fun y => (y, ()), fun y => y.1, fun _ => rfl, fun n x => ref05_KeyError n x.1 x.2.1⟩
theorem ref05_KeyError_ok : OkC Tryz.prog tab ref05_KeyError_ct := fn_ok (W := ⟨Tryz.prog, tab, tyOf, [], addO, dpO, false⟩) ⟨tabOk, trivial, addOk⟩ (by kernel_rfl) 16 Tryz.f57 (.n) Tryz.func57 Tryz.call57 rfl (by kernel_rfl) (by kernel_rfl) (by kernel_rfl) fun n x => by kernel_rfl

/-! bursary bursaryref15.RightRequest -/
def ref15_RightRequest_j2 (n : Nat) : Schema × Request × Request × Unit → Option Bool := fun ⟨v395, v396, v397, _⟩ =>
    jn (fun (b398 : Bool) =>
        jn (fun (b400 : Bool) =>
            some b400) fun k401 =>
        cond b398
          (k401 (decide ((v396.note.size : Int) ≤ 8)))
          (k401 false)) fun k399 =>
    cond (Request.eqb v396 v397)
      ((ref05_KeyError n v395 v396.key).bind fun y402 =>
      k399 (y402 == 0))
      (k399 false)
def ref15_RightRequest_j3 (n : Nat) (j2 : Schema × Request × Request × Unit → Option Bool) : Schema × Request × Request × Unit → Option Bool := fun ⟨v596, v597, v598, _⟩ =>
    j2 (v596, v597, v598, ())
def ref15_RightRequest_j4 (n : Nat) (j3 : Schema × Request × Request × Unit → Option Bool) : Schema × Request × Request × Unit → Option Bool := fun ⟨v694, v695, v696, _⟩ =>
    j3 (v694, v695, v696, ())
def ref15_RightRequest_j5 (n : Nat) (j4 : Schema × Request × Request × Unit → Option Bool) : Schema × Request × Request × Unit → Option Bool := fun ⟨v743, v744, v745, _⟩ =>
    j4 (v743, v744, v745, ())
def ref15_RightRequest_j7 (n : Nat) (j5 : Schema × Request × Request × Unit → Option Bool) : Schema × Request × Request × Unit → Option Bool := fun ⟨v770, v771, v772, _⟩ =>
    j5 (v770, v771, v772, ())
def ref15_RightRequest_j8 (n : Nat) : Int × Bool × Request × Request × Unit → Option Bool := fun ⟨v782, v783, v784, v785, _⟩ =>
    cond v783
      (some (Request.eqb v784 v785))
      (cond (v782 == 10)
        (jn (fun (b786 : Bool) =>
            some b786) fun k787 =>
        cond (Request.eqb v784 (Request.mk v785.kind v785.key v785.to v785.val v785.note v784.n))
          (k787 (decide (v784.n ≥ 1)))
          (k787 false))
        (some false))
def ref15_RightRequest_j9 (n : Nat) (j8 : Int × Bool × Request × Request × Unit → Option Bool) : Int × Bool × Request × Request × Unit → Option Bool := fun ⟨v788, v789, v790, v791, _⟩ =>
    j8 (v788, v789, v790, v791, ())
def ref15_RightRequest_j6 (n : Nat) (j5 : Schema × Request × Request × Unit → Option Bool) : Int × Bool × Schema × Request × Request × Unit → Option Bool := fun ⟨v746, v747, v748, v749, v750, _⟩ =>
    jn (ref15_RightRequest_j7 n j5) fun j7 =>
    cond v747
      (j7 (v748, v749, (Request.mk v750.kind v749.key v750.to v749.val v750.note v750.n), ()))
      (cond (v746 == 8)
        (jn (fun (b773 : Bool) =>
            jn (fun (b775 : Bool) =>
                cond b775
                  (some false)
                  (j7 (v748, v749, (Request.mk v750.kind v749.key v749.to v749.val v750.note v750.n), ()))) fun k776 =>
            cond b773
              (k776 true)
              ((ref05_KeyError n v748 v749.to).bind fun y777 =>
              k776 (y777 != 0))) fun k774 =>
        cond (Key.eqb v749.key v749.to)
          (k774 true)
          (k774 (decide (v749.val < 0))))
        (jn (ref15_RightRequest_j8 n) fun j8 =>
        cond (v746 == 9)
          (j8 (v746, (v746 == 9), v749, v750, ()))
          (jn (ref15_RightRequest_j9 n j8) fun j9 =>
          cond (v746 == 11)
            (j9 (v746, (v746 == 11), v749, v750, ()))
            (j9 (v746, (v746 == 12), v749, v750, ())))))
def ref15_RightRequest_j1 (n : Nat) : Int × Bool × Schema × Request × Request × Unit → Option Bool := fun ⟨v1, v2, v3, v4, v5, _⟩ =>
    jn (ref15_RightRequest_j2 n) fun j2 =>
    cond v2
      (j2 (v3, v4, (Request.mk v5.kind v4.key v5.to v5.val v5.note v5.n), ()))
      (jn (ref15_RightRequest_j3 n j2) fun j3 =>
      cond (v1 == 2)
        (j3 (v3, v4, (Request.mk v5.kind (Key.mk v4.key.table v5.key.id) v5.to v5.val v5.note v5.n), ()))
        (jn (ref15_RightRequest_j4 n j3) fun j4 =>
        cond (v1 == 3)
          (j4 (v3, v4, (Request.mk v5.kind v4.key v5.to v4.val v4.note v5.n), ()))
          (jn (ref15_RightRequest_j5 n j4) fun j5 =>
          cond (v1 == 5)
            (j5 (v3, v4, (Request.mk v5.kind v4.key v5.to v5.val v4.note v5.n), ()))
            (jn (ref15_RightRequest_j6 n j5) fun j6 =>
            cond (v1 == 6)
              (j6 (v1, (v1 == 6), v3, v4, v5, ()))
              (j6 (v1, (v1 == 7), v3, v4, v5, ()))))))
def ref15_RightRequest (n : Nat) (p0 : Schema) (p1 : Request) : Option Bool :=
  jn (ref15_RightRequest_j1 n) fun j1 =>
  cond (p1.kind == 1)
    (j1 (p1.kind, (p1.kind == 1), p0, p1, (Request.mk p1.kind (Key.mk 0 0) (Key.mk 0 0) 0 ByteArray.empty 0), ()))
    (j1 (p1.kind, (p1.kind == 4), p0, p1, (Request.mk p1.kind (Key.mk 0 0) (Key.mk 0 0) 0 ByteArray.empty 0), ()))
@[reducible] def ref15_RightRequest_ct : Ct tab := ⟨21, [.st 1, .st 3], [], [.one (.d .bool)], [], Bool, fun y => (y, ()), fun y => y.1, fun _ => rfl, fun n x => ref15_RightRequest n x.1 x.2.1⟩
theorem ref15_RightRequest_ok : OkC Tryz.prog tab ref15_RightRequest_ct := fn_ok (W := ⟨Tryz.prog, tab, tyOf, [ref05_KeyError_ct], addO, dpO, false⟩) ⟨tabOk, ⟨ref05_KeyError_ok, trivial⟩, addOk⟩ (by kernel_rfl) 116 Tryz.f21 (.sq (.n) (.sq (.n) (.sq (.sq (.n) (.bk none (.sq (.sq (.n) (.cd (some ⟨[(2, .one (.box 0 0)), (3, .one (.box 1 0)), (5, .one (.box 2 0)), (10, .one (.d (.int .i64))), (11, .one (.d .bool))], [.bst 1, .bst 3, .bst 3], []⟩) (.n) (.n))) (.cd (some ⟨[(2, .one (.box 0 0)), (3, .one (.box 1 0)), (5, .one (.box 2 0))], [.bst 1, .bst 3, .bst 3], []⟩) (.n) (.sq (.n) (.cd (some ⟨[(2, .one (.box 0 0)), (3, .one (.box 1 0)), (5, .one (.box 2 0))], [.bst 1, .bst 3, .bst 3], []⟩) (.n) (.sq (.n) (.cd (some ⟨[(2, .one (.box 0 0)), (3, .one (.box 1 0)), (5, .one (.box 2 0))], [.bst 1, .bst 3, .bst 3], []⟩) (.n) (.sq (.n) (.cd (some ⟨[(2, .one (.box 0 0)), (3, .one (.box 1 0)), (5, .one (.box 2 0))], [.bst 1, .bst 3, .bst 3], []⟩) (.n) (.sq (.sq (.n) (.cd (some ⟨[(2, .one (.box 0 0)), (3, .one (.box 1 0)), (5, .one (.box 2 0)), (10, .one (.d (.int .i64))), (43, .one (.d .bool))], [.bst 1, .bst 3, .bst 3], []⟩) (.n) (.n))) (.cd (some ⟨[(2, .one (.box 0 0)), (3, .one (.box 1 0)), (5, .one (.box 2 0))], [.bst 1, .bst 3, .bst 3], []⟩) (.n) (.sq (.n) (.cd none (.n) (.sq (.sq (.n) (.cd (some ⟨[(3, .one (.box 0 0)), (5, .one (.box 1 0)), (10, .one (.d (.int .i64))), (80, .one (.d .bool))], [.bst 3, .bst 3], []⟩) (.n) (.sq (.n) (.cd (some ⟨[(3, .one (.box 0 0)), (5, .one (.box 1 0)), (10, .one (.d (.int .i64))), (80, .one (.d .bool))], [.bst 3, .bst 3], []⟩) (.n) (.n))))) (.n)))))))))))))))) (.n)))) Tryz.func21 Tryz.call21 rfl (by kernel_rfl) (by kernel_rfl) (by kernel_rfl) fun n x => by kernel_rfl

/-! bursary bursaryref19.Quotes -/
/-! bursary bursaryref19.Right -/
/-! bursary bursaryref19.digits -/
/-! bursary bursaryref19.Number -/
/-! bursary bursaryref19.key -/
/-! bursary bursaryref19.Text -/
/-! bursary bursarylaw19.RequestTexts -/
/-! bursary bursarylaw19.RequestReads -/
/-! bursary bursarylaw19.RequestOrder -/
/-! bursary mode.is -/
def mode_is (n : Nat) (p0 : Int) : Option Bool :=
  jn (fun (b1 : Bool) =>
      some b1) fun k2 =>
  cond (decide (p0 ≥ 0))
    (k2 (decide (p0 < 7)))
    (k2 false)
@[reducible] def mode_is_ct : Ct tab := ⟨84, [.one (.d (.int .i64))], [], [.one (.d .bool)], [], Bool, fun y => (y, ()), fun y => y.1, fun _ => rfl, fun n x => mode_is n x.1⟩
theorem mode_is_ok : OkC Tryz.prog tab mode_is_ct := fn_ok (W := ⟨Tryz.prog, tab, tyOf, [], addO, dpO, false⟩) ⟨tabOk, trivial, addOk⟩ (by kernel_rfl) 9 Tryz.f84 (.n) Tryz.func84 Tryz.call84 rfl (by kernel_rfl) (by kernel_rfl) (by kernel_rfl) fun n x => by kernel_rfl

/-! bursary mode.set -/
def mode_set_l1 (n : Nat) : Nat → Int × (List Int) × Int × Int × Unit → Option Int := loopF fun r1 ⟨v1, v2, v3, v4, _⟩ =>
    cond (decide (v4 < v3))
      ((idx v2 v4).bind fun x5 =>
      (shlP .i64 1 x5).bind fun z6 =>
      r1 ((orV .i64 v1 z6), v2, v3, (IntKind.wrap .i64 (v4 + 1)), ()))
      (some v1)
def mode_set (n : Nat) (p0 : List Int) : Option Int :=
  mode_set_l1 n n (0, p0, (p0.length : Int), 0, ())
@[reducible] def mode_set_ct : Ct tab := ⟨107, [.one (.d (.sl (.int .i64)))], [], [.one (.d (.int .i64))], [], Int, fun y => (y, ()), fun y => y.1, fun _ => rfl, fun n x => mode_set n x.1⟩
theorem mode_set_ok : OkC Tryz.prog tab mode_set_ct := fn_ok (W := ⟨Tryz.prog, tab, tyOf, [], addO, dpO, false⟩) ⟨tabOk, trivial, addOk⟩ (by kernel_rfl) 18 Tryz.f107 (.sq (.n) (.sq (.n) (.sq (.sq (.n) (.bk none (.lp ⟨[(3, .one (.d (.int .i64))), (6, .one (.d (.sl (.int .i64)))), (7, .one (.d (.int .i64))), (8, .one (.d (.int .i64)))], [], []⟩ (.n)))) (.n)))) Tryz.func107 Tryz.call107 rfl (by kernel_rfl) (by kernel_rfl) (by kernel_rfl) fun n x => by kernel_rfl

/-! bursary mode.goes -/
def mode_goes (n : Nat) (p0 : Int) : Option Int :=
  (mode_set n ([0, 1, 2, 3, 4, 5, 6] : List Int)).bind fun y1 =>
  (mode_set n ([0, 1, 2, 3, 4] : List Int)).bind fun y2 =>
  (mode_set n ([0, 1, 2] : List Int)).bind fun y3 =>
  (mode_set n ([0, 1, 3] : List Int)).bind fun y4 =>
  (mode_set n ([0, 1] : List Int)).bind fun y5 =>
  (mode_set n ([0] : List Int)).bind fun y6 =>
  (mode_set n ([0, 6] : List Int)).bind fun y7 =>
  cond (decide (p0 = 0))
    (some y1)
    (cond (decide (p0 = 1))
      (some y2)
      (cond (decide (p0 = 2))
        (some y3)
        (cond (decide (p0 = 3))
          (some y4)
          (cond (decide (p0 = 4))
            (some y5)
            (cond (decide (p0 = 5))
              (some y6)
              (cond (decide (p0 = 6))
                (some y7)
                (none)))))))
@[reducible] def mode_goes_ct : Ct tab := ⟨86, [.one (.d (.int .i64))], [], [.one (.d (.int .i64))], [], Int, fun y => (y, ()), fun y => y.1, fun _ => rfl, fun n x => mode_goes n x.1⟩
theorem mode_goes_ok : OkC Tryz.prog tab mode_goes_ct := fn_ok (W := ⟨Tryz.prog, tab, tyOf, [mode_set_ct], addO, dpO, false⟩) ⟨tabOk, ⟨mode_set_ok, trivial⟩, addOk⟩ (by kernel_rfl) 22 Tryz.f86 (.sq (.n) (.sq (.n) (.sq (.rs [(0, 7)] []) (.n)))) Tryz.func86 Tryz.call86 rfl (by kernel_rfl) (by kernel_rfl) (by kernel_rfl) fun n x => by kernel_rfl

/-! bursary mode.has -/
def mode_has (n : Nat) (p0 : Int) (p1 : Int) : Option Bool :=
  (shrP .i64 p0 p1).bind fun z1 =>
  some ((andV .i64 z1 1) == 1)
@[reducible] def mode_has_ct : Ct tab := ⟨85, [.one (.d (.int .i64)), .one (.d (.int .i64))], [], [.one (.d .bool)], [], Bool, fun y => (y, ()), fun y => y.1, fun _ => rfl, fun n x => mode_has n x.1 x.2.1⟩
theorem mode_has_ok : OkC Tryz.prog tab mode_has_ct := fn_ok (W := ⟨Tryz.prog, tab, tyOf, [], addO, dpO, false⟩) ⟨tabOk, trivial, addOk⟩ (by kernel_rfl) 10 Tryz.f85 (.n) Tryz.func85 Tryz.call85 rfl (by kernel_rfl) (by kernel_rfl) (by kernel_rfl) fun n x => by kernel_rfl

/-! bursary mode.Goes -/
def mode_Goes (n : Nat) (p0 : Int) (p1 : Int) : Option Bool :=
  (mode_is n p0).bind fun y1 =>
  jn (fun (b2 : Bool) =>
      jn (fun (b4 : Bool) =>
          some b4) fun k5 =>
      cond b2
        ((mode_goes n p0).bind fun y6 =>
        (mode_has n y6 p1).bind fun y7 =>
        k5 y7)
        (k5 false)) fun k3 =>
  cond y1
    ((mode_is n p1).bind fun y8 =>
    k3 y8)
    (k3 false)
@[reducible] def mode_Goes_ct : Ct tab := ⟨56, [.one (.d (.int .i64)), .one (.d (.int .i64))], [], [.one (.d .bool)], [], Bool, fun y => (y, ()), fun y => y.1, fun _ => rfl, fun n x => mode_Goes n x.1 x.2.1⟩
theorem mode_Goes_ok : OkC Tryz.prog tab mode_Goes_ct := fn_ok (W := ⟨Tryz.prog, tab, tyOf, [mode_is_ct, mode_goes_ct, mode_has_ct], addO, dpO, false⟩) ⟨tabOk, ⟨mode_is_ok, mode_goes_ok, mode_has_ok, trivial⟩, addOk⟩ (by kernel_rfl) 17 Tryz.f56 (.n) Tryz.func56 Tryz.call56 rfl (by kernel_rfl) (by kernel_rfl) (by kernel_rfl) fun n x => by kernel_rfl

/-! bursary request.Together -/
def request_Together_l3 (n : Nat) (r2 : Int × Int × Request × (List Want) × Unit → Option (Bool × Int)) : Nat → Int × Int × Int × Int × Request × Want × (List Want) × (List Want) × Unit → Option (Bool × Int) := loopF fun r3 ⟨v18, v19, v20, v21, v22, v23, v24, v25, _⟩ =>
    cond (decide (v21 < v20))
      ((idx v25 v21).bind fun x26 =>
      (idx v25 v21).bind fun x27 =>
      jn (fun (b28 : Bool) =>
          cond b28
            (some (false, 0))
            (r3 (v18, v19, v20, (IntKind.wrap .i64 (v21 + 1)), v22, v23, v24, v25, ()))) fun k29 =>
      cond (Res.eqb v23.res x27.res)
        ((mode_Goes n v23.mode x27.mode).bind fun y30 =>
        k29 (!y30))
        (k29 false))
      (r2 (v18, (IntKind.wrap .i64 (v19 + 1)), v22, v24, ()))
def request_Together_l2 (n : Nat) : Nat → Int × Int × Request × (List Want) × Unit → Option (Bool × Int) := loopF fun r2 ⟨v11, v12, v13, v14, _⟩ =>
    cond (decide (v12 < v11))
      ((idx v14 v12).bind fun x15 =>
      (idx v14 v12).bind fun x16 =>
      (request_locks n v13).bind fun y17 =>
      request_Together_l3 n r2 n (v11, v12, (y17.length : Int), 0, v13, x16, v14, y17, ()))
      (some (true, 0))
def request_Together_l1 (n : Nat) : Nat → Int × Int × Schema × Request × Request × (List Request) × Unit → Option (Bool × Int) := loopF fun r1 ⟨v1, v2, v3, v4, v5, v6, _⟩ =>
    cond (decide (v2 < v1))
      ((idx v6 v2).bind fun x7 =>
      (idx v6 v2).bind fun x8 =>
      (ideal_CheckRequest n v3 x8).bind fun y9 =>
      cond (y9 != 0)
        (some (false, y9))
        (r1 (v1, (IntKind.wrap .i64 (v2 + 1)), v3, v4, v5, v6, ())))
      ((request_locks n v4).bind fun y10 =>
      request_Together_l2 n n ((y10.length : Int), 0, v5, y10, ()))
def request_Together (n : Nat) (p0 : Schema) (p1 : Request) (p2 : Request) : Option (Bool × Int) :=
  request_Together_l1 n n ((([p1, p2] : List Request).length : Int), 0, p0, p1, p2, ([p1, p2] : List Request), ())
@[reducible] def request_Together_ct : Ct tab := ⟨18, [.st 1, .st 3, .st 3], [], [.one (.d .bool), .one (.d (.int .i64))], [], (Bool × Int), fun y => (y.1, y.2, ()), fun y => (y.1, y.2.1), fun _ => rfl, fun n x => request_Together n x.1 x.2.1 x.2.2.1⟩
theorem request_Together_ok : OkC Tryz.prog tab request_Together_ct := fn_ok (W := ⟨Tryz.prog, tab, tyOf, [ideal_CheckRequest_ct, request_locks_ct, mode_Goes_ct], addO, dpO, false⟩) ⟨tabOk, ⟨ideal_CheckRequest_ok, request_locks_ok, mode_Goes_ok, trivial⟩, addOk⟩ (by kernel_rfl) 59 Tryz.f18 (.sq (.n) (.sq (.sq (.n) (.bk none (.lp ⟨[(3, .one (.box 0 0)), (4, .one (.box 1 0)), (5, .one (.box 2 0)), (17, .one (.own 3)), (18, .one (.d (.int .i64))), (19, .one (.d (.int .i64)))], [.bst 1, .bst 3, .bst 3, .row 29 (.st 3)], []⟩ (.n)))) (.sq (.sq (.n) (.bk none (.lp ⟨[(5, .one (.box 0 0)), (31, .one (.own 1)), (32, .one (.d (.int .i64))), (33, .one (.d (.int .i64)))], [.bst 3, .row 48 (.st 7)], []⟩ (.sq (.n) (.sq (.n) (.sq (.bk none (.sq (.n) (.sq (.n) (.bk none (.lp ⟨[(5, .one (.box 0 0)), (12, .one (.box 1 0)), (31, .one (.own 2)), (32, .one (.d (.int .i64))), (33, .one (.d (.int .i64))), (38, .one (.own 3)), (39, .one (.d (.int .i64))), (40, .one (.d (.int .i64)))], [.bst 3, .bst 7, .row 48 (.st 7), .row 48 (.st 7)], []⟩ (.n)))))) (.n))))))) (.n)))) Tryz.func18 Tryz.call18 rfl (by kernel_rfl) (by kernel_rfl) (by kernel_rfl) fun n x => by kernel_rfl

/-! bursary request.Blind -/
def request_Blind (n : Nat) (p0 : Request) : Option Bool :=
  jn (fun (b1 : Bool) =>
      some b1) fun k2 =>
  cond (p0.kind == 7)
    (k2 true)
    (k2 (p0.kind == 8))
@[reducible] def request_Blind_ct : Ct tab := ⟨19, [.st 3], [], [.one (.d .bool)], [], Bool, fun y => (y, ()), fun y => y.1, fun _ => rfl, fun n x => request_Blind n x.1⟩
theorem request_Blind_ok : OkC Tryz.prog tab request_Blind_ct := fn_ok (W := ⟨Tryz.prog, tab, tyOf, [], addO, dpO, false⟩) ⟨tabOk, trivial, addOk⟩ (by kernel_rfl) 11 Tryz.f19 (.n) Tryz.func19 Tryz.call19 rfl (by kernel_rfl) (by kernel_rfl) (by kernel_rfl) fun n x => by kernel_rfl

/-! bursary bursaryref19.Modes -/
def ref19_Modes_j2 (n : Nat) : Bool × Unit → Option (Int × Int) := fun ⟨v9, _⟩ =>
    cond v9
      (some (2, 6))
      (some (0, 0))
def ref19_Modes_j1 (n : Nat) : Int × Bool × Unit → Option (Int × Int) := fun ⟨v7, v8, _⟩ =>
    cond v8
      (some (2, 5))
      (jn (ref19_Modes_j2 n) fun j2 =>
      cond (v7 == 7)
        (j2 ((v7 == 7), ()))
        (j2 ((v7 == 8), ())))
def ref19_Modes_j3 (n : Nat) (j1 : Int × Bool × Unit → Option (Int × Int)) : Int × Bool × Unit → Option (Int × Int) := fun ⟨v12, v13, _⟩ =>
    j1 (v12, v13, ())
def ref19_Modes_j4 (n : Nat) (j3 : Int × Bool × Unit → Option (Int × Int)) : Int × Bool × Unit → Option (Int × Int) := fun ⟨v14, v15, _⟩ =>
    j3 (v14, v15, ())
def ref19_Modes (n : Nat) (p0 : Int) : Option (Int × Int) :=
  cond (p0 == 1)
    (some (1, 3))
    (cond (p0 == 2)
      (some (3, 0))
      (jn (ref19_Modes_j1 n) fun j1 =>
      cond (p0 == 3)
        (j1 (p0, (p0 == 3), ()))
        (jn (ref19_Modes_j3 n j1) fun j3 =>
        cond (p0 == 4)
          (j3 (p0, (p0 == 4), ()))
          (jn (ref19_Modes_j4 n j3) fun j4 =>
          cond (p0 == 5)
            (j4 (p0, (p0 == 5), ()))
            (j4 (p0, (p0 == 6), ()))))))
@[reducible] def ref19_Modes_ct : Ct tab := ⟨58, [.one (.d (.int .i64))], [], [.one (.d (.int .i64)), .one (.d (.int .i64))], [], (Int × Int), fun y => (y.1, y.2, ()), fun y => (y.1, y.2.1), fun _ => rfl, fun n x => ref19_Modes n x.1⟩
theorem ref19_Modes_ok : OkC Tryz.prog tab ref19_Modes_ct := fn_ok (W := ⟨Tryz.prog, tab, tyOf, [], addO, dpO, false⟩) ⟨tabOk, trivial, addOk⟩ (by kernel_rfl) 17 Tryz.f58 (.sq (.n) (.sq (.sq (.n) (.bk none (.sq (.n) (.cd none (.n) (.sq (.n) (.cd none (.n) (.sq (.sq (.n) (.cd (some ⟨[(4, .one (.d (.int .i64))), (9, .one (.d .bool))], [], []⟩) (.n) (.sq (.n) (.cd (some ⟨[(4, .one (.d (.int .i64))), (9, .one (.d .bool))], [], []⟩) (.n) (.sq (.n) (.cd (some ⟨[(4, .one (.d (.int .i64))), (9, .one (.d .bool))], [], []⟩) (.n) (.n))))))) (.cd none (.n) (.sq (.sq (.n) (.cd (some ⟨[(14, .one (.d .bool))], [], []⟩) (.n) (.n))) (.n)))))))))) (.n))) Tryz.func58 Tryz.call58 rfl (by kernel_rfl) (by kernel_rfl) (by kernel_rfl) fun n x => by kernel_rfl

/-! bursary bursaryref05.Compare -/
def ref05_Compare (n : Nat) (p0 : Key) (p1 : Key) : Option Int :=
  cond (Key.eqb p0 p1)
    (some 0)
    (jn (fun (b1 : Bool) =>
        cond b1
          (some (-1))
          (some 1)) fun k2 =>
    cond (decide (p0.table < p1.table))
      (k2 true)
      (jn (fun (b3 : Bool) =>
          k2 b3) fun k4 =>
      cond (p0.table == p1.table)
        (k4 (decide (p0.id < p1.id)))
        (k4 false)))
@[reducible] def ref05_Compare_ct : Ct tab := ⟨59, [.st 2, .st 2], [], [.one (.d (.int .i64))], [], Int, fun y => (y, ()), fun y => y.1, fun _ => rfl, fun n x => ref05_Compare n x.1 x.2.1⟩
theorem ref05_Compare_ok : OkC Tryz.prog tab ref05_Compare_ct := fn_ok (W := ⟨Tryz.prog, tab, tyOf, [], addO, dpO, false⟩) ⟨tabOk, trivial, addOk⟩ (by kernel_rfl) 27 Tryz.f59 (.n) Tryz.func59 Tryz.call59 rfl (by kernel_rfl) (by kernel_rfl) (by kernel_rfl) fun n x => by kernel_rfl

/-! bursary bursaryref19.Locks -/
def ref19_Locks_j3 (n : Nat) : (List Want) × Unit → Option ((List Want)) := fun ⟨v23, _⟩ =>
    some v23
def ref19_Locks_j4 (n : Nat) (j3 : (List Want) × Unit → Option ((List Want))) : (List Want) × Unit → Option ((List Want)) := fun ⟨v26, _⟩ =>
    j3 (v26, ())
def ref19_Locks_j2 (n : Nat) : Int × (List Want) × Key × Key × Unit → Option ((List Want)) := fun ⟨v15, v16, v17, v18, _⟩ =>
    jn (ref19_Locks_j3 n) fun j3 =>
    cond (v15 != 0)
      ((app 24 v16 ([(Want.mk (Res.mk v17.table true v17.id) v15)] : List Want)).bind fun l24 =>
      jn (ref19_Locks_j4 n j3) fun j4 =>
      cond (!(Key.eqb v18 v17))
        ((app 24 l24 ([(Want.mk (Res.mk v18.table true v18.id) v15)] : List Want)).bind fun l27 =>
        j4 (l27, ()))
        (j4 (l24, ())))
      (j3 (v16, ()))
def ref19_Locks_j1 (n : Nat) : Int × Int × (List Want) × Key × Key × Unit → Option ((List Want)) := fun ⟨v8, v9, v10, v11, v12, _⟩ =>
    (app 24 v10 ([(Want.mk (Res.mk v11.table false 0) v8)] : List Want)).bind fun l13 =>
    jn (ref19_Locks_j2 n) fun j2 =>
    cond (v12.table != v11.table)
      ((app 24 l13 ([(Want.mk (Res.mk v12.table false 0) v8)] : List Want)).bind fun l28 =>
      j2 (v9, l28, v11, v12, ()))
      (j2 (v9, l13, v11, v12, ()))
def ref19_Locks_j5 (n : Nat) (j1 : Int × Int × (List Want) × Key × Key × Unit → Option ((List Want))) : Int × Int × (List Want) × Key × Key × Unit → Option ((List Want)) := fun ⟨v30, v31, v32, v33, v34, _⟩ =>
    j1 (v30, v31, v32, v33, v34, ())
def ref19_Locks (n : Nat) (p0 : Request) : Option ((List Want)) :=
  (ref19_Modes n p0.kind).bind fun y1 =>
  cond (y1.1 == 0)
    (some ([] : List Want))
    (jn (ref19_Locks_j1 n) fun j1 =>
    cond (p0.kind == 8)
      ((ref05_Compare n p0.key p0.to).bind fun y29 =>
      jn (ref19_Locks_j5 n j1) fun j5 =>
      cond (decide (y29 > 0))
        (j5 (y1.1, y1.2, ([] : List Want), p0.to, p0.key, ()))
        (j5 (y1.1, y1.2, ([] : List Want), p0.key, p0.to, ())))
      (j1 (y1.1, y1.2, ([] : List Want), p0.key, p0.key, ())))
@[reducible] def ref19_Locks_ct : Ct tab := ⟨23, [.st 3], [], [.one (.own 0)], [(none, .row 48 (.st 7))], ((List Want)), fun y => (y, ()), fun y => y.1, fun _ => rfl, fun n x => ref19_Locks n x.1⟩
theorem ref19_Locks_ok : OkC Tryz.prog tab ref19_Locks_ct := fn_ok (W := ⟨Tryz.prog, tab, tyOf, [ref19_Modes_ct, ref05_Compare_ct], addO, dpO, false⟩) ⟨tabOk, ⟨ref19_Modes_ok, ref05_Compare_ok, trivial⟩, addOk⟩ (by kernel_rfl) 78 Tryz.f23 (.sq (.n) (.sq (.n) (.sq (.n) (.sq (.n) (.sq (.n) (.sq (.sq (.n) (.cd (some ⟨[(3, .one (.d (.int .i64))), (4, .one (.d (.int .i64))), (5, .one (.own 0)), (6, .one (.box 1 0)), (7, .one (.box 2 0))], [.row 48 (.st 7), .bst 2, .bst 2], []⟩) (.sq (.n) (.sq (.n) (.cd (some ⟨[(3, .one (.d (.int .i64))), (4, .one (.d (.int .i64))), (5, .one (.own 0)), (6, .one (.box 1 0)), (7, .one (.box 2 0))], [.row 48 (.st 7), .bst 2, .bst 2], []⟩) (.n) (.n)))) (.n))) (.sq (.n) (.sq (.sq (.n) (.cd (some ⟨[(4, .one (.d (.int .i64))), (5, .one (.own 0)), (6, .one (.box 1 0)), (7, .one (.box 2 0))], [.row 48 (.st 7), .bst 2, .bst 2], []⟩) (.n) (.n))) (.sq (.sq (.n) (.cd (some ⟨[(5, .one (.own 0))], [.row 48 (.st 7)], []⟩) (.sq (.n) (.sq (.n) (.cd (some ⟨[(5, .one (.own 0))], [.row 48 (.st 7)], []⟩) (.n) (.n)))) (.n))) (.n)))))))))) Tryz.func23 Tryz.call23 rfl (by kernel_rfl) (by kernel_rfl) (by kernel_rfl) fun n x => by kernel_rfl

/-! bursary bursaryref07.Is -/
def ref07_Is (n : Nat) (p0 : Int) : Option Bool :=
  jn (fun (b1 : Bool) =>
      some b1) fun k2 =>
  cond (decide (p0 ≥ 0))
    (k2 (decide (p0 ≤ 6)))
    (k2 false)
@[reducible] def ref07_Is_ct : Ct tab := ⟨87, [.one (.d (.int .i64))], [], [.one (.d .bool)], [], Bool, fun y => (y, ()), fun y => y.1, fun _ => rfl, fun n x => ref07_Is n x.1⟩
theorem ref07_Is_ok : OkC Tryz.prog tab ref07_Is_ct := fn_ok (W := ⟨Tryz.prog, tab, tyOf, [], addO, dpO, false⟩) ⟨tabOk, trivial, addOk⟩ (by kernel_rfl) 9 Tryz.f87 (.n) Tryz.func87 Tryz.call87 rfl (by kernel_rfl) (by kernel_rfl) (by kernel_rfl) fun n x => by kernel_rfl

/-! bursary bursaryref07.pair -/
def ref07_pair (n : Nat) (p0 : Int) (p1 : Int) (p2 : Int) (p3 : Int) : Option Bool :=
  jn (fun (b1 : Bool) =>
      jn (fun (b3 : Bool) =>
          some b3) fun k4 =>
      cond b1
        (k4 true)
        (jn (fun (b5 : Bool) =>
            k4 b5) fun k6 =>
        cond (p0 == p3)
          (k6 (p1 == p2))
          (k6 false))) fun k2 =>
  cond (p0 == p2)
    (k2 (p1 == p3))
    (k2 false)
@[reducible] def ref07_pair_ct : Ct tab := ⟨88, [.one (.d (.int .i64)), .one (.d (.int .i64)), .one (.d (.int .i64)), .one (.d (.int .i64))], [], [.one (.d .bool)], [], Bool, fun y => (y, ()), fun y => y.1, fun _ => rfl, fun n x => ref07_pair n x.1 x.2.1 x.2.2.1 x.2.2.2.1⟩
theorem ref07_pair_ok : OkC Tryz.prog tab ref07_pair_ct := fn_ok (W := ⟨Tryz.prog, tab, tyOf, [], addO, dpO, false⟩) ⟨tabOk, trivial, addOk⟩ (by kernel_rfl) 27 Tryz.f88 (.n) Tryz.func88 Tryz.call88 rfl (by kernel_rfl) (by kernel_rfl) (by kernel_rfl) fun n x => by kernel_rfl

/-! bursary bursaryref07.Goes -/
def ref07_Goes (n : Nat) (p0 : Int) (p1 : Int) : Option Bool :=
  (ref07_Is n p0).bind fun y1 =>
  jn (fun (b2 : Bool) =>
      cond b2
        (some false)
        (jn (fun (b4 : Bool) =>
            cond b4
              (some true)
              ((ref07_pair n p0 p1 1 1).bind fun y6 =>
              jn (fun (b7 : Bool) =>
                  jn (fun (b9 : Bool) =>
                      jn (fun (b11 : Bool) =>
                          jn (fun (b13 : Bool) =>
                              jn (fun (b15 : Bool) =>
                                  jn (fun (b17 : Bool) =>
                                      some b17) fun k18 =>
                                  cond b15
                                    (k18 true)
                                    ((ref07_pair n p0 p1 6 6).bind fun y19 =>
                                    k18 y19)) fun k16 =>
                              cond b13
                                (k16 true)
                                ((ref07_pair n p0 p1 3 3).bind fun y20 =>
                                k16 y20)) fun k14 =>
                          cond b11
                            (k14 true)
                            ((ref07_pair n p0 p1 2 2).bind fun y21 =>
                            k14 y21)) fun k12 =>
                      cond b9
                        (k12 true)
                        ((ref07_pair n p0 p1 1 4).bind fun y22 =>
                        k12 y22)) fun k10 =>
                  cond b7
                    (k10 true)
                    ((ref07_pair n p0 p1 1 3).bind fun y23 =>
                    k10 y23)) fun k8 =>
              cond y6
                (k8 true)
                ((ref07_pair n p0 p1 1 2).bind fun y24 =>
                k8 y24))) fun k5 =>
        cond (p0 == 0)
          (k5 true)
          (k5 (p1 == 0)))) fun k3 =>
  cond (!y1)
    (k3 true)
    ((ref07_Is n p1).bind fun y25 =>
    k3 (!y25))
@[reducible] def ref07_Goes_ct : Ct tab := ⟨60, [.one (.d (.int .i64)), .one (.d (.int .i64))], [], [.one (.d .bool)], [], Bool, fun y => (y, ()), fun y => y.1, fun _ => rfl, fun n x => ref07_Goes n x.1 x.2.1⟩
theorem ref07_Goes_ok : OkC Tryz.prog tab ref07_Goes_ct := fn_ok (W := ⟨Tryz.prog, tab, tyOf, [ref07_Is_ct, ref07_pair_ct], addO, dpO, false⟩) ⟨tabOk, ⟨ref07_Is_ok, ref07_pair_ok, trivial⟩, addOk⟩ (by kernel_rfl) 52 Tryz.f60 (.n) Tryz.func60 Tryz.call60 rfl (by kernel_rfl) (by kernel_rfl) (by kernel_rfl) fun n x => by kernel_rfl

/-! bursary bursaryref19.Together -/
def ref19_Together_l2 (n : Nat) (r1 : Int × (List Want) × (List Want) × Unit → Option Bool) : Nat → Int × Int × (List Want) × (List Want) × Unit → Option Bool := loopF fun r2 ⟨v6, v7, v8, v9, _⟩ =>
    cond (decide (v7 < (v9.length : Int)))
      ((idx v8 v6).bind fun x10 =>
      (idx v8 v6).bind fun x11 =>
      (idx v9 v7).bind fun x12 =>
      (idx v9 v7).bind fun x13 =>
      jn (fun (b14 : Bool) =>
          cond b14
            (some false)
            (r2 (v6, (IntKind.wrap .i64 (v7 + 1)), v8, v9, ()))) fun k15 =>
      cond (Res.eqb x11.res x13.res)
        ((idx v8 v6).bind fun x16 =>
        (idx v8 v6).bind fun x17 =>
        (idx v9 v7).bind fun x18 =>
        (idx v9 v7).bind fun x19 =>
        (ref07_Goes n x17.mode x19.mode).bind fun y20 =>
        k15 (!y20))
        (k15 false))
      (r1 ((IntKind.wrap .i64 (v6 + 1)), v8, v9, ()))
def ref19_Together_l1 (n : Nat) : Nat → Int × (List Want) × (List Want) × Unit → Option Bool := loopF fun r1 ⟨v3, v4, v5, _⟩ =>
    cond (decide (v3 < (v4.length : Int)))
      (ref19_Together_l2 n r1 n (v3, 0, v4, v5, ()))
      (some true)
def ref19_Together (n : Nat) (p0 : Request) (p1 : Request) : Option Bool :=
  (ref19_Locks n p0).bind fun y1 =>
  (ref19_Locks n p1).bind fun y2 =>
  ref19_Together_l1 n n (0, y1, y2, ())
@[reducible] def ref19_Together_ct : Ct tab := ⟨24, [.st 3, .st 3], [], [.one (.d .bool)], [], Bool, fun y => (y, ()), fun y => y.1, fun _ => rfl, fun n x => ref19_Together n x.1 x.2.1⟩
theorem ref19_Together_ok : OkC Tryz.prog tab ref19_Together_ct := fn_ok (W := ⟨Tryz.prog, tab, tyOf, [ref19_Locks_ct, ref07_Goes_ct], addO, dpO, false⟩) ⟨tabOk, ⟨ref19_Locks_ok, ref07_Goes_ok, trivial⟩, addOk⟩ (by kernel_rfl) 50 Tryz.f24 (.sq (.n) (.sq (.n) (.sq (.sq (.n) (.bk none (.lp ⟨[(5, .one (.own 0)), (6, .one (.own 1)), (7, .one (.d (.int .i64)))], [.row 48 (.st 7), .row 48 (.st 7)], []⟩ (.sq (.n) (.sq (.bk none (.sq (.n) (.bk none (.lp ⟨[(5, .one (.own 0)), (6, .one (.own 1)), (7, .one (.d (.int .i64))), (8, .one (.d (.int .i64)))], [.row 48 (.st 7), .row 48 (.st 7)], []⟩ (.n))))) (.n)))))) (.n)))) Tryz.func24 Tryz.call24 rfl (by kernel_rfl) (by kernel_rfl) (by kernel_rfl) fun n x => by kernel_rfl

/-! bursary bursaryref19.SameWants -/
def ref19_SameWants_l1 (n : Nat) : Nat → (List Want) × (List Want) × Int × Unit → Option Bool := loopF fun r1 ⟨v1, v2, v3, _⟩ =>
    cond (decide (v3 < (v1.length : Int)))
      ((idx v1 v3).bind fun x4 =>
      (idx v2 v3).bind fun x5 =>
      cond (!(Want.eqb x4 x5))
        (some false)
        (r1 (v1, v2, (IntKind.wrap .i64 (v3 + 1)), ())))
      (some true)
def ref19_SameWants (n : Nat) (p0 : List Want) (p1 : List Want) : Option Bool :=
  cond ((p0.length : Int) != (p1.length : Int))
    (some false)
    (ref19_SameWants_l1 n n (p0, p1, 0, ()))
@[reducible] def ref19_SameWants_ct : Ct tab := ⟨22, [.one (.d (.sl (.st 7))), .one (.d (.sl (.st 7)))], [], [.one (.d .bool)], [], Bool, fun y => (y, ()), fun y => y.1, fun _ => rfl, fun n x => ref19_SameWants n x.1 x.2.1⟩
theorem ref19_SameWants_ok : OkC Tryz.prog tab ref19_SameWants_ct := fn_ok (W := ⟨Tryz.prog, tab, tyOf, [], addO, dpO, false⟩) ⟨tabOk, trivial, addOk⟩ (by kernel_rfl) 26 Tryz.f22 (.sq (.n) (.sq (.n) (.sq (.sq (.n) (.bk none (.lp ⟨[(0, .one (.d (.sl (.st 7)))), (1, .one (.d (.sl (.st 7)))), (5, .one (.d (.int .i64)))], [], []⟩ (.n)))) (.n)))) Tryz.func22 Tryz.call22 rfl (by kernel_rfl) (by kernel_rfl) (by kernel_rfl) fun n x => by kernel_rfl

/-! bursary request.Ends -/
def request_Ends (n : Nat) (p0 : Request) : Option Bool :=
  jn (fun (b1 : Bool) =>
      some b1) fun k2 =>
  cond (p0.kind == 11)
    (k2 true)
    (k2 (p0.kind == 12))
@[reducible] def request_Ends_ct : Ct tab := ⟨20, [.st 3], [], [.one (.d .bool)], [], Bool, fun y => (y, ()), fun y => y.1, fun _ => rfl, fun n x => request_Ends n x.1⟩
theorem request_Ends_ok : OkC Tryz.prog tab request_Ends_ct := fn_ok (W := ⟨Tryz.prog, tab, tyOf, [], addO, dpO, false⟩) ⟨tabOk, trivial, addOk⟩ (by kernel_rfl) 11 Tryz.f20 (.n) Tryz.func20 Tryz.call20 rfl (by kernel_rfl) (by kernel_rfl) (by kernel_rfl) fun n x => by kernel_rfl

/-! bursary bursarylaw19.RequestLocks -/
def law19_RequestLocks (n : Nat) (p0 : Schema) (p1 : Request) (p2 : Request) : Option Bool :=
  (law19_wakes n).bind fun y1 =>
  cond (!y1)
    (some false)
    ((law19_over n p0 ([p1, p2] : List Request)).bind fun y2 =>
    cond y2
      (some true)
      ((request_Locks n p0 p1).bind fun y3 =>
      (request_Together n p0 p1 p2).bind fun y4 =>
      (request_Blind n p1).bind fun y5 =>
      jn (fun (b6 : Bool) =>
          jn (fun (b8 : Bool) =>
              cond b8
                (some false)
                ((ref05_Right n p0).bind fun y10 =>
                cond (!y10)
                  (jn (fun (b11 : Bool) =>
                      jn (fun (b13 : Bool) =>
                          jn (fun (b15 : Bool) =>
                              some b15) fun k16 =>
                          cond b13
                            (k16 (y4.2 == 150))
                            (k16 false)) fun k14 =>
                      cond b11
                        (k14 (!y4.1))
                        (k14 false)) fun k12 =>
                  cond ((y3.2.length : Int) == 0)
                    (k12 (y3.1 == 150))
                    (k12 false))
                  ((ref15_RightRequest n p0 p1).bind fun y17 =>
                  cond (!y17)
                    (jn (fun (b18 : Bool) =>
                        jn (fun (b20 : Bool) =>
                            jn (fun (b22 : Bool) =>
                                some b22) fun k23 =>
                            cond b20
                              (k23 (y4.2 == 250))
                              (k23 false)) fun k21 =>
                        cond b18
                          (k21 (!y4.1))
                          (k21 false)) fun k19 =>
                    cond ((y3.2.length : Int) == 0)
                      (k19 (y3.1 == 250))
                      (k19 false))
                    (jn (fun (b24 : Bool) =>
                        cond b24
                          (some false)
                          ((ref15_RightRequest n p0 p2).bind fun y26 =>
                          cond (!y26)
                            (jn (fun (b27 : Bool) =>
                                some b27) fun k28 =>
                            cond (!y4.1)
                              (k28 (y4.2 == 250))
                              (k28 false))
                            (jn (fun (b29 : Bool) =>
                                some b29) fun k30 =>
                            cond (y4.2 == 0)
                              ((ref19_Together n p1 p2).bind fun y31 =>
                              k30 (y4.1 == y31))
                              (k30 false)))) fun k25 =>
                    cond (y3.1 != 0)
                      (k25 true)
                      ((ref19_Locks n p1).bind fun y32 =>
                      (ref19_SameWants n y3.2 y32).bind fun y33 =>
                      k25 (!y33)))))) fun k9 =>
          cond (!(y5 == b6))
            (k9 true)
            ((request_Ends n p1).bind fun y34 =>
            jn (fun (b35 : Bool) =>
                k9 (!(y34 == b35))) fun k36 =>
            cond (p1.kind == 11)
              (k36 true)
              (k36 (p1.kind == 12)))) fun k7 =>
      cond (p1.kind == 7)
        (k7 true)
        (k7 (p1.kind == 8))))
@[reducible] def law19_RequestLocks_ct : Ct tab := ⟨6, [.st 1, .st 3, .st 3], [], [.one (.d .bool)], [], Bool, fun y => (y, ()), fun y => y.1, fun _ => rfl, fun n x => law19_RequestLocks n x.1 x.2.1 x.2.2.1⟩
theorem law19_RequestLocks_ok : OkC Tryz.prog tab law19_RequestLocks_ct := fn_ok (W := ⟨Tryz.prog, tab, tyOf, [law19_wakes_ct, law19_over_ct, request_Locks_ct, request_Together_ct, request_Blind_ct, ref05_Right_ct, ref15_RightRequest_ct, ref19_Together_ct, ref19_Locks_ct, ref19_SameWants_ct, request_Ends_ct], addO, dpO, false⟩) ⟨tabOk, ⟨law19_wakes_ok, law19_over_ok, request_Locks_ok, request_Together_ok, request_Blind_ok, ref05_Right_ok, ref15_RightRequest_ok, ref19_Together_ok, ref19_Locks_ok, ref19_SameWants_ok, request_Ends_ok, trivial⟩, addOk⟩ (by kernel_rfl) 120 Tryz.f6 (.n) Tryz.func6 Tryz.call6 rfl (by kernel_rfl) (by kernel_rfl) (by kernel_rfl) fun n x => by kernel_rfl

/-! bursary row.CheckRow -/
/-! bursary row.CheckList -/
/-! slices.Clone   bursary api.Row bursary api.Row  -/
/-!   bursary ideal.turn .read 1 -/
end
end Go.Proofs.YtlfjoaipbpendaaGreatDoor
