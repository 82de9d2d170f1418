/- Functions of the program: plain twins and walks, printed by program. -/
import Derived.Test.YtlflbhhajnoelaaTypes
import Derived.Test.YtlflbhhajnoelaaF0
namespace Go.Proofs.Ytlflbhhajnoelaa
open Go.Bur Go.RowKit
set_option linter.unusedVariables false
set_option linter.unusedSimpArgs false
set_option maxRecDepth 100000
/-! slices.BinarySearchFunc   bursary api.Row bursary api.Row bursary api.Key  -/
def slices_BinarySearchFunc_Key_j1 (n : Nat) (v6 : Int) (v21 : Bool) : Option (Int × Bool) :=
  some (v6, v21)
def slices_BinarySearchFunc_Key_l1 (n : Nat) (p0 : (List Row)) (p1 : Key) (p2 : (Row → Key → Option Int)) : Nat → Int → Int → Option (Int × Bool)
  | 0, _, _ => none
  | m8 + 1, v6, v7 =>
    cond (decide (v6 < v7))
      ((shrP .u64 (IntKind.wrap .u64 (IntKind.wrap .i64 (v6 + v7))) 1).bind fun z14 =>
      (idx p0 (IntKind.wrap .i64 (shrV .u64 (IntKind.wrap .u64 (IntKind.wrap .i64 (v6 + v7))) 1))).bind fun x16 =>
      (p2 x16 p1).bind fun y17 =>
      cond (decide (y17 < 0))
        (slices_BinarySearchFunc_Key_l1 n p0 p1 p2 m8 (IntKind.wrap .i64 ((IntKind.wrap .i64 (shrV .u64 (IntKind.wrap .u64 (IntKind.wrap .i64 (v6 + v7))) 1)) + 1)) v7)
        (slices_BinarySearchFunc_Key_l1 n p0 p1 p2 m8 v6 (IntKind.wrap .i64 (shrV .u64 (IntKind.wrap .u64 (IntKind.wrap .i64 (v6 + v7))) 1))))
      (cond (decide (v6 < (p0.length : Int)))
        ((idx p0 v6).bind fun x23 =>
        (p2 x23 p1).bind fun y24 =>
        slices_BinarySearchFunc_Key_j1 n v6 (y24 == 0))
        (slices_BinarySearchFunc_Key_j1 n v6 false))
def slices_BinarySearchFunc_Key (n : Nat) (p0 : (List Row)) (p1 : Key) (p2 : (Row → Key → Option Int)) : Option (Int × Bool) :=
  slices_BinarySearchFunc_Key_l1 n p0 p1 p2 n 0 (p0.length : Int)
theorem slices_BinarySearchFunc_Key_ok {a0 : Option Addr} {c0 : Nat} {g2 : FuncId} {k2 : Array Value} {F2 : List (World → Prop)} (n : Nat) (p0 : (List Row)) (p1 : Key) (p2 : (Row → Key → Option Int)) (r : (Int × Bool)) (hf2 : ∀ (x0 : Row) (x1 : Key) (y : Int), p2 x0 x1 = some y → Meets Try.prog g2 ([] ++ [Value.agg #[.int .i64 x0.key.table, .int .u16 x0.key.id, .int .i64 x0.val, .string x0.note], Value.agg #[.int .i64 x1.table, .int .u16 x1.id]] ++ k2.toList).toArray [] F2 fun v A P => v = .int .i64 y ∧ A = [] ∧ P = []) (h : slices_BinarySearchFunc_Key n p0 p1 p2 = some r) :
    Meets Try.prog 51 #[.slice a0 p0.length c0, Value.agg #[.int .i64 p1.table, .int .u16 p1.id], .func (.func g2) #[] k2] [] ([RSf flat_Row a0 c0 p0] ++ F2) fun v A P => v = .tuple #[.int .i64 r.1, .bool r.2] ∧ A = [] ∧ P = [] := by
  unfold slices_BinarySearchFunc_Key at h
  refine meets_enter 49 Try.func51 Try.call51 rfl (by kernel_rfl) (by simp) fun C a w hS => ?_
  refine k_seq (by kernel_rfl) fun K1 hK1 => ?_
  refine k_reg 3 (by kernel_rfl) ?_
  refine r_run1 0 3 [0, 2, 4] [] hS rfl (L' := fun b2 => [(0, .slice a0 p0.length c0), (2, .func (.func g2) #[] k2), (4, .pointer (some ⟨b2, 0, none⟩))]) (As' := fun b2 => [.box b2 [.int .i64 p1.table, .int .u16 p1.id]]) (ob := fun b2 => []) (fun b2 => by kernel_rfl) (fun b2 => trivial) fun b2 a w hS => ?_
  refine wl_end ?_
  refine hK1 _ _ ?_
  refine k_seq (by kernel_rfl) fun K3 hK3 => ?_
  refine k_reg 3 (by kernel_rfl) ?_
  refine r_run 0 3 [0, 2, 4, 8] [] hS rfl (L' := [(0, .slice a0 p0.length c0), (2, .func (.func g2) #[] k2), (4, .pointer (some ⟨b2, 0, none⟩)), (8, .int .i64 (p0.length : Int))]) (As' := [.box b2 [.int .i64 p1.table, .int .u16 p1.id]]) (ob := []) (by kernel_rfl) (trivial) fun a w hS => ?_
  refine wl_end ?_
  refine hK3 _ _ ?_
  refine k_seq (by kernel_rfl) fun K4 hK4 => ?_
  refine k_reg 3 (by kernel_rfl) ?_
  refine r_run 0 3 [0, 2, 4, 8, 9, 10] [] hS rfl (L' := [(0, .slice a0 p0.length c0), (2, .func (.func g2) #[] k2), (4, .pointer (some ⟨b2, 0, none⟩)), (8, .int .i64 (p0.length : Int)), (9, .int .i64 0), (10, .int .i64 (p0.length : Int))]) (As' := [.box b2 [.int .i64 p1.table, .int .u16 p1.id]]) (ob := []) (by kernel_rfl) (trivial) fun a w hS => ?_
  refine wl_end ?_
  refine hK4 _ _ ?_
  refine k_seq (by kernel_rfl) fun K5 hK5 => ?_
  refine k_blk (by kernel_rfl) ?_
  refine k_loop (by kernel_rfl) (fun m8 a w => ∃ (v6 : Int) (v7 : Int), slices_BinarySearchFunc_Key_l1 n p0 p1 p2 m8 v6 v7 = some r ∧ Sy C 49 a w [(0, .slice a0 p0.length c0), (2, .func (.func g2) #[] k2), (4, .pointer (some ⟨b2, 0, none⟩)), (8, .int .i64 (p0.length : Int)), (9, .int .i64 v6), (10, .int .i64 v7)] [.box b2 [.int .i64 p1.table, .int .u16 p1.id]] ([RSf flat_Row a0 c0 p0] ++ F2)) n ⟨0, (p0.length : Int), h, (hS.got [0, 2, 4, 8, 9, 10] [0] [] 0 (by kernel_rfl) (by kernel_rfl) (by kernel_rfl))⟩ ?_
  rintro m8 a w ⟨v6, v7, h, hS⟩ K9 hK9
  cases m8 with
  | zero => exact (noneS h).elim
  | succ m8 =>
    unfold slices_BinarySearchFunc_Key_l1 at h
    refine k_seq (by kernel_rfl) fun K10 hK10 => ?_
    refine k_seq (by kernel_rfl) fun K11 hK11 => ?_
    refine k_reg 3 (by kernel_rfl) ?_
    refine r_run 0 3 [0, 2, 4, 8, 9, 10, 17] [] hS rfl (L' := [(0, .slice a0 p0.length c0), (2, .func (.func g2) #[] k2), (4, .pointer (some ⟨b2, 0, none⟩)), (8, .int .i64 (p0.length : Int)), (9, .int .i64 v6), (10, .int .i64 v7), (17, .bool (decide (v6 < v7)))]) (As' := [.box b2 [.int .i64 p1.table, .int .u16 p1.id]]) (ob := []) (by kernel_rfl) (trivial) fun a w hS => ?_
    refine wl_end ?_
    refine hK11 _ _ ?_
    refine k_cond (decide (v6 < v7)) hS.has (by kernel_rfl) (by kernel_rfl) (by kernel_rfl) (fun hb12 => ?_) (fun hb12 => ?_)
    · replace h := ctrue hb12 h
      refine k_skip (by kernel_rfl) ?_
      refine hK10 _ _ ?_
      refine k_blk (by kernel_rfl) ?_
      refine k_seq (by kernel_rfl) fun K13 hK13 => ?_
      refine k_reg 7 (by kernel_rfl) ?_
      obtain ⟨z14, hz14, h⟩ := bindS h
      obtain ⟨hz14p, hz14e⟩ := shrP_some hz14
      subst hz14e
      refine r_run 0 7 [0, 2, 4, 8, 9, 10, 11] [] hS rfl (L' := [(0, .slice a0 p0.length c0), (2, .func (.func g2) #[] k2), (4, .pointer (some ⟨b2, 0, none⟩)), (8, .int .i64 (p0.length : Int)), (9, .int .i64 v6), (10, .int .i64 v7), (11, .int .i64 (IntKind.wrap .i64 (shrV .u64 (IntKind.wrap .u64 (IntKind.wrap .i64 (v6 + v7))) 1)))]) (As' := [.box b2 [.int .i64 p1.table, .int .u16 p1.id]]) (ob := [fun _ => 0 ≤ 1]) (by kernel_rfl) (⟨Bx.c hz14p, trivial⟩) fun a w hS => ?_
      refine wl_end ?_
      refine hK13 _ _ ?_
      refine k_seq (by kernel_rfl) fun K15 hK15 => ?_
      obtain ⟨x16, hx16, h⟩ := bindS h
      have ix16 := fidxB (F := flat_Row) (hS.p 0 rfl) hx16
      refine k_draw 6 8 [.val (.func (.func g2) #[] k2), .val (.slice a0 p0.length c0), .val (.int .i64 (IntKind.wrap .i64 (shrV .u64 (IntKind.wrap .u64 (IntKind.wrap .i64 (v6 + v7))) 1))), .val (.pointer (some (Addr.add (baseOf a0) (Int.toNat (IntKind.wrap .i64 (shrV .u64 (IntKind.wrap .u64 (IntKind.wrap .i64 (v6 + v7))) 1)) * 4)))), .val (Value.agg #[.int .i64 x16.key.table, .int .u16 x16.key.id, .int .i64 x16.val, .string x16.note]), .val (Value.agg #[.int .i64 p1.table, .int .u16 p1.id])] [] [(0, []), (1, []), (2, []), (3, []), (4, [.ext [.int .i64 x16.key.table, .int .u16 x16.key.id, .int .i64 x16.val, .string x16.note]]), (5, [.own 0 0])] [] (ob := [fun _ => Inb a0 p0.length (IntKind.wrap .i64 (shrV .u64 (IntKind.wrap .u64 (IntKind.wrap .i64 (v6 + v7))) 1)), Cel (Addr.add (baseOf a0) (Int.toNat (IntKind.wrap .i64 (shrV .u64 (IntKind.wrap .u64 (IntKind.wrap .i64 (v6 + v7))) 1)) * 4)) [.int .i64 x16.key.table, .int .u16 x16.key.id, .int .i64 x16.val, .string x16.note], fun _ => (⟨b2, 0, none⟩ : Addr) = (⟨b2, 0, none⟩ : Addr).add 0]) (by kernel_rfl) (by kernel_rfl) hS (by kernel_rfl) (fun F N0 => by kernel_rfl) (by kernel_rfl) (by kernel_rfl) (by kernel_rfl) (by kernel_rfl) ⟨Bx.c ix16.1, ix16.2, Bx.c rfl, trivial⟩ ?_ ?_
      · exact trivial
      intro V a w e hS hq
      obtain ⟨y17, hy17, h⟩ := bindS h
      refine r_call 6 rfl (d := some 30) [] hS (by kernel_rfl) rfl (hf2 x16 p1 y17 hy17) (fun F up => (AllB.up up (hS.tl 1 rfl))) ?_
      rintro v A P a w ⟨rfl, rfl, rfl⟩ hS
      refine r_run 7 1 [0, 2, 4, 8, 9, 10, 11, 31] [] hS rfl (L' := [(0, .slice a0 p0.length c0), (2, .func (.func g2) #[] k2), (4, .pointer (some ⟨b2, 0, none⟩)), (8, .int .i64 (p0.length : Int)), (9, .int .i64 v6), (10, .int .i64 v7), (11, .int .i64 (IntKind.wrap .i64 (shrV .u64 (IntKind.wrap .u64 (IntKind.wrap .i64 (v6 + v7))) 1))), (31, .bool (decide (y17 < 0)))]) (As' := [.box b2 [.int .i64 p1.table, .int .u16 p1.id]]) (ob := []) (by kernel_rfl) (trivial) fun a w hS => ?_
      refine wl_end ?_
      refine hK15 _ _ ?_
      refine k_cond (decide (y17 < 0)) hS.has (by kernel_rfl) (by kernel_rfl) (by kernel_rfl) (fun hb18 => ?_) (fun hb18 => ?_)
      · replace h := ctrue hb18 h
        refine k_reg 3 (by kernel_rfl) ?_
        refine r_run 0 3 [0, 2, 4, 8, 9, 10] [] hS rfl (L' := [(0, .slice a0 p0.length c0), (2, .func (.func g2) #[] k2), (4, .pointer (some ⟨b2, 0, none⟩)), (8, .int .i64 (p0.length : Int)), (9, .int .i64 (IntKind.wrap .i64 ((IntKind.wrap .i64 (shrV .u64 (IntKind.wrap .u64 (IntKind.wrap .i64 (v6 + v7))) 1)) + 1))), (10, .int .i64 v7)]) (As' := [.box b2 [.int .i64 p1.table, .int .u16 p1.id]]) (ob := []) (by kernel_rfl) (trivial) fun a w hS => ?_
        refine wl_end ?_
        exact hK9 m8 _ _ (Nat.lt_succ_self _) ⟨(IntKind.wrap .i64 ((IntKind.wrap .i64 (shrV .u64 (IntKind.wrap .u64 (IntKind.wrap .i64 (v6 + v7))) 1)) + 1)), v7, h, (hS.got [0, 2, 4, 8, 9, 10] [0] [] 0 (by kernel_rfl) (by kernel_rfl) (by kernel_rfl))⟩
      · replace h := cfalse hb18 h
        refine k_reg 2 (by kernel_rfl) ?_
        refine r_run 0 2 [0, 2, 4, 8, 9, 10] [] hS rfl (L' := [(0, .slice a0 p0.length c0), (2, .func (.func g2) #[] k2), (4, .pointer (some ⟨b2, 0, none⟩)), (8, .int .i64 (p0.length : Int)), (9, .int .i64 v6), (10, .int .i64 (IntKind.wrap .i64 (shrV .u64 (IntKind.wrap .u64 (IntKind.wrap .i64 (v6 + v7))) 1)))]) (As' := [.box b2 [.int .i64 p1.table, .int .u16 p1.id]]) (ob := []) (by kernel_rfl) (trivial) fun a w hS => ?_
        refine wl_end ?_
        exact hK9 m8 _ _ (Nat.lt_succ_self _) ⟨v6, (IntKind.wrap .i64 (shrV .u64 (IntKind.wrap .u64 (IntKind.wrap .i64 (v6 + v7))) 1)), h, (hS.got [0, 2, 4, 8, 9, 10] [0] [] 0 (by kernel_rfl) (by kernel_rfl) (by kernel_rfl))⟩
    · replace h := cfalse hb12 h
      refine k_exit 0 (by kernel_rfl) ?_
      refine hK5 _ _ ?_
      refine k_seq (by kernel_rfl) fun K19 hK19 => ?_
      refine c_name fun K20 hK20 => ?_
      have JK20 : ∀ (v21 : Bool) a w, Sy C 49 a w [(6, .int .i64 v6), (7, .bool v21)] [.box b2 [.int .i64 p1.table, .int .u16 p1.id]] ([RSf flat_Row a0 c0 p0] ++ F2) → slices_BinarySearchFunc_Key_j1 n v6 v21 = some r → K20 a w := by
        intro v21 a w hS h
        unfold slices_BinarySearchFunc_Key_j1 at h
        refine hK20 _ _ ?_
        refine hK19 _ _ ?_
        refine k_ret (by kernel_rfl) ?_
        obtain rfl := someI h
        try simp only [Exit.then, Exit.inBlock]
        refine r_ret hS [.tmp 6, .tmp 7] [] (xs := [.int .i64 v6, .bool v21]) (ps := []) [] [] rfl (by kernel_rfl) (fun hA => trivial) rfl (fun F up => trivial) ?_
        exact ⟨rfl, rfl, rfl⟩
      cases hb22 : (decide (v6 < (p0.length : Int)))
      · replace h := cfalse hb22 h
        refine k_draw 15 16 [.val (.int .i64 v6), .val (.int .i64 v6), .val (.int .i64 (p0.length : Int)), .val (.bool (decide (v6 < (p0.length : Int)))), .val (.bool false), .val (undef), .val (undef), .val (undef), .val (undef), .val (undef), .val (undef), .val (undef), .val (undef), .val (.bool false), .val (.int .i64 v6)] [] [(0, []), (1, []), (2, []), (3, []), (4, [.as 39 (.bool false)]), (5, []), (6, []), (7, []), (8, []), (9, []), (10, []), (11, []), (12, []), (13, []), (14, [])] [] (ob := [fun _ => Value.bool (decide (v6 < (p0.length : Int))) = .bool false]) (by kernel_rfl) (by kernel_rfl) hS (by kernel_rfl) (fun F N0 => by kernel_rfl) (by kernel_rfl) (by kernel_rfl) (by kernel_rfl) (by kernel_rfl) ⟨Bx.c (by rw [hb22]), trivial⟩ ?_ ?_
        · exact trivial
        intro V a w e hS hq
        refine r_run 15 1 [6, 7] [] hS rfl (L' := [(6, .int .i64 v6), (7, .bool false)]) (As' := [.box b2 [.int .i64 p1.table, .int .u16 p1.id]]) (ob := []) (by kernel_rfl) (trivial) fun a w hS => ?_
        refine wl_end ?_
        exact JK20 false _ _ (hS.got [6, 7] [0] [] 0 (by kernel_rfl) (by kernel_rfl) (by kernel_rfl)) h
      · replace h := ctrue hb22 h
        obtain ⟨x23, hx23, h⟩ := bindS h
        have ix23 := fidxB (F := flat_Row) (hS.p 0 rfl) hx23
        obtain ⟨y24, hy24, h⟩ := bindS h
        refine k_draw 15 16 [.val (.int .i64 v6), .val (.int .i64 v6), .val (.int .i64 (p0.length : Int)), .val (.bool (decide (v6 < (p0.length : Int)))), .val (.bool true), .val (.func (.func g2) #[] k2), .val (.slice a0 p0.length c0), .val (.int .i64 v6), .val (.pointer (some (Addr.add (baseOf a0) (Int.toNat v6 * 4)))), .val (Value.agg #[.int .i64 x23.key.table, .int .u16 x23.key.id, .int .i64 x23.val, .string x23.note]), .val (Value.agg #[.int .i64 p1.table, .int .u16 p1.id]), .val (.int .i64 y24), .val (.bool (y24 == 0)), .val (.bool (y24 == 0)), .val (.int .i64 v6)] [] [(0, []), (1, []), (2, []), (3, []), (4, [.as 39 (.bool true)]), (5, []), (6, []), (7, []), (8, []), (9, [.ext [.int .i64 x23.key.table, .int .u16 x23.key.id, .int .i64 x23.val, .string x23.note]]), (10, [.own 0 0]), (12, []), (13, []), (14, [])] [11] (ob := [fun _ => Value.bool (decide (v6 < (p0.length : Int))) = .bool true, fun _ => Inb a0 p0.length v6, Cel (Addr.add (baseOf a0) (Int.toNat v6 * 4)) [.int .i64 x23.key.table, .int .u16 x23.key.id, .int .i64 x23.val, .string x23.note], fun _ => (⟨b2, 0, none⟩ : Addr) = (⟨b2, 0, none⟩ : Addr).add 0]) (by kernel_rfl) (by kernel_rfl) hS (by kernel_rfl) (fun F N0 => by kernel_rfl) (by kernel_rfl) (by kernel_rfl) (by kernel_rfl) (by kernel_rfl) ⟨Bx.c (by rw [hb22]), Bx.c ix23.1, ix23.2, Bx.c rfl, trivial⟩ ?_ ?_
        · refine ⟨?_, trivial⟩
          · intro V a w e hS hq
            exact d_callV (d := 46) [] hS (by kernel_rfl) rfl (hf2 x23 p1 y24 hy24) (fun F up le => (AllB.up up (hS.tl 1 rfl))) (by rintro v A P ⟨rfl, rfl, rfl⟩; first | rfl | rw [hb22])
        intro V a w e hS hq
        refine r_run 15 1 [6, 7] [] hS rfl (L' := [(6, .int .i64 v6), (7, .bool (y24 == 0))]) (As' := [.box b2 [.int .i64 p1.table, .int .u16 p1.id]]) (ob := []) (by kernel_rfl) (trivial) fun a w hS => ?_
        refine wl_end ?_
        exact JK20 (y24 == 0) _ _ (hS.got [6, 7] [0] [] 0 (by kernel_rfl) (by kernel_rfl) (by kernel_rfl)) h

/-! bursary row.place 1 -/
def row_place_1 (n : Nat) (p0 : Row) (p1 : Key) : Option Int :=
  (row_Compare n p0.key p1).bind fun y5 =>
  some y5
theorem row_place_1_ok  (n : Nat) (p0 : Row) (p1 : Key) (r : Int)  (h : row_place_1 n p0 p1 = some r) :
    Meets Try.prog 52 #[Value.agg #[.int .i64 p0.key.table, .int .u16 p0.key.id, .int .i64 p0.val, .string p0.note], Value.agg #[.int .i64 p1.table, .int .u16 p1.id]] [] [] fun v A P => v = .int .i64 r ∧ A = [] ∧ P = [] := by
  unfold row_place_1 at h
  refine meets_enter 9 Try.func52 Try.call52 rfl (by kernel_rfl) (by simp) fun C a w hS => ?_
  refine k_seq (by kernel_rfl) fun K1 hK1 => ?_
  refine k_reg 3 (by kernel_rfl) ?_
  refine r_run2 0 3 [2, 3] [] hS rfl (L' := fun b2 b3 => [(2, .pointer (some ⟨b2, 0, none⟩)), (3, .pointer (some ⟨b3, 0, none⟩))]) (As' := fun b2 b3 => [.box b3 [.int .i64 p1.table, .int .u16 p1.id], .box b2 [.int .i64 p0.key.table, .int .u16 p0.key.id, .int .i64 p0.val, .string p0.note]]) (ob := fun b2 b3 => []) (fun b2 b3 => by kernel_rfl) (fun b2 b3 => trivial) fun b2 b3 a w hS => ?_
  refine wl_end ?_
  refine hK1 _ _ ?_
  refine k_seq (by kernel_rfl) fun K4 hK4 => ?_
  refine k_reg 5 (by kernel_rfl) ?_
  refine r_run 0 3 [6, 7] [.own 1 0, .own 0 0] hS rfl (L' := [(6, Value.agg #[.int .i64 p0.key.table, .int .u16 p0.key.id]), (7, Value.agg #[.int .i64 p1.table, .int .u16 p1.id])]) (As' := [.box b3 [.int .i64 p1.table, .int .u16 p1.id], .box b2 [.int .i64 p0.key.table, .int .u16 p0.key.id, .int .i64 p0.val, .string p0.note]]) (ob := [fun _ => (⟨b2, 0, none⟩ : Addr) = (⟨b2, 0, none⟩ : Addr).add 0, fun _ => (⟨b3, 0, none⟩ : Addr) = (⟨b3, 0, none⟩ : Addr).add 0]) (by kernel_rfl) (⟨Bx.c rfl, Bx.c rfl, trivial⟩) fun a w hS => ?_
  obtain ⟨y5, hy5, h⟩ := bindS h
  refine r_call 3 rfl (d := some 8) (g := 19) (args := #[Value.agg #[.int .i64 p0.key.table, .int .u16 p0.key.id], Value.agg #[.int .i64 p1.table, .int .u16 p1.id]]) [] hS (by kernel_rfl) rfl (row_Compare_ok n p0.key p1 y5 hy5) (fun F up => trivial) ?_
  rintro v A P a w ⟨rfl, rfl, rfl⟩ hS
  refine r_run 4 1 [4] [] hS rfl (L' := [(4, .int .i64 y5)]) (As' := [.box b3 [.int .i64 p1.table, .int .u16 p1.id], .box b2 [.int .i64 p0.key.table, .int .u16 p0.key.id, .int .i64 p0.val, .string p0.note]]) (ob := []) (by kernel_rfl) (trivial) fun a w hS => ?_
  refine wl_end ?_
  refine hK4 _ _ ?_
  refine k_ret (by kernel_rfl) ?_
  obtain rfl := someI h
  try simp only [Exit.then, Exit.inBlock]
  refine r_ret hS [.tmp 4] [] (xs := [.int .i64 y5]) (ps := []) [] [] rfl (by kernel_rfl) (fun hA => trivial) rfl (fun F up => trivial) ?_
  exact ⟨rfl, rfl, rfl⟩

/-! bursary row.place -/
def row_place (n : Nat) (p0 : (List Row)) (p1 : Key) : Option (Int × Bool) :=
  (slices_BinarySearchFunc_Key n p0 p1 (fun x0 x1 => row_place_1 n x0 x1)).bind fun y4 =>
  some (y4.1, y4.2)
theorem row_place_ok {a0 : Option Addr} {c0 : Nat} (n : Nat) (p0 : (List Row)) (p1 : Key) (r : (Int × Bool))  (h : row_place n p0 p1 = some r) :
    Meets Try.prog 42 #[.slice a0 p0.length c0, Value.agg #[.int .i64 p1.table, .int .u16 p1.id]] [] [RSf flat_Row a0 c0 p0] fun v A P => v = .tuple #[.int .i64 r.1, .bool r.2] ∧ A = [] ∧ P = [] := by
  unfold row_place at h
  refine meets_enter 11 Try.func42 Try.call42 rfl (by kernel_rfl) (by simp) fun C a w hS => ?_
  refine k_seq (by kernel_rfl) fun K1 hK1 => ?_
  refine k_reg 3 (by kernel_rfl) ?_
  refine r_run1 0 3 [0, 3] [] hS rfl (L' := fun b2 => [(0, .slice a0 p0.length c0), (3, .pointer (some ⟨b2, 0, none⟩))]) (As' := fun b2 => [.box b2 [.int .i64 p1.table, .int .u16 p1.id]]) (ob := fun b2 => []) (fun b2 => by kernel_rfl) (fun b2 => trivial) fun b2 a w hS => ?_
  refine wl_end ?_
  refine hK1 _ _ ?_
  refine k_seq (by kernel_rfl) fun K3 hK3 => ?_
  refine k_reg 7 (by kernel_rfl) ?_
  refine r_run 0 2 [6, 7] [.own 0 0] hS rfl (L' := [(6, .slice a0 p0.length c0), (7, Value.agg #[.int .i64 p1.table, .int .u16 p1.id])]) (As' := [.box b2 [.int .i64 p1.table, .int .u16 p1.id]]) (ob := [fun _ => (⟨b2, 0, none⟩ : Addr) = (⟨b2, 0, none⟩ : Addr).add 0]) (by kernel_rfl) (⟨Bx.c rfl, trivial⟩) fun a w hS => ?_
  obtain ⟨y4, hy4, h⟩ := bindS h
  refine r_call 2 rfl (d := some 8) (g := 51) (args := #[.slice a0 p0.length c0, Value.agg #[.int .i64 p1.table, .int .u16 p1.id], .func (.func 52) #[] #[]]) [] hS (by kernel_rfl) rfl (slices_BinarySearchFunc_Key_ok (g2 := 52) (k2 := #[]) (F2 := []) n p0 p1 (fun x0 x1 => row_place_1 n x0 x1) y4 (fun x0 x1 y h => row_place_1_ok n _ _ y h) hy4) (fun F up => ⟨up (hS.p 0 rfl), trivial⟩) ?_
  rintro v A P a w ⟨rfl, rfl, rfl⟩ hS
  refine r_run 3 4 [4, 5] [] hS rfl (L' := [(4, .int .i64 y4.1), (5, .bool y4.2)]) (As' := [.box b2 [.int .i64 p1.table, .int .u16 p1.id]]) (ob := []) (by kernel_rfl) (trivial) fun a w hS => ?_
  refine wl_end ?_
  refine hK3 _ _ ?_
  refine k_ret (by kernel_rfl) ?_
  obtain rfl := someI h
  try simp only [Exit.then, Exit.inBlock]
  refine r_ret hS [.tmp 4, .tmp 5] [] (xs := [.int .i64 y4.1, .bool y4.2]) (ps := []) [] [] rfl (by kernel_rfl) (fun hA => trivial) rfl (fun F up => trivial) ?_
  exact ⟨rfl, rfl, rfl⟩

/-! slices.Clone   bursary api.Row bursary api.Row  -/
def slices_Clone_Row (n : Nat) (p0 : List Row) : Option (List Row) := app 40 [] p0
theorem slices_Clone_Row_ok {a0 : Option Addr} {c0 : Nat} (n : Nat) (p0 : List Row) (r : List Row) (h : slices_Clone_Row n p0 = some r) :
    Meets Try.prog 43 #[.slice a0 p0.length c0] [] [RSf flat_Row a0 c0 p0] fun v A P => ∃ (a : Option Addr) (c : Nat), v = .slice a r.length c ∧ A = [rowF flat_Row 38 a c r] ∧ P = [] := by
  unfold slices_Clone_Row at h
  refine meets_enter 8 Try.func43 Try.call43 rfl (by kernel_rfl) (by simp) fun C a w hS => ?_
  refine k_seq (by kernel_rfl) fun K1 hK1 => ?_
  refine k_reg 1 (by kernel_rfl) ?_
  refine r_run 0 1 [0] [] hS rfl (L' := [(0, .slice a0 p0.length c0)]) (As' := []) (ob := []) (by kernel_rfl) trivial fun a w hS => ?_
  refine wl_end ?_
  refine hK1 _ _ ?_
  refine k_seq (by kernel_rfl) fun K2 hK2 => ?_
  refine k_seq (by kernel_rfl) fun K3 hK3 => ?_
  refine k_reg 2 (by kernel_rfl) ?_
  refine r_run 0 2 [0, 4] [.val (.bool a0.isNone)] hS rfl (L' := [(0, .slice a0 p0.length c0), (4, .bool a0.isNone)]) (As' := []) (ob := [fun w => EqOk Try.prog .eql 25 (.slice a0 p0.length c0) (.slice none 0 0) (.bool a0.isNone) w]) (by kernel_rfl) ⟨fun w _ => eqOk_nil (e := 38) (by kernel_rfl), trivial⟩ fun a w hS => ?_
  refine wl_end ?_
  refine hK3 _ _ ?_
  refine k_cond a0.isNone hS.has (by kernel_rfl) (by kernel_rfl) (by kernel_rfl) (fun hb => ?_) (fun hb => ?_)
  · have hp : p0 = [] := by
      by_cases e : p0 = []
      · exact e
      · exact absurd (Option.isNone_iff_eq_none.1 hb) ((hS.p 0 rfl).here.some_ e)
    subst hp
    obtain ⟨_, rfl⟩ := app_some h
    refine k_seq (by kernel_rfl) fun K4 hK4 => ?_
    refine k_reg 1 (by kernel_rfl) ?_
    refine r_run 0 1 [2] [] hS rfl (L' := [(2, .slice none 0 0)]) (As' := []) (ob := []) (by kernel_rfl) trivial fun a w hS => ?_
    refine wl_end ?_
    refine hK4 _ _ ?_
    refine k_ret (by kernel_rfl) ?_
    try simp only [Exit.then, Exit.inBlock]
    replace hS := hS.nilrow (e := 38) (sz := (flat_Row).sz)
    refine r_ret hS [.tmp 2] [] (xs := [.slice none 0 0]) (ps := []) [0] [] rfl (by kernel_rfl) (fun hA => trivial) rfl (fun F up => trivial) ?_
    exact ⟨none, 0, rfl, rfl, rfl⟩
  · refine k_skip (by kernel_rfl) ?_
    refine hK2 _ _ ?_
    refine k_seq (by kernel_rfl) fun K4 hK4 => ?_
    refine k_reg 4 (by kernel_rfl) ?_
    refine r_run1 0 2 [5, 6] [] hS rfl (L' := fun b => [(5, .slice (some ⟨b, 0, none⟩) 0 0), (6, .slice a0 p0.length c0)]) (As' := fun b => [rowF flat_Row 38 (some ⟨b, 0, none⟩) 0 ([] : List Row)]) (ob := fun b => []) (fun b => by kernel_rfl) (fun b => trivial) fun b a w hS => ?_
    obtain ⟨hlr, hle⟩ := app_some h
    refine r_append 2 rfl (d := 7) (t := 25) (A := some ⟨b, 0, none⟩) (c := 0) (k := ([] : List Row).length) (b := a0) (c2 := c0) (m := p0.length) (p0.flatMap (flat_Row).enc) 0 [] hS appT_25 (by kernel_rfl) rfl rfl (fun F up le => up (appB (F := flat_Row) (hS.p 0 rfl))) hlr fun a2 c2 a w hS => ?_
    replace hS := rowF_app (F := flat_Row) (l := ([] : List Row)) (m := p0) hS hle
    refine r_run 3 1 [2] [] hS rfl (L' := [(2, .slice a2 r.length c2)]) (As' := [rowF flat_Row 38 a2 c2 r]) (ob := []) (by kernel_rfl) trivial fun a w hS => ?_
    refine wl_end ?_
    refine hK4 _ _ ?_
    refine k_ret (by kernel_rfl) ?_
    try simp only [Exit.then, Exit.inBlock]
    refine r_ret hS [.tmp 2] [] (xs := [.slice a2 r.length c2]) (ps := []) [0] [] rfl (by kernel_rfl) (fun hA => trivial) rfl (fun F up => trivial) ?_
    exact ⟨a2, c2, rfl, rfl, rfl⟩


/-! slices.Insert   bursary api.Row bursary api.Row  -/
def slices_Insert_Row (n : Nat) (p0 : List Row) (p1 : Int) (p2 : List Row) : Option (List Row) := if 0 ≤ p1 ∧ p1 ≤ (p0.length : Int) then (match room (p0.length + p2.length) 40 with | true => some (p0.take p1.toNat ++ p2 ++ p0.drop p1.toNat) | false => none) else none
theorem slices_Insert_Row_ok {a0 : Option Addr} {c0 : Nat} {a2 : Option Addr} {c2 : Nat} (n : Nat) (p0 : List Row) (p1 : Int) (p2 : List Row) (r : List Row) (h : slices_Insert_Row n p0 p1 p2 = some r) :
    Meets Try.prog 44 #[.slice a0 p0.length c0, .int .i64 p1, .slice a2 p2.length c2] [rowF flat_Row 38 a0 c0 p0, rowF flat_Row 38 a2 c2 p2] [] fun v A P => ∃ (a : Option Addr) (c : Nat), v = .slice a r.length c ∧ A = [rowF flat_Row 38 a c r] ∧ P = [] := by
  unfold slices_Insert_Row at h
  split at h
  case isFalse => cases h
  rename_i hb
  obtain ⟨hb0, hb1⟩ := hb
  obtain ⟨i, hi⟩ : ∃ i : Nat, p1 = (i : Int) := ⟨p1.toNat, by omega⟩
  subst hi
  simp only [Int.toNat_natCast] at h
  have hil : i ≤ p0.length := by omega
  split at h
  case h_2 => cases h
  rename_i hroom
  have hr := someI h
  have hrl : r.length = p0.length + p2.length := by rw [← hr]; simp; omega
  have hbytes : (p0.length + p2.length) * 40 ≤ 140737488355328 := Nat.le_of_ble_eq_true hroom
  have hsm : p0.length + p2.length < 9223372036854775808 := by omega
  refine meets_enter 95 Try.func44 Try.call44 rfl (by kernel_rfl) (by simp) fun C a w hS => ?_
  have hc : p0.length ≤ c0 := (row_len (hS.st.own _ (List.mem_cons_self ..))).2.1
  refine k_seq (by kernel_rfl) fun K1 hK1 => ?_
  refine k_reg 1 (by kernel_rfl) ?_
  refine r_run 0 1 [0, 1, 2] [] hS rfl (L' := [(0, .slice a0 p0.length c0), (1, .int .i64 i), (2, .slice a2 p2.length c2)]) (As' := [rowF flat_Row 38 a0 c0 p0, rowF flat_Row 38 a2 c2 p2]) (ob := []) (by kernel_rfl) trivial fun a w hS => ?_
  refine wl_end ?_
  refine hK1 _ _ ?_
  refine k_seq (by kernel_rfl) fun K2 hK2 => ?_
  refine k_reg 3 (by kernel_rfl) ?_
  refine r_run 0 3 [0, 1, 2] [] hS rfl (L' := [(0, .slice a0 p0.length c0), (1, .int .i64 i), (2, .slice a2 p2.length c2)]) (As' := [rowF flat_Row 38 a0 c0 p0, rowF flat_Row 38 a2 c2 p2]) (ob := [fun _ => 0 ≤ (i : Int) ∧ (i : Int) ≤ (p0.length : Int) ∧ (p0.length : Int) ≤ (c0 : Int)]) (by kernel_rfl) ⟨Bx.c ⟨hb0, hb1, by omega⟩, trivial⟩ fun a w hS => ?_
  refine wl_end ?_
  refine hK2 _ _ ?_
  refine k_seq (by kernel_rfl) fun K3 hK3 => ?_
  refine k_reg 3 (by kernel_rfl) ?_
  refine r_run 0 3 [0, 1, 2, 7] [] hS rfl (L' := [(0, .slice a0 p0.length c0), (1, .int .i64 i), (2, .slice a2 p2.length c2), (7, .int .i64 (p2.length : Int))]) (As' := [rowF flat_Row 38 a0 c0 p0, rowF flat_Row 38 a2 c2 p2]) (ob := []) (by kernel_rfl) trivial fun a w hS => ?_
  refine wl_end ?_
  refine hK3 _ _ ?_
  refine k_seq (by kernel_rfl) fun K4 hK4 => ?_
  refine k_seq (by kernel_rfl) fun K5 hK5 => ?_
  refine k_reg 2 (by kernel_rfl) ?_
  refine r_run 0 2 [0, 1, 2, 7, 16] [] hS rfl (L' := [(0, .slice a0 p0.length c0), (1, .int .i64 i), (2, .slice a2 p2.length c2), (7, .int .i64 (p2.length : Int)), (16, .bool ((p2.length : Int) == 0))]) (As' := [rowF flat_Row 38 a0 c0 p0, rowF flat_Row 38 a2 c2 p2]) (ob := []) (by kernel_rfl) trivial fun a w hS => ?_
  refine wl_end ?_
  refine hK5 _ _ ?_
  refine k_cond ((p2.length : Int) == 0) hS.has (by kernel_rfl) (by kernel_rfl) (by kernel_rfl) (fun hq => ?_) (fun hq => ?_)
  · have hp : p2 = [] := List.eq_nil_of_length_eq_zero (by simpa using hq)
    subst hp
    have hr' : p0 = r := by rw [← hr]; simp
    subst hr'
    refine k_seq (by kernel_rfl) fun K6 hK6 => ?_
    refine k_reg 2 (by kernel_rfl) ?_
    refine r_run 0 2 [6] [] hS rfl (L' := [(6, .slice a0 p0.length c0)]) (As' := [rowF flat_Row 38 a0 c0 p0, rowF flat_Row 38 a2 c2 ([] : List Row)]) (ob := []) (by kernel_rfl) trivial fun a w hS => ?_
    refine wl_end ?_
    refine hK6 _ _ ?_
    refine k_ret (by kernel_rfl) ?_
    try simp only [Exit.then, Exit.inBlock]
    refine r_ret hS [.tmp 6] [] (xs := [.slice a0 p0.length c0]) (ps := []) [0] [] rfl (by kernel_rfl) (fun hA => trivial) rfl (fun F up => trivial) ?_
    exact ⟨a0, c0, rfl, rfl, rfl⟩
  have hm : 0 < p2.length := by
    rcases Nat.eq_zero_or_pos p2.length with h0 | h0
    · rw [h0] at hq; simp at hq
    · exact h0
  obtain ⟨g3, rfl⟩ := row_block (hS.st.own (rowF flat_Row 38 a2 c2 p2) (by simp)) (by omega)
  refine k_skip (by kernel_rfl) ?_
  refine hK4 _ _ ?_
  refine k_seq (by kernel_rfl) fun K7 hK7 => ?_
  refine k_reg 3 (by kernel_rfl) ?_
  refine r_run 0 3 [0, 1, 2, 7, 8] [] hS rfl (L' := [(0, .slice a0 p0.length c0), (1, .int .i64 i), (2, .slice (some ⟨g3, 0, none⟩) p2.length c2), (7, .int .i64 (p2.length : Int)), (8, .int .i64 (p0.length : Int))]) (As' := [rowF flat_Row 38 a0 c0 p0, rowF flat_Row 38 (some ⟨g3, 0, none⟩) c2 p2]) (ob := []) (by kernel_rfl) trivial fun a w hS => ?_
  refine wl_end ?_
  refine hK7 _ _ ?_
  refine k_seq (by kernel_rfl) fun K8 hK8 => ?_
  refine k_seq (by kernel_rfl) fun K9 hK9 => ?_
  refine k_reg 3 (by kernel_rfl) ?_
  refine r_run 0 3 [0, 1, 2, 7, 8, 22] [] hS rfl (L' := [(0, .slice a0 p0.length c0), (1, .int .i64 i), (2, .slice (some ⟨g3, 0, none⟩) p2.length c2), (7, .int .i64 (p2.length : Int)), (8, .int .i64 (p0.length : Int)), (22, .bool ((i : Int) == (p0.length : Int)))]) (As' := [rowF flat_Row 38 a0 c0 p0, rowF flat_Row 38 (some ⟨g3, 0, none⟩) c2 p2]) (ob := []) (by kernel_rfl) trivial fun a w hS => ?_
  refine wl_end ?_
  refine hK9 _ _ ?_
  refine k_cond ((i : Int) == (p0.length : Int)) hS.has (by kernel_rfl) (by kernel_rfl) (by kernel_rfl) (fun hq2 => ?_) (fun hq2 => ?_)
  · have hin : i = p0.length := by
      have := of_decide_eq_true (p := (i : Int) = (p0.length : Int)) (by simpa using hq2)
      omega
    have hr' : r = p0 ++ p2 := by rw [← hr, hin]; simp
    refine k_seq (by kernel_rfl) fun K6 hK6 => ?_
    refine k_reg 4 (by kernel_rfl) ?_
    refine r_run 0 2 [23, 24] [] hS rfl (L' := [(23, .slice a0 p0.length c0), (24, .slice (some ⟨g3, 0, none⟩) p2.length c2)]) (As' := [rowF flat_Row 38 a0 c0 p0, rowF flat_Row 38 (some ⟨g3, 0, none⟩) c2 p2]) (ob := []) (by kernel_rfl) trivial fun a w hS => ?_
    refine r_append 2 rfl (d := 25) (t := 25) (A := a0) (c := c0) (k := p0.length) (b := some ⟨g3, 0, none⟩) (c2 := c2) (m := p2.length) (p2.flatMap (flat_Row).enc) 0 [0] hS appT_25 (by kernel_rfl) rfl rfl (fun F up le => appB (F := flat_Row) (le 0 rfl _ fun w h => rowRS h)) hroom fun a5 c5 a w hS => ?_
    replace hS := rowF_app (F := flat_Row) (l := p0) (m := p2) hS hr'
    refine r_run 3 1 [6] [] hS rfl (L' := [(6, .slice a5 r.length c5)]) (As' := [rowF flat_Row 38 a5 c5 r, rowF flat_Row 38 (some ⟨g3, 0, none⟩) c2 p2]) (ob := []) (by kernel_rfl) trivial fun a w hS => ?_
    refine wl_end ?_
    refine hK6 _ _ ?_
    refine k_ret (by kernel_rfl) ?_
    try simp only [Exit.then, Exit.inBlock]
    refine r_ret hS [.tmp 6] [] (xs := [.slice a5 r.length c5]) (ps := []) [0] [] rfl (by kernel_rfl) (fun hA => trivial) rfl (fun F up => trivial) ?_
    exact ⟨a5, c5, rfl, rfl, rfl⟩
  have hin : i < p0.length := by
    rcases Nat.lt_or_ge i p0.length with h0 | h0
    · exact h0
    · have : i = p0.length := by omega
      rw [this] at hq2; simp at hq2
  obtain ⟨g, rfl⟩ := row_block (hS.st.own (rowF flat_Row 38 a0 c0 p0) (by simp)) (by omega)
  have hw : IntKind.wrap .i64 ((p0.length : Int) + (p2.length : Int)) = ((p0.length + p2.length : Nat) : Int) := by rw [IntKind.wrap_i64]; omega
  have hw2 : IntKind.wrap .i64 ((i : Int) + (p2.length : Int)) = ((i + p2.length : Nat) : Int) := by rw [IntKind.wrap_i64]; omega
  have hsz : 0 < (flat_Row).sz := by decide
  have hX : (p0.take i).flatMap (flat_Row).enc = (p0.flatMap (flat_Row).enc).take (i * (flat_Row).sz) := flat_take p0 i
  have hY : (p0.drop i).flatMap (flat_Row).enc = (p0.flatMap (flat_Row).enc).drop (i * (flat_Row).sz) := flat_drop p0 i
  have lX : ((p0.take i).flatMap (flat_Row).enc).length = i * (flat_Row).sz := by rw [flat_len, List.length_take, Nat.min_eq_left hil]
  have lY : ((p0.drop i).flatMap (flat_Row).enc).length = (p0.length - i) * (flat_Row).sz := by rw [flat_len, List.length_drop]
  have lV : (p2.flatMap (flat_Row).enc).length = p2.length * (flat_Row).sz := flat_len p2
  have hXY : (p0.take i).flatMap (flat_Row).enc ++ (p0.drop i).flatMap (flat_Row).enc = p0.flatMap (flat_Row).enc := by rw [← List.flatMap_append, List.take_append_drop]
  have hre : r.flatMap (flat_Row).enc = (p0.take i).flatMap (flat_Row).enc ++ p2.flatMap (flat_Row).enc ++ (p0.drop i).flatMap (flat_Row).enc := by rw [← hr, List.flatMap_append, List.flatMap_append]
  have hV1 : ∀ v ∈ p2.flatMap (flat_Row).enc, v.oneCell' = true := flat_one p2
  have hY1 : ∀ v ∈ (p0.drop i).flatMap (flat_Row).enc, v.oneCell' = true := flat_one _
  refine k_skip (by kernel_rfl) ?_
  refine hK8 _ _ ?_
  refine k_seq (by kernel_rfl) fun K10 hK10 => ?_
  refine k_seq (by kernel_rfl) fun K11 hK11 => ?_
  refine k_reg 6 (by kernel_rfl) ?_
  refine r_run 0 6 [0, 1, 2, 7, 8, 31] [.as 28 (.int .i64 ((p0.length + p2.length : Nat) : Int))] hS rfl (L' := [(0, .slice (some ⟨g, 0, none⟩) p0.length c0), (1, .int .i64 i), (2, .slice (some ⟨g3, 0, none⟩) p2.length c2), (7, .int .i64 (p2.length : Int)), (8, .int .i64 (p0.length : Int)), (31, .bool (decide (((p0.length + p2.length : Nat) : Int) > (c0 : Int))))]) (As' := [rowF flat_Row 38 (some ⟨g, 0, none⟩) c0 p0, rowF flat_Row 38 (some ⟨g3, 0, none⟩) c2 p2]) (ob := [fun _ => Value.int .i64 (IntKind.wrap .i64 ((p0.length : Int) + (p2.length : Int))) = .int .i64 ((p0.length + p2.length : Nat) : Int)]) (by kernel_rfl) ⟨Bx.c (by rw [hw]), trivial⟩ fun a w hS => ?_
  refine wl_end ?_
  refine hK11 _ _ ?_
  refine k_cond (decide (((p0.length + p2.length : Nat) : Int) > (c0 : Int))) hS.has (by kernel_rfl) (by kernel_rfl) (by kernel_rfl) (fun hq3 => ?_) (fun hq3 => ?_)
  · have hgt : c0 < p0.length + p2.length := by have := of_decide_eq_true hq3; omega
    have hk : p0.length + p2.length - i + i = p0.length + p2.length := by omega
    have hw3 : IntKind.wrap .i64 (((p0.length + p2.length : Nat) : Int) - (i : Int)) = ((p0.length + p2.length - i : Nat) : Int) := by rw [IntKind.wrap_i64]; omega
    refine k_seq (by kernel_rfl) fun K12 hK12 => ?_
    refine k_reg 10 (by kernel_rfl) ?_
    refine r_run 0 8 [0, 1, 2, 7, 8, 34, 39] [.as 34 (.slice (some ⟨g, 0, none⟩) i c0), .as 37 (.int .i64 ((p0.length + p2.length : Nat) : Int)), .as 39 (.int .i64 ((p0.length + p2.length - i : Nat) : Int))] hS rfl (L' := [(0, .slice (some ⟨g, 0, none⟩) p0.length c0), (1, .int .i64 i), (2, .slice (some ⟨g3, 0, none⟩) p2.length c2), (7, .int .i64 (p2.length : Int)), (8, .int .i64 (p0.length : Int)), (34, .slice (some ⟨g, 0, none⟩) i c0), (39, .int .i64 ((p0.length + p2.length - i : Nat) : Int))]) (As' := [rowF flat_Row 38 (some ⟨g, 0, none⟩) c0 p0, rowF flat_Row 38 (some ⟨g3, 0, none⟩) c2 p2]) (ob := [fun _ => (0 : Int) ≤ 0 ∧ (0 : Int) ≤ (i : Int) ∧ (i : Int) ≤ (c0 : Int), fun _ => Value.slice (slA (some ⟨g, 0, none⟩) 0 c0 (flat_Row).sz) i c0 = .slice (some ⟨g, 0, none⟩) i c0, fun _ => Value.int .i64 (IntKind.wrap .i64 ((p0.length : Int) + (p2.length : Int))) = .int .i64 ((p0.length + p2.length : Nat) : Int), fun _ => Value.int .i64 (IntKind.wrap .i64 (((p0.length + p2.length : Nat) : Int) - (i : Int))) = .int .i64 ((p0.length + p2.length - i : Nat) : Int)]) (by kernel_rfl) ⟨Bx.c ⟨by omega, by omega, by omega⟩, Bx.c (by rw [slA_zero]), Bx.c (by rw [hw]), Bx.c (by rw [hw3]), trivial⟩ fun a w hS => ?_
    obtain ⟨w', g2, c5, hrun, hc5, ⟨T, hT, hrow⟩, hext, hg2, hg2'⟩ := run_zeros_row (P := Try.prog) (sz := (flat_Row).sz) (t := 25) (tn := 3) (ty := 25) (i := i) (k := p0.length + p2.length - i) (bytes := 40) (inf := Try.t38) (z := (Try.t38.zero).getD undef) (kq := .i64) (kn := .i64) (by kernel_rfl) (by kernel_rfl) (by kernel_rfl) (by kernel_rfl) rfl (by kernel_rfl) (by kernel_rfl) hsz (by decide) (hS.st.own (rowF flat_Row 38 (some ⟨g, 0, none⟩) c0 p0) (by simp)) hil (by omega) (by omega) (by rw [show i + (p0.length + p2.length - i) = p0.length + p2.length from by omega]; exact hroom)
    have hik : i + (p0.length + p2.length - i) = p0.length + p2.length := by omega
    rw [hik] at hrun hc5 hT
    refine r_bltN 8 rfl (d := some 40) (b := .append) (ts := #[25, 3]) (ty := 25) (vs := #[.slice (some ⟨g, 0, none⟩) i c0, .int .i64 ((p0.length + p2.length - i : Nat) : Int)]) hS (by kernel_rfl) _ hrun hrow hext (fun x hx => by simp [Asn.fp] at hx; subst hx; exact ⟨hg2, hg2'⟩) (by simp [Asn.fp]) fun a hS => ?_
    rw [← hX] at hS
    generalize hZ : (Builtin.zeroCells ((Try.t38.zero).getD undef).cells (p0.length + p2.length - i)).toList = Z at hS
    have lZ : Z.length = (p2.flatMap (flat_Row).enc).length + ((p0.drop i).flatMap (flat_Row).enc).length := by
      rw [← hZ, zeros_len, lV, lY, ← Nat.add_mul, show ((Try.t38.zero).getD undef).cells.size = (flat_Row).sz from by kernel_rfl]
      congr 1; omega
    refine r_run 9 1 [0, 1, 2, 7, 9] [] hS rfl (L' := [(0, .slice (some ⟨g, 0, none⟩) p0.length c0), (1, .int .i64 i), (2, .slice (some ⟨g3, 0, none⟩) p2.length c2), (7, .int .i64 (p2.length : Int)), (9, .slice (some ⟨g2, 0, none⟩) (p0.length + p2.length) c5)]) (As' := [.row (some ⟨g2, 0, none⟩) c5 38 (flat_Row).sz c5 ((p0.take i).flatMap (flat_Row).enc ++ Z ++ T), rowF flat_Row 38 (some ⟨g, 0, none⟩) c0 p0, rowF flat_Row 38 (some ⟨g3, 0, none⟩) c2 p2]) (ob := []) (by kernel_rfl) trivial fun a w hS => ?_
    refine wl_end ?_
    refine hK12 _ _ ?_
    refine k_seq (by kernel_rfl) fun K13 hK13 => ?_
    refine k_reg 5 (by kernel_rfl) ?_
    have hs1 : slA (some (⟨g2, 0, none⟩ : Addr)) i c5 (flat_Row).sz = some ⟨g2, i * (flat_Row).sz, none⟩ := by
      unfold slA; rw [if_neg (by omega)]; simp only [Option.map_some, addr_add0]
    refine r_run 0 4 [0, 1, 7, 9, 43, 44] [.as 43 (.slice (some ⟨g2, i * (flat_Row).sz, none⟩) (p0.length + p2.length - i) (c5 - i))] hS rfl (L' := [(0, .slice (some ⟨g, 0, none⟩) p0.length c0), (1, .int .i64 i), (7, .int .i64 (p2.length : Int)), (9, .slice (some ⟨g2, 0, none⟩) (p0.length + p2.length) c5), (43, .slice (some ⟨g2, i * (flat_Row).sz, none⟩) (p0.length + p2.length - i) (c5 - i)), (44, .slice (some ⟨g3, 0, none⟩) p2.length c2)]) (As' := [.row (some ⟨g2, 0, none⟩) c5 38 (flat_Row).sz c5 ((p0.take i).flatMap (flat_Row).enc ++ Z ++ T), rowF flat_Row 38 (some ⟨g, 0, none⟩) c0 p0, rowF flat_Row 38 (some ⟨g3, 0, none⟩) c2 p2]) (ob := [fun _ => 0 ≤ (i : Int) ∧ (i : Int) ≤ ((p0.length + p2.length : Nat) : Int) ∧ ((p0.length + p2.length : Nat) : Int) ≤ (c5 : Int), fun _ => Value.slice (slA (some ⟨g2, 0, none⟩) i c5 (flat_Row).sz) (p0.length + p2.length - i) (c5 - i) = .slice (some ⟨g2, i * (flat_Row).sz, none⟩) (p0.length + p2.length - i) (c5 - i)]) (by kernel_rfl) ⟨Bx.c ⟨by omega, by omega, by omega⟩, Bx.c (by rw [hs1]), trivial⟩ fun a w hS => ?_
    have hsrc := row_cellsAt (hS.st.own (rowF flat_Row 38 (some ⟨g3, 0, none⟩) c2 p2) (by simp)) 0 (p2.flatMap (flat_Row).enc).length
    rw [List.drop_zero, List.take_length] at hsrc
    have hfit1 : i * (flat_Row).sz + (p2.flatMap (flat_Row).enc).length ≤ c5 * (flat_Row).sz := by rw [lV, ← Nat.add_mul]; exact Nat.mul_le_mul_right _ (by omega)
    have hmin1 : Nat.min p2.length (p0.length + p2.length - i) = p2.length := Nat.min_eq_left (by omega)
    refine r_bltS 4 rfl 0 (.row (some ⟨g2, 0, none⟩) c5 38 (flat_Row).sz c5 (spl ((p0.take i).flatMap (flat_Row).enc ++ Z ++ T) (i * (flat_Row).sz) (p2.flatMap (flat_Row).enc))) (d := some 45) (b := .copy) (ts := #[25, 25]) (ty := 3) (vs := #[.slice (some ⟨g2, i * (flat_Row).sz, none⟩) (p0.length + p2.length - i) (c5 - i), .slice (some ⟨g3, 0, none⟩) p2.length c2]) hS (by kernel_rfl) rfl (fun hA => run_copyR (dT := 25) (sT := 25) (ty := 3) (inf := Try.t38) (by kernel_rfl) (by kernel_rfl) rfl hA (by rw [hmin1, lV]) hsrc hfit1 hV1) rfl (by simp [Asn.fp]) fun a w hS => ?_
    refine wl_end ?_
    refine hK13 _ _ ?_
    refine k_seq (by kernel_rfl) fun K14 hK14 => ?_
    have hs2 : slA (some (⟨g2, 0, none⟩ : Addr)) (i + p2.length) c5 (flat_Row).sz = some ⟨g2, (i + p2.length) * (flat_Row).sz, none⟩ := by
      unfold slA; rw [if_neg (by omega)]; simp only [Option.map_some, addr_add0]
    have hs3 : slA (some (⟨g, 0, none⟩ : Addr)) i c0 (flat_Row).sz = some ⟨g, i * (flat_Row).sz, none⟩ := by
      unfold slA; rw [if_neg (by omega)]; simp only [Option.map_some, addr_add0]
    refine k_draw 8 9 [.val (.slice (some ⟨g2, 0, none⟩) (p0.length + p2.length) c5), .val (.int .i64 i), .val (.int .i64 (p2.length : Int)), .val (.int .i64 ((i + p2.length : Nat) : Int)), .val (.slice (some ⟨g2, (i + p2.length) * (flat_Row).sz, none⟩) (p0.length + p2.length - (i + p2.length)) (c5 - (i + p2.length))), .val (.slice (some ⟨g, 0, none⟩) p0.length c0), .val (.int .i64 i), .val (.slice (some ⟨g, i * (flat_Row).sz, none⟩) (p0.length - i) (c0 - i))] [] [(0, []), (1, []), (2, []), (3, [.as 49 (.int .i64 ((i + p2.length : Nat) : Int))]), (4, [.as 50 (.slice (some ⟨g2, (i + p2.length) * (flat_Row).sz, none⟩) (p0.length + p2.length - (i + p2.length)) (c5 - (i + p2.length)))]), (5, []), (6, []), (7, [.as 53 (.slice (some ⟨g, i * (flat_Row).sz, none⟩) (p0.length - i) (c0 - i))])] [] (ob := [fun _ => Value.int .i64 (IntKind.wrap .i64 ((i : Int) + (p2.length : Int))) = .int .i64 ((i + p2.length : Nat) : Int), fun _ => 0 ≤ ((i + p2.length : Nat) : Int) ∧ ((i + p2.length : Nat) : Int) ≤ ((p0.length + p2.length : Nat) : Int) ∧ ((p0.length + p2.length : Nat) : Int) ≤ (c5 : Int), fun _ => Value.slice (slA (some ⟨g2, 0, none⟩) (i + p2.length) c5 (flat_Row).sz) (p0.length + p2.length - (i + p2.length)) (c5 - (i + p2.length)) = .slice (some ⟨g2, (i + p2.length) * (flat_Row).sz, none⟩) (p0.length + p2.length - (i + p2.length)) (c5 - (i + p2.length)), fun _ => 0 ≤ (i : Int) ∧ (i : Int) ≤ (p0.length : Int) ∧ (p0.length : Int) ≤ (c0 : Int), fun _ => Value.slice (slA (some ⟨g, 0, none⟩) i c0 (flat_Row).sz) (p0.length - i) (c0 - i) = .slice (some ⟨g, i * (flat_Row).sz, none⟩) (p0.length - i) (c0 - i)]) (by kernel_rfl) (by kernel_rfl) hS (by kernel_rfl) (fun F N0 => by kernel_rfl) (by kernel_rfl) (by kernel_rfl) (by kernel_rfl) (by kernel_rfl) ⟨Bx.c (by rw [hw2]), Bx.c ⟨by omega, by omega, by omega⟩, Bx.c (by rw [hs2]), Bx.c ⟨by omega, by omega, by omega⟩, Bx.c (by rw [hs3]), trivial⟩ ?_ ?_
    · exact trivial
    intro V a w e hS hq
    have hsrc := row_cellsAt (hS.st.own (rowF flat_Row 38 (some ⟨g, 0, none⟩) c0 p0) (by simp [List.set])) (i * (flat_Row).sz) ((p0.drop i).flatMap (flat_Row).enc).length
    rw [← hY, List.take_length] at hsrc
    have hmin2 : Nat.min (p0.length - i) (p0.length + p2.length - (i + p2.length)) = p0.length - i := Nat.min_eq_left (by omega)
    have hfit2 : (i + p2.length) * (flat_Row).sz + ((p0.drop i).flatMap (flat_Row).enc).length ≤ c5 * (flat_Row).sz := by rw [lY, ← Nat.add_mul]; exact Nat.mul_le_mul_right _ (by omega)
    refine r_bltS 8 rfl 0 (.row (some ⟨g2, 0, none⟩) c5 38 (flat_Row).sz c5 (spl (spl ((p0.take i).flatMap (flat_Row).enc ++ Z ++ T) (i * (flat_Row).sz) (p2.flatMap (flat_Row).enc)) ((i + p2.length) * (flat_Row).sz) ((p0.drop i).flatMap (flat_Row).enc))) (d := some 54) (b := .copy) (ts := #[25, 25]) (ty := 3) (vs := #[.slice (some ⟨g2, (i + p2.length) * (flat_Row).sz, none⟩) (p0.length + p2.length - (i + p2.length)) (c5 - (i + p2.length)), .slice (some ⟨g, i * (flat_Row).sz, none⟩) (p0.length - i) (c0 - i)]) hS (by kernel_rfl) rfl (fun hA => run_copyR (dT := 25) (sT := 25) (ty := 3) (inf := Try.t38) (by kernel_rfl) (by kernel_rfl) rfl hA (by rw [hmin2, lY]) hsrc hfit2 hY1) rfl (by simp [Asn.fp]) fun a w hS => ?_
    have hfin : (spl (spl ((p0.take i).flatMap (flat_Row).enc ++ Z ++ T) (i * (flat_Row).sz) (p2.flatMap (flat_Row).enc)) ((i + p2.length) * (flat_Row).sz) ((p0.drop i).flatMap (flat_Row).enc)).take ((p0.length + p2.length) * (flat_Row).sz) = r.flatMap (flat_Row).enc := by
      have := cells_new ((p0.take i).flatMap (flat_Row).enc) ((p0.drop i).flatMap (flat_Row).enc) (p2.flatMap (flat_Row).enc) Z T lZ
      rw [lX, lV, ← Nat.add_mul] at this
      rw [this, hre, List.take_left' (by rw [List.length_append, List.length_append, lX, lV, lY, ← Nat.add_mul, ← Nat.add_mul]; congr 1; omega)]
    replace hS := hS.same (B := rowF flat_Row 38 (some ⟨g2, 0, none⟩) c5 r) 0 rfl (fun hA => row_app_form hA hrl hc5 hfin) rfl (by simp [Asn.fp])
    refine wl_end ?_
    refine hK14 _ _ ?_
    refine k_seq (by kernel_rfl) fun K15 hK15 => ?_
    refine k_reg 2 (by kernel_rfl) ?_
    refine r_run 0 2 [6] [] hS rfl (L' := [(6, .slice (some ⟨g2, 0, none⟩) (p0.length + p2.length) c5)]) (As' := [rowF flat_Row 38 (some ⟨g2, 0, none⟩) c5 r, rowF flat_Row 38 (some ⟨g, 0, none⟩) c0 p0, rowF flat_Row 38 (some ⟨g3, 0, none⟩) c2 p2]) (ob := []) (by kernel_rfl) trivial fun a w hS => ?_
    refine wl_end ?_
    refine hK15 _ _ ?_
    refine k_ret (by kernel_rfl) ?_
    try simp only [Exit.then, Exit.inBlock]
    refine r_ret hS [.tmp 6] [] (xs := [.slice (some ⟨g2, 0, none⟩) (p0.length + p2.length) c5]) (ps := []) [0] [] rfl (by kernel_rfl) (fun hA => trivial) rfl (fun F up => trivial) ?_
    exact ⟨some ⟨g2, 0, none⟩, c5, by rw [hrl]; rfl, rfl, rfl⟩
  have hle : p0.length + p2.length ≤ c0 := by have := of_decide_eq_false hq3; omega
  refine k_skip (by kernel_rfl) ?_
  refine hK10 _ _ ?_
  refine k_seq (by kernel_rfl) fun K12 hK12 => ?_
  refine k_reg 6 (by kernel_rfl) ?_
  refine r_run 0 6 [0, 1, 2, 7] [.as 59 (.int .i64 ((p0.length + p2.length : Nat) : Int)), .as 60 (.slice (some ⟨g, 0, none⟩) (p0.length + p2.length) c0)] hS rfl (L' := [(0, .slice (some ⟨g, 0, none⟩) (p0.length + p2.length) c0), (1, .int .i64 i), (2, .slice (some ⟨g3, 0, none⟩) p2.length c2), (7, .int .i64 (p2.length : Int))]) (As' := [rowF flat_Row 38 (some ⟨g, 0, none⟩) c0 p0, rowF flat_Row 38 (some ⟨g3, 0, none⟩) c2 p2]) (ob := [fun _ => Value.int .i64 (IntKind.wrap .i64 ((p0.length : Int) + (p2.length : Int))) = .int .i64 ((p0.length + p2.length : Nat) : Int), fun _ => (0 : Int) ≤ 0 ∧ (0 : Int) ≤ ((p0.length + p2.length : Nat) : Int) ∧ ((p0.length + p2.length : Nat) : Int) ≤ (c0 : Int), fun _ => Value.slice (slA (some ⟨g, 0, none⟩) 0 c0 (flat_Row).sz) (p0.length + p2.length) c0 = .slice (some ⟨g, 0, none⟩) (p0.length + p2.length) c0]) (by kernel_rfl) ⟨Bx.c (by rw [hw]), Bx.c ⟨by omega, by omega, by omega⟩, Bx.c (by rw [slA_zero]), trivial⟩ fun a w hS => ?_
  obtain ⟨ds, hd1, hd2, hd3, hd4⟩ := row_full (hS.st.own (rowF flat_Row 38 (some ⟨g, 0, none⟩) c0 p0) (by simp))
  replace hS := hS.same (B := .row (some ⟨g, 0, none⟩) c0 38 (flat_Row).sz c0 ds) 0 rfl (fun _ => hd4) rfl (by simp [Asn.fp])
  refine wl_end ?_
  refine hK12 _ _ ?_
  refine k_seq (by kernel_rfl) fun K13 hK13 => ?_
  refine k_seq (by kernel_rfl) fun K14 hK14 => ?_
  refine k_reg 8 (by kernel_rfl) ?_
  have hs2 : slA (some (⟨g, 0, none⟩ : Addr)) (i + p2.length) c0 (flat_Row).sz = some ⟨g, (i + p2.length) * (flat_Row).sz, none⟩ := by
    unfold slA; rw [if_neg (by omega)]; simp only [Option.map_some, addr_add0]
  have hs3 : slA (some (⟨g, 0, none⟩ : Addr)) i c0 (flat_Row).sz = some ⟨g, i * (flat_Row).sz, none⟩ := by
    unfold slA; rw [if_neg (by omega)]; simp only [Option.map_some, addr_add0]
  refine r_run 0 6 [0, 1, 2, 7, 61, 66] [.as 65 (.int .i64 ((i + p2.length : Nat) : Int)), .as 66 (.slice (some ⟨g, (i + p2.length) * (flat_Row).sz, none⟩) (p0.length + p2.length - (i + p2.length)) (c0 - (i + p2.length)))] hS rfl (L' := [(0, .slice (some ⟨g, 0, none⟩) (p0.length + p2.length) c0), (1, .int .i64 i), (2, .slice (some ⟨g3, 0, none⟩) p2.length c2), (7, .int .i64 (p2.length : Int)), (61, .slice (some ⟨g3, 0, none⟩) p2.length c2), (66, .slice (some ⟨g, (i + p2.length) * (flat_Row).sz, none⟩) (p0.length + p2.length - (i + p2.length)) (c0 - (i + p2.length)))]) (As' := [.row (some ⟨g, 0, none⟩) c0 38 (flat_Row).sz c0 ds, rowF flat_Row 38 (some ⟨g3, 0, none⟩) c2 p2]) (ob := [fun _ => Value.int .i64 (IntKind.wrap .i64 ((i : Int) + (p2.length : Int))) = .int .i64 ((i + p2.length : Nat) : Int), fun _ => 0 ≤ ((i + p2.length : Nat) : Int) ∧ ((i + p2.length : Nat) : Int) ≤ ((p0.length + p2.length : Nat) : Int) ∧ ((p0.length + p2.length : Nat) : Int) ≤ (c0 : Int), fun _ => Value.slice (slA (some ⟨g, 0, none⟩) (i + p2.length) c0 (flat_Row).sz) (p0.length + p2.length - (i + p2.length)) (c0 - (i + p2.length)) = .slice (some ⟨g, (i + p2.length) * (flat_Row).sz, none⟩) (p0.length + p2.length - (i + p2.length)) (c0 - (i + p2.length))]) (by kernel_rfl) ⟨Bx.c (by rw [hw2]), Bx.c ⟨by omega, by omega, by omega⟩, Bx.c (by rw [hs2]), trivial⟩ fun a w hS => ?_
  have hne : g3 ≠ g := by
    have := (List.nodup_append.1 hS.st.nd).2.1
    simp [fps, Asn.fp] at this
    exact fun e => this e.symm
  have hA0 := row_shape (hS.st.own (.row (some ⟨g, 0, none⟩) c0 38 (flat_Row).sz c0 ds) (by simp))
  have hA1 := row_shape (hS.st.own (rowF flat_Row 38 (some ⟨g3, 0, none⟩) c2 p2) (by simp))
  have hcsz : c0 * (flat_Row).sz ≠ 0 := Nat.mul_ne_zero (by omega) (by omega)
  have hov : (callFunc 53 #[.slice (some ⟨g3, 0, none⟩) p2.length c2, .slice (some ⟨g, (i + p2.length) * (flat_Row).sz, none⟩) (p0.length + p2.length - (i + p2.length)) (c0 - (i + p2.length))]).run Try.prog w = .ok (.value (.bool false)) w := by
    rw [run_callFunc_extern Try.func53 (by kernel_rfl) (by kernel_rfl) (by kernel_rfl) (e := Extern.SlicesOverlaps.overlaps #[25, 25] #[4]) (by kernel_rfl),
      Lib.run_overlaps_apart w 25 4 38 (by kernel_rfl) (flat_Row).sz (fun w => by simp [sizeOf, run_info (show Try.prog.info? 38 = some Try.t38 from by kernel_rfl)]; kernel_rfl) ⟨g3, 0, none⟩ ⟨g, (i + p2.length) * (flat_Row).sz, none⟩ p2.length c2 _ _ hne _ _ _ _ hA1.1 hA0.1 hcsz (hA1.2 _) (hA1.2 _)]
    rfl
  refine r_ext 6 rfl (d := some 67) (g := 53) (args := #[.slice (some ⟨g3, 0, none⟩) p2.length c2, .slice (some ⟨g, (i + p2.length) * (flat_Row).sz, none⟩) (p0.length + p2.length - (i + p2.length)) (c0 - (i + p2.length))]) hS (by kernel_rfl) hov fun a hS => ?_
  refine r_run 7 1 [0, 1, 2, 7, 68] [] hS rfl (L' := [(0, .slice (some ⟨g, 0, none⟩) (p0.length + p2.length) c0), (1, .int .i64 i), (2, .slice (some ⟨g3, 0, none⟩) p2.length c2), (7, .int .i64 (p2.length : Int)), (68, .bool true)]) (As' := [.row (some ⟨g, 0, none⟩) c0 38 (flat_Row).sz c0 ds, rowF flat_Row 38 (some ⟨g3, 0, none⟩) c2 p2]) (ob := []) (by kernel_rfl) trivial fun a w hS => ?_
  refine wl_end ?_
  refine hK14 _ _ ?_
  refine k_cond true hS.has (by kernel_rfl) (by kernel_rfl) (by kernel_rfl) (fun _ => ?_) (fun hx => by cases hx)
  refine k_seq (by kernel_rfl) fun K15 hK15 => ?_
  obtain ⟨Z, hZ⟩ : ∃ Z, ds = (p0.take i).flatMap (flat_Row).enc ++ (p0.drop i).flatMap (flat_Row).enc ++ Z := ⟨ds.drop (p0.length * (flat_Row).sz), by rw [hXY]; conv => lhs; rw [← List.take_append_drop (p0.length * (flat_Row).sz) ds, hd1]⟩
  have lds : ds.length = c0 * (flat_Row).sz := hd2
  have lZ : (p2.flatMap (flat_Row).enc).length ≤ ((p0.drop i).flatMap (flat_Row).enc).length + Z.length := by
    have h1 := lds
    rw [hZ, List.length_append, List.length_append, lX, lY] at h1
    rw [lV, lY]
    have h2 := Nat.mul_le_mul_right (flat_Row).sz hle
    rw [Nat.add_mul] at h2
    have h3 : i * (flat_Row).sz + (p0.length - i) * (flat_Row).sz = p0.length * (flat_Row).sz := by rw [← Nat.add_mul]; congr 1; omega
    omega
  refine k_draw 8 9 [.val (.slice (some ⟨g, 0, none⟩) (p0.length + p2.length) c0), .val (.int .i64 i), .val (.int .i64 (p2.length : Int)), .val (.int .i64 ((i + p2.length : Nat) : Int)), .val (.slice (some ⟨g, (i + p2.length) * (flat_Row).sz, none⟩) (p0.length + p2.length - (i + p2.length)) (c0 - (i + p2.length))), .val (.slice (some ⟨g, 0, none⟩) (p0.length + p2.length) c0), .val (.int .i64 i), .val (.slice (some ⟨g, i * (flat_Row).sz, none⟩) (p0.length + p2.length - i) (c0 - i))] [] [(0, []), (1, []), (2, []), (3, [.as 72 (.int .i64 ((i + p2.length : Nat) : Int))]), (4, [.as 73 (.slice (some ⟨g, (i + p2.length) * (flat_Row).sz, none⟩) (p0.length + p2.length - (i + p2.length)) (c0 - (i + p2.length)))]), (5, []), (6, []), (7, [.as 76 (.slice (some ⟨g, i * (flat_Row).sz, none⟩) (p0.length + p2.length - i) (c0 - i))])] [] (ob := [fun _ => Value.int .i64 (IntKind.wrap .i64 ((i : Int) + (p2.length : Int))) = .int .i64 ((i + p2.length : Nat) : Int), fun _ => 0 ≤ ((i + p2.length : Nat) : Int) ∧ ((i + p2.length : Nat) : Int) ≤ ((p0.length + p2.length : Nat) : Int) ∧ ((p0.length + p2.length : Nat) : Int) ≤ (c0 : Int), fun _ => Value.slice (slA (some ⟨g, 0, none⟩) (i + p2.length) c0 (flat_Row).sz) (p0.length + p2.length - (i + p2.length)) (c0 - (i + p2.length)) = .slice (some ⟨g, (i + p2.length) * (flat_Row).sz, none⟩) (p0.length + p2.length - (i + p2.length)) (c0 - (i + p2.length)), fun _ => 0 ≤ (i : Int) ∧ (i : Int) ≤ ((p0.length + p2.length : Nat) : Int) ∧ ((p0.length + p2.length : Nat) : Int) ≤ (c0 : Int), fun _ => Value.slice (slA (some ⟨g, 0, none⟩) i c0 (flat_Row).sz) (p0.length + p2.length - i) (c0 - i) = .slice (some ⟨g, i * (flat_Row).sz, none⟩) (p0.length + p2.length - i) (c0 - i)]) (by kernel_rfl) (by kernel_rfl) hS (by kernel_rfl) (fun F N0 => by kernel_rfl) (by kernel_rfl) (by kernel_rfl) (by kernel_rfl) (by kernel_rfl) ⟨Bx.c (by rw [hw2]), Bx.c ⟨by omega, by omega, by omega⟩, Bx.c (by rw [hs2]), Bx.c ⟨by omega, by omega, by omega⟩, Bx.c (by rw [hs3]), trivial⟩ ?_ ?_
  · exact trivial
  intro V a w e hS hq
  have hsrc := row_cellsAt (hS.st.own (.row (some ⟨g, 0, none⟩) c0 38 (flat_Row).sz c0 ds) (by simp)) (i * (flat_Row).sz) ((p0.drop i).flatMap (flat_Row).enc).length
  have hdsd : (ds.drop (i * (flat_Row).sz)).take ((p0.drop i).flatMap (flat_Row).enc).length = (p0.drop i).flatMap (flat_Row).enc := by
    rw [hZ, List.append_assoc, ← lX, List.drop_left, List.take_left]
  rw [hdsd] at hsrc
  have hmin2 : Nat.min (p0.length + p2.length - i) (p0.length + p2.length - (i + p2.length)) = p0.length - i := by
    rw [show p0.length + p2.length - (i + p2.length) = p0.length - i from by omega]; exact Nat.min_eq_right (by omega)
  have hfit2 : (i + p2.length) * (flat_Row).sz + ((p0.drop i).flatMap (flat_Row).enc).length ≤ c0 * (flat_Row).sz := by rw [lY, ← Nat.add_mul]; exact Nat.mul_le_mul_right _ (by omega)
  refine r_bltS 8 rfl 0 (.row (some ⟨g, 0, none⟩) c0 38 (flat_Row).sz c0 (spl ds ((i + p2.length) * (flat_Row).sz) ((p0.drop i).flatMap (flat_Row).enc))) (d := some 77) (b := .copy) (ts := #[25, 25]) (ty := 3) (vs := #[.slice (some ⟨g, (i + p2.length) * (flat_Row).sz, none⟩) (p0.length + p2.length - (i + p2.length)) (c0 - (i + p2.length)), .slice (some ⟨g, i * (flat_Row).sz, none⟩) (p0.length + p2.length - i) (c0 - i)]) hS (by kernel_rfl) rfl (fun hA => run_copyR (dT := 25) (sT := 25) (ty := 3) (inf := Try.t38) (by kernel_rfl) (by kernel_rfl) rfl hA (by rw [hmin2, lY]) hsrc hfit2 hY1) rfl (by simp [Asn.fp]) fun a w hS => ?_
  refine wl_end ?_
  refine hK15 _ _ ?_
  refine k_seq (by kernel_rfl) fun K16 hK16 => ?_
  refine k_reg 5 (by kernel_rfl) ?_
  refine r_run 0 4 [0, 80, 81] [.as 80 (.slice (some ⟨g, i * (flat_Row).sz, none⟩) (p0.length + p2.length - i) (c0 - i))] hS rfl (L' := [(0, .slice (some ⟨g, 0, none⟩) (p0.length + p2.length) c0), (80, .slice (some ⟨g, i * (flat_Row).sz, none⟩) (p0.length + p2.length - i) (c0 - i)), (81, .slice (some ⟨g3, 0, none⟩) p2.length c2)]) (As' := [.row (some ⟨g, 0, none⟩) c0 38 (flat_Row).sz c0 (spl ds ((i + p2.length) * (flat_Row).sz) ((p0.drop i).flatMap (flat_Row).enc)), rowF flat_Row 38 (some ⟨g3, 0, none⟩) c2 p2]) (ob := [fun _ => 0 ≤ (i : Int) ∧ (i : Int) ≤ ((p0.length + p2.length : Nat) : Int) ∧ ((p0.length + p2.length : Nat) : Int) ≤ (c0 : Int), fun _ => Value.slice (slA (some ⟨g, 0, none⟩) i c0 (flat_Row).sz) (p0.length + p2.length - i) (c0 - i) = .slice (some ⟨g, i * (flat_Row).sz, none⟩) (p0.length + p2.length - i) (c0 - i)]) (by kernel_rfl) ⟨Bx.c ⟨by omega, by omega, by omega⟩, Bx.c (by rw [hs3]), trivial⟩ fun a w hS => ?_
  have hsrc := row_cellsAt (hS.st.own (rowF flat_Row 38 (some ⟨g3, 0, none⟩) c2 p2) (by simp)) 0 (p2.flatMap (flat_Row).enc).length
  rw [List.drop_zero, List.take_length] at hsrc
  have hfit1 : i * (flat_Row).sz + (p2.flatMap (flat_Row).enc).length ≤ c0 * (flat_Row).sz := by rw [lV, ← Nat.add_mul]; exact Nat.mul_le_mul_right _ (by omega)
  have hmin1 : Nat.min p2.length (p0.length + p2.length - i) = p2.length := Nat.min_eq_left (by omega)
  refine r_bltS 4 rfl 0 (.row (some ⟨g, 0, none⟩) c0 38 (flat_Row).sz c0 (spl (spl ds ((i + p2.length) * (flat_Row).sz) ((p0.drop i).flatMap (flat_Row).enc)) (i * (flat_Row).sz) (p2.flatMap (flat_Row).enc))) (d := some 82) (b := .copy) (ts := #[25, 25]) (ty := 3) (vs := #[.slice (some ⟨g, i * (flat_Row).sz, none⟩) (p0.length + p2.length - i) (c0 - i), .slice (some ⟨g3, 0, none⟩) p2.length c2]) hS (by kernel_rfl) rfl (fun hA => run_copyR (dT := 25) (sT := 25) (ty := 3) (inf := Try.t38) (by kernel_rfl) (by kernel_rfl) rfl hA (by rw [hmin1, lV]) hsrc hfit1 hV1) rfl (by simp [Asn.fp]) fun a w hS => ?_
  have hfin : (spl (spl ds ((i + p2.length) * (flat_Row).sz) ((p0.drop i).flatMap (flat_Row).enc)) (i * (flat_Row).sz) (p2.flatMap (flat_Row).enc)).take ((p0.length + p2.length) * (flat_Row).sz) = r.flatMap (flat_Row).enc := by
    have := cells_ins ((p0.take i).flatMap (flat_Row).enc) ((p0.drop i).flatMap (flat_Row).enc) (p2.flatMap (flat_Row).enc) Z lZ
    rw [lX, lV, ← Nat.add_mul, ← hZ] at this
    rw [this, hre, List.take_left' (by rw [List.length_append, List.length_append, lX, lV, lY, ← Nat.add_mul, ← Nat.add_mul]; congr 1; omega)]
  replace hS := hS.same (B := rowF flat_Row 38 (some ⟨g, 0, none⟩) c0 r) 0 rfl (fun hA => row_app_form hA hrl hle hfin) rfl (by simp [Asn.fp])
  refine wl_end ?_
  refine hK16 _ _ ?_
  refine k_seq (by kernel_rfl) fun K17 hK17 => ?_
  refine k_reg 2 (by kernel_rfl) ?_
  refine r_run 0 2 [6] [] hS rfl (L' := [(6, .slice (some ⟨g, 0, none⟩) (p0.length + p2.length) c0)]) (As' := [rowF flat_Row 38 (some ⟨g, 0, none⟩) c0 r, rowF flat_Row 38 (some ⟨g3, 0, none⟩) c2 p2]) (ob := []) (by kernel_rfl) trivial fun a w hS => ?_
  refine wl_end ?_
  refine hK17 _ _ ?_
  refine k_ret (by kernel_rfl) ?_
  try simp only [Exit.then, Exit.inBlock]
  refine r_ret hS [.tmp 6] [] (xs := [.slice (some ⟨g, 0, none⟩) (p0.length + p2.length) c0]) (ps := []) [0] [] rfl (by kernel_rfl) (fun hA => trivial) rfl (fun F up => trivial) ?_
  exact ⟨some ⟨g, 0, none⟩, c0, by rw [hrl]; rfl, rfl, rfl⟩


/-! bursary row.Put -/
def row_Put (n : Nat) (p0 : Schema) (p1 : (List Row)) (p2 : Row) : Option ((List Row) × Int) :=
  (row_CheckList n p0 p1).bind fun y6 =>
  cond (y6 != 0)
    (some (([] : List Row), y6))
    ((row_CheckRow n p0 p2).bind fun y13 =>
    cond (y13 != 0)
      (some (([] : List Row), y13))
      ((row_place n p1 p2.key).bind fun y19 =>
      (slices_Clone_Row n p1).bind fun y21 =>
      cond y19.2
        ((idx y21 y19.1).bind fun x28 =>
        (put y21 y19.1 p2).bind fun l29 =>
        some (l29, 0))
        (cond ((p1.length : Int) == 60)
          (some (([] : List Row), 6))
          ((slices_Insert_Row n y21 y19.1 ([p2] : List Row)).bind fun y36 =>
          some (y36, 0)))))
theorem row_Put_ok {a0_tables : Option Addr} {c0_tables : Nat} {a1 : Option Addr} {c1 : Nat} (n : Nat) (p0 : Schema) (p1 : (List Row)) (p2 : Row) (r : ((List Row) × Int))  (h : row_Put n p0 p1 p2 = some r) :
    Meets Try.prog 22 #[Value.agg #[.slice a0_tables p0.tables.length c0_tables], .slice a1 p1.length c1, Value.agg #[.int .i64 p2.key.table, .int .u16 p2.key.id, .int .i64 p2.val, .string p2.note]] [] [RSf flat_Bounds a0_tables c0_tables p0.tables, RSf flat_Row a1 c1 p1] fun v A P => ∃ (a0 : Option Addr) (c0 : Nat), v = .tuple #[.slice a0 r.1.length c0, .int .i64 r.2] ∧ A = [rowF flat_Row 38 a0 c0 r.1] ∧ P = [] := by
  unfold row_Put at h
  refine meets_enter 50 Try.func22 Try.call22 rfl (by kernel_rfl) (by simp) fun C a w hS => ?_
  refine k_seq (by kernel_rfl) fun K1 hK1 => ?_
  refine k_reg 4 (by kernel_rfl) ?_
  refine r_run2 0 4 [1, 3, 5] [] hS rfl (L' := fun b2 b3 => [(1, .slice a1 p1.length c1), (3, .pointer (some ⟨b2, 0, none⟩)), (5, .pointer (some ⟨b3, 0, none⟩))]) (As' := fun b2 b3 => [.box b3 [.int .i64 p2.key.table, .int .u16 p2.key.id, .int .i64 p2.val, .string p2.note], .box b2 [.slice a0_tables p0.tables.length c0_tables]]) (ob := fun b2 b3 => []) (fun b2 b3 => by kernel_rfl) (fun b2 b3 => trivial) fun b2 b3 a w hS => ?_
  refine wl_end ?_
  refine hK1 _ _ ?_
  refine k_seq (by kernel_rfl) fun K4 hK4 => ?_
  refine k_seq (by kernel_rfl) fun K5 hK5 => ?_
  refine k_reg 4 (by kernel_rfl) ?_
  refine r_run 0 2 [1, 3, 5, 13, 14] [.own 1 0] hS rfl (L' := [(1, .slice a1 p1.length c1), (3, .pointer (some ⟨b2, 0, none⟩)), (5, .pointer (some ⟨b3, 0, none⟩)), (13, Value.agg #[.slice a0_tables p0.tables.length c0_tables]), (14, .slice a1 p1.length c1)]) (As' := [.box b3 [.int .i64 p2.key.table, .int .u16 p2.key.id, .int .i64 p2.val, .string p2.note], .box b2 [.slice a0_tables p0.tables.length c0_tables]]) (ob := [fun _ => (⟨b2, 0, none⟩ : Addr) = (⟨b2, 0, none⟩ : Addr).add 0]) (by kernel_rfl) (⟨Bx.c rfl, trivial⟩) fun a w hS => ?_
  obtain ⟨y6, hy6, h⟩ := bindS h
  refine r_call 2 rfl (d := some 15) (g := 13) (args := #[Value.agg #[.slice a0_tables p0.tables.length c0_tables], .slice a1 p1.length c1]) [] hS (by kernel_rfl) rfl (row_CheckList_ok n p0 p1 y6 hy6) (fun F up => ⟨up (hS.p 0 rfl), up (hS.p 1 rfl), trivial⟩) ?_
  rintro v A P a w ⟨rfl, rfl, rfl⟩ hS
  refine r_run 3 1 [1, 3, 5, 8] [] hS rfl (L' := [(1, .slice a1 p1.length c1), (3, .pointer (some ⟨b2, 0, none⟩)), (5, .pointer (some ⟨b3, 0, none⟩)), (8, .int .i64 y6)]) (As' := [.box b3 [.int .i64 p2.key.table, .int .u16 p2.key.id, .int .i64 p2.val, .string p2.note], .box b2 [.slice a0_tables p0.tables.length c0_tables]]) (ob := []) (by kernel_rfl) (trivial) fun a w hS => ?_
  refine wl_end ?_
  refine hK5 _ _ ?_
  refine k_seq (by kernel_rfl) fun K7 hK7 => ?_
  refine k_reg 2 (by kernel_rfl) ?_
  refine r_run 0 2 [1, 3, 5, 8, 17] [] hS rfl (L' := [(1, .slice a1 p1.length c1), (3, .pointer (some ⟨b2, 0, none⟩)), (5, .pointer (some ⟨b3, 0, none⟩)), (8, .int .i64 y6), (17, .bool (y6 != 0))]) (As' := [.box b3 [.int .i64 p2.key.table, .int .u16 p2.key.id, .int .i64 p2.val, .string p2.note], .box b2 [.slice a0_tables p0.tables.length c0_tables]]) (ob := []) (by kernel_rfl) (trivial) fun a w hS => ?_
  refine wl_end ?_
  refine hK7 _ _ ?_
  refine k_cond (y6 != 0) hS.has (by kernel_rfl) (by kernel_rfl) (by kernel_rfl) (fun hb8 => ?_) (fun hb8 => ?_)
  · replace h := ctrue hb8 h
    refine k_seq (by kernel_rfl) fun K9 hK9 => ?_
    refine k_reg 3 (by kernel_rfl) ?_
    refine r_run 0 3 [6, 7] [] hS rfl (L' := [(6, .slice none 0 0), (7, .int .i64 y6)]) (As' := [.box b3 [.int .i64 p2.key.table, .int .u16 p2.key.id, .int .i64 p2.val, .string p2.note], .box b2 [.slice a0_tables p0.tables.length c0_tables]]) (ob := []) (by kernel_rfl) (trivial) fun a w hS => ?_
    refine wl_end ?_
    refine hK9 _ _ ?_
    refine k_ret (by kernel_rfl) ?_
    replace hS := hS.nilrow (e := 38) (sz := 4)
    obtain rfl := someI h
    try simp only [Exit.then, Exit.inBlock]
    refine r_ret hS [.tmp 6, .tmp 7] [] (xs := [.slice none ([] : List Row).length 0, .int .i64 y6]) (ps := []) [0] [] rfl (by kernel_rfl) (fun hA => trivial) rfl (fun F up => trivial) ?_
    exact ⟨none, 0, rfl, rfl, rfl⟩
  · replace h := cfalse hb8 h
    refine k_skip (by kernel_rfl) ?_
    refine hK4 _ _ ?_
    refine k_seq (by kernel_rfl) fun K11 hK11 => ?_
    refine k_seq (by kernel_rfl) fun K12 hK12 => ?_
    refine k_reg 4 (by kernel_rfl) ?_
    refine r_run 0 2 [1, 5, 19, 20] [.own 1 0, .own 0 0] hS rfl (L' := [(1, .slice a1 p1.length c1), (5, .pointer (some ⟨b3, 0, none⟩)), (19, Value.agg #[.slice a0_tables p0.tables.length c0_tables]), (20, Value.agg #[.int .i64 p2.key.table, .int .u16 p2.key.id, .int .i64 p2.val, .string p2.note])]) (As' := [.box b3 [.int .i64 p2.key.table, .int .u16 p2.key.id, .int .i64 p2.val, .string p2.note], .box b2 [.slice a0_tables p0.tables.length c0_tables]]) (ob := [fun _ => (⟨b2, 0, none⟩ : Addr) = (⟨b2, 0, none⟩ : Addr).add 0, fun _ => (⟨b3, 0, none⟩ : Addr) = (⟨b3, 0, none⟩ : Addr).add 0]) (by kernel_rfl) (⟨Bx.c rfl, Bx.c rfl, trivial⟩) fun a w hS => ?_
    obtain ⟨y13, hy13, h⟩ := bindS h
    refine r_call 2 rfl (d := some 21) (g := 15) (args := #[Value.agg #[.slice a0_tables p0.tables.length c0_tables], Value.agg #[.int .i64 p2.key.table, .int .u16 p2.key.id, .int .i64 p2.val, .string p2.note]]) [] hS (by kernel_rfl) rfl (row_CheckRow_ok n p0 p2 y13 hy13) (fun F up => ⟨up (hS.p 0 rfl), trivial⟩) ?_
    rintro v A P a w ⟨rfl, rfl, rfl⟩ hS
    refine r_run 3 1 [1, 5, 9] [] hS rfl (L' := [(1, .slice a1 p1.length c1), (5, .pointer (some ⟨b3, 0, none⟩)), (9, .int .i64 y13)]) (As' := [.box b3 [.int .i64 p2.key.table, .int .u16 p2.key.id, .int .i64 p2.val, .string p2.note], .box b2 [.slice a0_tables p0.tables.length c0_tables]]) (ob := []) (by kernel_rfl) (trivial) fun a w hS => ?_
    refine wl_end ?_
    refine hK12 _ _ ?_
    refine k_seq (by kernel_rfl) fun K14 hK14 => ?_
    refine k_reg 2 (by kernel_rfl) ?_
    refine r_run 0 2 [1, 5, 9, 23] [] hS rfl (L' := [(1, .slice a1 p1.length c1), (5, .pointer (some ⟨b3, 0, none⟩)), (9, .int .i64 y13), (23, .bool (y13 != 0))]) (As' := [.box b3 [.int .i64 p2.key.table, .int .u16 p2.key.id, .int .i64 p2.val, .string p2.note], .box b2 [.slice a0_tables p0.tables.length c0_tables]]) (ob := []) (by kernel_rfl) (trivial) fun a w hS => ?_
    refine wl_end ?_
    refine hK14 _ _ ?_
    refine k_cond (y13 != 0) hS.has (by kernel_rfl) (by kernel_rfl) (by kernel_rfl) (fun hb15 => ?_) (fun hb15 => ?_)
    · replace h := ctrue hb15 h
      refine k_seq (by kernel_rfl) fun K16 hK16 => ?_
      refine k_reg 3 (by kernel_rfl) ?_
      refine r_run 0 3 [6, 7] [] hS rfl (L' := [(6, .slice none 0 0), (7, .int .i64 y13)]) (As' := [.box b3 [.int .i64 p2.key.table, .int .u16 p2.key.id, .int .i64 p2.val, .string p2.note], .box b2 [.slice a0_tables p0.tables.length c0_tables]]) (ob := []) (by kernel_rfl) (trivial) fun a w hS => ?_
      refine wl_end ?_
      refine hK16 _ _ ?_
      refine k_ret (by kernel_rfl) ?_
      replace hS := hS.nilrow (e := 38) (sz := 4)
      obtain rfl := someI h
      try simp only [Exit.then, Exit.inBlock]
      refine r_ret hS [.tmp 6, .tmp 7] [] (xs := [.slice none ([] : List Row).length 0, .int .i64 y13]) (ps := []) [0] [] rfl (by kernel_rfl) (fun hA => trivial) rfl (fun F up => trivial) ?_
      exact ⟨none, 0, rfl, rfl, rfl⟩
    · replace h := cfalse hb15 h
      refine k_skip (by kernel_rfl) ?_
      refine hK11 _ _ ?_
      refine k_seq (by kernel_rfl) fun K18 hK18 => ?_
      refine k_reg 9 (by kernel_rfl) ?_
      refine r_run 0 3 [1, 5, 26, 28] [.own 0 0] hS rfl (L' := [(1, .slice a1 p1.length c1), (5, .pointer (some ⟨b3, 0, none⟩)), (26, .slice a1 p1.length c1), (28, Value.agg #[.int .i64 p2.key.table, .int .u16 p2.key.id])]) (As' := [.box b3 [.int .i64 p2.key.table, .int .u16 p2.key.id, .int .i64 p2.val, .string p2.note], .box b2 [.slice a0_tables p0.tables.length c0_tables]]) (ob := [fun _ => (⟨b3, 0, none⟩ : Addr) = (⟨b3, 0, none⟩ : Addr).add 0]) (by kernel_rfl) (⟨Bx.c rfl, trivial⟩) fun a w hS => ?_
      obtain ⟨y19, hy19, h⟩ := bindS h
      refine r_call 3 rfl (d := some 29) (g := 42) (args := #[.slice a1 p1.length c1, Value.agg #[.int .i64 p2.key.table, .int .u16 p2.key.id]]) [] hS (by kernel_rfl) rfl (row_place_ok n p1 p2.key y19 hy19) (fun F up => ⟨up (hS.p 1 rfl), trivial⟩) ?_
      rintro v A P a w ⟨rfl, rfl, rfl⟩ hS
      refine r_run 4 5 [1, 5, 10, 11] [] hS rfl (L' := [(1, .slice a1 p1.length c1), (5, .pointer (some ⟨b3, 0, none⟩)), (10, .int .i64 y19.1), (11, .bool y19.2)]) (As' := [.box b3 [.int .i64 p2.key.table, .int .u16 p2.key.id, .int .i64 p2.val, .string p2.note], .box b2 [.slice a0_tables p0.tables.length c0_tables]]) (ob := []) (by kernel_rfl) (trivial) fun a w hS => ?_
      refine wl_end ?_
      refine hK18 _ _ ?_
      refine k_seq (by kernel_rfl) fun K20 hK20 => ?_
      refine k_reg 3 (by kernel_rfl) ?_
      refine r_run 0 1 [1, 5, 10, 11, 32] [] hS rfl (L' := [(1, .slice a1 p1.length c1), (5, .pointer (some ⟨b3, 0, none⟩)), (10, .int .i64 y19.1), (11, .bool y19.2), (32, .slice a1 p1.length c1)]) (As' := [.box b3 [.int .i64 p2.key.table, .int .u16 p2.key.id, .int .i64 p2.val, .string p2.note], .box b2 [.slice a0_tables p0.tables.length c0_tables]]) (ob := []) (by kernel_rfl) (trivial) fun a w hS => ?_
      obtain ⟨y21, hy21, h⟩ := bindS h
      refine r_call 1 rfl (d := some 33) (g := 43) (args := #[.slice a1 p1.length c1]) [] hS (by kernel_rfl) rfl (slices_Clone_Row_ok n p1 y21 hy21) (fun F up => ⟨up (hS.p 1 rfl), trivial⟩) ?_
      rintro v A P a w ⟨a22, c23, rfl, rfl, rfl⟩ hS
      refine r_run 2 1 [1, 5, 10, 11, 12] [] hS rfl (L' := [(1, .slice a1 p1.length c1), (5, .pointer (some ⟨b3, 0, none⟩)), (10, .int .i64 y19.1), (11, .bool y19.2), (12, .slice a22 y21.length c23)]) (As' := [rowF flat_Row 38 a22 c23 y21, .box b3 [.int .i64 p2.key.table, .int .u16 p2.key.id, .int .i64 p2.val, .string p2.note], .box b2 [.slice a0_tables p0.tables.length c0_tables]]) (ob := []) (by kernel_rfl) (trivial) fun a w hS => ?_
      refine wl_end ?_
      refine hK20 _ _ ?_
      refine k_seq (by kernel_rfl) fun K25 hK25 => ?_
      refine k_blk (by kernel_rfl) ?_
      refine k_seq (by kernel_rfl) fun K26 hK26 => ?_
      refine k_reg 2 (by kernel_rfl) ?_
      refine r_run 0 2 [1, 5, 10, 12, 39] [] hS rfl (L' := [(1, .slice a1 p1.length c1), (5, .pointer (some ⟨b3, 0, none⟩)), (10, .int .i64 y19.1), (12, .slice a22 y21.length c23), (39, .bool y19.2)]) (As' := [rowF flat_Row 38 a22 c23 y21, .box b3 [.int .i64 p2.key.table, .int .u16 p2.key.id, .int .i64 p2.val, .string p2.note], .box b2 [.slice a0_tables p0.tables.length c0_tables]]) (ob := []) (by kernel_rfl) (trivial) fun a w hS => ?_
      refine wl_end ?_
      refine hK26 _ _ ?_
      refine k_cond y19.2 hS.has (by kernel_rfl) (by kernel_rfl) (by kernel_rfl) (fun hb27 => ?_) (fun hb27 => ?_)
      · replace h := ctrue hb27 h
        refine k_reg 5 (by kernel_rfl) ?_
        obtain ⟨x28, hx28, h⟩ := bindS h
        have ix28 := rowInb (F := flat_Row) hS 0 rfl hx28
        obtain ⟨l29, hl29, h⟩ := bindS h
        refine r_run 0 5 [12] [.own 1 0, .put 0 (.row a22 c23 38 (flat_Row).sz y21.length (l29.flatMap flat_Row.enc))] hS rfl (L' := [(12, .slice a22 y21.length c23)]) (As' := [.row a22 c23 38 (flat_Row).sz y21.length (l29.flatMap flat_Row.enc), .box b3 [.int .i64 p2.key.table, .int .u16 p2.key.id, .int .i64 p2.val, .string p2.note], .box b2 [.slice a0_tables p0.tables.length c0_tables]]) (ob := [fun _ => (⟨b3, 0, none⟩ : Addr) = (⟨b3, 0, none⟩ : Addr).add 0, fun _ => Inb a22 y21.length y19.1, fun _ => PutOk (rowF flat_Row 38 a22 c23 y21) (.row a22 c23 38 (flat_Row).sz y21.length (l29.flatMap flat_Row.enc)) (Addr.add (baseOf a22) (Int.toNat y19.1 * 4)) [.int .i64 p2.key.table, .int .u16 p2.key.id, .int .i64 p2.val, .string p2.note]]) (by kernel_rfl) (⟨Bx.c rfl, Bx.c ix28, Bx.c (putRow hx28 hl29 rfl), trivial⟩) fun a w hS => ?_
        rw [(put_some hl29).2.2.2] at hS
        refine wl_end ?_
        refine hK25 _ _ ?_
        refine k_seq (by kernel_rfl) fun K30 hK30 => ?_
        refine k_reg 3 (by kernel_rfl) ?_
        refine r_run 0 3 [6, 7] [] hS rfl (L' := [(6, .slice a22 l29.length c23), (7, .int .i64 0)]) (As' := [rowF flat_Row 38 a22 c23 l29, .box b3 [.int .i64 p2.key.table, .int .u16 p2.key.id, .int .i64 p2.val, .string p2.note], .box b2 [.slice a0_tables p0.tables.length c0_tables]]) (ob := []) (by kernel_rfl) (trivial) fun a w hS => ?_
        refine wl_end ?_
        refine hK30 _ _ ?_
        refine k_ret (by kernel_rfl) ?_
        obtain rfl := someI h
        try simp only [Exit.then, Exit.inBlock]
        refine r_ret hS [.tmp 6, .tmp 7] [] (xs := [.slice a22 l29.length c23, .int .i64 0]) (ps := []) [0] [] rfl (by kernel_rfl) (fun hA => trivial) rfl (fun F up => trivial) ?_
        exact ⟨a22, c23, rfl, rfl, rfl⟩
      · replace h := cfalse hb27 h
        refine k_seq (by kernel_rfl) fun K31 hK31 => ?_
        refine k_reg 4 (by kernel_rfl) ?_
        refine r_run 0 4 [5, 10, 12, 45] [] hS rfl (L' := [(5, .pointer (some ⟨b3, 0, none⟩)), (10, .int .i64 y19.1), (12, .slice a22 y21.length c23), (45, .bool ((p1.length : Int) == 60))]) (As' := [rowF flat_Row 38 a22 c23 y21, .box b3 [.int .i64 p2.key.table, .int .u16 p2.key.id, .int .i64 p2.val, .string p2.note], .box b2 [.slice a0_tables p0.tables.length c0_tables]]) (ob := []) (by kernel_rfl) (trivial) fun a w hS => ?_
        refine wl_end ?_
        refine hK31 _ _ ?_
        refine k_cond ((p1.length : Int) == 60) hS.has (by kernel_rfl) (by kernel_rfl) (by kernel_rfl) (fun hb32 => ?_) (fun hb32 => ?_)
        · replace h := ctrue hb32 h
          refine k_seq (by kernel_rfl) fun K33 hK33 => ?_
          refine k_reg 2 (by kernel_rfl) ?_
          refine r_run 0 2 [6, 7] [] hS rfl (L' := [(6, .slice none 0 0), (7, .int .i64 6)]) (As' := [rowF flat_Row 38 a22 c23 y21, .box b3 [.int .i64 p2.key.table, .int .u16 p2.key.id, .int .i64 p2.val, .string p2.note], .box b2 [.slice a0_tables p0.tables.length c0_tables]]) (ob := []) (by kernel_rfl) (trivial) fun a w hS => ?_
          refine wl_end ?_
          refine hK33 _ _ ?_
          refine k_ret (by kernel_rfl) ?_
          replace hS := hS.nilrow (e := 38) (sz := 4)
          obtain rfl := someI h
          try simp only [Exit.then, Exit.inBlock]
          refine r_ret hS [.tmp 6, .tmp 7] [] (xs := [.slice none ([] : List Row).length 0, .int .i64 6]) (ps := []) [0] [] rfl (by kernel_rfl) (fun hA => trivial) rfl (fun F up => trivial) ?_
          exact ⟨none, 0, rfl, rfl, rfl⟩
        · replace h := cfalse hb32 h
          refine k_reg 6 (by kernel_rfl) ?_
          refine r_run1 0 4 [34, 35, 37] [.own 1 0] hS rfl (L' := fun b35 => [(34, .slice a22 y21.length c23), (35, .int .i64 y19.1), (37, .slice (some ⟨b35, 0, none⟩) ([p2] : List Row).length 1)]) (As' := fun b35 => [rowF flat_Row 38 (some ⟨b35, 0, none⟩) 1 ([p2] : List Row), rowF flat_Row 38 a22 c23 y21, .box b3 [.int .i64 p2.key.table, .int .u16 p2.key.id, .int .i64 p2.val, .string p2.note], .box b2 [.slice a0_tables p0.tables.length c0_tables]]) (ob := fun b35 => [fun _ => (⟨b3, 0, none⟩ : Addr) = (⟨b3, 0, none⟩ : Addr).add 0]) (fun b35 => by kernel_rfl) (fun b35 => ⟨Bx.c rfl, trivial⟩) fun b35 a w hS => ?_
          obtain ⟨y36, hy36, h⟩ := bindS h
          refine r_call 4 rfl (d := some 38) (g := 44) (args := #[.slice a22 y21.length c23, .int .i64 y19.1, .slice (some ⟨b35, 0, none⟩) ([p2] : List Row).length 1]) [1, 0] hS (by kernel_rfl) rfl (slices_Insert_Row_ok n y21 y19.1 ([p2] : List Row) y36 hy36) (fun F up => trivial) ?_
          rintro v A P a w ⟨a37, c38, rfl, rfl, rfl⟩ hS
          refine r_run 5 1 [12] [] hS rfl (L' := [(12, .slice a37 y36.length c38)]) (As' := [rowF flat_Row 38 a37 c38 y36, .box b3 [.int .i64 p2.key.table, .int .u16 p2.key.id, .int .i64 p2.val, .string p2.note], .box b2 [.slice a0_tables p0.tables.length c0_tables]]) (ob := []) (by kernel_rfl) (trivial) fun a w hS => ?_
          refine wl_end ?_
          refine hK25 _ _ ?_
          refine k_seq (by kernel_rfl) fun K40 hK40 => ?_
          refine k_reg 3 (by kernel_rfl) ?_
          refine r_run 0 3 [6, 7] [] hS rfl (L' := [(6, .slice a37 y36.length c38), (7, .int .i64 0)]) (As' := [rowF flat_Row 38 a37 c38 y36, .box b3 [.int .i64 p2.key.table, .int .u16 p2.key.id, .int .i64 p2.val, .string p2.note], .box b2 [.slice a0_tables p0.tables.length c0_tables]]) (ob := []) (by kernel_rfl) (trivial) fun a w hS => ?_
          refine wl_end ?_
          refine hK40 _ _ ?_
          refine k_ret (by kernel_rfl) ?_
          obtain rfl := someI h
          try simp only [Exit.then, Exit.inBlock]
          refine r_ret hS [.tmp 6, .tmp 7] [] (xs := [.slice a37 y36.length c38, .int .i64 0]) (ps := []) [0] [] rfl (by kernel_rfl) (fun hA => trivial) rfl (fun F up => trivial) ?_
          exact ⟨a37, c38, rfl, rfl, rfl⟩

/-! bursary row.Find 1 -/
def row_Find_1 (n : Nat) (p0 : Row) (p1 : Key) : Option Bool :=
  some (Key.eqb p0.key p1)
theorem row_Find_1_ok {A1 : Addr} (n : Nat) (p0 : Row) (p1 : Key) (r : Bool)  (h : row_Find_1 n p0 p1 = some r) :
    Meets Try.prog 47 #[Value.agg #[.int .i64 p0.key.table, .int .u16 p0.key.id, .int .i64 p0.val, .string p0.note], .pointer (some A1)] [] [Cel A1 [.int .i64 p1.table, .int .u16 p1.id]] fun v A P => v = .bool r ∧ A = [] ∧ P = [] := by
  unfold row_Find_1 at h
  refine meets_enter 8 Try.func47 Try.call47 rfl (by kernel_rfl) (by simp) fun C a w hS => ?_
  refine k_seq (by kernel_rfl) fun K1 hK1 => ?_
  refine k_reg 2 (by kernel_rfl) ?_
  refine r_run1 0 2 [1, 2] [] hS rfl (L' := fun b2 => [(1, .pointer (some A1)), (2, .pointer (some ⟨b2, 0, none⟩))]) (As' := fun b2 => [.box b2 [.int .i64 p0.key.table, .int .u16 p0.key.id, .int .i64 p0.val, .string p0.note]]) (ob := fun b2 => []) (fun b2 => by kernel_rfl) (fun b2 => trivial) fun b2 a w hS => ?_
  refine wl_end ?_
  refine hK1 _ _ ?_
  refine k_seq (by kernel_rfl) fun K3 hK3 => ?_
  refine k_reg 5 (by kernel_rfl) ?_
  refine r_run 0 5 [3] [.own 0 0, .ext [.int .i64 p1.table, .int .u16 p1.id], .val (.bool (Key.eqb p0.key p1))] hS rfl (L' := [(3, .bool (Key.eqb p0.key p1))]) (As' := [.box b2 [.int .i64 p0.key.table, .int .u16 p0.key.id, .int .i64 p0.val, .string p0.note]]) (ob := [fun _ => (⟨b2, 0, none⟩ : Addr) = (⟨b2, 0, none⟩ : Addr).add 0, Cel A1 [.int .i64 p1.table, .int .u16 p1.id], fun w => EqOk Try.prog .eql 28 (Value.agg #[.int .i64 p0.key.table, .int .u16 p0.key.id]) (Value.agg #[.int .i64 p1.table, .int .u16 p1.id]) (.bool (Key.eqb p0.key p1)) w]) (by kernel_rfl) (⟨Bx.c rfl, (hS.p 0 rfl), fun w _ => Key_eql p0.key.table p0.key.id p1.table p1.id w, trivial⟩) fun a w hS => ?_
  refine wl_end ?_
  refine hK3 _ _ ?_
  refine k_ret (by kernel_rfl) ?_
  obtain rfl := someI h
  try simp only [Exit.then, Exit.inBlock]
  refine r_ret hS [.tmp 3] [] (xs := [.bool (Key.eqb p0.key p1)]) (ps := []) [] [] rfl (by kernel_rfl) (fun hA => trivial) rfl (fun F up => trivial) ?_
  exact ⟨rfl, rfl, rfl⟩

/-! slices.IndexFunc   bursary api.Row bursary api.Row  -/
def slices_IndexFunc_Row_l1 (n : Nat) (p0 : (List Row)) (p1 : (Row → Option Bool)) : Nat → Int → Option Int
  | 0, _ => none
  | m5 + 1, v4 =>
    cond (decide (v4 < (p0.length : Int)))
      ((idx p0 v4).bind fun x13 =>
      (p1 x13).bind fun y14 =>
      cond y14
        (some v4)
        (slices_IndexFunc_Row_l1 n p0 p1 m5 (IntKind.wrap .i64 (v4 + 1))))
      (some (-1))
def slices_IndexFunc_Row (n : Nat) (p0 : (List Row)) (p1 : (Row → Option Bool)) : Option Int :=
  slices_IndexFunc_Row_l1 n p0 p1 n 0
theorem slices_IndexFunc_Row_ok {a0 : Option Addr} {c0 : Nat} {g1 : FuncId} {k1 : Array Value} {F1 : List (World → Prop)} (n : Nat) (p0 : (List Row)) (p1 : (Row → Option Bool)) (r : Int) (hf1 : ∀ (x0 : Row) (y : Bool), p1 x0 = some y → Meets Try.prog g1 ([] ++ [Value.agg #[.int .i64 x0.key.table, .int .u16 x0.key.id, .int .i64 x0.val, .string x0.note]] ++ k1.toList).toArray [] F1 fun v A P => v = .bool y ∧ A = [] ∧ P = []) (h : slices_IndexFunc_Row n p0 p1 = some r) :
    Meets Try.prog 46 #[.slice a0 p0.length c0, .func (.func g1) #[] k1] [] ([RSf flat_Row a0 c0 p0] ++ F1) fun v A P => v = .int .i64 r ∧ A = [] ∧ P = [] := by
  unfold slices_IndexFunc_Row at h
  refine meets_enter 19 Try.func46 Try.call46 rfl (by kernel_rfl) (by simp) fun C a w hS => ?_
  refine k_seq (by kernel_rfl) fun K1 hK1 => ?_
  refine k_reg 1 (by kernel_rfl) ?_
  refine r_run 0 1 [0, 1] [] hS rfl (L' := [(0, .slice a0 p0.length c0), (1, .func (.func g1) #[] k1)]) (As' := []) (ob := []) (by kernel_rfl) (trivial) fun a w hS => ?_
  refine wl_end ?_
  refine hK1 _ _ ?_
  refine k_seq (by kernel_rfl) fun K2 hK2 => ?_
  refine k_seq (by kernel_rfl) fun K3 hK3 => ?_
  refine k_reg 3 (by kernel_rfl) ?_
  refine r_run 0 3 [0, 1, 7, 8] [] hS rfl (L' := [(0, .slice a0 p0.length c0), (1, .func (.func g1) #[] k1), (7, .int .i64 (p0.length : Int)), (8, .int .i64 0)]) (As' := []) (ob := []) (by kernel_rfl) (trivial) fun a w hS => ?_
  refine wl_end ?_
  refine hK3 _ _ ?_
  refine k_blk (by kernel_rfl) ?_
  refine k_loop (by kernel_rfl) (fun m5 a w => ∃ (v4 : Int), slices_IndexFunc_Row_l1 n p0 p1 m5 v4 = some r ∧ Sy C 19 a w [(0, .slice a0 p0.length c0), (1, .func (.func g1) #[] k1), (7, .int .i64 (p0.length : Int)), (8, .int .i64 v4)] [] ([RSf flat_Row a0 c0 p0] ++ F1)) n ⟨0, h, (hS.got [0, 1, 7, 8] [] [] 0 (by kernel_rfl) (by kernel_rfl) (by kernel_rfl))⟩ ?_
  rintro m5 a w ⟨v4, h, hS⟩ K6 hK6
  cases m5 with
  | zero => exact (noneS h).elim
  | succ m5 =>
    unfold slices_IndexFunc_Row_l1 at h
    refine k_seq (by kernel_rfl) fun K7 hK7 => ?_
    refine k_reg 1 (by kernel_rfl) ?_
    refine r_run 0 1 [0, 1, 7, 8, 9] [] hS rfl (L' := [(0, .slice a0 p0.length c0), (1, .func (.func g1) #[] k1), (7, .int .i64 (p0.length : Int)), (8, .int .i64 v4), (9, .bool (decide (v4 < (p0.length : Int))))]) (As' := []) (ob := []) (by kernel_rfl) (trivial) fun a w hS => ?_
    refine wl_end ?_
    refine hK7 _ _ ?_
    refine k_seq (by kernel_rfl) fun K8 hK8 => ?_
    refine k_cond (decide (v4 < (p0.length : Int))) hS.has (by kernel_rfl) (by kernel_rfl) (by kernel_rfl) (fun hb9 => ?_) (fun hb9 => ?_)
    · replace h := ctrue hb9 h
      refine k_skip (by kernel_rfl) ?_
      refine hK8 _ _ ?_
      refine k_seq (by kernel_rfl) fun K10 hK10 => ?_
      refine k_blk (by kernel_rfl) ?_
      refine k_seq (by kernel_rfl) fun K11 hK11 => ?_
      refine k_reg 2 (by kernel_rfl) ?_
      refine r_run 0 2 [0, 1, 5, 7, 8] [] hS rfl (L' := [(0, .slice a0 p0.length c0), (1, .func (.func g1) #[] k1), (5, .int .i64 v4), (7, .int .i64 (p0.length : Int)), (8, .int .i64 v4)]) (As' := []) (ob := []) (by kernel_rfl) (trivial) fun a w hS => ?_
      refine wl_end ?_
      refine hK11 _ _ ?_
      refine k_seq (by kernel_rfl) fun K12 hK12 => ?_
      refine k_reg 6 (by kernel_rfl) ?_
      obtain ⟨x13, hx13, h⟩ := bindS h
      have ix13 := fidxB (F := flat_Row) (hS.p 0 rfl) hx13
      refine r_run 0 5 [0, 1, 5, 7, 8, 11, 15] [.ext [.int .i64 x13.key.table, .int .u16 x13.key.id, .int .i64 x13.val, .string x13.note]] hS rfl (L' := [(0, .slice a0 p0.length c0), (1, .func (.func g1) #[] k1), (5, .int .i64 v4), (7, .int .i64 (p0.length : Int)), (8, .int .i64 v4), (11, .func (.func g1) #[] k1), (15, Value.agg #[.int .i64 x13.key.table, .int .u16 x13.key.id, .int .i64 x13.val, .string x13.note])]) (As' := []) (ob := [fun _ => Inb a0 p0.length v4, Cel (Addr.add (baseOf a0) (Int.toNat v4 * 4)) [.int .i64 x13.key.table, .int .u16 x13.key.id, .int .i64 x13.val, .string x13.note]]) (by kernel_rfl) (⟨Bx.c ix13.1, ix13.2, trivial⟩) fun a w hS => ?_
      obtain ⟨y14, hy14, h⟩ := bindS h
      refine r_call 5 rfl (d := some 16) [] hS (by kernel_rfl) rfl (hf1 x13 y14 hy14) (fun F up => (AllB.up up (hS.tl 1 rfl))) ?_
      rintro v A P a w ⟨rfl, rfl, rfl⟩ hS
      refine wl_end ?_
      refine hK12 _ _ ?_
      refine k_cond y14 hS.has (by kernel_rfl) (by kernel_rfl) (by kernel_rfl) (fun hb15 => ?_) (fun hb15 => ?_)
      · replace h := ctrue hb15 h
        refine k_seq (by kernel_rfl) fun K16 hK16 => ?_
        refine k_reg 2 (by kernel_rfl) ?_
        refine r_run 0 2 [4] [] hS rfl (L' := [(4, .int .i64 v4)]) (As' := []) (ob := []) (by kernel_rfl) (trivial) fun a w hS => ?_
        refine wl_end ?_
        refine hK16 _ _ ?_
        refine k_ret (by kernel_rfl) ?_
        obtain rfl := someI h
        try simp only [Exit.then, Exit.inBlock]
        refine r_ret hS [.tmp 4] [] (xs := [.int .i64 v4]) (ps := []) [] [] rfl (by kernel_rfl) (fun hA => trivial) rfl (fun F up => trivial) ?_
        exact ⟨rfl, rfl, rfl⟩
      · replace h := cfalse hb15 h
        refine k_skip (by kernel_rfl) ?_
        refine hK10 _ _ ?_
        refine k_reg 2 (by kernel_rfl) ?_
        refine r_run 0 2 [0, 1, 7, 8] [] hS rfl (L' := [(0, .slice a0 p0.length c0), (1, .func (.func g1) #[] k1), (7, .int .i64 (p0.length : Int)), (8, .int .i64 (IntKind.wrap .i64 (v4 + 1)))]) (As' := []) (ob := []) (by kernel_rfl) (trivial) fun a w hS => ?_
        refine wl_end ?_
        exact hK6 m5 _ _ (Nat.lt_succ_self _) ⟨(IntKind.wrap .i64 (v4 + 1)), h, (hS.got [0, 1, 7, 8] [] [] 0 (by kernel_rfl) (by kernel_rfl) (by kernel_rfl))⟩
    · replace h := cfalse hb9 h
      refine k_exit 0 (by kernel_rfl) ?_
      refine hK2 _ _ ?_
      refine k_seq (by kernel_rfl) fun K17 hK17 => ?_
      refine k_reg 1 (by kernel_rfl) ?_
      refine r_run 0 1 [4] [] hS rfl (L' := [(4, .int .i64 (-1))]) (As' := []) (ob := []) (by kernel_rfl) (trivial) fun a w hS => ?_
      refine wl_end ?_
      refine hK17 _ _ ?_
      refine k_ret (by kernel_rfl) ?_
      obtain rfl := someI h
      try simp only [Exit.then, Exit.inBlock]
      refine r_ret hS [.tmp 4] [] (xs := [.int .i64 (-1)]) (ps := []) [] [] rfl (by kernel_rfl) (fun hA => trivial) rfl (fun F up => trivial) ?_
      exact ⟨rfl, rfl, rfl⟩

/-! bursary row.Find -/
def row_Find (n : Nat) (p0 : (List Row)) (p1 : Key) : Option (Int × Bool) :=
  (slices_IndexFunc_Row n p0 (fun x0 => row_Find_1 n x0 p1)).bind fun y4 =>
  some ((if 0 > y4 then 0 else y4), (decide (y4 ≥ 0)))
theorem row_Find_ok {a0 : Option Addr} {c0 : Nat} (n : Nat) (p0 : (List Row)) (p1 : Key) (r : (Int × Bool))  (h : row_Find n p0 p1 = some r) :
    Meets Try.prog 28 #[.slice a0 p0.length c0, Value.agg #[.int .i64 p1.table, .int .u16 p1.id]] [] [RSf flat_Row a0 c0 p0] fun v A P => v = .tuple #[.int .i64 r.1, .bool r.2] ∧ A = [] ∧ P = [] := by
  unfold row_Find at h
  refine meets_enter 14 Try.func28 Try.call28 rfl (by kernel_rfl) (by simp) fun C a w hS => ?_
  refine k_seq (by kernel_rfl) fun K1 hK1 => ?_
  refine k_reg 3 (by kernel_rfl) ?_
  refine r_run1 0 3 [0, 3] [] hS rfl (L' := fun b2 => [(0, .slice a0 p0.length c0), (3, .pointer (some ⟨b2, 0, none⟩))]) (As' := fun b2 => [.box b2 [.int .i64 p1.table, .int .u16 p1.id]]) (ob := fun b2 => []) (fun b2 => by kernel_rfl) (fun b2 => trivial) fun b2 a w hS => ?_
  refine wl_end ?_
  refine hK1 _ _ ?_
  refine k_seq (by kernel_rfl) fun K3 hK3 => ?_
  refine k_reg 4 (by kernel_rfl) ?_
  refine r_run 0 2 [7, 8] [] hS rfl (L' := [(7, .slice a0 p0.length c0), (8, .func (.func 47) #[] #[.pointer (some ⟨b2, 0, none⟩)])]) (As' := [.box b2 [.int .i64 p1.table, .int .u16 p1.id]]) (ob := []) (by kernel_rfl) (trivial) fun a w hS => ?_
  obtain ⟨y4, hy4, h⟩ := bindS h
  refine r_callX 2 rfl (d := some 9) (g := 46) (args := #[.slice a0 p0.length c0, .func (.func 47) #[] #[.pointer (some ⟨b2, 0, none⟩)]]) [] [0] hS (by kernel_rfl) rfl rfl (slices_IndexFunc_Row_ok (g1 := 47) (k1 := #[.pointer (some ⟨b2, 0, none⟩)]) (F1 := [Cel ⟨b2, 0, none⟩ [.int .i64 p1.table, .int .u16 p1.id]]) n p0 (fun x0 => row_Find_1 n x0 p1) y4 (fun x0 y h => row_Find_1_ok n _ _ y h) hy4) (fun F up le => ⟨up (hS.p 0 rfl), le 0 rfl _ (fun w h => Own.cells h), trivial⟩) ?_
  rintro v A P a w ⟨rfl, rfl, rfl⟩ hS
  refine r_run 3 1 [6] [] hS rfl (L' := [(6, .int .i64 y4)]) (As' := [.box b2 [.int .i64 p1.table, .int .u16 p1.id]]) (ob := []) (by kernel_rfl) (trivial) fun a w hS => ?_
  refine wl_end ?_
  refine hK3 _ _ ?_
  refine k_seq (by kernel_rfl) fun K5 hK5 => ?_
  refine k_reg 6 (by kernel_rfl) ?_
  refine r_run 0 6 [4, 5] [] hS rfl (L' := [(4, .int .i64 (if 0 > y4 then 0 else y4)), (5, .bool (decide (y4 ≥ 0)))]) (As' := [.box b2 [.int .i64 p1.table, .int .u16 p1.id]]) (ob := []) (by kernel_rfl) (trivial) fun a w hS => ?_
  refine wl_end ?_
  refine hK5 _ _ ?_
  refine k_ret (by kernel_rfl) ?_
  obtain rfl := someI h
  try simp only [Exit.then, Exit.inBlock]
  refine r_ret hS [.tmp 4, .tmp 5] [] (xs := [.int .i64 (if 0 > y4 then 0 else y4), .bool (decide (y4 ≥ 0))]) (ps := []) [] [] rfl (by kernel_rfl) (fun hA => trivial) rfl (fun F up => trivial) ?_
  exact ⟨rfl, rfl, rfl⟩

/-! bursary bursarylaw05.wakes -/
def law05_wakes_j1 (n : Nat)  (v19 : Bool) : Option Bool :=
  some v19
def law05_wakes (n : Nat)  : Option Bool :=
  (law05_two n).bind fun y3 =>
  (row_Put n y3 ([(Row.mk (Key.mk 0 1) 0 ByteArray.empty), (Row.mk (Key.mk 1 0) 0 ByteArray.empty)] : List Row) (Row.mk (Key.mk 0 2) 3 ByteArray.empty)).bind fun y8 =>
  (row_Find n y8.1 (Key.mk 1 0)).bind fun y13 =>
  cond ((((y8.2 == 0) && ((y8.1.length : Int) == 3)) && y13.2) && (y13.1 == 2))
    ((law05_two n).bind fun y21 =>
    (row_CheckRow n y21 (Row.mk (Key.mk 0 0) 11 ByteArray.empty)).bind fun y25 =>
    law05_wakes_j1 n (y25 == 152))
    (law05_wakes_j1 n false)
theorem law05_wakes_ok  (n : Nat)  (r : Bool)  (h : law05_wakes n  = some r) :
    Meets Try.prog 9 #[] [] [] fun v A P => v = .bool r ∧ A = [] ∧ P = [] := by
  unfold law05_wakes at h
  refine meets_enter 43 Try.func9 Try.call9 rfl (by kernel_rfl) (by simp) fun C a w hS => ?_
  refine k_seq (by kernel_rfl) fun K1 hK1 => ?_
  refine k_reg 1 (by kernel_rfl) ?_
  refine r_run 0 1 [] [] hS rfl (L' := []) (As' := []) (ob := []) (by kernel_rfl) (trivial) fun a w hS => ?_
  refine wl_end ?_
  refine hK1 _ _ ?_
  refine k_seq (by kernel_rfl) fun K2 hK2 => ?_
  refine k_reg 14 (by kernel_rfl) ?_
  obtain ⟨y3, hy3, h⟩ := bindS h
  refine r_call 0 rfl (d := some 6) (g := 33) (args := #[]) [] hS (by kernel_rfl) rfl (law05_two_ok n y3 hy3) (fun F up => trivial) ?_
  rintro v A P a w ⟨a4, c5, rfl, rfl, rfl⟩ hS
  refine r_run1 1 7 [6, 11, 13] [] hS rfl (L' := fun b7 => [(6, Value.agg #[.slice a4 y3.tables.length c5]), (11, .slice (some ⟨b7, 0, none⟩) ([(Row.mk (Key.mk 0 1) 0 ByteArray.empty), (Row.mk (Key.mk 1 0) 0 ByteArray.empty)] : List Row).length 2), (13, Value.agg #[.int .i64 0, .int .u16 2, .int .i64 3, .string ByteArray.empty])]) (As' := fun b7 => [rowF flat_Row 38 (some ⟨b7, 0, none⟩) 2 ([(Row.mk (Key.mk 0 1) 0 ByteArray.empty), (Row.mk (Key.mk 1 0) 0 ByteArray.empty)] : List Row), rowF flat_Bounds 61 a4 c5 y3.tables]) (ob := fun b7 => []) (fun b7 => by kernel_rfl) (fun b7 => trivial) fun b7 a w hS => ?_
  obtain ⟨y8, hy8, h⟩ := bindS h
  refine r_callX 8 rfl (d := some 14) (g := 22) (args := #[Value.agg #[.slice a4 y3.tables.length c5], .slice (some ⟨b7, 0, none⟩) ([(Row.mk (Key.mk 0 1) 0 ByteArray.empty), (Row.mk (Key.mk 1 0) 0 ByteArray.empty)] : List Row).length 2, Value.agg #[.int .i64 0, .int .u16 2, .int .i64 3, .string ByteArray.empty]]) [] [1, 0] hS (by kernel_rfl) rfl rfl (row_Put_ok n y3 ([(Row.mk (Key.mk 0 1) 0 ByteArray.empty), (Row.mk (Key.mk 1 0) 0 ByteArray.empty)] : List Row) (Row.mk (Key.mk 0 2) 3 ByteArray.empty) y8 hy8) (fun F up le => ⟨le 0 rfl _ (fun w h => rowRS h), le 1 rfl _ (fun w h => rowRS h), trivial⟩) ?_
  rintro v A P a w ⟨a9, c10, rfl, rfl, rfl⟩ hS
  refine r_run 9 5 [1, 2] [] hS rfl (L' := [(1, .slice a9 y8.1.length c10), (2, .int .i64 y8.2)]) (As' := [rowF flat_Row 38 a9 c10 y8.1, rowF flat_Row 38 (some ⟨b7, 0, none⟩) 2 ([(Row.mk (Key.mk 0 1) 0 ByteArray.empty), (Row.mk (Key.mk 1 0) 0 ByteArray.empty)] : List Row), rowF flat_Bounds 61 a4 c5 y3.tables]) (ob := []) (by kernel_rfl) (trivial) fun a w hS => ?_
  refine wl_end ?_
  refine hK2 _ _ ?_
  refine k_seq (by kernel_rfl) fun K12 hK12 => ?_
  refine k_reg 8 (by kernel_rfl) ?_
  refine r_run 0 2 [1, 2, 18, 19] [] hS rfl (L' := [(1, .slice a9 y8.1.length c10), (2, .int .i64 y8.2), (18, .slice a9 y8.1.length c10), (19, Value.agg #[.int .i64 1, .int .u16 0])]) (As' := [rowF flat_Row 38 a9 c10 y8.1, rowF flat_Row 38 (some ⟨b7, 0, none⟩) 2 ([(Row.mk (Key.mk 0 1) 0 ByteArray.empty), (Row.mk (Key.mk 1 0) 0 ByteArray.empty)] : List Row), rowF flat_Bounds 61 a4 c5 y3.tables]) (ob := []) (by kernel_rfl) (trivial) fun a w hS => ?_
  obtain ⟨y13, hy13, h⟩ := bindS h
  refine r_callX 2 rfl (d := some 20) (g := 28) (args := #[.slice a9 y8.1.length c10, Value.agg #[.int .i64 1, .int .u16 0]]) [] [0] hS (by kernel_rfl) rfl rfl (row_Find_ok n y8.1 (Key.mk 1 0) y13 hy13) (fun F up le => ⟨le 0 rfl _ (fun w h => rowRS h), trivial⟩) ?_
  rintro v A P a w ⟨rfl, rfl, rfl⟩ hS
  refine r_run 3 5 [1, 2, 3, 4] [] hS rfl (L' := [(1, .slice a9 y8.1.length c10), (2, .int .i64 y8.2), (3, .int .i64 y13.1), (4, .bool y13.2)]) (As' := [rowF flat_Row 38 a9 c10 y8.1, rowF flat_Row 38 (some ⟨b7, 0, none⟩) 2 ([(Row.mk (Key.mk 0 1) 0 ByteArray.empty), (Row.mk (Key.mk 1 0) 0 ByteArray.empty)] : List Row), rowF flat_Bounds 61 a4 c5 y3.tables]) (ob := []) (by kernel_rfl) (trivial) fun a w hS => ?_
  refine wl_end ?_
  refine hK12 _ _ ?_
  refine k_seq (by kernel_rfl) fun K14 hK14 => ?_
  refine k_reg 21 (by kernel_rfl) ?_
  refine r_run 0 3 [1, 3, 4, 25] [] hS rfl (L' := [(1, .slice a9 y8.1.length c10), (3, .int .i64 y13.1), (4, .bool y13.2), (25, .bool (y8.2 == 0))]) (As' := [rowF flat_Row 38 a9 c10 y8.1, rowF flat_Row 38 (some ⟨b7, 0, none⟩) 2 ([(Row.mk (Key.mk 0 1) 0 ByteArray.empty), (Row.mk (Key.mk 1 0) 0 ByteArray.empty)] : List Row), rowF flat_Bounds 61 a4 c5 y3.tables]) (ob := []) (by kernel_rfl) (trivial) fun a w hS => ?_
  refine wl_cut 7 rfl rfl fun K15 hK15 => ?_
  have JK15 : ∀ a w, Sy C 43 a w [(3, .int .i64 y13.1), (4, .bool y13.2), (29, .bool ((y8.2 == 0) && ((y8.1.length : Int) == 3)))] [rowF flat_Row 38 a9 c10 y8.1, rowF flat_Row 38 (some ⟨b7, 0, none⟩) 2 ([(Row.mk (Key.mk 0 1) 0 ByteArray.empty), (Row.mk (Key.mk 1 0) 0 ByteArray.empty)] : List Row), rowF flat_Bounds 61 a4 c5 y3.tables] [] → K15 a w := by
    intro a w hS
    refine hK15 _ _ ?_
    refine r_run 7 1 [3, 4, 30] [] hS rfl (L' := [(3, .int .i64 y13.1), (4, .bool y13.2), (30, .bool ((y8.2 == 0) && ((y8.1.length : Int) == 3)))]) (As' := [rowF flat_Row 38 a9 c10 y8.1, rowF flat_Row 38 (some ⟨b7, 0, none⟩) 2 ([(Row.mk (Key.mk 0 1) 0 ByteArray.empty), (Row.mk (Key.mk 1 0) 0 ByteArray.empty)] : List Row), rowF flat_Bounds 61 a4 c5 y3.tables]) (ob := []) (by kernel_rfl) (trivial) fun a w hS => ?_
    refine wl_cut 10 rfl rfl fun K16 hK16 => ?_
    have JK16 : ∀ a w, Sy C 43 a w [(3, .int .i64 y13.1), (32, .bool (((y8.2 == 0) && ((y8.1.length : Int) == 3)) && y13.2))] [rowF flat_Row 38 a9 c10 y8.1, rowF flat_Row 38 (some ⟨b7, 0, none⟩) 2 ([(Row.mk (Key.mk 0 1) 0 ByteArray.empty), (Row.mk (Key.mk 1 0) 0 ByteArray.empty)] : List Row), rowF flat_Bounds 61 a4 c5 y3.tables] [] → K16 a w := by
      intro a w hS
      refine hK16 _ _ ?_
      refine r_run 10 1 [3, 33] [] hS rfl (L' := [(3, .int .i64 y13.1), (33, .bool (((y8.2 == 0) && ((y8.1.length : Int) == 3)) && y13.2))]) (As' := [rowF flat_Row 38 a9 c10 y8.1, rowF flat_Row 38 (some ⟨b7, 0, none⟩) 2 ([(Row.mk (Key.mk 0 1) 0 ByteArray.empty), (Row.mk (Key.mk 1 0) 0 ByteArray.empty)] : List Row), rowF flat_Bounds 61 a4 c5 y3.tables]) (ob := []) (by kernel_rfl) (trivial) fun a w hS => ?_
      refine wl_cut 14 rfl rfl fun K17 hK17 => ?_
      have JK17 : ∀ a w, Sy C 43 a w [(36, .bool ((((y8.2 == 0) && ((y8.1.length : Int) == 3)) && y13.2) && (y13.1 == 2)))] [rowF flat_Row 38 a9 c10 y8.1, rowF flat_Row 38 (some ⟨b7, 0, none⟩) 2 ([(Row.mk (Key.mk 0 1) 0 ByteArray.empty), (Row.mk (Key.mk 1 0) 0 ByteArray.empty)] : List Row), rowF flat_Bounds 61 a4 c5 y3.tables] [] → K17 a w := by
        intro a w hS
        refine hK17 _ _ ?_
        refine r_run 14 1 [37] [] hS rfl (L' := [(37, .bool ((((y8.2 == 0) && ((y8.1.length : Int) == 3)) && y13.2) && (y13.1 == 2)))]) (As' := [rowF flat_Row 38 a9 c10 y8.1, rowF flat_Row 38 (some ⟨b7, 0, none⟩) 2 ([(Row.mk (Key.mk 0 1) 0 ByteArray.empty), (Row.mk (Key.mk 1 0) 0 ByteArray.empty)] : List Row), rowF flat_Bounds 61 a4 c5 y3.tables]) (ob := []) (by kernel_rfl) (trivial) fun a w hS => ?_
        refine wl_cut 20 rfl rfl fun K18 hK18 => ?_
        have JK18 : ∀ (v19 : Bool) a w, Sy C 43 a w [(42, .bool v19)] [rowF flat_Row 38 a9 c10 y8.1, rowF flat_Row 38 (some ⟨b7, 0, none⟩) 2 ([(Row.mk (Key.mk 0 1) 0 ByteArray.empty), (Row.mk (Key.mk 1 0) 0 ByteArray.empty)] : List Row), rowF flat_Bounds 61 a4 c5 y3.tables] [] → law05_wakes_j1 n v19 = some r → K18 a w := by
          intro v19 a w hS h
          unfold law05_wakes_j1 at h
          refine hK18 _ _ ?_
          refine r_run 20 1 [0] [] hS rfl (L' := [(0, .bool v19)]) (As' := [rowF flat_Row 38 a9 c10 y8.1, rowF flat_Row 38 (some ⟨b7, 0, none⟩) 2 ([(Row.mk (Key.mk 0 1) 0 ByteArray.empty), (Row.mk (Key.mk 1 0) 0 ByteArray.empty)] : List Row), rowF flat_Bounds 61 a4 c5 y3.tables]) (ob := []) (by kernel_rfl) (trivial) fun a w hS => ?_
          refine wl_end ?_
          refine hK14 _ _ ?_
          refine k_ret (by kernel_rfl) ?_
          obtain rfl := someI h
          try simp only [Exit.then, Exit.inBlock]
          refine r_ret hS [.tmp 0] [] (xs := [.bool v19]) (ps := []) [] [] rfl (by kernel_rfl) (fun hA => trivial) rfl (fun F up => trivial) ?_
          exact ⟨rfl, rfl, rfl⟩
        cases hb20 : ((((y8.2 == 0) && ((y8.1.length : Int) == 3)) && y13.2) && (y13.1 == 2))
        · replace hS := hS.env (L' := [(37, .bool false)]) (by rw [hb20])
          replace h := cfalse hb20 h
          refine r_run 15 5 [42] [] hS rfl (L' := [(42, .bool false)]) (As' := [rowF flat_Row 38 a9 c10 y8.1, rowF flat_Row 38 (some ⟨b7, 0, none⟩) 2 ([(Row.mk (Key.mk 0 1) 0 ByteArray.empty), (Row.mk (Key.mk 1 0) 0 ByteArray.empty)] : List Row), rowF flat_Bounds 61 a4 c5 y3.tables]) (ob := []) (by kernel_rfl) (trivial) fun a w hS => ?_
          refine wl_end ?_
          exact JK18 false _ _ (hS.got [42] [0, 0, 0] [] 0 (by kernel_rfl) (by kernel_rfl) (by kernel_rfl)) h
        · replace hS := hS.env (L' := [(37, .bool true)]) (by rw [hb20])
          replace h := ctrue hb20 h
          obtain ⟨y21, hy21, h⟩ := bindS h
          refine r_call 15 rfl (d := some 38) (g := 33) (args := #[]) [] hS (by kernel_rfl) rfl (law05_two_ok n y21 hy21) (fun F up => trivial) ?_
          rintro v A P a w ⟨a22, c23, rfl, rfl, rfl⟩ hS
          refine r_run 16 1 [37, 38, 39] [] hS rfl (L' := [(37, .bool true), (38, Value.agg #[.slice a22 y21.tables.length c23]), (39, Value.agg #[.int .i64 0, .int .u16 0, .int .i64 11, .string ByteArray.empty])]) (As' := [rowF flat_Bounds 61 a22 c23 y21.tables, rowF flat_Row 38 a9 c10 y8.1, rowF flat_Row 38 (some ⟨b7, 0, none⟩) 2 ([(Row.mk (Key.mk 0 1) 0 ByteArray.empty), (Row.mk (Key.mk 1 0) 0 ByteArray.empty)] : List Row), rowF flat_Bounds 61 a4 c5 y3.tables]) (ob := []) (by kernel_rfl) (trivial) fun a w hS => ?_
          obtain ⟨y25, hy25, h⟩ := bindS h
          refine r_callX 17 rfl (d := some 40) (g := 15) (args := #[Value.agg #[.slice a22 y21.tables.length c23], Value.agg #[.int .i64 0, .int .u16 0, .int .i64 11, .string ByteArray.empty]]) [] [0] hS (by kernel_rfl) rfl rfl (row_CheckRow_ok n y21 (Row.mk (Key.mk 0 0) 11 ByteArray.empty) y25 hy25) (fun F up le => ⟨le 0 rfl _ (fun w h => rowRS h), trivial⟩) ?_
          rintro v A P a w ⟨rfl, rfl, rfl⟩ hS
          refine r_run 18 2 [42] [] hS rfl (L' := [(42, .bool (y25 == 152))]) (As' := [rowF flat_Bounds 61 a22 c23 y21.tables, rowF flat_Row 38 a9 c10 y8.1, rowF flat_Row 38 (some ⟨b7, 0, none⟩) 2 ([(Row.mk (Key.mk 0 1) 0 ByteArray.empty), (Row.mk (Key.mk 1 0) 0 ByteArray.empty)] : List Row), rowF flat_Bounds 61 a4 c5 y3.tables]) (ob := []) (by kernel_rfl) (trivial) fun a w hS => ?_
          refine wl_end ?_
          exact JK18 (y25 == 152) _ _ (hS.got [42] [1, 1, 1] [] 0 (by kernel_rfl) (by kernel_rfl) (by kernel_rfl)) h
      cases hb26 : (((y8.2 == 0) && ((y8.1.length : Int) == 3)) && y13.2)
      · replace hS := hS.env (L' := [(3, .int .i64 y13.1), (33, .bool false)]) (by rw [hb26])
        refine r_run 11 3 [36] [] hS rfl (L' := [(36, .bool false)]) (As' := [rowF flat_Row 38 a9 c10 y8.1, rowF flat_Row 38 (some ⟨b7, 0, none⟩) 2 ([(Row.mk (Key.mk 0 1) 0 ByteArray.empty), (Row.mk (Key.mk 1 0) 0 ByteArray.empty)] : List Row), rowF flat_Bounds 61 a4 c5 y3.tables]) (ob := []) (by kernel_rfl) (trivial) fun a w hS => ?_
        refine wl_end ?_
        replace hS := hS.got [36] [0, 0, 0] [] 0 (L' := [(36, .bool false)]) (Bs := [rowF flat_Row 38 a9 c10 y8.1, rowF flat_Row 38 (some ⟨b7, 0, none⟩) 2 ([(Row.mk (Key.mk 0 1) 0 ByteArray.empty), (Row.mk (Key.mk 1 0) 0 ByteArray.empty)] : List Row), rowF flat_Bounds 61 a4 c5 y3.tables]) (Rs := []) (by kernel_rfl) (by kernel_rfl) (by kernel_rfl)
        exact JK17 _ _ (hS.env (by rw [hb26]; rfl))
      · replace hS := hS.env (L' := [(3, .int .i64 y13.1), (33, .bool true)]) (by rw [hb26])
        refine r_run 11 3 [36] [] hS rfl (L' := [(36, .bool (y13.1 == 2))]) (As' := [rowF flat_Row 38 a9 c10 y8.1, rowF flat_Row 38 (some ⟨b7, 0, none⟩) 2 ([(Row.mk (Key.mk 0 1) 0 ByteArray.empty), (Row.mk (Key.mk 1 0) 0 ByteArray.empty)] : List Row), rowF flat_Bounds 61 a4 c5 y3.tables]) (ob := []) (by kernel_rfl) (trivial) fun a w hS => ?_
        refine wl_end ?_
        replace hS := hS.got [36] [0, 0, 0] [] 0 (L' := [(36, .bool (y13.1 == 2))]) (Bs := [rowF flat_Row 38 a9 c10 y8.1, rowF flat_Row 38 (some ⟨b7, 0, none⟩) 2 ([(Row.mk (Key.mk 0 1) 0 ByteArray.empty), (Row.mk (Key.mk 1 0) 0 ByteArray.empty)] : List Row), rowF flat_Bounds 61 a4 c5 y3.tables]) (Rs := []) (by kernel_rfl) (by kernel_rfl) (by kernel_rfl)
        exact JK17 _ _ (hS.env (by rw [hb26]; rfl))
    cases hb27 : ((y8.2 == 0) && ((y8.1.length : Int) == 3))
    · replace hS := hS.env (L' := [(3, .int .i64 y13.1), (4, .bool y13.2), (30, .bool false)]) (by rw [hb27])
      refine r_run 8 2 [3, 32] [] hS rfl (L' := [(3, .int .i64 y13.1), (32, .bool false)]) (As' := [rowF flat_Row 38 a9 c10 y8.1, rowF flat_Row 38 (some ⟨b7, 0, none⟩) 2 ([(Row.mk (Key.mk 0 1) 0 ByteArray.empty), (Row.mk (Key.mk 1 0) 0 ByteArray.empty)] : List Row), rowF flat_Bounds 61 a4 c5 y3.tables]) (ob := []) (by kernel_rfl) (trivial) fun a w hS => ?_
      refine wl_end ?_
      replace hS := hS.got [3, 32] [0, 0, 0] [] 0 (L' := [(3, .int .i64 y13.1), (32, .bool false)]) (Bs := [rowF flat_Row 38 a9 c10 y8.1, rowF flat_Row 38 (some ⟨b7, 0, none⟩) 2 ([(Row.mk (Key.mk 0 1) 0 ByteArray.empty), (Row.mk (Key.mk 1 0) 0 ByteArray.empty)] : List Row), rowF flat_Bounds 61 a4 c5 y3.tables]) (Rs := []) (by kernel_rfl) (by kernel_rfl) (by kernel_rfl)
      exact JK16 _ _ (hS.env (by rw [hb27]; rfl))
    · replace hS := hS.env (L' := [(3, .int .i64 y13.1), (4, .bool y13.2), (30, .bool true)]) (by rw [hb27])
      refine r_run 8 2 [3, 32] [] hS rfl (L' := [(3, .int .i64 y13.1), (32, .bool y13.2)]) (As' := [rowF flat_Row 38 a9 c10 y8.1, rowF flat_Row 38 (some ⟨b7, 0, none⟩) 2 ([(Row.mk (Key.mk 0 1) 0 ByteArray.empty), (Row.mk (Key.mk 1 0) 0 ByteArray.empty)] : List Row), rowF flat_Bounds 61 a4 c5 y3.tables]) (ob := []) (by kernel_rfl) (trivial) fun a w hS => ?_
      refine wl_end ?_
      replace hS := hS.got [3, 32] [0, 0, 0] [] 0 (L' := [(3, .int .i64 y13.1), (32, .bool y13.2)]) (Bs := [rowF flat_Row 38 a9 c10 y8.1, rowF flat_Row 38 (some ⟨b7, 0, none⟩) 2 ([(Row.mk (Key.mk 0 1) 0 ByteArray.empty), (Row.mk (Key.mk 1 0) 0 ByteArray.empty)] : List Row), rowF flat_Bounds 61 a4 c5 y3.tables]) (Rs := []) (by kernel_rfl) (by kernel_rfl) (by kernel_rfl)
      exact JK16 _ _ (hS.env (by rw [hb27]; rfl))
  cases hb28 : (y8.2 == 0)
  · replace hS := hS.env (L' := [(1, .slice a9 y8.1.length c10), (3, .int .i64 y13.1), (4, .bool y13.2), (25, .bool false)]) (by rw [hb28])
    refine r_run 3 4 [3, 4, 29] [] hS rfl (L' := [(3, .int .i64 y13.1), (4, .bool y13.2), (29, .bool false)]) (As' := [rowF flat_Row 38 a9 c10 y8.1, rowF flat_Row 38 (some ⟨b7, 0, none⟩) 2 ([(Row.mk (Key.mk 0 1) 0 ByteArray.empty), (Row.mk (Key.mk 1 0) 0 ByteArray.empty)] : List Row), rowF flat_Bounds 61 a4 c5 y3.tables]) (ob := []) (by kernel_rfl) (trivial) fun a w hS => ?_
    refine wl_end ?_
    replace hS := hS.got [3, 4, 29] [0, 0, 0] [] 0 (L' := [(3, .int .i64 y13.1), (4, .bool y13.2), (29, .bool false)]) (Bs := [rowF flat_Row 38 a9 c10 y8.1, rowF flat_Row 38 (some ⟨b7, 0, none⟩) 2 ([(Row.mk (Key.mk 0 1) 0 ByteArray.empty), (Row.mk (Key.mk 1 0) 0 ByteArray.empty)] : List Row), rowF flat_Bounds 61 a4 c5 y3.tables]) (Rs := []) (by kernel_rfl) (by kernel_rfl) (by kernel_rfl)
    exact JK15 _ _ (hS.env (by rw [hb28]; rfl))
  · replace hS := hS.env (L' := [(1, .slice a9 y8.1.length c10), (3, .int .i64 y13.1), (4, .bool y13.2), (25, .bool true)]) (by rw [hb28])
    refine r_run 3 4 [3, 4, 29] [] hS rfl (L' := [(3, .int .i64 y13.1), (4, .bool y13.2), (29, .bool ((y8.1.length : Int) == 3))]) (As' := [rowF flat_Row 38 a9 c10 y8.1, rowF flat_Row 38 (some ⟨b7, 0, none⟩) 2 ([(Row.mk (Key.mk 0 1) 0 ByteArray.empty), (Row.mk (Key.mk 1 0) 0 ByteArray.empty)] : List Row), rowF flat_Bounds 61 a4 c5 y3.tables]) (ob := []) (by kernel_rfl) (trivial) fun a w hS => ?_
    refine wl_end ?_
    replace hS := hS.got [3, 4, 29] [0, 0, 0] [] 0 (L' := [(3, .int .i64 y13.1), (4, .bool y13.2), (29, .bool ((y8.1.length : Int) == 3))]) (Bs := [rowF flat_Row 38 a9 c10 y8.1, rowF flat_Row 38 (some ⟨b7, 0, none⟩) 2 ([(Row.mk (Key.mk 0 1) 0 ByteArray.empty), (Row.mk (Key.mk 1 0) 0 ByteArray.empty)] : List Row), rowF flat_Bounds 61 a4 c5 y3.tables]) (Rs := []) (by kernel_rfl) (by kernel_rfl) (by kernel_rfl)
    exact JK15 _ _ (hS.env (by rw [hb28]; rfl))

end Go.Proofs.Ytlflbhhajnoelaa
