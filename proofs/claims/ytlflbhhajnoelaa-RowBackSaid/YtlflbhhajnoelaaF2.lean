/- Functions of the program: plain twins and walks, printed by program. -/
import Derived.Test.YtlflbhhajnoelaaTypes
import Derived.Test.YtlflbhhajnoelaaF1
namespace Go.Proofs.Ytlflbhhajnoelaa
open Go.Bur Go.RowKit
set_option linter.unusedVariables false
set_option linter.unusedSimpArgs false
set_option maxRecDepth 100000
/-! bursary bursarylaw05.over -/
def law05_over_l1 (n : Nat) (p1 : (List Row)) : Nat → Int → Option Bool
  | 0, _ => none
  | m11 + 1, v10 =>
    cond (decide (v10 < (p1.length : Int)))
      ((idx p1 v10).bind fun x18 =>
      cond (decide ((x18.note.size : Int) > 100))
        (some true)
        (law05_over_l1 n p1 m11 (IntKind.wrap .i64 (v10 + 1))))
      (some false)
def law05_over (n : Nat) (p0 : Schema) (p1 : (List Row)) : Option Bool :=
  cond ((decide ((p0.tables.length : Int) > 20)) || (decide ((p1.length : Int) > 100)))
    (some true)
    (law05_over_l1 n p1 n 0)
theorem law05_over_ok {a0_tables : Option Addr} {c0_tables : Nat} {a1 : Option Addr} {c1 : Nat} (n : Nat) (p0 : Schema) (p1 : (List Row)) (r : Bool)  (h : law05_over n p0 p1 = some r) :
    Meets Try.prog 10 #[Value.agg #[.slice a0_tables p0.tables.length c0_tables], .slice a1 p1.length c1] [] [RSf flat_Bounds a0_tables c0_tables p0.tables, RSf flat_Row a1 c1 p1] fun v A P => v = .bool r ∧ A = [] ∧ P = [] := by
  unfold law05_over at h
  refine meets_enter 27 Try.func10 Try.call10 rfl (by kernel_rfl) (by simp) fun C a w hS => ?_
  refine k_seq (by kernel_rfl) fun K1 hK1 => ?_
  refine k_reg 2 (by kernel_rfl) ?_
  refine r_run1 0 2 [1, 2] [] hS rfl (L' := fun b2 => [(1, .slice a1 p1.length c1), (2, .pointer (some ⟨b2, 0, none⟩))]) (As' := fun b2 => [.box b2 [.slice a0_tables p0.tables.length c0_tables]]) (ob := fun b2 => []) (fun b2 => by kernel_rfl) (fun b2 => trivial) fun b2 a w hS => ?_
  refine wl_end ?_
  refine hK1 _ _ ?_
  refine k_seq (by kernel_rfl) fun K3 hK3 => ?_
  refine k_seq (by kernel_rfl) fun K4 hK4 => ?_
  refine k_reg 9 (by kernel_rfl) ?_
  refine r_run 0 5 [1, 11] [.own 0 0] hS rfl (L' := [(1, .slice a1 p1.length c1), (11, .bool (decide ((p0.tables.length : Int) > 20)))]) (As' := [.box b2 [.slice a0_tables p0.tables.length c0_tables]]) (ob := [fun _ => (⟨b2, 0, none⟩ : Addr) = (⟨b2, 0, none⟩ : Addr).add 0]) (by kernel_rfl) (⟨Bx.c rfl, trivial⟩) fun a w hS => ?_
  refine wl_cut 9 rfl rfl fun K5 hK5 => ?_
  have JK5 : ∀ a w, Sy C 27 a w [(1, .slice a1 p1.length c1), (15, .bool ((decide ((p0.tables.length : Int) > 20)) || (decide ((p1.length : Int) > 100))))] [.box b2 [.slice a0_tables p0.tables.length c0_tables]] [RSf flat_Bounds a0_tables c0_tables p0.tables, RSf flat_Row a1 c1 p1] → K5 a w := by
    intro a w hS
    refine hK5 _ _ ?_
    refine wl_end ?_
    refine hK4 _ _ ?_
    refine k_cond ((decide ((p0.tables.length : Int) > 20)) || (decide ((p1.length : Int) > 100))) hS.has (by kernel_rfl) (by kernel_rfl) (by kernel_rfl) (fun hb6 => ?_) (fun hb6 => ?_)
    · replace h := ctrue hb6 h
      refine k_seq (by kernel_rfl) fun K7 hK7 => ?_
      refine k_reg 1 (by kernel_rfl) ?_
      refine r_run 0 1 [4] [] hS rfl (L' := [(4, .bool true)]) (As' := [.box b2 [.slice a0_tables p0.tables.length c0_tables]]) (ob := []) (by kernel_rfl) (trivial) fun a w hS => ?_
      refine wl_end ?_
      refine hK7 _ _ ?_
      refine k_ret (by kernel_rfl) ?_
      obtain rfl := someI h
      try simp only [Exit.then, Exit.inBlock]
      refine r_ret hS [.tmp 4] [] (xs := [.bool true]) (ps := []) [] [] rfl (by kernel_rfl) (fun hA => trivial) rfl (fun F up => trivial) ?_
      exact ⟨rfl, rfl, rfl⟩
    · replace h := cfalse hb6 h
      refine k_skip (by kernel_rfl) ?_
      refine hK3 _ _ ?_
      refine k_seq (by kernel_rfl) fun K8 hK8 => ?_
      refine k_seq (by kernel_rfl) fun K9 hK9 => ?_
      refine k_reg 3 (by kernel_rfl) ?_
      refine r_run 0 3 [16, 17, 18] [] hS rfl (L' := [(16, .slice a1 p1.length c1), (17, .int .i64 (p1.length : Int)), (18, .int .i64 0)]) (As' := [.box b2 [.slice a0_tables p0.tables.length c0_tables]]) (ob := []) (by kernel_rfl) (trivial) fun a w hS => ?_
      refine wl_end ?_
      refine hK9 _ _ ?_
      refine k_blk (by kernel_rfl) ?_
      refine k_loop (by kernel_rfl) (fun m11 a w => ∃ (v10 : Int), law05_over_l1 n p1 m11 v10 = some r ∧ Sy C 27 a w [(16, .slice a1 p1.length c1), (17, .int .i64 (p1.length : Int)), (18, .int .i64 v10)] [.box b2 [.slice a0_tables p0.tables.length c0_tables]] [RSf flat_Bounds a0_tables c0_tables p0.tables, RSf flat_Row a1 c1 p1]) n ⟨0, h, (hS.got [16, 17, 18] [0] [] 0 (by kernel_rfl) (by kernel_rfl) (by kernel_rfl))⟩ ?_
      rintro m11 a w ⟨v10, h, hS⟩ K12 hK12
      cases m11 with
      | zero => exact (noneS h).elim
      | succ m11 =>
        unfold law05_over_l1 at h
        refine k_seq (by kernel_rfl) fun K13 hK13 => ?_
        refine k_reg 1 (by kernel_rfl) ?_
        refine r_run 0 1 [16, 17, 18, 19] [] hS rfl (L' := [(16, .slice a1 p1.length c1), (17, .int .i64 (p1.length : Int)), (18, .int .i64 v10), (19, .bool (decide (v10 < (p1.length : Int))))]) (As' := [.box b2 [.slice a0_tables p0.tables.length c0_tables]]) (ob := []) (by kernel_rfl) (trivial) fun a w hS => ?_
        refine wl_end ?_
        refine hK13 _ _ ?_
        refine k_seq (by kernel_rfl) fun K14 hK14 => ?_
        refine k_cond (decide (v10 < (p1.length : Int))) hS.has (by kernel_rfl) (by kernel_rfl) (by kernel_rfl) (fun hb15 => ?_) (fun hb15 => ?_)
        · replace h := ctrue hb15 h
          refine k_skip (by kernel_rfl) ?_
          refine hK14 _ _ ?_
          refine k_seq (by kernel_rfl) fun K16 hK16 => ?_
          refine k_blk (by kernel_rfl) ?_
          refine k_seq (by kernel_rfl) fun K17 hK17 => ?_
          refine k_reg 4 (by kernel_rfl) ?_
          obtain ⟨x18, hx18, h⟩ := bindS h
          have ix18 := fidxB (F := flat_Row) (hS.p 1 rfl) hx18
          refine r_run1 0 4 [6, 16, 17, 18] [.ext [.int .i64 x18.key.table, .int .u16 x18.key.id, .int .i64 x18.val, .string x18.note], .own 0 0] hS rfl (L' := fun b19 => [(6, .pointer (some ⟨b19, 0, none⟩)), (16, .slice a1 p1.length c1), (17, .int .i64 (p1.length : Int)), (18, .int .i64 v10)]) (As' := fun b19 => [.box b19 [.int .i64 x18.key.table, .int .u16 x18.key.id, .int .i64 x18.val, .string x18.note], .box b2 [.slice a0_tables p0.tables.length c0_tables]]) (ob := fun b19 => [fun _ => Inb a1 p1.length v10, Cel (Addr.add (baseOf a1) (Int.toNat v10 * 4)) [.int .i64 x18.key.table, .int .u16 x18.key.id, .int .i64 x18.val, .string x18.note], fun _ => (⟨b19, 0, none⟩ : Addr) = (⟨b19, 0, none⟩ : Addr).add 0, fun _ => ∀ u ∈ ([.int .i64 x18.key.table, .int .u16 x18.key.id, .int .i64 x18.val, .string x18.note] : List Value), u.oneCell' = true]) (fun b19 => by kernel_rfl) (fun b19 => ⟨Bx.c ix18.1, ix18.2, Bx.c rfl, Bx.c (oneAll rfl), trivial⟩) fun b19 a w hS => ?_
          refine wl_end ?_
          refine hK17 _ _ ?_
          refine k_seq (by kernel_rfl) fun K20 hK20 => ?_
          refine k_reg 4 (by kernel_rfl) ?_
          refine r_run 0 4 [16, 17, 18, 25] [.own 0 3] hS rfl (L' := [(16, .slice a1 p1.length c1), (17, .int .i64 (p1.length : Int)), (18, .int .i64 v10), (25, .bool (decide ((x18.note.size : Int) > 100)))]) (As' := [.box b19 [.int .i64 x18.key.table, .int .u16 x18.key.id, .int .i64 x18.val, .string x18.note], .box b2 [.slice a0_tables p0.tables.length c0_tables]]) (ob := [fun _ => ⟨b19, 3, none⟩ = (⟨b19, 0, none⟩ : Addr).add 3]) (by kernel_rfl) (⟨Bx.c rfl, trivial⟩) fun a w hS => ?_
          refine wl_end ?_
          refine hK20 _ _ ?_
          refine k_cond (decide ((x18.note.size : Int) > 100)) hS.has (by kernel_rfl) (by kernel_rfl) (by kernel_rfl) (fun hb21 => ?_) (fun hb21 => ?_)
          · replace h := ctrue hb21 h
            refine k_seq (by kernel_rfl) fun K22 hK22 => ?_
            refine k_reg 1 (by kernel_rfl) ?_
            refine r_run 0 1 [4] [] hS rfl (L' := [(4, .bool true)]) (As' := [.box b19 [.int .i64 x18.key.table, .int .u16 x18.key.id, .int .i64 x18.val, .string x18.note], .box b2 [.slice a0_tables p0.tables.length c0_tables]]) (ob := []) (by kernel_rfl) (trivial) fun a w hS => ?_
            refine wl_end ?_
            refine hK22 _ _ ?_
            refine k_ret (by kernel_rfl) ?_
            obtain rfl := someI h
            try simp only [Exit.then, Exit.inBlock]
            refine r_ret hS [.tmp 4] [] (xs := [.bool true]) (ps := []) [] [] rfl (by kernel_rfl) (fun hA => trivial) rfl (fun F up => trivial) ?_
            exact ⟨rfl, rfl, rfl⟩
          · replace h := cfalse hb21 h
            refine k_skip (by kernel_rfl) ?_
            refine hK16 _ _ ?_
            refine k_reg 2 (by kernel_rfl) ?_
            refine r_run 0 2 [16, 17, 18] [] hS rfl (L' := [(16, .slice a1 p1.length c1), (17, .int .i64 (p1.length : Int)), (18, .int .i64 (IntKind.wrap .i64 (v10 + 1)))]) (As' := [.box b19 [.int .i64 x18.key.table, .int .u16 x18.key.id, .int .i64 x18.val, .string x18.note], .box b2 [.slice a0_tables p0.tables.length c0_tables]]) (ob := []) (by kernel_rfl) (trivial) fun a w hS => ?_
            refine wl_end ?_
            exact hK12 m11 _ _ (Nat.lt_succ_self _) ⟨(IntKind.wrap .i64 (v10 + 1)), h, (hS.got [16, 17, 18] [1] [] 0 (by kernel_rfl) (by kernel_rfl) (by kernel_rfl))⟩
        · replace h := cfalse hb15 h
          refine k_exit 0 (by kernel_rfl) ?_
          refine hK8 _ _ ?_
          refine k_seq (by kernel_rfl) fun K23 hK23 => ?_
          refine k_reg 1 (by kernel_rfl) ?_
          refine r_run 0 1 [4] [] hS rfl (L' := [(4, .bool false)]) (As' := [.box b2 [.slice a0_tables p0.tables.length c0_tables]]) (ob := []) (by kernel_rfl) (trivial) fun a w hS => ?_
          refine wl_end ?_
          refine hK23 _ _ ?_
          refine k_ret (by kernel_rfl) ?_
          obtain rfl := someI h
          try simp only [Exit.then, Exit.inBlock]
          refine r_ret hS [.tmp 4] [] (xs := [.bool false]) (ps := []) [] [] rfl (by kernel_rfl) (fun hA => trivial) rfl (fun F up => trivial) ?_
          exact ⟨rfl, rfl, rfl⟩
  cases hb24 : (decide ((p0.tables.length : Int) > 20))
  · replace hS := hS.env (L' := [(1, .slice a1 p1.length c1), (11, .bool false)]) (by rw [hb24])
    refine r_run 5 4 [1, 15] [] hS rfl (L' := [(1, .slice a1 p1.length c1), (15, .bool (decide ((p1.length : Int) > 100)))]) (As' := [.box b2 [.slice a0_tables p0.tables.length c0_tables]]) (ob := []) (by kernel_rfl) (trivial) fun a w hS => ?_
    refine wl_end ?_
    replace hS := hS.got [1, 15] [0] [] 0 (L' := [(1, .slice a1 p1.length c1), (15, .bool (decide ((p1.length : Int) > 100)))]) (Bs := [.box b2 [.slice a0_tables p0.tables.length c0_tables]]) (Rs := [RSf flat_Bounds a0_tables c0_tables p0.tables, RSf flat_Row a1 c1 p1]) (by kernel_rfl) (by kernel_rfl) (by kernel_rfl)
    exact JK5 _ _ (hS.env (by rw [hb24]; rfl))
  · replace hS := hS.env (L' := [(1, .slice a1 p1.length c1), (11, .bool true)]) (by rw [hb24])
    refine r_run 5 4 [1, 15] [] hS rfl (L' := [(1, .slice a1 p1.length c1), (15, .bool true)]) (As' := [.box b2 [.slice a0_tables p0.tables.length c0_tables]]) (ob := []) (by kernel_rfl) (trivial) fun a w hS => ?_
    refine wl_end ?_
    replace hS := hS.got [1, 15] [0] [] 0 (L' := [(1, .slice a1 p1.length c1), (15, .bool true)]) (Bs := [.box b2 [.slice a0_tables p0.tables.length c0_tables]]) (Rs := [RSf flat_Bounds a0_tables c0_tables p0.tables, RSf flat_Row a1 c1 p1]) (by kernel_rfl) (by kernel_rfl) (by kernel_rfl)
    exact JK5 _ _ (hS.env (by rw [hb24]; rfl))

/-! bursary bursaryref05.Right -/
def ref05_Right_l1 (n : Nat) (p0 : Schema) : Nat → Int → Option Bool
  | 0, _ => none
  | m11 + 1, v10 =>
    cond (decide (v10 < (p0.tables.length : Int)))
      ((idx p0.tables v10).bind fun x18 =>
      (idx p0.tables v10).bind fun x19 =>
      cond (decide (x18.min > x19.max))
        (some false)
        (ref05_Right_l1 n p0 m11 (IntKind.wrap .i64 (v10 + 1))))
      (some true)
def ref05_Right (n : Nat) (p0 : Schema) : Option Bool :=
  cond ((decide ((p0.tables.length : Int) < 1)) || (decide ((p0.tables.length : Int) > 3)))
    (some false)
    (ref05_Right_l1 n p0 n 0)
theorem ref05_Right_ok {a0_tables : Option Addr} {c0_tables : Nat} (n : Nat) (p0 : Schema) (r : Bool)  (h : ref05_Right n p0 = some r) :
    Meets Try.prog 14 #[Value.agg #[.slice a0_tables p0.tables.length c0_tables]] [] [RSf flat_Bounds a0_tables c0_tables p0.tables] fun v A P => v = .bool r ∧ A = [] ∧ P = [] := by
  unfold ref05_Right at h
  refine meets_enter 34 Try.func14 Try.call14 rfl (by kernel_rfl) (by simp) fun C a w hS => ?_
  refine k_seq (by kernel_rfl) fun K1 hK1 => ?_
  refine k_reg 2 (by kernel_rfl) ?_
  refine r_run1 0 2 [1] [] hS rfl (L' := fun b2 => [(1, .pointer (some ⟨b2, 0, none⟩))]) (As' := fun b2 => [.box b2 [.slice a0_tables p0.tables.length c0_tables]]) (ob := fun b2 => []) (fun b2 => by kernel_rfl) (fun b2 => trivial) fun b2 a w hS => ?_
  refine wl_end ?_
  refine hK1 _ _ ?_
  refine k_seq (by kernel_rfl) fun K3 hK3 => ?_
  refine k_seq (by kernel_rfl) fun K4 hK4 => ?_
  refine k_reg 10 (by kernel_rfl) ?_
  refine r_run 0 5 [1, 8] [.own 0 0] hS rfl (L' := [(1, .pointer (some ⟨b2, 0, none⟩)), (8, .bool (decide ((p0.tables.length : Int) < 1)))]) (As' := [.box b2 [.slice a0_tables p0.tables.length c0_tables]]) (ob := [fun _ => (⟨b2, 0, none⟩ : Addr) = (⟨b2, 0, none⟩ : Addr).add 0]) (by kernel_rfl) (⟨Bx.c rfl, trivial⟩) fun a w hS => ?_
  refine wl_cut 10 rfl rfl fun K5 hK5 => ?_
  have JK5 : ∀ a w, Sy C 34 a w [(1, .pointer (some ⟨b2, 0, none⟩)), (13, .bool ((decide ((p0.tables.length : Int) < 1)) || (decide ((p0.tables.length : Int) > 3))))] [.box b2 [.slice a0_tables p0.tables.length c0_tables]] [RSf flat_Bounds a0_tables c0_tables p0.tables] → K5 a w := by
    intro a w hS
    refine hK5 _ _ ?_
    refine wl_end ?_
    refine hK4 _ _ ?_
    refine k_cond ((decide ((p0.tables.length : Int) < 1)) || (decide ((p0.tables.length : Int) > 3))) hS.has (by kernel_rfl) (by kernel_rfl) (by kernel_rfl) (fun hb6 => ?_) (fun hb6 => ?_)
    · replace h := ctrue hb6 h
      refine k_seq (by kernel_rfl) fun K7 hK7 => ?_
      refine k_reg 1 (by kernel_rfl) ?_
      refine r_run 0 1 [2] [] hS rfl (L' := [(2, .bool false)]) (As' := [.box b2 [.slice a0_tables p0.tables.length c0_tables]]) (ob := []) (by kernel_rfl) (trivial) fun a w hS => ?_
      refine wl_end ?_
      refine hK7 _ _ ?_
      refine k_ret (by kernel_rfl) ?_
      obtain rfl := someI h
      try simp only [Exit.then, Exit.inBlock]
      refine r_ret hS [.tmp 2] [] (xs := [.bool false]) (ps := []) [] [] rfl (by kernel_rfl) (fun hA => trivial) rfl (fun F up => trivial) ?_
      exact ⟨rfl, rfl, rfl⟩
    · replace h := cfalse hb6 h
      refine k_skip (by kernel_rfl) ?_
      refine hK3 _ _ ?_
      refine k_seq (by kernel_rfl) fun K8 hK8 => ?_
      refine k_seq (by kernel_rfl) fun K9 hK9 => ?_
      refine k_reg 1 (by kernel_rfl) ?_
      refine r_run 0 1 [1, 3] [] hS rfl (L' := [(1, .pointer (some ⟨b2, 0, none⟩)), (3, .int .i64 0)]) (As' := [.box b2 [.slice a0_tables p0.tables.length c0_tables]]) (ob := []) (by kernel_rfl) (trivial) fun a w hS => ?_
      refine wl_end ?_
      refine hK9 _ _ ?_
      refine k_blk (by kernel_rfl) ?_
      refine k_loop (by kernel_rfl) (fun m11 a w => ∃ (v10 : Int), ref05_Right_l1 n p0 m11 v10 = some r ∧ Sy C 34 a w [(1, .pointer (some ⟨b2, 0, none⟩)), (3, .int .i64 v10)] [.box b2 [.slice a0_tables p0.tables.length c0_tables]] [RSf flat_Bounds a0_tables c0_tables p0.tables]) n ⟨0, h, (hS.got [1, 3] [0] [] 0 (by kernel_rfl) (by kernel_rfl) (by kernel_rfl))⟩ ?_
      rintro m11 a w ⟨v10, h, hS⟩ K12 hK12
      cases m11 with
      | zero => exact (noneS h).elim
      | succ m11 =>
        unfold ref05_Right_l1 at h
        refine k_seq (by kernel_rfl) fun K13 hK13 => ?_
        refine k_seq (by kernel_rfl) fun K14 hK14 => ?_
        refine k_reg 5 (by kernel_rfl) ?_
        refine r_run 0 5 [1, 3, 18] [.own 0 0] hS rfl (L' := [(1, .pointer (some ⟨b2, 0, none⟩)), (3, .int .i64 v10), (18, .bool (decide (v10 < (p0.tables.length : Int))))]) (As' := [.box b2 [.slice a0_tables p0.tables.length c0_tables]]) (ob := [fun _ => (⟨b2, 0, none⟩ : Addr) = (⟨b2, 0, none⟩ : Addr).add 0]) (by kernel_rfl) (⟨Bx.c rfl, trivial⟩) fun a w hS => ?_
        refine wl_end ?_
        refine hK14 _ _ ?_
        refine k_cond (decide (v10 < (p0.tables.length : Int))) hS.has (by kernel_rfl) (by kernel_rfl) (by kernel_rfl) (fun hb15 => ?_) (fun hb15 => ?_)
        · replace h := ctrue hb15 h
          refine k_skip (by kernel_rfl) ?_
          refine hK13 _ _ ?_
          refine k_seq (by kernel_rfl) fun K16 hK16 => ?_
          refine k_blk (by kernel_rfl) ?_
          refine k_seq (by kernel_rfl) fun K17 hK17 => ?_
          obtain ⟨x18, hx18, h⟩ := bindS h
          have ix18 := fidxB (F := flat_Bounds) (hS.p 0 rfl) hx18
          obtain ⟨x19, hx19, h⟩ := bindS h
          have ix19 := fidxB (F := flat_Bounds) (hS.p 0 rfl) hx19
          refine k_draw 12 13 [.val (.pointer (some ⟨b2, 0, none⟩)), .val (.slice a0_tables p0.tables.length c0_tables), .val (.int .i64 v10), .val (.pointer (some (Addr.add (baseOf a0_tables) (Int.toNat v10 * 2)))), .val (.pointer (some (Addr.add (Addr.add (baseOf a0_tables) (Int.toNat v10 * 2)) 0))), .val (.int .i64 x18.min), .val (.pointer (some ⟨b2, 0, none⟩)), .val (.slice a0_tables p0.tables.length c0_tables), .val (.int .i64 v10), .val (.pointer (some (Addr.add (baseOf a0_tables) (Int.toNat v10 * 2)))), .val (.pointer (some (Addr.add (Addr.add (baseOf a0_tables) (Int.toNat v10 * 2)) 1))), .val (.int .i64 x19.max)] [] [(0, []), (1, [.own 0 0]), (2, []), (3, []), (4, []), (5, [.ext [.int .i64 x18.min]]), (6, []), (7, [.own 0 0]), (8, []), (9, []), (10, []), (11, [.ext [.int .i64 x19.max]])] [] (ob := [fun _ => (⟨b2, 0, none⟩ : Addr) = (⟨b2, 0, none⟩ : Addr).add 0, fun _ => Inb a0_tables p0.tables.length v10, Cel (Addr.add (Addr.add (baseOf a0_tables) (Int.toNat v10 * 2)) 0) [.int .i64 x18.min], fun _ => (⟨b2, 0, none⟩ : Addr) = (⟨b2, 0, none⟩ : Addr).add 0, fun _ => Inb a0_tables p0.tables.length v10, Cel (Addr.add (Addr.add (baseOf a0_tables) (Int.toNat v10 * 2)) 1) [.int .i64 x19.max]]) (by kernel_rfl) (by kernel_rfl) hS (by kernel_rfl) (fun F N0 => by kernel_rfl) (by kernel_rfl) (by kernel_rfl) (by kernel_rfl) (by kernel_rfl) ⟨Bx.c rfl, Bx.c ix18.1, (Bx.sub ix18.2 0 1), Bx.c rfl, Bx.c ix19.1, (Bx.sub ix19.2 1 1), trivial⟩ ?_ ?_
          · exact trivial
          intro V a w e hS hq
          refine r_run 12 1 [1, 3, 33] [] hS rfl (L' := [(1, .pointer (some ⟨b2, 0, none⟩)), (3, .int .i64 v10), (33, .bool (decide (x18.min > x19.max)))]) (As' := [.box b2 [.slice a0_tables p0.tables.length c0_tables]]) (ob := []) (by kernel_rfl) (trivial) fun a w hS => ?_
          refine wl_end ?_
          refine hK17 _ _ ?_
          refine k_cond (decide (x18.min > x19.max)) hS.has (by kernel_rfl) (by kernel_rfl) (by kernel_rfl) (fun hb20 => ?_) (fun hb20 => ?_)
          · replace h := ctrue hb20 h
            refine k_seq (by kernel_rfl) fun K21 hK21 => ?_
            refine k_reg 1 (by kernel_rfl) ?_
            refine r_run 0 1 [2] [] hS rfl (L' := [(2, .bool false)]) (As' := [.box b2 [.slice a0_tables p0.tables.length c0_tables]]) (ob := []) (by kernel_rfl) (trivial) fun a w hS => ?_
            refine wl_end ?_
            refine hK21 _ _ ?_
            refine k_ret (by kernel_rfl) ?_
            obtain rfl := someI h
            try simp only [Exit.then, Exit.inBlock]
            refine r_ret hS [.tmp 2] [] (xs := [.bool false]) (ps := []) [] [] rfl (by kernel_rfl) (fun hA => trivial) rfl (fun F up => trivial) ?_
            exact ⟨rfl, rfl, rfl⟩
          · replace h := cfalse hb20 h
            refine k_skip (by kernel_rfl) ?_
            refine hK16 _ _ ?_
            refine k_reg 3 (by kernel_rfl) ?_
            refine r_run 0 3 [1, 3] [] hS rfl (L' := [(1, .pointer (some ⟨b2, 0, none⟩)), (3, .int .i64 (IntKind.wrap .i64 (v10 + 1)))]) (As' := [.box b2 [.slice a0_tables p0.tables.length c0_tables]]) (ob := []) (by kernel_rfl) (trivial) fun a w hS => ?_
            refine wl_end ?_
            exact hK12 m11 _ _ (Nat.lt_succ_self _) ⟨(IntKind.wrap .i64 (v10 + 1)), h, (hS.got [1, 3] [0] [] 0 (by kernel_rfl) (by kernel_rfl) (by kernel_rfl))⟩
        · replace h := cfalse hb15 h
          refine k_exit 0 (by kernel_rfl) ?_
          refine hK8 _ _ ?_
          refine k_seq (by kernel_rfl) fun K22 hK22 => ?_
          refine k_reg 1 (by kernel_rfl) ?_
          refine r_run 0 1 [2] [] hS rfl (L' := [(2, .bool true)]) (As' := [.box b2 [.slice a0_tables p0.tables.length c0_tables]]) (ob := []) (by kernel_rfl) (trivial) fun a w hS => ?_
          refine wl_end ?_
          refine hK22 _ _ ?_
          refine k_ret (by kernel_rfl) ?_
          obtain rfl := someI h
          try simp only [Exit.then, Exit.inBlock]
          refine r_ret hS [.tmp 2] [] (xs := [.bool true]) (ps := []) [] [] rfl (by kernel_rfl) (fun hA => trivial) rfl (fun F up => trivial) ?_
          exact ⟨rfl, rfl, rfl⟩
  cases hb23 : (decide ((p0.tables.length : Int) < 1))
  · replace hS := hS.env (L' := [(1, .pointer (some ⟨b2, 0, none⟩)), (8, .bool false)]) (by rw [hb23])
    refine r_run 5 5 [1, 13] [.own 0 0] hS rfl (L' := [(1, .pointer (some ⟨b2, 0, none⟩)), (13, .bool (decide ((p0.tables.length : Int) > 3)))]) (As' := [.box b2 [.slice a0_tables p0.tables.length c0_tables]]) (ob := [fun _ => (⟨b2, 0, none⟩ : Addr) = (⟨b2, 0, none⟩ : Addr).add 0]) (by kernel_rfl) (⟨Bx.c rfl, trivial⟩) fun a w hS => ?_
    refine wl_end ?_
    replace hS := hS.got [1, 13] [0] [] 0 (L' := [(1, .pointer (some ⟨b2, 0, none⟩)), (13, .bool (decide ((p0.tables.length : Int) > 3)))]) (Bs := [.box b2 [.slice a0_tables p0.tables.length c0_tables]]) (Rs := [RSf flat_Bounds a0_tables c0_tables p0.tables]) (by kernel_rfl) (by kernel_rfl) (by kernel_rfl)
    exact JK5 _ _ (hS.env (by rw [hb23]; rfl))
  · replace hS := hS.env (L' := [(1, .pointer (some ⟨b2, 0, none⟩)), (8, .bool true)]) (by rw [hb23])
    refine r_run 5 5 [1, 13] [] hS rfl (L' := [(1, .pointer (some ⟨b2, 0, none⟩)), (13, .bool true)]) (As' := [.box b2 [.slice a0_tables p0.tables.length c0_tables]]) (ob := []) (by kernel_rfl) (trivial) fun a w hS => ?_
    refine wl_end ?_
    replace hS := hS.got [1, 13] [0] [] 0 (L' := [(1, .pointer (some ⟨b2, 0, none⟩)), (13, .bool true)]) (Bs := [.box b2 [.slice a0_tables p0.tables.length c0_tables]]) (Rs := [RSf flat_Bounds a0_tables c0_tables p0.tables]) (by kernel_rfl) (by kernel_rfl) (by kernel_rfl)
    exact JK5 _ _ (hS.env (by rw [hb23]; rfl))

/-! bursary bursaryref05.KeyError -/
def ref05_KeyError (n : Nat) (p0 : Schema) (p1 : Key) : Option Int :=
  cond ((decide (p1.table < 0)) || (decide (p1.table ≥ (p0.tables.length : Int))))
    (some 151)
    (some 0)
theorem ref05_KeyError_ok {a0_tables : Option Addr} {c0_tables : Nat} (n : Nat) (p0 : Schema) (p1 : Key) (r : Int)  (h : ref05_KeyError n p0 p1 = some r) :
    Meets Try.prog 16 #[Value.agg #[.slice a0_tables p0.tables.length c0_tables], Value.agg #[.int .i64 p1.table, .int .u16 p1.id]] [] [RSf flat_Bounds a0_tables c0_tables p0.tables] fun v A P => v = .int .i64 r ∧ A = [] ∧ P = [] := by
  unfold ref05_KeyError at h
  refine meets_enter 16 Try.func16 Try.call16 rfl (by kernel_rfl) (by simp) fun C a w hS => ?_
  refine k_seq (by kernel_rfl) fun K1 hK1 => ?_
  refine k_reg 3 (by kernel_rfl) ?_
  refine r_run2 0 3 [2, 3] [] hS rfl (L' := fun b2 b3 => [(2, .pointer (some ⟨b2, 0, none⟩)), (3, .pointer (some ⟨b3, 0, none⟩))]) (As' := fun b2 b3 => [.box b3 [.int .i64 p1.table, .int .u16 p1.id], .box b2 [.slice a0_tables p0.tables.length c0_tables]]) (ob := fun b2 b3 => []) (fun b2 b3 => by kernel_rfl) (fun b2 b3 => trivial) fun b2 b3 a w hS => ?_
  refine wl_end ?_
  refine hK1 _ _ ?_
  refine k_seq (by kernel_rfl) fun K4 hK4 => ?_
  refine k_seq (by kernel_rfl) fun K5 hK5 => ?_
  refine k_reg 11 (by kernel_rfl) ?_
  refine r_run 0 4 [2, 3, 8] [.own 0 0] hS rfl (L' := [(2, .pointer (some ⟨b2, 0, none⟩)), (3, .pointer (some ⟨b3, 0, none⟩)), (8, .bool (decide (p1.table < 0)))]) (As' := [.box b3 [.int .i64 p1.table, .int .u16 p1.id], .box b2 [.slice a0_tables p0.tables.length c0_tables]]) (ob := [fun _ => (⟨b3, 0, none⟩ : Addr) = (⟨b3, 0, none⟩ : Addr).add 0]) (by kernel_rfl) (⟨Bx.c rfl, trivial⟩) fun a w hS => ?_
  refine wl_cut 11 rfl rfl fun K6 hK6 => ?_
  have JK6 : ∀ a w, Sy C 16 a w [(15, .bool ((decide (p1.table < 0)) || (decide (p1.table ≥ (p0.tables.length : Int)))))] [.box b3 [.int .i64 p1.table, .int .u16 p1.id], .box b2 [.slice a0_tables p0.tables.length c0_tables]] [RSf flat_Bounds a0_tables c0_tables p0.tables] → K6 a w := by
    intro a w hS
    refine hK6 _ _ ?_
    refine wl_end ?_
    refine hK5 _ _ ?_
    refine k_cond ((decide (p1.table < 0)) || (decide (p1.table ≥ (p0.tables.length : Int)))) hS.has (by kernel_rfl) (by kernel_rfl) (by kernel_rfl) (fun hb7 => ?_) (fun hb7 => ?_)
    · replace h := ctrue hb7 h
      refine k_seq (by kernel_rfl) fun K8 hK8 => ?_
      refine k_reg 1 (by kernel_rfl) ?_
      refine r_run 0 1 [4] [] hS rfl (L' := [(4, .int .i64 151)]) (As' := [.box b3 [.int .i64 p1.table, .int .u16 p1.id], .box b2 [.slice a0_tables p0.tables.length c0_tables]]) (ob := []) (by kernel_rfl) (trivial) fun a w hS => ?_
      refine wl_end ?_
      refine hK8 _ _ ?_
      refine k_ret (by kernel_rfl) ?_
      obtain rfl := someI h
      try simp only [Exit.then, Exit.inBlock]
      refine r_ret hS [.tmp 4] [] (xs := [.int .i64 151]) (ps := []) [] [] rfl (by kernel_rfl) (fun hA => trivial) rfl (fun F up => trivial) ?_
      exact ⟨rfl, rfl, rfl⟩
    · replace h := cfalse hb7 h
      refine k_skip (by kernel_rfl) ?_
      refine hK4 _ _ ?_
      refine k_seq (by kernel_rfl) fun K9 hK9 => ?_
      refine k_reg 1 (by kernel_rfl) ?_
      refine r_run 0 1 [4] [] hS rfl (L' := [(4, .int .i64 0)]) (As' := [.box b3 [.int .i64 p1.table, .int .u16 p1.id], .box b2 [.slice a0_tables p0.tables.length c0_tables]]) (ob := []) (by kernel_rfl) (trivial) fun a w hS => ?_
      refine wl_end ?_
      refine hK9 _ _ ?_
      refine k_ret (by kernel_rfl) ?_
      obtain rfl := someI h
      try simp only [Exit.then, Exit.inBlock]
      refine r_ret hS [.tmp 4] [] (xs := [.int .i64 0]) (ps := []) [] [] rfl (by kernel_rfl) (fun hA => trivial) rfl (fun F up => trivial) ?_
      exact ⟨rfl, rfl, rfl⟩
  cases hb10 : (decide (p1.table < 0))
  · replace hS := hS.env (L' := [(2, .pointer (some ⟨b2, 0, none⟩)), (3, .pointer (some ⟨b3, 0, none⟩)), (8, .bool false)]) (by rw [hb10])
    refine r_run 4 7 [15] [.own 0 0, .own 1 0] hS rfl (L' := [(15, .bool (decide (p1.table ≥ (p0.tables.length : Int))))]) (As' := [.box b3 [.int .i64 p1.table, .int .u16 p1.id], .box b2 [.slice a0_tables p0.tables.length c0_tables]]) (ob := [fun _ => (⟨b3, 0, none⟩ : Addr) = (⟨b3, 0, none⟩ : Addr).add 0, fun _ => (⟨b2, 0, none⟩ : Addr) = (⟨b2, 0, none⟩ : Addr).add 0]) (by kernel_rfl) (⟨Bx.c rfl, Bx.c rfl, trivial⟩) fun a w hS => ?_
    refine wl_end ?_
    replace hS := hS.got [15] [0, 0] [] 0 (L' := [(15, .bool (decide (p1.table ≥ (p0.tables.length : Int))))]) (Bs := [.box b3 [.int .i64 p1.table, .int .u16 p1.id], .box b2 [.slice a0_tables p0.tables.length c0_tables]]) (Rs := [RSf flat_Bounds a0_tables c0_tables p0.tables]) (by kernel_rfl) (by kernel_rfl) (by kernel_rfl)
    exact JK6 _ _ (hS.env (by rw [hb10]; rfl))
  · replace hS := hS.env (L' := [(2, .pointer (some ⟨b2, 0, none⟩)), (3, .pointer (some ⟨b3, 0, none⟩)), (8, .bool true)]) (by rw [hb10])
    refine r_run 4 7 [15] [] hS rfl (L' := [(15, .bool true)]) (As' := [.box b3 [.int .i64 p1.table, .int .u16 p1.id], .box b2 [.slice a0_tables p0.tables.length c0_tables]]) (ob := []) (by kernel_rfl) (trivial) fun a w hS => ?_
    refine wl_end ?_
    replace hS := hS.got [15] [0, 0] [] 0 (L' := [(15, .bool true)]) (Bs := [.box b3 [.int .i64 p1.table, .int .u16 p1.id], .box b2 [.slice a0_tables p0.tables.length c0_tables]]) (Rs := [RSf flat_Bounds a0_tables c0_tables p0.tables]) (by kernel_rfl) (by kernel_rfl) (by kernel_rfl)
    exact JK6 _ _ (hS.env (by rw [hb10]; rfl))

/-! bursary bursaryref05.RowError -/
def ref05_RowError_j1 (n : Nat)  (v16 : Bool) : Option Int :=
  cond v16
    (some 152)
    (some 0)
def ref05_RowError (n : Nat) (p0 : Schema) (p1 : Row) : Option Int :=
  (ref05_KeyError n p0 p1.key).bind fun y6 =>
  cond (y6 != 0)
    (some 151)
    (cond (decide ((p1.note.size : Int) > 8))
      (some 3)
      ((idx p0.tables p1.key.table).bind fun x20 =>
      cond (decide (p1.val < x20.min))
        (ref05_RowError_j1 n true)
        ((idx p0.tables p1.key.table).bind fun x22 =>
        ref05_RowError_j1 n (decide (p1.val > x22.max)))))
theorem ref05_RowError_ok {a0_tables : Option Addr} {c0_tables : Nat} (n : Nat) (p0 : Schema) (p1 : Row) (r : Int)  (h : ref05_RowError n p0 p1 = some r) :
    Meets Try.prog 18 #[Value.agg #[.slice a0_tables p0.tables.length c0_tables], Value.agg #[.int .i64 p1.key.table, .int .u16 p1.key.id, .int .i64 p1.val, .string p1.note]] [] [RSf flat_Bounds a0_tables c0_tables p0.tables] fun v A P => v = .int .i64 r ∧ A = [] ∧ P = [] := by
  unfold ref05_RowError at h
  refine meets_enter 38 Try.func18 Try.call18 rfl (by kernel_rfl) (by simp) fun C a w hS => ?_
  refine k_seq (by kernel_rfl) fun K1 hK1 => ?_
  refine k_reg 3 (by kernel_rfl) ?_
  refine r_run2 0 3 [2, 3] [] hS rfl (L' := fun b2 b3 => [(2, .pointer (some ⟨b2, 0, none⟩)), (3, .pointer (some ⟨b3, 0, none⟩))]) (As' := fun b2 b3 => [.box b3 [.int .i64 p1.key.table, .int .u16 p1.key.id, .int .i64 p1.val, .string p1.note], .box b2 [.slice a0_tables p0.tables.length c0_tables]]) (ob := fun b2 b3 => []) (fun b2 b3 => by kernel_rfl) (fun b2 b3 => trivial) fun b2 b3 a w hS => ?_
  refine wl_end ?_
  refine hK1 _ _ ?_
  refine k_seq (by kernel_rfl) fun K4 hK4 => ?_
  refine k_seq (by kernel_rfl) fun K5 hK5 => ?_
  refine k_reg 5 (by kernel_rfl) ?_
  refine r_run 0 3 [2, 3, 5, 7] [.own 1 0, .own 0 0] hS rfl (L' := [(2, .pointer (some ⟨b2, 0, none⟩)), (3, .pointer (some ⟨b3, 0, none⟩)), (5, Value.agg #[.slice a0_tables p0.tables.length c0_tables]), (7, Value.agg #[.int .i64 p1.key.table, .int .u16 p1.key.id])]) (As' := [.box b3 [.int .i64 p1.key.table, .int .u16 p1.key.id, .int .i64 p1.val, .string p1.note], .box b2 [.slice a0_tables p0.tables.length c0_tables]]) (ob := [fun _ => (⟨b2, 0, none⟩ : Addr) = (⟨b2, 0, none⟩ : Addr).add 0, fun _ => (⟨b3, 0, none⟩ : Addr) = (⟨b3, 0, none⟩ : Addr).add 0]) (by kernel_rfl) (⟨Bx.c rfl, Bx.c rfl, trivial⟩) fun a w hS => ?_
  obtain ⟨y6, hy6, h⟩ := bindS h
  refine r_call 3 rfl (d := some 8) (g := 16) (args := #[Value.agg #[.slice a0_tables p0.tables.length c0_tables], Value.agg #[.int .i64 p1.key.table, .int .u16 p1.key.id]]) [] hS (by kernel_rfl) rfl (ref05_KeyError_ok n p0 p1.key y6 hy6) (fun F up => ⟨up (hS.p 0 rfl), trivial⟩) ?_
  rintro v A P a w ⟨rfl, rfl, rfl⟩ hS
  refine r_run 4 1 [2, 3, 9] [] hS rfl (L' := [(2, .pointer (some ⟨b2, 0, none⟩)), (3, .pointer (some ⟨b3, 0, none⟩)), (9, .bool (y6 != 0))]) (As' := [.box b3 [.int .i64 p1.key.table, .int .u16 p1.key.id, .int .i64 p1.val, .string p1.note], .box b2 [.slice a0_tables p0.tables.length c0_tables]]) (ob := []) (by kernel_rfl) (trivial) fun a w hS => ?_
  refine wl_end ?_
  refine hK5 _ _ ?_
  refine k_cond (y6 != 0) hS.has (by kernel_rfl) (by kernel_rfl) (by kernel_rfl) (fun hb7 => ?_) (fun hb7 => ?_)
  · replace h := ctrue hb7 h
    refine k_seq (by kernel_rfl) fun K8 hK8 => ?_
    refine k_reg 1 (by kernel_rfl) ?_
    refine r_run 0 1 [4] [] hS rfl (L' := [(4, .int .i64 151)]) (As' := [.box b3 [.int .i64 p1.key.table, .int .u16 p1.key.id, .int .i64 p1.val, .string p1.note], .box b2 [.slice a0_tables p0.tables.length c0_tables]]) (ob := []) (by kernel_rfl) (trivial) fun a w hS => ?_
    refine wl_end ?_
    refine hK8 _ _ ?_
    refine k_ret (by kernel_rfl) ?_
    obtain rfl := someI h
    try simp only [Exit.then, Exit.inBlock]
    refine r_ret hS [.tmp 4] [] (xs := [.int .i64 151]) (ps := []) [] [] rfl (by kernel_rfl) (fun hA => trivial) rfl (fun F up => trivial) ?_
    exact ⟨rfl, rfl, rfl⟩
  · replace h := cfalse hb7 h
    refine k_skip (by kernel_rfl) ?_
    refine hK4 _ _ ?_
    refine k_seq (by kernel_rfl) fun K9 hK9 => ?_
    refine k_seq (by kernel_rfl) fun K10 hK10 => ?_
    refine k_reg 4 (by kernel_rfl) ?_
    refine r_run 0 4 [2, 3, 13] [.own 0 3] hS rfl (L' := [(2, .pointer (some ⟨b2, 0, none⟩)), (3, .pointer (some ⟨b3, 0, none⟩)), (13, .bool (decide ((p1.note.size : Int) > 8)))]) (As' := [.box b3 [.int .i64 p1.key.table, .int .u16 p1.key.id, .int .i64 p1.val, .string p1.note], .box b2 [.slice a0_tables p0.tables.length c0_tables]]) (ob := [fun _ => ⟨b3, 3, none⟩ = (⟨b3, 0, none⟩ : Addr).add 3]) (by kernel_rfl) (⟨Bx.c rfl, trivial⟩) fun a w hS => ?_
    refine wl_end ?_
    refine hK10 _ _ ?_
    refine k_cond (decide ((p1.note.size : Int) > 8)) hS.has (by kernel_rfl) (by kernel_rfl) (by kernel_rfl) (fun hb11 => ?_) (fun hb11 => ?_)
    · replace h := ctrue hb11 h
      refine k_seq (by kernel_rfl) fun K12 hK12 => ?_
      refine k_reg 1 (by kernel_rfl) ?_
      refine r_run 0 1 [4] [] hS rfl (L' := [(4, .int .i64 3)]) (As' := [.box b3 [.int .i64 p1.key.table, .int .u16 p1.key.id, .int .i64 p1.val, .string p1.note], .box b2 [.slice a0_tables p0.tables.length c0_tables]]) (ob := []) (by kernel_rfl) (trivial) fun a w hS => ?_
      refine wl_end ?_
      refine hK12 _ _ ?_
      refine k_ret (by kernel_rfl) ?_
      obtain rfl := someI h
      try simp only [Exit.then, Exit.inBlock]
      refine r_ret hS [.tmp 4] [] (xs := [.int .i64 3]) (ps := []) [] [] rfl (by kernel_rfl) (fun hA => trivial) rfl (fun F up => trivial) ?_
      exact ⟨rfl, rfl, rfl⟩
    · replace h := cfalse hb11 h
      refine k_skip (by kernel_rfl) ?_
      refine hK9 _ _ ?_
      refine k_seq (by kernel_rfl) fun K13 hK13 => ?_
      refine k_seq (by kernel_rfl) fun K14 hK14 => ?_
      refine c_name fun K15 hK15 => ?_
      have JK15 : ∀ (v16 : Bool) a w, Sy C 38 a w [(37, .bool v16)] [.box b3 [.int .i64 p1.key.table, .int .u16 p1.key.id, .int .i64 p1.val, .string p1.note], .box b2 [.slice a0_tables p0.tables.length c0_tables]] [RSf flat_Bounds a0_tables c0_tables p0.tables] → ref05_RowError_j1 n v16 = some r → K15 a w := by
        intro v16 a w hS h
        unfold ref05_RowError_j1 at h
        refine hK15 _ _ ?_
        refine hK14 _ _ ?_
        refine k_cond v16 hS.has (by kernel_rfl) (by kernel_rfl) (by kernel_rfl) (fun hb17 => ?_) (fun hb17 => ?_)
        · replace h := ctrue hb17 h
          refine k_seq (by kernel_rfl) fun K18 hK18 => ?_
          refine k_reg 1 (by kernel_rfl) ?_
          refine r_run 0 1 [4] [] hS rfl (L' := [(4, .int .i64 152)]) (As' := [.box b3 [.int .i64 p1.key.table, .int .u16 p1.key.id, .int .i64 p1.val, .string p1.note], .box b2 [.slice a0_tables p0.tables.length c0_tables]]) (ob := []) (by kernel_rfl) (trivial) fun a w hS => ?_
          refine wl_end ?_
          refine hK18 _ _ ?_
          refine k_ret (by kernel_rfl) ?_
          obtain rfl := someI h
          try simp only [Exit.then, Exit.inBlock]
          refine r_ret hS [.tmp 4] [] (xs := [.int .i64 152]) (ps := []) [] [] rfl (by kernel_rfl) (fun hA => trivial) rfl (fun F up => trivial) ?_
          exact ⟨rfl, rfl, rfl⟩
        · replace h := cfalse hb17 h
          refine k_skip (by kernel_rfl) ?_
          refine hK13 _ _ ?_
          refine k_seq (by kernel_rfl) fun K19 hK19 => ?_
          refine k_reg 1 (by kernel_rfl) ?_
          refine r_run 0 1 [4] [] hS rfl (L' := [(4, .int .i64 0)]) (As' := [.box b3 [.int .i64 p1.key.table, .int .u16 p1.key.id, .int .i64 p1.val, .string p1.note], .box b2 [.slice a0_tables p0.tables.length c0_tables]]) (ob := []) (by kernel_rfl) (trivial) fun a w hS => ?_
          refine wl_end ?_
          refine hK19 _ _ ?_
          refine k_ret (by kernel_rfl) ?_
          obtain rfl := someI h
          try simp only [Exit.then, Exit.inBlock]
          refine r_ret hS [.tmp 4] [] (xs := [.int .i64 0]) (ps := []) [] [] rfl (by kernel_rfl) (fun hA => trivial) rfl (fun F up => trivial) ?_
          exact ⟨rfl, rfl, rfl⟩
      obtain ⟨x20, hx20, h⟩ := bindS h
      have ix20 := fidxB (F := flat_Bounds) (hS.p 0 rfl) hx20
      cases hb21 : (decide (p1.val < x20.min))
      · replace h := cfalse hb21 h
        obtain ⟨x22, hx22, h⟩ := bindS h
        have ix22 := fidxB (F := flat_Bounds) (hS.p 0 rfl) hx22
        refine k_draw 22 24 [.val (.pointer (some ⟨b3, 2, none⟩)), .val (.int .i64 p1.val), .val (.pointer (some ⟨b2, 0, none⟩)), .val (.slice a0_tables p0.tables.length c0_tables), .val (.pointer (some ⟨b3, 0, none⟩)), .val (.pointer (some ⟨b3, 0, none⟩)), .val (.int .i64 p1.key.table), .val (.pointer (some (Addr.add (baseOf a0_tables) (Int.toNat p1.key.table * 2)))), .val (.pointer (some (Addr.add (Addr.add (baseOf a0_tables) (Int.toNat p1.key.table * 2)) 0))), .val (.int .i64 x20.min), .val (.bool (decide (p1.val < x20.min))), .val (.bool false), .val (.pointer (some ⟨b3, 2, none⟩)), .val (.int .i64 p1.val), .val (.pointer (some ⟨b2, 0, none⟩)), .val (.slice a0_tables p0.tables.length c0_tables), .val (.pointer (some ⟨b3, 0, none⟩)), .val (.pointer (some ⟨b3, 0, none⟩)), .val (.int .i64 p1.key.table), .val (.pointer (some (Addr.add (baseOf a0_tables) (Int.toNat p1.key.table * 2)))), .val (.pointer (some (Addr.add (Addr.add (baseOf a0_tables) (Int.toNat p1.key.table * 2)) 1))), .val (.int .i64 x22.max)] [] [(0, []), (1, [.own 0 2]), (2, []), (3, [.own 1 0]), (4, []), (5, []), (6, [.own 0 0]), (7, []), (8, []), (9, [.ext [.int .i64 x20.min]]), (10, []), (11, [.as 25 (.bool false)]), (12, []), (13, [.own 0 2]), (14, []), (15, [.own 1 0]), (16, []), (17, []), (18, [.own 0 0]), (19, []), (20, []), (21, [.ext [.int .i64 x22.max]])] [] (ob := [fun _ => ⟨b3, 2, none⟩ = (⟨b3, 0, none⟩ : Addr).add 2, fun _ => (⟨b2, 0, none⟩ : Addr) = (⟨b2, 0, none⟩ : Addr).add 0, fun _ => (⟨b3, 0, none⟩ : Addr) = (⟨b3, 0, none⟩ : Addr).add 0, fun _ => Inb a0_tables p0.tables.length p1.key.table, Cel (Addr.add (Addr.add (baseOf a0_tables) (Int.toNat p1.key.table * 2)) 0) [.int .i64 x20.min], fun _ => Value.bool (decide (p1.val < x20.min)) = .bool false, fun _ => ⟨b3, 2, none⟩ = (⟨b3, 0, none⟩ : Addr).add 2, fun _ => (⟨b2, 0, none⟩ : Addr) = (⟨b2, 0, none⟩ : Addr).add 0, fun _ => (⟨b3, 0, none⟩ : Addr) = (⟨b3, 0, none⟩ : Addr).add 0, fun _ => Inb a0_tables p0.tables.length p1.key.table, Cel (Addr.add (Addr.add (baseOf a0_tables) (Int.toNat p1.key.table * 2)) 1) [.int .i64 x22.max]]) (by kernel_rfl) (by kernel_rfl) hS (by kernel_rfl) (fun F N0 => by kernel_rfl) (by kernel_rfl) (by kernel_rfl) (by kernel_rfl) (by kernel_rfl) ⟨Bx.c rfl, Bx.c rfl, Bx.c rfl, Bx.c ix20.1, (Bx.sub ix20.2 0 1), Bx.c (by rw [hb21]), Bx.c rfl, Bx.c rfl, Bx.c rfl, Bx.c ix22.1, (Bx.sub ix22.2 1 1), trivial⟩ ?_ ?_
        · exact trivial
        intro V a w e hS hq
        refine r_run 22 2 [37] [] hS rfl (L' := [(37, .bool (decide (p1.val > x22.max)))]) (As' := [.box b3 [.int .i64 p1.key.table, .int .u16 p1.key.id, .int .i64 p1.val, .string p1.note], .box b2 [.slice a0_tables p0.tables.length c0_tables]]) (ob := []) (by kernel_rfl) (trivial) fun a w hS => ?_
        refine wl_end ?_
        exact JK15 (decide (p1.val > x22.max)) _ _ (hS.got [37] [0, 0] [] 0 (by kernel_rfl) (by kernel_rfl) (by kernel_rfl)) h
      · replace h := ctrue hb21 h
        refine k_draw 22 24 [.val (.pointer (some ⟨b3, 2, none⟩)), .val (.int .i64 p1.val), .val (.pointer (some ⟨b2, 0, none⟩)), .val (.slice a0_tables p0.tables.length c0_tables), .val (.pointer (some ⟨b3, 0, none⟩)), .val (.pointer (some ⟨b3, 0, none⟩)), .val (.int .i64 p1.key.table), .val (.pointer (some (Addr.add (baseOf a0_tables) (Int.toNat p1.key.table * 2)))), .val (.pointer (some (Addr.add (Addr.add (baseOf a0_tables) (Int.toNat p1.key.table * 2)) 0))), .val (.int .i64 x20.min), .val (.bool (decide (p1.val < x20.min))), .val (.bool true), .val (undef), .val (undef), .val (undef), .val (undef), .val (undef), .val (undef), .val (undef), .val (undef), .val (undef), .val (undef)] [] [(0, []), (1, [.own 0 2]), (2, []), (3, [.own 1 0]), (4, []), (5, []), (6, [.own 0 0]), (7, []), (8, []), (9, [.ext [.int .i64 x20.min]]), (10, []), (11, [.as 25 (.bool true)]), (12, []), (13, []), (14, []), (15, []), (16, []), (17, []), (18, []), (19, []), (20, []), (21, [])] [] (ob := [fun _ => ⟨b3, 2, none⟩ = (⟨b3, 0, none⟩ : Addr).add 2, fun _ => (⟨b2, 0, none⟩ : Addr) = (⟨b2, 0, none⟩ : Addr).add 0, fun _ => (⟨b3, 0, none⟩ : Addr) = (⟨b3, 0, none⟩ : Addr).add 0, fun _ => Inb a0_tables p0.tables.length p1.key.table, Cel (Addr.add (Addr.add (baseOf a0_tables) (Int.toNat p1.key.table * 2)) 0) [.int .i64 x20.min], fun _ => Value.bool (decide (p1.val < x20.min)) = .bool true]) (by kernel_rfl) (by kernel_rfl) hS (by kernel_rfl) (fun F N0 => by kernel_rfl) (by kernel_rfl) (by kernel_rfl) (by kernel_rfl) (by kernel_rfl) ⟨Bx.c rfl, Bx.c rfl, Bx.c rfl, Bx.c ix20.1, (Bx.sub ix20.2 0 1), Bx.c (by rw [hb21]), trivial⟩ ?_ ?_
        · exact trivial
        intro V a w e hS hq
        refine r_run 22 2 [37] [] hS rfl (L' := [(37, .bool true)]) (As' := [.box b3 [.int .i64 p1.key.table, .int .u16 p1.key.id, .int .i64 p1.val, .string p1.note], .box b2 [.slice a0_tables p0.tables.length c0_tables]]) (ob := []) (by kernel_rfl) (trivial) fun a w hS => ?_
        refine wl_end ?_
        exact JK15 true _ _ (hS.got [37] [0, 0] [] 0 (by kernel_rfl) (by kernel_rfl) (by kernel_rfl)) h

/-! bursary bursaryref05.Compare -/
def ref05_Compare (n : Nat) (p0 : Key) (p1 : Key) : Option Int :=
  cond (Key.eqb p0 p1)
    (some 0)
    (cond ((decide (p0.table < p1.table)) || ((p0.table == p1.table) && (decide (p0.id < p1.id))))
      (some (-1))
      (some 1))
theorem ref05_Compare_ok  (n : Nat) (p0 : Key) (p1 : Key) (r : Int)  (h : ref05_Compare n p0 p1 = some r) :
    Meets Try.prog 32 #[Value.agg #[.int .i64 p0.table, .int .u16 p0.id], Value.agg #[.int .i64 p1.table, .int .u16 p1.id]] [] [] fun v A P => v = .int .i64 r ∧ A = [] ∧ P = [] := by
  unfold ref05_Compare at h
  refine meets_enter 27 Try.func32 Try.call32 rfl (by kernel_rfl) (by simp) fun C a w hS => ?_
  refine k_seq (by kernel_rfl) fun K1 hK1 => ?_
  refine k_reg 3 (by kernel_rfl) ?_
  refine r_run2 0 3 [2, 3] [] hS rfl (L' := fun b2 b3 => [(2, .pointer (some ⟨b2, 0, none⟩)), (3, .pointer (some ⟨b3, 0, none⟩))]) (As' := fun b2 b3 => [.box b3 [.int .i64 p1.table, .int .u16 p1.id], .box b2 [.int .i64 p0.table, .int .u16 p0.id]]) (ob := fun b2 b3 => []) (fun b2 b3 => by kernel_rfl) (fun b2 b3 => trivial) fun b2 b3 a w hS => ?_
  refine wl_end ?_
  refine hK1 _ _ ?_
  refine k_seq (by kernel_rfl) fun K4 hK4 => ?_
  refine k_seq (by kernel_rfl) fun K5 hK5 => ?_
  refine k_reg 3 (by kernel_rfl) ?_
  refine r_run 0 3 [2, 3, 7] [.own 1 0, .own 0 0, .val (.bool (Key.eqb p0 p1))] hS rfl (L' := [(2, .pointer (some ⟨b2, 0, none⟩)), (3, .pointer (some ⟨b3, 0, none⟩)), (7, .bool (Key.eqb p0 p1))]) (As' := [.box b3 [.int .i64 p1.table, .int .u16 p1.id], .box b2 [.int .i64 p0.table, .int .u16 p0.id]]) (ob := [fun _ => (⟨b2, 0, none⟩ : Addr) = (⟨b2, 0, none⟩ : Addr).add 0, fun _ => (⟨b3, 0, none⟩ : Addr) = (⟨b3, 0, none⟩ : Addr).add 0, fun w => EqOk Try.prog .eql 28 (Value.agg #[.int .i64 p0.table, .int .u16 p0.id]) (Value.agg #[.int .i64 p1.table, .int .u16 p1.id]) (.bool (Key.eqb p0 p1)) w]) (by kernel_rfl) (⟨Bx.c rfl, Bx.c rfl, fun w _ => Key_eql p0.table p0.id p1.table p1.id w, trivial⟩) fun a w hS => ?_
  refine wl_end ?_
  refine hK5 _ _ ?_
  refine k_cond (Key.eqb p0 p1) hS.has (by kernel_rfl) (by kernel_rfl) (by kernel_rfl) (fun hb6 => ?_) (fun hb6 => ?_)
  · replace h := ctrue hb6 h
    refine k_seq (by kernel_rfl) fun K7 hK7 => ?_
    refine k_reg 1 (by kernel_rfl) ?_
    refine r_run 0 1 [4] [] hS rfl (L' := [(4, .int .i64 0)]) (As' := [.box b3 [.int .i64 p1.table, .int .u16 p1.id], .box b2 [.int .i64 p0.table, .int .u16 p0.id]]) (ob := []) (by kernel_rfl) (trivial) fun a w hS => ?_
    refine wl_end ?_
    refine hK7 _ _ ?_
    refine k_ret (by kernel_rfl) ?_
    obtain rfl := someI h
    try simp only [Exit.then, Exit.inBlock]
    refine r_ret hS [.tmp 4] [] (xs := [.int .i64 0]) (ps := []) [] [] rfl (by kernel_rfl) (fun hA => trivial) rfl (fun F up => trivial) ?_
    exact ⟨rfl, rfl, rfl⟩
  · replace h := cfalse hb6 h
    refine k_skip (by kernel_rfl) ?_
    refine hK4 _ _ ?_
    refine k_seq (by kernel_rfl) fun K8 hK8 => ?_
    refine k_seq (by kernel_rfl) fun K9 hK9 => ?_
    refine k_reg 19 (by kernel_rfl) ?_
    refine r_run 0 6 [2, 3, 13] [.own 1 0, .own 0 0] hS rfl (L' := [(2, .pointer (some ⟨b2, 0, none⟩)), (3, .pointer (some ⟨b3, 0, none⟩)), (13, .bool (decide (p0.table < p1.table)))]) (As' := [.box b3 [.int .i64 p1.table, .int .u16 p1.id], .box b2 [.int .i64 p0.table, .int .u16 p0.id]]) (ob := [fun _ => (⟨b2, 0, none⟩ : Addr) = (⟨b2, 0, none⟩ : Addr).add 0, fun _ => (⟨b3, 0, none⟩ : Addr) = (⟨b3, 0, none⟩ : Addr).add 0]) (by kernel_rfl) (⟨Bx.c rfl, Bx.c rfl, trivial⟩) fun a w hS => ?_
    refine wl_cut 19 rfl rfl fun K10 hK10 => ?_
    have JK10 : ∀ a w, Sy C 27 a w [(26, .bool ((decide (p0.table < p1.table)) || ((p0.table == p1.table) && (decide (p0.id < p1.id)))))] [.box b3 [.int .i64 p1.table, .int .u16 p1.id], .box b2 [.int .i64 p0.table, .int .u16 p0.id]] [] → K10 a w := by
      intro a w hS
      refine hK10 _ _ ?_
      refine wl_end ?_
      refine hK9 _ _ ?_
      refine k_cond ((decide (p0.table < p1.table)) || ((p0.table == p1.table) && (decide (p0.id < p1.id)))) hS.has (by kernel_rfl) (by kernel_rfl) (by kernel_rfl) (fun hb11 => ?_) (fun hb11 => ?_)
      · replace h := ctrue hb11 h
        refine k_seq (by kernel_rfl) fun K12 hK12 => ?_
        refine k_reg 1 (by kernel_rfl) ?_
        refine r_run 0 1 [4] [] hS rfl (L' := [(4, .int .i64 (-1))]) (As' := [.box b3 [.int .i64 p1.table, .int .u16 p1.id], .box b2 [.int .i64 p0.table, .int .u16 p0.id]]) (ob := []) (by kernel_rfl) (trivial) fun a w hS => ?_
        refine wl_end ?_
        refine hK12 _ _ ?_
        refine k_ret (by kernel_rfl) ?_
        obtain rfl := someI h
        try simp only [Exit.then, Exit.inBlock]
        refine r_ret hS [.tmp 4] [] (xs := [.int .i64 (-1)]) (ps := []) [] [] rfl (by kernel_rfl) (fun hA => trivial) rfl (fun F up => trivial) ?_
        exact ⟨rfl, rfl, rfl⟩
      · replace h := cfalse hb11 h
        refine k_skip (by kernel_rfl) ?_
        refine hK8 _ _ ?_
        refine k_seq (by kernel_rfl) fun K13 hK13 => ?_
        refine k_reg 1 (by kernel_rfl) ?_
        refine r_run 0 1 [4] [] hS rfl (L' := [(4, .int .i64 1)]) (As' := [.box b3 [.int .i64 p1.table, .int .u16 p1.id], .box b2 [.int .i64 p0.table, .int .u16 p0.id]]) (ob := []) (by kernel_rfl) (trivial) fun a w hS => ?_
        refine wl_end ?_
        refine hK13 _ _ ?_
        refine k_ret (by kernel_rfl) ?_
        obtain rfl := someI h
        try simp only [Exit.then, Exit.inBlock]
        refine r_ret hS [.tmp 4] [] (xs := [.int .i64 1]) (ps := []) [] [] rfl (by kernel_rfl) (fun hA => trivial) rfl (fun F up => trivial) ?_
        exact ⟨rfl, rfl, rfl⟩
    cases hb14 : (decide (p0.table < p1.table))
    · replace hS := hS.env (L' := [(2, .pointer (some ⟨b2, 0, none⟩)), (3, .pointer (some ⟨b3, 0, none⟩)), (13, .bool false)]) (by rw [hb14])
      refine r_run 6 6 [2, 3, 13, 19] [.own 1 0, .own 0 0] hS rfl (L' := [(2, .pointer (some ⟨b2, 0, none⟩)), (3, .pointer (some ⟨b3, 0, none⟩)), (13, .bool false), (19, .bool (p0.table == p1.table))]) (As' := [.box b3 [.int .i64 p1.table, .int .u16 p1.id], .box b2 [.int .i64 p0.table, .int .u16 p0.id]]) (ob := [fun _ => (⟨b2, 0, none⟩ : Addr) = (⟨b2, 0, none⟩ : Addr).add 0, fun _ => (⟨b3, 0, none⟩ : Addr) = (⟨b3, 0, none⟩ : Addr).add 0]) (by kernel_rfl) (⟨Bx.c rfl, Bx.c rfl, trivial⟩) fun a w hS => ?_
      refine wl_cut 18 rfl rfl fun K15 hK15 => ?_
      have JK15 : ∀ a w, Sy C 27 a w [(13, .bool false), (25, .bool ((p0.table == p1.table) && (decide (p0.id < p1.id))))] [.box b3 [.int .i64 p1.table, .int .u16 p1.id], .box b2 [.int .i64 p0.table, .int .u16 p0.id]] [] → K15 a w := by
        intro a w hS
        refine hK15 _ _ ?_
        refine r_run 18 1 [26] [] hS rfl (L' := [(26, .bool ((p0.table == p1.table) && (decide (p0.id < p1.id))))]) (As' := [.box b3 [.int .i64 p1.table, .int .u16 p1.id], .box b2 [.int .i64 p0.table, .int .u16 p0.id]]) (ob := []) (by kernel_rfl) (trivial) fun a w hS => ?_
        refine wl_end ?_
        replace hS := hS.got [26] [0, 0] [] 0 (L' := [(26, .bool ((p0.table == p1.table) && (decide (p0.id < p1.id))))]) (Bs := [.box b3 [.int .i64 p1.table, .int .u16 p1.id], .box b2 [.int .i64 p0.table, .int .u16 p0.id]]) (Rs := []) (by kernel_rfl) (by kernel_rfl) (by kernel_rfl)
        exact JK10 _ _ (hS.env (by rw [hb14]; rfl))
      cases hb16 : (p0.table == p1.table)
      · replace hS := hS.env (L' := [(2, .pointer (some ⟨b2, 0, none⟩)), (3, .pointer (some ⟨b3, 0, none⟩)), (13, .bool false), (19, .bool false)]) (by rw [hb16])
        refine r_run 12 6 [13, 25] [] hS rfl (L' := [(13, .bool false), (25, .bool false)]) (As' := [.box b3 [.int .i64 p1.table, .int .u16 p1.id], .box b2 [.int .i64 p0.table, .int .u16 p0.id]]) (ob := []) (by kernel_rfl) (trivial) fun a w hS => ?_
        refine wl_end ?_
        replace hS := hS.got [13, 25] [0, 0] [] 0 (L' := [(13, .bool false), (25, .bool false)]) (Bs := [.box b3 [.int .i64 p1.table, .int .u16 p1.id], .box b2 [.int .i64 p0.table, .int .u16 p0.id]]) (Rs := []) (by kernel_rfl) (by kernel_rfl) (by kernel_rfl)
        exact JK15 _ _ (hS.env (by rw [hb16]; rfl))
      · replace hS := hS.env (L' := [(2, .pointer (some ⟨b2, 0, none⟩)), (3, .pointer (some ⟨b3, 0, none⟩)), (13, .bool false), (19, .bool true)]) (by rw [hb16])
        refine r_run 12 6 [13, 25] [.own 1 1, .own 0 1] hS rfl (L' := [(13, .bool false), (25, .bool (decide (p0.id < p1.id)))]) (As' := [.box b3 [.int .i64 p1.table, .int .u16 p1.id], .box b2 [.int .i64 p0.table, .int .u16 p0.id]]) (ob := [fun _ => ⟨b2, 1, none⟩ = (⟨b2, 0, none⟩ : Addr).add 1, fun _ => ⟨b3, 1, none⟩ = (⟨b3, 0, none⟩ : Addr).add 1]) (by kernel_rfl) (⟨Bx.c rfl, Bx.c rfl, trivial⟩) fun a w hS => ?_
        refine wl_end ?_
        replace hS := hS.got [13, 25] [0, 0] [] 0 (L' := [(13, .bool false), (25, .bool (decide (p0.id < p1.id)))]) (Bs := [.box b3 [.int .i64 p1.table, .int .u16 p1.id], .box b2 [.int .i64 p0.table, .int .u16 p0.id]]) (Rs := []) (by kernel_rfl) (by kernel_rfl) (by kernel_rfl)
        exact JK15 _ _ (hS.env (by rw [hb16]; rfl))
    · replace hS := hS.env (L' := [(2, .pointer (some ⟨b2, 0, none⟩)), (3, .pointer (some ⟨b3, 0, none⟩)), (13, .bool true)]) (by rw [hb14])
      refine r_run 6 13 [26] [] hS rfl (L' := [(26, .bool true)]) (As' := [.box b3 [.int .i64 p1.table, .int .u16 p1.id], .box b2 [.int .i64 p0.table, .int .u16 p0.id]]) (ob := []) (by kernel_rfl) (trivial) fun a w hS => ?_
      refine wl_end ?_
      replace hS := hS.got [26] [0, 0] [] 0 (L' := [(26, .bool true)]) (Bs := [.box b3 [.int .i64 p1.table, .int .u16 p1.id], .box b2 [.int .i64 p0.table, .int .u16 p0.id]]) (Rs := []) (by kernel_rfl) (by kernel_rfl) (by kernel_rfl)
      exact JK10 _ _ (hS.env (by rw [hb14]; rfl))

/-! bursary bursaryref05.RightList -/
def ref05_RightList_j1 (n : Nat) (v9 : Int) (k_ref05_RightList_l1 : (Int → Option Bool)) (v18 : Bool) : Option Bool :=
  cond v18
    (some false)
    (k_ref05_RightList_l1 (IntKind.wrap .i64 (v9 + 1)))
def ref05_RightList_l1 (n : Nat) (p0 : Schema) (p1 : (List Row)) : Nat → Int → Option Bool
  | 0, _ => none
  | m10 + 1, v9 =>
    cond (decide (v9 < (p1.length : Int)))
      ((idx p1 v9).bind fun x21 =>
      (ref05_RowError n p0 x21).bind fun y22 =>
      cond (y22 != 0)
        (ref05_RightList_j1 n v9 (ref05_RightList_l1 n p0 p1 m10) true)
        (cond (decide (v9 > 0))
          ((idx p1 (IntKind.wrap .i64 (v9 - 1))).bind fun x25 =>
          (idx p1 v9).bind fun x26 =>
          (ref05_Compare n x25.key x26.key).bind fun y27 =>
          ref05_RightList_j1 n v9 (ref05_RightList_l1 n p0 p1 m10) (decide (y27 ≥ 0)))
          (ref05_RightList_j1 n v9 (ref05_RightList_l1 n p0 p1 m10) false)))
      (some true)
def ref05_RightList (n : Nat) (p0 : Schema) (p1 : (List Row)) : Option Bool :=
  cond (decide ((p1.length : Int) > 60))
    (some false)
    (ref05_RightList_l1 n p0 p1 n 0)
theorem ref05_RightList_ok {a0_tables : Option Addr} {c0_tables : Nat} {a1 : Option Addr} {c1 : Nat} (n : Nat) (p0 : Schema) (p1 : (List Row)) (r : Bool)  (h : ref05_RightList n p0 p1 = some r) :
    Meets Try.prog 17 #[Value.agg #[.slice a0_tables p0.tables.length c0_tables], .slice a1 p1.length c1] [] [RSf flat_Bounds a0_tables c0_tables p0.tables, RSf flat_Row a1 c1 p1] fun v A P => v = .bool r ∧ A = [] ∧ P = [] := by
  unfold ref05_RightList at h
  refine meets_enter 41 Try.func17 Try.call17 rfl (by kernel_rfl) (by simp) fun C a w hS => ?_
  refine k_seq (by kernel_rfl) fun K1 hK1 => ?_
  refine k_reg 2 (by kernel_rfl) ?_
  refine r_run1 0 2 [1, 2] [] hS rfl (L' := fun b2 => [(1, .slice a1 p1.length c1), (2, .pointer (some ⟨b2, 0, none⟩))]) (As' := fun b2 => [.box b2 [.slice a0_tables p0.tables.length c0_tables]]) (ob := fun b2 => []) (fun b2 => by kernel_rfl) (fun b2 => trivial) fun b2 a w hS => ?_
  refine wl_end ?_
  refine hK1 _ _ ?_
  refine k_seq (by kernel_rfl) fun K3 hK3 => ?_
  refine k_seq (by kernel_rfl) fun K4 hK4 => ?_
  refine k_reg 3 (by kernel_rfl) ?_
  refine r_run 0 3 [1, 2, 8] [] hS rfl (L' := [(1, .slice a1 p1.length c1), (2, .pointer (some ⟨b2, 0, none⟩)), (8, .bool (decide ((p1.length : Int) > 60)))]) (As' := [.box b2 [.slice a0_tables p0.tables.length c0_tables]]) (ob := []) (by kernel_rfl) (trivial) fun a w hS => ?_
  refine wl_end ?_
  refine hK4 _ _ ?_
  refine k_cond (decide ((p1.length : Int) > 60)) hS.has (by kernel_rfl) (by kernel_rfl) (by kernel_rfl) (fun hb5 => ?_) (fun hb5 => ?_)
  · replace h := ctrue hb5 h
    refine k_seq (by kernel_rfl) fun K6 hK6 => ?_
    refine k_reg 1 (by kernel_rfl) ?_
    refine r_run 0 1 [4] [] hS rfl (L' := [(4, .bool false)]) (As' := [.box b2 [.slice a0_tables p0.tables.length c0_tables]]) (ob := []) (by kernel_rfl) (trivial) fun a w hS => ?_
    refine wl_end ?_
    refine hK6 _ _ ?_
    refine k_ret (by kernel_rfl) ?_
    obtain rfl := someI h
    try simp only [Exit.then, Exit.inBlock]
    refine r_ret hS [.tmp 4] [] (xs := [.bool false]) (ps := []) [] [] rfl (by kernel_rfl) (fun hA => trivial) rfl (fun F up => trivial) ?_
    exact ⟨rfl, rfl, rfl⟩
  · replace h := cfalse hb5 h
    refine k_skip (by kernel_rfl) ?_
    refine hK3 _ _ ?_
    refine k_seq (by kernel_rfl) fun K7 hK7 => ?_
    refine k_seq (by kernel_rfl) fun K8 hK8 => ?_
    refine k_reg 1 (by kernel_rfl) ?_
    refine r_run 0 1 [1, 2, 5] [] hS rfl (L' := [(1, .slice a1 p1.length c1), (2, .pointer (some ⟨b2, 0, none⟩)), (5, .int .i64 0)]) (As' := [.box b2 [.slice a0_tables p0.tables.length c0_tables]]) (ob := []) (by kernel_rfl) (trivial) fun a w hS => ?_
    refine wl_end ?_
    refine hK8 _ _ ?_
    refine k_blk (by kernel_rfl) ?_
    refine k_loop (by kernel_rfl) (fun m10 a w => ∃ (v9 : Int), ref05_RightList_l1 n p0 p1 m10 v9 = some r ∧ Sy C 41 a w [(1, .slice a1 p1.length c1), (2, .pointer (some ⟨b2, 0, none⟩)), (5, .int .i64 v9)] [.box b2 [.slice a0_tables p0.tables.length c0_tables]] [RSf flat_Bounds a0_tables c0_tables p0.tables, RSf flat_Row a1 c1 p1]) n ⟨0, h, (hS.got [1, 2, 5] [0] [] 0 (by kernel_rfl) (by kernel_rfl) (by kernel_rfl))⟩ ?_
    rintro m10 a w ⟨v9, h, hS⟩ K11 hK11
    cases m10 with
    | zero => exact (noneS h).elim
    | succ m10 =>
      unfold ref05_RightList_l1 at h
      refine k_seq (by kernel_rfl) fun K12 hK12 => ?_
      refine k_seq (by kernel_rfl) fun K13 hK13 => ?_
      refine k_reg 4 (by kernel_rfl) ?_
      refine r_run 0 4 [1, 2, 5, 12] [] hS rfl (L' := [(1, .slice a1 p1.length c1), (2, .pointer (some ⟨b2, 0, none⟩)), (5, .int .i64 v9), (12, .bool (decide (v9 < (p1.length : Int))))]) (As' := [.box b2 [.slice a0_tables p0.tables.length c0_tables]]) (ob := []) (by kernel_rfl) (trivial) fun a w hS => ?_
      refine wl_end ?_
      refine hK13 _ _ ?_
      refine k_cond (decide (v9 < (p1.length : Int))) hS.has (by kernel_rfl) (by kernel_rfl) (by kernel_rfl) (fun hb14 => ?_) (fun hb14 => ?_)
      · replace h := ctrue hb14 h
        refine k_skip (by kernel_rfl) ?_
        refine hK12 _ _ ?_
        refine k_seq (by kernel_rfl) fun K15 hK15 => ?_
        refine k_blk (by kernel_rfl) ?_
        refine k_seq (by kernel_rfl) fun K16 hK16 => ?_
        refine c_name fun K17 hK17 => ?_
        have JK17 : ∀ (v18 : Bool) a w, Sy C 41 a w [(1, .slice a1 p1.length c1), (2, .pointer (some ⟨b2, 0, none⟩)), (5, .int .i64 v9), (40, .bool v18)] [.box b2 [.slice a0_tables p0.tables.length c0_tables]] [RSf flat_Bounds a0_tables c0_tables p0.tables, RSf flat_Row a1 c1 p1] → ref05_RightList_j1 n v9 (ref05_RightList_l1 n p0 p1 m10) v18 = some r → K17 a w := by
          intro v18 a w hS h
          unfold ref05_RightList_j1 at h
          refine hK17 _ _ ?_
          refine hK16 _ _ ?_
          refine k_cond v18 hS.has (by kernel_rfl) (by kernel_rfl) (by kernel_rfl) (fun hb19 => ?_) (fun hb19 => ?_)
          · replace h := ctrue hb19 h
            refine k_seq (by kernel_rfl) fun K20 hK20 => ?_
            refine k_reg 1 (by kernel_rfl) ?_
            refine r_run 0 1 [4] [] hS rfl (L' := [(4, .bool false)]) (As' := [.box b2 [.slice a0_tables p0.tables.length c0_tables]]) (ob := []) (by kernel_rfl) (trivial) fun a w hS => ?_
            refine wl_end ?_
            refine hK20 _ _ ?_
            refine k_ret (by kernel_rfl) ?_
            obtain rfl := someI h
            try simp only [Exit.then, Exit.inBlock]
            refine r_ret hS [.tmp 4] [] (xs := [.bool false]) (ps := []) [] [] rfl (by kernel_rfl) (fun hA => trivial) rfl (fun F up => trivial) ?_
            exact ⟨rfl, rfl, rfl⟩
          · replace h := cfalse hb19 h
            refine k_skip (by kernel_rfl) ?_
            refine hK15 _ _ ?_
            refine k_reg 3 (by kernel_rfl) ?_
            refine r_run 0 3 [1, 2, 5] [] hS rfl (L' := [(1, .slice a1 p1.length c1), (2, .pointer (some ⟨b2, 0, none⟩)), (5, .int .i64 (IntKind.wrap .i64 (v9 + 1)))]) (As' := [.box b2 [.slice a0_tables p0.tables.length c0_tables]]) (ob := []) (by kernel_rfl) (trivial) fun a w hS => ?_
            refine wl_end ?_
            exact hK11 m10 _ _ (Nat.lt_succ_self _) ⟨(IntKind.wrap .i64 (v9 + 1)), h, (hS.got [1, 2, 5] [0] [] 0 (by kernel_rfl) (by kernel_rfl) (by kernel_rfl))⟩
        obtain ⟨x21, hx21, h⟩ := bindS h
        have ix21 := fidxB (F := flat_Row) (hS.p 1 rfl) hx21
        obtain ⟨y22, hy22, h⟩ := bindS h
        cases hb23 : (y22 != 0)
        · replace h := cfalse hb23 h
          cases hb24 : (decide (v9 > 0))
          · replace h := cfalse hb24 h
            refine k_draw 22 26 [.val (Value.agg #[.slice a0_tables p0.tables.length c0_tables]), .val (.slice a1 p1.length c1), .val (.int .i64 v9), .val (.pointer (some (Addr.add (baseOf a1) (Int.toNat v9 * 4)))), .val (Value.agg #[.int .i64 x21.key.table, .int .u16 x21.key.id, .int .i64 x21.val, .string x21.note]), .val (.int .i64 y22), .val (.bool (y22 != 0)), .val (.bool false), .val (.int .i64 v9), .val (.bool (decide (v9 > 0))), .val (.bool false), .val (undef), .val (undef), .val (undef), .val (undef), .val (undef), .val (undef), .val (undef), .val (undef), .val (undef), .val (undef), .val (undef)] [] [(0, [.own 0 0]), (1, []), (2, []), (3, []), (4, [.ext [.int .i64 x21.key.table, .int .u16 x21.key.id, .int .i64 x21.val, .string x21.note]]), (6, []), (7, [.as 22 (.bool false)]), (8, []), (9, []), (10, [.as 25 (.bool false)]), (11, []), (12, []), (13, []), (14, []), (15, []), (16, []), (17, []), (18, []), (19, []), (20, []), (21, [])] [5] (ob := [fun _ => (⟨b2, 0, none⟩ : Addr) = (⟨b2, 0, none⟩ : Addr).add 0, fun _ => Inb a1 p1.length v9, Cel (Addr.add (baseOf a1) (Int.toNat v9 * 4)) [.int .i64 x21.key.table, .int .u16 x21.key.id, .int .i64 x21.val, .string x21.note], fun _ => Value.bool (y22 != 0) = .bool false, fun _ => Value.bool (decide (v9 > 0)) = .bool false]) (by kernel_rfl) (by kernel_rfl) hS (by kernel_rfl) (fun F N0 => by kernel_rfl) (by kernel_rfl) (by kernel_rfl) (by kernel_rfl) (by kernel_rfl) ⟨Bx.c rfl, Bx.c ix21.1, ix21.2, Bx.c (by rw [hb23]), Bx.c (by rw [hb24]), trivial⟩ ?_ ?_
            · refine ⟨?_, trivial⟩
              · intro V a w e hS hq
                exact d_callV (d := 20) [] hS (args := #[Value.agg #[.slice a0_tables p0.tables.length c0_tables], Value.agg #[.int .i64 x21.key.table, .int .u16 x21.key.id, .int .i64 x21.val, .string x21.note]]) (by kernel_rfl) rfl (ref05_RowError_ok n p0 x21 y22 hy22) (fun F up le => ⟨up (hS.p 0 rfl), trivial⟩) (by rintro v A P ⟨rfl, rfl, rfl⟩; first | rfl | rw [hb23] | rw [hb24])
            intro V a w e hS hq
            refine r_run 22 4 [1, 2, 5, 40] [] hS rfl (L' := [(1, .slice a1 p1.length c1), (2, .pointer (some ⟨b2, 0, none⟩)), (5, .int .i64 v9), (40, .bool false)]) (As' := [.box b2 [.slice a0_tables p0.tables.length c0_tables]]) (ob := []) (by kernel_rfl) (trivial) fun a w hS => ?_
            refine wl_end ?_
            exact JK17 false _ _ (hS.got [1, 2, 5, 40] [0] [] 0 (by kernel_rfl) (by kernel_rfl) (by kernel_rfl)) h
          · replace h := ctrue hb24 h
            obtain ⟨x25, hx25, h⟩ := bindS h
            have ix25 := fidxB (F := flat_Row) (hS.p 1 rfl) hx25
            obtain ⟨x26, hx26, h⟩ := bindS h
            have ix26 := fidxB (F := flat_Row) (hS.p 1 rfl) hx26
            refine k_draw 22 26 [.val (Value.agg #[.slice a0_tables p0.tables.length c0_tables]), .val (.slice a1 p1.length c1), .val (.int .i64 v9), .val (.pointer (some (Addr.add (baseOf a1) (Int.toNat v9 * 4)))), .val (Value.agg #[.int .i64 x21.key.table, .int .u16 x21.key.id, .int .i64 x21.val, .string x21.note]), .val (.int .i64 y22), .val (.bool (y22 != 0)), .val (.bool false), .val (.int .i64 v9), .val (.bool (decide (v9 > 0))), .val (.bool true), .val (.slice a1 p1.length c1), .val (.int .i64 v9), .val (.int .i64 (IntKind.wrap .i64 (v9 - 1))), .val (.pointer (some (Addr.add (baseOf a1) (Int.toNat (IntKind.wrap .i64 (v9 - 1)) * 4)))), .val (.pointer (some (Addr.add (Addr.add (baseOf a1) (Int.toNat (IntKind.wrap .i64 (v9 - 1)) * 4)) 0))), .val (Value.agg #[.int .i64 x25.key.table, .int .u16 x25.key.id]), .val (.slice a1 p1.length c1), .val (.int .i64 v9), .val (.pointer (some (Addr.add (baseOf a1) (Int.toNat v9 * 4)))), .val (.pointer (some (Addr.add (Addr.add (baseOf a1) (Int.toNat v9 * 4)) 0))), .val (Value.agg #[.int .i64 x26.key.table, .int .u16 x26.key.id])] [] [(0, [.own 0 0]), (1, []), (2, []), (3, []), (4, [.ext [.int .i64 x21.key.table, .int .u16 x21.key.id, .int .i64 x21.val, .string x21.note]]), (6, []), (7, [.as 22 (.bool false)]), (8, []), (9, []), (10, [.as 25 (.bool true)]), (11, []), (12, []), (13, []), (14, []), (15, []), (16, [.ext [.int .i64 x25.key.table, .int .u16 x25.key.id]]), (17, []), (18, []), (19, []), (20, []), (21, [.ext [.int .i64 x26.key.table, .int .u16 x26.key.id]])] [5] (ob := [fun _ => (⟨b2, 0, none⟩ : Addr) = (⟨b2, 0, none⟩ : Addr).add 0, fun _ => Inb a1 p1.length v9, Cel (Addr.add (baseOf a1) (Int.toNat v9 * 4)) [.int .i64 x21.key.table, .int .u16 x21.key.id, .int .i64 x21.val, .string x21.note], fun _ => Value.bool (y22 != 0) = .bool false, fun _ => Value.bool (decide (v9 > 0)) = .bool true, fun _ => Inb a1 p1.length (IntKind.wrap .i64 (v9 - 1)), Cel (Addr.add (Addr.add (baseOf a1) (Int.toNat (IntKind.wrap .i64 (v9 - 1)) * 4)) 0) [.int .i64 x25.key.table, .int .u16 x25.key.id], fun _ => Inb a1 p1.length v9, Cel (Addr.add (Addr.add (baseOf a1) (Int.toNat v9 * 4)) 0) [.int .i64 x26.key.table, .int .u16 x26.key.id]]) (by kernel_rfl) (by kernel_rfl) hS (by kernel_rfl) (fun F N0 => by kernel_rfl) (by kernel_rfl) (by kernel_rfl) (by kernel_rfl) (by kernel_rfl) ⟨Bx.c rfl, Bx.c ix21.1, ix21.2, Bx.c (by rw [hb23]), Bx.c (by rw [hb24]), Bx.c ix25.1, (Bx.sub ix25.2 0 2), Bx.c ix26.1, (Bx.sub ix26.2 0 2), trivial⟩ ?_ ?_
            · refine ⟨?_, trivial⟩
              · intro V a w e hS hq
                exact d_callV (d := 20) [] hS (args := #[Value.agg #[.slice a0_tables p0.tables.length c0_tables], Value.agg #[.int .i64 x21.key.table, .int .u16 x21.key.id, .int .i64 x21.val, .string x21.note]]) (by kernel_rfl) rfl (ref05_RowError_ok n p0 x21 y22 hy22) (fun F up le => ⟨up (hS.p 0 rfl), trivial⟩) (by rintro v A P ⟨rfl, rfl, rfl⟩; first | rfl | rw [hb23] | rw [hb24])
            intro V a w e hS hq
            obtain ⟨y27, hy27, h⟩ := bindS h
            refine r_call 22 rfl (d := some 37) (g := 32) (args := #[Value.agg #[.int .i64 x25.key.table, .int .u16 x25.key.id], Value.agg #[.int .i64 x26.key.table, .int .u16 x26.key.id]]) [] hS (by kernel_rfl) rfl (ref05_Compare_ok n x25.key x26.key y27 hy27) (fun F up => trivial) ?_
            rintro v A P a w ⟨rfl, rfl, rfl⟩ hS
            refine r_run 23 3 [1, 2, 5, 40] [] hS rfl (L' := [(1, .slice a1 p1.length c1), (2, .pointer (some ⟨b2, 0, none⟩)), (5, .int .i64 v9), (40, .bool (decide (y27 ≥ 0)))]) (As' := [.box b2 [.slice a0_tables p0.tables.length c0_tables]]) (ob := []) (by kernel_rfl) (trivial) fun a w hS => ?_
            refine wl_end ?_
            exact JK17 (decide (y27 ≥ 0)) _ _ (hS.got [1, 2, 5, 40] [0] [] 0 (by kernel_rfl) (by kernel_rfl) (by kernel_rfl)) h
        · replace h := ctrue hb23 h
          refine k_draw 22 26 [.val (Value.agg #[.slice a0_tables p0.tables.length c0_tables]), .val (.slice a1 p1.length c1), .val (.int .i64 v9), .val (.pointer (some (Addr.add (baseOf a1) (Int.toNat v9 * 4)))), .val (Value.agg #[.int .i64 x21.key.table, .int .u16 x21.key.id, .int .i64 x21.val, .string x21.note]), .val (.int .i64 y22), .val (.bool (y22 != 0)), .val (.bool true), .val (undef), .val (undef), .val (undef), .val (undef), .val (undef), .val (undef), .val (undef), .val (undef), .val (undef), .val (undef), .val (undef), .val (undef), .val (undef), .val (undef)] [] [(0, [.own 0 0]), (1, []), (2, []), (3, []), (4, [.ext [.int .i64 x21.key.table, .int .u16 x21.key.id, .int .i64 x21.val, .string x21.note]]), (6, []), (7, [.as 22 (.bool true)]), (8, []), (9, []), (10, []), (11, []), (12, []), (13, []), (14, []), (15, []), (16, []), (17, []), (18, []), (19, []), (20, []), (21, [])] [5] (ob := [fun _ => (⟨b2, 0, none⟩ : Addr) = (⟨b2, 0, none⟩ : Addr).add 0, fun _ => Inb a1 p1.length v9, Cel (Addr.add (baseOf a1) (Int.toNat v9 * 4)) [.int .i64 x21.key.table, .int .u16 x21.key.id, .int .i64 x21.val, .string x21.note], fun _ => Value.bool (y22 != 0) = .bool true]) (by kernel_rfl) (by kernel_rfl) hS (by kernel_rfl) (fun F N0 => by kernel_rfl) (by kernel_rfl) (by kernel_rfl) (by kernel_rfl) (by kernel_rfl) ⟨Bx.c rfl, Bx.c ix21.1, ix21.2, Bx.c (by rw [hb23]), trivial⟩ ?_ ?_
          · refine ⟨?_, trivial⟩
            · intro V a w e hS hq
              exact d_callV (d := 20) [] hS (args := #[Value.agg #[.slice a0_tables p0.tables.length c0_tables], Value.agg #[.int .i64 x21.key.table, .int .u16 x21.key.id, .int .i64 x21.val, .string x21.note]]) (by kernel_rfl) rfl (ref05_RowError_ok n p0 x21 y22 hy22) (fun F up le => ⟨up (hS.p 0 rfl), trivial⟩) (by rintro v A P ⟨rfl, rfl, rfl⟩; first | rfl | rw [hb23])
          intro V a w e hS hq
          refine r_run 22 4 [1, 2, 5, 40] [] hS rfl (L' := [(1, .slice a1 p1.length c1), (2, .pointer (some ⟨b2, 0, none⟩)), (5, .int .i64 v9), (40, .bool true)]) (As' := [.box b2 [.slice a0_tables p0.tables.length c0_tables]]) (ob := []) (by kernel_rfl) (trivial) fun a w hS => ?_
          refine wl_end ?_
          exact JK17 true _ _ (hS.got [1, 2, 5, 40] [0] [] 0 (by kernel_rfl) (by kernel_rfl) (by kernel_rfl)) h
      · replace h := cfalse hb14 h
        refine k_exit 0 (by kernel_rfl) ?_
        refine hK7 _ _ ?_
        refine k_seq (by kernel_rfl) fun K28 hK28 => ?_
        refine k_reg 1 (by kernel_rfl) ?_
        refine r_run 0 1 [4] [] hS rfl (L' := [(4, .bool true)]) (As' := [.box b2 [.slice a0_tables p0.tables.length c0_tables]]) (ob := []) (by kernel_rfl) (trivial) fun a w hS => ?_
        refine wl_end ?_
        refine hK28 _ _ ?_
        refine k_ret (by kernel_rfl) ?_
        obtain rfl := someI h
        try simp only [Exit.then, Exit.inBlock]
        refine r_ret hS [.tmp 4] [] (xs := [.bool true]) (ps := []) [] [] rfl (by kernel_rfl) (fun hA => trivial) rfl (fun F up => trivial) ?_
        exact ⟨rfl, rfl, rfl⟩

/-! bursary bursarylaw05.RowTells -/
def law05_RowTells_j1 (n : Nat)  (v26 : Bool) : Option Bool :=
  some v26
def law05_RowTells_l1 (n : Nat) (p0 : Schema) (p1 : (List Row)) : Nat → Int → Option Bool
  | 0, _ => none
  | m43 + 1, v42 =>
    cond (decide (v42 < (p1.length : Int)))
      ((idx p1 v42).bind fun x50 =>
      (row_CheckRow n p0 x50).bind fun y53 =>
      (ref05_RowError n p0 x50).bind fun y54 =>
      cond (y53 != y54)
        (some false)
        (law05_RowTells_l1 n p0 p1 m43 (IntKind.wrap .i64 (v42 + 1))))
      (some true)
def law05_RowTells_j2 (n : Nat) (p0 : Schema) (p1 : (List Row)) (y17 : Int) (v36 : Bool) : Option Bool :=
  cond (v36 || ((y17 != 0) && (y17 != 151)))
    (some false)
    (law05_RowTells_l1 n p0 p1 n 0)
def law05_RowTells_j3 (n : Nat) (p0 : Schema) (p1 : (List Row)) (y17 : Int) (v34 : Bool) : Option Bool :=
  cond v34
    (law05_RowTells_j2 n p0 p1 y17 true)
    ((ref05_RightList n p0 p1).bind fun y62 =>
    law05_RowTells_j2 n p0 p1 y17 (!((y17 == 0) == y62)))
def law05_RowTells (n : Nat) (p0 : Schema) (p1 : (List Row)) (p2 : Key) : Option Bool :=
  (law05_wakes n).bind fun y6 =>
  cond (!y6)
    (some false)
    ((law05_over n p0 p1).bind fun y11 =>
    cond y11
      (some true)
      ((row_Check n p0).bind fun y15 =>
      (row_CheckKey n p0 p2).bind fun y16 =>
      (row_CheckList n p0 p1).bind fun y17 =>
      (ref05_Right n p0).bind fun y20 =>
      cond (!y20)
        (cond (((y15 == 150) && (y16 == 150)) && (y17 == 150))
          ((row_CheckRow n p0 (Row.mk (Key.mk p2.table p2.id) 0 ByteArray.empty)).bind fun y28 =>
          law05_RowTells_j1 n (y28 == 150))
          (law05_RowTells_j1 n false))
        (cond (y15 != 0)
          (law05_RowTells_j3 n p0 p1 y17 true)
          ((ref05_KeyError n p0 p2).bind fun y64 =>
          law05_RowTells_j3 n p0 p1 y17 (y16 != y64)))))
theorem law05_RowTells_ok {a0_tables : Option Addr} {c0_tables : Nat} {a1 : Option Addr} {c1 : Nat} (n : Nat) (p0 : Schema) (p1 : (List Row)) (p2 : Key) (r : Bool)  (h : law05_RowTells n p0 p1 p2 = some r) :
    Meets Try.prog 3 #[Value.agg #[.slice a0_tables p0.tables.length c0_tables], .slice a1 p1.length c1, Value.agg #[.int .i64 p2.table, .int .u16 p2.id]] [] [RSf flat_Bounds a0_tables c0_tables p0.tables, RSf flat_Row a1 c1 p1] fun v A P => v = .bool r ∧ A = [] ∧ P = [] := by
  unfold law05_RowTells at h
  refine meets_enter 84 Try.func3 Try.call3 rfl (by kernel_rfl) (by simp) fun C a w hS => ?_
  refine k_seq (by kernel_rfl) fun K1 hK1 => ?_
  refine k_reg 3 (by kernel_rfl) ?_
  refine r_run2 0 3 [1, 3, 5] [] hS rfl (L' := fun b2 b3 => [(1, .slice a1 p1.length c1), (3, .pointer (some ⟨b2, 0, none⟩)), (5, .pointer (some ⟨b3, 0, none⟩))]) (As' := fun b2 b3 => [.box b3 [.int .i64 p2.table, .int .u16 p2.id], .box b2 [.slice a0_tables p0.tables.length c0_tables]]) (ob := fun b2 b3 => []) (fun b2 b3 => by kernel_rfl) (fun b2 b3 => trivial) fun b2 b3 a w hS => ?_
  refine wl_end ?_
  refine hK1 _ _ ?_
  refine k_seq (by kernel_rfl) fun K4 hK4 => ?_
  refine k_seq (by kernel_rfl) fun K5 hK5 => ?_
  refine k_reg 2 (by kernel_rfl) ?_
  obtain ⟨y6, hy6, h⟩ := bindS h
  refine r_call 0 rfl (d := some 12) (g := 9) (args := #[]) [] hS (by kernel_rfl) rfl (law05_wakes_ok n y6 hy6) (fun F up => trivial) ?_
  rintro v A P a w ⟨rfl, rfl, rfl⟩ hS
  refine r_run 1 1 [1, 3, 5, 13] [] hS rfl (L' := [(1, .slice a1 p1.length c1), (3, .pointer (some ⟨b2, 0, none⟩)), (5, .pointer (some ⟨b3, 0, none⟩)), (13, .bool (!y6))]) (As' := [.box b3 [.int .i64 p2.table, .int .u16 p2.id], .box b2 [.slice a0_tables p0.tables.length c0_tables]]) (ob := []) (by kernel_rfl) (trivial) fun a w hS => ?_
  refine wl_end ?_
  refine hK5 _ _ ?_
  refine k_cond (!y6) hS.has (by kernel_rfl) (by kernel_rfl) (by kernel_rfl) (fun hb7 => ?_) (fun hb7 => ?_)
  · replace h := ctrue hb7 h
    refine k_seq (by kernel_rfl) fun K8 hK8 => ?_
    refine k_reg 1 (by kernel_rfl) ?_
    refine r_run 0 1 [6] [] hS rfl (L' := [(6, .bool false)]) (As' := [.box b3 [.int .i64 p2.table, .int .u16 p2.id], .box b2 [.slice a0_tables p0.tables.length c0_tables]]) (ob := []) (by kernel_rfl) (trivial) fun a w hS => ?_
    refine wl_end ?_
    refine hK8 _ _ ?_
    refine k_ret (by kernel_rfl) ?_
    obtain rfl := someI h
    try simp only [Exit.then, Exit.inBlock]
    refine r_ret hS [.tmp 6] [] (xs := [.bool false]) (ps := []) [] [] rfl (by kernel_rfl) (fun hA => trivial) rfl (fun F up => trivial) ?_
    exact ⟨rfl, rfl, rfl⟩
  · replace h := cfalse hb7 h
    refine k_skip (by kernel_rfl) ?_
    refine hK4 _ _ ?_
    refine k_seq (by kernel_rfl) fun K9 hK9 => ?_
    refine k_seq (by kernel_rfl) fun K10 hK10 => ?_
    refine k_reg 3 (by kernel_rfl) ?_
    refine r_run 0 2 [1, 3, 5, 14, 15] [.own 1 0] hS rfl (L' := [(1, .slice a1 p1.length c1), (3, .pointer (some ⟨b2, 0, none⟩)), (5, .pointer (some ⟨b3, 0, none⟩)), (14, Value.agg #[.slice a0_tables p0.tables.length c0_tables]), (15, .slice a1 p1.length c1)]) (As' := [.box b3 [.int .i64 p2.table, .int .u16 p2.id], .box b2 [.slice a0_tables p0.tables.length c0_tables]]) (ob := [fun _ => (⟨b2, 0, none⟩ : Addr) = (⟨b2, 0, none⟩ : Addr).add 0]) (by kernel_rfl) (⟨Bx.c rfl, trivial⟩) fun a w hS => ?_
    obtain ⟨y11, hy11, h⟩ := bindS h
    refine r_call 2 rfl (d := some 16) (g := 10) (args := #[Value.agg #[.slice a0_tables p0.tables.length c0_tables], .slice a1 p1.length c1]) [] hS (by kernel_rfl) rfl (law05_over_ok n p0 p1 y11 hy11) (fun F up => ⟨up (hS.p 0 rfl), up (hS.p 1 rfl), trivial⟩) ?_
    rintro v A P a w ⟨rfl, rfl, rfl⟩ hS
    refine wl_end ?_
    refine hK10 _ _ ?_
    refine k_cond y11 hS.has (by kernel_rfl) (by kernel_rfl) (by kernel_rfl) (fun hb12 => ?_) (fun hb12 => ?_)
    · replace h := ctrue hb12 h
      refine k_seq (by kernel_rfl) fun K13 hK13 => ?_
      refine k_reg 1 (by kernel_rfl) ?_
      refine r_run 0 1 [6] [] hS rfl (L' := [(6, .bool true)]) (As' := [.box b3 [.int .i64 p2.table, .int .u16 p2.id], .box b2 [.slice a0_tables p0.tables.length c0_tables]]) (ob := []) (by kernel_rfl) (trivial) fun a w hS => ?_
      refine wl_end ?_
      refine hK13 _ _ ?_
      refine k_ret (by kernel_rfl) ?_
      obtain rfl := someI h
      try simp only [Exit.then, Exit.inBlock]
      refine r_ret hS [.tmp 6] [] (xs := [.bool true]) (ps := []) [] [] rfl (by kernel_rfl) (fun hA => trivial) rfl (fun F up => trivial) ?_
      exact ⟨rfl, rfl, rfl⟩
    · replace h := cfalse hb12 h
      refine k_skip (by kernel_rfl) ?_
      refine hK9 _ _ ?_
      refine k_seq (by kernel_rfl) fun K14 hK14 => ?_
      obtain ⟨y15, hy15, h⟩ := bindS h
      obtain ⟨y16, hy16, h⟩ := bindS h
      refine k_draw 7 11 [.val (Value.agg #[.slice a0_tables p0.tables.length c0_tables]), .val (.int .i64 y15), .val (Value.agg #[.slice a0_tables p0.tables.length c0_tables]), .val (Value.agg #[.int .i64 p2.table, .int .u16 p2.id]), .val (.int .i64 y16), .val (Value.agg #[.slice a0_tables p0.tables.length c0_tables]), .val (.slice a1 p1.length c1)] [] [(0, [.own 1 0]), (2, [.own 1 0]), (3, [.own 0 0]), (5, [.own 1 0]), (6, [])] [1, 4] (ob := [fun _ => (⟨b2, 0, none⟩ : Addr) = (⟨b2, 0, none⟩ : Addr).add 0, fun _ => (⟨b2, 0, none⟩ : Addr) = (⟨b2, 0, none⟩ : Addr).add 0, fun _ => (⟨b3, 0, none⟩ : Addr) = (⟨b3, 0, none⟩ : Addr).add 0, fun _ => (⟨b2, 0, none⟩ : Addr) = (⟨b2, 0, none⟩ : Addr).add 0]) (by kernel_rfl) (by kernel_rfl) hS (by kernel_rfl) (fun F N0 => by kernel_rfl) (by kernel_rfl) (by kernel_rfl) (by kernel_rfl) (by kernel_rfl) ⟨Bx.c rfl, Bx.c rfl, Bx.c rfl, Bx.c rfl, trivial⟩ ?_ ?_
      · refine ⟨?_, ?_, trivial⟩
        · intro V a w e hS hq
          exact d_callV (d := 18) [] hS (args := #[Value.agg #[.slice a0_tables p0.tables.length c0_tables]]) (by kernel_rfl) rfl (row_Check_ok n p0 y15 hy15) (fun F up le => ⟨up (hS.p 0 rfl), trivial⟩) (by rintro v A P ⟨rfl, rfl, rfl⟩; first | rfl)
        · intro V a w e hS hq
          exact d_callV (d := 21) [] hS (args := #[Value.agg #[.slice a0_tables p0.tables.length c0_tables], Value.agg #[.int .i64 p2.table, .int .u16 p2.id]]) (by kernel_rfl) rfl (row_CheckKey_ok n p0 p2 y16 hy16) (fun F up le => ⟨up (hS.p 0 rfl), trivial⟩) (by rintro v A P ⟨rfl, rfl, rfl⟩; first | rfl)
      intro V a w e hS hq
      obtain ⟨y17, hy17, h⟩ := bindS h
      refine r_call 7 rfl (d := some 24) (g := 13) (args := #[Value.agg #[.slice a0_tables p0.tables.length c0_tables], .slice a1 p1.length c1]) [] hS (by kernel_rfl) rfl (row_CheckList_ok n p0 p1 y17 hy17) (fun F up => ⟨up (hS.p 0 rfl), up (hS.p 1 rfl), trivial⟩) ?_
      rintro v A P a w ⟨rfl, rfl, rfl⟩ hS
      refine r_run 8 3 [1, 3, 5, 7, 8, 9] [] hS rfl (L' := [(1, .slice a1 p1.length c1), (3, .pointer (some ⟨b2, 0, none⟩)), (5, .pointer (some ⟨b3, 0, none⟩)), (7, .int .i64 y15), (8, .int .i64 y16), (9, .int .i64 y17)]) (As' := [.box b3 [.int .i64 p2.table, .int .u16 p2.id], .box b2 [.slice a0_tables p0.tables.length c0_tables]]) (ob := []) (by kernel_rfl) (trivial) fun a w hS => ?_
      refine wl_end ?_
      refine hK14 _ _ ?_
      refine k_seq (by kernel_rfl) fun K18 hK18 => ?_
      refine k_seq (by kernel_rfl) fun K19 hK19 => ?_
      refine k_reg 3 (by kernel_rfl) ?_
      refine r_run 0 1 [1, 3, 5, 7, 8, 9, 25] [.own 1 0] hS rfl (L' := [(1, .slice a1 p1.length c1), (3, .pointer (some ⟨b2, 0, none⟩)), (5, .pointer (some ⟨b3, 0, none⟩)), (7, .int .i64 y15), (8, .int .i64 y16), (9, .int .i64 y17), (25, Value.agg #[.slice a0_tables p0.tables.length c0_tables])]) (As' := [.box b3 [.int .i64 p2.table, .int .u16 p2.id], .box b2 [.slice a0_tables p0.tables.length c0_tables]]) (ob := [fun _ => (⟨b2, 0, none⟩ : Addr) = (⟨b2, 0, none⟩ : Addr).add 0]) (by kernel_rfl) (⟨Bx.c rfl, trivial⟩) fun a w hS => ?_
      obtain ⟨y20, hy20, h⟩ := bindS h
      refine r_call 1 rfl (d := some 26) (g := 14) (args := #[Value.agg #[.slice a0_tables p0.tables.length c0_tables]]) [] hS (by kernel_rfl) rfl (ref05_Right_ok n p0 y20 hy20) (fun F up => ⟨up (hS.p 0 rfl), trivial⟩) ?_
      rintro v A P a w ⟨rfl, rfl, rfl⟩ hS
      refine r_run 2 1 [1, 3, 5, 7, 8, 9, 27] [] hS rfl (L' := [(1, .slice a1 p1.length c1), (3, .pointer (some ⟨b2, 0, none⟩)), (5, .pointer (some ⟨b3, 0, none⟩)), (7, .int .i64 y15), (8, .int .i64 y16), (9, .int .i64 y17), (27, .bool (!y20))]) (As' := [.box b3 [.int .i64 p2.table, .int .u16 p2.id], .box b2 [.slice a0_tables p0.tables.length c0_tables]]) (ob := []) (by kernel_rfl) (trivial) fun a w hS => ?_
      refine wl_end ?_
      refine hK19 _ _ ?_
      refine k_cond (!y20) hS.has (by kernel_rfl) (by kernel_rfl) (by kernel_rfl) (fun hb21 => ?_) (fun hb21 => ?_)
      · replace h := ctrue hb21 h
        refine k_seq (by kernel_rfl) fun K22 hK22 => ?_
        refine k_reg 18 (by kernel_rfl) ?_
        refine r_run 0 3 [3, 5, 8, 9, 30] [] hS rfl (L' := [(3, .pointer (some ⟨b2, 0, none⟩)), (5, .pointer (some ⟨b3, 0, none⟩)), (8, .int .i64 y16), (9, .int .i64 y17), (30, .bool (y15 == 150))]) (As' := [.box b3 [.int .i64 p2.table, .int .u16 p2.id], .box b2 [.slice a0_tables p0.tables.length c0_tables]]) (ob := []) (by kernel_rfl) (trivial) fun a w hS => ?_
        refine wl_cut 6 rfl rfl fun K23 hK23 => ?_
        have JK23 : ∀ a w, Sy C 84 a w [(3, .pointer (some ⟨b2, 0, none⟩)), (5, .pointer (some ⟨b3, 0, none⟩)), (9, .int .i64 y17), (33, .bool ((y15 == 150) && (y16 == 150)))] [.box b3 [.int .i64 p2.table, .int .u16 p2.id], .box b2 [.slice a0_tables p0.tables.length c0_tables]] [RSf flat_Bounds a0_tables c0_tables p0.tables, RSf flat_Row a1 c1 p1] → K23 a w := by
          intro a w hS
          refine hK23 _ _ ?_
          refine r_run 6 1 [3, 5, 9, 34] [] hS rfl (L' := [(3, .pointer (some ⟨b2, 0, none⟩)), (5, .pointer (some ⟨b3, 0, none⟩)), (9, .int .i64 y17), (34, .bool ((y15 == 150) && (y16 == 150)))]) (As' := [.box b3 [.int .i64 p2.table, .int .u16 p2.id], .box b2 [.slice a0_tables p0.tables.length c0_tables]]) (ob := []) (by kernel_rfl) (trivial) fun a w hS => ?_
          refine wl_cut 10 rfl rfl fun K24 hK24 => ?_
          have JK24 : ∀ a w, Sy C 84 a w [(3, .pointer (some ⟨b2, 0, none⟩)), (5, .pointer (some ⟨b3, 0, none⟩)), (37, .bool (((y15 == 150) && (y16 == 150)) && (y17 == 150)))] [.box b3 [.int .i64 p2.table, .int .u16 p2.id], .box b2 [.slice a0_tables p0.tables.length c0_tables]] [RSf flat_Bounds a0_tables c0_tables p0.tables, RSf flat_Row a1 c1 p1] → K24 a w := by
            intro a w hS
            refine hK24 _ _ ?_
            refine r_run 10 1 [3, 5, 38] [] hS rfl (L' := [(3, .pointer (some ⟨b2, 0, none⟩)), (5, .pointer (some ⟨b3, 0, none⟩)), (38, .bool (((y15 == 150) && (y16 == 150)) && (y17 == 150)))]) (As' := [.box b3 [.int .i64 p2.table, .int .u16 p2.id], .box b2 [.slice a0_tables p0.tables.length c0_tables]]) (ob := []) (by kernel_rfl) (trivial) fun a w hS => ?_
            refine wl_cut 17 rfl rfl fun K25 hK25 => ?_
            have JK25 : ∀ (v26 : Bool) a w, Sy C 84 a w [(44, .bool v26)] [.box b3 [.int .i64 p2.table, .int .u16 p2.id], .box b2 [.slice a0_tables p0.tables.length c0_tables]] [RSf flat_Bounds a0_tables c0_tables p0.tables, RSf flat_Row a1 c1 p1] → law05_RowTells_j1 n v26 = some r → K25 a w := by
              intro v26 a w hS h
              unfold law05_RowTells_j1 at h
              refine hK25 _ _ ?_
              refine r_run 17 1 [6] [] hS rfl (L' := [(6, .bool v26)]) (As' := [.box b3 [.int .i64 p2.table, .int .u16 p2.id], .box b2 [.slice a0_tables p0.tables.length c0_tables]]) (ob := []) (by kernel_rfl) (trivial) fun a w hS => ?_
              refine wl_end ?_
              refine hK22 _ _ ?_
              refine k_ret (by kernel_rfl) ?_
              obtain rfl := someI h
              try simp only [Exit.then, Exit.inBlock]
              refine r_ret hS [.tmp 6] [] (xs := [.bool v26]) (ps := []) [] [] rfl (by kernel_rfl) (fun hA => trivial) rfl (fun F up => trivial) ?_
              exact ⟨rfl, rfl, rfl⟩
            cases hb27 : (((y15 == 150) && (y16 == 150)) && (y17 == 150))
            · replace hS := hS.env (L' := [(3, .pointer (some ⟨b2, 0, none⟩)), (5, .pointer (some ⟨b3, 0, none⟩)), (38, .bool false)]) (by rw [hb27])
              replace h := cfalse hb27 h
              refine r_run 11 6 [44] [] hS rfl (L' := [(44, .bool false)]) (As' := [.box b3 [.int .i64 p2.table, .int .u16 p2.id], .box b2 [.slice a0_tables p0.tables.length c0_tables]]) (ob := []) (by kernel_rfl) (trivial) fun a w hS => ?_
              refine wl_end ?_
              exact JK25 false _ _ (hS.got [44] [0, 0] [] 0 (by kernel_rfl) (by kernel_rfl) (by kernel_rfl)) h
            · replace hS := hS.env (L' := [(3, .pointer (some ⟨b2, 0, none⟩)), (5, .pointer (some ⟨b3, 0, none⟩)), (38, .bool true)]) (by rw [hb27])
              replace h := ctrue hb27 h
              refine r_run 11 3 [38, 39, 41] [.own 1 0, .own 0 0] hS rfl (L' := [(38, .bool true), (39, Value.agg #[.slice a0_tables p0.tables.length c0_tables]), (41, Value.agg #[.int .i64 p2.table, .int .u16 p2.id, .int .i64 0, .string ByteArray.empty])]) (As' := [.box b3 [.int .i64 p2.table, .int .u16 p2.id], .box b2 [.slice a0_tables p0.tables.length c0_tables]]) (ob := [fun _ => (⟨b2, 0, none⟩ : Addr) = (⟨b2, 0, none⟩ : Addr).add 0, fun _ => (⟨b3, 0, none⟩ : Addr) = (⟨b3, 0, none⟩ : Addr).add 0]) (by kernel_rfl) (⟨Bx.c rfl, Bx.c rfl, trivial⟩) fun a w hS => ?_
              obtain ⟨y28, hy28, h⟩ := bindS h
              refine r_call 14 rfl (d := some 42) (g := 15) (args := #[Value.agg #[.slice a0_tables p0.tables.length c0_tables], Value.agg #[.int .i64 p2.table, .int .u16 p2.id, .int .i64 0, .string ByteArray.empty]]) [] hS (by kernel_rfl) rfl (row_CheckRow_ok n p0 (Row.mk (Key.mk p2.table p2.id) 0 ByteArray.empty) y28 hy28) (fun F up => ⟨up (hS.p 0 rfl), trivial⟩) ?_
              rintro v A P a w ⟨rfl, rfl, rfl⟩ hS
              refine r_run 15 2 [44] [] hS rfl (L' := [(44, .bool (y28 == 150))]) (As' := [.box b3 [.int .i64 p2.table, .int .u16 p2.id], .box b2 [.slice a0_tables p0.tables.length c0_tables]]) (ob := []) (by kernel_rfl) (trivial) fun a w hS => ?_
              refine wl_end ?_
              exact JK25 (y28 == 150) _ _ (hS.got [44] [0, 0] [] 0 (by kernel_rfl) (by kernel_rfl) (by kernel_rfl)) h
          cases hb29 : ((y15 == 150) && (y16 == 150))
          · replace hS := hS.env (L' := [(3, .pointer (some ⟨b2, 0, none⟩)), (5, .pointer (some ⟨b3, 0, none⟩)), (9, .int .i64 y17), (34, .bool false)]) (by rw [hb29])
            refine r_run 7 3 [3, 5, 37] [] hS rfl (L' := [(3, .pointer (some ⟨b2, 0, none⟩)), (5, .pointer (some ⟨b3, 0, none⟩)), (37, .bool false)]) (As' := [.box b3 [.int .i64 p2.table, .int .u16 p2.id], .box b2 [.slice a0_tables p0.tables.length c0_tables]]) (ob := []) (by kernel_rfl) (trivial) fun a w hS => ?_
            refine wl_end ?_
            replace hS := hS.got [3, 5, 37] [0, 0] [] 0 (L' := [(3, .pointer (some ⟨b2, 0, none⟩)), (5, .pointer (some ⟨b3, 0, none⟩)), (37, .bool false)]) (Bs := [.box b3 [.int .i64 p2.table, .int .u16 p2.id], .box b2 [.slice a0_tables p0.tables.length c0_tables]]) (Rs := [RSf flat_Bounds a0_tables c0_tables p0.tables, RSf flat_Row a1 c1 p1]) (by kernel_rfl) (by kernel_rfl) (by kernel_rfl)
            exact JK24 _ _ (hS.env (by rw [hb29]; rfl))
          · replace hS := hS.env (L' := [(3, .pointer (some ⟨b2, 0, none⟩)), (5, .pointer (some ⟨b3, 0, none⟩)), (9, .int .i64 y17), (34, .bool true)]) (by rw [hb29])
            refine r_run 7 3 [3, 5, 37] [] hS rfl (L' := [(3, .pointer (some ⟨b2, 0, none⟩)), (5, .pointer (some ⟨b3, 0, none⟩)), (37, .bool (y17 == 150))]) (As' := [.box b3 [.int .i64 p2.table, .int .u16 p2.id], .box b2 [.slice a0_tables p0.tables.length c0_tables]]) (ob := []) (by kernel_rfl) (trivial) fun a w hS => ?_
            refine wl_end ?_
            replace hS := hS.got [3, 5, 37] [0, 0] [] 0 (L' := [(3, .pointer (some ⟨b2, 0, none⟩)), (5, .pointer (some ⟨b3, 0, none⟩)), (37, .bool (y17 == 150))]) (Bs := [.box b3 [.int .i64 p2.table, .int .u16 p2.id], .box b2 [.slice a0_tables p0.tables.length c0_tables]]) (Rs := [RSf flat_Bounds a0_tables c0_tables p0.tables, RSf flat_Row a1 c1 p1]) (by kernel_rfl) (by kernel_rfl) (by kernel_rfl)
            exact JK24 _ _ (hS.env (by rw [hb29]; rfl))
        cases hb30 : (y15 == 150)
        · replace hS := hS.env (L' := [(3, .pointer (some ⟨b2, 0, none⟩)), (5, .pointer (some ⟨b3, 0, none⟩)), (8, .int .i64 y16), (9, .int .i64 y17), (30, .bool false)]) (by rw [hb30])
          refine r_run 3 3 [3, 5, 9, 33] [] hS rfl (L' := [(3, .pointer (some ⟨b2, 0, none⟩)), (5, .pointer (some ⟨b3, 0, none⟩)), (9, .int .i64 y17), (33, .bool false)]) (As' := [.box b3 [.int .i64 p2.table, .int .u16 p2.id], .box b2 [.slice a0_tables p0.tables.length c0_tables]]) (ob := []) (by kernel_rfl) (trivial) fun a w hS => ?_
          refine wl_end ?_
          replace hS := hS.got [3, 5, 9, 33] [0, 0] [] 0 (L' := [(3, .pointer (some ⟨b2, 0, none⟩)), (5, .pointer (some ⟨b3, 0, none⟩)), (9, .int .i64 y17), (33, .bool false)]) (Bs := [.box b3 [.int .i64 p2.table, .int .u16 p2.id], .box b2 [.slice a0_tables p0.tables.length c0_tables]]) (Rs := [RSf flat_Bounds a0_tables c0_tables p0.tables, RSf flat_Row a1 c1 p1]) (by kernel_rfl) (by kernel_rfl) (by kernel_rfl)
          exact JK23 _ _ (hS.env (by rw [hb30]; rfl))
        · replace hS := hS.env (L' := [(3, .pointer (some ⟨b2, 0, none⟩)), (5, .pointer (some ⟨b3, 0, none⟩)), (8, .int .i64 y16), (9, .int .i64 y17), (30, .bool true)]) (by rw [hb30])
          refine r_run 3 3 [3, 5, 9, 33] [] hS rfl (L' := [(3, .pointer (some ⟨b2, 0, none⟩)), (5, .pointer (some ⟨b3, 0, none⟩)), (9, .int .i64 y17), (33, .bool (y16 == 150))]) (As' := [.box b3 [.int .i64 p2.table, .int .u16 p2.id], .box b2 [.slice a0_tables p0.tables.length c0_tables]]) (ob := []) (by kernel_rfl) (trivial) fun a w hS => ?_
          refine wl_end ?_
          replace hS := hS.got [3, 5, 9, 33] [0, 0] [] 0 (L' := [(3, .pointer (some ⟨b2, 0, none⟩)), (5, .pointer (some ⟨b3, 0, none⟩)), (9, .int .i64 y17), (33, .bool (y16 == 150))]) (Bs := [.box b3 [.int .i64 p2.table, .int .u16 p2.id], .box b2 [.slice a0_tables p0.tables.length c0_tables]]) (Rs := [RSf flat_Bounds a0_tables c0_tables p0.tables, RSf flat_Row a1 c1 p1]) (by kernel_rfl) (by kernel_rfl) (by kernel_rfl)
          exact JK23 _ _ (hS.env (by rw [hb30]; rfl))
      · replace h := cfalse hb21 h
        refine k_skip (by kernel_rfl) ?_
        refine hK18 _ _ ?_
        refine k_seq (by kernel_rfl) fun K31 hK31 => ?_
        refine k_seq (by kernel_rfl) fun K32 hK32 => ?_
        refine k_reg 25 (by kernel_rfl) ?_
        refine r_run 0 3 [1, 3, 5, 8, 9, 47] [] hS rfl (L' := [(1, .slice a1 p1.length c1), (3, .pointer (some ⟨b2, 0, none⟩)), (5, .pointer (some ⟨b3, 0, none⟩)), (8, .int .i64 y16), (9, .int .i64 y17), (47, .bool (y15 != 0))]) (As' := [.box b3 [.int .i64 p2.table, .int .u16 p2.id], .box b2 [.slice a0_tables p0.tables.length c0_tables]]) (ob := []) (by kernel_rfl) (trivial) fun a w hS => ?_
        refine wl_cut 9 rfl rfl fun K33 hK33 => ?_
        have JK33 : ∀ (v34 : Bool) a w, Sy C 84 a w [(1, .slice a1 p1.length c1), (3, .pointer (some ⟨b2, 0, none⟩)), (9, .int .i64 y17), (53, .bool v34)] [.box b3 [.int .i64 p2.table, .int .u16 p2.id], .box b2 [.slice a0_tables p0.tables.length c0_tables]] [RSf flat_Bounds a0_tables c0_tables p0.tables, RSf flat_Row a1 c1 p1] → law05_RowTells_j3 n p0 p1 y17 v34 = some r → K33 a w := by
          intro v34 a w hS h
          unfold law05_RowTells_j3 at h
          refine hK33 _ _ ?_
          refine r_run 9 1 [1, 3, 9, 54] [] hS rfl (L' := [(1, .slice a1 p1.length c1), (3, .pointer (some ⟨b2, 0, none⟩)), (9, .int .i64 y17), (54, .bool v34)]) (As' := [.box b3 [.int .i64 p2.table, .int .u16 p2.id], .box b2 [.slice a0_tables p0.tables.length c0_tables]]) (ob := []) (by kernel_rfl) (trivial) fun a w hS => ?_
          refine wl_cut 17 rfl rfl fun K35 hK35 => ?_
          have JK35 : ∀ (v36 : Bool) a w, Sy C 84 a w [(1, .slice a1 p1.length c1), (3, .pointer (some ⟨b2, 0, none⟩)), (9, .int .i64 y17), (61, .bool v36)] [.box b3 [.int .i64 p2.table, .int .u16 p2.id], .box b2 [.slice a0_tables p0.tables.length c0_tables]] [RSf flat_Bounds a0_tables c0_tables p0.tables, RSf flat_Row a1 c1 p1] → law05_RowTells_j2 n p0 p1 y17 v36 = some r → K35 a w := by
            intro v36 a w hS h
            unfold law05_RowTells_j2 at h
            refine hK35 _ _ ?_
            refine r_run 17 1 [1, 3, 9, 62] [] hS rfl (L' := [(1, .slice a1 p1.length c1), (3, .pointer (some ⟨b2, 0, none⟩)), (9, .int .i64 y17), (62, .bool v36)]) (As' := [.box b3 [.int .i64 p2.table, .int .u16 p2.id], .box b2 [.slice a0_tables p0.tables.length c0_tables]]) (ob := []) (by kernel_rfl) (trivial) fun a w hS => ?_
            refine wl_cut 25 rfl rfl fun K37 hK37 => ?_
            have JK37 : ∀ a w, Sy C 84 a w [(1, .slice a1 p1.length c1), (3, .pointer (some ⟨b2, 0, none⟩)), (69, .bool (v36 || ((y17 != 0) && (y17 != 151))))] [.box b3 [.int .i64 p2.table, .int .u16 p2.id], .box b2 [.slice a0_tables p0.tables.length c0_tables]] [RSf flat_Bounds a0_tables c0_tables p0.tables, RSf flat_Row a1 c1 p1] → K37 a w := by
              intro a w hS
              refine hK37 _ _ ?_
              refine wl_end ?_
              refine hK32 _ _ ?_
              refine k_cond (v36 || ((y17 != 0) && (y17 != 151))) hS.has (by kernel_rfl) (by kernel_rfl) (by kernel_rfl) (fun hb38 => ?_) (fun hb38 => ?_)
              · replace h := ctrue hb38 h
                refine k_seq (by kernel_rfl) fun K39 hK39 => ?_
                refine k_reg 1 (by kernel_rfl) ?_
                refine r_run 0 1 [6] [] hS rfl (L' := [(6, .bool false)]) (As' := [.box b3 [.int .i64 p2.table, .int .u16 p2.id], .box b2 [.slice a0_tables p0.tables.length c0_tables]]) (ob := []) (by kernel_rfl) (trivial) fun a w hS => ?_
                refine wl_end ?_
                refine hK39 _ _ ?_
                refine k_ret (by kernel_rfl) ?_
                obtain rfl := someI h
                try simp only [Exit.then, Exit.inBlock]
                refine r_ret hS [.tmp 6] [] (xs := [.bool false]) (ps := []) [] [] rfl (by kernel_rfl) (fun hA => trivial) rfl (fun F up => trivial) ?_
                exact ⟨rfl, rfl, rfl⟩
              · replace h := cfalse hb38 h
                refine k_skip (by kernel_rfl) ?_
                refine hK31 _ _ ?_
                refine k_seq (by kernel_rfl) fun K40 hK40 => ?_
                refine k_seq (by kernel_rfl) fun K41 hK41 => ?_
                refine k_reg 3 (by kernel_rfl) ?_
                refine r_run 0 3 [3, 70, 71, 72] [] hS rfl (L' := [(3, .pointer (some ⟨b2, 0, none⟩)), (70, .slice a1 p1.length c1), (71, .int .i64 (p1.length : Int)), (72, .int .i64 0)]) (As' := [.box b3 [.int .i64 p2.table, .int .u16 p2.id], .box b2 [.slice a0_tables p0.tables.length c0_tables]]) (ob := []) (by kernel_rfl) (trivial) fun a w hS => ?_
                refine wl_end ?_
                refine hK41 _ _ ?_
                refine k_blk (by kernel_rfl) ?_
                refine k_loop (by kernel_rfl) (fun m43 a w => ∃ (v42 : Int), law05_RowTells_l1 n p0 p1 m43 v42 = some r ∧ Sy C 84 a w [(3, .pointer (some ⟨b2, 0, none⟩)), (70, .slice a1 p1.length c1), (71, .int .i64 (p1.length : Int)), (72, .int .i64 v42)] [.box b3 [.int .i64 p2.table, .int .u16 p2.id], .box b2 [.slice a0_tables p0.tables.length c0_tables]] [RSf flat_Bounds a0_tables c0_tables p0.tables, RSf flat_Row a1 c1 p1]) n ⟨0, h, (hS.got [3, 70, 71, 72] [0, 0] [] 0 (by kernel_rfl) (by kernel_rfl) (by kernel_rfl))⟩ ?_
                rintro m43 a w ⟨v42, h, hS⟩ K44 hK44
                cases m43 with
                | zero => exact (noneS h).elim
                | succ m43 =>
                  unfold law05_RowTells_l1 at h
                  refine k_seq (by kernel_rfl) fun K45 hK45 => ?_
                  refine k_reg 1 (by kernel_rfl) ?_
                  refine r_run 0 1 [3, 70, 71, 72, 73] [] hS rfl (L' := [(3, .pointer (some ⟨b2, 0, none⟩)), (70, .slice a1 p1.length c1), (71, .int .i64 (p1.length : Int)), (72, .int .i64 v42), (73, .bool (decide (v42 < (p1.length : Int))))]) (As' := [.box b3 [.int .i64 p2.table, .int .u16 p2.id], .box b2 [.slice a0_tables p0.tables.length c0_tables]]) (ob := []) (by kernel_rfl) (trivial) fun a w hS => ?_
                  refine wl_end ?_
                  refine hK45 _ _ ?_
                  refine k_seq (by kernel_rfl) fun K46 hK46 => ?_
                  refine k_cond (decide (v42 < (p1.length : Int))) hS.has (by kernel_rfl) (by kernel_rfl) (by kernel_rfl) (fun hb47 => ?_) (fun hb47 => ?_)
                  · replace h := ctrue hb47 h
                    refine k_skip (by kernel_rfl) ?_
                    refine hK46 _ _ ?_
                    refine k_seq (by kernel_rfl) fun K48 hK48 => ?_
                    refine k_blk (by kernel_rfl) ?_
                    refine k_seq (by kernel_rfl) fun K49 hK49 => ?_
                    refine k_reg 4 (by kernel_rfl) ?_
                    obtain ⟨x50, hx50, h⟩ := bindS h
                    have ix50 := fidxB (F := flat_Row) (hS.p 1 rfl) hx50
                    refine r_run1 0 4 [3, 11, 70, 71, 72] [.ext [.int .i64 x50.key.table, .int .u16 x50.key.id, .int .i64 x50.val, .string x50.note], .own 0 0] hS rfl (L' := fun b51 => [(3, .pointer (some ⟨b2, 0, none⟩)), (11, .pointer (some ⟨b51, 0, none⟩)), (70, .slice a1 p1.length c1), (71, .int .i64 (p1.length : Int)), (72, .int .i64 v42)]) (As' := fun b51 => [.box b51 [.int .i64 x50.key.table, .int .u16 x50.key.id, .int .i64 x50.val, .string x50.note], .box b3 [.int .i64 p2.table, .int .u16 p2.id], .box b2 [.slice a0_tables p0.tables.length c0_tables]]) (ob := fun b51 => [fun _ => Inb a1 p1.length v42, Cel (Addr.add (baseOf a1) (Int.toNat v42 * 4)) [.int .i64 x50.key.table, .int .u16 x50.key.id, .int .i64 x50.val, .string x50.note], fun _ => (⟨b51, 0, none⟩ : Addr) = (⟨b51, 0, none⟩ : Addr).add 0, fun _ => ∀ u ∈ ([.int .i64 x50.key.table, .int .u16 x50.key.id, .int .i64 x50.val, .string x50.note] : List Value), u.oneCell' = true]) (fun b51 => by kernel_rfl) (fun b51 => ⟨Bx.c ix50.1, ix50.2, Bx.c rfl, Bx.c (oneAll rfl), trivial⟩) fun b51 a w hS => ?_
                    refine wl_end ?_
                    refine hK49 _ _ ?_
                    refine k_seq (by kernel_rfl) fun K52 hK52 => ?_
                    obtain ⟨y53, hy53, h⟩ := bindS h
                    refine k_draw 5 7 [.val (Value.agg #[.slice a0_tables p0.tables.length c0_tables]), .val (Value.agg #[.int .i64 x50.key.table, .int .u16 x50.key.id, .int .i64 x50.val, .string x50.note]), .val (.int .i64 y53), .val (Value.agg #[.slice a0_tables p0.tables.length c0_tables]), .val (Value.agg #[.int .i64 x50.key.table, .int .u16 x50.key.id, .int .i64 x50.val, .string x50.note])] [] [(0, [.own 2 0]), (1, [.own 0 0]), (3, [.own 2 0]), (4, [.own 0 0])] [2] (ob := [fun _ => (⟨b2, 0, none⟩ : Addr) = (⟨b2, 0, none⟩ : Addr).add 0, fun _ => (⟨b51, 0, none⟩ : Addr) = (⟨b51, 0, none⟩ : Addr).add 0, fun _ => (⟨b2, 0, none⟩ : Addr) = (⟨b2, 0, none⟩ : Addr).add 0, fun _ => (⟨b51, 0, none⟩ : Addr) = (⟨b51, 0, none⟩ : Addr).add 0]) (by kernel_rfl) (by kernel_rfl) hS (by kernel_rfl) (fun F N0 => by kernel_rfl) (by kernel_rfl) (by kernel_rfl) (by kernel_rfl) (by kernel_rfl) ⟨Bx.c rfl, Bx.c rfl, Bx.c rfl, Bx.c rfl, trivial⟩ ?_ ?_
                    · refine ⟨?_, trivial⟩
                      · intro V a w e hS hq
                        exact d_callV (d := 78) [] hS (args := #[Value.agg #[.slice a0_tables p0.tables.length c0_tables], Value.agg #[.int .i64 x50.key.table, .int .u16 x50.key.id, .int .i64 x50.val, .string x50.note]]) (by kernel_rfl) rfl (row_CheckRow_ok n p0 x50 y53 hy53) (fun F up le => ⟨up (hS.p 0 rfl), trivial⟩) (by rintro v A P ⟨rfl, rfl, rfl⟩; first | rfl)
                    intro V a w e hS hq
                    obtain ⟨y54, hy54, h⟩ := bindS h
                    refine r_call 5 rfl (d := some 81) (g := 18) (args := #[Value.agg #[.slice a0_tables p0.tables.length c0_tables], Value.agg #[.int .i64 x50.key.table, .int .u16 x50.key.id, .int .i64 x50.val, .string x50.note]]) [] hS (by kernel_rfl) rfl (ref05_RowError_ok n p0 x50 y54 hy54) (fun F up => ⟨up (hS.p 0 rfl), trivial⟩) ?_
                    rintro v A P a w ⟨rfl, rfl, rfl⟩ hS
                    refine r_run 6 1 [3, 70, 71, 72, 82] [] hS rfl (L' := [(3, .pointer (some ⟨b2, 0, none⟩)), (70, .slice a1 p1.length c1), (71, .int .i64 (p1.length : Int)), (72, .int .i64 v42), (82, .bool (y53 != y54))]) (As' := [.box b51 [.int .i64 x50.key.table, .int .u16 x50.key.id, .int .i64 x50.val, .string x50.note], .box b3 [.int .i64 p2.table, .int .u16 p2.id], .box b2 [.slice a0_tables p0.tables.length c0_tables]]) (ob := []) (by kernel_rfl) (trivial) fun a w hS => ?_
                    refine wl_end ?_
                    refine hK52 _ _ ?_
                    refine k_cond (y53 != y54) hS.has (by kernel_rfl) (by kernel_rfl) (by kernel_rfl) (fun hb55 => ?_) (fun hb55 => ?_)
                    · replace h := ctrue hb55 h
                      refine k_seq (by kernel_rfl) fun K56 hK56 => ?_
                      refine k_reg 1 (by kernel_rfl) ?_
                      refine r_run 0 1 [6] [] hS rfl (L' := [(6, .bool false)]) (As' := [.box b51 [.int .i64 x50.key.table, .int .u16 x50.key.id, .int .i64 x50.val, .string x50.note], .box b3 [.int .i64 p2.table, .int .u16 p2.id], .box b2 [.slice a0_tables p0.tables.length c0_tables]]) (ob := []) (by kernel_rfl) (trivial) fun a w hS => ?_
                      refine wl_end ?_
                      refine hK56 _ _ ?_
                      refine k_ret (by kernel_rfl) ?_
                      obtain rfl := someI h
                      try simp only [Exit.then, Exit.inBlock]
                      refine r_ret hS [.tmp 6] [] (xs := [.bool false]) (ps := []) [] [] rfl (by kernel_rfl) (fun hA => trivial) rfl (fun F up => trivial) ?_
                      exact ⟨rfl, rfl, rfl⟩
                    · replace h := cfalse hb55 h
                      refine k_skip (by kernel_rfl) ?_
                      refine hK48 _ _ ?_
                      refine k_reg 2 (by kernel_rfl) ?_
                      refine r_run 0 2 [3, 70, 71, 72] [] hS rfl (L' := [(3, .pointer (some ⟨b2, 0, none⟩)), (70, .slice a1 p1.length c1), (71, .int .i64 (p1.length : Int)), (72, .int .i64 (IntKind.wrap .i64 (v42 + 1)))]) (As' := [.box b51 [.int .i64 x50.key.table, .int .u16 x50.key.id, .int .i64 x50.val, .string x50.note], .box b3 [.int .i64 p2.table, .int .u16 p2.id], .box b2 [.slice a0_tables p0.tables.length c0_tables]]) (ob := []) (by kernel_rfl) (trivial) fun a w hS => ?_
                      refine wl_end ?_
                      exact hK44 m43 _ _ (Nat.lt_succ_self _) ⟨(IntKind.wrap .i64 (v42 + 1)), h, (hS.got [3, 70, 71, 72] [1, 1] [] 0 (by kernel_rfl) (by kernel_rfl) (by kernel_rfl))⟩
                  · replace h := cfalse hb47 h
                    refine k_exit 0 (by kernel_rfl) ?_
                    refine hK40 _ _ ?_
                    refine k_seq (by kernel_rfl) fun K57 hK57 => ?_
                    refine k_reg 1 (by kernel_rfl) ?_
                    refine r_run 0 1 [6] [] hS rfl (L' := [(6, .bool true)]) (As' := [.box b3 [.int .i64 p2.table, .int .u16 p2.id], .box b2 [.slice a0_tables p0.tables.length c0_tables]]) (ob := []) (by kernel_rfl) (trivial) fun a w hS => ?_
                    refine wl_end ?_
                    refine hK57 _ _ ?_
                    refine k_ret (by kernel_rfl) ?_
                    obtain rfl := someI h
                    try simp only [Exit.then, Exit.inBlock]
                    refine r_ret hS [.tmp 6] [] (xs := [.bool true]) (ps := []) [] [] rfl (by kernel_rfl) (fun hA => trivial) rfl (fun F up => trivial) ?_
                    exact ⟨rfl, rfl, rfl⟩
            cases hb58 : v36
            · replace hS := hS.env (L' := [(1, .slice a1 p1.length c1), (3, .pointer (some ⟨b2, 0, none⟩)), (9, .int .i64 y17), (62, .bool false)]) (by rw [hb58])
              refine r_run 18 3 [1, 3, 9, 62, 65] [] hS rfl (L' := [(1, .slice a1 p1.length c1), (3, .pointer (some ⟨b2, 0, none⟩)), (9, .int .i64 y17), (62, .bool false), (65, .bool (y17 != 0))]) (As' := [.box b3 [.int .i64 p2.table, .int .u16 p2.id], .box b2 [.slice a0_tables p0.tables.length c0_tables]]) (ob := []) (by kernel_rfl) (trivial) fun a w hS => ?_
              refine wl_cut 24 rfl rfl fun K59 hK59 => ?_
              have JK59 : ∀ a w, Sy C 84 a w [(1, .slice a1 p1.length c1), (3, .pointer (some ⟨b2, 0, none⟩)), (62, .bool false), (68, .bool ((y17 != 0) && (y17 != 151)))] [.box b3 [.int .i64 p2.table, .int .u16 p2.id], .box b2 [.slice a0_tables p0.tables.length c0_tables]] [RSf flat_Bounds a0_tables c0_tables p0.tables, RSf flat_Row a1 c1 p1] → K59 a w := by
                intro a w hS
                refine hK59 _ _ ?_
                refine r_run 24 1 [1, 3, 69] [] hS rfl (L' := [(1, .slice a1 p1.length c1), (3, .pointer (some ⟨b2, 0, none⟩)), (69, .bool ((y17 != 0) && (y17 != 151)))]) (As' := [.box b3 [.int .i64 p2.table, .int .u16 p2.id], .box b2 [.slice a0_tables p0.tables.length c0_tables]]) (ob := []) (by kernel_rfl) (trivial) fun a w hS => ?_
                refine wl_end ?_
                replace hS := hS.got [1, 3, 69] [0, 0] [] 0 (L' := [(1, .slice a1 p1.length c1), (3, .pointer (some ⟨b2, 0, none⟩)), (69, .bool ((y17 != 0) && (y17 != 151)))]) (Bs := [.box b3 [.int .i64 p2.table, .int .u16 p2.id], .box b2 [.slice a0_tables p0.tables.length c0_tables]]) (Rs := [RSf flat_Bounds a0_tables c0_tables p0.tables, RSf flat_Row a1 c1 p1]) (by kernel_rfl) (by kernel_rfl) (by kernel_rfl)
                exact JK37 _ _ (hS.env (by rw [hb58]; rfl))
              cases hb60 : (y17 != 0)
              · replace hS := hS.env (L' := [(1, .slice a1 p1.length c1), (3, .pointer (some ⟨b2, 0, none⟩)), (9, .int .i64 y17), (62, .bool false), (65, .bool false)]) (by rw [hb60])
                refine r_run 21 3 [1, 3, 62, 68] [] hS rfl (L' := [(1, .slice a1 p1.length c1), (3, .pointer (some ⟨b2, 0, none⟩)), (62, .bool false), (68, .bool false)]) (As' := [.box b3 [.int .i64 p2.table, .int .u16 p2.id], .box b2 [.slice a0_tables p0.tables.length c0_tables]]) (ob := []) (by kernel_rfl) (trivial) fun a w hS => ?_
                refine wl_end ?_
                replace hS := hS.got [1, 3, 62, 68] [0, 0] [] 0 (L' := [(1, .slice a1 p1.length c1), (3, .pointer (some ⟨b2, 0, none⟩)), (62, .bool false), (68, .bool false)]) (Bs := [.box b3 [.int .i64 p2.table, .int .u16 p2.id], .box b2 [.slice a0_tables p0.tables.length c0_tables]]) (Rs := [RSf flat_Bounds a0_tables c0_tables p0.tables, RSf flat_Row a1 c1 p1]) (by kernel_rfl) (by kernel_rfl) (by kernel_rfl)
                exact JK59 _ _ (hS.env (by rw [hb60]; rfl))
              · replace hS := hS.env (L' := [(1, .slice a1 p1.length c1), (3, .pointer (some ⟨b2, 0, none⟩)), (9, .int .i64 y17), (62, .bool false), (65, .bool true)]) (by rw [hb60])
                refine r_run 21 3 [1, 3, 62, 68] [] hS rfl (L' := [(1, .slice a1 p1.length c1), (3, .pointer (some ⟨b2, 0, none⟩)), (62, .bool false), (68, .bool (y17 != 151))]) (As' := [.box b3 [.int .i64 p2.table, .int .u16 p2.id], .box b2 [.slice a0_tables p0.tables.length c0_tables]]) (ob := []) (by kernel_rfl) (trivial) fun a w hS => ?_
                refine wl_end ?_
                replace hS := hS.got [1, 3, 62, 68] [0, 0] [] 0 (L' := [(1, .slice a1 p1.length c1), (3, .pointer (some ⟨b2, 0, none⟩)), (62, .bool false), (68, .bool (y17 != 151))]) (Bs := [.box b3 [.int .i64 p2.table, .int .u16 p2.id], .box b2 [.slice a0_tables p0.tables.length c0_tables]]) (Rs := [RSf flat_Bounds a0_tables c0_tables p0.tables, RSf flat_Row a1 c1 p1]) (by kernel_rfl) (by kernel_rfl) (by kernel_rfl)
                exact JK59 _ _ (hS.env (by rw [hb60]; rfl))
            · replace hS := hS.env (L' := [(1, .slice a1 p1.length c1), (3, .pointer (some ⟨b2, 0, none⟩)), (9, .int .i64 y17), (62, .bool true)]) (by rw [hb58])
              refine r_run 18 7 [1, 3, 69] [] hS rfl (L' := [(1, .slice a1 p1.length c1), (3, .pointer (some ⟨b2, 0, none⟩)), (69, .bool true)]) (As' := [.box b3 [.int .i64 p2.table, .int .u16 p2.id], .box b2 [.slice a0_tables p0.tables.length c0_tables]]) (ob := []) (by kernel_rfl) (trivial) fun a w hS => ?_
              refine wl_end ?_
              replace hS := hS.got [1, 3, 69] [0, 0] [] 0 (L' := [(1, .slice a1 p1.length c1), (3, .pointer (some ⟨b2, 0, none⟩)), (69, .bool true)]) (Bs := [.box b3 [.int .i64 p2.table, .int .u16 p2.id], .box b2 [.slice a0_tables p0.tables.length c0_tables]]) (Rs := [RSf flat_Bounds a0_tables c0_tables p0.tables, RSf flat_Row a1 c1 p1]) (by kernel_rfl) (by kernel_rfl) (by kernel_rfl)
              exact JK37 _ _ (hS.env (by rw [hb58]; rfl))
          cases hb61 : v34
          · replace hS := hS.env (L' := [(1, .slice a1 p1.length c1), (3, .pointer (some ⟨b2, 0, none⟩)), (9, .int .i64 y17), (54, .bool false)]) (by rw [hb61])
            replace h := cfalse hb61 h
            refine r_run 10 4 [1, 3, 9, 54, 56, 57, 58] [.own 1 0] hS rfl (L' := [(1, .slice a1 p1.length c1), (3, .pointer (some ⟨b2, 0, none⟩)), (9, .int .i64 y17), (54, .bool false), (56, .bool (y17 == 0)), (57, Value.agg #[.slice a0_tables p0.tables.length c0_tables]), (58, .slice a1 p1.length c1)]) (As' := [.box b3 [.int .i64 p2.table, .int .u16 p2.id], .box b2 [.slice a0_tables p0.tables.length c0_tables]]) (ob := [fun _ => (⟨b2, 0, none⟩ : Addr) = (⟨b2, 0, none⟩ : Addr).add 0]) (by kernel_rfl) (⟨Bx.c rfl, trivial⟩) fun a w hS => ?_
            obtain ⟨y62, hy62, h⟩ := bindS h
            refine r_call 14 rfl (d := some 59) (g := 17) (args := #[Value.agg #[.slice a0_tables p0.tables.length c0_tables], .slice a1 p1.length c1]) [] hS (by kernel_rfl) rfl (ref05_RightList_ok n p0 p1 y62 hy62) (fun F up => ⟨up (hS.p 0 rfl), up (hS.p 1 rfl), trivial⟩) ?_
            rintro v A P a w ⟨rfl, rfl, rfl⟩ hS
            refine r_run 15 2 [1, 3, 9, 61] [] hS rfl (L' := [(1, .slice a1 p1.length c1), (3, .pointer (some ⟨b2, 0, none⟩)), (9, .int .i64 y17), (61, .bool (!((y17 == 0) == y62)))]) (As' := [.box b3 [.int .i64 p2.table, .int .u16 p2.id], .box b2 [.slice a0_tables p0.tables.length c0_tables]]) (ob := []) (by kernel_rfl) (trivial) fun a w hS => ?_
            refine wl_end ?_
            exact JK35 (!((y17 == 0) == y62)) _ _ (hS.got [1, 3, 9, 61] [0, 0] [] 0 (by kernel_rfl) (by kernel_rfl) (by kernel_rfl)) h
          · replace hS := hS.env (L' := [(1, .slice a1 p1.length c1), (3, .pointer (some ⟨b2, 0, none⟩)), (9, .int .i64 y17), (54, .bool true)]) (by rw [hb61])
            replace h := ctrue hb61 h
            refine r_run 10 7 [1, 3, 9, 61] [] hS rfl (L' := [(1, .slice a1 p1.length c1), (3, .pointer (some ⟨b2, 0, none⟩)), (9, .int .i64 y17), (61, .bool true)]) (As' := [.box b3 [.int .i64 p2.table, .int .u16 p2.id], .box b2 [.slice a0_tables p0.tables.length c0_tables]]) (ob := []) (by kernel_rfl) (trivial) fun a w hS => ?_
            refine wl_end ?_
            exact JK35 true _ _ (hS.got [1, 3, 9, 61] [0, 0] [] 0 (by kernel_rfl) (by kernel_rfl) (by kernel_rfl)) h
        cases hb63 : (y15 != 0)
        · replace hS := hS.env (L' := [(1, .slice a1 p1.length c1), (3, .pointer (some ⟨b2, 0, none⟩)), (5, .pointer (some ⟨b3, 0, none⟩)), (8, .int .i64 y16), (9, .int .i64 y17), (47, .bool false)]) (by rw [hb63])
          replace h := cfalse hb63 h
          refine r_run 3 3 [1, 3, 9, 47, 48, 49, 50] [.own 1 0, .own 0 0] hS rfl (L' := [(1, .slice a1 p1.length c1), (3, .pointer (some ⟨b2, 0, none⟩)), (9, .int .i64 y17), (47, .bool false), (48, .int .i64 y16), (49, Value.agg #[.slice a0_tables p0.tables.length c0_tables]), (50, Value.agg #[.int .i64 p2.table, .int .u16 p2.id])]) (As' := [.box b3 [.int .i64 p2.table, .int .u16 p2.id], .box b2 [.slice a0_tables p0.tables.length c0_tables]]) (ob := [fun _ => (⟨b2, 0, none⟩ : Addr) = (⟨b2, 0, none⟩ : Addr).add 0, fun _ => (⟨b3, 0, none⟩ : Addr) = (⟨b3, 0, none⟩ : Addr).add 0]) (by kernel_rfl) (⟨Bx.c rfl, Bx.c rfl, trivial⟩) fun a w hS => ?_
          obtain ⟨y64, hy64, h⟩ := bindS h
          refine r_call 6 rfl (d := some 51) (g := 16) (args := #[Value.agg #[.slice a0_tables p0.tables.length c0_tables], Value.agg #[.int .i64 p2.table, .int .u16 p2.id]]) [] hS (by kernel_rfl) rfl (ref05_KeyError_ok n p0 p2 y64 hy64) (fun F up => ⟨up (hS.p 0 rfl), trivial⟩) ?_
          rintro v A P a w ⟨rfl, rfl, rfl⟩ hS
          refine r_run 7 2 [1, 3, 9, 53] [] hS rfl (L' := [(1, .slice a1 p1.length c1), (3, .pointer (some ⟨b2, 0, none⟩)), (9, .int .i64 y17), (53, .bool (y16 != y64))]) (As' := [.box b3 [.int .i64 p2.table, .int .u16 p2.id], .box b2 [.slice a0_tables p0.tables.length c0_tables]]) (ob := []) (by kernel_rfl) (trivial) fun a w hS => ?_
          refine wl_end ?_
          exact JK33 (y16 != y64) _ _ (hS.got [1, 3, 9, 53] [0, 0] [] 0 (by kernel_rfl) (by kernel_rfl) (by kernel_rfl)) h
        · replace hS := hS.env (L' := [(1, .slice a1 p1.length c1), (3, .pointer (some ⟨b2, 0, none⟩)), (5, .pointer (some ⟨b3, 0, none⟩)), (8, .int .i64 y16), (9, .int .i64 y17), (47, .bool true)]) (by rw [hb63])
          replace h := ctrue hb63 h
          refine r_run 3 6 [1, 3, 9, 53] [] hS rfl (L' := [(1, .slice a1 p1.length c1), (3, .pointer (some ⟨b2, 0, none⟩)), (9, .int .i64 y17), (53, .bool true)]) (As' := [.box b3 [.int .i64 p2.table, .int .u16 p2.id], .box b2 [.slice a0_tables p0.tables.length c0_tables]]) (ob := []) (by kernel_rfl) (trivial) fun a w hS => ?_
          refine wl_end ?_
          exact JK33 true _ _ (hS.got [1, 3, 9, 53] [0, 0] [] 0 (by kernel_rfl) (by kernel_rfl) (by kernel_rfl)) h

end Go.Proofs.Ytlflbhhajnoelaa
