/- Functions of the program: plain twins and walks, printed by program. -/
import Derived.Test.YtlflbhhajnoelaaTypes
import Derived.Test.YtlflbhhajnoelaaF6
namespace Go.Proofs.Ytlflbhhajnoelaa
open Go.Bur Go.RowKit
set_option linter.unusedVariables false
set_option linter.unusedSimpArgs false
set_option maxRecDepth 100000
/-! bursary bursarylaw05.RowBack -/
def law05_RowBack_j1 (n : Nat) (v23 : Int) (k_law05_RowBack_l1 : ((List Row) → Int → Option Bool)) (l32 : (List Row)) : Option Bool :=
  k_law05_RowBack_l1 l32 (IntKind.wrap .i64 (v23 + 1))
def law05_RowBack_j2 (n : Nat) (v23 : Int) (y42 : ((List Row) × Int)) (k_law05_RowBack_l1 : ((List Row) → Int → Option Bool))  : Option Bool :=
  law05_RowBack_j1 n v23 (k_law05_RowBack_l1) y42.1
def law05_RowBack_j3 (n : Nat) (v23 : Int) (y42 : ((List Row) × Int)) (k_law05_RowBack_l1 : ((List Row) → Int → Option Bool)) (v96 : Bool) : Option Bool :=
  cond v96
    (some false)
    (law05_RowBack_j2 n v23 y42 (k_law05_RowBack_l1))
def law05_RowBack_j4 (n : Nat) (l21 : (List Row)) (v23 : Int) (y42 : ((List Row) × Int)) (y87 : ((List Row) × Int)) (k_law05_RowBack_l1 : ((List Row) → Int → Option Bool)) (v94 : Bool) : Option Bool :=
  cond v94
    (law05_RowBack_j3 n v23 y42 (k_law05_RowBack_l1) true)
    ((row_Same n y87.1 l21).bind fun y100 =>
    law05_RowBack_j3 n v23 y42 (k_law05_RowBack_l1) (!y100))
def law05_RowBack_j5 (n : Nat) (p0 : Schema) (l21 : (List Row)) (v23 : Int) (x35 : Row) (y42 : ((List Row) × Int)) (k_law05_RowBack_l1 : ((List Row) → Int → Option Bool)) (v58 : Bool) : Option Bool :=
  cond v58
    (some false)
    ((row_Take n p0 y42.1 x35.key).bind fun y62 =>
    cond ((y62.2.2 != 0) || (!(Row.eqb y62.2.1 x35)))
      (some false)
      ((row_Take n p0 l21 x35.key).bind fun y73 =>
      cond (y73.2.2 == 4)
        ((row_Same n y62.1 l21).bind fun y83 =>
        cond (!y83)
          (some false)
          (law05_RowBack_j2 n v23 y42 (k_law05_RowBack_l1)))
        ((row_Put n p0 y73.1 y73.2.1).bind fun y87 =>
        cond ((y73.2.2 != 0) || (y87.2 != 0))
          (law05_RowBack_j4 n l21 v23 y42 y87 (k_law05_RowBack_l1) true)
          ((row_Same n y62.1 y73.1).bind fun y102 =>
          law05_RowBack_j4 n l21 v23 y42 y87 (k_law05_RowBack_l1) (!y102)))))
def law05_RowBack_l1 (n : Nat) (p0 : Schema) (p2 : (List Row)) : Nat → (List Row) → Int → Option Bool
  | 0, _, _ => none
  | m24 + 1, l21, v23 =>
    cond (decide (v23 < (p2.length : Int)))
      ((idx p2 v23).bind fun x35 =>
      cond (v23 == 20)
        (some true)
        ((row_Put n p0 l21 x35).bind fun y42 =>
        cond (y42.2 != 0)
          (cond ((y42.1.length : Int) != 0)
            (some false)
            (law05_RowBack_j1 n v23 (law05_RowBack_l1 n p0 p2 m24) l21))
          ((row_Find n y42.1 x35.key).bind fun y54 =>
          (row_CheckList n p0 y42.1).bind fun y105 =>
          cond (y105 != 0)
            (law05_RowBack_j5 n p0 l21 v23 x35 y42 (law05_RowBack_l1 n p0 p2 m24) true)
            (cond (!y54.2)
              (law05_RowBack_j5 n p0 l21 v23 x35 y42 (law05_RowBack_l1 n p0 p2 m24) true)
              ((idx y42.1 y54.1).bind fun x108 =>
              law05_RowBack_j5 n p0 l21 v23 x35 y42 (law05_RowBack_l1 n p0 p2 m24) (!(Row.eqb x108 x35)))))))
      (some true)
def law05_RowBack_j6 (n : Nat) (p0 : Schema) (p1 : (List Row)) (p2 : (List Row)) (v14 : Bool) : Option Bool :=
  cond v14
    (some true)
    (law05_RowBack_l1 n p0 p2 n p1 0)
def law05_RowBack_j7 (n : Nat) (p0 : Schema) (p1 : (List Row)) (p2 : (List Row)) (v12 : Bool) : Option Bool :=
  cond v12
    (law05_RowBack_j6 n p0 p1 p2 true)
    ((row_CheckList n p0 p1).bind fun y111 =>
    law05_RowBack_j6 n p0 p1 p2 (y111 != 0))
def law05_RowBack (n : Nat) (p0 : Schema) (p1 : (List Row)) (p2 : (List Row)) : Option Bool :=
  (law05_wakes n).bind fun y5 =>
  cond (!y5)
    (some false)
    ((law05_over n p0 p1).bind fun y10 =>
    cond y10
      (law05_RowBack_j7 n p0 p1 p2 true)
      ((law05_over n p0 p2).bind fun y113 =>
      law05_RowBack_j7 n p0 p1 p2 y113))
theorem law05_RowBack_ok {a0_tables : Option Addr} {c0_tables : Nat} {a1 : Option Addr} {c1 : Nat} {a2 : Option Addr} {c2 : Nat} (n : Nat) (p0 : Schema) (p1 : (List Row)) (p2 : (List Row)) (r : Bool)  (h : law05_RowBack n p0 p1 p2 = some r) :
    Meets Try.prog 8 #[Value.agg #[.slice a0_tables p0.tables.length c0_tables], .slice a1 p1.length c1, .slice a2 p2.length c2] [] [RSf flat_Bounds a0_tables c0_tables p0.tables, RSf flat_Row a1 c1 p1, RSf flat_Row a2 c2 p2] fun v A P => v = .bool r ∧ A = [] ∧ P = [] := by
  unfold law05_RowBack at h
  refine meets_enter 137 Try.func8 Try.call8 rfl (by kernel_rfl) (by simp) fun C a w hS => ?_
  refine k_seq (by kernel_rfl) fun K1 hK1 => ?_
  refine k_reg 2 (by kernel_rfl) ?_
  refine r_run1 0 2 [1, 2, 3] [] hS rfl (L' := fun b2 => [(1, .slice a1 p1.length c1), (2, .slice a2 p2.length c2), (3, .pointer (some ⟨b2, 0, none⟩))]) (As' := fun b2 => [.box b2 [.slice a0_tables p0.tables.length c0_tables]]) (ob := fun b2 => []) (fun b2 => by kernel_rfl) (fun b2 => trivial) fun b2 a w hS => ?_
  refine wl_end ?_
  refine hK1 _ _ ?_
  refine k_seq (by kernel_rfl) fun K3 hK3 => ?_
  refine k_seq (by kernel_rfl) fun K4 hK4 => ?_
  refine k_reg 2 (by kernel_rfl) ?_
  obtain ⟨y5, hy5, h⟩ := bindS h
  refine r_call 0 rfl (d := some 19) (g := 9) (args := #[]) [] hS (by kernel_rfl) rfl (law05_wakes_ok n y5 hy5) (fun F up => trivial) ?_
  rintro v A P a w ⟨rfl, rfl, rfl⟩ hS
  refine r_run 1 1 [1, 2, 3, 20] [] hS rfl (L' := [(1, .slice a1 p1.length c1), (2, .slice a2 p2.length c2), (3, .pointer (some ⟨b2, 0, none⟩)), (20, .bool (!y5))]) (As' := [.box b2 [.slice a0_tables p0.tables.length c0_tables]]) (ob := []) (by kernel_rfl) (trivial) fun a w hS => ?_
  refine wl_end ?_
  refine hK4 _ _ ?_
  refine k_cond (!y5) hS.has (by kernel_rfl) (by kernel_rfl) (by kernel_rfl) (fun hb6 => ?_) (fun hb6 => ?_)
  · replace h := ctrue hb6 h
    refine k_seq (by kernel_rfl) fun K7 hK7 => ?_
    refine k_reg 1 (by kernel_rfl) ?_
    refine r_run 0 1 [6] [] hS rfl (L' := [(6, .bool false)]) (As' := [.box b2 [.slice a0_tables p0.tables.length c0_tables]]) (ob := []) (by kernel_rfl) (trivial) fun a w hS => ?_
    refine wl_end ?_
    refine hK7 _ _ ?_
    refine k_ret (by kernel_rfl) ?_
    obtain rfl := someI h
    try simp only [Exit.then, Exit.inBlock]
    refine r_ret hS [.tmp 6] [] (xs := [.bool false]) (ps := []) [] [] rfl (by kernel_rfl) (fun hA => trivial) rfl (fun F up => trivial) ?_
    exact ⟨rfl, rfl, rfl⟩
  · replace h := cfalse hb6 h
    refine k_skip (by kernel_rfl) ?_
    refine hK3 _ _ ?_
    refine k_seq (by kernel_rfl) fun K8 hK8 => ?_
    refine k_seq (by kernel_rfl) fun K9 hK9 => ?_
    refine k_reg 14 (by kernel_rfl) ?_
    refine r_run 0 2 [1, 2, 3, 21, 22] [.own 0 0] hS rfl (L' := [(1, .slice a1 p1.length c1), (2, .slice a2 p2.length c2), (3, .pointer (some ⟨b2, 0, none⟩)), (21, Value.agg #[.slice a0_tables p0.tables.length c0_tables]), (22, .slice a1 p1.length c1)]) (As' := [.box b2 [.slice a0_tables p0.tables.length c0_tables]]) (ob := [fun _ => (⟨b2, 0, none⟩ : Addr) = (⟨b2, 0, none⟩ : Addr).add 0]) (by kernel_rfl) (⟨Bx.c rfl, trivial⟩) fun a w hS => ?_
    obtain ⟨y10, hy10, h⟩ := bindS h
    refine r_call 2 rfl (d := some 23) (g := 10) (args := #[Value.agg #[.slice a0_tables p0.tables.length c0_tables], .slice a1 p1.length c1]) [] hS (by kernel_rfl) rfl (law05_over_ok n p0 p1 y10 hy10) (fun F up => ⟨up (hS.p 0 rfl), up (hS.p 1 rfl), trivial⟩) ?_
    rintro v A P a w ⟨rfl, rfl, rfl⟩ hS
    refine r_run 3 1 [1, 2, 3, 24] [] hS rfl (L' := [(1, .slice a1 p1.length c1), (2, .slice a2 p2.length c2), (3, .pointer (some ⟨b2, 0, none⟩)), (24, .bool y10)]) (As' := [.box b2 [.slice a0_tables p0.tables.length c0_tables]]) (ob := []) (by kernel_rfl) (trivial) fun a w hS => ?_
    refine wl_cut 8 rfl rfl fun K11 hK11 => ?_
    have JK11 : ∀ (v12 : Bool) a w, Sy C 137 a w [(1, .slice a1 p1.length c1), (2, .slice a2 p2.length c2), (3, .pointer (some ⟨b2, 0, none⟩)), (28, .bool v12)] [.box b2 [.slice a0_tables p0.tables.length c0_tables]] [RSf flat_Bounds a0_tables c0_tables p0.tables, RSf flat_Row a1 c1 p1, RSf flat_Row a2 c2 p2] → law05_RowBack_j7 n p0 p1 p2 v12 = some r → K11 a w := by
      intro v12 a w hS h
      unfold law05_RowBack_j7 at h
      refine hK11 _ _ ?_
      refine r_run 8 1 [1, 2, 3, 29] [] hS rfl (L' := [(1, .slice a1 p1.length c1), (2, .slice a2 p2.length c2), (3, .pointer (some ⟨b2, 0, none⟩)), (29, .bool v12)]) (As' := [.box b2 [.slice a0_tables p0.tables.length c0_tables]]) (ob := []) (by kernel_rfl) (trivial) fun a w hS => ?_
      refine wl_cut 14 rfl rfl fun K13 hK13 => ?_
      have JK13 : ∀ (v14 : Bool) a w, Sy C 137 a w [(1, .slice a1 p1.length c1), (2, .slice a2 p2.length c2), (3, .pointer (some ⟨b2, 0, none⟩)), (34, .bool v14)] [.box b2 [.slice a0_tables p0.tables.length c0_tables]] [RSf flat_Bounds a0_tables c0_tables p0.tables, RSf flat_Row a1 c1 p1, RSf flat_Row a2 c2 p2] → law05_RowBack_j6 n p0 p1 p2 v14 = some r → K13 a w := by
        intro v14 a w hS h
        unfold law05_RowBack_j6 at h
        refine hK13 _ _ ?_
        refine wl_end ?_
        refine hK9 _ _ ?_
        refine k_cond v14 hS.has (by kernel_rfl) (by kernel_rfl) (by kernel_rfl) (fun hb15 => ?_) (fun hb15 => ?_)
        · replace h := ctrue hb15 h
          refine k_seq (by kernel_rfl) fun K16 hK16 => ?_
          refine k_reg 1 (by kernel_rfl) ?_
          refine r_run 0 1 [6] [] hS rfl (L' := [(6, .bool true)]) (As' := [.box b2 [.slice a0_tables p0.tables.length c0_tables]]) (ob := []) (by kernel_rfl) (trivial) fun a w hS => ?_
          refine wl_end ?_
          refine hK16 _ _ ?_
          refine k_ret (by kernel_rfl) ?_
          obtain rfl := someI h
          try simp only [Exit.then, Exit.inBlock]
          refine r_ret hS [.tmp 6] [] (xs := [.bool true]) (ps := []) [] [] rfl (by kernel_rfl) (fun hA => trivial) rfl (fun F up => trivial) ?_
          exact ⟨rfl, rfl, rfl⟩
        · replace h := cfalse hb15 h
          refine k_skip (by kernel_rfl) ?_
          refine hK8 _ _ ?_
          refine k_seq (by kernel_rfl) fun K17 hK17 => ?_
          refine k_seq (by kernel_rfl) fun K18 hK18 => ?_
          refine k_reg 3 (by kernel_rfl) ?_
          refine r_run 0 3 [1, 3, 35, 36, 37] [] hS rfl (L' := [(1, .slice a1 p1.length c1), (3, .pointer (some ⟨b2, 0, none⟩)), (35, .slice a2 p2.length c2), (36, .int .i64 (p2.length : Int)), (37, .int .i64 0)]) (As' := [.box b2 [.slice a0_tables p0.tables.length c0_tables]]) (ob := []) (by kernel_rfl) (trivial) fun a w hS => ?_
          refine wl_end ?_
          refine hK18 _ _ ?_
          refine k_blk (by kernel_rfl) ?_
          refine k_loop (by kernel_rfl) (fun m24 a w => ∃ (a19 : Option Addr) (c20 : Nat) (l21 : (List Row)) (v23 : Int), law05_RowBack_l1 n p0 p2 m24 l21 v23 = some r ∧ Sy C 137 a w [(1, .slice a19 l21.length c20), (3, .pointer (some ⟨b2, 0, none⟩)), (35, .slice a2 p2.length c2), (36, .int .i64 (p2.length : Int)), (37, .int .i64 v23)] [.box b2 [.slice a0_tables p0.tables.length c0_tables]] [RSf flat_Row a19 c20 l21, RSf flat_Bounds a0_tables c0_tables p0.tables, RSf flat_Row a1 c1 p1, RSf flat_Row a2 c2 p2]) n ⟨a1, c1, p1, 0, h, (hS.got [1, 3, 35, 36, 37] [0] [1] 0 (by kernel_rfl) (by kernel_rfl) (by kernel_rfl))⟩ ?_
          rintro m24 a w ⟨a19, c20, l21, v23, h, hS⟩ K25 hK25
          cases m24 with
          | zero => exact (noneS h).elim
          | succ m24 =>
            unfold law05_RowBack_l1 at h
            refine k_seq (by kernel_rfl) fun K26 hK26 => ?_
            refine k_reg 1 (by kernel_rfl) ?_
            refine r_run 0 1 [1, 3, 35, 36, 37, 38] [] hS rfl (L' := [(1, .slice a19 l21.length c20), (3, .pointer (some ⟨b2, 0, none⟩)), (35, .slice a2 p2.length c2), (36, .int .i64 (p2.length : Int)), (37, .int .i64 v23), (38, .bool (decide (v23 < (p2.length : Int))))]) (As' := [.box b2 [.slice a0_tables p0.tables.length c0_tables]]) (ob := []) (by kernel_rfl) (trivial) fun a w hS => ?_
            refine wl_end ?_
            refine hK26 _ _ ?_
            refine k_seq (by kernel_rfl) fun K27 hK27 => ?_
            refine k_cond (decide (v23 < (p2.length : Int))) hS.has (by kernel_rfl) (by kernel_rfl) (by kernel_rfl) (fun hb28 => ?_) (fun hb28 => ?_)
            · replace h := ctrue hb28 h
              refine k_skip (by kernel_rfl) ?_
              refine hK27 _ _ ?_
              refine k_seq (by kernel_rfl) fun K29 hK29 => ?_
              have JK29 : ∀ (a30 : Option Addr) (c31 : Nat) (l32 : (List Row)) a w, Sy C 137 a w [(1, .slice a30 l32.length c31), (3, .pointer (some ⟨b2, 0, none⟩)), (35, .slice a2 p2.length c2), (36, .int .i64 (p2.length : Int)), (37, .int .i64 v23)] [.box b2 [.slice a0_tables p0.tables.length c0_tables]] [RSf flat_Row a30 c31 l32, RSf flat_Row a19 c20 l21, RSf flat_Bounds a0_tables c0_tables p0.tables, RSf flat_Row a1 c1 p1, RSf flat_Row a2 c2 p2] → law05_RowBack_j1 n v23 (law05_RowBack_l1 n p0 p2 m24) l32 = some r → K29 a w := by
                intro a30 c31 l32 a w hS h
                unfold law05_RowBack_j1 at h
                refine hK29 _ _ ?_
                refine k_reg 2 (by kernel_rfl) ?_
                refine r_run 0 2 [1, 3, 35, 36, 37] [] hS rfl (L' := [(1, .slice a30 l32.length c31), (3, .pointer (some ⟨b2, 0, none⟩)), (35, .slice a2 p2.length c2), (36, .int .i64 (p2.length : Int)), (37, .int .i64 (IntKind.wrap .i64 (v23 + 1)))]) (As' := [.box b2 [.slice a0_tables p0.tables.length c0_tables]]) (ob := []) (by kernel_rfl) (trivial) fun a w hS => ?_
                refine wl_end ?_
                exact hK25 m24 _ _ (Nat.lt_succ_self _) ⟨a30, c31, l32, (IntKind.wrap .i64 (v23 + 1)), h, (hS.got [1, 3, 35, 36, 37] [0] [0] 2 (by kernel_rfl) (by kernel_rfl) (by kernel_rfl))⟩
              refine k_blk (by kernel_rfl) ?_
              refine k_seq (by kernel_rfl) fun K34 hK34 => ?_
              refine k_reg 6 (by kernel_rfl) ?_
              obtain ⟨x35, hx35, h⟩ := bindS h
              have ix35 := fidxB (F := flat_Row) (hS.p 3 rfl) hx35
              refine r_run1 0 6 [1, 3, 7, 8, 35, 36, 37] [.ext [.int .i64 x35.key.table, .int .u16 x35.key.id, .int .i64 x35.val, .string x35.note], .own 0 0] hS rfl (L' := fun b36 => [(1, .slice a19 l21.length c20), (3, .pointer (some ⟨b2, 0, none⟩)), (7, .int .i64 v23), (8, .pointer (some ⟨b36, 0, none⟩)), (35, .slice a2 p2.length c2), (36, .int .i64 (p2.length : Int)), (37, .int .i64 v23)]) (As' := fun b36 => [.box b36 [.int .i64 x35.key.table, .int .u16 x35.key.id, .int .i64 x35.val, .string x35.note], .box b2 [.slice a0_tables p0.tables.length c0_tables]]) (ob := fun b36 => [fun _ => Inb a2 p2.length v23, Cel (Addr.add (baseOf a2) (Int.toNat v23 * 4)) [.int .i64 x35.key.table, .int .u16 x35.key.id, .int .i64 x35.val, .string x35.note], fun _ => (⟨b36, 0, none⟩ : Addr) = (⟨b36, 0, none⟩ : Addr).add 0, fun _ => ∀ u ∈ ([.int .i64 x35.key.table, .int .u16 x35.key.id, .int .i64 x35.val, .string x35.note] : List Value), u.oneCell' = true]) (fun b36 => by kernel_rfl) (fun b36 => ⟨Bx.c ix35.1, ix35.2, Bx.c rfl, Bx.c (oneAll rfl), trivial⟩) fun b36 a w hS => ?_
              refine wl_end ?_
              refine hK34 _ _ ?_
              refine k_seq (by kernel_rfl) fun K37 hK37 => ?_
              refine k_seq (by kernel_rfl) fun K38 hK38 => ?_
              refine k_reg 2 (by kernel_rfl) ?_
              refine r_run 0 2 [1, 3, 8, 35, 36, 37, 43] [] hS rfl (L' := [(1, .slice a19 l21.length c20), (3, .pointer (some ⟨b2, 0, none⟩)), (8, .pointer (some ⟨b36, 0, none⟩)), (35, .slice a2 p2.length c2), (36, .int .i64 (p2.length : Int)), (37, .int .i64 v23), (43, .bool (v23 == 20))]) (As' := [.box b36 [.int .i64 x35.key.table, .int .u16 x35.key.id, .int .i64 x35.val, .string x35.note], .box b2 [.slice a0_tables p0.tables.length c0_tables]]) (ob := []) (by kernel_rfl) (trivial) fun a w hS => ?_
              refine wl_end ?_
              refine hK38 _ _ ?_
              refine k_cond (v23 == 20) hS.has (by kernel_rfl) (by kernel_rfl) (by kernel_rfl) (fun hb39 => ?_) (fun hb39 => ?_)
              · replace h := ctrue hb39 h
                refine k_exit 0 (by kernel_rfl) ?_
                refine hK17 _ _ ?_
                refine k_seq (by kernel_rfl) fun K40 hK40 => ?_
                refine k_reg 1 (by kernel_rfl) ?_
                refine r_run 0 1 [6] [] hS rfl (L' := [(6, .bool true)]) (As' := [.box b36 [.int .i64 x35.key.table, .int .u16 x35.key.id, .int .i64 x35.val, .string x35.note], .box b2 [.slice a0_tables p0.tables.length c0_tables]]) (ob := []) (by kernel_rfl) (trivial) fun a w hS => ?_
                refine wl_end ?_
                refine hK40 _ _ ?_
                refine k_ret (by kernel_rfl) ?_
                obtain rfl := someI h
                try simp only [Exit.then, Exit.inBlock]
                refine r_ret hS [.tmp 6] [] (xs := [.bool true]) (ps := []) [] [] rfl (by kernel_rfl) (fun hA => trivial) rfl (fun F up => trivial) ?_
                exact ⟨rfl, rfl, rfl⟩
              · replace h := cfalse hb39 h
                refine k_skip (by kernel_rfl) ?_
                refine hK37 _ _ ?_
                refine k_seq (by kernel_rfl) fun K41 hK41 => ?_
                refine k_reg 9 (by kernel_rfl) ?_
                refine r_run 0 3 [1, 3, 8, 35, 36, 37, 45, 46, 47] [.own 1 0, .own 0 0] hS rfl (L' := [(1, .slice a19 l21.length c20), (3, .pointer (some ⟨b2, 0, none⟩)), (8, .pointer (some ⟨b36, 0, none⟩)), (35, .slice a2 p2.length c2), (36, .int .i64 (p2.length : Int)), (37, .int .i64 v23), (45, Value.agg #[.slice a0_tables p0.tables.length c0_tables]), (46, .slice a19 l21.length c20), (47, Value.agg #[.int .i64 x35.key.table, .int .u16 x35.key.id, .int .i64 x35.val, .string x35.note])]) (As' := [.box b36 [.int .i64 x35.key.table, .int .u16 x35.key.id, .int .i64 x35.val, .string x35.note], .box b2 [.slice a0_tables p0.tables.length c0_tables]]) (ob := [fun _ => (⟨b2, 0, none⟩ : Addr) = (⟨b2, 0, none⟩ : Addr).add 0, fun _ => (⟨b36, 0, none⟩ : Addr) = (⟨b36, 0, none⟩ : Addr).add 0]) (by kernel_rfl) (⟨Bx.c rfl, Bx.c rfl, trivial⟩) fun a w hS => ?_
                obtain ⟨y42, hy42, h⟩ := bindS h
                refine r_call 3 rfl (d := some 48) (g := 22) (args := #[Value.agg #[.slice a0_tables p0.tables.length c0_tables], .slice a19 l21.length c20, Value.agg #[.int .i64 x35.key.table, .int .u16 x35.key.id, .int .i64 x35.val, .string x35.note]]) [] hS (by kernel_rfl) rfl (row_Put_ok n p0 l21 x35 y42 hy42) (fun F up => ⟨up (hS.p 1 rfl), up (hS.p 0 rfl), trivial⟩) ?_
                rintro v A P a w ⟨a43, c44, rfl, rfl, rfl⟩ hS
                refine r_run 4 5 [1, 3, 8, 9, 10, 35, 36, 37] [] hS rfl (L' := [(1, .slice a19 l21.length c20), (3, .pointer (some ⟨b2, 0, none⟩)), (8, .pointer (some ⟨b36, 0, none⟩)), (9, .slice a43 y42.1.length c44), (10, .int .i64 y42.2), (35, .slice a2 p2.length c2), (36, .int .i64 (p2.length : Int)), (37, .int .i64 v23)]) (As' := [rowF flat_Row 38 a43 c44 y42.1, .box b36 [.int .i64 x35.key.table, .int .u16 x35.key.id, .int .i64 x35.val, .string x35.note], .box b2 [.slice a0_tables p0.tables.length c0_tables]]) (ob := []) (by kernel_rfl) (trivial) fun a w hS => ?_
                refine wl_end ?_
                refine hK41 _ _ ?_
                refine k_seq (by kernel_rfl) fun K46 hK46 => ?_
                refine k_seq (by kernel_rfl) fun K47 hK47 => ?_
                refine k_reg 2 (by kernel_rfl) ?_
                refine r_run 0 2 [1, 3, 8, 9, 35, 36, 37, 52] [] hS rfl (L' := [(1, .slice a19 l21.length c20), (3, .pointer (some ⟨b2, 0, none⟩)), (8, .pointer (some ⟨b36, 0, none⟩)), (9, .slice a43 y42.1.length c44), (35, .slice a2 p2.length c2), (36, .int .i64 (p2.length : Int)), (37, .int .i64 v23), (52, .bool (y42.2 != 0))]) (As' := [rowF flat_Row 38 a43 c44 y42.1, .box b36 [.int .i64 x35.key.table, .int .u16 x35.key.id, .int .i64 x35.val, .string x35.note], .box b2 [.slice a0_tables p0.tables.length c0_tables]]) (ob := []) (by kernel_rfl) (trivial) fun a w hS => ?_
                refine wl_end ?_
                refine hK47 _ _ ?_
                refine k_cond (y42.2 != 0) hS.has (by kernel_rfl) (by kernel_rfl) (by kernel_rfl) (fun hb48 => ?_) (fun hb48 => ?_)
                · replace h := ctrue hb48 h
                  refine k_seq (by kernel_rfl) fun K49 hK49 => ?_
                  refine k_seq (by kernel_rfl) fun K50 hK50 => ?_
                  refine k_reg 3 (by kernel_rfl) ?_
                  refine r_run 0 3 [1, 3, 35, 36, 37, 55] [] hS rfl (L' := [(1, .slice a19 l21.length c20), (3, .pointer (some ⟨b2, 0, none⟩)), (35, .slice a2 p2.length c2), (36, .int .i64 (p2.length : Int)), (37, .int .i64 v23), (55, .bool ((y42.1.length : Int) != 0))]) (As' := [rowF flat_Row 38 a43 c44 y42.1, .box b36 [.int .i64 x35.key.table, .int .u16 x35.key.id, .int .i64 x35.val, .string x35.note], .box b2 [.slice a0_tables p0.tables.length c0_tables]]) (ob := []) (by kernel_rfl) (trivial) fun a w hS => ?_
                  refine wl_end ?_
                  refine hK50 _ _ ?_
                  refine k_cond ((y42.1.length : Int) != 0) hS.has (by kernel_rfl) (by kernel_rfl) (by kernel_rfl) (fun hb51 => ?_) (fun hb51 => ?_)
                  · replace h := ctrue hb51 h
                    refine k_seq (by kernel_rfl) fun K52 hK52 => ?_
                    refine k_reg 1 (by kernel_rfl) ?_
                    refine r_run 0 1 [6] [] hS rfl (L' := [(6, .bool false)]) (As' := [rowF flat_Row 38 a43 c44 y42.1, .box b36 [.int .i64 x35.key.table, .int .u16 x35.key.id, .int .i64 x35.val, .string x35.note], .box b2 [.slice a0_tables p0.tables.length c0_tables]]) (ob := []) (by kernel_rfl) (trivial) fun a w hS => ?_
                    refine wl_end ?_
                    refine hK52 _ _ ?_
                    refine k_ret (by kernel_rfl) ?_
                    obtain rfl := someI h
                    try simp only [Exit.then, Exit.inBlock]
                    refine r_ret hS [.tmp 6] [] (xs := [.bool false]) (ps := []) [] [] rfl (by kernel_rfl) (fun hA => trivial) rfl (fun F up => trivial) ?_
                    exact ⟨rfl, rfl, rfl⟩
                  · replace h := cfalse hb51 h
                    refine k_skip (by kernel_rfl) ?_
                    refine hK49 _ _ ?_
                    refine k_exit 1 (by kernel_rfl) ?_
                    exact JK29 a19 c20 l21 _ _ (hS.got [1, 3, 35, 36, 37] [2] [0] 0 (by kernel_rfl) (by kernel_rfl) (by kernel_rfl)) h
                · replace h := cfalse hb48 h
                  refine k_skip (by kernel_rfl) ?_
                  refine hK46 _ _ ?_
                  refine k_seq (by kernel_rfl) fun K53 hK53 => ?_
                  refine k_reg 9 (by kernel_rfl) ?_
                  refine r_run 0 3 [1, 3, 8, 9, 35, 36, 37, 57, 59] [.own 1 0] hS rfl (L' := [(1, .slice a19 l21.length c20), (3, .pointer (some ⟨b2, 0, none⟩)), (8, .pointer (some ⟨b36, 0, none⟩)), (9, .slice a43 y42.1.length c44), (35, .slice a2 p2.length c2), (36, .int .i64 (p2.length : Int)), (37, .int .i64 v23), (57, .slice a43 y42.1.length c44), (59, Value.agg #[.int .i64 x35.key.table, .int .u16 x35.key.id])]) (As' := [rowF flat_Row 38 a43 c44 y42.1, .box b36 [.int .i64 x35.key.table, .int .u16 x35.key.id, .int .i64 x35.val, .string x35.note], .box b2 [.slice a0_tables p0.tables.length c0_tables]]) (ob := [fun _ => (⟨b36, 0, none⟩ : Addr) = (⟨b36, 0, none⟩ : Addr).add 0]) (by kernel_rfl) (⟨Bx.c rfl, trivial⟩) fun a w hS => ?_
                  obtain ⟨y54, hy54, h⟩ := bindS h
                  refine r_callX 3 rfl (d := some 60) (g := 28) (args := #[.slice a43 y42.1.length c44, Value.agg #[.int .i64 x35.key.table, .int .u16 x35.key.id]]) [] [0] hS (by kernel_rfl) rfl rfl (row_Find_ok n y42.1 x35.key y54 hy54) (fun F up le => ⟨le 0 rfl _ (fun w h => rowRS h), trivial⟩) ?_
                  rintro v A P a w ⟨rfl, rfl, rfl⟩ hS
                  refine r_run 4 5 [1, 3, 8, 9, 11, 12, 35, 36, 37] [] hS rfl (L' := [(1, .slice a19 l21.length c20), (3, .pointer (some ⟨b2, 0, none⟩)), (8, .pointer (some ⟨b36, 0, none⟩)), (9, .slice a43 y42.1.length c44), (11, .int .i64 y54.1), (12, .bool y54.2), (35, .slice a2 p2.length c2), (36, .int .i64 (p2.length : Int)), (37, .int .i64 v23)]) (As' := [rowF flat_Row 38 a43 c44 y42.1, .box b36 [.int .i64 x35.key.table, .int .u16 x35.key.id, .int .i64 x35.val, .string x35.note], .box b2 [.slice a0_tables p0.tables.length c0_tables]]) (ob := []) (by kernel_rfl) (trivial) fun a w hS => ?_
                  refine wl_end ?_
                  refine hK53 _ _ ?_
                  refine k_seq (by kernel_rfl) fun K55 hK55 => ?_
                  refine k_seq (by kernel_rfl) fun K56 hK56 => ?_
                  refine c_name fun K57 hK57 => ?_
                  have JK57 : ∀ (v58 : Bool) a w, Sy C 137 a w [(1, .slice a19 l21.length c20), (3, .pointer (some ⟨b2, 0, none⟩)), (8, .pointer (some ⟨b36, 0, none⟩)), (9, .slice a43 y42.1.length c44), (35, .slice a2 p2.length c2), (36, .int .i64 (p2.length : Int)), (37, .int .i64 v23), (78, .bool v58)] [rowF flat_Row 38 a43 c44 y42.1, .box b36 [.int .i64 x35.key.table, .int .u16 x35.key.id, .int .i64 x35.val, .string x35.note], .box b2 [.slice a0_tables p0.tables.length c0_tables]] [RSf flat_Row a19 c20 l21, RSf flat_Bounds a0_tables c0_tables p0.tables, RSf flat_Row a1 c1 p1, RSf flat_Row a2 c2 p2] → law05_RowBack_j5 n p0 l21 v23 x35 y42 (law05_RowBack_l1 n p0 p2 m24) v58 = some r → K57 a w := by
                    intro v58 a w hS h
                    unfold law05_RowBack_j5 at h
                    refine hK57 _ _ ?_
                    refine hK56 _ _ ?_
                    refine k_cond v58 hS.has (by kernel_rfl) (by kernel_rfl) (by kernel_rfl) (fun hb59 => ?_) (fun hb59 => ?_)
                    · replace h := ctrue hb59 h
                      refine k_seq (by kernel_rfl) fun K60 hK60 => ?_
                      refine k_reg 1 (by kernel_rfl) ?_
                      refine r_run 0 1 [6] [] hS rfl (L' := [(6, .bool false)]) (As' := [rowF flat_Row 38 a43 c44 y42.1, .box b36 [.int .i64 x35.key.table, .int .u16 x35.key.id, .int .i64 x35.val, .string x35.note], .box b2 [.slice a0_tables p0.tables.length c0_tables]]) (ob := []) (by kernel_rfl) (trivial) fun a w hS => ?_
                      refine wl_end ?_
                      refine hK60 _ _ ?_
                      refine k_ret (by kernel_rfl) ?_
                      obtain rfl := someI h
                      try simp only [Exit.then, Exit.inBlock]
                      refine r_ret hS [.tmp 6] [] (xs := [.bool false]) (ps := []) [] [] rfl (by kernel_rfl) (fun hA => trivial) rfl (fun F up => trivial) ?_
                      exact ⟨rfl, rfl, rfl⟩
                    · replace h := cfalse hb59 h
                      refine k_skip (by kernel_rfl) ?_
                      refine hK55 _ _ ?_
                      refine k_seq (by kernel_rfl) fun K61 hK61 => ?_
                      refine k_reg 13 (by kernel_rfl) ?_
                      refine r_run 0 4 [1, 3, 8, 9, 35, 36, 37, 80, 81, 83] [.own 2 0, .own 1 0] hS rfl (L' := [(1, .slice a19 l21.length c20), (3, .pointer (some ⟨b2, 0, none⟩)), (8, .pointer (some ⟨b36, 0, none⟩)), (9, .slice a43 y42.1.length c44), (35, .slice a2 p2.length c2), (36, .int .i64 (p2.length : Int)), (37, .int .i64 v23), (80, Value.agg #[.slice a0_tables p0.tables.length c0_tables]), (81, .slice a43 y42.1.length c44), (83, Value.agg #[.int .i64 x35.key.table, .int .u16 x35.key.id])]) (As' := [rowF flat_Row 38 a43 c44 y42.1, .box b36 [.int .i64 x35.key.table, .int .u16 x35.key.id, .int .i64 x35.val, .string x35.note], .box b2 [.slice a0_tables p0.tables.length c0_tables]]) (ob := [fun _ => (⟨b2, 0, none⟩ : Addr) = (⟨b2, 0, none⟩ : Addr).add 0, fun _ => (⟨b36, 0, none⟩ : Addr) = (⟨b36, 0, none⟩ : Addr).add 0]) (by kernel_rfl) (⟨Bx.c rfl, Bx.c rfl, trivial⟩) fun a w hS => ?_
                      obtain ⟨y62, hy62, h⟩ := bindS h
                      refine r_callX 4 rfl (d := some 84) (g := 23) (args := #[Value.agg #[.slice a0_tables p0.tables.length c0_tables], .slice a43 y42.1.length c44, Value.agg #[.int .i64 x35.key.table, .int .u16 x35.key.id]]) [] [0] hS (by kernel_rfl) rfl rfl (row_Take_ok n p0 y42.1 x35.key y62 hy62) (fun F up le => ⟨up (hS.p 1 rfl), le 0 rfl _ (fun w h => rowRS h), trivial⟩) ?_
                      rintro v A P a w ⟨a63, c64, rfl, rfl, rfl⟩ hS
                      refine r_run1 5 8 [1, 3, 8, 9, 10, 13, 14, 35, 36, 37] [.own 0 0] hS rfl (L' := fun b66 => [(1, .slice a19 l21.length c20), (3, .pointer (some ⟨b2, 0, none⟩)), (8, .pointer (some ⟨b36, 0, none⟩)), (9, .slice a43 y42.1.length c44), (10, .int .i64 y62.2.2), (13, .slice a63 y62.1.length c64), (14, .pointer (some ⟨b66, 0, none⟩)), (35, .slice a2 p2.length c2), (36, .int .i64 (p2.length : Int)), (37, .int .i64 v23)]) (As' := fun b66 => [.box b66 [.int .i64 y62.2.1.key.table, .int .u16 y62.2.1.key.id, .int .i64 y62.2.1.val, .string y62.2.1.note], rowF flat_Row 38 a63 c64 y62.1, rowF flat_Row 38 a43 c44 y42.1, .box b36 [.int .i64 x35.key.table, .int .u16 x35.key.id, .int .i64 x35.val, .string x35.note], .box b2 [.slice a0_tables p0.tables.length c0_tables]]) (ob := fun b66 => [fun _ => (⟨b66, 0, none⟩ : Addr) = (⟨b66, 0, none⟩ : Addr).add 0, fun _ => ∀ u ∈ ([.int .i64 y62.2.1.key.table, .int .u16 y62.2.1.key.id, .int .i64 y62.2.1.val, .string y62.2.1.note] : List Value), u.oneCell' = true]) (fun b66 => by kernel_rfl) (fun b66 => ⟨Bx.c rfl, Bx.c (oneAll rfl), trivial⟩) fun b66 a w hS => ?_
                      refine wl_end ?_
                      refine hK61 _ _ ?_
                      refine k_seq (by kernel_rfl) fun K67 hK67 => ?_
                      refine k_seq (by kernel_rfl) fun K68 hK68 => ?_
                      refine k_reg 7 (by kernel_rfl) ?_
                      refine r_run 0 3 [1, 3, 8, 9, 13, 14, 35, 36, 37, 90] [] hS rfl (L' := [(1, .slice a19 l21.length c20), (3, .pointer (some ⟨b2, 0, none⟩)), (8, .pointer (some ⟨b36, 0, none⟩)), (9, .slice a43 y42.1.length c44), (13, .slice a63 y62.1.length c64), (14, .pointer (some ⟨b66, 0, none⟩)), (35, .slice a2 p2.length c2), (36, .int .i64 (p2.length : Int)), (37, .int .i64 v23), (90, .bool (y62.2.2 != 0))]) (As' := [.box b66 [.int .i64 y62.2.1.key.table, .int .u16 y62.2.1.key.id, .int .i64 y62.2.1.val, .string y62.2.1.note], rowF flat_Row 38 a63 c64 y62.1, rowF flat_Row 38 a43 c44 y42.1, .box b36 [.int .i64 x35.key.table, .int .u16 x35.key.id, .int .i64 x35.val, .string x35.note], .box b2 [.slice a0_tables p0.tables.length c0_tables]]) (ob := []) (by kernel_rfl) (trivial) fun a w hS => ?_
                      refine wl_cut 7 rfl rfl fun K69 hK69 => ?_
                      have JK69 : ∀ a w, Sy C 137 a w [(1, .slice a19 l21.length c20), (3, .pointer (some ⟨b2, 0, none⟩)), (8, .pointer (some ⟨b36, 0, none⟩)), (9, .slice a43 y42.1.length c44), (13, .slice a63 y62.1.length c64), (35, .slice a2 p2.length c2), (36, .int .i64 (p2.length : Int)), (37, .int .i64 v23), (94, .bool ((y62.2.2 != 0) || (!(Row.eqb y62.2.1 x35))))] [.box b66 [.int .i64 y62.2.1.key.table, .int .u16 y62.2.1.key.id, .int .i64 y62.2.1.val, .string y62.2.1.note], rowF flat_Row 38 a63 c64 y62.1, rowF flat_Row 38 a43 c44 y42.1, .box b36 [.int .i64 x35.key.table, .int .u16 x35.key.id, .int .i64 x35.val, .string x35.note], .box b2 [.slice a0_tables p0.tables.length c0_tables]] [RSf flat_Row a19 c20 l21, RSf flat_Bounds a0_tables c0_tables p0.tables, RSf flat_Row a1 c1 p1, RSf flat_Row a2 c2 p2] → K69 a w := by
                        intro a w hS
                        refine hK69 _ _ ?_
                        refine wl_end ?_
                        refine hK68 _ _ ?_
                        refine k_cond ((y62.2.2 != 0) || (!(Row.eqb y62.2.1 x35))) hS.has (by kernel_rfl) (by kernel_rfl) (by kernel_rfl) (fun hb70 => ?_) (fun hb70 => ?_)
                        · replace h := ctrue hb70 h
                          refine k_seq (by kernel_rfl) fun K71 hK71 => ?_
                          refine k_reg 1 (by kernel_rfl) ?_
                          refine r_run 0 1 [6] [] hS rfl (L' := [(6, .bool false)]) (As' := [.box b66 [.int .i64 y62.2.1.key.table, .int .u16 y62.2.1.key.id, .int .i64 y62.2.1.val, .string y62.2.1.note], rowF flat_Row 38 a63 c64 y62.1, rowF flat_Row 38 a43 c44 y42.1, .box b36 [.int .i64 x35.key.table, .int .u16 x35.key.id, .int .i64 x35.val, .string x35.note], .box b2 [.slice a0_tables p0.tables.length c0_tables]]) (ob := []) (by kernel_rfl) (trivial) fun a w hS => ?_
                          refine wl_end ?_
                          refine hK71 _ _ ?_
                          refine k_ret (by kernel_rfl) ?_
                          obtain rfl := someI h
                          try simp only [Exit.then, Exit.inBlock]
                          refine r_ret hS [.tmp 6] [] (xs := [.bool false]) (ps := []) [] [] rfl (by kernel_rfl) (fun hA => trivial) rfl (fun F up => trivial) ?_
                          exact ⟨rfl, rfl, rfl⟩
                        · replace h := cfalse hb70 h
                          refine k_skip (by kernel_rfl) ?_
                          refine hK67 _ _ ?_
                          refine k_seq (by kernel_rfl) fun K72 hK72 => ?_
                          refine k_reg 13 (by kernel_rfl) ?_
                          refine r_run 0 4 [1, 3, 9, 13, 35, 36, 37, 96, 97, 99] [.own 4 0, .own 3 0] hS rfl (L' := [(1, .slice a19 l21.length c20), (3, .pointer (some ⟨b2, 0, none⟩)), (9, .slice a43 y42.1.length c44), (13, .slice a63 y62.1.length c64), (35, .slice a2 p2.length c2), (36, .int .i64 (p2.length : Int)), (37, .int .i64 v23), (96, Value.agg #[.slice a0_tables p0.tables.length c0_tables]), (97, .slice a19 l21.length c20), (99, Value.agg #[.int .i64 x35.key.table, .int .u16 x35.key.id])]) (As' := [.box b66 [.int .i64 y62.2.1.key.table, .int .u16 y62.2.1.key.id, .int .i64 y62.2.1.val, .string y62.2.1.note], rowF flat_Row 38 a63 c64 y62.1, rowF flat_Row 38 a43 c44 y42.1, .box b36 [.int .i64 x35.key.table, .int .u16 x35.key.id, .int .i64 x35.val, .string x35.note], .box b2 [.slice a0_tables p0.tables.length c0_tables]]) (ob := [fun _ => (⟨b2, 0, none⟩ : Addr) = (⟨b2, 0, none⟩ : Addr).add 0, fun _ => (⟨b36, 0, none⟩ : Addr) = (⟨b36, 0, none⟩ : Addr).add 0]) (by kernel_rfl) (⟨Bx.c rfl, Bx.c rfl, trivial⟩) fun a w hS => ?_
                          obtain ⟨y73, hy73, h⟩ := bindS h
                          refine r_call 4 rfl (d := some 100) (g := 23) (args := #[Value.agg #[.slice a0_tables p0.tables.length c0_tables], .slice a19 l21.length c20, Value.agg #[.int .i64 x35.key.table, .int .u16 x35.key.id]]) [] hS (by kernel_rfl) rfl (row_Take_ok n p0 l21 x35.key y73 hy73) (fun F up => ⟨up (hS.p 1 rfl), up (hS.p 0 rfl), trivial⟩) ?_
                          rintro v A P a w ⟨a74, c75, rfl, rfl, rfl⟩ hS
                          refine r_run1 5 8 [1, 3, 9, 10, 13, 15, 16, 35, 36, 37] [.own 0 0] hS rfl (L' := fun b77 => [(1, .slice a19 l21.length c20), (3, .pointer (some ⟨b2, 0, none⟩)), (9, .slice a43 y42.1.length c44), (10, .int .i64 y73.2.2), (13, .slice a63 y62.1.length c64), (15, .slice a74 y73.1.length c75), (16, .pointer (some ⟨b77, 0, none⟩)), (35, .slice a2 p2.length c2), (36, .int .i64 (p2.length : Int)), (37, .int .i64 v23)]) (As' := fun b77 => [.box b77 [.int .i64 y73.2.1.key.table, .int .u16 y73.2.1.key.id, .int .i64 y73.2.1.val, .string y73.2.1.note], rowF flat_Row 38 a74 c75 y73.1, .box b66 [.int .i64 y62.2.1.key.table, .int .u16 y62.2.1.key.id, .int .i64 y62.2.1.val, .string y62.2.1.note], rowF flat_Row 38 a63 c64 y62.1, rowF flat_Row 38 a43 c44 y42.1, .box b36 [.int .i64 x35.key.table, .int .u16 x35.key.id, .int .i64 x35.val, .string x35.note], .box b2 [.slice a0_tables p0.tables.length c0_tables]]) (ob := fun b77 => [fun _ => (⟨b77, 0, none⟩ : Addr) = (⟨b77, 0, none⟩ : Addr).add 0, fun _ => ∀ u ∈ ([.int .i64 y73.2.1.key.table, .int .u16 y73.2.1.key.id, .int .i64 y73.2.1.val, .string y73.2.1.note] : List Value), u.oneCell' = true]) (fun b77 => by kernel_rfl) (fun b77 => ⟨Bx.c rfl, Bx.c (oneAll rfl), trivial⟩) fun b77 a w hS => ?_
                          refine wl_end ?_
                          refine hK72 _ _ ?_
                          refine k_seq (by kernel_rfl) fun K78 hK78 => ?_
                          have JK78 : ∀ a w, Sy C 137 a w [(3, .pointer (some ⟨b2, 0, none⟩)), (9, .slice a43 y42.1.length c44), (35, .slice a2 p2.length c2), (36, .int .i64 (p2.length : Int)), (37, .int .i64 v23)] [.box b77 [.int .i64 y73.2.1.key.table, .int .u16 y73.2.1.key.id, .int .i64 y73.2.1.val, .string y73.2.1.note], rowF flat_Row 38 a74 c75 y73.1, .box b66 [.int .i64 y62.2.1.key.table, .int .u16 y62.2.1.key.id, .int .i64 y62.2.1.val, .string y62.2.1.note], rowF flat_Row 38 a63 c64 y62.1, rowF flat_Row 38 a43 c44 y42.1, .box b36 [.int .i64 x35.key.table, .int .u16 x35.key.id, .int .i64 x35.val, .string x35.note], .box b2 [.slice a0_tables p0.tables.length c0_tables]] [RSf flat_Row a19 c20 l21, RSf flat_Bounds a0_tables c0_tables p0.tables, RSf flat_Row a1 c1 p1, RSf flat_Row a2 c2 p2] → law05_RowBack_j2 n v23 y42 (law05_RowBack_l1 n p0 p2 m24) = some r → K78 a w := by
                            intro a w hS h
                            unfold law05_RowBack_j2 at h
                            refine hK78 _ _ ?_
                            refine k_reg 2 (by kernel_rfl) ?_
                            refine r_run 0 2 [1, 3, 35, 36, 37] [] hS rfl (L' := [(1, .slice a43 y42.1.length c44), (3, .pointer (some ⟨b2, 0, none⟩)), (35, .slice a2 p2.length c2), (36, .int .i64 (p2.length : Int)), (37, .int .i64 v23)]) (As' := [.box b77 [.int .i64 y73.2.1.key.table, .int .u16 y73.2.1.key.id, .int .i64 y73.2.1.val, .string y73.2.1.note], rowF flat_Row 38 a74 c75 y73.1, .box b66 [.int .i64 y62.2.1.key.table, .int .u16 y62.2.1.key.id, .int .i64 y62.2.1.val, .string y62.2.1.note], rowF flat_Row 38 a63 c64 y62.1, rowF flat_Row 38 a43 c44 y42.1, .box b36 [.int .i64 x35.key.table, .int .u16 x35.key.id, .int .i64 x35.val, .string x35.note], .box b2 [.slice a0_tables p0.tables.length c0_tables]]) (ob := []) (by kernel_rfl) (trivial) fun a w hS => ?_
                            refine wl_end ?_
                            replace hS := hS.freeze 4 rfl (RSf flat_Row a43 c44 y42.1) fun w h => rowRS h
                            exact JK29 a43 c44 y42.1 _ _ (hS.got [1, 3, 35, 36, 37] [5] [0] 1 (by kernel_rfl) (by kernel_rfl) (by kernel_rfl)) h
                          refine k_seq (by kernel_rfl) fun K80 hK80 => ?_
                          refine k_reg 2 (by kernel_rfl) ?_
                          refine r_run 0 2 [1, 3, 9, 10, 13, 15, 16, 35, 36, 37, 105] [] hS rfl (L' := [(1, .slice a19 l21.length c20), (3, .pointer (some ⟨b2, 0, none⟩)), (9, .slice a43 y42.1.length c44), (10, .int .i64 y73.2.2), (13, .slice a63 y62.1.length c64), (15, .slice a74 y73.1.length c75), (16, .pointer (some ⟨b77, 0, none⟩)), (35, .slice a2 p2.length c2), (36, .int .i64 (p2.length : Int)), (37, .int .i64 v23), (105, .bool (y73.2.2 == 4))]) (As' := [.box b77 [.int .i64 y73.2.1.key.table, .int .u16 y73.2.1.key.id, .int .i64 y73.2.1.val, .string y73.2.1.note], rowF flat_Row 38 a74 c75 y73.1, .box b66 [.int .i64 y62.2.1.key.table, .int .u16 y62.2.1.key.id, .int .i64 y62.2.1.val, .string y62.2.1.note], rowF flat_Row 38 a63 c64 y62.1, rowF flat_Row 38 a43 c44 y42.1, .box b36 [.int .i64 x35.key.table, .int .u16 x35.key.id, .int .i64 x35.val, .string x35.note], .box b2 [.slice a0_tables p0.tables.length c0_tables]]) (ob := []) (by kernel_rfl) (trivial) fun a w hS => ?_
                          refine wl_end ?_
                          refine hK80 _ _ ?_
                          refine k_cond (y73.2.2 == 4) hS.has (by kernel_rfl) (by kernel_rfl) (by kernel_rfl) (fun hb81 => ?_) (fun hb81 => ?_)
                          · replace h := ctrue hb81 h
                            refine k_seq (by kernel_rfl) fun K82 hK82 => ?_
                            refine k_reg 4 (by kernel_rfl) ?_
                            refine r_run 0 2 [3, 9, 35, 36, 37, 106, 107] [] hS rfl (L' := [(3, .pointer (some ⟨b2, 0, none⟩)), (9, .slice a43 y42.1.length c44), (35, .slice a2 p2.length c2), (36, .int .i64 (p2.length : Int)), (37, .int .i64 v23), (106, .slice a63 y62.1.length c64), (107, .slice a19 l21.length c20)]) (As' := [.box b77 [.int .i64 y73.2.1.key.table, .int .u16 y73.2.1.key.id, .int .i64 y73.2.1.val, .string y73.2.1.note], rowF flat_Row 38 a74 c75 y73.1, .box b66 [.int .i64 y62.2.1.key.table, .int .u16 y62.2.1.key.id, .int .i64 y62.2.1.val, .string y62.2.1.note], rowF flat_Row 38 a63 c64 y62.1, rowF flat_Row 38 a43 c44 y42.1, .box b36 [.int .i64 x35.key.table, .int .u16 x35.key.id, .int .i64 x35.val, .string x35.note], .box b2 [.slice a0_tables p0.tables.length c0_tables]]) (ob := []) (by kernel_rfl) (trivial) fun a w hS => ?_
                            obtain ⟨y83, hy83, h⟩ := bindS h
                            refine r_callX 2 rfl (d := some 108) (g := 21) (args := #[.slice a63 y62.1.length c64, .slice a19 l21.length c20]) [] [3] hS (by kernel_rfl) rfl rfl (row_Same_ok n y62.1 l21 y83 hy83) (fun F up le => ⟨le 0 rfl _ (fun w h => rowRS h), up (hS.p 0 rfl), trivial⟩) ?_
                            rintro v A P a w ⟨rfl, rfl, rfl⟩ hS
                            refine r_run 3 1 [3, 9, 35, 36, 37, 109] [] hS rfl (L' := [(3, .pointer (some ⟨b2, 0, none⟩)), (9, .slice a43 y42.1.length c44), (35, .slice a2 p2.length c2), (36, .int .i64 (p2.length : Int)), (37, .int .i64 v23), (109, .bool (!y83))]) (As' := [.box b77 [.int .i64 y73.2.1.key.table, .int .u16 y73.2.1.key.id, .int .i64 y73.2.1.val, .string y73.2.1.note], rowF flat_Row 38 a74 c75 y73.1, .box b66 [.int .i64 y62.2.1.key.table, .int .u16 y62.2.1.key.id, .int .i64 y62.2.1.val, .string y62.2.1.note], rowF flat_Row 38 a63 c64 y62.1, rowF flat_Row 38 a43 c44 y42.1, .box b36 [.int .i64 x35.key.table, .int .u16 x35.key.id, .int .i64 x35.val, .string x35.note], .box b2 [.slice a0_tables p0.tables.length c0_tables]]) (ob := []) (by kernel_rfl) (trivial) fun a w hS => ?_
                            refine wl_end ?_
                            refine hK82 _ _ ?_
                            refine k_cond (!y83) hS.has (by kernel_rfl) (by kernel_rfl) (by kernel_rfl) (fun hb84 => ?_) (fun hb84 => ?_)
                            · replace h := ctrue hb84 h
                              refine k_seq (by kernel_rfl) fun K85 hK85 => ?_
                              refine k_reg 1 (by kernel_rfl) ?_
                              refine r_run 0 1 [6] [] hS rfl (L' := [(6, .bool false)]) (As' := [.box b77 [.int .i64 y73.2.1.key.table, .int .u16 y73.2.1.key.id, .int .i64 y73.2.1.val, .string y73.2.1.note], rowF flat_Row 38 a74 c75 y73.1, .box b66 [.int .i64 y62.2.1.key.table, .int .u16 y62.2.1.key.id, .int .i64 y62.2.1.val, .string y62.2.1.note], rowF flat_Row 38 a63 c64 y62.1, rowF flat_Row 38 a43 c44 y42.1, .box b36 [.int .i64 x35.key.table, .int .u16 x35.key.id, .int .i64 x35.val, .string x35.note], .box b2 [.slice a0_tables p0.tables.length c0_tables]]) (ob := []) (by kernel_rfl) (trivial) fun a w hS => ?_
                              refine wl_end ?_
                              refine hK85 _ _ ?_
                              refine k_ret (by kernel_rfl) ?_
                              obtain rfl := someI h
                              try simp only [Exit.then, Exit.inBlock]
                              refine r_ret hS [.tmp 6] [] (xs := [.bool false]) (ps := []) [] [] rfl (by kernel_rfl) (fun hA => trivial) rfl (fun F up => trivial) ?_
                              exact ⟨rfl, rfl, rfl⟩
                            · replace h := cfalse hb84 h
                              refine k_skip (by kernel_rfl) ?_
                              exact JK78 _ _ (hS.got [3, 9, 35, 36, 37] [0, 0, 0, 0, 0, 0, 0] [] 0 (by kernel_rfl) (by kernel_rfl) (by kernel_rfl)) h
                          · replace h := cfalse hb81 h
                            refine k_seq (by kernel_rfl) fun K86 hK86 => ?_
                            refine k_reg 9 (by kernel_rfl) ?_
                            refine r_run 0 3 [1, 3, 9, 10, 13, 15, 35, 36, 37, 111, 112, 113] [.own 6 0, .own 0 0] hS rfl (L' := [(1, .slice a19 l21.length c20), (3, .pointer (some ⟨b2, 0, none⟩)), (9, .slice a43 y42.1.length c44), (10, .int .i64 y73.2.2), (13, .slice a63 y62.1.length c64), (15, .slice a74 y73.1.length c75), (35, .slice a2 p2.length c2), (36, .int .i64 (p2.length : Int)), (37, .int .i64 v23), (111, Value.agg #[.slice a0_tables p0.tables.length c0_tables]), (112, .slice a74 y73.1.length c75), (113, Value.agg #[.int .i64 y73.2.1.key.table, .int .u16 y73.2.1.key.id, .int .i64 y73.2.1.val, .string y73.2.1.note])]) (As' := [.box b77 [.int .i64 y73.2.1.key.table, .int .u16 y73.2.1.key.id, .int .i64 y73.2.1.val, .string y73.2.1.note], rowF flat_Row 38 a74 c75 y73.1, .box b66 [.int .i64 y62.2.1.key.table, .int .u16 y62.2.1.key.id, .int .i64 y62.2.1.val, .string y62.2.1.note], rowF flat_Row 38 a63 c64 y62.1, rowF flat_Row 38 a43 c44 y42.1, .box b36 [.int .i64 x35.key.table, .int .u16 x35.key.id, .int .i64 x35.val, .string x35.note], .box b2 [.slice a0_tables p0.tables.length c0_tables]]) (ob := [fun _ => (⟨b2, 0, none⟩ : Addr) = (⟨b2, 0, none⟩ : Addr).add 0, fun _ => (⟨b77, 0, none⟩ : Addr) = (⟨b77, 0, none⟩ : Addr).add 0]) (by kernel_rfl) (⟨Bx.c rfl, Bx.c rfl, trivial⟩) fun a w hS => ?_
                            obtain ⟨y87, hy87, h⟩ := bindS h
                            refine r_callX 3 rfl (d := some 114) (g := 22) (args := #[Value.agg #[.slice a0_tables p0.tables.length c0_tables], .slice a74 y73.1.length c75, Value.agg #[.int .i64 y73.2.1.key.table, .int .u16 y73.2.1.key.id, .int .i64 y73.2.1.val, .string y73.2.1.note]]) [] [1] hS (by kernel_rfl) rfl rfl (row_Put_ok n p0 y73.1 y73.2.1 y87 hy87) (fun F up le => ⟨up (hS.p 1 rfl), le 0 rfl _ (fun w h => rowRS h), trivial⟩) ?_
                            rintro v A P a w ⟨a88, c89, rfl, rfl, rfl⟩ hS
                            refine r_run 4 5 [1, 3, 9, 10, 13, 15, 17, 18, 35, 36, 37] [] hS rfl (L' := [(1, .slice a19 l21.length c20), (3, .pointer (some ⟨b2, 0, none⟩)), (9, .slice a43 y42.1.length c44), (10, .int .i64 y73.2.2), (13, .slice a63 y62.1.length c64), (15, .slice a74 y73.1.length c75), (17, .slice a88 y87.1.length c89), (18, .int .i64 y87.2), (35, .slice a2 p2.length c2), (36, .int .i64 (p2.length : Int)), (37, .int .i64 v23)]) (As' := [rowF flat_Row 38 a88 c89 y87.1, .box b77 [.int .i64 y73.2.1.key.table, .int .u16 y73.2.1.key.id, .int .i64 y73.2.1.val, .string y73.2.1.note], rowF flat_Row 38 a74 c75 y73.1, .box b66 [.int .i64 y62.2.1.key.table, .int .u16 y62.2.1.key.id, .int .i64 y62.2.1.val, .string y62.2.1.note], rowF flat_Row 38 a63 c64 y62.1, rowF flat_Row 38 a43 c44 y42.1, .box b36 [.int .i64 x35.key.table, .int .u16 x35.key.id, .int .i64 x35.val, .string x35.note], .box b2 [.slice a0_tables p0.tables.length c0_tables]]) (ob := []) (by kernel_rfl) (trivial) fun a w hS => ?_
                            refine wl_end ?_
                            refine hK86 _ _ ?_
                            refine k_seq (by kernel_rfl) fun K91 hK91 => ?_
                            refine k_reg 18 (by kernel_rfl) ?_
                            refine r_run 0 3 [1, 3, 9, 13, 15, 17, 18, 35, 36, 37, 119] [] hS rfl (L' := [(1, .slice a19 l21.length c20), (3, .pointer (some ⟨b2, 0, none⟩)), (9, .slice a43 y42.1.length c44), (13, .slice a63 y62.1.length c64), (15, .slice a74 y73.1.length c75), (17, .slice a88 y87.1.length c89), (18, .int .i64 y87.2), (35, .slice a2 p2.length c2), (36, .int .i64 (p2.length : Int)), (37, .int .i64 v23), (119, .bool (y73.2.2 != 0))]) (As' := [rowF flat_Row 38 a88 c89 y87.1, .box b77 [.int .i64 y73.2.1.key.table, .int .u16 y73.2.1.key.id, .int .i64 y73.2.1.val, .string y73.2.1.note], rowF flat_Row 38 a74 c75 y73.1, .box b66 [.int .i64 y62.2.1.key.table, .int .u16 y62.2.1.key.id, .int .i64 y62.2.1.val, .string y62.2.1.note], rowF flat_Row 38 a63 c64 y62.1, rowF flat_Row 38 a43 c44 y42.1, .box b36 [.int .i64 x35.key.table, .int .u16 x35.key.id, .int .i64 x35.val, .string x35.note], .box b2 [.slice a0_tables p0.tables.length c0_tables]]) (ob := []) (by kernel_rfl) (trivial) fun a w hS => ?_
                            refine wl_cut 6 rfl rfl fun K92 hK92 => ?_
                            have JK92 : ∀ a w, Sy C 137 a w [(1, .slice a19 l21.length c20), (3, .pointer (some ⟨b2, 0, none⟩)), (9, .slice a43 y42.1.length c44), (13, .slice a63 y62.1.length c64), (15, .slice a74 y73.1.length c75), (17, .slice a88 y87.1.length c89), (35, .slice a2 p2.length c2), (36, .int .i64 (p2.length : Int)), (37, .int .i64 v23), (122, .bool ((y73.2.2 != 0) || (y87.2 != 0)))] [rowF flat_Row 38 a88 c89 y87.1, .box b77 [.int .i64 y73.2.1.key.table, .int .u16 y73.2.1.key.id, .int .i64 y73.2.1.val, .string y73.2.1.note], rowF flat_Row 38 a74 c75 y73.1, .box b66 [.int .i64 y62.2.1.key.table, .int .u16 y62.2.1.key.id, .int .i64 y62.2.1.val, .string y62.2.1.note], rowF flat_Row 38 a63 c64 y62.1, rowF flat_Row 38 a43 c44 y42.1, .box b36 [.int .i64 x35.key.table, .int .u16 x35.key.id, .int .i64 x35.val, .string x35.note], .box b2 [.slice a0_tables p0.tables.length c0_tables]] [RSf flat_Row a19 c20 l21, RSf flat_Bounds a0_tables c0_tables p0.tables, RSf flat_Row a1 c1 p1, RSf flat_Row a2 c2 p2] → K92 a w := by
                              intro a w hS
                              refine hK92 _ _ ?_
                              refine r_run 6 1 [1, 3, 9, 13, 15, 17, 35, 36, 37, 123] [] hS rfl (L' := [(1, .slice a19 l21.length c20), (3, .pointer (some ⟨b2, 0, none⟩)), (9, .slice a43 y42.1.length c44), (13, .slice a63 y62.1.length c64), (15, .slice a74 y73.1.length c75), (17, .slice a88 y87.1.length c89), (35, .slice a2 p2.length c2), (36, .int .i64 (p2.length : Int)), (37, .int .i64 v23), (123, .bool ((y73.2.2 != 0) || (y87.2 != 0)))]) (As' := [rowF flat_Row 38 a88 c89 y87.1, .box b77 [.int .i64 y73.2.1.key.table, .int .u16 y73.2.1.key.id, .int .i64 y73.2.1.val, .string y73.2.1.note], rowF flat_Row 38 a74 c75 y73.1, .box b66 [.int .i64 y62.2.1.key.table, .int .u16 y62.2.1.key.id, .int .i64 y62.2.1.val, .string y62.2.1.note], rowF flat_Row 38 a63 c64 y62.1, rowF flat_Row 38 a43 c44 y42.1, .box b36 [.int .i64 x35.key.table, .int .u16 x35.key.id, .int .i64 x35.val, .string x35.note], .box b2 [.slice a0_tables p0.tables.length c0_tables]]) (ob := []) (by kernel_rfl) (trivial) fun a w hS => ?_
                              refine wl_cut 12 rfl rfl fun K93 hK93 => ?_
                              have JK93 : ∀ (v94 : Bool) a w, Sy C 137 a w [(1, .slice a19 l21.length c20), (3, .pointer (some ⟨b2, 0, none⟩)), (9, .slice a43 y42.1.length c44), (17, .slice a88 y87.1.length c89), (35, .slice a2 p2.length c2), (36, .int .i64 (p2.length : Int)), (37, .int .i64 v23), (128, .bool v94)] [rowF flat_Row 38 a88 c89 y87.1, .box b77 [.int .i64 y73.2.1.key.table, .int .u16 y73.2.1.key.id, .int .i64 y73.2.1.val, .string y73.2.1.note], rowF flat_Row 38 a74 c75 y73.1, .box b66 [.int .i64 y62.2.1.key.table, .int .u16 y62.2.1.key.id, .int .i64 y62.2.1.val, .string y62.2.1.note], rowF flat_Row 38 a63 c64 y62.1, rowF flat_Row 38 a43 c44 y42.1, .box b36 [.int .i64 x35.key.table, .int .u16 x35.key.id, .int .i64 x35.val, .string x35.note], .box b2 [.slice a0_tables p0.tables.length c0_tables]] [RSf flat_Row a19 c20 l21, RSf flat_Bounds a0_tables c0_tables p0.tables, RSf flat_Row a1 c1 p1, RSf flat_Row a2 c2 p2] → law05_RowBack_j4 n l21 v23 y42 y87 (law05_RowBack_l1 n p0 p2 m24) v94 = some r → K93 a w := by
                                intro v94 a w hS h
                                unfold law05_RowBack_j4 at h
                                refine hK93 _ _ ?_
                                refine r_run 12 1 [1, 3, 9, 17, 35, 36, 37, 129] [] hS rfl (L' := [(1, .slice a19 l21.length c20), (3, .pointer (some ⟨b2, 0, none⟩)), (9, .slice a43 y42.1.length c44), (17, .slice a88 y87.1.length c89), (35, .slice a2 p2.length c2), (36, .int .i64 (p2.length : Int)), (37, .int .i64 v23), (129, .bool v94)]) (As' := [rowF flat_Row 38 a88 c89 y87.1, .box b77 [.int .i64 y73.2.1.key.table, .int .u16 y73.2.1.key.id, .int .i64 y73.2.1.val, .string y73.2.1.note], rowF flat_Row 38 a74 c75 y73.1, .box b66 [.int .i64 y62.2.1.key.table, .int .u16 y62.2.1.key.id, .int .i64 y62.2.1.val, .string y62.2.1.note], rowF flat_Row 38 a63 c64 y62.1, rowF flat_Row 38 a43 c44 y42.1, .box b36 [.int .i64 x35.key.table, .int .u16 x35.key.id, .int .i64 x35.val, .string x35.note], .box b2 [.slice a0_tables p0.tables.length c0_tables]]) (ob := []) (by kernel_rfl) (trivial) fun a w hS => ?_
                                refine wl_cut 18 rfl rfl fun K95 hK95 => ?_
                                have JK95 : ∀ (v96 : Bool) a w, Sy C 137 a w [(3, .pointer (some ⟨b2, 0, none⟩)), (9, .slice a43 y42.1.length c44), (35, .slice a2 p2.length c2), (36, .int .i64 (p2.length : Int)), (37, .int .i64 v23), (134, .bool v96)] [rowF flat_Row 38 a88 c89 y87.1, .box b77 [.int .i64 y73.2.1.key.table, .int .u16 y73.2.1.key.id, .int .i64 y73.2.1.val, .string y73.2.1.note], rowF flat_Row 38 a74 c75 y73.1, .box b66 [.int .i64 y62.2.1.key.table, .int .u16 y62.2.1.key.id, .int .i64 y62.2.1.val, .string y62.2.1.note], rowF flat_Row 38 a63 c64 y62.1, rowF flat_Row 38 a43 c44 y42.1, .box b36 [.int .i64 x35.key.table, .int .u16 x35.key.id, .int .i64 x35.val, .string x35.note], .box b2 [.slice a0_tables p0.tables.length c0_tables]] [RSf flat_Row a19 c20 l21, RSf flat_Bounds a0_tables c0_tables p0.tables, RSf flat_Row a1 c1 p1, RSf flat_Row a2 c2 p2] → law05_RowBack_j3 n v23 y42 (law05_RowBack_l1 n p0 p2 m24) v96 = some r → K95 a w := by
                                  intro v96 a w hS h
                                  unfold law05_RowBack_j3 at h
                                  refine hK95 _ _ ?_
                                  refine wl_end ?_
                                  refine hK91 _ _ ?_
                                  refine k_cond v96 hS.has (by kernel_rfl) (by kernel_rfl) (by kernel_rfl) (fun hb97 => ?_) (fun hb97 => ?_)
                                  · replace h := ctrue hb97 h
                                    refine k_seq (by kernel_rfl) fun K98 hK98 => ?_
                                    refine k_reg 1 (by kernel_rfl) ?_
                                    refine r_run 0 1 [6] [] hS rfl (L' := [(6, .bool false)]) (As' := [rowF flat_Row 38 a88 c89 y87.1, .box b77 [.int .i64 y73.2.1.key.table, .int .u16 y73.2.1.key.id, .int .i64 y73.2.1.val, .string y73.2.1.note], rowF flat_Row 38 a74 c75 y73.1, .box b66 [.int .i64 y62.2.1.key.table, .int .u16 y62.2.1.key.id, .int .i64 y62.2.1.val, .string y62.2.1.note], rowF flat_Row 38 a63 c64 y62.1, rowF flat_Row 38 a43 c44 y42.1, .box b36 [.int .i64 x35.key.table, .int .u16 x35.key.id, .int .i64 x35.val, .string x35.note], .box b2 [.slice a0_tables p0.tables.length c0_tables]]) (ob := []) (by kernel_rfl) (trivial) fun a w hS => ?_
                                    refine wl_end ?_
                                    refine hK98 _ _ ?_
                                    refine k_ret (by kernel_rfl) ?_
                                    obtain rfl := someI h
                                    try simp only [Exit.then, Exit.inBlock]
                                    refine r_ret hS [.tmp 6] [] (xs := [.bool false]) (ps := []) [] [] rfl (by kernel_rfl) (fun hA => trivial) rfl (fun F up => trivial) ?_
                                    exact ⟨rfl, rfl, rfl⟩
                                  · replace h := cfalse hb97 h
                                    refine k_skip (by kernel_rfl) ?_
                                    exact JK78 _ _ (hS.got [3, 9, 35, 36, 37] [1, 1, 1, 1, 1, 1, 1] [] 0 (by kernel_rfl) (by kernel_rfl) (by kernel_rfl)) h
                                cases hb99 : v94
                                · replace hS := hS.env (L' := [(1, .slice a19 l21.length c20), (3, .pointer (some ⟨b2, 0, none⟩)), (9, .slice a43 y42.1.length c44), (17, .slice a88 y87.1.length c89), (35, .slice a2 p2.length c2), (36, .int .i64 (p2.length : Int)), (37, .int .i64 v23), (129, .bool false)]) (by rw [hb99])
                                  replace h := cfalse hb99 h
                                  refine r_run 13 2 [3, 9, 35, 36, 37, 129, 130, 131] [] hS rfl (L' := [(3, .pointer (some ⟨b2, 0, none⟩)), (9, .slice a43 y42.1.length c44), (35, .slice a2 p2.length c2), (36, .int .i64 (p2.length : Int)), (37, .int .i64 v23), (129, .bool false), (130, .slice a88 y87.1.length c89), (131, .slice a19 l21.length c20)]) (As' := [rowF flat_Row 38 a88 c89 y87.1, .box b77 [.int .i64 y73.2.1.key.table, .int .u16 y73.2.1.key.id, .int .i64 y73.2.1.val, .string y73.2.1.note], rowF flat_Row 38 a74 c75 y73.1, .box b66 [.int .i64 y62.2.1.key.table, .int .u16 y62.2.1.key.id, .int .i64 y62.2.1.val, .string y62.2.1.note], rowF flat_Row 38 a63 c64 y62.1, rowF flat_Row 38 a43 c44 y42.1, .box b36 [.int .i64 x35.key.table, .int .u16 x35.key.id, .int .i64 x35.val, .string x35.note], .box b2 [.slice a0_tables p0.tables.length c0_tables]]) (ob := []) (by kernel_rfl) (trivial) fun a w hS => ?_
                                  obtain ⟨y100, hy100, h⟩ := bindS h
                                  refine r_callX 15 rfl (d := some 132) (g := 21) (args := #[.slice a88 y87.1.length c89, .slice a19 l21.length c20]) [] [0] hS (by kernel_rfl) rfl rfl (row_Same_ok n y87.1 l21 y100 hy100) (fun F up le => ⟨le 0 rfl _ (fun w h => rowRS h), up (hS.p 0 rfl), trivial⟩) ?_
                                  rintro v A P a w ⟨rfl, rfl, rfl⟩ hS
                                  refine r_run 16 2 [3, 9, 35, 36, 37, 134] [] hS rfl (L' := [(3, .pointer (some ⟨b2, 0, none⟩)), (9, .slice a43 y42.1.length c44), (35, .slice a2 p2.length c2), (36, .int .i64 (p2.length : Int)), (37, .int .i64 v23), (134, .bool (!y100))]) (As' := [rowF flat_Row 38 a88 c89 y87.1, .box b77 [.int .i64 y73.2.1.key.table, .int .u16 y73.2.1.key.id, .int .i64 y73.2.1.val, .string y73.2.1.note], rowF flat_Row 38 a74 c75 y73.1, .box b66 [.int .i64 y62.2.1.key.table, .int .u16 y62.2.1.key.id, .int .i64 y62.2.1.val, .string y62.2.1.note], rowF flat_Row 38 a63 c64 y62.1, rowF flat_Row 38 a43 c44 y42.1, .box b36 [.int .i64 x35.key.table, .int .u16 x35.key.id, .int .i64 x35.val, .string x35.note], .box b2 [.slice a0_tables p0.tables.length c0_tables]]) (ob := []) (by kernel_rfl) (trivial) fun a w hS => ?_
                                  refine wl_end ?_
                                  exact JK95 (!y100) _ _ (hS.got [3, 9, 35, 36, 37, 134] [0, 0, 0, 0, 0, 0, 0, 0] [] 0 (by kernel_rfl) (by kernel_rfl) (by kernel_rfl)) h
                                · replace hS := hS.env (L' := [(1, .slice a19 l21.length c20), (3, .pointer (some ⟨b2, 0, none⟩)), (9, .slice a43 y42.1.length c44), (17, .slice a88 y87.1.length c89), (35, .slice a2 p2.length c2), (36, .int .i64 (p2.length : Int)), (37, .int .i64 v23), (129, .bool true)]) (by rw [hb99])
                                  replace h := ctrue hb99 h
                                  refine r_run 13 5 [3, 9, 35, 36, 37, 134] [] hS rfl (L' := [(3, .pointer (some ⟨b2, 0, none⟩)), (9, .slice a43 y42.1.length c44), (35, .slice a2 p2.length c2), (36, .int .i64 (p2.length : Int)), (37, .int .i64 v23), (134, .bool true)]) (As' := [rowF flat_Row 38 a88 c89 y87.1, .box b77 [.int .i64 y73.2.1.key.table, .int .u16 y73.2.1.key.id, .int .i64 y73.2.1.val, .string y73.2.1.note], rowF flat_Row 38 a74 c75 y73.1, .box b66 [.int .i64 y62.2.1.key.table, .int .u16 y62.2.1.key.id, .int .i64 y62.2.1.val, .string y62.2.1.note], rowF flat_Row 38 a63 c64 y62.1, rowF flat_Row 38 a43 c44 y42.1, .box b36 [.int .i64 x35.key.table, .int .u16 x35.key.id, .int .i64 x35.val, .string x35.note], .box b2 [.slice a0_tables p0.tables.length c0_tables]]) (ob := []) (by kernel_rfl) (trivial) fun a w hS => ?_
                                  refine wl_end ?_
                                  exact JK95 true _ _ (hS.got [3, 9, 35, 36, 37, 134] [0, 0, 0, 0, 0, 0, 0, 0] [] 0 (by kernel_rfl) (by kernel_rfl) (by kernel_rfl)) h
                              cases hb101 : ((y73.2.2 != 0) || (y87.2 != 0))
                              · replace hS := hS.env (L' := [(1, .slice a19 l21.length c20), (3, .pointer (some ⟨b2, 0, none⟩)), (9, .slice a43 y42.1.length c44), (13, .slice a63 y62.1.length c64), (15, .slice a74 y73.1.length c75), (17, .slice a88 y87.1.length c89), (35, .slice a2 p2.length c2), (36, .int .i64 (p2.length : Int)), (37, .int .i64 v23), (123, .bool false)]) (by rw [hb101])
                                replace h := cfalse hb101 h
                                refine r_run 7 2 [1, 3, 9, 17, 35, 36, 37, 123, 124, 125] [] hS rfl (L' := [(1, .slice a19 l21.length c20), (3, .pointer (some ⟨b2, 0, none⟩)), (9, .slice a43 y42.1.length c44), (17, .slice a88 y87.1.length c89), (35, .slice a2 p2.length c2), (36, .int .i64 (p2.length : Int)), (37, .int .i64 v23), (123, .bool false), (124, .slice a63 y62.1.length c64), (125, .slice a74 y73.1.length c75)]) (As' := [rowF flat_Row 38 a88 c89 y87.1, .box b77 [.int .i64 y73.2.1.key.table, .int .u16 y73.2.1.key.id, .int .i64 y73.2.1.val, .string y73.2.1.note], rowF flat_Row 38 a74 c75 y73.1, .box b66 [.int .i64 y62.2.1.key.table, .int .u16 y62.2.1.key.id, .int .i64 y62.2.1.val, .string y62.2.1.note], rowF flat_Row 38 a63 c64 y62.1, rowF flat_Row 38 a43 c44 y42.1, .box b36 [.int .i64 x35.key.table, .int .u16 x35.key.id, .int .i64 x35.val, .string x35.note], .box b2 [.slice a0_tables p0.tables.length c0_tables]]) (ob := []) (by kernel_rfl) (trivial) fun a w hS => ?_
                                obtain ⟨y102, hy102, h⟩ := bindS h
                                refine r_callX 9 rfl (d := some 126) (g := 21) (args := #[.slice a63 y62.1.length c64, .slice a74 y73.1.length c75]) [] [4, 2] hS (by kernel_rfl) rfl rfl (row_Same_ok n y62.1 y73.1 y102 hy102) (fun F up le => ⟨le 0 rfl _ (fun w h => rowRS h), le 1 rfl _ (fun w h => rowRS h), trivial⟩) ?_
                                rintro v A P a w ⟨rfl, rfl, rfl⟩ hS
                                refine r_run 10 2 [1, 3, 9, 17, 35, 36, 37, 128] [] hS rfl (L' := [(1, .slice a19 l21.length c20), (3, .pointer (some ⟨b2, 0, none⟩)), (9, .slice a43 y42.1.length c44), (17, .slice a88 y87.1.length c89), (35, .slice a2 p2.length c2), (36, .int .i64 (p2.length : Int)), (37, .int .i64 v23), (128, .bool (!y102))]) (As' := [rowF flat_Row 38 a88 c89 y87.1, .box b77 [.int .i64 y73.2.1.key.table, .int .u16 y73.2.1.key.id, .int .i64 y73.2.1.val, .string y73.2.1.note], rowF flat_Row 38 a74 c75 y73.1, .box b66 [.int .i64 y62.2.1.key.table, .int .u16 y62.2.1.key.id, .int .i64 y62.2.1.val, .string y62.2.1.note], rowF flat_Row 38 a63 c64 y62.1, rowF flat_Row 38 a43 c44 y42.1, .box b36 [.int .i64 x35.key.table, .int .u16 x35.key.id, .int .i64 x35.val, .string x35.note], .box b2 [.slice a0_tables p0.tables.length c0_tables]]) (ob := []) (by kernel_rfl) (trivial) fun a w hS => ?_
                                refine wl_end ?_
                                exact JK93 (!y102) _ _ (hS.got [1, 3, 9, 17, 35, 36, 37, 128] [0, 0, 0, 0, 0, 0, 0, 0] [] 0 (by kernel_rfl) (by kernel_rfl) (by kernel_rfl)) h
                              · replace hS := hS.env (L' := [(1, .slice a19 l21.length c20), (3, .pointer (some ⟨b2, 0, none⟩)), (9, .slice a43 y42.1.length c44), (13, .slice a63 y62.1.length c64), (15, .slice a74 y73.1.length c75), (17, .slice a88 y87.1.length c89), (35, .slice a2 p2.length c2), (36, .int .i64 (p2.length : Int)), (37, .int .i64 v23), (123, .bool true)]) (by rw [hb101])
                                replace h := ctrue hb101 h
                                refine r_run 7 5 [1, 3, 9, 17, 35, 36, 37, 128] [] hS rfl (L' := [(1, .slice a19 l21.length c20), (3, .pointer (some ⟨b2, 0, none⟩)), (9, .slice a43 y42.1.length c44), (17, .slice a88 y87.1.length c89), (35, .slice a2 p2.length c2), (36, .int .i64 (p2.length : Int)), (37, .int .i64 v23), (128, .bool true)]) (As' := [rowF flat_Row 38 a88 c89 y87.1, .box b77 [.int .i64 y73.2.1.key.table, .int .u16 y73.2.1.key.id, .int .i64 y73.2.1.val, .string y73.2.1.note], rowF flat_Row 38 a74 c75 y73.1, .box b66 [.int .i64 y62.2.1.key.table, .int .u16 y62.2.1.key.id, .int .i64 y62.2.1.val, .string y62.2.1.note], rowF flat_Row 38 a63 c64 y62.1, rowF flat_Row 38 a43 c44 y42.1, .box b36 [.int .i64 x35.key.table, .int .u16 x35.key.id, .int .i64 x35.val, .string x35.note], .box b2 [.slice a0_tables p0.tables.length c0_tables]]) (ob := []) (by kernel_rfl) (trivial) fun a w hS => ?_
                                refine wl_end ?_
                                exact JK93 true _ _ (hS.got [1, 3, 9, 17, 35, 36, 37, 128] [0, 0, 0, 0, 0, 0, 0, 0] [] 0 (by kernel_rfl) (by kernel_rfl) (by kernel_rfl)) h
                            cases hb103 : (y73.2.2 != 0)
                            · replace hS := hS.env (L' := [(1, .slice a19 l21.length c20), (3, .pointer (some ⟨b2, 0, none⟩)), (9, .slice a43 y42.1.length c44), (13, .slice a63 y62.1.length c64), (15, .slice a74 y73.1.length c75), (17, .slice a88 y87.1.length c89), (18, .int .i64 y87.2), (35, .slice a2 p2.length c2), (36, .int .i64 (p2.length : Int)), (37, .int .i64 v23), (119, .bool false)]) (by rw [hb103])
                              refine r_run 3 3 [1, 3, 9, 13, 15, 17, 35, 36, 37, 122] [] hS rfl (L' := [(1, .slice a19 l21.length c20), (3, .pointer (some ⟨b2, 0, none⟩)), (9, .slice a43 y42.1.length c44), (13, .slice a63 y62.1.length c64), (15, .slice a74 y73.1.length c75), (17, .slice a88 y87.1.length c89), (35, .slice a2 p2.length c2), (36, .int .i64 (p2.length : Int)), (37, .int .i64 v23), (122, .bool (y87.2 != 0))]) (As' := [rowF flat_Row 38 a88 c89 y87.1, .box b77 [.int .i64 y73.2.1.key.table, .int .u16 y73.2.1.key.id, .int .i64 y73.2.1.val, .string y73.2.1.note], rowF flat_Row 38 a74 c75 y73.1, .box b66 [.int .i64 y62.2.1.key.table, .int .u16 y62.2.1.key.id, .int .i64 y62.2.1.val, .string y62.2.1.note], rowF flat_Row 38 a63 c64 y62.1, rowF flat_Row 38 a43 c44 y42.1, .box b36 [.int .i64 x35.key.table, .int .u16 x35.key.id, .int .i64 x35.val, .string x35.note], .box b2 [.slice a0_tables p0.tables.length c0_tables]]) (ob := []) (by kernel_rfl) (trivial) fun a w hS => ?_
                              refine wl_end ?_
                              replace hS := hS.got [1, 3, 9, 13, 15, 17, 35, 36, 37, 122] [0, 0, 0, 0, 0, 0, 0, 0] [] 0 (L' := [(1, .slice a19 l21.length c20), (3, .pointer (some ⟨b2, 0, none⟩)), (9, .slice a43 y42.1.length c44), (13, .slice a63 y62.1.length c64), (15, .slice a74 y73.1.length c75), (17, .slice a88 y87.1.length c89), (35, .slice a2 p2.length c2), (36, .int .i64 (p2.length : Int)), (37, .int .i64 v23), (122, .bool (y87.2 != 0))]) (Bs := [rowF flat_Row 38 a88 c89 y87.1, .box b77 [.int .i64 y73.2.1.key.table, .int .u16 y73.2.1.key.id, .int .i64 y73.2.1.val, .string y73.2.1.note], rowF flat_Row 38 a74 c75 y73.1, .box b66 [.int .i64 y62.2.1.key.table, .int .u16 y62.2.1.key.id, .int .i64 y62.2.1.val, .string y62.2.1.note], rowF flat_Row 38 a63 c64 y62.1, rowF flat_Row 38 a43 c44 y42.1, .box b36 [.int .i64 x35.key.table, .int .u16 x35.key.id, .int .i64 x35.val, .string x35.note], .box b2 [.slice a0_tables p0.tables.length c0_tables]]) (Rs := [RSf flat_Row a19 c20 l21, RSf flat_Bounds a0_tables c0_tables p0.tables, RSf flat_Row a1 c1 p1, RSf flat_Row a2 c2 p2]) (by kernel_rfl) (by kernel_rfl) (by kernel_rfl)
                              exact JK92 _ _ (hS.env (by rw [hb103]; rfl))
                            · replace hS := hS.env (L' := [(1, .slice a19 l21.length c20), (3, .pointer (some ⟨b2, 0, none⟩)), (9, .slice a43 y42.1.length c44), (13, .slice a63 y62.1.length c64), (15, .slice a74 y73.1.length c75), (17, .slice a88 y87.1.length c89), (18, .int .i64 y87.2), (35, .slice a2 p2.length c2), (36, .int .i64 (p2.length : Int)), (37, .int .i64 v23), (119, .bool true)]) (by rw [hb103])
                              refine r_run 3 3 [1, 3, 9, 13, 15, 17, 35, 36, 37, 122] [] hS rfl (L' := [(1, .slice a19 l21.length c20), (3, .pointer (some ⟨b2, 0, none⟩)), (9, .slice a43 y42.1.length c44), (13, .slice a63 y62.1.length c64), (15, .slice a74 y73.1.length c75), (17, .slice a88 y87.1.length c89), (35, .slice a2 p2.length c2), (36, .int .i64 (p2.length : Int)), (37, .int .i64 v23), (122, .bool true)]) (As' := [rowF flat_Row 38 a88 c89 y87.1, .box b77 [.int .i64 y73.2.1.key.table, .int .u16 y73.2.1.key.id, .int .i64 y73.2.1.val, .string y73.2.1.note], rowF flat_Row 38 a74 c75 y73.1, .box b66 [.int .i64 y62.2.1.key.table, .int .u16 y62.2.1.key.id, .int .i64 y62.2.1.val, .string y62.2.1.note], rowF flat_Row 38 a63 c64 y62.1, rowF flat_Row 38 a43 c44 y42.1, .box b36 [.int .i64 x35.key.table, .int .u16 x35.key.id, .int .i64 x35.val, .string x35.note], .box b2 [.slice a0_tables p0.tables.length c0_tables]]) (ob := []) (by kernel_rfl) (trivial) fun a w hS => ?_
                              refine wl_end ?_
                              replace hS := hS.got [1, 3, 9, 13, 15, 17, 35, 36, 37, 122] [0, 0, 0, 0, 0, 0, 0, 0] [] 0 (L' := [(1, .slice a19 l21.length c20), (3, .pointer (some ⟨b2, 0, none⟩)), (9, .slice a43 y42.1.length c44), (13, .slice a63 y62.1.length c64), (15, .slice a74 y73.1.length c75), (17, .slice a88 y87.1.length c89), (35, .slice a2 p2.length c2), (36, .int .i64 (p2.length : Int)), (37, .int .i64 v23), (122, .bool true)]) (Bs := [rowF flat_Row 38 a88 c89 y87.1, .box b77 [.int .i64 y73.2.1.key.table, .int .u16 y73.2.1.key.id, .int .i64 y73.2.1.val, .string y73.2.1.note], rowF flat_Row 38 a74 c75 y73.1, .box b66 [.int .i64 y62.2.1.key.table, .int .u16 y62.2.1.key.id, .int .i64 y62.2.1.val, .string y62.2.1.note], rowF flat_Row 38 a63 c64 y62.1, rowF flat_Row 38 a43 c44 y42.1, .box b36 [.int .i64 x35.key.table, .int .u16 x35.key.id, .int .i64 x35.val, .string x35.note], .box b2 [.slice a0_tables p0.tables.length c0_tables]]) (Rs := [RSf flat_Row a19 c20 l21, RSf flat_Bounds a0_tables c0_tables p0.tables, RSf flat_Row a1 c1 p1, RSf flat_Row a2 c2 p2]) (by kernel_rfl) (by kernel_rfl) (by kernel_rfl)
                              exact JK92 _ _ (hS.env (by rw [hb103]; rfl))
                      cases hb104 : (y62.2.2 != 0)
                      · replace hS := hS.env (L' := [(1, .slice a19 l21.length c20), (3, .pointer (some ⟨b2, 0, none⟩)), (8, .pointer (some ⟨b36, 0, none⟩)), (9, .slice a43 y42.1.length c44), (13, .slice a63 y62.1.length c64), (14, .pointer (some ⟨b66, 0, none⟩)), (35, .slice a2 p2.length c2), (36, .int .i64 (p2.length : Int)), (37, .int .i64 v23), (90, .bool false)]) (by rw [hb104])
                        refine r_run 3 4 [1, 3, 8, 9, 13, 35, 36, 37, 94] [.own 0 0, .own 3 0, .val (.bool (!(Row.eqb y62.2.1 x35)))] hS rfl (L' := [(1, .slice a19 l21.length c20), (3, .pointer (some ⟨b2, 0, none⟩)), (8, .pointer (some ⟨b36, 0, none⟩)), (9, .slice a43 y42.1.length c44), (13, .slice a63 y62.1.length c64), (35, .slice a2 p2.length c2), (36, .int .i64 (p2.length : Int)), (37, .int .i64 v23), (94, .bool (!(Row.eqb y62.2.1 x35)))]) (As' := [.box b66 [.int .i64 y62.2.1.key.table, .int .u16 y62.2.1.key.id, .int .i64 y62.2.1.val, .string y62.2.1.note], rowF flat_Row 38 a63 c64 y62.1, rowF flat_Row 38 a43 c44 y42.1, .box b36 [.int .i64 x35.key.table, .int .u16 x35.key.id, .int .i64 x35.val, .string x35.note], .box b2 [.slice a0_tables p0.tables.length c0_tables]]) (ob := [fun _ => (⟨b66, 0, none⟩ : Addr) = (⟨b66, 0, none⟩ : Addr).add 0, fun _ => (⟨b36, 0, none⟩ : Addr) = (⟨b36, 0, none⟩ : Addr).add 0, fun w => EqOk Try.prog .neq 38 (Value.agg #[.int .i64 y62.2.1.key.table, .int .u16 y62.2.1.key.id, .int .i64 y62.2.1.val, .string y62.2.1.note]) (Value.agg #[.int .i64 x35.key.table, .int .u16 x35.key.id, .int .i64 x35.val, .string x35.note]) (.bool (!(Row.eqb y62.2.1 x35))) w]) (by kernel_rfl) (⟨Bx.c rfl, Bx.c rfl, fun w _ => Row_neq y62.2.1.key.table y62.2.1.key.id y62.2.1.val y62.2.1.note x35.key.table x35.key.id x35.val x35.note w, trivial⟩) fun a w hS => ?_
                        refine wl_end ?_
                        replace hS := hS.got [1, 3, 8, 9, 13, 35, 36, 37, 94] [0, 0, 0, 0, 0] [] 0 (L' := [(1, .slice a19 l21.length c20), (3, .pointer (some ⟨b2, 0, none⟩)), (8, .pointer (some ⟨b36, 0, none⟩)), (9, .slice a43 y42.1.length c44), (13, .slice a63 y62.1.length c64), (35, .slice a2 p2.length c2), (36, .int .i64 (p2.length : Int)), (37, .int .i64 v23), (94, .bool (!(Row.eqb y62.2.1 x35)))]) (Bs := [.box b66 [.int .i64 y62.2.1.key.table, .int .u16 y62.2.1.key.id, .int .i64 y62.2.1.val, .string y62.2.1.note], rowF flat_Row 38 a63 c64 y62.1, rowF flat_Row 38 a43 c44 y42.1, .box b36 [.int .i64 x35.key.table, .int .u16 x35.key.id, .int .i64 x35.val, .string x35.note], .box b2 [.slice a0_tables p0.tables.length c0_tables]]) (Rs := [RSf flat_Row a19 c20 l21, RSf flat_Bounds a0_tables c0_tables p0.tables, RSf flat_Row a1 c1 p1, RSf flat_Row a2 c2 p2]) (by kernel_rfl) (by kernel_rfl) (by kernel_rfl)
                        exact JK69 _ _ (hS.env (by rw [hb104]; rfl))
                      · replace hS := hS.env (L' := [(1, .slice a19 l21.length c20), (3, .pointer (some ⟨b2, 0, none⟩)), (8, .pointer (some ⟨b36, 0, none⟩)), (9, .slice a43 y42.1.length c44), (13, .slice a63 y62.1.length c64), (14, .pointer (some ⟨b66, 0, none⟩)), (35, .slice a2 p2.length c2), (36, .int .i64 (p2.length : Int)), (37, .int .i64 v23), (90, .bool true)]) (by rw [hb104])
                        refine r_run 3 4 [1, 3, 8, 9, 13, 35, 36, 37, 94] [] hS rfl (L' := [(1, .slice a19 l21.length c20), (3, .pointer (some ⟨b2, 0, none⟩)), (8, .pointer (some ⟨b36, 0, none⟩)), (9, .slice a43 y42.1.length c44), (13, .slice a63 y62.1.length c64), (35, .slice a2 p2.length c2), (36, .int .i64 (p2.length : Int)), (37, .int .i64 v23), (94, .bool true)]) (As' := [.box b66 [.int .i64 y62.2.1.key.table, .int .u16 y62.2.1.key.id, .int .i64 y62.2.1.val, .string y62.2.1.note], rowF flat_Row 38 a63 c64 y62.1, rowF flat_Row 38 a43 c44 y42.1, .box b36 [.int .i64 x35.key.table, .int .u16 x35.key.id, .int .i64 x35.val, .string x35.note], .box b2 [.slice a0_tables p0.tables.length c0_tables]]) (ob := []) (by kernel_rfl) (trivial) fun a w hS => ?_
                        refine wl_end ?_
                        replace hS := hS.got [1, 3, 8, 9, 13, 35, 36, 37, 94] [0, 0, 0, 0, 0] [] 0 (L' := [(1, .slice a19 l21.length c20), (3, .pointer (some ⟨b2, 0, none⟩)), (8, .pointer (some ⟨b36, 0, none⟩)), (9, .slice a43 y42.1.length c44), (13, .slice a63 y62.1.length c64), (35, .slice a2 p2.length c2), (36, .int .i64 (p2.length : Int)), (37, .int .i64 v23), (94, .bool true)]) (Bs := [.box b66 [.int .i64 y62.2.1.key.table, .int .u16 y62.2.1.key.id, .int .i64 y62.2.1.val, .string y62.2.1.note], rowF flat_Row 38 a63 c64 y62.1, rowF flat_Row 38 a43 c44 y42.1, .box b36 [.int .i64 x35.key.table, .int .u16 x35.key.id, .int .i64 x35.val, .string x35.note], .box b2 [.slice a0_tables p0.tables.length c0_tables]]) (Rs := [RSf flat_Row a19 c20 l21, RSf flat_Bounds a0_tables c0_tables p0.tables, RSf flat_Row a1 c1 p1, RSf flat_Row a2 c2 p2]) (by kernel_rfl) (by kernel_rfl) (by kernel_rfl)
                        exact JK69 _ _ (hS.env (by rw [hb104]; rfl))
                  obtain ⟨y105, hy105, h⟩ := bindS h
                  cases hb106 : (y105 != 0)
                  · replace h := cfalse hb106 h
                    cases hb107 : (!y54.2)
                    · replace h := cfalse hb107 h
                      obtain ⟨x108, hx108, h⟩ := bindS h
                      have ix108 := rowInb (F := flat_Row) hS 0 rfl hx108
                      refine k_draw 14 16 [.val (Value.agg #[.slice a0_tables p0.tables.length c0_tables]), .val (.slice a43 y42.1.length c44), .val (.int .i64 y105), .val (.bool (y105 != 0)), .val (.bool false), .val (.bool y54.2), .val (.bool (!y54.2)), .val (.bool (!y54.2)), .val (.bool false), .val (.slice a43 y42.1.length c44), .val (.int .i64 y54.1), .val (.pointer (some (Addr.add (baseOf a43) (Int.toNat y54.1 * 4)))), .val (Value.agg #[.int .i64 x108.key.table, .int .u16 x108.key.id, .int .i64 x108.val, .string x108.note]), .val (Value.agg #[.int .i64 x35.key.table, .int .u16 x35.key.id, .int .i64 x35.val, .string x35.note])] [] [(0, [.own 2 0]), (1, []), (3, []), (4, [.as 67 (.bool false)]), (5, []), (6, []), (7, []), (8, [.as 71 (.bool false)]), (9, []), (10, []), (11, []), (12, [.row 0 [.int .i64 x108.key.table, .int .u16 x108.key.id, .int .i64 x108.val, .string x108.note]]), (13, [.own 1 0])] [2] (ob := [fun _ => (⟨b2, 0, none⟩ : Addr) = (⟨b2, 0, none⟩ : Addr).add 0, fun _ => Value.bool (y105 != 0) = .bool false, fun _ => Value.bool (!y54.2) = .bool false, fun _ => Inb a43 y42.1.length y54.1, fun _ => LoadOk (rowF flat_Row 38 a43 c44 y42.1) (Addr.add (baseOf a43) (Int.toNat y54.1 * 4)) [.int .i64 x108.key.table, .int .u16 x108.key.id, .int .i64 x108.val, .string x108.note], fun _ => (⟨b36, 0, none⟩ : Addr) = (⟨b36, 0, none⟩ : Addr).add 0]) (by kernel_rfl) (by kernel_rfl) hS (by kernel_rfl) (fun F N0 => by kernel_rfl) (by kernel_rfl) (by kernel_rfl) (by kernel_rfl) (by kernel_rfl) ⟨Bx.c rfl, Bx.c (by rw [hb106]), Bx.c (by rw [hb107]), Bx.c ix108, Bx.c (loadRow hx108), Bx.c rfl, trivial⟩ ?_ ?_
                      · refine ⟨?_, trivial⟩
                        · intro V a w e hS hq
                          exact d_callV (d := 65) [0] hS (args := #[Value.agg #[.slice a0_tables p0.tables.length c0_tables], .slice a43 y42.1.length c44]) (by kernel_rfl) rfl (row_CheckList_ok n p0 y42.1 y105 hy105) (fun F up le => ⟨up (hS.p 1 rfl), le 0 rfl _ (fun w h => rowRS h), trivial⟩) (by rintro v A P ⟨rfl, rfl, rfl⟩; first | rfl | rw [hb106] | rw [hb107])
                      intro V a w e hS hq
                      refine r_run 14 2 [1, 3, 8, 9, 35, 36, 37, 78] [.val (.bool (!(Row.eqb x108 x35)))] hS rfl (L' := [(1, .slice a19 l21.length c20), (3, .pointer (some ⟨b2, 0, none⟩)), (8, .pointer (some ⟨b36, 0, none⟩)), (9, .slice a43 y42.1.length c44), (35, .slice a2 p2.length c2), (36, .int .i64 (p2.length : Int)), (37, .int .i64 v23), (78, .bool (!(Row.eqb x108 x35)))]) (As' := [rowF flat_Row 38 a43 c44 y42.1, .box b36 [.int .i64 x35.key.table, .int .u16 x35.key.id, .int .i64 x35.val, .string x35.note], .box b2 [.slice a0_tables p0.tables.length c0_tables]]) (ob := [fun w => EqOk Try.prog .neq 38 (Value.agg #[.int .i64 x108.key.table, .int .u16 x108.key.id, .int .i64 x108.val, .string x108.note]) (Value.agg #[.int .i64 x35.key.table, .int .u16 x35.key.id, .int .i64 x35.val, .string x35.note]) (.bool (!(Row.eqb x108 x35))) w]) (by kernel_rfl) (⟨fun w _ => Row_neq x108.key.table x108.key.id x108.val x108.note x35.key.table x35.key.id x35.val x35.note w, trivial⟩) fun a w hS => ?_
                      refine wl_end ?_
                      exact JK57 (!(Row.eqb x108 x35)) _ _ (hS.got [1, 3, 8, 9, 35, 36, 37, 78] [0, 0, 0] [] 0 (by kernel_rfl) (by kernel_rfl) (by kernel_rfl)) h
                    · replace h := ctrue hb107 h
                      refine k_draw 14 16 [.val (Value.agg #[.slice a0_tables p0.tables.length c0_tables]), .val (.slice a43 y42.1.length c44), .val (.int .i64 y105), .val (.bool (y105 != 0)), .val (.bool false), .val (.bool y54.2), .val (.bool (!y54.2)), .val (.bool (!y54.2)), .val (.bool true), .val (undef), .val (undef), .val (undef), .val (undef), .val (undef)] [] [(0, [.own 2 0]), (1, []), (3, []), (4, [.as 67 (.bool false)]), (5, []), (6, []), (7, []), (8, [.as 71 (.bool true)]), (9, []), (10, []), (11, []), (12, []), (13, [])] [2] (ob := [fun _ => (⟨b2, 0, none⟩ : Addr) = (⟨b2, 0, none⟩ : Addr).add 0, fun _ => Value.bool (y105 != 0) = .bool false, fun _ => Value.bool (!y54.2) = .bool true]) (by kernel_rfl) (by kernel_rfl) hS (by kernel_rfl) (fun F N0 => by kernel_rfl) (by kernel_rfl) (by kernel_rfl) (by kernel_rfl) (by kernel_rfl) ⟨Bx.c rfl, Bx.c (by rw [hb106]), Bx.c (by rw [hb107]), trivial⟩ ?_ ?_
                      · refine ⟨?_, trivial⟩
                        · intro V a w e hS hq
                          exact d_callV (d := 65) [0] hS (args := #[Value.agg #[.slice a0_tables p0.tables.length c0_tables], .slice a43 y42.1.length c44]) (by kernel_rfl) rfl (row_CheckList_ok n p0 y42.1 y105 hy105) (fun F up le => ⟨up (hS.p 1 rfl), le 0 rfl _ (fun w h => rowRS h), trivial⟩) (by rintro v A P ⟨rfl, rfl, rfl⟩; first | rfl | rw [hb106] | rw [hb107])
                      intro V a w e hS hq
                      refine r_run 14 2 [1, 3, 8, 9, 35, 36, 37, 78] [] hS rfl (L' := [(1, .slice a19 l21.length c20), (3, .pointer (some ⟨b2, 0, none⟩)), (8, .pointer (some ⟨b36, 0, none⟩)), (9, .slice a43 y42.1.length c44), (35, .slice a2 p2.length c2), (36, .int .i64 (p2.length : Int)), (37, .int .i64 v23), (78, .bool true)]) (As' := [rowF flat_Row 38 a43 c44 y42.1, .box b36 [.int .i64 x35.key.table, .int .u16 x35.key.id, .int .i64 x35.val, .string x35.note], .box b2 [.slice a0_tables p0.tables.length c0_tables]]) (ob := []) (by kernel_rfl) (trivial) fun a w hS => ?_
                      refine wl_end ?_
                      exact JK57 true _ _ (hS.got [1, 3, 8, 9, 35, 36, 37, 78] [0, 0, 0] [] 0 (by kernel_rfl) (by kernel_rfl) (by kernel_rfl)) h
                  · replace h := ctrue hb106 h
                    refine k_draw 14 16 [.val (Value.agg #[.slice a0_tables p0.tables.length c0_tables]), .val (.slice a43 y42.1.length c44), .val (.int .i64 y105), .val (.bool (y105 != 0)), .val (.bool true), .val (undef), .val (undef), .val (.bool true), .val (.bool true), .val (undef), .val (undef), .val (undef), .val (undef), .val (undef)] [] [(0, [.own 2 0]), (1, []), (3, []), (4, [.as 67 (.bool true)]), (5, []), (6, []), (7, []), (8, []), (9, []), (10, []), (11, []), (12, []), (13, [])] [2] (ob := [fun _ => (⟨b2, 0, none⟩ : Addr) = (⟨b2, 0, none⟩ : Addr).add 0, fun _ => Value.bool (y105 != 0) = .bool true]) (by kernel_rfl) (by kernel_rfl) hS (by kernel_rfl) (fun F N0 => by kernel_rfl) (by kernel_rfl) (by kernel_rfl) (by kernel_rfl) (by kernel_rfl) ⟨Bx.c rfl, Bx.c (by rw [hb106]), trivial⟩ ?_ ?_
                    · refine ⟨?_, trivial⟩
                      · intro V a w e hS hq
                        exact d_callV (d := 65) [0] hS (args := #[Value.agg #[.slice a0_tables p0.tables.length c0_tables], .slice a43 y42.1.length c44]) (by kernel_rfl) rfl (row_CheckList_ok n p0 y42.1 y105 hy105) (fun F up le => ⟨up (hS.p 1 rfl), le 0 rfl _ (fun w h => rowRS h), trivial⟩) (by rintro v A P ⟨rfl, rfl, rfl⟩; first | rfl | rw [hb106])
                    intro V a w e hS hq
                    refine r_run 14 2 [1, 3, 8, 9, 35, 36, 37, 78] [] hS rfl (L' := [(1, .slice a19 l21.length c20), (3, .pointer (some ⟨b2, 0, none⟩)), (8, .pointer (some ⟨b36, 0, none⟩)), (9, .slice a43 y42.1.length c44), (35, .slice a2 p2.length c2), (36, .int .i64 (p2.length : Int)), (37, .int .i64 v23), (78, .bool true)]) (As' := [rowF flat_Row 38 a43 c44 y42.1, .box b36 [.int .i64 x35.key.table, .int .u16 x35.key.id, .int .i64 x35.val, .string x35.note], .box b2 [.slice a0_tables p0.tables.length c0_tables]]) (ob := []) (by kernel_rfl) (trivial) fun a w hS => ?_
                    refine wl_end ?_
                    exact JK57 true _ _ (hS.got [1, 3, 8, 9, 35, 36, 37, 78] [0, 0, 0] [] 0 (by kernel_rfl) (by kernel_rfl) (by kernel_rfl)) h
            · replace h := cfalse hb28 h
              refine k_exit 0 (by kernel_rfl) ?_
              refine hK17 _ _ ?_
              refine k_seq (by kernel_rfl) fun K109 hK109 => ?_
              refine k_reg 1 (by kernel_rfl) ?_
              refine r_run 0 1 [6] [] hS rfl (L' := [(6, .bool true)]) (As' := [.box b2 [.slice a0_tables p0.tables.length c0_tables]]) (ob := []) (by kernel_rfl) (trivial) fun a w hS => ?_
              refine wl_end ?_
              refine hK109 _ _ ?_
              refine k_ret (by kernel_rfl) ?_
              obtain rfl := someI h
              try simp only [Exit.then, Exit.inBlock]
              refine r_ret hS [.tmp 6] [] (xs := [.bool true]) (ps := []) [] [] rfl (by kernel_rfl) (fun hA => trivial) rfl (fun F up => trivial) ?_
              exact ⟨rfl, rfl, rfl⟩
      cases hb110 : v12
      · replace hS := hS.env (L' := [(1, .slice a1 p1.length c1), (2, .slice a2 p2.length c2), (3, .pointer (some ⟨b2, 0, none⟩)), (29, .bool false)]) (by rw [hb110])
        replace h := cfalse hb110 h
        refine r_run 9 2 [1, 2, 3, 29, 30, 31] [.own 0 0] hS rfl (L' := [(1, .slice a1 p1.length c1), (2, .slice a2 p2.length c2), (3, .pointer (some ⟨b2, 0, none⟩)), (29, .bool false), (30, Value.agg #[.slice a0_tables p0.tables.length c0_tables]), (31, .slice a1 p1.length c1)]) (As' := [.box b2 [.slice a0_tables p0.tables.length c0_tables]]) (ob := [fun _ => (⟨b2, 0, none⟩ : Addr) = (⟨b2, 0, none⟩ : Addr).add 0]) (by kernel_rfl) (⟨Bx.c rfl, trivial⟩) fun a w hS => ?_
        obtain ⟨y111, hy111, h⟩ := bindS h
        refine r_call 11 rfl (d := some 32) (g := 13) (args := #[Value.agg #[.slice a0_tables p0.tables.length c0_tables], .slice a1 p1.length c1]) [] hS (by kernel_rfl) rfl (row_CheckList_ok n p0 p1 y111 hy111) (fun F up => ⟨up (hS.p 0 rfl), up (hS.p 1 rfl), trivial⟩) ?_
        rintro v A P a w ⟨rfl, rfl, rfl⟩ hS
        refine r_run 12 2 [1, 2, 3, 34] [] hS rfl (L' := [(1, .slice a1 p1.length c1), (2, .slice a2 p2.length c2), (3, .pointer (some ⟨b2, 0, none⟩)), (34, .bool (y111 != 0))]) (As' := [.box b2 [.slice a0_tables p0.tables.length c0_tables]]) (ob := []) (by kernel_rfl) (trivial) fun a w hS => ?_
        refine wl_end ?_
        exact JK13 (y111 != 0) _ _ (hS.got [1, 2, 3, 34] [0] [] 0 (by kernel_rfl) (by kernel_rfl) (by kernel_rfl)) h
      · replace hS := hS.env (L' := [(1, .slice a1 p1.length c1), (2, .slice a2 p2.length c2), (3, .pointer (some ⟨b2, 0, none⟩)), (29, .bool true)]) (by rw [hb110])
        replace h := ctrue hb110 h
        refine r_run 9 5 [1, 2, 3, 34] [] hS rfl (L' := [(1, .slice a1 p1.length c1), (2, .slice a2 p2.length c2), (3, .pointer (some ⟨b2, 0, none⟩)), (34, .bool true)]) (As' := [.box b2 [.slice a0_tables p0.tables.length c0_tables]]) (ob := []) (by kernel_rfl) (trivial) fun a w hS => ?_
        refine wl_end ?_
        exact JK13 true _ _ (hS.got [1, 2, 3, 34] [0] [] 0 (by kernel_rfl) (by kernel_rfl) (by kernel_rfl)) h
    cases hb112 : y10
    · replace hS := hS.env (L' := [(1, .slice a1 p1.length c1), (2, .slice a2 p2.length c2), (3, .pointer (some ⟨b2, 0, none⟩)), (24, .bool false)]) (by rw [hb112])
      replace h := cfalse hb112 h
      refine r_run 4 2 [1, 2, 3, 24, 25, 26] [.own 0 0] hS rfl (L' := [(1, .slice a1 p1.length c1), (2, .slice a2 p2.length c2), (3, .pointer (some ⟨b2, 0, none⟩)), (24, .bool false), (25, Value.agg #[.slice a0_tables p0.tables.length c0_tables]), (26, .slice a2 p2.length c2)]) (As' := [.box b2 [.slice a0_tables p0.tables.length c0_tables]]) (ob := [fun _ => (⟨b2, 0, none⟩ : Addr) = (⟨b2, 0, none⟩ : Addr).add 0]) (by kernel_rfl) (⟨Bx.c rfl, trivial⟩) fun a w hS => ?_
      obtain ⟨y113, hy113, h⟩ := bindS h
      refine r_call 6 rfl (d := some 27) (g := 10) (args := #[Value.agg #[.slice a0_tables p0.tables.length c0_tables], .slice a2 p2.length c2]) [] hS (by kernel_rfl) rfl (law05_over_ok n p0 p2 y113 hy113) (fun F up => ⟨up (hS.p 0 rfl), up (hS.p 2 rfl), trivial⟩) ?_
      rintro v A P a w ⟨rfl, rfl, rfl⟩ hS
      refine r_run 7 1 [1, 2, 3, 28] [] hS rfl (L' := [(1, .slice a1 p1.length c1), (2, .slice a2 p2.length c2), (3, .pointer (some ⟨b2, 0, none⟩)), (28, .bool y113)]) (As' := [.box b2 [.slice a0_tables p0.tables.length c0_tables]]) (ob := []) (by kernel_rfl) (trivial) fun a w hS => ?_
      refine wl_end ?_
      exact JK11 y113 _ _ (hS.got [1, 2, 3, 28] [0] [] 0 (by kernel_rfl) (by kernel_rfl) (by kernel_rfl)) h
    · replace hS := hS.env (L' := [(1, .slice a1 p1.length c1), (2, .slice a2 p2.length c2), (3, .pointer (some ⟨b2, 0, none⟩)), (24, .bool true)]) (by rw [hb112])
      replace h := ctrue hb112 h
      refine r_run 4 4 [1, 2, 3, 28] [] hS rfl (L' := [(1, .slice a1 p1.length c1), (2, .slice a2 p2.length c2), (3, .pointer (some ⟨b2, 0, none⟩)), (28, .bool true)]) (As' := [.box b2 [.slice a0_tables p0.tables.length c0_tables]]) (ob := []) (by kernel_rfl) (trivial) fun a w hS => ?_
      refine wl_end ?_
      exact JK11 true _ _ (hS.got [1, 2, 3, 28] [0] [] 0 (by kernel_rfl) (by kernel_rfl) (by kernel_rfl)) h

end Go.Proofs.Ytlflbhhajnoelaa
