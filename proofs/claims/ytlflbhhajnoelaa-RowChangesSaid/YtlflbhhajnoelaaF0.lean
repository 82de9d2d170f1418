/- Functions of the program: plain twins and walks, printed by program. -/
import Derived.Test.YtlflbhhajnoelaaTypes
namespace Go.Proofs.Ytlflbhhajnoelaa
open Go.Bur Go.RowKit
set_option linter.unusedVariables false
set_option linter.unusedSimpArgs false
set_option maxRecDepth 100000
/-! bursary bursarylaw05.two -/
def law05_two (n : Nat)  : Option Schema :=
  some (Schema.mk ([(Bounds.mk 0 10), (Bounds.mk (-5) 5)] : List Bounds))
theorem law05_two_ok  (n : Nat)  (r : Schema)  (h : law05_two n  = some r) :
    Meets Try.prog 33 #[] [] [] fun v A P => ∃ (a0 : Option Addr) (c0 : Nat), v = Value.agg #[.slice a0 r.tables.length c0] ∧ A = [rowF flat_Bounds 61 a0 c0 r.tables] ∧ P = [] := by
  unfold law05_two at h
  refine meets_enter 5 Try.func33 Try.call33 rfl (by kernel_rfl) (by simp) fun C a w hS => ?_
  refine k_seq (by kernel_rfl) fun K1 hK1 => ?_
  refine k_reg 1 (by kernel_rfl) ?_
  refine r_run1 0 1 [0] [] hS rfl (L' := fun b2 => [(0, .pointer (some ⟨b2, 0, none⟩))]) (As' := fun b2 => [.box b2 [.slice none 0 0]]) (ob := fun b2 => []) (fun b2 => by kernel_rfl) (fun b2 => trivial) fun b2 a w hS => ?_
  refine wl_end ?_
  refine hK1 _ _ ?_
  refine k_seq (by kernel_rfl) fun K3 hK3 => ?_
  refine k_reg 5 (by kernel_rfl) ?_
  refine r_run1 0 5 [0] [.own 1 0] hS rfl (L' := fun b4 => [(0, .pointer (some ⟨b2, 0, none⟩))]) (As' := fun b4 => [rowF flat_Bounds 61 (some ⟨b4, 0, none⟩) 2 ([(Bounds.mk 0 10), (Bounds.mk (-5) 5)] : List Bounds), .box b2 [.slice (some ⟨b4, 0, none⟩) ([(Bounds.mk 0 10), (Bounds.mk (-5) 5)] : List Bounds).length 2]]) (ob := fun b4 => [fun _ => (⟨b2, 0, none⟩ : Addr) = (⟨b2, 0, none⟩ : Addr).add 0, fun _ => ∀ u ∈ ([.slice (some ⟨b4, 0, none⟩) ([(Bounds.mk 0 10), (Bounds.mk (-5) 5)] : List Bounds).length 2] : List Value), u.oneCell' = true]) (fun b4 => by kernel_rfl) (fun b4 => ⟨Bx.c rfl, Bx.c (oneAll rfl), trivial⟩) fun b4 a w hS => ?_
  refine wl_end ?_
  refine hK3 _ _ ?_
  refine k_ret (by kernel_rfl) ?_
  obtain rfl := someI h
  try simp only [Exit.then, Exit.inBlock]
  refine r_ret hS [.cell 0 24] [[.slice (some ⟨b4, 0, none⟩) ([(Bounds.mk 0 10), (Bounds.mk (-5) 5)] : List Bounds).length 2]] (xs := [Value.agg #[.slice (some ⟨b4, 0, none⟩) ([(Bounds.mk 0 10), (Bounds.mk (-5) 5)] : List Bounds).length 2]]) (ps := [fun w => CellsAt w ⟨b2, 0, none⟩ [.slice (some ⟨b4, 0, none⟩) ([(Bounds.mk 0 10), (Bounds.mk (-5) 5)] : List Bounds).length 2]]) [0] [] rfl (by kernel_rfl) (fun hA => ⟨boxAt hA 1 rfl, trivial⟩) rfl (fun F up => trivial) ?_
  exact ⟨(some ⟨b4, 0, none⟩), 2, rfl, rfl, rfl⟩

/-! bursary row.Check 1 -/
def row_Check_1 (n : Nat) (p0 : Bounds) : Option Bool :=
  some (decide (p0.min > p0.max))
theorem row_Check_1_ok  (n : Nat) (p0 : Bounds) (r : Bool)  (h : row_Check_1 n p0 = some r) :
    Meets Try.prog 34 #[Value.agg #[.int .i64 p0.min, .int .i64 p0.max]] [] [] fun v A P => v = .bool r ∧ A = [] ∧ P = [] := by
  unfold row_Check_1 at h
  refine meets_enter 8 Try.func34 Try.call34 rfl (by kernel_rfl) (by simp) fun C a w hS => ?_
  refine k_seq (by kernel_rfl) fun K1 hK1 => ?_
  refine k_reg 2 (by kernel_rfl) ?_
  refine r_run1 0 2 [1] [] hS rfl (L' := fun b2 => [(1, .pointer (some ⟨b2, 0, none⟩))]) (As' := fun b2 => [.box b2 [.int .i64 p0.min, .int .i64 p0.max]]) (ob := fun b2 => []) (fun b2 => by kernel_rfl) (fun b2 => trivial) fun b2 a w hS => ?_
  refine wl_end ?_
  refine hK1 _ _ ?_
  refine k_seq (by kernel_rfl) fun K3 hK3 => ?_
  refine k_reg 6 (by kernel_rfl) ?_
  refine r_run 0 6 [2] [.own 0 0, .own 0 1] hS rfl (L' := [(2, .bool (decide (p0.min > p0.max)))]) (As' := [.box b2 [.int .i64 p0.min, .int .i64 p0.max]]) (ob := [fun _ => (⟨b2, 0, none⟩ : Addr) = (⟨b2, 0, none⟩ : Addr).add 0, fun _ => ⟨b2, 1, none⟩ = (⟨b2, 0, none⟩ : Addr).add 1]) (by kernel_rfl) (⟨Bx.c rfl, Bx.c rfl, trivial⟩) fun a w hS => ?_
  refine wl_end ?_
  refine hK3 _ _ ?_
  refine k_ret (by kernel_rfl) ?_
  obtain rfl := someI h
  try simp only [Exit.then, Exit.inBlock]
  refine r_ret hS [.tmp 2] [] (xs := [.bool (decide (p0.min > p0.max))]) (ps := []) [] [] rfl (by kernel_rfl) (fun hA => trivial) rfl (fun F up => trivial) ?_
  exact ⟨rfl, rfl, rfl⟩

/-! slices.IndexFunc   bursary api.Bounds bursary api.Bounds  -/
def slices_IndexFunc_Bounds_l1 (n : Nat) (p0 : (List Bounds)) (p1 : (Bounds → Option Bool)) : Nat → Int → Option Int
  | 0, _ => none
  | m5 + 1, v4 =>
    cond (decide (v4 < (p0.length : Int)))
      ((idx p0 v4).bind fun x13 =>
      (p1 x13).bind fun y14 =>
      cond y14
        (some v4)
        (slices_IndexFunc_Bounds_l1 n p0 p1 m5 (IntKind.wrap .i64 (v4 + 1))))
      (some (-1))
def slices_IndexFunc_Bounds (n : Nat) (p0 : (List Bounds)) (p1 : (Bounds → Option Bool)) : Option Int :=
  slices_IndexFunc_Bounds_l1 n p0 p1 n 0
theorem slices_IndexFunc_Bounds_ok {a0 : Option Addr} {c0 : Nat} {g1 : FuncId} {k1 : Array Value} {F1 : List (World → Prop)} (n : Nat) (p0 : (List Bounds)) (p1 : (Bounds → Option Bool)) (r : Int) (hf1 : ∀ (x0 : Bounds) (y : Bool), p1 x0 = some y → Meets Try.prog g1 ([] ++ [Value.agg #[.int .i64 x0.min, .int .i64 x0.max]] ++ k1.toList).toArray [] F1 fun v A P => v = .bool y ∧ A = [] ∧ P = []) (h : slices_IndexFunc_Bounds n p0 p1 = some r) :
    Meets Try.prog 48 #[.slice a0 p0.length c0, .func (.func g1) #[] k1] [] ([RSf flat_Bounds a0 c0 p0] ++ F1) fun v A P => v = .int .i64 r ∧ A = [] ∧ P = [] := by
  unfold slices_IndexFunc_Bounds at h
  refine meets_enter 19 Try.func48 Try.call48 rfl (by kernel_rfl) (by simp) fun C a w hS => ?_
  refine k_seq (by kernel_rfl) fun K1 hK1 => ?_
  refine k_reg 1 (by kernel_rfl) ?_
  refine r_run 0 1 [0, 1] [] hS rfl (L' := [(0, .slice a0 p0.length c0), (1, .func (.func g1) #[] k1)]) (As' := []) (ob := []) (by kernel_rfl) (trivial) fun a w hS => ?_
  refine wl_end ?_
  refine hK1 _ _ ?_
  refine k_seq (by kernel_rfl) fun K2 hK2 => ?_
  refine k_seq (by kernel_rfl) fun K3 hK3 => ?_
  refine k_reg 3 (by kernel_rfl) ?_
  refine r_run 0 3 [0, 1, 7, 8] [] hS rfl (L' := [(0, .slice a0 p0.length c0), (1, .func (.func g1) #[] k1), (7, .int .i64 (p0.length : Int)), (8, .int .i64 0)]) (As' := []) (ob := []) (by kernel_rfl) (trivial) fun a w hS => ?_
  refine wl_end ?_
  refine hK3 _ _ ?_
  refine k_blk (by kernel_rfl) ?_
  refine k_loop (by kernel_rfl) (fun m5 a w => ∃ (v4 : Int), slices_IndexFunc_Bounds_l1 n p0 p1 m5 v4 = some r ∧ Sy C 19 a w [(0, .slice a0 p0.length c0), (1, .func (.func g1) #[] k1), (7, .int .i64 (p0.length : Int)), (8, .int .i64 v4)] [] ([RSf flat_Bounds a0 c0 p0] ++ F1)) n ⟨0, h, (hS.got [0, 1, 7, 8] [] [] 0 (by kernel_rfl) (by kernel_rfl) (by kernel_rfl))⟩ ?_
  rintro m5 a w ⟨v4, h, hS⟩ K6 hK6
  cases m5 with
  | zero => exact (noneS h).elim
  | succ m5 =>
    unfold slices_IndexFunc_Bounds_l1 at h
    refine k_seq (by kernel_rfl) fun K7 hK7 => ?_
    refine k_reg 1 (by kernel_rfl) ?_
    refine r_run 0 1 [0, 1, 7, 8, 9] [] hS rfl (L' := [(0, .slice a0 p0.length c0), (1, .func (.func g1) #[] k1), (7, .int .i64 (p0.length : Int)), (8, .int .i64 v4), (9, .bool (decide (v4 < (p0.length : Int))))]) (As' := []) (ob := []) (by kernel_rfl) (trivial) fun a w hS => ?_
    refine wl_end ?_
    refine hK7 _ _ ?_
    refine k_seq (by kernel_rfl) fun K8 hK8 => ?_
    refine k_cond (decide (v4 < (p0.length : Int))) hS.has (by kernel_rfl) (by kernel_rfl) (by kernel_rfl) (fun hb9 => ?_) (fun hb9 => ?_)
    · replace h := ctrue hb9 h
      refine k_skip (by kernel_rfl) ?_
      refine hK8 _ _ ?_
      refine k_seq (by kernel_rfl) fun K10 hK10 => ?_
      refine k_blk (by kernel_rfl) ?_
      refine k_seq (by kernel_rfl) fun K11 hK11 => ?_
      refine k_reg 2 (by kernel_rfl) ?_
      refine r_run 0 2 [0, 1, 5, 7, 8] [] hS rfl (L' := [(0, .slice a0 p0.length c0), (1, .func (.func g1) #[] k1), (5, .int .i64 v4), (7, .int .i64 (p0.length : Int)), (8, .int .i64 v4)]) (As' := []) (ob := []) (by kernel_rfl) (trivial) fun a w hS => ?_
      refine wl_end ?_
      refine hK11 _ _ ?_
      refine k_seq (by kernel_rfl) fun K12 hK12 => ?_
      refine k_reg 6 (by kernel_rfl) ?_
      obtain ⟨x13, hx13, h⟩ := bindS h
      have ix13 := fidxB (F := flat_Bounds) (hS.p 0 rfl) hx13
      refine r_run 0 5 [0, 1, 5, 7, 8, 11, 15] [.ext [.int .i64 x13.min, .int .i64 x13.max]] hS rfl (L' := [(0, .slice a0 p0.length c0), (1, .func (.func g1) #[] k1), (5, .int .i64 v4), (7, .int .i64 (p0.length : Int)), (8, .int .i64 v4), (11, .func (.func g1) #[] k1), (15, Value.agg #[.int .i64 x13.min, .int .i64 x13.max])]) (As' := []) (ob := [fun _ => Inb a0 p0.length v4, Cel (Addr.add (baseOf a0) (Int.toNat v4 * 2)) [.int .i64 x13.min, .int .i64 x13.max]]) (by kernel_rfl) (⟨Bx.c ix13.1, ix13.2, trivial⟩) fun a w hS => ?_
      obtain ⟨y14, hy14, h⟩ := bindS h
      refine r_call 5 rfl (d := some 16) [] hS (by kernel_rfl) rfl (hf1 x13 y14 hy14) (fun F up => (AllB.up up (hS.tl 1 rfl))) ?_
      rintro v A P a w ⟨rfl, rfl, rfl⟩ hS
      refine wl_end ?_
      refine hK12 _ _ ?_
      refine k_cond y14 hS.has (by kernel_rfl) (by kernel_rfl) (by kernel_rfl) (fun hb15 => ?_) (fun hb15 => ?_)
      · replace h := ctrue hb15 h
        refine k_seq (by kernel_rfl) fun K16 hK16 => ?_
        refine k_reg 2 (by kernel_rfl) ?_
        refine r_run 0 2 [4] [] hS rfl (L' := [(4, .int .i64 v4)]) (As' := []) (ob := []) (by kernel_rfl) (trivial) fun a w hS => ?_
        refine wl_end ?_
        refine hK16 _ _ ?_
        refine k_ret (by kernel_rfl) ?_
        obtain rfl := someI h
        try simp only [Exit.then, Exit.inBlock]
        refine r_ret hS [.tmp 4] [] (xs := [.int .i64 v4]) (ps := []) [] [] rfl (by kernel_rfl) (fun hA => trivial) rfl (fun F up => trivial) ?_
        exact ⟨rfl, rfl, rfl⟩
      · replace h := cfalse hb15 h
        refine k_skip (by kernel_rfl) ?_
        refine hK10 _ _ ?_
        refine k_reg 2 (by kernel_rfl) ?_
        refine r_run 0 2 [0, 1, 7, 8] [] hS rfl (L' := [(0, .slice a0 p0.length c0), (1, .func (.func g1) #[] k1), (7, .int .i64 (p0.length : Int)), (8, .int .i64 (IntKind.wrap .i64 (v4 + 1)))]) (As' := []) (ob := []) (by kernel_rfl) (trivial) fun a w hS => ?_
        refine wl_end ?_
        exact hK6 m5 _ _ (Nat.lt_succ_self _) ⟨(IntKind.wrap .i64 (v4 + 1)), h, (hS.got [0, 1, 7, 8] [] [] 0 (by kernel_rfl) (by kernel_rfl) (by kernel_rfl))⟩
    · replace h := cfalse hb9 h
      refine k_exit 0 (by kernel_rfl) ?_
      refine hK2 _ _ ?_
      refine k_seq (by kernel_rfl) fun K17 hK17 => ?_
      refine k_reg 1 (by kernel_rfl) ?_
      refine r_run 0 1 [4] [] hS rfl (L' := [(4, .int .i64 (-1))]) (As' := []) (ob := []) (by kernel_rfl) (trivial) fun a w hS => ?_
      refine wl_end ?_
      refine hK17 _ _ ?_
      refine k_ret (by kernel_rfl) ?_
      obtain rfl := someI h
      try simp only [Exit.then, Exit.inBlock]
      refine r_ret hS [.tmp 4] [] (xs := [.int .i64 (-1)]) (ps := []) [] [] rfl (by kernel_rfl) (fun hA => trivial) rfl (fun F up => trivial) ?_
      exact ⟨rfl, rfl, rfl⟩

/-! slices.ContainsFunc   bursary api.Bounds bursary api.Bounds  -/
def slices_ContainsFunc_Bounds (n : Nat) (p0 : (List Bounds)) (p1 : (Bounds → Option Bool)) : Option Bool :=
  (slices_IndexFunc_Bounds n p0 p1).bind fun y3 =>
  some (decide (y3 ≥ 0))
theorem slices_ContainsFunc_Bounds_ok {a0 : Option Addr} {c0 : Nat} {g1 : FuncId} {k1 : Array Value} {F1 : List (World → Prop)} (n : Nat) (p0 : (List Bounds)) (p1 : (Bounds → Option Bool)) (r : Bool) (hf1 : ∀ (x0 : Bounds) (y : Bool), p1 x0 = some y → Meets Try.prog g1 ([] ++ [Value.agg #[.int .i64 x0.min, .int .i64 x0.max]] ++ k1.toList).toArray [] F1 fun v A P => v = .bool y ∧ A = [] ∧ P = []) (h : slices_ContainsFunc_Bounds n p0 p1 = some r) :
    Meets Try.prog 35 #[.slice a0 p0.length c0, .func (.func g1) #[] k1] [] ([RSf flat_Bounds a0 c0 p0] ++ F1) fun v A P => v = .bool r ∧ A = [] ∧ P = [] := by
  unfold slices_ContainsFunc_Bounds at h
  refine meets_enter 9 Try.func35 Try.call35 rfl (by kernel_rfl) (by simp) fun C a w hS => ?_
  refine k_seq (by kernel_rfl) fun K1 hK1 => ?_
  refine k_reg 1 (by kernel_rfl) ?_
  refine r_run 0 1 [0, 1] [] hS rfl (L' := [(0, .slice a0 p0.length c0), (1, .func (.func g1) #[] k1)]) (As' := []) (ob := []) (by kernel_rfl) (trivial) fun a w hS => ?_
  refine wl_end ?_
  refine hK1 _ _ ?_
  refine k_seq (by kernel_rfl) fun K2 hK2 => ?_
  refine k_reg 5 (by kernel_rfl) ?_
  refine r_run 0 2 [5, 6] [] hS rfl (L' := [(5, .slice a0 p0.length c0), (6, .func (.func g1) #[] k1)]) (As' := []) (ob := []) (by kernel_rfl) (trivial) fun a w hS => ?_
  obtain ⟨y3, hy3, h⟩ := bindS h
  refine r_call 2 rfl (d := some 7) (g := 48) (args := #[.slice a0 p0.length c0, .func (.func g1) #[] k1]) [] hS (by kernel_rfl) rfl (slices_IndexFunc_Bounds_ok (g1 := g1) (k1 := k1) (F1 := F1) n p0 p1 y3 hf1 hy3) (fun F up => ⟨up (hS.p 0 rfl), (AllB.up up (hS.tl 1 rfl))⟩) ?_
  rintro v A P a w ⟨rfl, rfl, rfl⟩ hS
  refine r_run 3 2 [4] [] hS rfl (L' := [(4, .bool (decide (y3 ≥ 0)))]) (As' := []) (ob := []) (by kernel_rfl) (trivial) fun a w hS => ?_
  refine wl_end ?_
  refine hK2 _ _ ?_
  refine k_ret (by kernel_rfl) ?_
  obtain rfl := someI h
  try simp only [Exit.then, Exit.inBlock]
  refine r_ret hS [.tmp 4] [] (xs := [.bool (decide (y3 ≥ 0))]) (ps := []) [] [] rfl (by kernel_rfl) (fun hA => trivial) rfl (fun F up => trivial) ?_
  exact ⟨rfl, rfl, rfl⟩

/-! bursary row.Check -/
def row_Check_j1 (n : Nat)  (v8 : Bool) : Option Int :=
  cond v8
    (some 150)
    (some 0)
def row_Check (n : Nat) (p0 : Schema) : Option Int :=
  cond ((decide ((p0.tables.length : Int) < 1)) || (decide ((p0.tables.length : Int) > 3)))
    (row_Check_j1 n true)
    ((slices_ContainsFunc_Bounds n p0.tables (fun x0 => row_Check_1 n x0)).bind fun y13 =>
    row_Check_j1 n y13)
theorem row_Check_ok {a0_tables : Option Addr} {c0_tables : Nat} (n : Nat) (p0 : Schema) (r : Int)  (h : row_Check n p0 = some r) :
    Meets Try.prog 11 #[Value.agg #[.slice a0_tables p0.tables.length c0_tables]] [] [RSf flat_Bounds a0_tables c0_tables p0.tables] fun v A P => v = .int .i64 r ∧ A = [] ∧ P = [] := by
  unfold row_Check at h
  refine meets_enter 20 Try.func11 Try.call11 rfl (by kernel_rfl) (by simp) fun C a w hS => ?_
  refine k_seq (by kernel_rfl) fun K1 hK1 => ?_
  refine k_reg 2 (by kernel_rfl) ?_
  refine r_run1 0 2 [1] [] hS rfl (L' := fun b2 => [(1, .pointer (some ⟨b2, 0, none⟩))]) (As' := fun b2 => [.box b2 [.slice a0_tables p0.tables.length c0_tables]]) (ob := fun b2 => []) (fun b2 => by kernel_rfl) (fun b2 => trivial) fun b2 a w hS => ?_
  refine wl_end ?_
  refine hK1 _ _ ?_
  refine k_seq (by kernel_rfl) fun K3 hK3 => ?_
  refine k_reg 1 (by kernel_rfl) ?_
  refine r_run 0 1 [1, 3] [] hS rfl (L' := [(1, .pointer (some ⟨b2, 0, none⟩)), (3, .func (.func 34) #[] #[])]) (As' := [.box b2 [.slice a0_tables p0.tables.length c0_tables]]) (ob := []) (by kernel_rfl) (trivial) fun a w hS => ?_
  refine wl_end ?_
  refine hK3 _ _ ?_
  refine k_seq (by kernel_rfl) fun K4 hK4 => ?_
  refine k_seq (by kernel_rfl) fun K5 hK5 => ?_
  refine k_reg 16 (by kernel_rfl) ?_
  refine r_run 0 5 [1, 3, 8] [.own 0 0] hS rfl (L' := [(1, .pointer (some ⟨b2, 0, none⟩)), (3, .func (.func 34) #[] #[]), (8, .bool (decide ((p0.tables.length : Int) < 1)))]) (As' := [.box b2 [.slice a0_tables p0.tables.length c0_tables]]) (ob := [fun _ => (⟨b2, 0, none⟩ : Addr) = (⟨b2, 0, none⟩ : Addr).add 0]) (by kernel_rfl) (⟨Bx.c rfl, trivial⟩) fun a w hS => ?_
  refine wl_cut 10 rfl rfl fun K6 hK6 => ?_
  have JK6 : ∀ a w, Sy C 20 a w [(1, .pointer (some ⟨b2, 0, none⟩)), (3, .func (.func 34) #[] #[]), (13, .bool ((decide ((p0.tables.length : Int) < 1)) || (decide ((p0.tables.length : Int) > 3))))] [.box b2 [.slice a0_tables p0.tables.length c0_tables]] [RSf flat_Bounds a0_tables c0_tables p0.tables] → K6 a w := by
    intro a w hS
    refine hK6 _ _ ?_
    refine r_run 10 1 [1, 3, 14] [] hS rfl (L' := [(1, .pointer (some ⟨b2, 0, none⟩)), (3, .func (.func 34) #[] #[]), (14, .bool ((decide ((p0.tables.length : Int) < 1)) || (decide ((p0.tables.length : Int) > 3))))]) (As' := [.box b2 [.slice a0_tables p0.tables.length c0_tables]]) (ob := []) (by kernel_rfl) (trivial) fun a w hS => ?_
    refine wl_cut 16 rfl rfl fun K7 hK7 => ?_
    have JK7 : ∀ (v8 : Bool) a w, Sy C 20 a w [(19, .bool v8)] [.box b2 [.slice a0_tables p0.tables.length c0_tables]] [RSf flat_Bounds a0_tables c0_tables p0.tables] → row_Check_j1 n v8 = some r → K7 a w := by
      intro v8 a w hS h
      unfold row_Check_j1 at h
      refine hK7 _ _ ?_
      refine wl_end ?_
      refine hK5 _ _ ?_
      refine k_cond v8 hS.has (by kernel_rfl) (by kernel_rfl) (by kernel_rfl) (fun hb9 => ?_) (fun hb9 => ?_)
      · replace h := ctrue hb9 h
        refine k_seq (by kernel_rfl) fun K10 hK10 => ?_
        refine k_reg 1 (by kernel_rfl) ?_
        refine r_run 0 1 [2] [] hS rfl (L' := [(2, .int .i64 150)]) (As' := [.box b2 [.slice a0_tables p0.tables.length c0_tables]]) (ob := []) (by kernel_rfl) (trivial) fun a w hS => ?_
        refine wl_end ?_
        refine hK10 _ _ ?_
        refine k_ret (by kernel_rfl) ?_
        obtain rfl := someI h
        try simp only [Exit.then, Exit.inBlock]
        refine r_ret hS [.tmp 2] [] (xs := [.int .i64 150]) (ps := []) [] [] rfl (by kernel_rfl) (fun hA => trivial) rfl (fun F up => trivial) ?_
        exact ⟨rfl, rfl, rfl⟩
      · replace h := cfalse hb9 h
        refine k_skip (by kernel_rfl) ?_
        refine hK4 _ _ ?_
        refine k_seq (by kernel_rfl) fun K11 hK11 => ?_
        refine k_reg 1 (by kernel_rfl) ?_
        refine r_run 0 1 [2] [] hS rfl (L' := [(2, .int .i64 0)]) (As' := [.box b2 [.slice a0_tables p0.tables.length c0_tables]]) (ob := []) (by kernel_rfl) (trivial) fun a w hS => ?_
        refine wl_end ?_
        refine hK11 _ _ ?_
        refine k_ret (by kernel_rfl) ?_
        obtain rfl := someI h
        try simp only [Exit.then, Exit.inBlock]
        refine r_ret hS [.tmp 2] [] (xs := [.int .i64 0]) (ps := []) [] [] rfl (by kernel_rfl) (fun hA => trivial) rfl (fun F up => trivial) ?_
        exact ⟨rfl, rfl, rfl⟩
    cases hb12 : ((decide ((p0.tables.length : Int) < 1)) || (decide ((p0.tables.length : Int) > 3)))
    · replace hS := hS.env (L' := [(1, .pointer (some ⟨b2, 0, none⟩)), (3, .func (.func 34) #[] #[]), (14, .bool false)]) (by rw [hb12])
      replace h := cfalse hb12 h
      refine r_run 11 3 [14, 16, 17] [.own 0 0] hS rfl (L' := [(14, .bool false), (16, .slice a0_tables p0.tables.length c0_tables), (17, .func (.func 34) #[] #[])]) (As' := [.box b2 [.slice a0_tables p0.tables.length c0_tables]]) (ob := [fun _ => (⟨b2, 0, none⟩ : Addr) = (⟨b2, 0, none⟩ : Addr).add 0]) (by kernel_rfl) (⟨Bx.c rfl, trivial⟩) fun a w hS => ?_
      obtain ⟨y13, hy13, h⟩ := bindS h
      refine r_call 14 rfl (d := some 18) (g := 35) (args := #[.slice a0_tables p0.tables.length c0_tables, .func (.func 34) #[] #[]]) [] hS (by kernel_rfl) rfl (slices_ContainsFunc_Bounds_ok (g1 := 34) (k1 := #[]) (F1 := []) n p0.tables (fun x0 => row_Check_1 n x0) y13 (fun x0 y h => row_Check_1_ok n _ y h) hy13) (fun F up => ⟨up (hS.p 0 rfl), trivial⟩) ?_
      rintro v A P a w ⟨rfl, rfl, rfl⟩ hS
      refine r_run 15 1 [19] [] hS rfl (L' := [(19, .bool y13)]) (As' := [.box b2 [.slice a0_tables p0.tables.length c0_tables]]) (ob := []) (by kernel_rfl) (trivial) fun a w hS => ?_
      refine wl_end ?_
      exact JK7 y13 _ _ (hS.got [19] [0] [] 0 (by kernel_rfl) (by kernel_rfl) (by kernel_rfl)) h
    · replace hS := hS.env (L' := [(1, .pointer (some ⟨b2, 0, none⟩)), (3, .func (.func 34) #[] #[]), (14, .bool true)]) (by rw [hb12])
      replace h := ctrue hb12 h
      refine r_run 11 5 [19] [] hS rfl (L' := [(19, .bool true)]) (As' := [.box b2 [.slice a0_tables p0.tables.length c0_tables]]) (ob := []) (by kernel_rfl) (trivial) fun a w hS => ?_
      refine wl_end ?_
      exact JK7 true _ _ (hS.got [19] [0] [] 0 (by kernel_rfl) (by kernel_rfl) (by kernel_rfl)) h
  cases hb14 : (decide ((p0.tables.length : Int) < 1))
  · replace hS := hS.env (L' := [(1, .pointer (some ⟨b2, 0, none⟩)), (3, .func (.func 34) #[] #[]), (8, .bool false)]) (by rw [hb14])
    refine r_run 5 5 [1, 3, 13] [.own 0 0] hS rfl (L' := [(1, .pointer (some ⟨b2, 0, none⟩)), (3, .func (.func 34) #[] #[]), (13, .bool (decide ((p0.tables.length : Int) > 3)))]) (As' := [.box b2 [.slice a0_tables p0.tables.length c0_tables]]) (ob := [fun _ => (⟨b2, 0, none⟩ : Addr) = (⟨b2, 0, none⟩ : Addr).add 0]) (by kernel_rfl) (⟨Bx.c rfl, trivial⟩) fun a w hS => ?_
    refine wl_end ?_
    replace hS := hS.got [1, 3, 13] [0] [] 0 (L' := [(1, .pointer (some ⟨b2, 0, none⟩)), (3, .func (.func 34) #[] #[]), (13, .bool (decide ((p0.tables.length : Int) > 3)))]) (Bs := [.box b2 [.slice a0_tables p0.tables.length c0_tables]]) (Rs := [RSf flat_Bounds a0_tables c0_tables p0.tables]) (by kernel_rfl) (by kernel_rfl) (by kernel_rfl)
    exact JK6 _ _ (hS.env (by rw [hb14]; rfl))
  · replace hS := hS.env (L' := [(1, .pointer (some ⟨b2, 0, none⟩)), (3, .func (.func 34) #[] #[]), (8, .bool true)]) (by rw [hb14])
    refine r_run 5 5 [1, 3, 13] [] hS rfl (L' := [(1, .pointer (some ⟨b2, 0, none⟩)), (3, .func (.func 34) #[] #[]), (13, .bool true)]) (As' := [.box b2 [.slice a0_tables p0.tables.length c0_tables]]) (ob := []) (by kernel_rfl) (trivial) fun a w hS => ?_
    refine wl_end ?_
    replace hS := hS.got [1, 3, 13] [0] [] 0 (L' := [(1, .pointer (some ⟨b2, 0, none⟩)), (3, .func (.func 34) #[] #[]), (13, .bool true)]) (Bs := [.box b2 [.slice a0_tables p0.tables.length c0_tables]]) (Rs := [RSf flat_Bounds a0_tables c0_tables p0.tables]) (by kernel_rfl) (by kernel_rfl) (by kernel_rfl)
    exact JK6 _ _ (hS.env (by rw [hb14]; rfl))

/-! bursary row.known -/
def row_known (n : Nat) (p0 : Schema) (p1 : Key) : Option row_rule :=
  some (row_rule.mk ((decide (p1.table ≥ 0)) && (decide (p1.table < (p0.tables.length : Int)))) 151)
theorem row_known_ok {a0_tables : Option Addr} {c0_tables : Nat} (n : Nat) (p0 : Schema) (p1 : Key) (r : row_rule)  (h : row_known n p0 p1 = some r) :
    Meets Try.prog 37 #[Value.agg #[.slice a0_tables p0.tables.length c0_tables], Value.agg #[.int .i64 p1.table, .int .u16 p1.id]] [] [RSf flat_Bounds a0_tables c0_tables p0.tables] fun v A P => v = Value.agg #[.bool r.is, .int .i64 r.no] ∧ A = [] ∧ P = [] := by
  unfold row_known at h
  refine meets_enter 17 Try.func37 Try.call37 rfl (by kernel_rfl) (by simp) fun C a w hS => ?_
  refine k_seq (by kernel_rfl) fun K1 hK1 => ?_
  refine k_reg 3 (by kernel_rfl) ?_
  refine r_run3 0 3 [2, 3, 4] [] hS rfl (L' := fun b2 b3 b4 => [(2, .pointer (some ⟨b2, 0, none⟩)), (3, .pointer (some ⟨b3, 0, none⟩)), (4, .pointer (some ⟨b4, 0, none⟩))]) (As' := fun b2 b3 b4 => [.box b4 [.bool false, .int .i64 0], .box b3 [.int .i64 p1.table, .int .u16 p1.id], .box b2 [.slice a0_tables p0.tables.length c0_tables]]) (ob := fun b2 b3 b4 => []) (fun b2 b3 b4 => by kernel_rfl) (fun b2 b3 b4 => trivial) fun b2 b3 b4 a w hS => ?_
  refine wl_end ?_
  refine hK1 _ _ ?_
  refine k_seq (by kernel_rfl) fun K5 hK5 => ?_
  refine k_reg 13 (by kernel_rfl) ?_
  refine r_run 0 4 [2, 3, 4, 8] [.own 1 0] hS rfl (L' := [(2, .pointer (some ⟨b2, 0, none⟩)), (3, .pointer (some ⟨b3, 0, none⟩)), (4, .pointer (some ⟨b4, 0, none⟩)), (8, .bool (decide (p1.table ≥ 0)))]) (As' := [.box b4 [.bool false, .int .i64 0], .box b3 [.int .i64 p1.table, .int .u16 p1.id], .box b2 [.slice a0_tables p0.tables.length c0_tables]]) (ob := [fun _ => (⟨b3, 0, none⟩ : Addr) = (⟨b3, 0, none⟩ : Addr).add 0]) (by kernel_rfl) (⟨Bx.c rfl, trivial⟩) fun a w hS => ?_
  refine wl_cut 11 rfl rfl fun K6 hK6 => ?_
  have JK6 : ∀ a w, Sy C 17 a w [(4, .pointer (some ⟨b4, 0, none⟩)), (15, .bool ((decide (p1.table ≥ 0)) && (decide (p1.table < (p0.tables.length : Int)))))] [.box b4 [.bool false, .int .i64 0], .box b3 [.int .i64 p1.table, .int .u16 p1.id], .box b2 [.slice a0_tables p0.tables.length c0_tables]] [RSf flat_Bounds a0_tables c0_tables p0.tables] → K6 a w := by
    intro a w hS
    refine hK6 _ _ ?_
    refine r_run 11 2 [4] [.own 0 0] hS rfl (L' := [(4, .pointer (some ⟨b4, 0, none⟩))]) (As' := [.box b4 [.bool ((decide (p1.table ≥ 0)) && (decide (p1.table < (p0.tables.length : Int)))), .int .i64 151], .box b3 [.int .i64 p1.table, .int .u16 p1.id], .box b2 [.slice a0_tables p0.tables.length c0_tables]]) (ob := [fun _ => (⟨b4, 0, none⟩ : Addr) = (⟨b4, 0, none⟩ : Addr).add 0, fun _ => ∀ u ∈ ([.bool ((decide (p1.table ≥ 0)) && (decide (p1.table < (p0.tables.length : Int)))), .int .i64 151] : List Value), u.oneCell' = true]) (by kernel_rfl) (⟨Bx.c rfl, Bx.c (oneAll rfl), trivial⟩) fun a w hS => ?_
    refine wl_end ?_
    refine hK5 _ _ ?_
    refine k_ret (by kernel_rfl) ?_
    obtain rfl := someI h
    try simp only [Exit.then, Exit.inBlock]
    refine r_ret hS [.cell 4 66] [[.bool ((decide (p1.table ≥ 0)) && (decide (p1.table < (p0.tables.length : Int)))), .int .i64 151]] (xs := [Value.agg #[.bool ((decide (p1.table ≥ 0)) && (decide (p1.table < (p0.tables.length : Int)))), .int .i64 151]]) (ps := [fun w => CellsAt w ⟨b4, 0, none⟩ [.bool ((decide (p1.table ≥ 0)) && (decide (p1.table < (p0.tables.length : Int)))), .int .i64 151]]) [] [] rfl (by kernel_rfl) (fun hA => ⟨boxAt hA 0 rfl, trivial⟩) rfl (fun F up => trivial) ?_
    exact ⟨rfl, rfl, rfl⟩
  cases hb7 : (decide (p1.table ≥ 0))
  · replace hS := hS.env (L' := [(2, .pointer (some ⟨b2, 0, none⟩)), (3, .pointer (some ⟨b3, 0, none⟩)), (4, .pointer (some ⟨b4, 0, none⟩)), (8, .bool false)]) (by rw [hb7])
    refine r_run 4 7 [4, 15] [] hS rfl (L' := [(4, .pointer (some ⟨b4, 0, none⟩)), (15, .bool false)]) (As' := [.box b4 [.bool false, .int .i64 0], .box b3 [.int .i64 p1.table, .int .u16 p1.id], .box b2 [.slice a0_tables p0.tables.length c0_tables]]) (ob := []) (by kernel_rfl) (trivial) fun a w hS => ?_
    refine wl_end ?_
    replace hS := hS.got [4, 15] [0, 0, 0] [] 0 (L' := [(4, .pointer (some ⟨b4, 0, none⟩)), (15, .bool false)]) (Bs := [.box b4 [.bool false, .int .i64 0], .box b3 [.int .i64 p1.table, .int .u16 p1.id], .box b2 [.slice a0_tables p0.tables.length c0_tables]]) (Rs := [RSf flat_Bounds a0_tables c0_tables p0.tables]) (by kernel_rfl) (by kernel_rfl) (by kernel_rfl)
    exact JK6 _ _ (hS.env (by rw [hb7]; rfl))
  · replace hS := hS.env (L' := [(2, .pointer (some ⟨b2, 0, none⟩)), (3, .pointer (some ⟨b3, 0, none⟩)), (4, .pointer (some ⟨b4, 0, none⟩)), (8, .bool true)]) (by rw [hb7])
    refine r_run 4 7 [4, 15] [.own 1 0, .own 2 0] hS rfl (L' := [(4, .pointer (some ⟨b4, 0, none⟩)), (15, .bool (decide (p1.table < (p0.tables.length : Int))))]) (As' := [.box b4 [.bool false, .int .i64 0], .box b3 [.int .i64 p1.table, .int .u16 p1.id], .box b2 [.slice a0_tables p0.tables.length c0_tables]]) (ob := [fun _ => (⟨b3, 0, none⟩ : Addr) = (⟨b3, 0, none⟩ : Addr).add 0, fun _ => (⟨b2, 0, none⟩ : Addr) = (⟨b2, 0, none⟩ : Addr).add 0]) (by kernel_rfl) (⟨Bx.c rfl, Bx.c rfl, trivial⟩) fun a w hS => ?_
    refine wl_end ?_
    replace hS := hS.got [4, 15] [0, 0, 0] [] 0 (L' := [(4, .pointer (some ⟨b4, 0, none⟩)), (15, .bool (decide (p1.table < (p0.tables.length : Int))))]) (Bs := [.box b4 [.bool false, .int .i64 0], .box b3 [.int .i64 p1.table, .int .u16 p1.id], .box b2 [.slice a0_tables p0.tables.length c0_tables]]) (Rs := [RSf flat_Bounds a0_tables c0_tables p0.tables]) (by kernel_rfl) (by kernel_rfl) (by kernel_rfl)
    exact JK6 _ _ (hS.env (by rw [hb7]; rfl))

/-! bursary row.all -/
def row_all_l1 (n : Nat) (p0 : (List row_rule)) : Nat → Int → Option Int
  | 0, _ => none
  | m5 + 1, v4 =>
    cond (decide (v4 < (p0.length : Int)))
      ((idx p0 v4).bind fun x12 =>
      cond (!x12.is)
        (some x12.no)
        (row_all_l1 n p0 m5 (IntKind.wrap .i64 (v4 + 1))))
      (some 0)
def row_all (n : Nat) (p0 : (List row_rule)) : Option Int :=
  row_all_l1 n p0 n 0
theorem row_all_ok {a0 : Option Addr} {c0 : Nat} (n : Nat) (p0 : (List row_rule)) (r : Int)  (h : row_all n p0 = some r) :
    Meets Try.prog 36 #[.slice a0 p0.length c0] [] [RSf flat_row_rule a0 c0 p0] fun v A P => v = .int .i64 r ∧ A = [] ∧ P = [] := by
  unfold row_all at h
  refine meets_enter 17 Try.func36 Try.call36 rfl (by kernel_rfl) (by simp) fun C a w hS => ?_
  refine k_seq (by kernel_rfl) fun K1 hK1 => ?_
  refine k_reg 1 (by kernel_rfl) ?_
  refine r_run 0 1 [0] [] hS rfl (L' := [(0, .slice a0 p0.length c0)]) (As' := []) (ob := []) (by kernel_rfl) (trivial) fun a w hS => ?_
  refine wl_end ?_
  refine hK1 _ _ ?_
  refine k_seq (by kernel_rfl) fun K2 hK2 => ?_
  refine k_seq (by kernel_rfl) fun K3 hK3 => ?_
  refine k_reg 3 (by kernel_rfl) ?_
  refine r_run 0 3 [5, 6, 7] [] hS rfl (L' := [(5, .slice a0 p0.length c0), (6, .int .i64 (p0.length : Int)), (7, .int .i64 0)]) (As' := []) (ob := []) (by kernel_rfl) (trivial) fun a w hS => ?_
  refine wl_end ?_
  refine hK3 _ _ ?_
  refine k_blk (by kernel_rfl) ?_
  refine k_loop (by kernel_rfl) (fun m5 a w => ∃ (v4 : Int), row_all_l1 n p0 m5 v4 = some r ∧ Sy C 17 a w [(5, .slice a0 p0.length c0), (6, .int .i64 (p0.length : Int)), (7, .int .i64 v4)] [] [RSf flat_row_rule a0 c0 p0]) n ⟨0, h, (hS.got [5, 6, 7] [] [] 0 (by kernel_rfl) (by kernel_rfl) (by kernel_rfl))⟩ ?_
  rintro m5 a w ⟨v4, h, hS⟩ K6 hK6
  cases m5 with
  | zero => exact (noneS h).elim
  | succ m5 =>
    unfold row_all_l1 at h
    refine k_seq (by kernel_rfl) fun K7 hK7 => ?_
    refine k_reg 1 (by kernel_rfl) ?_
    refine r_run 0 1 [5, 6, 7, 8] [] hS rfl (L' := [(5, .slice a0 p0.length c0), (6, .int .i64 (p0.length : Int)), (7, .int .i64 v4), (8, .bool (decide (v4 < (p0.length : Int))))]) (As' := []) (ob := []) (by kernel_rfl) (trivial) fun a w hS => ?_
    refine wl_end ?_
    refine hK7 _ _ ?_
    refine k_seq (by kernel_rfl) fun K8 hK8 => ?_
    refine k_cond (decide (v4 < (p0.length : Int))) hS.has (by kernel_rfl) (by kernel_rfl) (by kernel_rfl) (fun hb9 => ?_) (fun hb9 => ?_)
    · replace h := ctrue hb9 h
      refine k_skip (by kernel_rfl) ?_
      refine hK8 _ _ ?_
      refine k_seq (by kernel_rfl) fun K10 hK10 => ?_
      refine k_blk (by kernel_rfl) ?_
      refine k_seq (by kernel_rfl) fun K11 hK11 => ?_
      refine k_reg 4 (by kernel_rfl) ?_
      obtain ⟨x12, hx12, h⟩ := bindS h
      have ix12 := fidxB (F := flat_row_rule) (hS.p 0 rfl) hx12
      refine r_run1 0 4 [4, 5, 6, 7] [.ext [.bool x12.is, .int .i64 x12.no], .own 0 0] hS rfl (L' := fun b13 => [(4, .pointer (some ⟨b13, 0, none⟩)), (5, .slice a0 p0.length c0), (6, .int .i64 (p0.length : Int)), (7, .int .i64 v4)]) (As' := fun b13 => [.box b13 [.bool x12.is, .int .i64 x12.no]]) (ob := fun b13 => [fun _ => Inb a0 p0.length v4, Cel (Addr.add (baseOf a0) (Int.toNat v4 * 2)) [.bool x12.is, .int .i64 x12.no], fun _ => (⟨b13, 0, none⟩ : Addr) = (⟨b13, 0, none⟩ : Addr).add 0, fun _ => ∀ u ∈ ([.bool x12.is, .int .i64 x12.no] : List Value), u.oneCell' = true]) (fun b13 => by kernel_rfl) (fun b13 => ⟨Bx.c ix12.1, ix12.2, Bx.c rfl, Bx.c (oneAll rfl), trivial⟩) fun b13 a w hS => ?_
      refine wl_end ?_
      refine hK11 _ _ ?_
      refine k_seq (by kernel_rfl) fun K14 hK14 => ?_
      refine k_reg 3 (by kernel_rfl) ?_
      refine r_run 0 3 [4, 5, 6, 7, 13] [.own 0 0] hS rfl (L' := [(4, .pointer (some ⟨b13, 0, none⟩)), (5, .slice a0 p0.length c0), (6, .int .i64 (p0.length : Int)), (7, .int .i64 v4), (13, .bool (!x12.is))]) (As' := [.box b13 [.bool x12.is, .int .i64 x12.no]]) (ob := [fun _ => (⟨b13, 0, none⟩ : Addr) = (⟨b13, 0, none⟩ : Addr).add 0]) (by kernel_rfl) (⟨Bx.c rfl, trivial⟩) fun a w hS => ?_
      refine wl_end ?_
      refine hK14 _ _ ?_
      refine k_cond (!x12.is) hS.has (by kernel_rfl) (by kernel_rfl) (by kernel_rfl) (fun hb15 => ?_) (fun hb15 => ?_)
      · replace h := ctrue hb15 h
        refine k_seq (by kernel_rfl) fun K16 hK16 => ?_
        refine k_reg 3 (by kernel_rfl) ?_
        refine r_run 0 3 [2] [.own 0 1] hS rfl (L' := [(2, .int .i64 x12.no)]) (As' := [.box b13 [.bool x12.is, .int .i64 x12.no]]) (ob := [fun _ => ⟨b13, 1, none⟩ = (⟨b13, 0, none⟩ : Addr).add 1]) (by kernel_rfl) (⟨Bx.c rfl, trivial⟩) fun a w hS => ?_
        refine wl_end ?_
        refine hK16 _ _ ?_
        refine k_ret (by kernel_rfl) ?_
        obtain rfl := someI h
        try simp only [Exit.then, Exit.inBlock]
        refine r_ret hS [.tmp 2] [] (xs := [.int .i64 x12.no]) (ps := []) [] [] rfl (by kernel_rfl) (fun hA => trivial) rfl (fun F up => trivial) ?_
        exact ⟨rfl, rfl, rfl⟩
      · replace h := cfalse hb15 h
        refine k_skip (by kernel_rfl) ?_
        refine hK10 _ _ ?_
        refine k_reg 2 (by kernel_rfl) ?_
        refine r_run 0 2 [5, 6, 7] [] hS rfl (L' := [(5, .slice a0 p0.length c0), (6, .int .i64 (p0.length : Int)), (7, .int .i64 (IntKind.wrap .i64 (v4 + 1)))]) (As' := [.box b13 [.bool x12.is, .int .i64 x12.no]]) (ob := []) (by kernel_rfl) (trivial) fun a w hS => ?_
        refine wl_end ?_
        exact hK6 m5 _ _ (Nat.lt_succ_self _) ⟨(IntKind.wrap .i64 (v4 + 1)), h, (hS.got [5, 6, 7] [] [] 0 (by kernel_rfl) (by kernel_rfl) (by kernel_rfl))⟩
    · replace h := cfalse hb9 h
      refine k_exit 0 (by kernel_rfl) ?_
      refine hK2 _ _ ?_
      refine k_seq (by kernel_rfl) fun K17 hK17 => ?_
      refine k_reg 1 (by kernel_rfl) ?_
      refine r_run 0 1 [2] [] hS rfl (L' := [(2, .int .i64 0)]) (As' := []) (ob := []) (by kernel_rfl) (trivial) fun a w hS => ?_
      refine wl_end ?_
      refine hK17 _ _ ?_
      refine k_ret (by kernel_rfl) ?_
      obtain rfl := someI h
      try simp only [Exit.then, Exit.inBlock]
      refine r_ret hS [.tmp 2] [] (xs := [.int .i64 0]) (ps := []) [] [] rfl (by kernel_rfl) (fun hA => trivial) rfl (fun F up => trivial) ?_
      exact ⟨rfl, rfl, rfl⟩

/-! bursary row.CheckKey -/
def row_CheckKey (n : Nat) (p0 : Schema) (p1 : Key) : Option Int :=
  (row_Check n p0).bind fun y6 =>
  cond (y6 != 0)
    (some y6)
    ((row_known n p0 p1).bind fun y11 =>
    (row_all n ([y11] : List row_rule)).bind fun y13 =>
    some y13)
theorem row_CheckKey_ok {a0_tables : Option Addr} {c0_tables : Nat} (n : Nat) (p0 : Schema) (p1 : Key) (r : Int)  (h : row_CheckKey n p0 p1 = some r) :
    Meets Try.prog 12 #[Value.agg #[.slice a0_tables p0.tables.length c0_tables], Value.agg #[.int .i64 p1.table, .int .u16 p1.id]] [] [RSf flat_Bounds a0_tables c0_tables p0.tables] fun v A P => v = .int .i64 r ∧ A = [] ∧ P = [] := by
  unfold row_CheckKey at h
  refine meets_enter 16 Try.func12 Try.call12 rfl (by kernel_rfl) (by simp) fun C a w hS => ?_
  refine k_seq (by kernel_rfl) fun K1 hK1 => ?_
  refine k_reg 3 (by kernel_rfl) ?_
  refine r_run2 0 3 [2, 3] [] hS rfl (L' := fun b2 b3 => [(2, .pointer (some ⟨b2, 0, none⟩)), (3, .pointer (some ⟨b3, 0, none⟩))]) (As' := fun b2 b3 => [.box b3 [.int .i64 p1.table, .int .u16 p1.id], .box b2 [.slice a0_tables p0.tables.length c0_tables]]) (ob := fun b2 b3 => []) (fun b2 b3 => by kernel_rfl) (fun b2 b3 => trivial) fun b2 b3 a w hS => ?_
  refine wl_end ?_
  refine hK1 _ _ ?_
  refine k_seq (by kernel_rfl) fun K4 hK4 => ?_
  refine k_seq (by kernel_rfl) fun K5 hK5 => ?_
  refine k_reg 3 (by kernel_rfl) ?_
  refine r_run 0 1 [2, 3, 6] [.own 1 0] hS rfl (L' := [(2, .pointer (some ⟨b2, 0, none⟩)), (3, .pointer (some ⟨b3, 0, none⟩)), (6, Value.agg #[.slice a0_tables p0.tables.length c0_tables])]) (As' := [.box b3 [.int .i64 p1.table, .int .u16 p1.id], .box b2 [.slice a0_tables p0.tables.length c0_tables]]) (ob := [fun _ => (⟨b2, 0, none⟩ : Addr) = (⟨b2, 0, none⟩ : Addr).add 0]) (by kernel_rfl) (⟨Bx.c rfl, trivial⟩) fun a w hS => ?_
  obtain ⟨y6, hy6, h⟩ := bindS h
  refine r_call 1 rfl (d := some 7) (g := 11) (args := #[Value.agg #[.slice a0_tables p0.tables.length c0_tables]]) [] hS (by kernel_rfl) rfl (row_Check_ok n p0 y6 hy6) (fun F up => ⟨up (hS.p 0 rfl), trivial⟩) ?_
  rintro v A P a w ⟨rfl, rfl, rfl⟩ hS
  refine r_run 2 1 [2, 3, 5] [] hS rfl (L' := [(2, .pointer (some ⟨b2, 0, none⟩)), (3, .pointer (some ⟨b3, 0, none⟩)), (5, .int .i64 y6)]) (As' := [.box b3 [.int .i64 p1.table, .int .u16 p1.id], .box b2 [.slice a0_tables p0.tables.length c0_tables]]) (ob := []) (by kernel_rfl) (trivial) fun a w hS => ?_
  refine wl_end ?_
  refine hK5 _ _ ?_
  refine k_seq (by kernel_rfl) fun K7 hK7 => ?_
  refine k_reg 2 (by kernel_rfl) ?_
  refine r_run 0 2 [2, 3, 5, 9] [] hS rfl (L' := [(2, .pointer (some ⟨b2, 0, none⟩)), (3, .pointer (some ⟨b3, 0, none⟩)), (5, .int .i64 y6), (9, .bool (y6 != 0))]) (As' := [.box b3 [.int .i64 p1.table, .int .u16 p1.id], .box b2 [.slice a0_tables p0.tables.length c0_tables]]) (ob := []) (by kernel_rfl) (trivial) fun a w hS => ?_
  refine wl_end ?_
  refine hK7 _ _ ?_
  refine k_cond (y6 != 0) hS.has (by kernel_rfl) (by kernel_rfl) (by kernel_rfl) (fun hb8 => ?_) (fun hb8 => ?_)
  · replace h := ctrue hb8 h
    refine k_seq (by kernel_rfl) fun K9 hK9 => ?_
    refine k_reg 2 (by kernel_rfl) ?_
    refine r_run 0 2 [4] [] hS rfl (L' := [(4, .int .i64 y6)]) (As' := [.box b3 [.int .i64 p1.table, .int .u16 p1.id], .box b2 [.slice a0_tables p0.tables.length c0_tables]]) (ob := []) (by kernel_rfl) (trivial) fun a w hS => ?_
    refine wl_end ?_
    refine hK9 _ _ ?_
    refine k_ret (by kernel_rfl) ?_
    obtain rfl := someI h
    try simp only [Exit.then, Exit.inBlock]
    refine r_ret hS [.tmp 4] [] (xs := [.int .i64 y6]) (ps := []) [] [] rfl (by kernel_rfl) (fun hA => trivial) rfl (fun F up => trivial) ?_
    exact ⟨rfl, rfl, rfl⟩
  · replace h := cfalse hb8 h
    refine k_skip (by kernel_rfl) ?_
    refine hK4 _ _ ?_
    refine k_seq (by kernel_rfl) fun K10 hK10 => ?_
    refine k_reg 6 (by kernel_rfl) ?_
    refine r_run 0 2 [11, 12] [.own 1 0, .own 0 0] hS rfl (L' := [(11, Value.agg #[.slice a0_tables p0.tables.length c0_tables]), (12, Value.agg #[.int .i64 p1.table, .int .u16 p1.id])]) (As' := [.box b3 [.int .i64 p1.table, .int .u16 p1.id], .box b2 [.slice a0_tables p0.tables.length c0_tables]]) (ob := [fun _ => (⟨b2, 0, none⟩ : Addr) = (⟨b2, 0, none⟩ : Addr).add 0, fun _ => (⟨b3, 0, none⟩ : Addr) = (⟨b3, 0, none⟩ : Addr).add 0]) (by kernel_rfl) (⟨Bx.c rfl, Bx.c rfl, trivial⟩) fun a w hS => ?_
    obtain ⟨y11, hy11, h⟩ := bindS h
    refine r_call 2 rfl (d := some 13) (g := 37) (args := #[Value.agg #[.slice a0_tables p0.tables.length c0_tables], Value.agg #[.int .i64 p1.table, .int .u16 p1.id]]) [] hS (by kernel_rfl) rfl (row_known_ok n p0 p1 y11 hy11) (fun F up => ⟨up (hS.p 0 rfl), trivial⟩) ?_
    rintro v A P a w ⟨rfl, rfl, rfl⟩ hS
    refine r_run1 3 1 [14] [] hS rfl (L' := fun b12 => [(14, .slice (some ⟨b12, 0, none⟩) ([y11] : List row_rule).length 1)]) (As' := fun b12 => [rowF flat_row_rule 66 (some ⟨b12, 0, none⟩) 1 ([y11] : List row_rule), .box b3 [.int .i64 p1.table, .int .u16 p1.id], .box b2 [.slice a0_tables p0.tables.length c0_tables]]) (ob := fun b12 => []) (fun b12 => by kernel_rfl) (fun b12 => trivial) fun b12 a w hS => ?_
    obtain ⟨y13, hy13, h⟩ := bindS h
    refine r_callX 4 rfl (d := some 15) (g := 36) (args := #[.slice (some ⟨b12, 0, none⟩) ([y11] : List row_rule).length 1]) [] [0] hS (by kernel_rfl) rfl rfl (row_all_ok n ([y11] : List row_rule) y13 hy13) (fun F up le => ⟨le 0 rfl _ (fun w h => rowRS h), trivial⟩) ?_
    rintro v A P a w ⟨rfl, rfl, rfl⟩ hS
    refine r_run 5 1 [4] [] hS rfl (L' := [(4, .int .i64 y13)]) (As' := [rowF flat_row_rule 66 (some ⟨b12, 0, none⟩) 1 ([y11] : List row_rule), .box b3 [.int .i64 p1.table, .int .u16 p1.id], .box b2 [.slice a0_tables p0.tables.length c0_tables]]) (ob := []) (by kernel_rfl) (trivial) fun a w hS => ?_
    refine wl_end ?_
    refine hK10 _ _ ?_
    refine k_ret (by kernel_rfl) ?_
    obtain rfl := someI h
    try simp only [Exit.then, Exit.inBlock]
    refine r_ret hS [.tmp 4] [] (xs := [.int .i64 y13]) (ps := []) [] [] rfl (by kernel_rfl) (fun hA => trivial) rfl (fun F up => trivial) ?_
    exact ⟨rfl, rfl, rfl⟩

/-! bursary row.CheckRow -/
def row_CheckRow (n : Nat) (p0 : Schema) (p1 : Row) : Option Int :=
  (row_CheckKey n p0 p1.key).bind fun y6 =>
  cond (y6 != 0)
    (some y6)
    ((idx p0.tables p1.key.table).bind fun x11 =>
    (row_all n ([(row_rule.mk (decide ((p1.note.size : Int) ≤ 8)) 3), (row_rule.mk ((decide (p1.val ≥ x11.min)) && (decide (p1.val ≤ x11.max))) 152)] : List row_rule)).bind fun y16 =>
    some y16)
theorem row_CheckRow_ok {a0_tables : Option Addr} {c0_tables : Nat} (n : Nat) (p0 : Schema) (p1 : Row) (r : Int)  (h : row_CheckRow n p0 p1 = some r) :
    Meets Try.prog 15 #[Value.agg #[.slice a0_tables p0.tables.length c0_tables], Value.agg #[.int .i64 p1.key.table, .int .u16 p1.key.id, .int .i64 p1.val, .string p1.note]] [] [RSf flat_Bounds a0_tables c0_tables p0.tables] fun v A P => v = .int .i64 r ∧ A = [] ∧ P = [] := by
  unfold row_CheckRow at h
  refine meets_enter 41 Try.func15 Try.call15 rfl (by kernel_rfl) (by simp) fun C a w hS => ?_
  refine k_seq (by kernel_rfl) fun K1 hK1 => ?_
  refine k_reg 3 (by kernel_rfl) ?_
  refine r_run2 0 3 [2, 3] [] hS rfl (L' := fun b2 b3 => [(2, .pointer (some ⟨b2, 0, none⟩)), (3, .pointer (some ⟨b3, 0, none⟩))]) (As' := fun b2 b3 => [.box b3 [.int .i64 p1.key.table, .int .u16 p1.key.id, .int .i64 p1.val, .string p1.note], .box b2 [.slice a0_tables p0.tables.length c0_tables]]) (ob := fun b2 b3 => []) (fun b2 b3 => by kernel_rfl) (fun b2 b3 => trivial) fun b2 b3 a w hS => ?_
  refine wl_end ?_
  refine hK1 _ _ ?_
  refine k_seq (by kernel_rfl) fun K4 hK4 => ?_
  refine k_seq (by kernel_rfl) fun K5 hK5 => ?_
  refine k_reg 5 (by kernel_rfl) ?_
  refine r_run 0 3 [2, 3, 7, 9] [.own 1 0, .own 0 0] hS rfl (L' := [(2, .pointer (some ⟨b2, 0, none⟩)), (3, .pointer (some ⟨b3, 0, none⟩)), (7, Value.agg #[.slice a0_tables p0.tables.length c0_tables]), (9, Value.agg #[.int .i64 p1.key.table, .int .u16 p1.key.id])]) (As' := [.box b3 [.int .i64 p1.key.table, .int .u16 p1.key.id, .int .i64 p1.val, .string p1.note], .box b2 [.slice a0_tables p0.tables.length c0_tables]]) (ob := [fun _ => (⟨b2, 0, none⟩ : Addr) = (⟨b2, 0, none⟩ : Addr).add 0, fun _ => (⟨b3, 0, none⟩ : Addr) = (⟨b3, 0, none⟩ : Addr).add 0]) (by kernel_rfl) (⟨Bx.c rfl, Bx.c rfl, trivial⟩) fun a w hS => ?_
  obtain ⟨y6, hy6, h⟩ := bindS h
  refine r_call 3 rfl (d := some 10) (g := 12) (args := #[Value.agg #[.slice a0_tables p0.tables.length c0_tables], Value.agg #[.int .i64 p1.key.table, .int .u16 p1.key.id]]) [] hS (by kernel_rfl) rfl (row_CheckKey_ok n p0 p1.key y6 hy6) (fun F up => ⟨up (hS.p 0 rfl), trivial⟩) ?_
  rintro v A P a w ⟨rfl, rfl, rfl⟩ hS
  refine r_run 4 1 [2, 3, 5] [] hS rfl (L' := [(2, .pointer (some ⟨b2, 0, none⟩)), (3, .pointer (some ⟨b3, 0, none⟩)), (5, .int .i64 y6)]) (As' := [.box b3 [.int .i64 p1.key.table, .int .u16 p1.key.id, .int .i64 p1.val, .string p1.note], .box b2 [.slice a0_tables p0.tables.length c0_tables]]) (ob := []) (by kernel_rfl) (trivial) fun a w hS => ?_
  refine wl_end ?_
  refine hK5 _ _ ?_
  refine k_seq (by kernel_rfl) fun K7 hK7 => ?_
  refine k_reg 2 (by kernel_rfl) ?_
  refine r_run 0 2 [2, 3, 5, 12] [] hS rfl (L' := [(2, .pointer (some ⟨b2, 0, none⟩)), (3, .pointer (some ⟨b3, 0, none⟩)), (5, .int .i64 y6), (12, .bool (y6 != 0))]) (As' := [.box b3 [.int .i64 p1.key.table, .int .u16 p1.key.id, .int .i64 p1.val, .string p1.note], .box b2 [.slice a0_tables p0.tables.length c0_tables]]) (ob := []) (by kernel_rfl) (trivial) fun a w hS => ?_
  refine wl_end ?_
  refine hK7 _ _ ?_
  refine k_cond (y6 != 0) hS.has (by kernel_rfl) (by kernel_rfl) (by kernel_rfl) (fun hb8 => ?_) (fun hb8 => ?_)
  · replace h := ctrue hb8 h
    refine k_seq (by kernel_rfl) fun K9 hK9 => ?_
    refine k_reg 2 (by kernel_rfl) ?_
    refine r_run 0 2 [4] [] hS rfl (L' := [(4, .int .i64 y6)]) (As' := [.box b3 [.int .i64 p1.key.table, .int .u16 p1.key.id, .int .i64 p1.val, .string p1.note], .box b2 [.slice a0_tables p0.tables.length c0_tables]]) (ob := []) (by kernel_rfl) (trivial) fun a w hS => ?_
    refine wl_end ?_
    refine hK9 _ _ ?_
    refine k_ret (by kernel_rfl) ?_
    obtain rfl := someI h
    try simp only [Exit.then, Exit.inBlock]
    refine r_ret hS [.tmp 4] [] (xs := [.int .i64 y6]) (ps := []) [] [] rfl (by kernel_rfl) (fun hA => trivial) rfl (fun F up => trivial) ?_
    exact ⟨rfl, rfl, rfl⟩
  · replace h := cfalse hb8 h
    refine k_skip (by kernel_rfl) ?_
    refine hK4 _ _ ?_
    refine k_seq (by kernel_rfl) fun K10 hK10 => ?_
    refine k_reg 9 (by kernel_rfl) ?_
    obtain ⟨x11, hx11, h⟩ := bindS h
    have ix11 := fidxB (F := flat_Bounds) (hS.p 0 rfl) hx11
    refine r_run1 0 9 [3, 6] [.own 1 0, .own 0 0, .ext [.int .i64 x11.min, .int .i64 x11.max], .own 0 0] hS rfl (L' := fun b12 => [(3, .pointer (some ⟨b3, 0, none⟩)), (6, .pointer (some ⟨b12, 0, none⟩))]) (As' := fun b12 => [.box b12 [.int .i64 x11.min, .int .i64 x11.max], .box b3 [.int .i64 p1.key.table, .int .u16 p1.key.id, .int .i64 p1.val, .string p1.note], .box b2 [.slice a0_tables p0.tables.length c0_tables]]) (ob := fun b12 => [fun _ => (⟨b2, 0, none⟩ : Addr) = (⟨b2, 0, none⟩ : Addr).add 0, fun _ => (⟨b3, 0, none⟩ : Addr) = (⟨b3, 0, none⟩ : Addr).add 0, fun _ => Inb a0_tables p0.tables.length p1.key.table, Cel (Addr.add (baseOf a0_tables) (Int.toNat p1.key.table * 2)) [.int .i64 x11.min, .int .i64 x11.max], fun _ => (⟨b12, 0, none⟩ : Addr) = (⟨b12, 0, none⟩ : Addr).add 0, fun _ => ∀ u ∈ ([.int .i64 x11.min, .int .i64 x11.max] : List Value), u.oneCell' = true]) (fun b12 => by kernel_rfl) (fun b12 => ⟨Bx.c rfl, Bx.c rfl, Bx.c ix11.1, ix11.2, Bx.c rfl, Bx.c (oneAll rfl), trivial⟩) fun b12 a w hS => ?_
    refine wl_end ?_
    refine hK10 _ _ ?_
    refine k_seq (by kernel_rfl) fun K13 hK13 => ?_
    refine k_reg 21 (by kernel_rfl) ?_
    refine r_run 0 11 [3, 6, 25, 31] [.own 1 3, .own 1 2, .own 0 0] hS rfl (L' := [(3, .pointer (some ⟨b3, 0, none⟩)), (6, .pointer (some ⟨b12, 0, none⟩)), (25, Value.agg #[.bool (decide ((p1.note.size : Int) ≤ 8)), .int .i64 3]), (31, .bool (decide (p1.val ≥ x11.min)))]) (As' := [.box b12 [.int .i64 x11.min, .int .i64 x11.max], .box b3 [.int .i64 p1.key.table, .int .u16 p1.key.id, .int .i64 p1.val, .string p1.note], .box b2 [.slice a0_tables p0.tables.length c0_tables]]) (ob := [fun _ => ⟨b3, 3, none⟩ = (⟨b3, 0, none⟩ : Addr).add 3, fun _ => ⟨b3, 2, none⟩ = (⟨b3, 0, none⟩ : Addr).add 2, fun _ => (⟨b12, 0, none⟩ : Addr) = (⟨b12, 0, none⟩ : Addr).add 0]) (by kernel_rfl) (⟨Bx.c rfl, Bx.c rfl, Bx.c rfl, trivial⟩) fun a w hS => ?_
    refine wl_cut 17 rfl rfl fun K14 hK14 => ?_
    have JK14 : ∀ a w, Sy C 41 a w [(25, Value.agg #[.bool (decide ((p1.note.size : Int) ≤ 8)), .int .i64 3]), (37, .bool ((decide (p1.val ≥ x11.min)) && (decide (p1.val ≤ x11.max))))] [.box b12 [.int .i64 x11.min, .int .i64 x11.max], .box b3 [.int .i64 p1.key.table, .int .u16 p1.key.id, .int .i64 p1.val, .string p1.note], .box b2 [.slice a0_tables p0.tables.length c0_tables]] [RSf flat_Bounds a0_tables c0_tables p0.tables] → K14 a w := by
      intro a w hS
      refine hK14 _ _ ?_
      refine r_run1 17 2 [39] [] hS rfl (L' := fun b15 => [(39, .slice (some ⟨b15, 0, none⟩) ([(row_rule.mk (decide ((p1.note.size : Int) ≤ 8)) 3), (row_rule.mk ((decide (p1.val ≥ x11.min)) && (decide (p1.val ≤ x11.max))) 152)] : List row_rule).length 2)]) (As' := fun b15 => [rowF flat_row_rule 66 (some ⟨b15, 0, none⟩) 2 ([(row_rule.mk (decide ((p1.note.size : Int) ≤ 8)) 3), (row_rule.mk ((decide (p1.val ≥ x11.min)) && (decide (p1.val ≤ x11.max))) 152)] : List row_rule), .box b12 [.int .i64 x11.min, .int .i64 x11.max], .box b3 [.int .i64 p1.key.table, .int .u16 p1.key.id, .int .i64 p1.val, .string p1.note], .box b2 [.slice a0_tables p0.tables.length c0_tables]]) (ob := fun b15 => []) (fun b15 => by kernel_rfl) (fun b15 => trivial) fun b15 a w hS => ?_
      obtain ⟨y16, hy16, h⟩ := bindS h
      refine r_callX 19 rfl (d := some 40) (g := 36) (args := #[.slice (some ⟨b15, 0, none⟩) ([(row_rule.mk (decide ((p1.note.size : Int) ≤ 8)) 3), (row_rule.mk ((decide (p1.val ≥ x11.min)) && (decide (p1.val ≤ x11.max))) 152)] : List row_rule).length 2]) [] [0] hS (by kernel_rfl) rfl rfl (row_all_ok n ([(row_rule.mk (decide ((p1.note.size : Int) ≤ 8)) 3), (row_rule.mk ((decide (p1.val ≥ x11.min)) && (decide (p1.val ≤ x11.max))) 152)] : List row_rule) y16 hy16) (fun F up le => ⟨le 0 rfl _ (fun w h => rowRS h), trivial⟩) ?_
      rintro v A P a w ⟨rfl, rfl, rfl⟩ hS
      refine r_run 20 1 [4] [] hS rfl (L' := [(4, .int .i64 y16)]) (As' := [rowF flat_row_rule 66 (some ⟨b15, 0, none⟩) 2 ([(row_rule.mk (decide ((p1.note.size : Int) ≤ 8)) 3), (row_rule.mk ((decide (p1.val ≥ x11.min)) && (decide (p1.val ≤ x11.max))) 152)] : List row_rule), .box b12 [.int .i64 x11.min, .int .i64 x11.max], .box b3 [.int .i64 p1.key.table, .int .u16 p1.key.id, .int .i64 p1.val, .string p1.note], .box b2 [.slice a0_tables p0.tables.length c0_tables]]) (ob := []) (by kernel_rfl) (trivial) fun a w hS => ?_
      refine wl_end ?_
      refine hK13 _ _ ?_
      refine k_ret (by kernel_rfl) ?_
      obtain rfl := someI h
      try simp only [Exit.then, Exit.inBlock]
      refine r_ret hS [.tmp 4] [] (xs := [.int .i64 y16]) (ps := []) [] [] rfl (by kernel_rfl) (fun hA => trivial) rfl (fun F up => trivial) ?_
      exact ⟨rfl, rfl, rfl⟩
    cases hb17 : (decide (p1.val ≥ x11.min))
    · replace hS := hS.env (L' := [(3, .pointer (some ⟨b3, 0, none⟩)), (6, .pointer (some ⟨b12, 0, none⟩)), (25, Value.agg #[.bool (decide ((p1.note.size : Int) ≤ 8)), .int .i64 3]), (31, .bool false)]) (by rw [hb17])
      refine r_run 11 6 [25, 37] [] hS rfl (L' := [(25, Value.agg #[.bool (decide ((p1.note.size : Int) ≤ 8)), .int .i64 3]), (37, .bool false)]) (As' := [.box b12 [.int .i64 x11.min, .int .i64 x11.max], .box b3 [.int .i64 p1.key.table, .int .u16 p1.key.id, .int .i64 p1.val, .string p1.note], .box b2 [.slice a0_tables p0.tables.length c0_tables]]) (ob := []) (by kernel_rfl) (trivial) fun a w hS => ?_
      refine wl_end ?_
      replace hS := hS.got [25, 37] [0, 0, 0] [] 0 (L' := [(25, Value.agg #[.bool (decide ((p1.note.size : Int) ≤ 8)), .int .i64 3]), (37, .bool false)]) (Bs := [.box b12 [.int .i64 x11.min, .int .i64 x11.max], .box b3 [.int .i64 p1.key.table, .int .u16 p1.key.id, .int .i64 p1.val, .string p1.note], .box b2 [.slice a0_tables p0.tables.length c0_tables]]) (Rs := [RSf flat_Bounds a0_tables c0_tables p0.tables]) (by kernel_rfl) (by kernel_rfl) (by kernel_rfl)
      exact JK14 _ _ (hS.env (by rw [hb17]; rfl))
    · replace hS := hS.env (L' := [(3, .pointer (some ⟨b3, 0, none⟩)), (6, .pointer (some ⟨b12, 0, none⟩)), (25, Value.agg #[.bool (decide ((p1.note.size : Int) ≤ 8)), .int .i64 3]), (31, .bool true)]) (by rw [hb17])
      refine r_run 11 6 [25, 37] [.own 1 2, .own 0 1] hS rfl (L' := [(25, Value.agg #[.bool (decide ((p1.note.size : Int) ≤ 8)), .int .i64 3]), (37, .bool (decide (p1.val ≤ x11.max)))]) (As' := [.box b12 [.int .i64 x11.min, .int .i64 x11.max], .box b3 [.int .i64 p1.key.table, .int .u16 p1.key.id, .int .i64 p1.val, .string p1.note], .box b2 [.slice a0_tables p0.tables.length c0_tables]]) (ob := [fun _ => ⟨b3, 2, none⟩ = (⟨b3, 0, none⟩ : Addr).add 2, fun _ => ⟨b12, 1, none⟩ = (⟨b12, 0, none⟩ : Addr).add 1]) (by kernel_rfl) (⟨Bx.c rfl, Bx.c rfl, trivial⟩) fun a w hS => ?_
      refine wl_end ?_
      replace hS := hS.got [25, 37] [0, 0, 0] [] 0 (L' := [(25, Value.agg #[.bool (decide ((p1.note.size : Int) ≤ 8)), .int .i64 3]), (37, .bool (decide (p1.val ≤ x11.max)))]) (Bs := [.box b12 [.int .i64 x11.min, .int .i64 x11.max], .box b3 [.int .i64 p1.key.table, .int .u16 p1.key.id, .int .i64 p1.val, .string p1.note], .box b2 [.slice a0_tables p0.tables.length c0_tables]]) (Rs := [RSf flat_Bounds a0_tables c0_tables p0.tables]) (by kernel_rfl) (by kernel_rfl) (by kernel_rfl)
      exact JK14 _ _ (hS.env (by rw [hb17]; rfl))

/-! cmp.isNaN int  -/
def cmp_isNaN_int (n : Nat) (p0 : Int) : Option Bool :=
  some (p0 != p0)
theorem cmp_isNaN_int_ok  (n : Nat) (p0 : Int) (r : Bool)  (h : cmp_isNaN_int n p0 = some r) :
    Meets Try.prog 49 #[.int .i64 p0] [] [] fun v A P => v = .bool r ∧ A = [] ∧ P = [] := by
  unfold cmp_isNaN_int at h
  refine meets_enter 6 Try.func49 Try.call49 rfl (by kernel_rfl) (by simp) fun C a w hS => ?_
  refine k_seq (by kernel_rfl) fun K1 hK1 => ?_
  refine k_reg 1 (by kernel_rfl) ?_
  refine r_run 0 1 [0] [] hS rfl (L' := [(0, .int .i64 p0)]) (As' := []) (ob := []) (by kernel_rfl) (trivial) fun a w hS => ?_
  refine wl_end ?_
  refine hK1 _ _ ?_
  refine k_seq (by kernel_rfl) fun K2 hK2 => ?_
  refine k_reg 4 (by kernel_rfl) ?_
  refine r_run 0 4 [2] [] hS rfl (L' := [(2, .bool (p0 != p0))]) (As' := []) (ob := []) (by kernel_rfl) (trivial) fun a w hS => ?_
  refine wl_end ?_
  refine hK2 _ _ ?_
  refine k_ret (by kernel_rfl) ?_
  obtain rfl := someI h
  try simp only [Exit.then, Exit.inBlock]
  refine r_ret hS [.tmp 2] [] (xs := [.bool (p0 != p0)]) (ps := []) [] [] rfl (by kernel_rfl) (fun hA => trivial) rfl (fun F up => trivial) ?_
  exact ⟨rfl, rfl, rfl⟩

/-! cmp.Compare int  -/
def cmp_Compare_int (n : Nat) (p0 : Int) (p1 : Int) : Option Int :=
  (cmp_isNaN_int n p0).bind fun y3 =>
  (cmp_isNaN_int n p1).bind fun y5 =>
  cond y3
    (cond y5
      (some 0)
      (some (-1)))
    (cond y5
      (some 1)
      (cond (decide (p0 < p1))
        (some (-1))
        (cond (decide (p0 > p1))
          (some 1)
          (some 0))))
theorem cmp_Compare_int_ok  (n : Nat) (p0 : Int) (p1 : Int) (r : Int)  (h : cmp_Compare_int n p0 p1 = some r) :
    Meets Try.prog 39 #[.int .i64 p0, .int .i64 p1] [] [] fun v A P => v = .int .i64 r ∧ A = [] ∧ P = [] := by
  unfold cmp_Compare_int at h
  refine meets_enter 20 Try.func39 Try.call39 rfl (by kernel_rfl) (by simp) fun C a w hS => ?_
  refine k_seq (by kernel_rfl) fun K1 hK1 => ?_
  refine k_reg 1 (by kernel_rfl) ?_
  refine r_run 0 1 [0, 1] [] hS rfl (L' := [(0, .int .i64 p0), (1, .int .i64 p1)]) (As' := []) (ob := []) (by kernel_rfl) (trivial) fun a w hS => ?_
  refine wl_end ?_
  refine hK1 _ _ ?_
  refine k_seq (by kernel_rfl) fun K2 hK2 => ?_
  refine k_reg 3 (by kernel_rfl) ?_
  refine r_run 0 1 [0, 1, 7] [] hS rfl (L' := [(0, .int .i64 p0), (1, .int .i64 p1), (7, .int .i64 p0)]) (As' := []) (ob := []) (by kernel_rfl) (trivial) fun a w hS => ?_
  obtain ⟨y3, hy3, h⟩ := bindS h
  refine r_call 1 rfl (d := some 8) (g := 49) (args := #[.int .i64 p0]) [] hS (by kernel_rfl) rfl (cmp_isNaN_int_ok n p0 y3 hy3) (fun F up => trivial) ?_
  rintro v A P a w ⟨rfl, rfl, rfl⟩ hS
  refine r_run 2 1 [0, 1, 5] [] hS rfl (L' := [(0, .int .i64 p0), (1, .int .i64 p1), (5, .bool y3)]) (As' := []) (ob := []) (by kernel_rfl) (trivial) fun a w hS => ?_
  refine wl_end ?_
  refine hK2 _ _ ?_
  refine k_seq (by kernel_rfl) fun K4 hK4 => ?_
  refine k_reg 3 (by kernel_rfl) ?_
  refine r_run 0 1 [0, 1, 5, 9] [] hS rfl (L' := [(0, .int .i64 p0), (1, .int .i64 p1), (5, .bool y3), (9, .int .i64 p1)]) (As' := []) (ob := []) (by kernel_rfl) (trivial) fun a w hS => ?_
  obtain ⟨y5, hy5, h⟩ := bindS h
  refine r_call 1 rfl (d := some 10) (g := 49) (args := #[.int .i64 p1]) [] hS (by kernel_rfl) rfl (cmp_isNaN_int_ok n p1 y5 hy5) (fun F up => trivial) ?_
  rintro v A P a w ⟨rfl, rfl, rfl⟩ hS
  refine r_run 2 1 [0, 1, 5, 6] [] hS rfl (L' := [(0, .int .i64 p0), (1, .int .i64 p1), (5, .bool y3), (6, .bool y5)]) (As' := []) (ob := []) (by kernel_rfl) (trivial) fun a w hS => ?_
  refine wl_end ?_
  refine hK4 _ _ ?_
  refine k_seq (by kernel_rfl) fun K6 hK6 => ?_
  refine k_seq (by kernel_rfl) fun K7 hK7 => ?_
  refine k_reg 1 (by kernel_rfl) ?_
  refine r_run 0 1 [0, 1, 6, 11] [] hS rfl (L' := [(0, .int .i64 p0), (1, .int .i64 p1), (6, .bool y5), (11, .bool y3)]) (As' := []) (ob := []) (by kernel_rfl) (trivial) fun a w hS => ?_
  refine wl_end ?_
  refine hK7 _ _ ?_
  refine k_cond y3 hS.has (by kernel_rfl) (by kernel_rfl) (by kernel_rfl) (fun hb8 => ?_) (fun hb8 => ?_)
  · replace h := ctrue hb8 h
    refine k_seq (by kernel_rfl) fun K9 hK9 => ?_
    refine k_seq (by kernel_rfl) fun K10 hK10 => ?_
    refine k_reg 1 (by kernel_rfl) ?_
    refine r_run 0 1 [12] [] hS rfl (L' := [(12, .bool y5)]) (As' := []) (ob := []) (by kernel_rfl) (trivial) fun a w hS => ?_
    refine wl_end ?_
    refine hK10 _ _ ?_
    refine k_cond y5 hS.has (by kernel_rfl) (by kernel_rfl) (by kernel_rfl) (fun hb11 => ?_) (fun hb11 => ?_)
    · replace h := ctrue hb11 h
      refine k_seq (by kernel_rfl) fun K12 hK12 => ?_
      refine k_reg 1 (by kernel_rfl) ?_
      refine r_run 0 1 [4] [] hS rfl (L' := [(4, .int .i64 0)]) (As' := []) (ob := []) (by kernel_rfl) (trivial) fun a w hS => ?_
      refine wl_end ?_
      refine hK12 _ _ ?_
      refine k_ret (by kernel_rfl) ?_
      obtain rfl := someI h
      try simp only [Exit.then, Exit.inBlock]
      refine r_ret hS [.tmp 4] [] (xs := [.int .i64 0]) (ps := []) [] [] rfl (by kernel_rfl) (fun hA => trivial) rfl (fun F up => trivial) ?_
      exact ⟨rfl, rfl, rfl⟩
    · replace h := cfalse hb11 h
      refine k_skip (by kernel_rfl) ?_
      refine hK9 _ _ ?_
      refine k_seq (by kernel_rfl) fun K13 hK13 => ?_
      refine k_reg 1 (by kernel_rfl) ?_
      refine r_run 0 1 [4] [] hS rfl (L' := [(4, .int .i64 (-1))]) (As' := []) (ob := []) (by kernel_rfl) (trivial) fun a w hS => ?_
      refine wl_end ?_
      refine hK13 _ _ ?_
      refine k_ret (by kernel_rfl) ?_
      obtain rfl := someI h
      try simp only [Exit.then, Exit.inBlock]
      refine r_ret hS [.tmp 4] [] (xs := [.int .i64 (-1)]) (ps := []) [] [] rfl (by kernel_rfl) (fun hA => trivial) rfl (fun F up => trivial) ?_
      exact ⟨rfl, rfl, rfl⟩
  · replace h := cfalse hb8 h
    refine k_skip (by kernel_rfl) ?_
    refine hK6 _ _ ?_
    refine k_seq (by kernel_rfl) fun K14 hK14 => ?_
    refine k_seq (by kernel_rfl) fun K15 hK15 => ?_
    refine k_reg 1 (by kernel_rfl) ?_
    refine r_run 0 1 [0, 1, 13] [] hS rfl (L' := [(0, .int .i64 p0), (1, .int .i64 p1), (13, .bool y5)]) (As' := []) (ob := []) (by kernel_rfl) (trivial) fun a w hS => ?_
    refine wl_end ?_
    refine hK15 _ _ ?_
    refine k_cond y5 hS.has (by kernel_rfl) (by kernel_rfl) (by kernel_rfl) (fun hb16 => ?_) (fun hb16 => ?_)
    · replace h := ctrue hb16 h
      refine k_seq (by kernel_rfl) fun K17 hK17 => ?_
      refine k_reg 1 (by kernel_rfl) ?_
      refine r_run 0 1 [4] [] hS rfl (L' := [(4, .int .i64 1)]) (As' := []) (ob := []) (by kernel_rfl) (trivial) fun a w hS => ?_
      refine wl_end ?_
      refine hK17 _ _ ?_
      refine k_ret (by kernel_rfl) ?_
      obtain rfl := someI h
      try simp only [Exit.then, Exit.inBlock]
      refine r_ret hS [.tmp 4] [] (xs := [.int .i64 1]) (ps := []) [] [] rfl (by kernel_rfl) (fun hA => trivial) rfl (fun F up => trivial) ?_
      exact ⟨rfl, rfl, rfl⟩
    · replace h := cfalse hb16 h
      refine k_skip (by kernel_rfl) ?_
      refine hK14 _ _ ?_
      refine k_seq (by kernel_rfl) fun K18 hK18 => ?_
      refine k_seq (by kernel_rfl) fun K19 hK19 => ?_
      refine k_reg 3 (by kernel_rfl) ?_
      refine r_run 0 3 [0, 1, 16] [] hS rfl (L' := [(0, .int .i64 p0), (1, .int .i64 p1), (16, .bool (decide (p0 < p1)))]) (As' := []) (ob := []) (by kernel_rfl) (trivial) fun a w hS => ?_
      refine wl_end ?_
      refine hK19 _ _ ?_
      refine k_cond (decide (p0 < p1)) hS.has (by kernel_rfl) (by kernel_rfl) (by kernel_rfl) (fun hb20 => ?_) (fun hb20 => ?_)
      · replace h := ctrue hb20 h
        refine k_seq (by kernel_rfl) fun K21 hK21 => ?_
        refine k_reg 1 (by kernel_rfl) ?_
        refine r_run 0 1 [4] [] hS rfl (L' := [(4, .int .i64 (-1))]) (As' := []) (ob := []) (by kernel_rfl) (trivial) fun a w hS => ?_
        refine wl_end ?_
        refine hK21 _ _ ?_
        refine k_ret (by kernel_rfl) ?_
        obtain rfl := someI h
        try simp only [Exit.then, Exit.inBlock]
        refine r_ret hS [.tmp 4] [] (xs := [.int .i64 (-1)]) (ps := []) [] [] rfl (by kernel_rfl) (fun hA => trivial) rfl (fun F up => trivial) ?_
        exact ⟨rfl, rfl, rfl⟩
      · replace h := cfalse hb20 h
        refine k_skip (by kernel_rfl) ?_
        refine hK18 _ _ ?_
        refine k_seq (by kernel_rfl) fun K22 hK22 => ?_
        refine k_seq (by kernel_rfl) fun K23 hK23 => ?_
        refine k_reg 3 (by kernel_rfl) ?_
        refine r_run 0 3 [19] [] hS rfl (L' := [(19, .bool (decide (p0 > p1)))]) (As' := []) (ob := []) (by kernel_rfl) (trivial) fun a w hS => ?_
        refine wl_end ?_
        refine hK23 _ _ ?_
        refine k_cond (decide (p0 > p1)) hS.has (by kernel_rfl) (by kernel_rfl) (by kernel_rfl) (fun hb24 => ?_) (fun hb24 => ?_)
        · replace h := ctrue hb24 h
          refine k_seq (by kernel_rfl) fun K25 hK25 => ?_
          refine k_reg 1 (by kernel_rfl) ?_
          refine r_run 0 1 [4] [] hS rfl (L' := [(4, .int .i64 1)]) (As' := []) (ob := []) (by kernel_rfl) (trivial) fun a w hS => ?_
          refine wl_end ?_
          refine hK25 _ _ ?_
          refine k_ret (by kernel_rfl) ?_
          obtain rfl := someI h
          try simp only [Exit.then, Exit.inBlock]
          refine r_ret hS [.tmp 4] [] (xs := [.int .i64 1]) (ps := []) [] [] rfl (by kernel_rfl) (fun hA => trivial) rfl (fun F up => trivial) ?_
          exact ⟨rfl, rfl, rfl⟩
        · replace h := cfalse hb24 h
          refine k_skip (by kernel_rfl) ?_
          refine hK22 _ _ ?_
          refine k_seq (by kernel_rfl) fun K26 hK26 => ?_
          refine k_reg 1 (by kernel_rfl) ?_
          refine r_run 0 1 [4] [] hS rfl (L' := [(4, .int .i64 0)]) (As' := []) (ob := []) (by kernel_rfl) (trivial) fun a w hS => ?_
          refine wl_end ?_
          refine hK26 _ _ ?_
          refine k_ret (by kernel_rfl) ?_
          obtain rfl := someI h
          try simp only [Exit.then, Exit.inBlock]
          refine r_ret hS [.tmp 4] [] (xs := [.int .i64 0]) (ps := []) [] [] rfl (by kernel_rfl) (fun hA => trivial) rfl (fun F up => trivial) ?_
          exact ⟨rfl, rfl, rfl⟩

/-! cmp.isNaN uint16  -/
def cmp_isNaN_uint16 (n : Nat) (p0 : Int) : Option Bool :=
  some (p0 != p0)
theorem cmp_isNaN_uint16_ok  (n : Nat) (p0 : Int) (r : Bool)  (h : cmp_isNaN_uint16 n p0 = some r) :
    Meets Try.prog 50 #[.int .u16 p0] [] [] fun v A P => v = .bool r ∧ A = [] ∧ P = [] := by
  unfold cmp_isNaN_uint16 at h
  refine meets_enter 6 Try.func50 Try.call50 rfl (by kernel_rfl) (by simp) fun C a w hS => ?_
  refine k_seq (by kernel_rfl) fun K1 hK1 => ?_
  refine k_reg 1 (by kernel_rfl) ?_
  refine r_run 0 1 [0] [] hS rfl (L' := [(0, .int .u16 p0)]) (As' := []) (ob := []) (by kernel_rfl) (trivial) fun a w hS => ?_
  refine wl_end ?_
  refine hK1 _ _ ?_
  refine k_seq (by kernel_rfl) fun K2 hK2 => ?_
  refine k_reg 4 (by kernel_rfl) ?_
  refine r_run 0 4 [2] [] hS rfl (L' := [(2, .bool (p0 != p0))]) (As' := []) (ob := []) (by kernel_rfl) (trivial) fun a w hS => ?_
  refine wl_end ?_
  refine hK2 _ _ ?_
  refine k_ret (by kernel_rfl) ?_
  obtain rfl := someI h
  try simp only [Exit.then, Exit.inBlock]
  refine r_ret hS [.tmp 2] [] (xs := [.bool (p0 != p0)]) (ps := []) [] [] rfl (by kernel_rfl) (fun hA => trivial) rfl (fun F up => trivial) ?_
  exact ⟨rfl, rfl, rfl⟩

/-! cmp.Compare uint16  -/
def cmp_Compare_uint16 (n : Nat) (p0 : Int) (p1 : Int) : Option Int :=
  (cmp_isNaN_uint16 n p0).bind fun y3 =>
  (cmp_isNaN_uint16 n p1).bind fun y5 =>
  cond y3
    (cond y5
      (some 0)
      (some (-1)))
    (cond y5
      (some 1)
      (cond (decide (p0 < p1))
        (some (-1))
        (cond (decide (p0 > p1))
          (some 1)
          (some 0))))
theorem cmp_Compare_uint16_ok  (n : Nat) (p0 : Int) (p1 : Int) (r : Int)  (h : cmp_Compare_uint16 n p0 p1 = some r) :
    Meets Try.prog 40 #[.int .u16 p0, .int .u16 p1] [] [] fun v A P => v = .int .i64 r ∧ A = [] ∧ P = [] := by
  unfold cmp_Compare_uint16 at h
  refine meets_enter 20 Try.func40 Try.call40 rfl (by kernel_rfl) (by simp) fun C a w hS => ?_
  refine k_seq (by kernel_rfl) fun K1 hK1 => ?_
  refine k_reg 1 (by kernel_rfl) ?_
  refine r_run 0 1 [0, 1] [] hS rfl (L' := [(0, .int .u16 p0), (1, .int .u16 p1)]) (As' := []) (ob := []) (by kernel_rfl) (trivial) fun a w hS => ?_
  refine wl_end ?_
  refine hK1 _ _ ?_
  refine k_seq (by kernel_rfl) fun K2 hK2 => ?_
  refine k_reg 3 (by kernel_rfl) ?_
  refine r_run 0 1 [0, 1, 7] [] hS rfl (L' := [(0, .int .u16 p0), (1, .int .u16 p1), (7, .int .u16 p0)]) (As' := []) (ob := []) (by kernel_rfl) (trivial) fun a w hS => ?_
  obtain ⟨y3, hy3, h⟩ := bindS h
  refine r_call 1 rfl (d := some 8) (g := 50) (args := #[.int .u16 p0]) [] hS (by kernel_rfl) rfl (cmp_isNaN_uint16_ok n p0 y3 hy3) (fun F up => trivial) ?_
  rintro v A P a w ⟨rfl, rfl, rfl⟩ hS
  refine r_run 2 1 [0, 1, 5] [] hS rfl (L' := [(0, .int .u16 p0), (1, .int .u16 p1), (5, .bool y3)]) (As' := []) (ob := []) (by kernel_rfl) (trivial) fun a w hS => ?_
  refine wl_end ?_
  refine hK2 _ _ ?_
  refine k_seq (by kernel_rfl) fun K4 hK4 => ?_
  refine k_reg 3 (by kernel_rfl) ?_
  refine r_run 0 1 [0, 1, 5, 9] [] hS rfl (L' := [(0, .int .u16 p0), (1, .int .u16 p1), (5, .bool y3), (9, .int .u16 p1)]) (As' := []) (ob := []) (by kernel_rfl) (trivial) fun a w hS => ?_
  obtain ⟨y5, hy5, h⟩ := bindS h
  refine r_call 1 rfl (d := some 10) (g := 50) (args := #[.int .u16 p1]) [] hS (by kernel_rfl) rfl (cmp_isNaN_uint16_ok n p1 y5 hy5) (fun F up => trivial) ?_
  rintro v A P a w ⟨rfl, rfl, rfl⟩ hS
  refine r_run 2 1 [0, 1, 5, 6] [] hS rfl (L' := [(0, .int .u16 p0), (1, .int .u16 p1), (5, .bool y3), (6, .bool y5)]) (As' := []) (ob := []) (by kernel_rfl) (trivial) fun a w hS => ?_
  refine wl_end ?_
  refine hK4 _ _ ?_
  refine k_seq (by kernel_rfl) fun K6 hK6 => ?_
  refine k_seq (by kernel_rfl) fun K7 hK7 => ?_
  refine k_reg 1 (by kernel_rfl) ?_
  refine r_run 0 1 [0, 1, 6, 11] [] hS rfl (L' := [(0, .int .u16 p0), (1, .int .u16 p1), (6, .bool y5), (11, .bool y3)]) (As' := []) (ob := []) (by kernel_rfl) (trivial) fun a w hS => ?_
  refine wl_end ?_
  refine hK7 _ _ ?_
  refine k_cond y3 hS.has (by kernel_rfl) (by kernel_rfl) (by kernel_rfl) (fun hb8 => ?_) (fun hb8 => ?_)
  · replace h := ctrue hb8 h
    refine k_seq (by kernel_rfl) fun K9 hK9 => ?_
    refine k_seq (by kernel_rfl) fun K10 hK10 => ?_
    refine k_reg 1 (by kernel_rfl) ?_
    refine r_run 0 1 [12] [] hS rfl (L' := [(12, .bool y5)]) (As' := []) (ob := []) (by kernel_rfl) (trivial) fun a w hS => ?_
    refine wl_end ?_
    refine hK10 _ _ ?_
    refine k_cond y5 hS.has (by kernel_rfl) (by kernel_rfl) (by kernel_rfl) (fun hb11 => ?_) (fun hb11 => ?_)
    · replace h := ctrue hb11 h
      refine k_seq (by kernel_rfl) fun K12 hK12 => ?_
      refine k_reg 1 (by kernel_rfl) ?_
      refine r_run 0 1 [4] [] hS rfl (L' := [(4, .int .i64 0)]) (As' := []) (ob := []) (by kernel_rfl) (trivial) fun a w hS => ?_
      refine wl_end ?_
      refine hK12 _ _ ?_
      refine k_ret (by kernel_rfl) ?_
      obtain rfl := someI h
      try simp only [Exit.then, Exit.inBlock]
      refine r_ret hS [.tmp 4] [] (xs := [.int .i64 0]) (ps := []) [] [] rfl (by kernel_rfl) (fun hA => trivial) rfl (fun F up => trivial) ?_
      exact ⟨rfl, rfl, rfl⟩
    · replace h := cfalse hb11 h
      refine k_skip (by kernel_rfl) ?_
      refine hK9 _ _ ?_
      refine k_seq (by kernel_rfl) fun K13 hK13 => ?_
      refine k_reg 1 (by kernel_rfl) ?_
      refine r_run 0 1 [4] [] hS rfl (L' := [(4, .int .i64 (-1))]) (As' := []) (ob := []) (by kernel_rfl) (trivial) fun a w hS => ?_
      refine wl_end ?_
      refine hK13 _ _ ?_
      refine k_ret (by kernel_rfl) ?_
      obtain rfl := someI h
      try simp only [Exit.then, Exit.inBlock]
      refine r_ret hS [.tmp 4] [] (xs := [.int .i64 (-1)]) (ps := []) [] [] rfl (by kernel_rfl) (fun hA => trivial) rfl (fun F up => trivial) ?_
      exact ⟨rfl, rfl, rfl⟩
  · replace h := cfalse hb8 h
    refine k_skip (by kernel_rfl) ?_
    refine hK6 _ _ ?_
    refine k_seq (by kernel_rfl) fun K14 hK14 => ?_
    refine k_seq (by kernel_rfl) fun K15 hK15 => ?_
    refine k_reg 1 (by kernel_rfl) ?_
    refine r_run 0 1 [0, 1, 13] [] hS rfl (L' := [(0, .int .u16 p0), (1, .int .u16 p1), (13, .bool y5)]) (As' := []) (ob := []) (by kernel_rfl) (trivial) fun a w hS => ?_
    refine wl_end ?_
    refine hK15 _ _ ?_
    refine k_cond y5 hS.has (by kernel_rfl) (by kernel_rfl) (by kernel_rfl) (fun hb16 => ?_) (fun hb16 => ?_)
    · replace h := ctrue hb16 h
      refine k_seq (by kernel_rfl) fun K17 hK17 => ?_
      refine k_reg 1 (by kernel_rfl) ?_
      refine r_run 0 1 [4] [] hS rfl (L' := [(4, .int .i64 1)]) (As' := []) (ob := []) (by kernel_rfl) (trivial) fun a w hS => ?_
      refine wl_end ?_
      refine hK17 _ _ ?_
      refine k_ret (by kernel_rfl) ?_
      obtain rfl := someI h
      try simp only [Exit.then, Exit.inBlock]
      refine r_ret hS [.tmp 4] [] (xs := [.int .i64 1]) (ps := []) [] [] rfl (by kernel_rfl) (fun hA => trivial) rfl (fun F up => trivial) ?_
      exact ⟨rfl, rfl, rfl⟩
    · replace h := cfalse hb16 h
      refine k_skip (by kernel_rfl) ?_
      refine hK14 _ _ ?_
      refine k_seq (by kernel_rfl) fun K18 hK18 => ?_
      refine k_seq (by kernel_rfl) fun K19 hK19 => ?_
      refine k_reg 3 (by kernel_rfl) ?_
      refine r_run 0 3 [0, 1, 16] [] hS rfl (L' := [(0, .int .u16 p0), (1, .int .u16 p1), (16, .bool (decide (p0 < p1)))]) (As' := []) (ob := []) (by kernel_rfl) (trivial) fun a w hS => ?_
      refine wl_end ?_
      refine hK19 _ _ ?_
      refine k_cond (decide (p0 < p1)) hS.has (by kernel_rfl) (by kernel_rfl) (by kernel_rfl) (fun hb20 => ?_) (fun hb20 => ?_)
      · replace h := ctrue hb20 h
        refine k_seq (by kernel_rfl) fun K21 hK21 => ?_
        refine k_reg 1 (by kernel_rfl) ?_
        refine r_run 0 1 [4] [] hS rfl (L' := [(4, .int .i64 (-1))]) (As' := []) (ob := []) (by kernel_rfl) (trivial) fun a w hS => ?_
        refine wl_end ?_
        refine hK21 _ _ ?_
        refine k_ret (by kernel_rfl) ?_
        obtain rfl := someI h
        try simp only [Exit.then, Exit.inBlock]
        refine r_ret hS [.tmp 4] [] (xs := [.int .i64 (-1)]) (ps := []) [] [] rfl (by kernel_rfl) (fun hA => trivial) rfl (fun F up => trivial) ?_
        exact ⟨rfl, rfl, rfl⟩
      · replace h := cfalse hb20 h
        refine k_skip (by kernel_rfl) ?_
        refine hK18 _ _ ?_
        refine k_seq (by kernel_rfl) fun K22 hK22 => ?_
        refine k_seq (by kernel_rfl) fun K23 hK23 => ?_
        refine k_reg 3 (by kernel_rfl) ?_
        refine r_run 0 3 [19] [] hS rfl (L' := [(19, .bool (decide (p0 > p1)))]) (As' := []) (ob := []) (by kernel_rfl) (trivial) fun a w hS => ?_
        refine wl_end ?_
        refine hK23 _ _ ?_
        refine k_cond (decide (p0 > p1)) hS.has (by kernel_rfl) (by kernel_rfl) (by kernel_rfl) (fun hb24 => ?_) (fun hb24 => ?_)
        · replace h := ctrue hb24 h
          refine k_seq (by kernel_rfl) fun K25 hK25 => ?_
          refine k_reg 1 (by kernel_rfl) ?_
          refine r_run 0 1 [4] [] hS rfl (L' := [(4, .int .i64 1)]) (As' := []) (ob := []) (by kernel_rfl) (trivial) fun a w hS => ?_
          refine wl_end ?_
          refine hK25 _ _ ?_
          refine k_ret (by kernel_rfl) ?_
          obtain rfl := someI h
          try simp only [Exit.then, Exit.inBlock]
          refine r_ret hS [.tmp 4] [] (xs := [.int .i64 1]) (ps := []) [] [] rfl (by kernel_rfl) (fun hA => trivial) rfl (fun F up => trivial) ?_
          exact ⟨rfl, rfl, rfl⟩
        · replace h := cfalse hb24 h
          refine k_skip (by kernel_rfl) ?_
          refine hK22 _ _ ?_
          refine k_seq (by kernel_rfl) fun K26 hK26 => ?_
          refine k_reg 1 (by kernel_rfl) ?_
          refine r_run 0 1 [4] [] hS rfl (L' := [(4, .int .i64 0)]) (As' := []) (ob := []) (by kernel_rfl) (trivial) fun a w hS => ?_
          refine wl_end ?_
          refine hK26 _ _ ?_
          refine k_ret (by kernel_rfl) ?_
          obtain rfl := someI h
          try simp only [Exit.then, Exit.inBlock]
          refine r_ret hS [.tmp 4] [] (xs := [.int .i64 0]) (ps := []) [] [] rfl (by kernel_rfl) (fun hA => trivial) rfl (fun F up => trivial) ?_
          exact ⟨rfl, rfl, rfl⟩

/-! cmp.Or int  -/
def cmp_Or_int_l1 (n : Nat) (p0 : (List Int)) : Nat → Int → Option Int
  | 0, _ => none
  | m6 + 1, v5 =>
    cond (decide (v5 < (p0.length : Int)))
      ((idx p0 v5).bind fun x13 =>
      cond (x13 != 0)
        (some x13)
        (cmp_Or_int_l1 n p0 m6 (IntKind.wrap .i64 (v5 + 1))))
      (some 0)
def cmp_Or_int (n : Nat) (p0 : (List Int)) : Option Int :=
  cmp_Or_int_l1 n p0 n 0
theorem cmp_Or_int_ok {a0 : Option Addr} {c0 : Nat} (n : Nat) (p0 : (List Int)) (r : Int)  (h : cmp_Or_int n p0 = some r) :
    Meets Try.prog 38 #[.slice a0 p0.length c0] [] [RSf flat_i64 a0 c0 p0] fun v A P => v = .int .i64 r ∧ A = [] ∧ P = [] := by
  unfold cmp_Or_int at h
  refine meets_enter 18 Try.func38 Try.call38 rfl (by kernel_rfl) (by simp) fun C a w hS => ?_
  refine k_seq (by kernel_rfl) fun K1 hK1 => ?_
  refine k_reg 1 (by kernel_rfl) ?_
  refine r_run 0 1 [0] [] hS rfl (L' := [(0, .slice a0 p0.length c0)]) (As' := []) (ob := []) (by kernel_rfl) (trivial) fun a w hS => ?_
  refine wl_end ?_
  refine hK1 _ _ ?_
  refine k_seq (by kernel_rfl) fun K2 hK2 => ?_
  refine k_reg 1 (by kernel_rfl) ?_
  refine r_run 0 1 [0, 3] [] hS rfl (L' := [(0, .slice a0 p0.length c0), (3, .int .i64 0)]) (As' := []) (ob := []) (by kernel_rfl) (trivial) fun a w hS => ?_
  refine wl_end ?_
  refine hK2 _ _ ?_
  refine k_seq (by kernel_rfl) fun K3 hK3 => ?_
  refine k_seq (by kernel_rfl) fun K4 hK4 => ?_
  refine k_reg 3 (by kernel_rfl) ?_
  refine r_run 0 3 [3, 6, 7, 8] [] hS rfl (L' := [(3, .int .i64 0), (6, .slice a0 p0.length c0), (7, .int .i64 (p0.length : Int)), (8, .int .i64 0)]) (As' := []) (ob := []) (by kernel_rfl) (trivial) fun a w hS => ?_
  refine wl_end ?_
  refine hK4 _ _ ?_
  refine k_blk (by kernel_rfl) ?_
  refine k_loop (by kernel_rfl) (fun m6 a w => ∃ (v5 : Int), cmp_Or_int_l1 n p0 m6 v5 = some r ∧ Sy C 18 a w [(3, .int .i64 0), (6, .slice a0 p0.length c0), (7, .int .i64 (p0.length : Int)), (8, .int .i64 v5)] [] [RSf flat_i64 a0 c0 p0]) n ⟨0, h, (hS.got [3, 6, 7, 8] [] [] 0 (by kernel_rfl) (by kernel_rfl) (by kernel_rfl))⟩ ?_
  rintro m6 a w ⟨v5, h, hS⟩ K7 hK7
  cases m6 with
  | zero => exact (noneS h).elim
  | succ m6 =>
    unfold cmp_Or_int_l1 at h
    refine k_seq (by kernel_rfl) fun K8 hK8 => ?_
    refine k_reg 1 (by kernel_rfl) ?_
    refine r_run 0 1 [3, 6, 7, 8, 9] [] hS rfl (L' := [(3, .int .i64 0), (6, .slice a0 p0.length c0), (7, .int .i64 (p0.length : Int)), (8, .int .i64 v5), (9, .bool (decide (v5 < (p0.length : Int))))]) (As' := []) (ob := []) (by kernel_rfl) (trivial) fun a w hS => ?_
    refine wl_end ?_
    refine hK8 _ _ ?_
    refine k_seq (by kernel_rfl) fun K9 hK9 => ?_
    refine k_cond (decide (v5 < (p0.length : Int))) hS.has (by kernel_rfl) (by kernel_rfl) (by kernel_rfl) (fun hb10 => ?_) (fun hb10 => ?_)
    · replace h := ctrue hb10 h
      refine k_skip (by kernel_rfl) ?_
      refine hK9 _ _ ?_
      refine k_seq (by kernel_rfl) fun K11 hK11 => ?_
      refine k_blk (by kernel_rfl) ?_
      refine k_seq (by kernel_rfl) fun K12 hK12 => ?_
      refine k_reg 3 (by kernel_rfl) ?_
      obtain ⟨x13, hx13, h⟩ := bindS h
      have ix13 := fidxB (F := flat_i64) (hS.p 0 rfl) hx13
      refine r_run 0 3 [3, 5, 6, 7, 8] [.ext [.int .i64 x13]] hS rfl (L' := [(3, .int .i64 0), (5, .int .i64 x13), (6, .slice a0 p0.length c0), (7, .int .i64 (p0.length : Int)), (8, .int .i64 v5)]) (As' := []) (ob := [fun _ => Inb a0 p0.length v5, Cel (Addr.add (baseOf a0) (Int.toNat v5 * 1)) [.int .i64 x13]]) (by kernel_rfl) (⟨Bx.c ix13.1, ix13.2, trivial⟩) fun a w hS => ?_
      refine wl_end ?_
      refine hK12 _ _ ?_
      refine k_seq (by kernel_rfl) fun K14 hK14 => ?_
      refine k_reg 3 (by kernel_rfl) ?_
      refine r_run 0 3 [3, 5, 6, 7, 8, 14] [] hS rfl (L' := [(3, .int .i64 0), (5, .int .i64 x13), (6, .slice a0 p0.length c0), (7, .int .i64 (p0.length : Int)), (8, .int .i64 v5), (14, .bool (x13 != 0))]) (As' := []) (ob := []) (by kernel_rfl) (trivial) fun a w hS => ?_
      refine wl_end ?_
      refine hK14 _ _ ?_
      refine k_cond (x13 != 0) hS.has (by kernel_rfl) (by kernel_rfl) (by kernel_rfl) (fun hb15 => ?_) (fun hb15 => ?_)
      · replace h := ctrue hb15 h
        refine k_seq (by kernel_rfl) fun K16 hK16 => ?_
        refine k_reg 2 (by kernel_rfl) ?_
        refine r_run 0 2 [2] [] hS rfl (L' := [(2, .int .i64 x13)]) (As' := []) (ob := []) (by kernel_rfl) (trivial) fun a w hS => ?_
        refine wl_end ?_
        refine hK16 _ _ ?_
        refine k_ret (by kernel_rfl) ?_
        obtain rfl := someI h
        try simp only [Exit.then, Exit.inBlock]
        refine r_ret hS [.tmp 2] [] (xs := [.int .i64 x13]) (ps := []) [] [] rfl (by kernel_rfl) (fun hA => trivial) rfl (fun F up => trivial) ?_
        exact ⟨rfl, rfl, rfl⟩
      · replace h := cfalse hb15 h
        refine k_skip (by kernel_rfl) ?_
        refine hK11 _ _ ?_
        refine k_reg 2 (by kernel_rfl) ?_
        refine r_run 0 2 [3, 6, 7, 8] [] hS rfl (L' := [(3, .int .i64 0), (6, .slice a0 p0.length c0), (7, .int .i64 (p0.length : Int)), (8, .int .i64 (IntKind.wrap .i64 (v5 + 1)))]) (As' := []) (ob := []) (by kernel_rfl) (trivial) fun a w hS => ?_
        refine wl_end ?_
        exact hK7 m6 _ _ (Nat.lt_succ_self _) ⟨(IntKind.wrap .i64 (v5 + 1)), h, (hS.got [3, 6, 7, 8] [] [] 0 (by kernel_rfl) (by kernel_rfl) (by kernel_rfl))⟩
    · replace h := cfalse hb10 h
      refine k_exit 0 (by kernel_rfl) ?_
      refine hK3 _ _ ?_
      refine k_seq (by kernel_rfl) fun K17 hK17 => ?_
      refine k_reg 2 (by kernel_rfl) ?_
      refine r_run 0 2 [2] [] hS rfl (L' := [(2, .int .i64 0)]) (As' := []) (ob := []) (by kernel_rfl) (trivial) fun a w hS => ?_
      refine wl_end ?_
      refine hK17 _ _ ?_
      refine k_ret (by kernel_rfl) ?_
      obtain rfl := someI h
      try simp only [Exit.then, Exit.inBlock]
      refine r_ret hS [.tmp 2] [] (xs := [.int .i64 0]) (ps := []) [] [] rfl (by kernel_rfl) (fun hA => trivial) rfl (fun F up => trivial) ?_
      exact ⟨rfl, rfl, rfl⟩

/-! bursary row.Compare -/
def row_Compare (n : Nat) (p0 : Key) (p1 : Key) : Option Int :=
  (cmp_Compare_int n p0.table p1.table).bind fun y5 =>
  (cmp_Compare_uint16 n p0.id p1.id).bind fun y6 =>
  (cmp_Or_int n ([y5, y6] : List Int)).bind fun y8 =>
  some y8
theorem row_Compare_ok  (n : Nat) (p0 : Key) (p1 : Key) (r : Int)  (h : row_Compare n p0 p1 = some r) :
    Meets Try.prog 19 #[Value.agg #[.int .i64 p0.table, .int .u16 p0.id], Value.agg #[.int .i64 p1.table, .int .u16 p1.id]] [] [] fun v A P => v = .int .i64 r ∧ A = [] ∧ P = [] := by
  unfold row_Compare at h
  refine meets_enter 17 Try.func19 Try.call19 rfl (by kernel_rfl) (by simp) fun C a w hS => ?_
  refine k_seq (by kernel_rfl) fun K1 hK1 => ?_
  refine k_reg 3 (by kernel_rfl) ?_
  refine r_run2 0 3 [2, 3] [] hS rfl (L' := fun b2 b3 => [(2, .pointer (some ⟨b2, 0, none⟩)), (3, .pointer (some ⟨b3, 0, none⟩))]) (As' := fun b2 b3 => [.box b3 [.int .i64 p1.table, .int .u16 p1.id], .box b2 [.int .i64 p0.table, .int .u16 p0.id]]) (ob := fun b2 b3 => []) (fun b2 b3 => by kernel_rfl) (fun b2 b3 => trivial) fun b2 b3 a w hS => ?_
  refine wl_end ?_
  refine hK1 _ _ ?_
  refine k_seq (by kernel_rfl) fun K4 hK4 => ?_
  obtain ⟨y5, hy5, h⟩ := bindS h
  refine k_draw 9 13 [.val (.pointer (some ⟨b2, 0, none⟩)), .val (.int .i64 p0.table), .val (.pointer (some ⟨b3, 0, none⟩)), .val (.int .i64 p1.table), .val (.int .i64 y5), .val (.pointer (some ⟨b2, 1, none⟩)), .val (.int .u16 p0.id), .val (.pointer (some ⟨b3, 1, none⟩)), .val (.int .u16 p1.id)] [] [(0, []), (1, [.own 1 0]), (2, []), (3, [.own 0 0]), (5, []), (6, [.own 1 1]), (7, []), (8, [.own 0 1])] [4] (ob := [fun _ => (⟨b2, 0, none⟩ : Addr) = (⟨b2, 0, none⟩ : Addr).add 0, fun _ => (⟨b3, 0, none⟩ : Addr) = (⟨b3, 0, none⟩ : Addr).add 0, fun _ => ⟨b2, 1, none⟩ = (⟨b2, 0, none⟩ : Addr).add 1, fun _ => ⟨b3, 1, none⟩ = (⟨b3, 0, none⟩ : Addr).add 1]) (by kernel_rfl) (by kernel_rfl) hS (by kernel_rfl) (fun F N0 => by kernel_rfl) (by kernel_rfl) (by kernel_rfl) (by kernel_rfl) (by kernel_rfl) ⟨Bx.c rfl, Bx.c rfl, Bx.c rfl, Bx.c rfl, trivial⟩ ?_ ?_
  · refine ⟨?_, trivial⟩
    · intro V a w e hS hq
      exact d_callV (d := 9) [] hS (args := #[.int .i64 p0.table, .int .i64 p1.table]) (by kernel_rfl) rfl (cmp_Compare_int_ok n p0.table p1.table y5 hy5) (fun F up le => trivial) (by rintro v A P ⟨rfl, rfl, rfl⟩; first | rfl)
  intro V a w e hS hq
  obtain ⟨y6, hy6, h⟩ := bindS h
  refine r_call 9 rfl (d := some 14) (g := 40) (args := #[.int .u16 p0.id, .int .u16 p1.id]) [] hS (by kernel_rfl) rfl (cmp_Compare_uint16_ok n p0.id p1.id y6 hy6) (fun F up => trivial) ?_
  rintro v A P a w ⟨rfl, rfl, rfl⟩ hS
  refine r_run1 10 1 [15] [] hS rfl (L' := fun b7 => [(15, .slice (some ⟨b7, 0, none⟩) ([y5, y6] : List Int).length 2)]) (As' := fun b7 => [rowF flat_i64 3 (some ⟨b7, 0, none⟩) 2 ([y5, y6] : List Int), .box b3 [.int .i64 p1.table, .int .u16 p1.id], .box b2 [.int .i64 p0.table, .int .u16 p0.id]]) (ob := fun b7 => []) (fun b7 => by kernel_rfl) (fun b7 => trivial) fun b7 a w hS => ?_
  obtain ⟨y8, hy8, h⟩ := bindS h
  refine r_callX 11 rfl (d := some 16) (g := 38) (args := #[.slice (some ⟨b7, 0, none⟩) ([y5, y6] : List Int).length 2]) [] [0] hS (by kernel_rfl) rfl rfl (cmp_Or_int_ok n ([y5, y6] : List Int) y8 hy8) (fun F up le => ⟨le 0 rfl _ (fun w h => rowRS h), trivial⟩) ?_
  rintro v A P a w ⟨rfl, rfl, rfl⟩ hS
  refine r_run 12 1 [4] [] hS rfl (L' := [(4, .int .i64 y8)]) (As' := [rowF flat_i64 3 (some ⟨b7, 0, none⟩) 2 ([y5, y6] : List Int), .box b3 [.int .i64 p1.table, .int .u16 p1.id], .box b2 [.int .i64 p0.table, .int .u16 p0.id]]) (ob := []) (by kernel_rfl) (trivial) fun a w hS => ?_
  refine wl_end ?_
  refine hK4 _ _ ?_
  refine k_ret (by kernel_rfl) ?_
  obtain rfl := someI h
  try simp only [Exit.then, Exit.inBlock]
  refine r_ret hS [.tmp 4] [] (xs := [.int .i64 y8]) (ps := []) [] [] rfl (by kernel_rfl) (fun hA => trivial) rfl (fun F up => trivial) ?_
  exact ⟨rfl, rfl, rfl⟩

/-! bursary row.CheckList -/
def row_CheckList_j1 (n : Nat) (v11 : Int) (k_row_CheckList_l1 : (Int → Option Int)) (v23 : Bool) : Option Int :=
  cond v23
    (some 151)
    (k_row_CheckList_l1 (IntKind.wrap .i64 (v11 + 1)))
def row_CheckList_l1 (n : Nat) (p0 : Schema) (p1 : (List Row)) : Nat → Int → Option Int
  | 0, _ => none
  | m12 + 1, v11 =>
    cond (decide (v11 < (p1.length : Int)))
      ((idx p1 v11).bind fun x19 =>
      (row_CheckRow n p0 x19).bind fun y26 =>
      cond (y26 != 0)
        (row_CheckList_j1 n v11 (row_CheckList_l1 n p0 p1 m12) true)
        (cond (decide (v11 > 0))
          ((idx p1 (IntKind.wrap .i64 (v11 - 1))).bind fun x29 =>
          (row_Compare n x29.key x19.key).bind fun y30 =>
          row_CheckList_j1 n v11 (row_CheckList_l1 n p0 p1 m12) (decide (y30 ≥ 0)))
          (row_CheckList_j1 n v11 (row_CheckList_l1 n p0 p1 m12) false)))
      ((row_all n ([(row_rule.mk (decide ((p1.length : Int) ≤ 60)) 151)] : List row_rule)).bind fun y33 =>
      some y33)
def row_CheckList (n : Nat) (p0 : Schema) (p1 : (List Row)) : Option Int :=
  (row_Check n p0).bind fun y5 =>
  cond (y5 != 0)
    (some y5)
    (row_CheckList_l1 n p0 p1 n 0)
theorem row_CheckList_ok {a0_tables : Option Addr} {c0_tables : Nat} {a1 : Option Addr} {c1 : Nat} (n : Nat) (p0 : Schema) (p1 : (List Row)) (r : Int)  (h : row_CheckList n p0 p1 = some r) :
    Meets Try.prog 13 #[Value.agg #[.slice a0_tables p0.tables.length c0_tables], .slice a1 p1.length c1] [] [RSf flat_Bounds a0_tables c0_tables p0.tables, RSf flat_Row a1 c1 p1] fun v A P => v = .int .i64 r ∧ A = [] ∧ P = [] := by
  unfold row_CheckList at h
  refine meets_enter 47 Try.func13 Try.call13 rfl (by kernel_rfl) (by simp) fun C a w hS => ?_
  refine k_seq (by kernel_rfl) fun K1 hK1 => ?_
  refine k_reg 2 (by kernel_rfl) ?_
  refine r_run1 0 2 [1, 2] [] hS rfl (L' := fun b2 => [(1, .slice a1 p1.length c1), (2, .pointer (some ⟨b2, 0, none⟩))]) (As' := fun b2 => [.box b2 [.slice a0_tables p0.tables.length c0_tables]]) (ob := fun b2 => []) (fun b2 => by kernel_rfl) (fun b2 => trivial) fun b2 a w hS => ?_
  refine wl_end ?_
  refine hK1 _ _ ?_
  refine k_seq (by kernel_rfl) fun K3 hK3 => ?_
  refine k_seq (by kernel_rfl) fun K4 hK4 => ?_
  refine k_reg 3 (by kernel_rfl) ?_
  refine r_run 0 1 [1, 2, 8] [.own 0 0] hS rfl (L' := [(1, .slice a1 p1.length c1), (2, .pointer (some ⟨b2, 0, none⟩)), (8, Value.agg #[.slice a0_tables p0.tables.length c0_tables])]) (As' := [.box b2 [.slice a0_tables p0.tables.length c0_tables]]) (ob := [fun _ => (⟨b2, 0, none⟩ : Addr) = (⟨b2, 0, none⟩ : Addr).add 0]) (by kernel_rfl) (⟨Bx.c rfl, trivial⟩) fun a w hS => ?_
  obtain ⟨y5, hy5, h⟩ := bindS h
  refine r_call 1 rfl (d := some 9) (g := 11) (args := #[Value.agg #[.slice a0_tables p0.tables.length c0_tables]]) [] hS (by kernel_rfl) rfl (row_Check_ok n p0 y5 hy5) (fun F up => ⟨up (hS.p 0 rfl), trivial⟩) ?_
  rintro v A P a w ⟨rfl, rfl, rfl⟩ hS
  refine r_run 2 1 [1, 2, 5] [] hS rfl (L' := [(1, .slice a1 p1.length c1), (2, .pointer (some ⟨b2, 0, none⟩)), (5, .int .i64 y5)]) (As' := [.box b2 [.slice a0_tables p0.tables.length c0_tables]]) (ob := []) (by kernel_rfl) (trivial) fun a w hS => ?_
  refine wl_end ?_
  refine hK4 _ _ ?_
  refine k_seq (by kernel_rfl) fun K6 hK6 => ?_
  refine k_reg 2 (by kernel_rfl) ?_
  refine r_run 0 2 [1, 2, 5, 11] [] hS rfl (L' := [(1, .slice a1 p1.length c1), (2, .pointer (some ⟨b2, 0, none⟩)), (5, .int .i64 y5), (11, .bool (y5 != 0))]) (As' := [.box b2 [.slice a0_tables p0.tables.length c0_tables]]) (ob := []) (by kernel_rfl) (trivial) fun a w hS => ?_
  refine wl_end ?_
  refine hK6 _ _ ?_
  refine k_cond (y5 != 0) hS.has (by kernel_rfl) (by kernel_rfl) (by kernel_rfl) (fun hb7 => ?_) (fun hb7 => ?_)
  · replace h := ctrue hb7 h
    refine k_seq (by kernel_rfl) fun K8 hK8 => ?_
    refine k_reg 2 (by kernel_rfl) ?_
    refine r_run 0 2 [4] [] hS rfl (L' := [(4, .int .i64 y5)]) (As' := [.box b2 [.slice a0_tables p0.tables.length c0_tables]]) (ob := []) (by kernel_rfl) (trivial) fun a w hS => ?_
    refine wl_end ?_
    refine hK8 _ _ ?_
    refine k_ret (by kernel_rfl) ?_
    obtain rfl := someI h
    try simp only [Exit.then, Exit.inBlock]
    refine r_ret hS [.tmp 4] [] (xs := [.int .i64 y5]) (ps := []) [] [] rfl (by kernel_rfl) (fun hA => trivial) rfl (fun F up => trivial) ?_
    exact ⟨rfl, rfl, rfl⟩
  · replace h := cfalse hb7 h
    refine k_skip (by kernel_rfl) ?_
    refine hK3 _ _ ?_
    refine k_seq (by kernel_rfl) fun K9 hK9 => ?_
    refine k_seq (by kernel_rfl) fun K10 hK10 => ?_
    refine k_reg 3 (by kernel_rfl) ?_
    refine r_run 0 3 [1, 2, 13, 14, 15] [] hS rfl (L' := [(1, .slice a1 p1.length c1), (2, .pointer (some ⟨b2, 0, none⟩)), (13, .slice a1 p1.length c1), (14, .int .i64 (p1.length : Int)), (15, .int .i64 0)]) (As' := [.box b2 [.slice a0_tables p0.tables.length c0_tables]]) (ob := []) (by kernel_rfl) (trivial) fun a w hS => ?_
    refine wl_end ?_
    refine hK10 _ _ ?_
    refine k_blk (by kernel_rfl) ?_
    refine k_loop (by kernel_rfl) (fun m12 a w => ∃ (v11 : Int), row_CheckList_l1 n p0 p1 m12 v11 = some r ∧ Sy C 47 a w [(1, .slice a1 p1.length c1), (2, .pointer (some ⟨b2, 0, none⟩)), (13, .slice a1 p1.length c1), (14, .int .i64 (p1.length : Int)), (15, .int .i64 v11)] [.box b2 [.slice a0_tables p0.tables.length c0_tables]] [RSf flat_Bounds a0_tables c0_tables p0.tables, RSf flat_Row a1 c1 p1]) n ⟨0, h, (hS.got [1, 2, 13, 14, 15] [0] [] 0 (by kernel_rfl) (by kernel_rfl) (by kernel_rfl))⟩ ?_
    rintro m12 a w ⟨v11, h, hS⟩ K13 hK13
    cases m12 with
    | zero => exact (noneS h).elim
    | succ m12 =>
      unfold row_CheckList_l1 at h
      refine k_seq (by kernel_rfl) fun K14 hK14 => ?_
      refine k_reg 1 (by kernel_rfl) ?_
      refine r_run 0 1 [1, 2, 13, 14, 15, 16] [] hS rfl (L' := [(1, .slice a1 p1.length c1), (2, .pointer (some ⟨b2, 0, none⟩)), (13, .slice a1 p1.length c1), (14, .int .i64 (p1.length : Int)), (15, .int .i64 v11), (16, .bool (decide (v11 < (p1.length : Int))))]) (As' := [.box b2 [.slice a0_tables p0.tables.length c0_tables]]) (ob := []) (by kernel_rfl) (trivial) fun a w hS => ?_
      refine wl_end ?_
      refine hK14 _ _ ?_
      refine k_seq (by kernel_rfl) fun K15 hK15 => ?_
      refine k_cond (decide (v11 < (p1.length : Int))) hS.has (by kernel_rfl) (by kernel_rfl) (by kernel_rfl) (fun hb16 => ?_) (fun hb16 => ?_)
      · replace h := ctrue hb16 h
        refine k_skip (by kernel_rfl) ?_
        refine hK15 _ _ ?_
        refine k_seq (by kernel_rfl) fun K17 hK17 => ?_
        refine k_blk (by kernel_rfl) ?_
        refine k_seq (by kernel_rfl) fun K18 hK18 => ?_
        refine k_reg 6 (by kernel_rfl) ?_
        obtain ⟨x19, hx19, h⟩ := bindS h
        have ix19 := fidxB (F := flat_Row) (hS.p 1 rfl) hx19
        refine r_run1 0 6 [1, 2, 6, 7, 13, 14, 15] [.ext [.int .i64 x19.key.table, .int .u16 x19.key.id, .int .i64 x19.val, .string x19.note], .own 0 0] hS rfl (L' := fun b20 => [(1, .slice a1 p1.length c1), (2, .pointer (some ⟨b2, 0, none⟩)), (6, .int .i64 v11), (7, .pointer (some ⟨b20, 0, none⟩)), (13, .slice a1 p1.length c1), (14, .int .i64 (p1.length : Int)), (15, .int .i64 v11)]) (As' := fun b20 => [.box b20 [.int .i64 x19.key.table, .int .u16 x19.key.id, .int .i64 x19.val, .string x19.note], .box b2 [.slice a0_tables p0.tables.length c0_tables]]) (ob := fun b20 => [fun _ => Inb a1 p1.length v11, Cel (Addr.add (baseOf a1) (Int.toNat v11 * 4)) [.int .i64 x19.key.table, .int .u16 x19.key.id, .int .i64 x19.val, .string x19.note], fun _ => (⟨b20, 0, none⟩ : Addr) = (⟨b20, 0, none⟩ : Addr).add 0, fun _ => ∀ u ∈ ([.int .i64 x19.key.table, .int .u16 x19.key.id, .int .i64 x19.val, .string x19.note] : List Value), u.oneCell' = true]) (fun b20 => by kernel_rfl) (fun b20 => ⟨Bx.c ix19.1, ix19.2, Bx.c rfl, Bx.c (oneAll rfl), trivial⟩) fun b20 a w hS => ?_
        refine wl_end ?_
        refine hK18 _ _ ?_
        refine k_seq (by kernel_rfl) fun K21 hK21 => ?_
        refine c_name fun K22 hK22 => ?_
        have JK22 : ∀ (v23 : Bool) a w, Sy C 47 a w [(1, .slice a1 p1.length c1), (2, .pointer (some ⟨b2, 0, none⟩)), (13, .slice a1 p1.length c1), (14, .int .i64 (p1.length : Int)), (15, .int .i64 v11), (39, .bool v23)] [.box b20 [.int .i64 x19.key.table, .int .u16 x19.key.id, .int .i64 x19.val, .string x19.note], .box b2 [.slice a0_tables p0.tables.length c0_tables]] [RSf flat_Bounds a0_tables c0_tables p0.tables, RSf flat_Row a1 c1 p1] → row_CheckList_j1 n v11 (row_CheckList_l1 n p0 p1 m12) v23 = some r → K22 a w := by
          intro v23 a w hS h
          unfold row_CheckList_j1 at h
          refine hK22 _ _ ?_
          refine hK21 _ _ ?_
          refine k_cond v23 hS.has (by kernel_rfl) (by kernel_rfl) (by kernel_rfl) (fun hb24 => ?_) (fun hb24 => ?_)
          · replace h := ctrue hb24 h
            refine k_seq (by kernel_rfl) fun K25 hK25 => ?_
            refine k_reg 1 (by kernel_rfl) ?_
            refine r_run 0 1 [4] [] hS rfl (L' := [(4, .int .i64 151)]) (As' := [.box b20 [.int .i64 x19.key.table, .int .u16 x19.key.id, .int .i64 x19.val, .string x19.note], .box b2 [.slice a0_tables p0.tables.length c0_tables]]) (ob := []) (by kernel_rfl) (trivial) fun a w hS => ?_
            refine wl_end ?_
            refine hK25 _ _ ?_
            refine k_ret (by kernel_rfl) ?_
            obtain rfl := someI h
            try simp only [Exit.then, Exit.inBlock]
            refine r_ret hS [.tmp 4] [] (xs := [.int .i64 151]) (ps := []) [] [] rfl (by kernel_rfl) (fun hA => trivial) rfl (fun F up => trivial) ?_
            exact ⟨rfl, rfl, rfl⟩
          · replace h := cfalse hb24 h
            refine k_skip (by kernel_rfl) ?_
            refine hK17 _ _ ?_
            refine k_reg 2 (by kernel_rfl) ?_
            refine r_run 0 2 [1, 2, 13, 14, 15] [] hS rfl (L' := [(1, .slice a1 p1.length c1), (2, .pointer (some ⟨b2, 0, none⟩)), (13, .slice a1 p1.length c1), (14, .int .i64 (p1.length : Int)), (15, .int .i64 (IntKind.wrap .i64 (v11 + 1)))]) (As' := [.box b20 [.int .i64 x19.key.table, .int .u16 x19.key.id, .int .i64 x19.val, .string x19.note], .box b2 [.slice a0_tables p0.tables.length c0_tables]]) (ob := []) (by kernel_rfl) (trivial) fun a w hS => ?_
            refine wl_end ?_
            exact hK13 m12 _ _ (Nat.lt_succ_self _) ⟨(IntKind.wrap .i64 (v11 + 1)), h, (hS.got [1, 2, 13, 14, 15] [1] [] 0 (by kernel_rfl) (by kernel_rfl) (by kernel_rfl))⟩
        obtain ⟨y26, hy26, h⟩ := bindS h
        cases hb27 : (y26 != 0)
        · replace h := cfalse hb27 h
          cases hb28 : (decide (v11 > 0))
          · replace h := cfalse hb28 h
            refine k_draw 16 20 [.val (Value.agg #[.slice a0_tables p0.tables.length c0_tables]), .val (Value.agg #[.int .i64 x19.key.table, .int .u16 x19.key.id, .int .i64 x19.val, .string x19.note]), .val (.int .i64 y26), .val (.bool (y26 != 0)), .val (.bool false), .val (.int .i64 v11), .val (.bool (decide (v11 > 0))), .val (.bool false), .val (undef), .val (undef), .val (undef), .val (undef), .val (undef), .val (undef), .val (undef), .val (undef)] [] [(0, [.own 1 0]), (1, [.own 0 0]), (3, []), (4, [.as 24 (.bool false)]), (5, []), (6, []), (7, [.as 27 (.bool false)]), (8, []), (9, []), (10, []), (11, []), (12, []), (13, []), (14, []), (15, [])] [2] (ob := [fun _ => (⟨b2, 0, none⟩ : Addr) = (⟨b2, 0, none⟩ : Addr).add 0, fun _ => (⟨b20, 0, none⟩ : Addr) = (⟨b20, 0, none⟩ : Addr).add 0, fun _ => Value.bool (y26 != 0) = .bool false, fun _ => Value.bool (decide (v11 > 0)) = .bool false]) (by kernel_rfl) (by kernel_rfl) hS (by kernel_rfl) (fun F N0 => by kernel_rfl) (by kernel_rfl) (by kernel_rfl) (by kernel_rfl) (by kernel_rfl) ⟨Bx.c rfl, Bx.c rfl, Bx.c (by rw [hb27]), Bx.c (by rw [hb28]), trivial⟩ ?_ ?_
            · refine ⟨?_, trivial⟩
              · intro V a w e hS hq
                exact d_callV (d := 22) [] hS (args := #[Value.agg #[.slice a0_tables p0.tables.length c0_tables], Value.agg #[.int .i64 x19.key.table, .int .u16 x19.key.id, .int .i64 x19.val, .string x19.note]]) (by kernel_rfl) rfl (row_CheckRow_ok n p0 x19 y26 hy26) (fun F up le => ⟨up (hS.p 0 rfl), trivial⟩) (by rintro v A P ⟨rfl, rfl, rfl⟩; first | rfl | rw [hb27] | rw [hb28])
            intro V a w e hS hq
            refine r_run 16 4 [1, 2, 13, 14, 15, 39] [] hS rfl (L' := [(1, .slice a1 p1.length c1), (2, .pointer (some ⟨b2, 0, none⟩)), (13, .slice a1 p1.length c1), (14, .int .i64 (p1.length : Int)), (15, .int .i64 v11), (39, .bool false)]) (As' := [.box b20 [.int .i64 x19.key.table, .int .u16 x19.key.id, .int .i64 x19.val, .string x19.note], .box b2 [.slice a0_tables p0.tables.length c0_tables]]) (ob := []) (by kernel_rfl) (trivial) fun a w hS => ?_
            refine wl_end ?_
            exact JK22 false _ _ (hS.got [1, 2, 13, 14, 15, 39] [0, 0] [] 0 (by kernel_rfl) (by kernel_rfl) (by kernel_rfl)) h
          · replace h := ctrue hb28 h
            obtain ⟨x29, hx29, h⟩ := bindS h
            have ix29 := fidxB (F := flat_Row) (hS.p 1 rfl) hx29
            refine k_draw 16 20 [.val (Value.agg #[.slice a0_tables p0.tables.length c0_tables]), .val (Value.agg #[.int .i64 x19.key.table, .int .u16 x19.key.id, .int .i64 x19.val, .string x19.note]), .val (.int .i64 y26), .val (.bool (y26 != 0)), .val (.bool false), .val (.int .i64 v11), .val (.bool (decide (v11 > 0))), .val (.bool true), .val (.slice a1 p1.length c1), .val (.int .i64 v11), .val (.int .i64 (IntKind.wrap .i64 (v11 - 1))), .val (.pointer (some (Addr.add (baseOf a1) (Int.toNat (IntKind.wrap .i64 (v11 - 1)) * 4)))), .val (.pointer (some (Addr.add (Addr.add (baseOf a1) (Int.toNat (IntKind.wrap .i64 (v11 - 1)) * 4)) 0))), .val (Value.agg #[.int .i64 x29.key.table, .int .u16 x29.key.id]), .val (.pointer (some ⟨b20, 0, none⟩)), .val (Value.agg #[.int .i64 x19.key.table, .int .u16 x19.key.id])] [] [(0, [.own 1 0]), (1, [.own 0 0]), (3, []), (4, [.as 24 (.bool false)]), (5, []), (6, []), (7, [.as 27 (.bool true)]), (8, []), (9, []), (10, []), (11, []), (12, []), (13, [.ext [.int .i64 x29.key.table, .int .u16 x29.key.id]]), (14, []), (15, [.own 0 0])] [2] (ob := [fun _ => (⟨b2, 0, none⟩ : Addr) = (⟨b2, 0, none⟩ : Addr).add 0, fun _ => (⟨b20, 0, none⟩ : Addr) = (⟨b20, 0, none⟩ : Addr).add 0, fun _ => Value.bool (y26 != 0) = .bool false, fun _ => Value.bool (decide (v11 > 0)) = .bool true, fun _ => Inb a1 p1.length (IntKind.wrap .i64 (v11 - 1)), Cel (Addr.add (Addr.add (baseOf a1) (Int.toNat (IntKind.wrap .i64 (v11 - 1)) * 4)) 0) [.int .i64 x29.key.table, .int .u16 x29.key.id], fun _ => (⟨b20, 0, none⟩ : Addr) = (⟨b20, 0, none⟩ : Addr).add 0]) (by kernel_rfl) (by kernel_rfl) hS (by kernel_rfl) (fun F N0 => by kernel_rfl) (by kernel_rfl) (by kernel_rfl) (by kernel_rfl) (by kernel_rfl) ⟨Bx.c rfl, Bx.c rfl, Bx.c (by rw [hb27]), Bx.c (by rw [hb28]), Bx.c ix29.1, (Bx.sub ix29.2 0 2), Bx.c rfl, trivial⟩ ?_ ?_
            · refine ⟨?_, trivial⟩
              · intro V a w e hS hq
                exact d_callV (d := 22) [] hS (args := #[Value.agg #[.slice a0_tables p0.tables.length c0_tables], Value.agg #[.int .i64 x19.key.table, .int .u16 x19.key.id, .int .i64 x19.val, .string x19.note]]) (by kernel_rfl) rfl (row_CheckRow_ok n p0 x19 y26 hy26) (fun F up le => ⟨up (hS.p 0 rfl), trivial⟩) (by rintro v A P ⟨rfl, rfl, rfl⟩; first | rfl | rw [hb27] | rw [hb28])
            intro V a w e hS hq
            obtain ⟨y30, hy30, h⟩ := bindS h
            refine r_call 16 rfl (d := some 36) (g := 19) (args := #[Value.agg #[.int .i64 x29.key.table, .int .u16 x29.key.id], Value.agg #[.int .i64 x19.key.table, .int .u16 x19.key.id]]) [] hS (by kernel_rfl) rfl (row_Compare_ok n x29.key x19.key y30 hy30) (fun F up => trivial) ?_
            rintro v A P a w ⟨rfl, rfl, rfl⟩ hS
            refine r_run 17 3 [1, 2, 13, 14, 15, 39] [] hS rfl (L' := [(1, .slice a1 p1.length c1), (2, .pointer (some ⟨b2, 0, none⟩)), (13, .slice a1 p1.length c1), (14, .int .i64 (p1.length : Int)), (15, .int .i64 v11), (39, .bool (decide (y30 ≥ 0)))]) (As' := [.box b20 [.int .i64 x19.key.table, .int .u16 x19.key.id, .int .i64 x19.val, .string x19.note], .box b2 [.slice a0_tables p0.tables.length c0_tables]]) (ob := []) (by kernel_rfl) (trivial) fun a w hS => ?_
            refine wl_end ?_
            exact JK22 (decide (y30 ≥ 0)) _ _ (hS.got [1, 2, 13, 14, 15, 39] [0, 0] [] 0 (by kernel_rfl) (by kernel_rfl) (by kernel_rfl)) h
        · replace h := ctrue hb27 h
          refine k_draw 16 20 [.val (Value.agg #[.slice a0_tables p0.tables.length c0_tables]), .val (Value.agg #[.int .i64 x19.key.table, .int .u16 x19.key.id, .int .i64 x19.val, .string x19.note]), .val (.int .i64 y26), .val (.bool (y26 != 0)), .val (.bool true), .val (undef), .val (undef), .val (undef), .val (undef), .val (undef), .val (undef), .val (undef), .val (undef), .val (undef), .val (undef), .val (undef)] [] [(0, [.own 1 0]), (1, [.own 0 0]), (3, []), (4, [.as 24 (.bool true)]), (5, []), (6, []), (7, []), (8, []), (9, []), (10, []), (11, []), (12, []), (13, []), (14, []), (15, [])] [2] (ob := [fun _ => (⟨b2, 0, none⟩ : Addr) = (⟨b2, 0, none⟩ : Addr).add 0, fun _ => (⟨b20, 0, none⟩ : Addr) = (⟨b20, 0, none⟩ : Addr).add 0, fun _ => Value.bool (y26 != 0) = .bool true]) (by kernel_rfl) (by kernel_rfl) hS (by kernel_rfl) (fun F N0 => by kernel_rfl) (by kernel_rfl) (by kernel_rfl) (by kernel_rfl) (by kernel_rfl) ⟨Bx.c rfl, Bx.c rfl, Bx.c (by rw [hb27]), trivial⟩ ?_ ?_
          · refine ⟨?_, trivial⟩
            · intro V a w e hS hq
              exact d_callV (d := 22) [] hS (args := #[Value.agg #[.slice a0_tables p0.tables.length c0_tables], Value.agg #[.int .i64 x19.key.table, .int .u16 x19.key.id, .int .i64 x19.val, .string x19.note]]) (by kernel_rfl) rfl (row_CheckRow_ok n p0 x19 y26 hy26) (fun F up le => ⟨up (hS.p 0 rfl), trivial⟩) (by rintro v A P ⟨rfl, rfl, rfl⟩; first | rfl | rw [hb27])
          intro V a w e hS hq
          refine r_run 16 4 [1, 2, 13, 14, 15, 39] [] hS rfl (L' := [(1, .slice a1 p1.length c1), (2, .pointer (some ⟨b2, 0, none⟩)), (13, .slice a1 p1.length c1), (14, .int .i64 (p1.length : Int)), (15, .int .i64 v11), (39, .bool true)]) (As' := [.box b20 [.int .i64 x19.key.table, .int .u16 x19.key.id, .int .i64 x19.val, .string x19.note], .box b2 [.slice a0_tables p0.tables.length c0_tables]]) (ob := []) (by kernel_rfl) (trivial) fun a w hS => ?_
          refine wl_end ?_
          exact JK22 true _ _ (hS.got [1, 2, 13, 14, 15, 39] [0, 0] [] 0 (by kernel_rfl) (by kernel_rfl) (by kernel_rfl)) h
      · replace h := cfalse hb16 h
        refine k_exit 0 (by kernel_rfl) ?_
        refine hK9 _ _ ?_
        refine k_seq (by kernel_rfl) fun K31 hK31 => ?_
        refine k_reg 7 (by kernel_rfl) ?_
        refine r_run1 0 5 [45] [] hS rfl (L' := fun b32 => [(45, .slice (some ⟨b32, 0, none⟩) ([(row_rule.mk (decide ((p1.length : Int) ≤ 60)) 151)] : List row_rule).length 1)]) (As' := fun b32 => [rowF flat_row_rule 66 (some ⟨b32, 0, none⟩) 1 ([(row_rule.mk (decide ((p1.length : Int) ≤ 60)) 151)] : List row_rule), .box b2 [.slice a0_tables p0.tables.length c0_tables]]) (ob := fun b32 => []) (fun b32 => by kernel_rfl) (fun b32 => trivial) fun b32 a w hS => ?_
        obtain ⟨y33, hy33, h⟩ := bindS h
        refine r_callX 5 rfl (d := some 46) (g := 36) (args := #[.slice (some ⟨b32, 0, none⟩) ([(row_rule.mk (decide ((p1.length : Int) ≤ 60)) 151)] : List row_rule).length 1]) [] [0] hS (by kernel_rfl) rfl rfl (row_all_ok n ([(row_rule.mk (decide ((p1.length : Int) ≤ 60)) 151)] : List row_rule) y33 hy33) (fun F up le => ⟨le 0 rfl _ (fun w h => rowRS h), trivial⟩) ?_
        rintro v A P a w ⟨rfl, rfl, rfl⟩ hS
        refine r_run 6 1 [4] [] hS rfl (L' := [(4, .int .i64 y33)]) (As' := [rowF flat_row_rule 66 (some ⟨b32, 0, none⟩) 1 ([(row_rule.mk (decide ((p1.length : Int) ≤ 60)) 151)] : List row_rule), .box b2 [.slice a0_tables p0.tables.length c0_tables]]) (ob := []) (by kernel_rfl) (trivial) fun a w hS => ?_
        refine wl_end ?_
        refine hK31 _ _ ?_
        refine k_ret (by kernel_rfl) ?_
        obtain rfl := someI h
        try simp only [Exit.then, Exit.inBlock]
        refine r_ret hS [.tmp 4] [] (xs := [.int .i64 y33]) (ps := []) [] [] rfl (by kernel_rfl) (fun hA => trivial) rfl (fun F up => trivial) ?_
        exact ⟨rfl, rfl, rfl⟩

end Go.Proofs.Ytlflbhhajnoelaa
