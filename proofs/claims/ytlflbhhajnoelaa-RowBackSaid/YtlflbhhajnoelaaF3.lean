/- Functions of the program: plain twins and walks, printed by program. -/
import Derived.Test.YtlflbhhajnoelaaTypes
import Derived.Test.YtlflbhhajnoelaaF2
namespace Go.Proofs.Ytlflbhhajnoelaa
open Go.Bur Go.RowKit
set_option linter.unusedVariables false
set_option linter.unusedSimpArgs false
set_option maxRecDepth 100000
/-! bursary bursarylaw05.RowOrder -/
def law05_RowOrder_j1 (n : Nat) (v42 : Int) (k_law05_RowOrder_l3 : (Int → Option Bool)) (v57 : Bool) : Option Bool :=
  cond v57
    (some false)
    (k_law05_RowOrder_l3 (IntKind.wrap .i64 (v42 + 1)))
def law05_RowOrder_j2 (n : Nat) (x22 : Key) (v42 : Int) (x50 : Key) (k_law05_RowOrder_l3 : (Int → Option Bool)) (v55 : Bool) : Option Bool :=
  cond v55
    ((row_Compare n x22 x50).bind fun y61 =>
    law05_RowOrder_j1 n v42 (k_law05_RowOrder_l3) (decide (y61 > 0)))
    (law05_RowOrder_j1 n v42 (k_law05_RowOrder_l3) false)
def law05_RowOrder_l3 (n : Nat) (l10 : (List Key)) (x22 : Key) (v25 : Int) (x33 : Key) (k_law05_RowOrder_l2 : (Int → Option Bool)) : Nat → Int → Option Bool
  | 0, _ => none
  | m43 + 1, v42 =>
    cond (decide (v42 < (l10.length : Int)))
      ((idx l10 v42).bind fun x50 =>
      (row_Compare n x22 x33).bind fun y53 =>
      cond (decide (y53 ≤ 0))
        ((row_Compare n x33 x50).bind fun y63 =>
        law05_RowOrder_j2 n x22 v42 x50 (law05_RowOrder_l3 n l10 x22 v25 x33 k_law05_RowOrder_l2 m43) (decide (y63 ≤ 0)))
        (law05_RowOrder_j2 n x22 v42 x50 (law05_RowOrder_l3 n l10 x22 v25 x33 k_law05_RowOrder_l2 m43) false))
      (k_law05_RowOrder_l2 (IntKind.wrap .i64 (v25 + 1)))
def law05_RowOrder_j3 (n : Nat) (l10 : (List Key)) (x22 : Key) (v25 : Int) (x33 : Key) (k_law05_RowOrder_l2 : (Int → Option Bool)) (v38 : Bool) : Option Bool :=
  cond v38
    (some false)
    (law05_RowOrder_l3 n l10 x22 v25 x33 (k_law05_RowOrder_l2) n 0)
def law05_RowOrder_l2 (n : Nat) (l10 : (List Key)) (v14 : Int) (x22 : Key) (k_law05_RowOrder_l1 : (Int → Option Bool)) : Nat → Int → Option Bool
  | 0, _ => none
  | m26 + 1, v25 =>
    cond (decide (v25 < (l10.length : Int)))
      ((idx l10 v25).bind fun x33 =>
      (row_Compare n x22 x33).bind fun y64 =>
      (row_Compare n x33 x22).bind fun y65 =>
      cond (y64 != (IntKind.wrap .i64 (0 - y65)))
        (law05_RowOrder_j3 n l10 x22 v25 x33 (law05_RowOrder_l2 n l10 v14 x22 k_law05_RowOrder_l1 m26) true)
        ((row_Compare n x22 x33).bind fun y67 =>
        law05_RowOrder_j3 n l10 x22 v25 x33 (law05_RowOrder_l2 n l10 v14 x22 k_law05_RowOrder_l1 m26) (!((y67 == 0) == (Key.eqb x22 x33)))))
      (k_law05_RowOrder_l1 (IntKind.wrap .i64 (v14 + 1)))
def law05_RowOrder_l1 (n : Nat) (l10 : (List Key)) : Nat → Int → Option Bool
  | 0, _ => none
  | m15 + 1, v14 =>
    cond (decide (v14 < (l10.length : Int)))
      ((idx l10 v14).bind fun x22 =>
      law05_RowOrder_l2 n l10 v14 x22 (law05_RowOrder_l1 n l10 m15) n 0)
      (some true)
def law05_RowOrder_j4 (n : Nat)  (l10 : (List Key)) : Option Bool :=
  law05_RowOrder_l1 n l10 n 0
def law05_RowOrder (n : Nat) (p0 : (List Key)) : Option Bool :=
  (law05_wakes n).bind fun y4 =>
  cond (!y4)
    (some false)
    (cond (decide ((p0.length : Int) > 12))
      ((sub p0 0 12).bind fun l71 =>
      law05_RowOrder_j4 n l71)
      (law05_RowOrder_j4 n p0))
theorem law05_RowOrder_ok {a0 : Option Addr} {c0 : Nat} (n : Nat) (p0 : (List Key)) (r : Bool)  (h : law05_RowOrder n p0 = some r) :
    Meets Try.prog 4 #[.slice a0 p0.length c0] [] [RSf flat_Key a0 c0 p0] fun v A P => v = .bool r ∧ A = [] ∧ P = [] := by
  unfold law05_RowOrder at h
  refine meets_enter 71 Try.func4 Try.call4 rfl (by kernel_rfl) (by simp) fun C a w hS => ?_
  refine k_seq (by kernel_rfl) fun K1 hK1 => ?_
  refine k_reg 1 (by kernel_rfl) ?_
  refine r_run 0 1 [0] [] hS rfl (L' := [(0, .slice a0 p0.length c0)]) (As' := []) (ob := []) (by kernel_rfl) (trivial) fun a w hS => ?_
  refine wl_end ?_
  refine hK1 _ _ ?_
  refine k_seq (by kernel_rfl) fun K2 hK2 => ?_
  refine k_seq (by kernel_rfl) fun K3 hK3 => ?_
  refine k_reg 2 (by kernel_rfl) ?_
  obtain ⟨y4, hy4, h⟩ := bindS h
  refine r_call 0 rfl (d := some 9) (g := 9) (args := #[]) [] hS (by kernel_rfl) rfl (law05_wakes_ok n y4 hy4) (fun F up => trivial) ?_
  rintro v A P a w ⟨rfl, rfl, rfl⟩ hS
  refine r_run 1 1 [0, 10] [] hS rfl (L' := [(0, .slice a0 p0.length c0), (10, .bool (!y4))]) (As' := []) (ob := []) (by kernel_rfl) (trivial) fun a w hS => ?_
  refine wl_end ?_
  refine hK3 _ _ ?_
  refine k_cond (!y4) hS.has (by kernel_rfl) (by kernel_rfl) (by kernel_rfl) (fun hb5 => ?_) (fun hb5 => ?_)
  · replace h := ctrue hb5 h
    refine k_seq (by kernel_rfl) fun K6 hK6 => ?_
    refine k_reg 1 (by kernel_rfl) ?_
    refine r_run 0 1 [2] [] hS rfl (L' := [(2, .bool false)]) (As' := []) (ob := []) (by kernel_rfl) (trivial) fun a w hS => ?_
    refine wl_end ?_
    refine hK6 _ _ ?_
    refine k_ret (by kernel_rfl) ?_
    obtain rfl := someI h
    try simp only [Exit.then, Exit.inBlock]
    refine r_ret hS [.tmp 2] [] (xs := [.bool false]) (ps := []) [] [] rfl (by kernel_rfl) (fun hA => trivial) rfl (fun F up => trivial) ?_
    exact ⟨rfl, rfl, rfl⟩
  · replace h := cfalse hb5 h
    refine k_skip (by kernel_rfl) ?_
    refine hK2 _ _ ?_
    refine k_seq (by kernel_rfl) fun K7 hK7 => ?_
    have JK7 : ∀ (a8 : Option Addr) (c9 : Nat) (l10 : (List Key)) a w, Sy C 71 a w [(0, .slice a8 l10.length c9)] [] [RSf flat_Key a8 c9 l10, RSf flat_Key a0 c0 p0] → law05_RowOrder_j4 n l10 = some r → K7 a w := by
      intro a8 c9 l10 a w hS h
      unfold law05_RowOrder_j4 at h
      refine hK7 _ _ ?_
      refine k_seq (by kernel_rfl) fun K12 hK12 => ?_
      refine k_seq (by kernel_rfl) fun K13 hK13 => ?_
      refine k_reg 3 (by kernel_rfl) ?_
      refine r_run 0 3 [0, 16, 17, 18] [] hS rfl (L' := [(0, .slice a8 l10.length c9), (16, .slice a8 l10.length c9), (17, .int .i64 (l10.length : Int)), (18, .int .i64 0)]) (As' := []) (ob := []) (by kernel_rfl) (trivial) fun a w hS => ?_
      refine wl_end ?_
      refine hK13 _ _ ?_
      refine k_blk (by kernel_rfl) ?_
      refine k_loop (by kernel_rfl) (fun m15 a w => ∃ (v14 : Int), law05_RowOrder_l1 n l10 m15 v14 = some r ∧ Sy C 71 a w [(0, .slice a8 l10.length c9), (16, .slice a8 l10.length c9), (17, .int .i64 (l10.length : Int)), (18, .int .i64 v14)] [] [RSf flat_Key a8 c9 l10, RSf flat_Key a0 c0 p0]) n ⟨0, h, (hS.got [0, 16, 17, 18] [] [] 0 (by kernel_rfl) (by kernel_rfl) (by kernel_rfl))⟩ ?_
      rintro m15 a w ⟨v14, h, hS⟩ K16 hK16
      cases m15 with
      | zero => exact (noneS h).elim
      | succ m15 =>
        unfold law05_RowOrder_l1 at h
        refine k_seq (by kernel_rfl) fun K17 hK17 => ?_
        refine k_reg 1 (by kernel_rfl) ?_
        refine r_run 0 1 [0, 16, 17, 18, 19] [] hS rfl (L' := [(0, .slice a8 l10.length c9), (16, .slice a8 l10.length c9), (17, .int .i64 (l10.length : Int)), (18, .int .i64 v14), (19, .bool (decide (v14 < (l10.length : Int))))]) (As' := []) (ob := []) (by kernel_rfl) (trivial) fun a w hS => ?_
        refine wl_end ?_
        refine hK17 _ _ ?_
        refine k_seq (by kernel_rfl) fun K18 hK18 => ?_
        refine k_cond (decide (v14 < (l10.length : Int))) hS.has (by kernel_rfl) (by kernel_rfl) (by kernel_rfl) (fun hb19 => ?_) (fun hb19 => ?_)
        · replace h := ctrue hb19 h
          refine k_skip (by kernel_rfl) ?_
          refine hK18 _ _ ?_
          refine k_seq (by kernel_rfl) fun K20 hK20 => ?_
          refine k_blk (by kernel_rfl) ?_
          refine k_seq (by kernel_rfl) fun K21 hK21 => ?_
          refine k_reg 4 (by kernel_rfl) ?_
          obtain ⟨x22, hx22, h⟩ := bindS h
          have ix22 := fidxB (F := flat_Key) (hS.p 0 rfl) hx22
          refine r_run1 0 4 [0, 4, 16, 17, 18] [.ext [.int .i64 x22.table, .int .u16 x22.id], .own 0 0] hS rfl (L' := fun b23 => [(0, .slice a8 l10.length c9), (4, .pointer (some ⟨b23, 0, none⟩)), (16, .slice a8 l10.length c9), (17, .int .i64 (l10.length : Int)), (18, .int .i64 v14)]) (As' := fun b23 => [.box b23 [.int .i64 x22.table, .int .u16 x22.id]]) (ob := fun b23 => [fun _ => Inb a8 l10.length v14, Cel (Addr.add (baseOf a8) (Int.toNat v14 * 2)) [.int .i64 x22.table, .int .u16 x22.id], fun _ => (⟨b23, 0, none⟩ : Addr) = (⟨b23, 0, none⟩ : Addr).add 0, fun _ => ∀ u ∈ ([.int .i64 x22.table, .int .u16 x22.id] : List Value), u.oneCell' = true]) (fun b23 => by kernel_rfl) (fun b23 => ⟨Bx.c ix22.1, ix22.2, Bx.c rfl, Bx.c (oneAll rfl), trivial⟩) fun b23 a w hS => ?_
          refine wl_end ?_
          refine hK21 _ _ ?_
          refine k_seq (by kernel_rfl) fun K24 hK24 => ?_
          refine k_reg 3 (by kernel_rfl) ?_
          refine r_run 0 3 [0, 4, 16, 17, 18, 22, 23, 24] [] hS rfl (L' := [(0, .slice a8 l10.length c9), (4, .pointer (some ⟨b23, 0, none⟩)), (16, .slice a8 l10.length c9), (17, .int .i64 (l10.length : Int)), (18, .int .i64 v14), (22, .slice a8 l10.length c9), (23, .int .i64 (l10.length : Int)), (24, .int .i64 0)]) (As' := [.box b23 [.int .i64 x22.table, .int .u16 x22.id]]) (ob := []) (by kernel_rfl) (trivial) fun a w hS => ?_
          refine wl_end ?_
          refine hK24 _ _ ?_
          refine k_blk (by kernel_rfl) ?_
          refine k_loop (by kernel_rfl) (fun m26 a w => ∃ (v25 : Int), law05_RowOrder_l2 n l10 v14 x22 (law05_RowOrder_l1 n l10 m15) m26 v25 = some r ∧ Sy C 71 a w [(0, .slice a8 l10.length c9), (4, .pointer (some ⟨b23, 0, none⟩)), (16, .slice a8 l10.length c9), (17, .int .i64 (l10.length : Int)), (18, .int .i64 v14), (22, .slice a8 l10.length c9), (23, .int .i64 (l10.length : Int)), (24, .int .i64 v25)] [.box b23 [.int .i64 x22.table, .int .u16 x22.id]] [RSf flat_Key a8 c9 l10, RSf flat_Key a0 c0 p0]) n ⟨0, h, (hS.got [0, 4, 16, 17, 18, 22, 23, 24] [0] [] 0 (by kernel_rfl) (by kernel_rfl) (by kernel_rfl))⟩ ?_
          rintro m26 a w ⟨v25, h, hS⟩ K27 hK27
          cases m26 with
          | zero => exact (noneS h).elim
          | succ m26 =>
            unfold law05_RowOrder_l2 at h
            refine k_seq (by kernel_rfl) fun K28 hK28 => ?_
            refine k_reg 1 (by kernel_rfl) ?_
            refine r_run 0 1 [0, 4, 16, 17, 18, 22, 23, 24, 25] [] hS rfl (L' := [(0, .slice a8 l10.length c9), (4, .pointer (some ⟨b23, 0, none⟩)), (16, .slice a8 l10.length c9), (17, .int .i64 (l10.length : Int)), (18, .int .i64 v14), (22, .slice a8 l10.length c9), (23, .int .i64 (l10.length : Int)), (24, .int .i64 v25), (25, .bool (decide (v25 < (l10.length : Int))))]) (As' := [.box b23 [.int .i64 x22.table, .int .u16 x22.id]]) (ob := []) (by kernel_rfl) (trivial) fun a w hS => ?_
            refine wl_end ?_
            refine hK28 _ _ ?_
            refine k_seq (by kernel_rfl) fun K29 hK29 => ?_
            refine k_cond (decide (v25 < (l10.length : Int))) hS.has (by kernel_rfl) (by kernel_rfl) (by kernel_rfl) (fun hb30 => ?_) (fun hb30 => ?_)
            · replace h := ctrue hb30 h
              refine k_skip (by kernel_rfl) ?_
              refine hK29 _ _ ?_
              refine k_seq (by kernel_rfl) fun K31 hK31 => ?_
              refine k_blk (by kernel_rfl) ?_
              refine k_seq (by kernel_rfl) fun K32 hK32 => ?_
              refine k_reg 4 (by kernel_rfl) ?_
              obtain ⟨x33, hx33, h⟩ := bindS h
              have ix33 := fidxB (F := flat_Key) (hS.p 0 rfl) hx33
              refine r_run1 0 4 [0, 4, 6, 16, 17, 18, 22, 23, 24] [.ext [.int .i64 x33.table, .int .u16 x33.id], .own 0 0] hS rfl (L' := fun b34 => [(0, .slice a8 l10.length c9), (4, .pointer (some ⟨b23, 0, none⟩)), (6, .pointer (some ⟨b34, 0, none⟩)), (16, .slice a8 l10.length c9), (17, .int .i64 (l10.length : Int)), (18, .int .i64 v14), (22, .slice a8 l10.length c9), (23, .int .i64 (l10.length : Int)), (24, .int .i64 v25)]) (As' := fun b34 => [.box b34 [.int .i64 x33.table, .int .u16 x33.id], .box b23 [.int .i64 x22.table, .int .u16 x22.id]]) (ob := fun b34 => [fun _ => Inb a8 l10.length v25, Cel (Addr.add (baseOf a8) (Int.toNat v25 * 2)) [.int .i64 x33.table, .int .u16 x33.id], fun _ => (⟨b34, 0, none⟩ : Addr) = (⟨b34, 0, none⟩ : Addr).add 0, fun _ => ∀ u ∈ ([.int .i64 x33.table, .int .u16 x33.id] : List Value), u.oneCell' = true]) (fun b34 => by kernel_rfl) (fun b34 => ⟨Bx.c ix33.1, ix33.2, Bx.c rfl, Bx.c (oneAll rfl), trivial⟩) fun b34 a w hS => ?_
              refine wl_end ?_
              refine hK32 _ _ ?_
              refine k_seq (by kernel_rfl) fun K35 hK35 => ?_
              refine k_seq (by kernel_rfl) fun K36 hK36 => ?_
              refine c_name fun K37 hK37 => ?_
              have JK37 : ∀ (v38 : Bool) a w, Sy C 71 a w [(0, .slice a8 l10.length c9), (4, .pointer (some ⟨b23, 0, none⟩)), (6, .pointer (some ⟨b34, 0, none⟩)), (16, .slice a8 l10.length c9), (17, .int .i64 (l10.length : Int)), (18, .int .i64 v14), (22, .slice a8 l10.length c9), (23, .int .i64 (l10.length : Int)), (24, .int .i64 v25), (45, .bool v38)] [.box b34 [.int .i64 x33.table, .int .u16 x33.id], .box b23 [.int .i64 x22.table, .int .u16 x22.id]] [RSf flat_Key a8 c9 l10, RSf flat_Key a0 c0 p0] → law05_RowOrder_j3 n l10 x22 v25 x33 (law05_RowOrder_l2 n l10 v14 x22 (law05_RowOrder_l1 n l10 m15) m26) v38 = some r → K37 a w := by
                intro v38 a w hS h
                unfold law05_RowOrder_j3 at h
                refine hK37 _ _ ?_
                refine hK36 _ _ ?_
                refine k_cond v38 hS.has (by kernel_rfl) (by kernel_rfl) (by kernel_rfl) (fun hb39 => ?_) (fun hb39 => ?_)
                · replace h := ctrue hb39 h
                  refine k_seq (by kernel_rfl) fun K40 hK40 => ?_
                  refine k_reg 1 (by kernel_rfl) ?_
                  refine r_run 0 1 [2] [] hS rfl (L' := [(2, .bool false)]) (As' := [.box b34 [.int .i64 x33.table, .int .u16 x33.id], .box b23 [.int .i64 x22.table, .int .u16 x22.id]]) (ob := []) (by kernel_rfl) (trivial) fun a w hS => ?_
                  refine wl_end ?_
                  refine hK40 _ _ ?_
                  refine k_ret (by kernel_rfl) ?_
                  obtain rfl := someI h
                  try simp only [Exit.then, Exit.inBlock]
                  refine r_ret hS [.tmp 2] [] (xs := [.bool false]) (ps := []) [] [] rfl (by kernel_rfl) (fun hA => trivial) rfl (fun F up => trivial) ?_
                  exact ⟨rfl, rfl, rfl⟩
                · replace h := cfalse hb39 h
                  refine k_skip (by kernel_rfl) ?_
                  refine hK35 _ _ ?_
                  refine k_seq (by kernel_rfl) fun K41 hK41 => ?_
                  refine k_reg 3 (by kernel_rfl) ?_
                  refine r_run 0 3 [0, 4, 6, 16, 17, 18, 22, 23, 24, 46, 47, 48] [] hS rfl (L' := [(0, .slice a8 l10.length c9), (4, .pointer (some ⟨b23, 0, none⟩)), (6, .pointer (some ⟨b34, 0, none⟩)), (16, .slice a8 l10.length c9), (17, .int .i64 (l10.length : Int)), (18, .int .i64 v14), (22, .slice a8 l10.length c9), (23, .int .i64 (l10.length : Int)), (24, .int .i64 v25), (46, .slice a8 l10.length c9), (47, .int .i64 (l10.length : Int)), (48, .int .i64 0)]) (As' := [.box b34 [.int .i64 x33.table, .int .u16 x33.id], .box b23 [.int .i64 x22.table, .int .u16 x22.id]]) (ob := []) (by kernel_rfl) (trivial) fun a w hS => ?_
                  refine wl_end ?_
                  refine hK41 _ _ ?_
                  refine k_blk (by kernel_rfl) ?_
                  refine k_loop (by kernel_rfl) (fun m43 a w => ∃ (v42 : Int), law05_RowOrder_l3 n l10 x22 v25 x33 (law05_RowOrder_l2 n l10 v14 x22 (law05_RowOrder_l1 n l10 m15) m26) m43 v42 = some r ∧ Sy C 71 a w [(0, .slice a8 l10.length c9), (4, .pointer (some ⟨b23, 0, none⟩)), (6, .pointer (some ⟨b34, 0, none⟩)), (16, .slice a8 l10.length c9), (17, .int .i64 (l10.length : Int)), (18, .int .i64 v14), (22, .slice a8 l10.length c9), (23, .int .i64 (l10.length : Int)), (24, .int .i64 v25), (46, .slice a8 l10.length c9), (47, .int .i64 (l10.length : Int)), (48, .int .i64 v42)] [.box b34 [.int .i64 x33.table, .int .u16 x33.id], .box b23 [.int .i64 x22.table, .int .u16 x22.id]] [RSf flat_Key a8 c9 l10, RSf flat_Key a0 c0 p0]) n ⟨0, h, (hS.got [0, 4, 6, 16, 17, 18, 22, 23, 24, 46, 47, 48] [0, 0] [] 0 (by kernel_rfl) (by kernel_rfl) (by kernel_rfl))⟩ ?_
                  rintro m43 a w ⟨v42, h, hS⟩ K44 hK44
                  cases m43 with
                  | zero => exact (noneS h).elim
                  | succ m43 =>
                    unfold law05_RowOrder_l3 at h
                    refine k_seq (by kernel_rfl) fun K45 hK45 => ?_
                    refine k_reg 1 (by kernel_rfl) ?_
                    refine r_run 0 1 [0, 4, 6, 16, 17, 18, 22, 23, 24, 46, 47, 48, 49] [] hS rfl (L' := [(0, .slice a8 l10.length c9), (4, .pointer (some ⟨b23, 0, none⟩)), (6, .pointer (some ⟨b34, 0, none⟩)), (16, .slice a8 l10.length c9), (17, .int .i64 (l10.length : Int)), (18, .int .i64 v14), (22, .slice a8 l10.length c9), (23, .int .i64 (l10.length : Int)), (24, .int .i64 v25), (46, .slice a8 l10.length c9), (47, .int .i64 (l10.length : Int)), (48, .int .i64 v42), (49, .bool (decide (v42 < (l10.length : Int))))]) (As' := [.box b34 [.int .i64 x33.table, .int .u16 x33.id], .box b23 [.int .i64 x22.table, .int .u16 x22.id]]) (ob := []) (by kernel_rfl) (trivial) fun a w hS => ?_
                    refine wl_end ?_
                    refine hK45 _ _ ?_
                    refine k_seq (by kernel_rfl) fun K46 hK46 => ?_
                    refine k_cond (decide (v42 < (l10.length : Int))) hS.has (by kernel_rfl) (by kernel_rfl) (by kernel_rfl) (fun hb47 => ?_) (fun hb47 => ?_)
                    · replace h := ctrue hb47 h
                      refine k_skip (by kernel_rfl) ?_
                      refine hK46 _ _ ?_
                      refine k_seq (by kernel_rfl) fun K48 hK48 => ?_
                      refine k_blk (by kernel_rfl) ?_
                      refine k_seq (by kernel_rfl) fun K49 hK49 => ?_
                      refine k_reg 4 (by kernel_rfl) ?_
                      obtain ⟨x50, hx50, h⟩ := bindS h
                      have ix50 := fidxB (F := flat_Key) (hS.p 0 rfl) hx50
                      refine r_run1 0 4 [0, 4, 6, 8, 16, 17, 18, 22, 23, 24, 46, 47, 48] [.ext [.int .i64 x50.table, .int .u16 x50.id], .own 0 0] hS rfl (L' := fun b51 => [(0, .slice a8 l10.length c9), (4, .pointer (some ⟨b23, 0, none⟩)), (6, .pointer (some ⟨b34, 0, none⟩)), (8, .pointer (some ⟨b51, 0, none⟩)), (16, .slice a8 l10.length c9), (17, .int .i64 (l10.length : Int)), (18, .int .i64 v14), (22, .slice a8 l10.length c9), (23, .int .i64 (l10.length : Int)), (24, .int .i64 v25), (46, .slice a8 l10.length c9), (47, .int .i64 (l10.length : Int)), (48, .int .i64 v42)]) (As' := fun b51 => [.box b51 [.int .i64 x50.table, .int .u16 x50.id], .box b34 [.int .i64 x33.table, .int .u16 x33.id], .box b23 [.int .i64 x22.table, .int .u16 x22.id]]) (ob := fun b51 => [fun _ => Inb a8 l10.length v42, Cel (Addr.add (baseOf a8) (Int.toNat v42 * 2)) [.int .i64 x50.table, .int .u16 x50.id], fun _ => (⟨b51, 0, none⟩ : Addr) = (⟨b51, 0, none⟩ : Addr).add 0, fun _ => ∀ u ∈ ([.int .i64 x50.table, .int .u16 x50.id] : List Value), u.oneCell' = true]) (fun b51 => by kernel_rfl) (fun b51 => ⟨Bx.c ix50.1, ix50.2, Bx.c rfl, Bx.c (oneAll rfl), trivial⟩) fun b51 a w hS => ?_
                      refine wl_end ?_
                      refine hK49 _ _ ?_
                      refine k_seq (by kernel_rfl) fun K52 hK52 => ?_
                      refine k_reg 16 (by kernel_rfl) ?_
                      refine r_run 0 2 [0, 4, 6, 8, 16, 17, 18, 22, 23, 24, 46, 47, 48, 52, 53] [.own 2 0, .own 1 0] hS rfl (L' := [(0, .slice a8 l10.length c9), (4, .pointer (some ⟨b23, 0, none⟩)), (6, .pointer (some ⟨b34, 0, none⟩)), (8, .pointer (some ⟨b51, 0, none⟩)), (16, .slice a8 l10.length c9), (17, .int .i64 (l10.length : Int)), (18, .int .i64 v14), (22, .slice a8 l10.length c9), (23, .int .i64 (l10.length : Int)), (24, .int .i64 v25), (46, .slice a8 l10.length c9), (47, .int .i64 (l10.length : Int)), (48, .int .i64 v42), (52, Value.agg #[.int .i64 x22.table, .int .u16 x22.id]), (53, Value.agg #[.int .i64 x33.table, .int .u16 x33.id])]) (As' := [.box b51 [.int .i64 x50.table, .int .u16 x50.id], .box b34 [.int .i64 x33.table, .int .u16 x33.id], .box b23 [.int .i64 x22.table, .int .u16 x22.id]]) (ob := [fun _ => (⟨b23, 0, none⟩ : Addr) = (⟨b23, 0, none⟩ : Addr).add 0, fun _ => (⟨b34, 0, none⟩ : Addr) = (⟨b34, 0, none⟩ : Addr).add 0]) (by kernel_rfl) (⟨Bx.c rfl, Bx.c rfl, trivial⟩) fun a w hS => ?_
                      obtain ⟨y53, hy53, h⟩ := bindS h
                      refine r_call 2 rfl (d := some 54) (g := 19) (args := #[Value.agg #[.int .i64 x22.table, .int .u16 x22.id], Value.agg #[.int .i64 x33.table, .int .u16 x33.id]]) [] hS (by kernel_rfl) rfl (row_Compare_ok n x22 x33 y53 hy53) (fun F up => trivial) ?_
                      rintro v A P a w ⟨rfl, rfl, rfl⟩ hS
                      refine r_run 3 2 [0, 4, 6, 8, 16, 17, 18, 22, 23, 24, 46, 47, 48, 56] [] hS rfl (L' := [(0, .slice a8 l10.length c9), (4, .pointer (some ⟨b23, 0, none⟩)), (6, .pointer (some ⟨b34, 0, none⟩)), (8, .pointer (some ⟨b51, 0, none⟩)), (16, .slice a8 l10.length c9), (17, .int .i64 (l10.length : Int)), (18, .int .i64 v14), (22, .slice a8 l10.length c9), (23, .int .i64 (l10.length : Int)), (24, .int .i64 v25), (46, .slice a8 l10.length c9), (47, .int .i64 (l10.length : Int)), (48, .int .i64 v42), (56, .bool (decide (y53 ≤ 0)))]) (As' := [.box b51 [.int .i64 x50.table, .int .u16 x50.id], .box b34 [.int .i64 x33.table, .int .u16 x33.id], .box b23 [.int .i64 x22.table, .int .u16 x22.id]]) (ob := []) (by kernel_rfl) (trivial) fun a w hS => ?_
                      refine wl_cut 10 rfl rfl fun K54 hK54 => ?_
                      have JK54 : ∀ (v55 : Bool) a w, Sy C 71 a w [(0, .slice a8 l10.length c9), (4, .pointer (some ⟨b23, 0, none⟩)), (6, .pointer (some ⟨b34, 0, none⟩)), (8, .pointer (some ⟨b51, 0, none⟩)), (16, .slice a8 l10.length c9), (17, .int .i64 (l10.length : Int)), (18, .int .i64 v14), (22, .slice a8 l10.length c9), (23, .int .i64 (l10.length : Int)), (24, .int .i64 v25), (46, .slice a8 l10.length c9), (47, .int .i64 (l10.length : Int)), (48, .int .i64 v42), (61, .bool v55)] [.box b51 [.int .i64 x50.table, .int .u16 x50.id], .box b34 [.int .i64 x33.table, .int .u16 x33.id], .box b23 [.int .i64 x22.table, .int .u16 x22.id]] [RSf flat_Key a8 c9 l10, RSf flat_Key a0 c0 p0] → law05_RowOrder_j2 n x22 v42 x50 (law05_RowOrder_l3 n l10 x22 v25 x33 (law05_RowOrder_l2 n l10 v14 x22 (law05_RowOrder_l1 n l10 m15) m26) m43) v55 = some r → K54 a w := by
                        intro v55 a w hS h
                        unfold law05_RowOrder_j2 at h
                        refine hK54 _ _ ?_
                        refine r_run 10 1 [0, 4, 6, 8, 16, 17, 18, 22, 23, 24, 46, 47, 48, 62] [] hS rfl (L' := [(0, .slice a8 l10.length c9), (4, .pointer (some ⟨b23, 0, none⟩)), (6, .pointer (some ⟨b34, 0, none⟩)), (8, .pointer (some ⟨b51, 0, none⟩)), (16, .slice a8 l10.length c9), (17, .int .i64 (l10.length : Int)), (18, .int .i64 v14), (22, .slice a8 l10.length c9), (23, .int .i64 (l10.length : Int)), (24, .int .i64 v25), (46, .slice a8 l10.length c9), (47, .int .i64 (l10.length : Int)), (48, .int .i64 v42), (62, .bool v55)]) (As' := [.box b51 [.int .i64 x50.table, .int .u16 x50.id], .box b34 [.int .i64 x33.table, .int .u16 x33.id], .box b23 [.int .i64 x22.table, .int .u16 x22.id]]) (ob := []) (by kernel_rfl) (trivial) fun a w hS => ?_
                        refine wl_cut 16 rfl rfl fun K56 hK56 => ?_
                        have JK56 : ∀ (v57 : Bool) a w, Sy C 71 a w [(0, .slice a8 l10.length c9), (4, .pointer (some ⟨b23, 0, none⟩)), (6, .pointer (some ⟨b34, 0, none⟩)), (16, .slice a8 l10.length c9), (17, .int .i64 (l10.length : Int)), (18, .int .i64 v14), (22, .slice a8 l10.length c9), (23, .int .i64 (l10.length : Int)), (24, .int .i64 v25), (46, .slice a8 l10.length c9), (47, .int .i64 (l10.length : Int)), (48, .int .i64 v42), (67, .bool v57)] [.box b51 [.int .i64 x50.table, .int .u16 x50.id], .box b34 [.int .i64 x33.table, .int .u16 x33.id], .box b23 [.int .i64 x22.table, .int .u16 x22.id]] [RSf flat_Key a8 c9 l10, RSf flat_Key a0 c0 p0] → law05_RowOrder_j1 n v42 (law05_RowOrder_l3 n l10 x22 v25 x33 (law05_RowOrder_l2 n l10 v14 x22 (law05_RowOrder_l1 n l10 m15) m26) m43) v57 = some r → K56 a w := by
                          intro v57 a w hS h
                          unfold law05_RowOrder_j1 at h
                          refine hK56 _ _ ?_
                          refine wl_end ?_
                          refine hK52 _ _ ?_
                          refine k_cond v57 hS.has (by kernel_rfl) (by kernel_rfl) (by kernel_rfl) (fun hb58 => ?_) (fun hb58 => ?_)
                          · replace h := ctrue hb58 h
                            refine k_seq (by kernel_rfl) fun K59 hK59 => ?_
                            refine k_reg 1 (by kernel_rfl) ?_
                            refine r_run 0 1 [2] [] hS rfl (L' := [(2, .bool false)]) (As' := [.box b51 [.int .i64 x50.table, .int .u16 x50.id], .box b34 [.int .i64 x33.table, .int .u16 x33.id], .box b23 [.int .i64 x22.table, .int .u16 x22.id]]) (ob := []) (by kernel_rfl) (trivial) fun a w hS => ?_
                            refine wl_end ?_
                            refine hK59 _ _ ?_
                            refine k_ret (by kernel_rfl) ?_
                            obtain rfl := someI h
                            try simp only [Exit.then, Exit.inBlock]
                            refine r_ret hS [.tmp 2] [] (xs := [.bool false]) (ps := []) [] [] rfl (by kernel_rfl) (fun hA => trivial) rfl (fun F up => trivial) ?_
                            exact ⟨rfl, rfl, rfl⟩
                          · replace h := cfalse hb58 h
                            refine k_skip (by kernel_rfl) ?_
                            refine hK48 _ _ ?_
                            refine k_reg 2 (by kernel_rfl) ?_
                            refine r_run 0 2 [0, 4, 6, 16, 17, 18, 22, 23, 24, 46, 47, 48] [] hS rfl (L' := [(0, .slice a8 l10.length c9), (4, .pointer (some ⟨b23, 0, none⟩)), (6, .pointer (some ⟨b34, 0, none⟩)), (16, .slice a8 l10.length c9), (17, .int .i64 (l10.length : Int)), (18, .int .i64 v14), (22, .slice a8 l10.length c9), (23, .int .i64 (l10.length : Int)), (24, .int .i64 v25), (46, .slice a8 l10.length c9), (47, .int .i64 (l10.length : Int)), (48, .int .i64 (IntKind.wrap .i64 (v42 + 1)))]) (As' := [.box b51 [.int .i64 x50.table, .int .u16 x50.id], .box b34 [.int .i64 x33.table, .int .u16 x33.id], .box b23 [.int .i64 x22.table, .int .u16 x22.id]]) (ob := []) (by kernel_rfl) (trivial) fun a w hS => ?_
                            refine wl_end ?_
                            exact hK44 m43 _ _ (Nat.lt_succ_self _) ⟨(IntKind.wrap .i64 (v42 + 1)), h, (hS.got [0, 4, 6, 16, 17, 18, 22, 23, 24, 46, 47, 48] [1, 1] [] 0 (by kernel_rfl) (by kernel_rfl) (by kernel_rfl))⟩
                        cases hb60 : v55
                        · replace hS := hS.env (L' := [(0, .slice a8 l10.length c9), (4, .pointer (some ⟨b23, 0, none⟩)), (6, .pointer (some ⟨b34, 0, none⟩)), (8, .pointer (some ⟨b51, 0, none⟩)), (16, .slice a8 l10.length c9), (17, .int .i64 (l10.length : Int)), (18, .int .i64 v14), (22, .slice a8 l10.length c9), (23, .int .i64 (l10.length : Int)), (24, .int .i64 v25), (46, .slice a8 l10.length c9), (47, .int .i64 (l10.length : Int)), (48, .int .i64 v42), (62, .bool false)]) (by rw [hb60])
                          replace h := cfalse hb60 h
                          refine r_run 11 5 [0, 4, 6, 16, 17, 18, 22, 23, 24, 46, 47, 48, 67] [] hS rfl (L' := [(0, .slice a8 l10.length c9), (4, .pointer (some ⟨b23, 0, none⟩)), (6, .pointer (some ⟨b34, 0, none⟩)), (16, .slice a8 l10.length c9), (17, .int .i64 (l10.length : Int)), (18, .int .i64 v14), (22, .slice a8 l10.length c9), (23, .int .i64 (l10.length : Int)), (24, .int .i64 v25), (46, .slice a8 l10.length c9), (47, .int .i64 (l10.length : Int)), (48, .int .i64 v42), (67, .bool false)]) (As' := [.box b51 [.int .i64 x50.table, .int .u16 x50.id], .box b34 [.int .i64 x33.table, .int .u16 x33.id], .box b23 [.int .i64 x22.table, .int .u16 x22.id]]) (ob := []) (by kernel_rfl) (trivial) fun a w hS => ?_
                          refine wl_end ?_
                          exact JK56 false _ _ (hS.got [0, 4, 6, 16, 17, 18, 22, 23, 24, 46, 47, 48, 67] [0, 0, 0] [] 0 (by kernel_rfl) (by kernel_rfl) (by kernel_rfl)) h
                        · replace hS := hS.env (L' := [(0, .slice a8 l10.length c9), (4, .pointer (some ⟨b23, 0, none⟩)), (6, .pointer (some ⟨b34, 0, none⟩)), (8, .pointer (some ⟨b51, 0, none⟩)), (16, .slice a8 l10.length c9), (17, .int .i64 (l10.length : Int)), (18, .int .i64 v14), (22, .slice a8 l10.length c9), (23, .int .i64 (l10.length : Int)), (24, .int .i64 v25), (46, .slice a8 l10.length c9), (47, .int .i64 (l10.length : Int)), (48, .int .i64 v42), (62, .bool true)]) (by rw [hb60])
                          replace h := ctrue hb60 h
                          refine r_run 11 2 [0, 4, 6, 16, 17, 18, 22, 23, 24, 46, 47, 48, 62, 63, 64] [.own 2 0, .own 0 0] hS rfl (L' := [(0, .slice a8 l10.length c9), (4, .pointer (some ⟨b23, 0, none⟩)), (6, .pointer (some ⟨b34, 0, none⟩)), (16, .slice a8 l10.length c9), (17, .int .i64 (l10.length : Int)), (18, .int .i64 v14), (22, .slice a8 l10.length c9), (23, .int .i64 (l10.length : Int)), (24, .int .i64 v25), (46, .slice a8 l10.length c9), (47, .int .i64 (l10.length : Int)), (48, .int .i64 v42), (62, .bool true), (63, Value.agg #[.int .i64 x22.table, .int .u16 x22.id]), (64, Value.agg #[.int .i64 x50.table, .int .u16 x50.id])]) (As' := [.box b51 [.int .i64 x50.table, .int .u16 x50.id], .box b34 [.int .i64 x33.table, .int .u16 x33.id], .box b23 [.int .i64 x22.table, .int .u16 x22.id]]) (ob := [fun _ => (⟨b23, 0, none⟩ : Addr) = (⟨b23, 0, none⟩ : Addr).add 0, fun _ => (⟨b51, 0, none⟩ : Addr) = (⟨b51, 0, none⟩ : Addr).add 0]) (by kernel_rfl) (⟨Bx.c rfl, Bx.c rfl, trivial⟩) fun a w hS => ?_
                          obtain ⟨y61, hy61, h⟩ := bindS h
                          refine r_call 13 rfl (d := some 65) (g := 19) (args := #[Value.agg #[.int .i64 x22.table, .int .u16 x22.id], Value.agg #[.int .i64 x50.table, .int .u16 x50.id]]) [] hS (by kernel_rfl) rfl (row_Compare_ok n x22 x50 y61 hy61) (fun F up => trivial) ?_
                          rintro v A P a w ⟨rfl, rfl, rfl⟩ hS
                          refine r_run 14 2 [0, 4, 6, 16, 17, 18, 22, 23, 24, 46, 47, 48, 67] [] hS rfl (L' := [(0, .slice a8 l10.length c9), (4, .pointer (some ⟨b23, 0, none⟩)), (6, .pointer (some ⟨b34, 0, none⟩)), (16, .slice a8 l10.length c9), (17, .int .i64 (l10.length : Int)), (18, .int .i64 v14), (22, .slice a8 l10.length c9), (23, .int .i64 (l10.length : Int)), (24, .int .i64 v25), (46, .slice a8 l10.length c9), (47, .int .i64 (l10.length : Int)), (48, .int .i64 v42), (67, .bool (decide (y61 > 0)))]) (As' := [.box b51 [.int .i64 x50.table, .int .u16 x50.id], .box b34 [.int .i64 x33.table, .int .u16 x33.id], .box b23 [.int .i64 x22.table, .int .u16 x22.id]]) (ob := []) (by kernel_rfl) (trivial) fun a w hS => ?_
                          refine wl_end ?_
                          exact JK56 (decide (y61 > 0)) _ _ (hS.got [0, 4, 6, 16, 17, 18, 22, 23, 24, 46, 47, 48, 67] [0, 0, 0] [] 0 (by kernel_rfl) (by kernel_rfl) (by kernel_rfl)) h
                      cases hb62 : (decide (y53 ≤ 0))
                      · replace hS := hS.env (L' := [(0, .slice a8 l10.length c9), (4, .pointer (some ⟨b23, 0, none⟩)), (6, .pointer (some ⟨b34, 0, none⟩)), (8, .pointer (some ⟨b51, 0, none⟩)), (16, .slice a8 l10.length c9), (17, .int .i64 (l10.length : Int)), (18, .int .i64 v14), (22, .slice a8 l10.length c9), (23, .int .i64 (l10.length : Int)), (24, .int .i64 v25), (46, .slice a8 l10.length c9), (47, .int .i64 (l10.length : Int)), (48, .int .i64 v42), (56, .bool false)]) (by rw [hb62])
                        replace h := cfalse hb62 h
                        refine r_run 5 5 [0, 4, 6, 8, 16, 17, 18, 22, 23, 24, 46, 47, 48, 61] [] hS rfl (L' := [(0, .slice a8 l10.length c9), (4, .pointer (some ⟨b23, 0, none⟩)), (6, .pointer (some ⟨b34, 0, none⟩)), (8, .pointer (some ⟨b51, 0, none⟩)), (16, .slice a8 l10.length c9), (17, .int .i64 (l10.length : Int)), (18, .int .i64 v14), (22, .slice a8 l10.length c9), (23, .int .i64 (l10.length : Int)), (24, .int .i64 v25), (46, .slice a8 l10.length c9), (47, .int .i64 (l10.length : Int)), (48, .int .i64 v42), (61, .bool false)]) (As' := [.box b51 [.int .i64 x50.table, .int .u16 x50.id], .box b34 [.int .i64 x33.table, .int .u16 x33.id], .box b23 [.int .i64 x22.table, .int .u16 x22.id]]) (ob := []) (by kernel_rfl) (trivial) fun a w hS => ?_
                        refine wl_end ?_
                        exact JK54 false _ _ (hS.got [0, 4, 6, 8, 16, 17, 18, 22, 23, 24, 46, 47, 48, 61] [0, 0, 0] [] 0 (by kernel_rfl) (by kernel_rfl) (by kernel_rfl)) h
                      · replace hS := hS.env (L' := [(0, .slice a8 l10.length c9), (4, .pointer (some ⟨b23, 0, none⟩)), (6, .pointer (some ⟨b34, 0, none⟩)), (8, .pointer (some ⟨b51, 0, none⟩)), (16, .slice a8 l10.length c9), (17, .int .i64 (l10.length : Int)), (18, .int .i64 v14), (22, .slice a8 l10.length c9), (23, .int .i64 (l10.length : Int)), (24, .int .i64 v25), (46, .slice a8 l10.length c9), (47, .int .i64 (l10.length : Int)), (48, .int .i64 v42), (56, .bool true)]) (by rw [hb62])
                        replace h := ctrue hb62 h
                        refine r_run 5 2 [0, 4, 6, 8, 16, 17, 18, 22, 23, 24, 46, 47, 48, 56, 57, 58] [.own 1 0, .own 0 0] hS rfl (L' := [(0, .slice a8 l10.length c9), (4, .pointer (some ⟨b23, 0, none⟩)), (6, .pointer (some ⟨b34, 0, none⟩)), (8, .pointer (some ⟨b51, 0, none⟩)), (16, .slice a8 l10.length c9), (17, .int .i64 (l10.length : Int)), (18, .int .i64 v14), (22, .slice a8 l10.length c9), (23, .int .i64 (l10.length : Int)), (24, .int .i64 v25), (46, .slice a8 l10.length c9), (47, .int .i64 (l10.length : Int)), (48, .int .i64 v42), (56, .bool true), (57, Value.agg #[.int .i64 x33.table, .int .u16 x33.id]), (58, Value.agg #[.int .i64 x50.table, .int .u16 x50.id])]) (As' := [.box b51 [.int .i64 x50.table, .int .u16 x50.id], .box b34 [.int .i64 x33.table, .int .u16 x33.id], .box b23 [.int .i64 x22.table, .int .u16 x22.id]]) (ob := [fun _ => (⟨b34, 0, none⟩ : Addr) = (⟨b34, 0, none⟩ : Addr).add 0, fun _ => (⟨b51, 0, none⟩ : Addr) = (⟨b51, 0, none⟩ : Addr).add 0]) (by kernel_rfl) (⟨Bx.c rfl, Bx.c rfl, trivial⟩) fun a w hS => ?_
                        obtain ⟨y63, hy63, h⟩ := bindS h
                        refine r_call 7 rfl (d := some 59) (g := 19) (args := #[Value.agg #[.int .i64 x33.table, .int .u16 x33.id], Value.agg #[.int .i64 x50.table, .int .u16 x50.id]]) [] hS (by kernel_rfl) rfl (row_Compare_ok n x33 x50 y63 hy63) (fun F up => trivial) ?_
                        rintro v A P a w ⟨rfl, rfl, rfl⟩ hS
                        refine r_run 8 2 [0, 4, 6, 8, 16, 17, 18, 22, 23, 24, 46, 47, 48, 61] [] hS rfl (L' := [(0, .slice a8 l10.length c9), (4, .pointer (some ⟨b23, 0, none⟩)), (6, .pointer (some ⟨b34, 0, none⟩)), (8, .pointer (some ⟨b51, 0, none⟩)), (16, .slice a8 l10.length c9), (17, .int .i64 (l10.length : Int)), (18, .int .i64 v14), (22, .slice a8 l10.length c9), (23, .int .i64 (l10.length : Int)), (24, .int .i64 v25), (46, .slice a8 l10.length c9), (47, .int .i64 (l10.length : Int)), (48, .int .i64 v42), (61, .bool (decide (y63 ≤ 0)))]) (As' := [.box b51 [.int .i64 x50.table, .int .u16 x50.id], .box b34 [.int .i64 x33.table, .int .u16 x33.id], .box b23 [.int .i64 x22.table, .int .u16 x22.id]]) (ob := []) (by kernel_rfl) (trivial) fun a w hS => ?_
                        refine wl_end ?_
                        exact JK54 (decide (y63 ≤ 0)) _ _ (hS.got [0, 4, 6, 8, 16, 17, 18, 22, 23, 24, 46, 47, 48, 61] [0, 0, 0] [] 0 (by kernel_rfl) (by kernel_rfl) (by kernel_rfl)) h
                    · replace h := cfalse hb47 h
                      refine k_exit 4 (by kernel_rfl) ?_
                      refine hK31 _ _ ?_
                      refine k_reg 2 (by kernel_rfl) ?_
                      refine r_run 0 2 [0, 4, 16, 17, 18, 22, 23, 24] [] hS rfl (L' := [(0, .slice a8 l10.length c9), (4, .pointer (some ⟨b23, 0, none⟩)), (16, .slice a8 l10.length c9), (17, .int .i64 (l10.length : Int)), (18, .int .i64 v14), (22, .slice a8 l10.length c9), (23, .int .i64 (l10.length : Int)), (24, .int .i64 (IntKind.wrap .i64 (v25 + 1)))]) (As' := [.box b34 [.int .i64 x33.table, .int .u16 x33.id], .box b23 [.int .i64 x22.table, .int .u16 x22.id]]) (ob := []) (by kernel_rfl) (trivial) fun a w hS => ?_
                      refine wl_end ?_
                      exact hK27 m26 _ _ (Nat.lt_succ_self _) ⟨(IntKind.wrap .i64 (v25 + 1)), h, (hS.got [0, 4, 16, 17, 18, 22, 23, 24] [1] [] 0 (by kernel_rfl) (by kernel_rfl) (by kernel_rfl))⟩
              obtain ⟨y64, hy64, h⟩ := bindS h
              obtain ⟨y65, hy65, h⟩ := bindS h
              cases hb66 : (y64 != (IntKind.wrap .i64 (0 - y65)))
              · replace h := cfalse hb66 h
                obtain ⟨y67, hy67, h⟩ := bindS h
                refine k_draw 16 18 [.val (Value.agg #[.int .i64 x22.table, .int .u16 x22.id]), .val (Value.agg #[.int .i64 x33.table, .int .u16 x33.id]), .val (.int .i64 y64), .val (Value.agg #[.int .i64 x33.table, .int .u16 x33.id]), .val (Value.agg #[.int .i64 x22.table, .int .u16 x22.id]), .val (.int .i64 y65), .val (.int .i64 (IntKind.wrap .i64 (0 - y65))), .val (.bool (y64 != (IntKind.wrap .i64 (0 - y65)))), .val (.bool false), .val (Value.agg #[.int .i64 x22.table, .int .u16 x22.id]), .val (Value.agg #[.int .i64 x33.table, .int .u16 x33.id]), .val (.int .i64 y67), .val (.bool (y67 == 0)), .val (Value.agg #[.int .i64 x22.table, .int .u16 x22.id]), .val (Value.agg #[.int .i64 x33.table, .int .u16 x33.id]), .val (.bool (Key.eqb x22 x33))] [] [(0, [.own 1 0]), (1, [.own 0 0]), (3, [.own 0 0]), (4, [.own 1 0]), (6, []), (7, []), (8, [.as 36 (.bool false)]), (9, [.own 1 0]), (10, [.own 0 0]), (12, []), (13, [.own 1 0]), (14, [.own 0 0]), (15, [.val (.bool (Key.eqb x22 x33))])] [2, 5, 11] (ob := [fun _ => (⟨b23, 0, none⟩ : Addr) = (⟨b23, 0, none⟩ : Addr).add 0, fun _ => (⟨b34, 0, none⟩ : Addr) = (⟨b34, 0, none⟩ : Addr).add 0, fun _ => (⟨b34, 0, none⟩ : Addr) = (⟨b34, 0, none⟩ : Addr).add 0, fun _ => (⟨b23, 0, none⟩ : Addr) = (⟨b23, 0, none⟩ : Addr).add 0, fun _ => Value.bool (y64 != (IntKind.wrap .i64 (0 - y65))) = .bool false, fun _ => (⟨b23, 0, none⟩ : Addr) = (⟨b23, 0, none⟩ : Addr).add 0, fun _ => (⟨b34, 0, none⟩ : Addr) = (⟨b34, 0, none⟩ : Addr).add 0, fun _ => (⟨b23, 0, none⟩ : Addr) = (⟨b23, 0, none⟩ : Addr).add 0, fun _ => (⟨b34, 0, none⟩ : Addr) = (⟨b34, 0, none⟩ : Addr).add 0, fun w => EqOk Try.prog .eql 28 (Value.agg #[.int .i64 x22.table, .int .u16 x22.id]) (Value.agg #[.int .i64 x33.table, .int .u16 x33.id]) (.bool (Key.eqb x22 x33)) w]) (by kernel_rfl) (by kernel_rfl) hS (by kernel_rfl) (fun F N0 => by kernel_rfl) (by kernel_rfl) (by kernel_rfl) (by kernel_rfl) (by kernel_rfl) ⟨Bx.c rfl, Bx.c rfl, Bx.c rfl, Bx.c rfl, Bx.c (by rw [hb66]), Bx.c rfl, Bx.c rfl, Bx.c rfl, Bx.c rfl, fun w _ => Key_eql x22.table x22.id x33.table x33.id w, trivial⟩ ?_ ?_
                · refine ⟨?_, ?_, ?_, trivial⟩
                  · intro V a w e hS hq
                    exact d_callV (d := 30) [] hS (args := #[Value.agg #[.int .i64 x22.table, .int .u16 x22.id], Value.agg #[.int .i64 x33.table, .int .u16 x33.id]]) (by kernel_rfl) rfl (row_Compare_ok n x22 x33 y64 hy64) (fun F up le => trivial) (by rintro v A P ⟨rfl, rfl, rfl⟩; first | rfl | rw [hb66])
                  · intro V a w e hS hq
                    exact d_callV (d := 33) [] hS (args := #[Value.agg #[.int .i64 x33.table, .int .u16 x33.id], Value.agg #[.int .i64 x22.table, .int .u16 x22.id]]) (by kernel_rfl) rfl (row_Compare_ok n x33 x22 y65 hy65) (fun F up le => trivial) (by rintro v A P ⟨rfl, rfl, rfl⟩; first | rfl | rw [hb66])
                  · intro V a w e hS hq
                    exact d_callV (d := 39) [] hS (args := #[Value.agg #[.int .i64 x22.table, .int .u16 x22.id], Value.agg #[.int .i64 x33.table, .int .u16 x33.id]]) (by kernel_rfl) rfl (row_Compare_ok n x22 x33 y67 hy67) (fun F up le => trivial) (by rintro v A P ⟨rfl, rfl, rfl⟩; first | rfl | rw [hb66])
                intro V a w e hS hq
                refine r_run 16 2 [0, 4, 6, 16, 17, 18, 22, 23, 24, 45] [] hS rfl (L' := [(0, .slice a8 l10.length c9), (4, .pointer (some ⟨b23, 0, none⟩)), (6, .pointer (some ⟨b34, 0, none⟩)), (16, .slice a8 l10.length c9), (17, .int .i64 (l10.length : Int)), (18, .int .i64 v14), (22, .slice a8 l10.length c9), (23, .int .i64 (l10.length : Int)), (24, .int .i64 v25), (45, .bool (!((y67 == 0) == (Key.eqb x22 x33))))]) (As' := [.box b34 [.int .i64 x33.table, .int .u16 x33.id], .box b23 [.int .i64 x22.table, .int .u16 x22.id]]) (ob := []) (by kernel_rfl) (trivial) fun a w hS => ?_
                refine wl_end ?_
                exact JK37 (!((y67 == 0) == (Key.eqb x22 x33))) _ _ (hS.got [0, 4, 6, 16, 17, 18, 22, 23, 24, 45] [0, 0] [] 0 (by kernel_rfl) (by kernel_rfl) (by kernel_rfl)) h
              · replace h := ctrue hb66 h
                refine k_draw 16 18 [.val (Value.agg #[.int .i64 x22.table, .int .u16 x22.id]), .val (Value.agg #[.int .i64 x33.table, .int .u16 x33.id]), .val (.int .i64 y64), .val (Value.agg #[.int .i64 x33.table, .int .u16 x33.id]), .val (Value.agg #[.int .i64 x22.table, .int .u16 x22.id]), .val (.int .i64 y65), .val (.int .i64 (IntKind.wrap .i64 (0 - y65))), .val (.bool (y64 != (IntKind.wrap .i64 (0 - y65)))), .val (.bool true), .val (undef), .val (undef), .val (undef), .val (undef), .val (undef), .val (undef), .val (undef)] [] [(0, [.own 1 0]), (1, [.own 0 0]), (3, [.own 0 0]), (4, [.own 1 0]), (6, []), (7, []), (8, [.as 36 (.bool true)]), (9, []), (10, []), (11, []), (12, []), (13, []), (14, []), (15, [])] [2, 5] (ob := [fun _ => (⟨b23, 0, none⟩ : Addr) = (⟨b23, 0, none⟩ : Addr).add 0, fun _ => (⟨b34, 0, none⟩ : Addr) = (⟨b34, 0, none⟩ : Addr).add 0, fun _ => (⟨b34, 0, none⟩ : Addr) = (⟨b34, 0, none⟩ : Addr).add 0, fun _ => (⟨b23, 0, none⟩ : Addr) = (⟨b23, 0, none⟩ : Addr).add 0, fun _ => Value.bool (y64 != (IntKind.wrap .i64 (0 - y65))) = .bool true]) (by kernel_rfl) (by kernel_rfl) hS (by kernel_rfl) (fun F N0 => by kernel_rfl) (by kernel_rfl) (by kernel_rfl) (by kernel_rfl) (by kernel_rfl) ⟨Bx.c rfl, Bx.c rfl, Bx.c rfl, Bx.c rfl, Bx.c (by rw [hb66]), trivial⟩ ?_ ?_
                · refine ⟨?_, ?_, trivial⟩
                  · intro V a w e hS hq
                    exact d_callV (d := 30) [] hS (args := #[Value.agg #[.int .i64 x22.table, .int .u16 x22.id], Value.agg #[.int .i64 x33.table, .int .u16 x33.id]]) (by kernel_rfl) rfl (row_Compare_ok n x22 x33 y64 hy64) (fun F up le => trivial) (by rintro v A P ⟨rfl, rfl, rfl⟩; first | rfl | rw [hb66])
                  · intro V a w e hS hq
                    exact d_callV (d := 33) [] hS (args := #[Value.agg #[.int .i64 x33.table, .int .u16 x33.id], Value.agg #[.int .i64 x22.table, .int .u16 x22.id]]) (by kernel_rfl) rfl (row_Compare_ok n x33 x22 y65 hy65) (fun F up le => trivial) (by rintro v A P ⟨rfl, rfl, rfl⟩; first | rfl | rw [hb66])
                intro V a w e hS hq
                refine r_run 16 2 [0, 4, 6, 16, 17, 18, 22, 23, 24, 45] [] hS rfl (L' := [(0, .slice a8 l10.length c9), (4, .pointer (some ⟨b23, 0, none⟩)), (6, .pointer (some ⟨b34, 0, none⟩)), (16, .slice a8 l10.length c9), (17, .int .i64 (l10.length : Int)), (18, .int .i64 v14), (22, .slice a8 l10.length c9), (23, .int .i64 (l10.length : Int)), (24, .int .i64 v25), (45, .bool true)]) (As' := [.box b34 [.int .i64 x33.table, .int .u16 x33.id], .box b23 [.int .i64 x22.table, .int .u16 x22.id]]) (ob := []) (by kernel_rfl) (trivial) fun a w hS => ?_
                refine wl_end ?_
                exact JK37 true _ _ (hS.got [0, 4, 6, 16, 17, 18, 22, 23, 24, 45] [0, 0] [] 0 (by kernel_rfl) (by kernel_rfl) (by kernel_rfl)) h
            · replace h := cfalse hb30 h
              refine k_exit 2 (by kernel_rfl) ?_
              refine hK20 _ _ ?_
              refine k_reg 2 (by kernel_rfl) ?_
              refine r_run 0 2 [0, 16, 17, 18] [] hS rfl (L' := [(0, .slice a8 l10.length c9), (16, .slice a8 l10.length c9), (17, .int .i64 (l10.length : Int)), (18, .int .i64 (IntKind.wrap .i64 (v14 + 1)))]) (As' := [.box b23 [.int .i64 x22.table, .int .u16 x22.id]]) (ob := []) (by kernel_rfl) (trivial) fun a w hS => ?_
              refine wl_end ?_
              exact hK16 m15 _ _ (Nat.lt_succ_self _) ⟨(IntKind.wrap .i64 (v14 + 1)), h, (hS.got [0, 16, 17, 18] [] [] 0 (by kernel_rfl) (by kernel_rfl) (by kernel_rfl))⟩
        · replace h := cfalse hb19 h
          refine k_exit 0 (by kernel_rfl) ?_
          refine hK12 _ _ ?_
          refine k_seq (by kernel_rfl) fun K68 hK68 => ?_
          refine k_reg 1 (by kernel_rfl) ?_
          refine r_run 0 1 [2] [] hS rfl (L' := [(2, .bool true)]) (As' := []) (ob := []) (by kernel_rfl) (trivial) fun a w hS => ?_
          refine wl_end ?_
          refine hK68 _ _ ?_
          refine k_ret (by kernel_rfl) ?_
          obtain rfl := someI h
          try simp only [Exit.then, Exit.inBlock]
          refine r_ret hS [.tmp 2] [] (xs := [.bool true]) (ps := []) [] [] rfl (by kernel_rfl) (fun hA => trivial) rfl (fun F up => trivial) ?_
          exact ⟨rfl, rfl, rfl⟩
    refine k_seq (by kernel_rfl) fun K69 hK69 => ?_
    refine k_reg 3 (by kernel_rfl) ?_
    refine r_run 0 3 [0, 13] [] hS rfl (L' := [(0, .slice a0 p0.length c0), (13, .bool (decide ((p0.length : Int) > 12)))]) (As' := []) (ob := []) (by kernel_rfl) (trivial) fun a w hS => ?_
    refine wl_end ?_
    refine hK69 _ _ ?_
    refine k_cond (decide ((p0.length : Int) > 12)) hS.has (by kernel_rfl) (by kernel_rfl) (by kernel_rfl) (fun hb70 => ?_) (fun hb70 => ?_)
    · replace h := ctrue hb70 h
      refine k_reg 3 (by kernel_rfl) ?_
      obtain ⟨l71, hl71, h⟩ := bindS h
      have sl71 := subB (F := flat_Key) (hS.p 0 rfl) hl71
      refine r_run 0 3 [0] [.as 15 (.slice (slA a0 (Int.toNat 0) c0 2) l71.length (c0 - Int.toNat 0))] hS rfl (L' := [(0, .slice (slA a0 (Int.toNat 0) c0 2) l71.length (c0 - Int.toNat 0))]) (As' := []) (ob := [fun _ => 0 ≤ 0 ∧ 0 ≤ 12 ∧ 12 ≤ (c0 : Int), fun _ => Value.slice (slA a0 (Int.toNat 0) c0 2) (Int.toNat 12 - Int.toNat 0) (c0 - Int.toNat 0) = .slice (slA a0 (Int.toNat 0) c0 2) l71.length (c0 - Int.toNat 0)]) (by kernel_rfl) (⟨Bx.c sl71.1, Bx.c (by rw [sl71.2.1]), trivial⟩) fun a w hS => ?_
      replace hS := hS.addP (subB (F := flat_Key) (hS.p 0 rfl) hl71).2.2
      refine wl_end ?_
      exact JK7 (slA a0 (Int.toNat 0) c0 2) (c0 - Int.toNat 0) l71 _ _ (hS.got [0] [] [0] 1 (by kernel_rfl) (by kernel_rfl) (by kernel_rfl)) h
    · replace h := cfalse hb70 h
      refine k_skip (by kernel_rfl) ?_
      exact JK7 a0 c0 p0 _ _ (hS.got [0] [] [0] 0 (by kernel_rfl) (by kernel_rfl) (by kernel_rfl)) h

/-! bursary row.Of -/
def row_Of_j1 (n : Nat) (v9 : Int) (k_row_Of_l1 : ((List Row) → Int → Option (List Row))) (l18 : (List Row)) : Option (List Row) :=
  k_row_Of_l1 l18 (IntKind.wrap .i64 (v9 + 1))
def row_Of_l1 (n : Nat) (p0 : (List Row)) (p1 : Int) : Nat → (List Row) → Int → Option (List Row)
  | 0, _, _ => none
  | m10 + 1, l7, v9 =>
    cond (decide (v9 < (p0.length : Int)))
      ((idx p0 v9).bind fun x20 =>
      cond (x20.key.table == p1)
        ((app 40 l7 ([x20] : List Row)).bind fun l25 =>
        row_Of_j1 n v9 (row_Of_l1 n p0 p1 m10) l25)
        (row_Of_j1 n v9 (row_Of_l1 n p0 p1 m10) l7))
      (some l7)
def row_Of (n : Nat) (p0 : (List Row)) (p1 : Int) : Option (List Row) :=
  row_Of_l1 n p0 p1 n ([] : List Row) 0
theorem row_Of_ok {a0 : Option Addr} {c0 : Nat} (n : Nat) (p0 : (List Row)) (p1 : Int) (r : (List Row))  (h : row_Of n p0 p1 = some r) :
    Meets Try.prog 20 #[.slice a0 p0.length c0, .int .i64 p1] [] [RSf flat_Row a0 c0 p0] fun v A P => ∃ (a0 : Option Addr) (c0 : Nat), v = .slice a0 r.length c0 ∧ A = [rowF flat_Row 38 a0 c0 r] ∧ P = [] := by
  unfold row_Of at h
  refine meets_enter 25 Try.func20 Try.call20 rfl (by kernel_rfl) (by simp) fun C a w hS => ?_
  refine k_seq (by kernel_rfl) fun K1 hK1 => ?_
  refine k_reg 1 (by kernel_rfl) ?_
  refine r_run 0 1 [0, 1] [] hS rfl (L' := [(0, .slice a0 p0.length c0), (1, .int .i64 p1)]) (As' := []) (ob := []) (by kernel_rfl) (trivial) fun a w hS => ?_
  refine wl_end ?_
  refine hK1 _ _ ?_
  refine k_seq (by kernel_rfl) fun K2 hK2 => ?_
  refine k_reg 1 (by kernel_rfl) ?_
  refine r_run 0 1 [0, 1, 5] [] hS rfl (L' := [(0, .slice a0 p0.length c0), (1, .int .i64 p1), (5, .slice none 0 0)]) (As' := []) (ob := []) (by kernel_rfl) (trivial) fun a w hS => ?_
  refine wl_end ?_
  refine hK2 _ _ ?_
  refine k_seq (by kernel_rfl) fun K3 hK3 => ?_
  refine k_seq (by kernel_rfl) fun K4 hK4 => ?_
  refine k_reg 3 (by kernel_rfl) ?_
  refine r_run 0 3 [1, 5, 8, 9, 10] [] hS rfl (L' := [(1, .int .i64 p1), (5, .slice none 0 0), (8, .slice a0 p0.length c0), (9, .int .i64 (p0.length : Int)), (10, .int .i64 0)]) (As' := []) (ob := []) (by kernel_rfl) (trivial) fun a w hS => ?_
  refine wl_end ?_
  refine hK4 _ _ ?_
  refine k_blk (by kernel_rfl) ?_
  replace hS := hS.nilrow (e := 38) (sz := 4)
  refine k_loop (by kernel_rfl) (fun m10 a w => ∃ (a5 : Option Addr) (c6 : Nat) (l7 : (List Row)) (v9 : Int), row_Of_l1 n p0 p1 m10 l7 v9 = some r ∧ Sy C 25 a w [(1, .int .i64 p1), (5, .slice a5 l7.length c6), (8, .slice a0 p0.length c0), (9, .int .i64 (p0.length : Int)), (10, .int .i64 v9)] [rowF flat_Row 38 a5 c6 l7] [RSf flat_Row a0 c0 p0]) n ⟨none, 0, ([] : List Row), 0, h, (hS.got [1, 5, 8, 9, 10] [0] [] 0 (by kernel_rfl) (by kernel_rfl) (by kernel_rfl))⟩ ?_
  rintro m10 a w ⟨a5, c6, l7, v9, h, hS⟩ K11 hK11
  cases m10 with
  | zero => exact (noneS h).elim
  | succ m10 =>
    unfold row_Of_l1 at h
    refine k_seq (by kernel_rfl) fun K12 hK12 => ?_
    refine k_reg 1 (by kernel_rfl) ?_
    refine r_run 0 1 [1, 5, 8, 9, 10, 11] [] hS rfl (L' := [(1, .int .i64 p1), (5, .slice a5 l7.length c6), (8, .slice a0 p0.length c0), (9, .int .i64 (p0.length : Int)), (10, .int .i64 v9), (11, .bool (decide (v9 < (p0.length : Int))))]) (As' := [rowF flat_Row 38 a5 c6 l7]) (ob := []) (by kernel_rfl) (trivial) fun a w hS => ?_
    refine wl_end ?_
    refine hK12 _ _ ?_
    refine k_seq (by kernel_rfl) fun K13 hK13 => ?_
    refine k_cond (decide (v9 < (p0.length : Int))) hS.has (by kernel_rfl) (by kernel_rfl) (by kernel_rfl) (fun hb14 => ?_) (fun hb14 => ?_)
    · replace h := ctrue hb14 h
      refine k_skip (by kernel_rfl) ?_
      refine hK13 _ _ ?_
      refine k_seq (by kernel_rfl) fun K15 hK15 => ?_
      have JK15 : ∀ (a16 : Option Addr) (c17 : Nat) (l18 : (List Row)) a w, Sy C 25 a w [(1, .int .i64 p1), (5, .slice a16 l18.length c17), (8, .slice a0 p0.length c0), (9, .int .i64 (p0.length : Int)), (10, .int .i64 v9)] [rowF flat_Row 38 a16 c17 l18] [RSf flat_Row a0 c0 p0] → row_Of_j1 n v9 (row_Of_l1 n p0 p1 m10) l18 = some r → K15 a w := by
        intro a16 c17 l18 a w hS h
        unfold row_Of_j1 at h
        refine hK15 _ _ ?_
        refine k_reg 2 (by kernel_rfl) ?_
        refine r_run 0 2 [1, 5, 8, 9, 10] [] hS rfl (L' := [(1, .int .i64 p1), (5, .slice a16 l18.length c17), (8, .slice a0 p0.length c0), (9, .int .i64 (p0.length : Int)), (10, .int .i64 (IntKind.wrap .i64 (v9 + 1)))]) (As' := [rowF flat_Row 38 a16 c17 l18]) (ob := []) (by kernel_rfl) (trivial) fun a w hS => ?_
        refine wl_end ?_
        exact hK11 m10 _ _ (Nat.lt_succ_self _) ⟨a16, c17, l18, (IntKind.wrap .i64 (v9 + 1)), h, (hS.got [1, 5, 8, 9, 10] [0] [] 0 (by kernel_rfl) (by kernel_rfl) (by kernel_rfl))⟩
      refine k_blk (by kernel_rfl) ?_
      refine k_seq (by kernel_rfl) fun K19 hK19 => ?_
      refine k_reg 4 (by kernel_rfl) ?_
      obtain ⟨x20, hx20, h⟩ := bindS h
      have ix20 := fidxB (F := flat_Row) (hS.p 0 rfl) hx20
      refine r_run1 0 4 [1, 5, 7, 8, 9, 10] [.ext [.int .i64 x20.key.table, .int .u16 x20.key.id, .int .i64 x20.val, .string x20.note], .own 0 0] hS rfl (L' := fun b21 => [(1, .int .i64 p1), (5, .slice a5 l7.length c6), (7, .pointer (some ⟨b21, 0, none⟩)), (8, .slice a0 p0.length c0), (9, .int .i64 (p0.length : Int)), (10, .int .i64 v9)]) (As' := fun b21 => [.box b21 [.int .i64 x20.key.table, .int .u16 x20.key.id, .int .i64 x20.val, .string x20.note], rowF flat_Row 38 a5 c6 l7]) (ob := fun b21 => [fun _ => Inb a0 p0.length v9, Cel (Addr.add (baseOf a0) (Int.toNat v9 * 4)) [.int .i64 x20.key.table, .int .u16 x20.key.id, .int .i64 x20.val, .string x20.note], fun _ => (⟨b21, 0, none⟩ : Addr) = (⟨b21, 0, none⟩ : Addr).add 0, fun _ => ∀ u ∈ ([.int .i64 x20.key.table, .int .u16 x20.key.id, .int .i64 x20.val, .string x20.note] : List Value), u.oneCell' = true]) (fun b21 => by kernel_rfl) (fun b21 => ⟨Bx.c ix20.1, ix20.2, Bx.c rfl, Bx.c (oneAll rfl), trivial⟩) fun b21 a w hS => ?_
      refine wl_end ?_
      refine hK19 _ _ ?_
      refine k_seq (by kernel_rfl) fun K22 hK22 => ?_
      refine k_reg 5 (by kernel_rfl) ?_
      refine r_run 0 5 [1, 5, 7, 8, 9, 10, 18] [.own 0 0] hS rfl (L' := [(1, .int .i64 p1), (5, .slice a5 l7.length c6), (7, .pointer (some ⟨b21, 0, none⟩)), (8, .slice a0 p0.length c0), (9, .int .i64 (p0.length : Int)), (10, .int .i64 v9), (18, .bool (x20.key.table == p1))]) (As' := [.box b21 [.int .i64 x20.key.table, .int .u16 x20.key.id, .int .i64 x20.val, .string x20.note], rowF flat_Row 38 a5 c6 l7]) (ob := [fun _ => (⟨b21, 0, none⟩ : Addr) = (⟨b21, 0, none⟩ : Addr).add 0]) (by kernel_rfl) (⟨Bx.c rfl, trivial⟩) fun a w hS => ?_
      refine wl_end ?_
      refine hK22 _ _ ?_
      refine k_cond (x20.key.table == p1) hS.has (by kernel_rfl) (by kernel_rfl) (by kernel_rfl) (fun hb23 => ?_) (fun hb23 => ?_)
      · replace h := ctrue hb23 h
        refine k_reg 5 (by kernel_rfl) ?_
        refine r_run1 0 3 [1, 8, 9, 10, 19, 21] [.own 0 0] hS rfl (L' := fun b24 => [(1, .int .i64 p1), (8, .slice a0 p0.length c0), (9, .int .i64 (p0.length : Int)), (10, .int .i64 v9), (19, .slice a5 l7.length c6), (21, .slice (some ⟨b24, 0, none⟩) ([x20] : List Row).length 1)]) (As' := fun b24 => [rowF flat_Row 38 (some ⟨b24, 0, none⟩) 1 ([x20] : List Row), .box b21 [.int .i64 x20.key.table, .int .u16 x20.key.id, .int .i64 x20.val, .string x20.note], rowF flat_Row 38 a5 c6 l7]) (ob := fun b24 => [fun _ => (⟨b21, 0, none⟩ : Addr) = (⟨b21, 0, none⟩ : Addr).add 0]) (fun b24 => by kernel_rfl) (fun b24 => ⟨Bx.c rfl, trivial⟩) fun b24 a w hS => ?_
        obtain ⟨l25, hl25, h⟩ := bindS h
        obtain ⟨hl25r, hl25e⟩ := app_some hl25
        refine r_append 3 rfl (d := 22) (t := 25) (A := a5) (c := c6) (k := l7.length) (b := (some ⟨b24, 0, none⟩)) (c2 := 1) (m := ([x20] : List Row).length) (([x20] : List Row).flatMap flat_Row.enc) 2 [0] hS appT_25 (by kernel_rfl) rfl rfl (fun F up le => appB (F := flat_Row) (le 0 rfl _ fun w h => rowRS h)) hl25r fun a26 c27 a w hS => ?_
        replace hS := rowF_app (F := flat_Row) (l := l7) (m := ([x20] : List Row)) hS hl25e
        refine r_run 4 1 [1, 5, 8, 9, 10] [] hS rfl (L' := [(1, .int .i64 p1), (5, .slice a26 l25.length c27), (8, .slice a0 p0.length c0), (9, .int .i64 (p0.length : Int)), (10, .int .i64 v9)]) (As' := [rowF flat_Row 38 a26 c27 l25, rowF flat_Row 38 (some ⟨b24, 0, none⟩) 1 ([x20] : List Row), .box b21 [.int .i64 x20.key.table, .int .u16 x20.key.id, .int .i64 x20.val, .string x20.note]]) (ob := []) (by kernel_rfl) (trivial) fun a w hS => ?_
        refine wl_end ?_
        exact JK15 a26 c27 l25 _ _ (hS.got [1, 5, 8, 9, 10] [0] [] 0 (by kernel_rfl) (by kernel_rfl) (by kernel_rfl)) h
      · replace h := cfalse hb23 h
        refine k_skip (by kernel_rfl) ?_
        exact JK15 a5 c6 l7 _ _ (hS.got [1, 5, 8, 9, 10] [1] [] 0 (by kernel_rfl) (by kernel_rfl) (by kernel_rfl)) h
    · replace h := cfalse hb14 h
      refine k_exit 0 (by kernel_rfl) ?_
      refine hK3 _ _ ?_
      refine k_seq (by kernel_rfl) fun K28 hK28 => ?_
      refine k_reg 2 (by kernel_rfl) ?_
      refine r_run 0 2 [4] [] hS rfl (L' := [(4, .slice a5 l7.length c6)]) (As' := [rowF flat_Row 38 a5 c6 l7]) (ob := []) (by kernel_rfl) (trivial) fun a w hS => ?_
      refine wl_end ?_
      refine hK28 _ _ ?_
      refine k_ret (by kernel_rfl) ?_
      obtain rfl := someI h
      try simp only [Exit.then, Exit.inBlock]
      refine r_ret hS [.tmp 4] [] (xs := [.slice a5 l7.length c6]) (ps := []) [0] [] rfl (by kernel_rfl) (fun hA => trivial) rfl (fun F up => trivial) ?_
      exact ⟨a5, c6, rfl, rfl, rfl⟩

/-! slices.Equal   bursary api.Row bursary api.Row  -/
def slices_Equal_Row_l1 (n : Nat) (p0 : (List Row)) (p1 : (List Row)) : Nat → Int → Option Bool
  | 0, _ => none
  | m9 + 1, v8 =>
    cond (decide (v8 < (p0.length : Int)))
      ((idx p0 v8).bind fun x17 =>
      (idx p1 v8).bind fun x18 =>
      cond (!(Row.eqb x17 x18))
        (some false)
        (slices_Equal_Row_l1 n p0 p1 m9 (IntKind.wrap .i64 (v8 + 1))))
      (some true)
def slices_Equal_Row (n : Nat) (p0 : (List Row)) (p1 : (List Row)) : Option Bool :=
  cond ((p0.length : Int) != (p1.length : Int))
    (some false)
    (slices_Equal_Row_l1 n p0 p1 n 0)
theorem slices_Equal_Row_ok {a0 : Option Addr} {c0 : Nat} {a1 : Option Addr} {c1 : Nat} (n : Nat) (p0 : (List Row)) (p1 : (List Row)) (r : Bool)  (h : slices_Equal_Row n p0 p1 = some r) :
    Meets Try.prog 41 #[.slice a0 p0.length c0, .slice a1 p1.length c1] [] [RSf flat_Row a0 c0 p0, RSf flat_Row a1 c1 p1] fun v A P => v = .bool r ∧ A = [] ∧ P = [] := by
  unfold slices_Equal_Row at h
  refine meets_enter 26 Try.func41 Try.call41 rfl (by kernel_rfl) (by simp) fun C a w hS => ?_
  refine k_seq (by kernel_rfl) fun K1 hK1 => ?_
  refine k_reg 1 (by kernel_rfl) ?_
  refine r_run 0 1 [0, 1] [] hS rfl (L' := [(0, .slice a0 p0.length c0), (1, .slice a1 p1.length c1)]) (As' := []) (ob := []) (by kernel_rfl) (trivial) fun a w hS => ?_
  refine wl_end ?_
  refine hK1 _ _ ?_
  refine k_seq (by kernel_rfl) fun K2 hK2 => ?_
  refine k_seq (by kernel_rfl) fun K3 hK3 => ?_
  refine k_reg 5 (by kernel_rfl) ?_
  refine r_run 0 5 [0, 1, 10] [] hS rfl (L' := [(0, .slice a0 p0.length c0), (1, .slice a1 p1.length c1), (10, .bool ((p0.length : Int) != (p1.length : Int)))]) (As' := []) (ob := []) (by kernel_rfl) (trivial) fun a w hS => ?_
  refine wl_end ?_
  refine hK3 _ _ ?_
  refine k_cond ((p0.length : Int) != (p1.length : Int)) hS.has (by kernel_rfl) (by kernel_rfl) (by kernel_rfl) (fun hb4 => ?_) (fun hb4 => ?_)
  · replace h := ctrue hb4 h
    refine k_seq (by kernel_rfl) fun K5 hK5 => ?_
    refine k_reg 1 (by kernel_rfl) ?_
    refine r_run 0 1 [4] [] hS rfl (L' := [(4, .bool false)]) (As' := []) (ob := []) (by kernel_rfl) (trivial) fun a w hS => ?_
    refine wl_end ?_
    refine hK5 _ _ ?_
    refine k_ret (by kernel_rfl) ?_
    obtain rfl := someI h
    try simp only [Exit.then, Exit.inBlock]
    refine r_ret hS [.tmp 4] [] (xs := [.bool false]) (ps := []) [] [] rfl (by kernel_rfl) (fun hA => trivial) rfl (fun F up => trivial) ?_
    exact ⟨rfl, rfl, rfl⟩
  · replace h := cfalse hb4 h
    refine k_skip (by kernel_rfl) ?_
    refine hK2 _ _ ?_
    refine k_seq (by kernel_rfl) fun K6 hK6 => ?_
    refine k_seq (by kernel_rfl) fun K7 hK7 => ?_
    refine k_reg 3 (by kernel_rfl) ?_
    refine r_run 0 3 [0, 1, 12, 13] [] hS rfl (L' := [(0, .slice a0 p0.length c0), (1, .slice a1 p1.length c1), (12, .int .i64 (p0.length : Int)), (13, .int .i64 0)]) (As' := []) (ob := []) (by kernel_rfl) (trivial) fun a w hS => ?_
    refine wl_end ?_
    refine hK7 _ _ ?_
    refine k_blk (by kernel_rfl) ?_
    refine k_loop (by kernel_rfl) (fun m9 a w => ∃ (v8 : Int), slices_Equal_Row_l1 n p0 p1 m9 v8 = some r ∧ Sy C 26 a w [(0, .slice a0 p0.length c0), (1, .slice a1 p1.length c1), (12, .int .i64 (p0.length : Int)), (13, .int .i64 v8)] [] [RSf flat_Row a0 c0 p0, RSf flat_Row a1 c1 p1]) n ⟨0, h, (hS.got [0, 1, 12, 13] [] [] 0 (by kernel_rfl) (by kernel_rfl) (by kernel_rfl))⟩ ?_
    rintro m9 a w ⟨v8, h, hS⟩ K10 hK10
    cases m9 with
    | zero => exact (noneS h).elim
    | succ m9 =>
      unfold slices_Equal_Row_l1 at h
      refine k_seq (by kernel_rfl) fun K11 hK11 => ?_
      refine k_reg 1 (by kernel_rfl) ?_
      refine r_run 0 1 [0, 1, 12, 13, 14] [] hS rfl (L' := [(0, .slice a0 p0.length c0), (1, .slice a1 p1.length c1), (12, .int .i64 (p0.length : Int)), (13, .int .i64 v8), (14, .bool (decide (v8 < (p0.length : Int))))]) (As' := []) (ob := []) (by kernel_rfl) (trivial) fun a w hS => ?_
      refine wl_end ?_
      refine hK11 _ _ ?_
      refine k_seq (by kernel_rfl) fun K12 hK12 => ?_
      refine k_cond (decide (v8 < (p0.length : Int))) hS.has (by kernel_rfl) (by kernel_rfl) (by kernel_rfl) (fun hb13 => ?_) (fun hb13 => ?_)
      · replace h := ctrue hb13 h
        refine k_skip (by kernel_rfl) ?_
        refine hK12 _ _ ?_
        refine k_seq (by kernel_rfl) fun K14 hK14 => ?_
        refine k_blk (by kernel_rfl) ?_
        refine k_seq (by kernel_rfl) fun K15 hK15 => ?_
        refine k_reg 2 (by kernel_rfl) ?_
        refine r_run 0 2 [0, 1, 5, 12, 13] [] hS rfl (L' := [(0, .slice a0 p0.length c0), (1, .slice a1 p1.length c1), (5, .int .i64 v8), (12, .int .i64 (p0.length : Int)), (13, .int .i64 v8)]) (As' := []) (ob := []) (by kernel_rfl) (trivial) fun a w hS => ?_
        refine wl_end ?_
        refine hK15 _ _ ?_
        refine k_seq (by kernel_rfl) fun K16 hK16 => ?_
        obtain ⟨x17, hx17, h⟩ := bindS h
        have ix17 := fidxB (F := flat_Row) (hS.p 0 rfl) hx17
        obtain ⟨x18, hx18, h⟩ := bindS h
        have ix18 := fidxB (F := flat_Row) (hS.p 1 rfl) hx18
        refine k_draw 8 9 [.val (.slice a0 p0.length c0), .val (.int .i64 v8), .val (.pointer (some (Addr.add (baseOf a0) (Int.toNat v8 * 4)))), .val (Value.agg #[.int .i64 x17.key.table, .int .u16 x17.key.id, .int .i64 x17.val, .string x17.note]), .val (.slice a1 p1.length c1), .val (.int .i64 v8), .val (.pointer (some (Addr.add (baseOf a1) (Int.toNat v8 * 4)))), .val (Value.agg #[.int .i64 x18.key.table, .int .u16 x18.key.id, .int .i64 x18.val, .string x18.note])] [] [(0, []), (1, []), (2, []), (3, [.ext [.int .i64 x17.key.table, .int .u16 x17.key.id, .int .i64 x17.val, .string x17.note]]), (4, []), (5, []), (6, []), (7, [.ext [.int .i64 x18.key.table, .int .u16 x18.key.id, .int .i64 x18.val, .string x18.note]])] [] (ob := [fun _ => Inb a0 p0.length v8, Cel (Addr.add (baseOf a0) (Int.toNat v8 * 4)) [.int .i64 x17.key.table, .int .u16 x17.key.id, .int .i64 x17.val, .string x17.note], fun _ => Inb a1 p1.length v8, Cel (Addr.add (baseOf a1) (Int.toNat v8 * 4)) [.int .i64 x18.key.table, .int .u16 x18.key.id, .int .i64 x18.val, .string x18.note]]) (by kernel_rfl) (by kernel_rfl) hS (by kernel_rfl) (fun F N0 => by kernel_rfl) (by kernel_rfl) (by kernel_rfl) (by kernel_rfl) (by kernel_rfl) ⟨Bx.c ix17.1, ix17.2, Bx.c ix18.1, ix18.2, trivial⟩ ?_ ?_
        · exact trivial
        intro V a w e hS hq
        refine r_run 8 1 [0, 1, 12, 13, 24] [.val (.bool (!(Row.eqb x17 x18)))] hS rfl (L' := [(0, .slice a0 p0.length c0), (1, .slice a1 p1.length c1), (12, .int .i64 (p0.length : Int)), (13, .int .i64 v8), (24, .bool (!(Row.eqb x17 x18)))]) (As' := []) (ob := [fun w => EqOk Try.prog .neq 38 (Value.agg #[.int .i64 x17.key.table, .int .u16 x17.key.id, .int .i64 x17.val, .string x17.note]) (Value.agg #[.int .i64 x18.key.table, .int .u16 x18.key.id, .int .i64 x18.val, .string x18.note]) (.bool (!(Row.eqb x17 x18))) w]) (by kernel_rfl) (⟨fun w _ => Row_neq x17.key.table x17.key.id x17.val x17.note x18.key.table x18.key.id x18.val x18.note w, trivial⟩) fun a w hS => ?_
        refine wl_end ?_
        refine hK16 _ _ ?_
        refine k_cond (!(Row.eqb x17 x18)) hS.has (by kernel_rfl) (by kernel_rfl) (by kernel_rfl) (fun hb19 => ?_) (fun hb19 => ?_)
        · replace h := ctrue hb19 h
          refine k_seq (by kernel_rfl) fun K20 hK20 => ?_
          refine k_reg 1 (by kernel_rfl) ?_
          refine r_run 0 1 [4] [] hS rfl (L' := [(4, .bool false)]) (As' := []) (ob := []) (by kernel_rfl) (trivial) fun a w hS => ?_
          refine wl_end ?_
          refine hK20 _ _ ?_
          refine k_ret (by kernel_rfl) ?_
          obtain rfl := someI h
          try simp only [Exit.then, Exit.inBlock]
          refine r_ret hS [.tmp 4] [] (xs := [.bool false]) (ps := []) [] [] rfl (by kernel_rfl) (fun hA => trivial) rfl (fun F up => trivial) ?_
          exact ⟨rfl, rfl, rfl⟩
        · replace h := cfalse hb19 h
          refine k_skip (by kernel_rfl) ?_
          refine hK14 _ _ ?_
          refine k_reg 2 (by kernel_rfl) ?_
          refine r_run 0 2 [0, 1, 12, 13] [] hS rfl (L' := [(0, .slice a0 p0.length c0), (1, .slice a1 p1.length c1), (12, .int .i64 (p0.length : Int)), (13, .int .i64 (IntKind.wrap .i64 (v8 + 1)))]) (As' := []) (ob := []) (by kernel_rfl) (trivial) fun a w hS => ?_
          refine wl_end ?_
          exact hK10 m9 _ _ (Nat.lt_succ_self _) ⟨(IntKind.wrap .i64 (v8 + 1)), h, (hS.got [0, 1, 12, 13] [] [] 0 (by kernel_rfl) (by kernel_rfl) (by kernel_rfl))⟩
      · replace h := cfalse hb13 h
        refine k_exit 0 (by kernel_rfl) ?_
        refine hK6 _ _ ?_
        refine k_seq (by kernel_rfl) fun K21 hK21 => ?_
        refine k_reg 1 (by kernel_rfl) ?_
        refine r_run 0 1 [4] [] hS rfl (L' := [(4, .bool true)]) (As' := []) (ob := []) (by kernel_rfl) (trivial) fun a w hS => ?_
        refine wl_end ?_
        refine hK21 _ _ ?_
        refine k_ret (by kernel_rfl) ?_
        obtain rfl := someI h
        try simp only [Exit.then, Exit.inBlock]
        refine r_ret hS [.tmp 4] [] (xs := [.bool true]) (ps := []) [] [] rfl (by kernel_rfl) (fun hA => trivial) rfl (fun F up => trivial) ?_
        exact ⟨rfl, rfl, rfl⟩

/-! bursary row.Same -/
def row_Same (n : Nat) (p0 : (List Row)) (p1 : (List Row)) : Option Bool :=
  (slices_Equal_Row n p0 p1).bind fun y3 =>
  some y3
theorem row_Same_ok {a0 : Option Addr} {c0 : Nat} {a1 : Option Addr} {c1 : Nat} (n : Nat) (p0 : (List Row)) (p1 : (List Row)) (r : Bool)  (h : row_Same n p0 p1 = some r) :
    Meets Try.prog 21 #[.slice a0 p0.length c0, .slice a1 p1.length c1] [] [RSf flat_Row a0 c0 p0, RSf flat_Row a1 c1 p1] fun v A P => v = .bool r ∧ A = [] ∧ P = [] := by
  unfold row_Same at h
  refine meets_enter 8 Try.func21 Try.call21 rfl (by kernel_rfl) (by simp) fun C a w hS => ?_
  refine k_seq (by kernel_rfl) fun K1 hK1 => ?_
  refine k_reg 1 (by kernel_rfl) ?_
  refine r_run 0 1 [0, 1] [] hS rfl (L' := [(0, .slice a0 p0.length c0), (1, .slice a1 p1.length c1)]) (As' := []) (ob := []) (by kernel_rfl) (trivial) fun a w hS => ?_
  refine wl_end ?_
  refine hK1 _ _ ?_
  refine k_seq (by kernel_rfl) fun K2 hK2 => ?_
  refine k_reg 4 (by kernel_rfl) ?_
  refine r_run 0 2 [5, 6] [] hS rfl (L' := [(5, .slice a0 p0.length c0), (6, .slice a1 p1.length c1)]) (As' := []) (ob := []) (by kernel_rfl) (trivial) fun a w hS => ?_
  obtain ⟨y3, hy3, h⟩ := bindS h
  refine r_call 2 rfl (d := some 7) (g := 41) (args := #[.slice a0 p0.length c0, .slice a1 p1.length c1]) [] hS (by kernel_rfl) rfl (slices_Equal_Row_ok n p0 p1 y3 hy3) (fun F up => ⟨up (hS.p 0 rfl), up (hS.p 1 rfl), trivial⟩) ?_
  rintro v A P a w ⟨rfl, rfl, rfl⟩ hS
  refine r_run 3 1 [4] [] hS rfl (L' := [(4, .bool y3)]) (As' := []) (ob := []) (by kernel_rfl) (trivial) fun a w hS => ?_
  refine wl_end ?_
  refine hK2 _ _ ?_
  refine k_ret (by kernel_rfl) ?_
  obtain rfl := someI h
  try simp only [Exit.then, Exit.inBlock]
  refine r_ret hS [.tmp 4] [] (xs := [.bool y3]) (ps := []) [] [] rfl (by kernel_rfl) (fun hA => trivial) rfl (fun F up => trivial) ?_
  exact ⟨rfl, rfl, rfl⟩

/-! bursary bursarylaw05.RowTables -/
def law05_RowTables_l2 (n : Nat) (l20 : (List Row)) (v22 : Int) (y31 : (List Row)) (k_law05_RowTables_l1 : ((List Row) → Int → Option Bool)) : Nat → Int → Option Bool
  | 0, _ => none
  | m38 + 1, v37 =>
    cond (decide (v37 < (y31.length : Int)))
      ((idx y31 v37).bind fun x45 =>
      cond (x45.key.table != v22)
        (some false)
        (law05_RowTables_l2 n l20 v22 y31 k_law05_RowTables_l1 m38 (IntKind.wrap .i64 (v37 + 1))))
      ((app 40 l20 y31).bind fun l50 =>
      k_law05_RowTables_l1 l50 (IntKind.wrap .i64 (v22 + 1)))
def law05_RowTables_l1 (n : Nat) (p0 : Schema) (p1 : (List Row)) : Nat → (List Row) → Int → Option Bool
  | 0, _, _ => none
  | m23 + 1, l20, v22 =>
    cond (decide (v22 < (p0.tables.length : Int)))
      ((row_Of n p1 v22).bind fun y31 =>
      law05_RowTables_l2 n l20 v22 y31 (law05_RowTables_l1 n p0 p1 m23) n 0)
      ((row_Same n l20 p1).bind fun y54 =>
      some y54)
def law05_RowTables_j1 (n : Nat) (p0 : Schema) (p1 : (List Row)) (v12 : Bool) : Option Bool :=
  cond v12
    (some true)
    (law05_RowTables_l1 n p0 p1 n ([] : List Row) 0)
def law05_RowTables (n : Nat) (p0 : Schema) (p1 : (List Row)) : Option Bool :=
  (law05_wakes n).bind fun y5 =>
  cond (!y5)
    (some false)
    ((law05_over n p0 p1).bind fun y10 =>
    cond y10
      (law05_RowTables_j1 n p0 p1 true)
      ((row_CheckList n p0 p1).bind fun y57 =>
      law05_RowTables_j1 n p0 p1 (y57 != 0)))
theorem law05_RowTables_ok {a0_tables : Option Addr} {c0_tables : Nat} {a1 : Option Addr} {c1 : Nat} (n : Nat) (p0 : Schema) (p1 : (List Row)) (r : Bool)  (h : law05_RowTables n p0 p1 = some r) :
    Meets Try.prog 5 #[Value.agg #[.slice a0_tables p0.tables.length c0_tables], .slice a1 p1.length c1] [] [RSf flat_Bounds a0_tables c0_tables p0.tables, RSf flat_Row a1 c1 p1] fun v A P => v = .bool r ∧ A = [] ∧ P = [] := by
  unfold law05_RowTables at h
  refine meets_enter 49 Try.func5 Try.call5 rfl (by kernel_rfl) (by simp) fun C a w hS => ?_
  refine k_seq (by kernel_rfl) fun K1 hK1 => ?_
  refine k_reg 2 (by kernel_rfl) ?_
  refine r_run1 0 2 [1, 2] [] hS rfl (L' := fun b2 => [(1, .slice a1 p1.length c1), (2, .pointer (some ⟨b2, 0, none⟩))]) (As' := fun b2 => [.box b2 [.slice a0_tables p0.tables.length c0_tables]]) (ob := fun b2 => []) (fun b2 => by kernel_rfl) (fun b2 => trivial) fun b2 a w hS => ?_
  refine wl_end ?_
  refine hK1 _ _ ?_
  refine k_seq (by kernel_rfl) fun K3 hK3 => ?_
  refine k_seq (by kernel_rfl) fun K4 hK4 => ?_
  refine k_reg 2 (by kernel_rfl) ?_
  obtain ⟨y5, hy5, h⟩ := bindS h
  refine r_call 0 rfl (d := some 10) (g := 9) (args := #[]) [] hS (by kernel_rfl) rfl (law05_wakes_ok n y5 hy5) (fun F up => trivial) ?_
  rintro v A P a w ⟨rfl, rfl, rfl⟩ hS
  refine r_run 1 1 [1, 2, 11] [] hS rfl (L' := [(1, .slice a1 p1.length c1), (2, .pointer (some ⟨b2, 0, none⟩)), (11, .bool (!y5))]) (As' := [.box b2 [.slice a0_tables p0.tables.length c0_tables]]) (ob := []) (by kernel_rfl) (trivial) fun a w hS => ?_
  refine wl_end ?_
  refine hK4 _ _ ?_
  refine k_cond (!y5) hS.has (by kernel_rfl) (by kernel_rfl) (by kernel_rfl) (fun hb6 => ?_) (fun hb6 => ?_)
  · replace h := ctrue hb6 h
    refine k_seq (by kernel_rfl) fun K7 hK7 => ?_
    refine k_reg 1 (by kernel_rfl) ?_
    refine r_run 0 1 [4] [] hS rfl (L' := [(4, .bool false)]) (As' := [.box b2 [.slice a0_tables p0.tables.length c0_tables]]) (ob := []) (by kernel_rfl) (trivial) fun a w hS => ?_
    refine wl_end ?_
    refine hK7 _ _ ?_
    refine k_ret (by kernel_rfl) ?_
    obtain rfl := someI h
    try simp only [Exit.then, Exit.inBlock]
    refine r_ret hS [.tmp 4] [] (xs := [.bool false]) (ps := []) [] [] rfl (by kernel_rfl) (fun hA => trivial) rfl (fun F up => trivial) ?_
    exact ⟨rfl, rfl, rfl⟩
  · replace h := cfalse hb6 h
    refine k_skip (by kernel_rfl) ?_
    refine hK3 _ _ ?_
    refine k_seq (by kernel_rfl) fun K8 hK8 => ?_
    refine k_seq (by kernel_rfl) fun K9 hK9 => ?_
    refine k_reg 9 (by kernel_rfl) ?_
    refine r_run 0 2 [1, 2, 12, 13] [.own 0 0] hS rfl (L' := [(1, .slice a1 p1.length c1), (2, .pointer (some ⟨b2, 0, none⟩)), (12, Value.agg #[.slice a0_tables p0.tables.length c0_tables]), (13, .slice a1 p1.length c1)]) (As' := [.box b2 [.slice a0_tables p0.tables.length c0_tables]]) (ob := [fun _ => (⟨b2, 0, none⟩ : Addr) = (⟨b2, 0, none⟩ : Addr).add 0]) (by kernel_rfl) (⟨Bx.c rfl, trivial⟩) fun a w hS => ?_
    obtain ⟨y10, hy10, h⟩ := bindS h
    refine r_call 2 rfl (d := some 14) (g := 10) (args := #[Value.agg #[.slice a0_tables p0.tables.length c0_tables], .slice a1 p1.length c1]) [] hS (by kernel_rfl) rfl (law05_over_ok n p0 p1 y10 hy10) (fun F up => ⟨up (hS.p 0 rfl), up (hS.p 1 rfl), trivial⟩) ?_
    rintro v A P a w ⟨rfl, rfl, rfl⟩ hS
    refine r_run 3 1 [1, 2, 15] [] hS rfl (L' := [(1, .slice a1 p1.length c1), (2, .pointer (some ⟨b2, 0, none⟩)), (15, .bool y10)]) (As' := [.box b2 [.slice a0_tables p0.tables.length c0_tables]]) (ob := []) (by kernel_rfl) (trivial) fun a w hS => ?_
    refine wl_cut 9 rfl rfl fun K11 hK11 => ?_
    have JK11 : ∀ (v12 : Bool) a w, Sy C 49 a w [(1, .slice a1 p1.length c1), (2, .pointer (some ⟨b2, 0, none⟩)), (20, .bool v12)] [.box b2 [.slice a0_tables p0.tables.length c0_tables]] [RSf flat_Bounds a0_tables c0_tables p0.tables, RSf flat_Row a1 c1 p1] → law05_RowTables_j1 n p0 p1 v12 = some r → K11 a w := by
      intro v12 a w hS h
      unfold law05_RowTables_j1 at h
      refine hK11 _ _ ?_
      refine wl_end ?_
      refine hK9 _ _ ?_
      refine k_cond v12 hS.has (by kernel_rfl) (by kernel_rfl) (by kernel_rfl) (fun hb13 => ?_) (fun hb13 => ?_)
      · replace h := ctrue hb13 h
        refine k_seq (by kernel_rfl) fun K14 hK14 => ?_
        refine k_reg 1 (by kernel_rfl) ?_
        refine r_run 0 1 [4] [] hS rfl (L' := [(4, .bool true)]) (As' := [.box b2 [.slice a0_tables p0.tables.length c0_tables]]) (ob := []) (by kernel_rfl) (trivial) fun a w hS => ?_
        refine wl_end ?_
        refine hK14 _ _ ?_
        refine k_ret (by kernel_rfl) ?_
        obtain rfl := someI h
        try simp only [Exit.then, Exit.inBlock]
        refine r_ret hS [.tmp 4] [] (xs := [.bool true]) (ps := []) [] [] rfl (by kernel_rfl) (fun hA => trivial) rfl (fun F up => trivial) ?_
        exact ⟨rfl, rfl, rfl⟩
      · replace h := cfalse hb13 h
        refine k_skip (by kernel_rfl) ?_
        refine hK8 _ _ ?_
        refine k_seq (by kernel_rfl) fun K15 hK15 => ?_
        refine k_reg 1 (by kernel_rfl) ?_
        refine r_run 0 1 [1, 2, 5] [] hS rfl (L' := [(1, .slice a1 p1.length c1), (2, .pointer (some ⟨b2, 0, none⟩)), (5, .slice none 0 0)]) (As' := [.box b2 [.slice a0_tables p0.tables.length c0_tables]]) (ob := []) (by kernel_rfl) (trivial) fun a w hS => ?_
        refine wl_end ?_
        refine hK15 _ _ ?_
        refine k_seq (by kernel_rfl) fun K16 hK16 => ?_
        refine k_seq (by kernel_rfl) fun K17 hK17 => ?_
        refine k_reg 4 (by kernel_rfl) ?_
        refine r_run 0 4 [1, 5, 23, 24] [.own 0 0] hS rfl (L' := [(1, .slice a1 p1.length c1), (5, .slice none 0 0), (23, .int .i64 (p0.tables.length : Int)), (24, .int .i64 0)]) (As' := [.box b2 [.slice a0_tables p0.tables.length c0_tables]]) (ob := [fun _ => (⟨b2, 0, none⟩ : Addr) = (⟨b2, 0, none⟩ : Addr).add 0]) (by kernel_rfl) (⟨Bx.c rfl, trivial⟩) fun a w hS => ?_
        refine wl_end ?_
        refine hK17 _ _ ?_
        refine k_blk (by kernel_rfl) ?_
        replace hS := hS.nilrow (e := 38) (sz := 4)
        refine k_loop (by kernel_rfl) (fun m23 a w => ∃ (a18 : Option Addr) (c19 : Nat) (l20 : (List Row)) (v22 : Int), law05_RowTables_l1 n p0 p1 m23 l20 v22 = some r ∧ Sy C 49 a w [(1, .slice a1 p1.length c1), (5, .slice a18 l20.length c19), (23, .int .i64 (p0.tables.length : Int)), (24, .int .i64 v22)] [rowF flat_Row 38 a18 c19 l20, .box b2 [.slice a0_tables p0.tables.length c0_tables]] [RSf flat_Bounds a0_tables c0_tables p0.tables, RSf flat_Row a1 c1 p1]) n ⟨none, 0, ([] : List Row), 0, h, (hS.got [1, 5, 23, 24] [0, 0] [] 0 (by kernel_rfl) (by kernel_rfl) (by kernel_rfl))⟩ ?_
        rintro m23 a w ⟨a18, c19, l20, v22, h, hS⟩ K24 hK24
        cases m23 with
        | zero => exact (noneS h).elim
        | succ m23 =>
          unfold law05_RowTables_l1 at h
          refine k_seq (by kernel_rfl) fun K25 hK25 => ?_
          refine k_reg 1 (by kernel_rfl) ?_
          refine r_run 0 1 [1, 5, 23, 24, 25] [] hS rfl (L' := [(1, .slice a1 p1.length c1), (5, .slice a18 l20.length c19), (23, .int .i64 (p0.tables.length : Int)), (24, .int .i64 v22), (25, .bool (decide (v22 < (p0.tables.length : Int))))]) (As' := [rowF flat_Row 38 a18 c19 l20, .box b2 [.slice a0_tables p0.tables.length c0_tables]]) (ob := []) (by kernel_rfl) (trivial) fun a w hS => ?_
          refine wl_end ?_
          refine hK25 _ _ ?_
          refine k_seq (by kernel_rfl) fun K26 hK26 => ?_
          refine k_cond (decide (v22 < (p0.tables.length : Int))) hS.has (by kernel_rfl) (by kernel_rfl) (by kernel_rfl) (fun hb27 => ?_) (fun hb27 => ?_)
          · replace h := ctrue hb27 h
            refine k_skip (by kernel_rfl) ?_
            refine hK26 _ _ ?_
            refine k_seq (by kernel_rfl) fun K28 hK28 => ?_
            refine k_blk (by kernel_rfl) ?_
            refine k_seq (by kernel_rfl) fun K29 hK29 => ?_
            refine k_reg 2 (by kernel_rfl) ?_
            refine r_run 0 2 [1, 5, 6, 23, 24] [] hS rfl (L' := [(1, .slice a1 p1.length c1), (5, .slice a18 l20.length c19), (6, .int .i64 v22), (23, .int .i64 (p0.tables.length : Int)), (24, .int .i64 v22)]) (As' := [rowF flat_Row 38 a18 c19 l20, .box b2 [.slice a0_tables p0.tables.length c0_tables]]) (ob := []) (by kernel_rfl) (trivial) fun a w hS => ?_
            refine wl_end ?_
            refine hK29 _ _ ?_
            refine k_seq (by kernel_rfl) fun K30 hK30 => ?_
            refine k_reg 4 (by kernel_rfl) ?_
            refine r_run 0 2 [1, 5, 6, 23, 24, 27, 28] [] hS rfl (L' := [(1, .slice a1 p1.length c1), (5, .slice a18 l20.length c19), (6, .int .i64 v22), (23, .int .i64 (p0.tables.length : Int)), (24, .int .i64 v22), (27, .slice a1 p1.length c1), (28, .int .i64 v22)]) (As' := [rowF flat_Row 38 a18 c19 l20, .box b2 [.slice a0_tables p0.tables.length c0_tables]]) (ob := []) (by kernel_rfl) (trivial) fun a w hS => ?_
            obtain ⟨y31, hy31, h⟩ := bindS h
            refine r_call 2 rfl (d := some 29) (g := 20) (args := #[.slice a1 p1.length c1, .int .i64 v22]) [] hS (by kernel_rfl) rfl (row_Of_ok n p1 v22 y31 hy31) (fun F up => ⟨up (hS.p 1 rfl), trivial⟩) ?_
            rintro v A P a w ⟨a32, c33, rfl, rfl, rfl⟩ hS
            refine r_run 3 1 [1, 5, 6, 7, 23, 24] [] hS rfl (L' := [(1, .slice a1 p1.length c1), (5, .slice a18 l20.length c19), (6, .int .i64 v22), (7, .slice a32 y31.length c33), (23, .int .i64 (p0.tables.length : Int)), (24, .int .i64 v22)]) (As' := [rowF flat_Row 38 a32 c33 y31, rowF flat_Row 38 a18 c19 l20, .box b2 [.slice a0_tables p0.tables.length c0_tables]]) (ob := []) (by kernel_rfl) (trivial) fun a w hS => ?_
            refine wl_end ?_
            refine hK30 _ _ ?_
            refine k_seq (by kernel_rfl) fun K35 hK35 => ?_
            refine k_seq (by kernel_rfl) fun K36 hK36 => ?_
            refine k_reg 3 (by kernel_rfl) ?_
            refine r_run 0 3 [1, 5, 6, 7, 23, 24, 30, 31, 32] [] hS rfl (L' := [(1, .slice a1 p1.length c1), (5, .slice a18 l20.length c19), (6, .int .i64 v22), (7, .slice a32 y31.length c33), (23, .int .i64 (p0.tables.length : Int)), (24, .int .i64 v22), (30, .slice a32 y31.length c33), (31, .int .i64 (y31.length : Int)), (32, .int .i64 0)]) (As' := [rowF flat_Row 38 a32 c33 y31, rowF flat_Row 38 a18 c19 l20, .box b2 [.slice a0_tables p0.tables.length c0_tables]]) (ob := []) (by kernel_rfl) (trivial) fun a w hS => ?_
            refine wl_end ?_
            refine hK36 _ _ ?_
            refine k_blk (by kernel_rfl) ?_
            refine k_loop (by kernel_rfl) (fun m38 a w => ∃ (v37 : Int), law05_RowTables_l2 n l20 v22 y31 (law05_RowTables_l1 n p0 p1 m23) m38 v37 = some r ∧ Sy C 49 a w [(1, .slice a1 p1.length c1), (5, .slice a18 l20.length c19), (6, .int .i64 v22), (7, .slice a32 y31.length c33), (23, .int .i64 (p0.tables.length : Int)), (24, .int .i64 v22), (30, .slice a32 y31.length c33), (31, .int .i64 (y31.length : Int)), (32, .int .i64 v37)] [rowF flat_Row 38 a32 c33 y31, rowF flat_Row 38 a18 c19 l20, .box b2 [.slice a0_tables p0.tables.length c0_tables]] [RSf flat_Bounds a0_tables c0_tables p0.tables, RSf flat_Row a1 c1 p1]) n ⟨0, h, (hS.got [1, 5, 6, 7, 23, 24, 30, 31, 32] [0, 0, 0] [] 0 (by kernel_rfl) (by kernel_rfl) (by kernel_rfl))⟩ ?_
            rintro m38 a w ⟨v37, h, hS⟩ K39 hK39
            cases m38 with
            | zero => exact (noneS h).elim
            | succ m38 =>
              unfold law05_RowTables_l2 at h
              refine k_seq (by kernel_rfl) fun K40 hK40 => ?_
              refine k_reg 1 (by kernel_rfl) ?_
              refine r_run 0 1 [1, 5, 6, 7, 23, 24, 30, 31, 32, 33] [] hS rfl (L' := [(1, .slice a1 p1.length c1), (5, .slice a18 l20.length c19), (6, .int .i64 v22), (7, .slice a32 y31.length c33), (23, .int .i64 (p0.tables.length : Int)), (24, .int .i64 v22), (30, .slice a32 y31.length c33), (31, .int .i64 (y31.length : Int)), (32, .int .i64 v37), (33, .bool (decide (v37 < (y31.length : Int))))]) (As' := [rowF flat_Row 38 a32 c33 y31, rowF flat_Row 38 a18 c19 l20, .box b2 [.slice a0_tables p0.tables.length c0_tables]]) (ob := []) (by kernel_rfl) (trivial) fun a w hS => ?_
              refine wl_end ?_
              refine hK40 _ _ ?_
              refine k_seq (by kernel_rfl) fun K41 hK41 => ?_
              refine k_cond (decide (v37 < (y31.length : Int))) hS.has (by kernel_rfl) (by kernel_rfl) (by kernel_rfl) (fun hb42 => ?_) (fun hb42 => ?_)
              · replace h := ctrue hb42 h
                refine k_skip (by kernel_rfl) ?_
                refine hK41 _ _ ?_
                refine k_seq (by kernel_rfl) fun K43 hK43 => ?_
                refine k_blk (by kernel_rfl) ?_
                refine k_seq (by kernel_rfl) fun K44 hK44 => ?_
                refine k_reg 4 (by kernel_rfl) ?_
                obtain ⟨x45, hx45, h⟩ := bindS h
                have ix45 := rowInb (F := flat_Row) hS 0 rfl hx45
                refine r_run1 0 4 [1, 5, 6, 7, 9, 23, 24, 30, 31, 32] [.row 0 [.int .i64 x45.key.table, .int .u16 x45.key.id, .int .i64 x45.val, .string x45.note], .own 0 0] hS rfl (L' := fun b46 => [(1, .slice a1 p1.length c1), (5, .slice a18 l20.length c19), (6, .int .i64 v22), (7, .slice a32 y31.length c33), (9, .pointer (some ⟨b46, 0, none⟩)), (23, .int .i64 (p0.tables.length : Int)), (24, .int .i64 v22), (30, .slice a32 y31.length c33), (31, .int .i64 (y31.length : Int)), (32, .int .i64 v37)]) (As' := fun b46 => [.box b46 [.int .i64 x45.key.table, .int .u16 x45.key.id, .int .i64 x45.val, .string x45.note], rowF flat_Row 38 a32 c33 y31, rowF flat_Row 38 a18 c19 l20, .box b2 [.slice a0_tables p0.tables.length c0_tables]]) (ob := fun b46 => [fun _ => Inb a32 y31.length v37, fun _ => LoadOk (rowF flat_Row 38 a32 c33 y31) (Addr.add (baseOf a32) (Int.toNat v37 * 4)) [.int .i64 x45.key.table, .int .u16 x45.key.id, .int .i64 x45.val, .string x45.note], fun _ => (⟨b46, 0, none⟩ : Addr) = (⟨b46, 0, none⟩ : Addr).add 0, fun _ => ∀ u ∈ ([.int .i64 x45.key.table, .int .u16 x45.key.id, .int .i64 x45.val, .string x45.note] : List Value), u.oneCell' = true]) (fun b46 => by kernel_rfl) (fun b46 => ⟨Bx.c ix45, Bx.c (loadRow hx45), Bx.c rfl, Bx.c (oneAll rfl), trivial⟩) fun b46 a w hS => ?_
                refine wl_end ?_
                refine hK44 _ _ ?_
                refine k_seq (by kernel_rfl) fun K47 hK47 => ?_
                refine k_reg 5 (by kernel_rfl) ?_
                refine r_run 0 5 [1, 5, 6, 7, 23, 24, 30, 31, 32, 40] [.own 0 0] hS rfl (L' := [(1, .slice a1 p1.length c1), (5, .slice a18 l20.length c19), (6, .int .i64 v22), (7, .slice a32 y31.length c33), (23, .int .i64 (p0.tables.length : Int)), (24, .int .i64 v22), (30, .slice a32 y31.length c33), (31, .int .i64 (y31.length : Int)), (32, .int .i64 v37), (40, .bool (x45.key.table != v22))]) (As' := [.box b46 [.int .i64 x45.key.table, .int .u16 x45.key.id, .int .i64 x45.val, .string x45.note], rowF flat_Row 38 a32 c33 y31, rowF flat_Row 38 a18 c19 l20, .box b2 [.slice a0_tables p0.tables.length c0_tables]]) (ob := [fun _ => (⟨b46, 0, none⟩ : Addr) = (⟨b46, 0, none⟩ : Addr).add 0]) (by kernel_rfl) (⟨Bx.c rfl, trivial⟩) fun a w hS => ?_
                refine wl_end ?_
                refine hK47 _ _ ?_
                refine k_cond (x45.key.table != v22) hS.has (by kernel_rfl) (by kernel_rfl) (by kernel_rfl) (fun hb48 => ?_) (fun hb48 => ?_)
                · replace h := ctrue hb48 h
                  refine k_seq (by kernel_rfl) fun K49 hK49 => ?_
                  refine k_reg 1 (by kernel_rfl) ?_
                  refine r_run 0 1 [4] [] hS rfl (L' := [(4, .bool false)]) (As' := [.box b46 [.int .i64 x45.key.table, .int .u16 x45.key.id, .int .i64 x45.val, .string x45.note], rowF flat_Row 38 a32 c33 y31, rowF flat_Row 38 a18 c19 l20, .box b2 [.slice a0_tables p0.tables.length c0_tables]]) (ob := []) (by kernel_rfl) (trivial) fun a w hS => ?_
                  refine wl_end ?_
                  refine hK49 _ _ ?_
                  refine k_ret (by kernel_rfl) ?_
                  obtain rfl := someI h
                  try simp only [Exit.then, Exit.inBlock]
                  refine r_ret hS [.tmp 4] [] (xs := [.bool false]) (ps := []) [] [] rfl (by kernel_rfl) (fun hA => trivial) rfl (fun F up => trivial) ?_
                  exact ⟨rfl, rfl, rfl⟩
                · replace h := cfalse hb48 h
                  refine k_skip (by kernel_rfl) ?_
                  refine hK43 _ _ ?_
                  refine k_reg 2 (by kernel_rfl) ?_
                  refine r_run 0 2 [1, 5, 6, 7, 23, 24, 30, 31, 32] [] hS rfl (L' := [(1, .slice a1 p1.length c1), (5, .slice a18 l20.length c19), (6, .int .i64 v22), (7, .slice a32 y31.length c33), (23, .int .i64 (p0.tables.length : Int)), (24, .int .i64 v22), (30, .slice a32 y31.length c33), (31, .int .i64 (y31.length : Int)), (32, .int .i64 (IntKind.wrap .i64 (v37 + 1)))]) (As' := [.box b46 [.int .i64 x45.key.table, .int .u16 x45.key.id, .int .i64 x45.val, .string x45.note], rowF flat_Row 38 a32 c33 y31, rowF flat_Row 38 a18 c19 l20, .box b2 [.slice a0_tables p0.tables.length c0_tables]]) (ob := []) (by kernel_rfl) (trivial) fun a w hS => ?_
                  refine wl_end ?_
                  exact hK39 m38 _ _ (Nat.lt_succ_self _) ⟨(IntKind.wrap .i64 (v37 + 1)), h, (hS.got [1, 5, 6, 7, 23, 24, 30, 31, 32] [1, 1, 1] [] 0 (by kernel_rfl) (by kernel_rfl) (by kernel_rfl))⟩
              · replace h := cfalse hb42 h
                refine k_exit 2 (by kernel_rfl) ?_
                refine hK35 _ _ ?_
                refine k_reg 4 (by kernel_rfl) ?_
                refine r_run 0 2 [1, 23, 24, 42, 43] [] hS rfl (L' := [(1, .slice a1 p1.length c1), (23, .int .i64 (p0.tables.length : Int)), (24, .int .i64 v22), (42, .slice a18 l20.length c19), (43, .slice a32 y31.length c33)]) (As' := [rowF flat_Row 38 a32 c33 y31, rowF flat_Row 38 a18 c19 l20, .box b2 [.slice a0_tables p0.tables.length c0_tables]]) (ob := []) (by kernel_rfl) (trivial) fun a w hS => ?_
                obtain ⟨l50, hl50, h⟩ := bindS h
                obtain ⟨hl50r, hl50e⟩ := app_some hl50
                refine r_append 2 rfl (d := 44) (t := 25) (A := a18) (c := c19) (k := l20.length) (b := a32) (c2 := c33) (m := y31.length) (y31.flatMap flat_Row.enc) 1 [0] hS appT_25 (by kernel_rfl) rfl rfl (fun F up le => appB (F := flat_Row) (le 0 rfl _ fun w h => rowRS h)) hl50r fun a51 c52 a w hS => ?_
                replace hS := rowF_app (F := flat_Row) (l := l20) (m := y31) hS hl50e
                refine r_run 3 1 [1, 5, 23, 24] [] hS rfl (L' := [(1, .slice a1 p1.length c1), (5, .slice a51 l50.length c52), (23, .int .i64 (p0.tables.length : Int)), (24, .int .i64 v22)]) (As' := [rowF flat_Row 38 a51 c52 l50, rowF flat_Row 38 a32 c33 y31, .box b2 [.slice a0_tables p0.tables.length c0_tables]]) (ob := []) (by kernel_rfl) (trivial) fun a w hS => ?_
                refine wl_end ?_
                refine hK28 _ _ ?_
                refine k_reg 2 (by kernel_rfl) ?_
                refine r_run 0 2 [1, 5, 23, 24] [] hS rfl (L' := [(1, .slice a1 p1.length c1), (5, .slice a51 l50.length c52), (23, .int .i64 (p0.tables.length : Int)), (24, .int .i64 (IntKind.wrap .i64 (v22 + 1)))]) (As' := [rowF flat_Row 38 a51 c52 l50, rowF flat_Row 38 a32 c33 y31, .box b2 [.slice a0_tables p0.tables.length c0_tables]]) (ob := []) (by kernel_rfl) (trivial) fun a w hS => ?_
                refine wl_end ?_
                exact hK24 m23 _ _ (Nat.lt_succ_self _) ⟨a51, c52, l50, (IntKind.wrap .i64 (v22 + 1)), h, (hS.got [1, 5, 23, 24] [0, 1] [] 0 (by kernel_rfl) (by kernel_rfl) (by kernel_rfl))⟩
          · replace h := cfalse hb27 h
            refine k_exit 0 (by kernel_rfl) ?_
            refine hK16 _ _ ?_
            refine k_seq (by kernel_rfl) fun K53 hK53 => ?_
            refine k_reg 4 (by kernel_rfl) ?_
            refine r_run 0 2 [46, 47] [] hS rfl (L' := [(46, .slice a18 l20.length c19), (47, .slice a1 p1.length c1)]) (As' := [rowF flat_Row 38 a18 c19 l20, .box b2 [.slice a0_tables p0.tables.length c0_tables]]) (ob := []) (by kernel_rfl) (trivial) fun a w hS => ?_
            obtain ⟨y54, hy54, h⟩ := bindS h
            refine r_callX 2 rfl (d := some 48) (g := 21) (args := #[.slice a18 l20.length c19, .slice a1 p1.length c1]) [] [0] hS (by kernel_rfl) rfl rfl (row_Same_ok n l20 p1 y54 hy54) (fun F up le => ⟨le 0 rfl _ (fun w h => rowRS h), up (hS.p 1 rfl), trivial⟩) ?_
            rintro v A P a w ⟨rfl, rfl, rfl⟩ hS
            refine r_run 3 1 [4] [] hS rfl (L' := [(4, .bool y54)]) (As' := [rowF flat_Row 38 a18 c19 l20, .box b2 [.slice a0_tables p0.tables.length c0_tables]]) (ob := []) (by kernel_rfl) (trivial) fun a w hS => ?_
            refine wl_end ?_
            refine hK53 _ _ ?_
            refine k_ret (by kernel_rfl) ?_
            obtain rfl := someI h
            try simp only [Exit.then, Exit.inBlock]
            refine r_ret hS [.tmp 4] [] (xs := [.bool y54]) (ps := []) [] [] rfl (by kernel_rfl) (fun hA => trivial) rfl (fun F up => trivial) ?_
            exact ⟨rfl, rfl, rfl⟩
    cases hb56 : y10
    · replace hS := hS.env (L' := [(1, .slice a1 p1.length c1), (2, .pointer (some ⟨b2, 0, none⟩)), (15, .bool false)]) (by rw [hb56])
      replace h := cfalse hb56 h
      refine r_run 4 2 [1, 2, 15, 16, 17] [.own 0 0] hS rfl (L' := [(1, .slice a1 p1.length c1), (2, .pointer (some ⟨b2, 0, none⟩)), (15, .bool false), (16, Value.agg #[.slice a0_tables p0.tables.length c0_tables]), (17, .slice a1 p1.length c1)]) (As' := [.box b2 [.slice a0_tables p0.tables.length c0_tables]]) (ob := [fun _ => (⟨b2, 0, none⟩ : Addr) = (⟨b2, 0, none⟩ : Addr).add 0]) (by kernel_rfl) (⟨Bx.c rfl, trivial⟩) fun a w hS => ?_
      obtain ⟨y57, hy57, h⟩ := bindS h
      refine r_call 6 rfl (d := some 18) (g := 13) (args := #[Value.agg #[.slice a0_tables p0.tables.length c0_tables], .slice a1 p1.length c1]) [] hS (by kernel_rfl) rfl (row_CheckList_ok n p0 p1 y57 hy57) (fun F up => ⟨up (hS.p 0 rfl), up (hS.p 1 rfl), trivial⟩) ?_
      rintro v A P a w ⟨rfl, rfl, rfl⟩ hS
      refine r_run 7 2 [1, 2, 20] [] hS rfl (L' := [(1, .slice a1 p1.length c1), (2, .pointer (some ⟨b2, 0, none⟩)), (20, .bool (y57 != 0))]) (As' := [.box b2 [.slice a0_tables p0.tables.length c0_tables]]) (ob := []) (by kernel_rfl) (trivial) fun a w hS => ?_
      refine wl_end ?_
      exact JK11 (y57 != 0) _ _ (hS.got [1, 2, 20] [0] [] 0 (by kernel_rfl) (by kernel_rfl) (by kernel_rfl)) h
    · replace hS := hS.env (L' := [(1, .slice a1 p1.length c1), (2, .pointer (some ⟨b2, 0, none⟩)), (15, .bool true)]) (by rw [hb56])
      replace h := ctrue hb56 h
      refine r_run 4 5 [1, 2, 20] [] hS rfl (L' := [(1, .slice a1 p1.length c1), (2, .pointer (some ⟨b2, 0, none⟩)), (20, .bool true)]) (As' := [.box b2 [.slice a0_tables p0.tables.length c0_tables]]) (ob := []) (by kernel_rfl) (trivial) fun a w hS => ?_
      refine wl_end ?_
      exact JK11 true _ _ (hS.got [1, 2, 20] [0] [] 0 (by kernel_rfl) (by kernel_rfl) (by kernel_rfl)) h

end Go.Proofs.Ytlflbhhajnoelaa
