/- Functions of the program: plain twins and walks, printed by program. -/
import Derived.Test.YtlflbhhajnoelaaTypes
import Derived.Test.YtlflbhhajnoelaaF5
namespace Go.Proofs.Ytlflbhhajnoelaa
open Go.Bur Go.RowKit
set_option linter.unusedVariables false
set_option linter.unusedSimpArgs false
set_option maxRecDepth 100000
/-! bursary bursaryref05.Of -/
def ref05_Of_j1 (n : Nat) (v9 : Int) (k_ref05_Of_l1 : ((List Row) → Int → Option (List Row))) (l18 : (List Row)) : Option (List Row) :=
  k_ref05_Of_l1 l18 (IntKind.wrap .i64 (v9 + 1))
def ref05_Of_l1 (n : Nat) (p0 : (List Row)) (p1 : Int) : Nat → (List Row) → Int → Option (List Row)
  | 0, _, _ => none
  | m10 + 1, l7, v9 =>
    cond (decide (v9 < (p0.length : Int)))
      ((idx p0 v9).bind fun x20 =>
      cond (x20.key.table == p1)
        ((idx p0 v9).bind fun x22 =>
        (app 40 l7 ([x22] : List Row)).bind fun l24 =>
        ref05_Of_j1 n v9 (ref05_Of_l1 n p0 p1 m10) l24)
        (ref05_Of_j1 n v9 (ref05_Of_l1 n p0 p1 m10) l7))
      (some l7)
def ref05_Of (n : Nat) (p0 : (List Row)) (p1 : Int) : Option (List Row) :=
  ref05_Of_l1 n p0 p1 n ([] : List Row) 0
theorem ref05_Of_ok {a0 : Option Addr} {c0 : Nat} (n : Nat) (p0 : (List Row)) (p1 : Int) (r : (List Row))  (h : ref05_Of n p0 p1 = some r) :
    Meets Try.prog 29 #[.slice a0 p0.length c0, .int .i64 p1] [] [RSf flat_Row a0 c0 p0] fun v A P => ∃ (a0 : Option Addr) (c0 : Nat), v = .slice a0 r.length c0 ∧ A = [rowF flat_Row 38 a0 c0 r] ∧ P = [] := by
  unfold ref05_Of at h
  refine meets_enter 29 Try.func29 Try.call29 rfl (by kernel_rfl) (by simp) fun C a w hS => ?_
  refine k_seq (by kernel_rfl) fun K1 hK1 => ?_
  refine k_reg 1 (by kernel_rfl) ?_
  refine r_run 0 1 [0, 1] [] hS rfl (L' := [(0, .slice a0 p0.length c0), (1, .int .i64 p1)]) (As' := []) (ob := []) (by kernel_rfl) (trivial) fun a w hS => ?_
  refine wl_end ?_
  refine hK1 _ _ ?_
  refine k_seq (by kernel_rfl) fun K2 hK2 => ?_
  refine k_reg 1 (by kernel_rfl) ?_
  refine r_run 0 1 [0, 1, 5] [] hS rfl (L' := [(0, .slice a0 p0.length c0), (1, .int .i64 p1), (5, .slice none 0 0)]) (As' := []) (ob := []) (by kernel_rfl) (trivial) fun a w hS => ?_
  refine wl_end ?_
  refine hK2 _ _ ?_
  refine k_seq (by kernel_rfl) fun K3 hK3 => ?_
  refine k_seq (by kernel_rfl) fun K4 hK4 => ?_
  refine k_reg 1 (by kernel_rfl) ?_
  refine r_run 0 1 [0, 1, 5, 6] [] hS rfl (L' := [(0, .slice a0 p0.length c0), (1, .int .i64 p1), (5, .slice none 0 0), (6, .int .i64 0)]) (As' := []) (ob := []) (by kernel_rfl) (trivial) fun a w hS => ?_
  refine wl_end ?_
  refine hK4 _ _ ?_
  refine k_blk (by kernel_rfl) ?_
  replace hS := hS.nilrow (e := 38) (sz := 4)
  refine k_loop (by kernel_rfl) (fun m10 a w => ∃ (a5 : Option Addr) (c6 : Nat) (l7 : (List Row)) (v9 : Int), ref05_Of_l1 n p0 p1 m10 l7 v9 = some r ∧ Sy C 29 a w [(0, .slice a0 p0.length c0), (1, .int .i64 p1), (5, .slice a5 l7.length c6), (6, .int .i64 v9)] [rowF flat_Row 38 a5 c6 l7] [RSf flat_Row a0 c0 p0]) n ⟨none, 0, ([] : List Row), 0, h, (hS.got [0, 1, 5, 6] [0] [] 0 (by kernel_rfl) (by kernel_rfl) (by kernel_rfl))⟩ ?_
  rintro m10 a w ⟨a5, c6, l7, v9, h, hS⟩ K11 hK11
  cases m10 with
  | zero => exact (noneS h).elim
  | succ m10 =>
    unfold ref05_Of_l1 at h
    refine k_seq (by kernel_rfl) fun K12 hK12 => ?_
    refine k_seq (by kernel_rfl) fun K13 hK13 => ?_
    refine k_reg 4 (by kernel_rfl) ?_
    refine r_run 0 4 [0, 1, 5, 6, 10] [] hS rfl (L' := [(0, .slice a0 p0.length c0), (1, .int .i64 p1), (5, .slice a5 l7.length c6), (6, .int .i64 v9), (10, .bool (decide (v9 < (p0.length : Int))))]) (As' := [rowF flat_Row 38 a5 c6 l7]) (ob := []) (by kernel_rfl) (trivial) fun a w hS => ?_
    refine wl_end ?_
    refine hK13 _ _ ?_
    refine k_cond (decide (v9 < (p0.length : Int))) hS.has (by kernel_rfl) (by kernel_rfl) (by kernel_rfl) (fun hb14 => ?_) (fun hb14 => ?_)
    · replace h := ctrue hb14 h
      refine k_skip (by kernel_rfl) ?_
      refine hK12 _ _ ?_
      refine k_seq (by kernel_rfl) fun K15 hK15 => ?_
      have JK15 : ∀ (a16 : Option Addr) (c17 : Nat) (l18 : (List Row)) a w, Sy C 29 a w [(0, .slice a0 p0.length c0), (1, .int .i64 p1), (5, .slice a16 l18.length c17), (6, .int .i64 v9)] [rowF flat_Row 38 a16 c17 l18] [RSf flat_Row a0 c0 p0] → ref05_Of_j1 n v9 (ref05_Of_l1 n p0 p1 m10) l18 = some r → K15 a w := by
        intro a16 c17 l18 a w hS h
        unfold ref05_Of_j1 at h
        refine hK15 _ _ ?_
        refine k_reg 3 (by kernel_rfl) ?_
        refine r_run 0 3 [0, 1, 5, 6] [] hS rfl (L' := [(0, .slice a0 p0.length c0), (1, .int .i64 p1), (5, .slice a16 l18.length c17), (6, .int .i64 (IntKind.wrap .i64 (v9 + 1)))]) (As' := [rowF flat_Row 38 a16 c17 l18]) (ob := []) (by kernel_rfl) (trivial) fun a w hS => ?_
        refine wl_end ?_
        exact hK11 m10 _ _ (Nat.lt_succ_self _) ⟨a16, c17, l18, (IntKind.wrap .i64 (v9 + 1)), h, (hS.got [0, 1, 5, 6] [0] [] 0 (by kernel_rfl) (by kernel_rfl) (by kernel_rfl))⟩
      refine k_blk (by kernel_rfl) ?_
      refine k_seq (by kernel_rfl) fun K19 hK19 => ?_
      refine k_reg 8 (by kernel_rfl) ?_
      obtain ⟨x20, hx20, h⟩ := bindS h
      have ix20 := fidxB (F := flat_Row) (hS.p 0 rfl) hx20
      refine r_run 0 8 [0, 1, 5, 6, 20] [.ext [.int .i64 x20.key.table]] hS rfl (L' := [(0, .slice a0 p0.length c0), (1, .int .i64 p1), (5, .slice a5 l7.length c6), (6, .int .i64 v9), (20, .bool (x20.key.table == p1))]) (As' := [rowF flat_Row 38 a5 c6 l7]) (ob := [fun _ => Inb a0 p0.length v9, Cel (Addr.add (Addr.add (Addr.add (baseOf a0) (Int.toNat v9 * 4)) 0) 0) [.int .i64 x20.key.table]]) (by kernel_rfl) (⟨Bx.c ix20.1, (Bx.sub (Bx.sub ix20.2 0 2) 0 1), trivial⟩) fun a w hS => ?_
      refine wl_end ?_
      refine hK19 _ _ ?_
      refine k_cond (x20.key.table == p1) hS.has (by kernel_rfl) (by kernel_rfl) (by kernel_rfl) (fun hb21 => ?_) (fun hb21 => ?_)
      · replace h := ctrue hb21 h
        refine k_reg 8 (by kernel_rfl) ?_
        obtain ⟨x22, hx22, h⟩ := bindS h
        have ix22 := fidxB (F := flat_Row) (hS.p 0 rfl) hx22
        refine r_run1 0 6 [0, 1, 6, 21, 26] [.ext [.int .i64 x22.key.table, .int .u16 x22.key.id, .int .i64 x22.val, .string x22.note]] hS rfl (L' := fun b23 => [(0, .slice a0 p0.length c0), (1, .int .i64 p1), (6, .int .i64 v9), (21, .slice a5 l7.length c6), (26, .slice (some ⟨b23, 0, none⟩) ([x22] : List Row).length 1)]) (As' := fun b23 => [rowF flat_Row 38 (some ⟨b23, 0, none⟩) 1 ([x22] : List Row), rowF flat_Row 38 a5 c6 l7]) (ob := fun b23 => [fun _ => Inb a0 p0.length v9, Cel (Addr.add (baseOf a0) (Int.toNat v9 * 4)) [.int .i64 x22.key.table, .int .u16 x22.key.id, .int .i64 x22.val, .string x22.note]]) (fun b23 => by kernel_rfl) (fun b23 => ⟨Bx.c ix22.1, ix22.2, trivial⟩) fun b23 a w hS => ?_
        obtain ⟨l24, hl24, h⟩ := bindS h
        obtain ⟨hl24r, hl24e⟩ := app_some hl24
        refine r_append 6 rfl (d := 27) (t := 25) (A := a5) (c := c6) (k := l7.length) (b := (some ⟨b23, 0, none⟩)) (c2 := 1) (m := ([x22] : List Row).length) (([x22] : List Row).flatMap flat_Row.enc) 1 [0] hS appT_25 (by kernel_rfl) rfl rfl (fun F up le => appB (F := flat_Row) (le 0 rfl _ fun w h => rowRS h)) hl24r fun a25 c26 a w hS => ?_
        replace hS := rowF_app (F := flat_Row) (l := l7) (m := ([x22] : List Row)) hS hl24e
        refine r_run 7 1 [0, 1, 5, 6] [] hS rfl (L' := [(0, .slice a0 p0.length c0), (1, .int .i64 p1), (5, .slice a25 l24.length c26), (6, .int .i64 v9)]) (As' := [rowF flat_Row 38 a25 c26 l24, rowF flat_Row 38 (some ⟨b23, 0, none⟩) 1 ([x22] : List Row)]) (ob := []) (by kernel_rfl) (trivial) fun a w hS => ?_
        refine wl_end ?_
        exact JK15 a25 c26 l24 _ _ (hS.got [0, 1, 5, 6] [0] [] 0 (by kernel_rfl) (by kernel_rfl) (by kernel_rfl)) h
      · replace h := cfalse hb21 h
        refine k_skip (by kernel_rfl) ?_
        exact JK15 a5 c6 l7 _ _ (hS.got [0, 1, 5, 6] [0] [] 0 (by kernel_rfl) (by kernel_rfl) (by kernel_rfl)) h
    · replace h := cfalse hb14 h
      refine k_exit 0 (by kernel_rfl) ?_
      refine hK3 _ _ ?_
      refine k_seq (by kernel_rfl) fun K27 hK27 => ?_
      refine k_reg 2 (by kernel_rfl) ?_
      refine r_run 0 2 [4] [] hS rfl (L' := [(4, .slice a5 l7.length c6)]) (As' := [rowF flat_Row 38 a5 c6 l7]) (ob := []) (by kernel_rfl) (trivial) fun a w hS => ?_
      refine wl_end ?_
      refine hK27 _ _ ?_
      refine k_ret (by kernel_rfl) ?_
      obtain rfl := someI h
      try simp only [Exit.then, Exit.inBlock]
      refine r_ret hS [.tmp 4] [] (xs := [.slice a5 l7.length c6]) (ps := []) [0] [] rfl (by kernel_rfl) (fun hA => trivial) rfl (fun F up => trivial) ?_
      exact ⟨a5, c6, rfl, rfl, rfl⟩

/-! bursary row.Plus -/
def row_Plus (n : Nat) (p0 : Int) (p1 : Int) : Option (Int × Bool) :=
  cond ((!((decide ((IntKind.wrap .i64 (p0 + p1)) > p0)) == (decide (p1 > 0)))) && (p1 != 0))
    (some (0, false))
    (some ((IntKind.wrap .i64 (p0 + p1)), true))
theorem row_Plus_ok  (n : Nat) (p0 : Int) (p1 : Int) (r : (Int × Bool))  (h : row_Plus n p0 p1 = some r) :
    Meets Try.prog 30 #[.int .i64 p0, .int .i64 p1] [] [] fun v A P => v = .tuple #[.int .i64 r.1, .bool r.2] ∧ A = [] ∧ P = [] := by
  unfold row_Plus at h
  refine meets_enter 21 Try.func30 Try.call30 rfl (by kernel_rfl) (by simp) fun C a w hS => ?_
  refine k_seq (by kernel_rfl) fun K1 hK1 => ?_
  refine k_reg 2 (by kernel_rfl) ?_
  refine r_run 0 2 [0, 1] [] hS rfl (L' := [(0, .int .i64 p0), (1, .int .i64 p1)]) (As' := []) (ob := []) (by kernel_rfl) (trivial) fun a w hS => ?_
  refine wl_end ?_
  refine hK1 _ _ ?_
  refine k_seq (by kernel_rfl) fun K2 hK2 => ?_
  refine k_reg 4 (by kernel_rfl) ?_
  refine r_run 0 4 [0, 1, 6] [] hS rfl (L' := [(0, .int .i64 p0), (1, .int .i64 p1), (6, .int .i64 (IntKind.wrap .i64 (p0 + p1)))]) (As' := []) (ob := []) (by kernel_rfl) (trivial) fun a w hS => ?_
  refine wl_end ?_
  refine hK2 _ _ ?_
  refine k_seq (by kernel_rfl) fun K3 hK3 => ?_
  refine k_seq (by kernel_rfl) fun K4 hK4 => ?_
  refine k_reg 10 (by kernel_rfl) ?_
  refine r_run 0 7 [1, 6, 16] [] hS rfl (L' := [(1, .int .i64 p1), (6, .int .i64 (IntKind.wrap .i64 (p0 + p1))), (16, .bool (!((decide ((IntKind.wrap .i64 (p0 + p1)) > p0)) == (decide (p1 > 0)))))]) (As' := []) (ob := []) (by kernel_rfl) (trivial) fun a w hS => ?_
  refine wl_cut 10 rfl rfl fun K5 hK5 => ?_
  have JK5 : ∀ a w, Sy C 21 a w [(6, .int .i64 (IntKind.wrap .i64 (p0 + p1))), (19, .bool ((!((decide ((IntKind.wrap .i64 (p0 + p1)) > p0)) == (decide (p1 > 0)))) && (p1 != 0)))] [] [] → K5 a w := by
    intro a w hS
    refine hK5 _ _ ?_
    refine wl_end ?_
    refine hK4 _ _ ?_
    refine k_cond ((!((decide ((IntKind.wrap .i64 (p0 + p1)) > p0)) == (decide (p1 > 0)))) && (p1 != 0)) hS.has (by kernel_rfl) (by kernel_rfl) (by kernel_rfl) (fun hb6 => ?_) (fun hb6 => ?_)
    · replace h := ctrue hb6 h
      refine k_seq (by kernel_rfl) fun K7 hK7 => ?_
      refine k_reg 2 (by kernel_rfl) ?_
      refine r_run 0 2 [4, 5] [] hS rfl (L' := [(4, .int .i64 0), (5, .bool false)]) (As' := []) (ob := []) (by kernel_rfl) (trivial) fun a w hS => ?_
      refine wl_end ?_
      refine hK7 _ _ ?_
      refine k_ret (by kernel_rfl) ?_
      obtain rfl := someI h
      try simp only [Exit.then, Exit.inBlock]
      refine r_ret hS [.tmp 4, .tmp 5] [] (xs := [.int .i64 0, .bool false]) (ps := []) [] [] rfl (by kernel_rfl) (fun hA => trivial) rfl (fun F up => trivial) ?_
      exact ⟨rfl, rfl, rfl⟩
    · replace h := cfalse hb6 h
      refine k_skip (by kernel_rfl) ?_
      refine hK3 _ _ ?_
      refine k_seq (by kernel_rfl) fun K8 hK8 => ?_
      refine k_reg 3 (by kernel_rfl) ?_
      refine r_run 0 3 [4, 5] [] hS rfl (L' := [(4, .int .i64 (IntKind.wrap .i64 (p0 + p1))), (5, .bool true)]) (As' := []) (ob := []) (by kernel_rfl) (trivial) fun a w hS => ?_
      refine wl_end ?_
      refine hK8 _ _ ?_
      refine k_ret (by kernel_rfl) ?_
      obtain rfl := someI h
      try simp only [Exit.then, Exit.inBlock]
      refine r_ret hS [.tmp 4, .tmp 5] [] (xs := [.int .i64 (IntKind.wrap .i64 (p0 + p1)), .bool true]) (ps := []) [] [] rfl (by kernel_rfl) (fun hA => trivial) rfl (fun F up => trivial) ?_
      exact ⟨rfl, rfl, rfl⟩
  cases hb9 : (!((decide ((IntKind.wrap .i64 (p0 + p1)) > p0)) == (decide (p1 > 0))))
  · replace hS := hS.env (L' := [(1, .int .i64 p1), (6, .int .i64 (IntKind.wrap .i64 (p0 + p1))), (16, .bool false)]) (by rw [hb9])
    refine r_run 7 3 [6, 19] [] hS rfl (L' := [(6, .int .i64 (IntKind.wrap .i64 (p0 + p1))), (19, .bool false)]) (As' := []) (ob := []) (by kernel_rfl) (trivial) fun a w hS => ?_
    refine wl_end ?_
    replace hS := hS.got [6, 19] [] [] 0 (L' := [(6, .int .i64 (IntKind.wrap .i64 (p0 + p1))), (19, .bool false)]) (Bs := []) (Rs := []) (by kernel_rfl) (by kernel_rfl) (by kernel_rfl)
    exact JK5 _ _ (hS.env (by rw [hb9]; rfl))
  · replace hS := hS.env (L' := [(1, .int .i64 p1), (6, .int .i64 (IntKind.wrap .i64 (p0 + p1))), (16, .bool true)]) (by rw [hb9])
    refine r_run 7 3 [6, 19] [] hS rfl (L' := [(6, .int .i64 (IntKind.wrap .i64 (p0 + p1))), (19, .bool (p1 != 0))]) (As' := []) (ob := []) (by kernel_rfl) (trivial) fun a w hS => ?_
    refine wl_end ?_
    replace hS := hS.got [6, 19] [] [] 0 (L' := [(6, .int .i64 (IntKind.wrap .i64 (p0 + p1))), (19, .bool (p1 != 0))]) (Bs := []) (Rs := []) (by kernel_rfl) (by kernel_rfl) (by kernel_rfl)
    exact JK5 _ _ (hS.env (by rw [hb9]; rfl))

/-! bursary bursaryref05.Plus -/
def ref05_Plus (n : Nat) (p0 : Int) (p1 : Int) : Option (Int × Bool) :=
  cond (((decide (p1 > 0)) && (decide (p0 > (IntKind.wrap .i64 (9223372036854775807 - p1))))) || ((decide (p1 < 0)) && (decide (p0 < (IntKind.wrap .i64 ((IntKind.wrap .i64 ((IntKind.wrap .i64 (0 - 9223372036854775807)) - 1)) - p1))))))
    (some (0, false))
    (some ((IntKind.wrap .i64 (p0 + p1)), true))
theorem ref05_Plus_ok  (n : Nat) (p0 : Int) (p1 : Int) (r : (Int × Bool))  (h : ref05_Plus n p0 p1 = some r) :
    Meets Try.prog 31 #[.int .i64 p0, .int .i64 p1] [] [] fun v A P => v = .tuple #[.int .i64 r.1, .bool r.2] ∧ A = [] ∧ P = [] := by
  unfold ref05_Plus at h
  refine meets_enter 34 Try.func31 Try.call31 rfl (by kernel_rfl) (by simp) fun C a w hS => ?_
  refine k_seq (by kernel_rfl) fun K1 hK1 => ?_
  refine k_reg 2 (by kernel_rfl) ?_
  refine r_run 0 2 [0, 1] [] hS rfl (L' := [(0, .int .i64 p0), (1, .int .i64 p1)]) (As' := []) (ob := []) (by kernel_rfl) (trivial) fun a w hS => ?_
  refine wl_end ?_
  refine hK1 _ _ ?_
  refine k_seq (by kernel_rfl) fun K2 hK2 => ?_
  refine k_reg 1 (by kernel_rfl) ?_
  refine r_run 0 1 [0, 1, 6] [] hS rfl (L' := [(0, .int .i64 p0), (1, .int .i64 p1), (6, .int .i64 9223372036854775807)]) (As' := []) (ob := []) (by kernel_rfl) (trivial) fun a w hS => ?_
  refine wl_end ?_
  refine hK2 _ _ ?_
  refine k_seq (by kernel_rfl) fun K3 hK3 => ?_
  refine k_reg 4 (by kernel_rfl) ?_
  refine r_run 0 4 [0, 1, 6, 7] [] hS rfl (L' := [(0, .int .i64 p0), (1, .int .i64 p1), (6, .int .i64 9223372036854775807), (7, .int .i64 (IntKind.wrap .i64 ((IntKind.wrap .i64 (0 - 9223372036854775807)) - 1)))]) (As' := []) (ob := []) (by kernel_rfl) (trivial) fun a w hS => ?_
  refine wl_end ?_
  refine hK3 _ _ ?_
  refine k_seq (by kernel_rfl) fun K4 hK4 => ?_
  refine k_seq (by kernel_rfl) fun K5 hK5 => ?_
  refine k_reg 20 (by kernel_rfl) ?_
  refine r_run 0 3 [0, 1, 6, 7, 13] [] hS rfl (L' := [(0, .int .i64 p0), (1, .int .i64 p1), (6, .int .i64 9223372036854775807), (7, .int .i64 (IntKind.wrap .i64 ((IntKind.wrap .i64 (0 - 9223372036854775807)) - 1))), (13, .bool (decide (p1 > 0)))]) (As' := []) (ob := []) (by kernel_rfl) (trivial) fun a w hS => ?_
  refine wl_cut 9 rfl rfl fun K6 hK6 => ?_
  have JK6 : ∀ a w, Sy C 34 a w [(0, .int .i64 p0), (1, .int .i64 p1), (7, .int .i64 (IntKind.wrap .i64 ((IntKind.wrap .i64 (0 - 9223372036854775807)) - 1))), (19, .bool ((decide (p1 > 0)) && (decide (p0 > (IntKind.wrap .i64 (9223372036854775807 - p1))))))] [] [] → K6 a w := by
    intro a w hS
    refine hK6 _ _ ?_
    refine r_run 9 1 [0, 1, 7, 20] [] hS rfl (L' := [(0, .int .i64 p0), (1, .int .i64 p1), (7, .int .i64 (IntKind.wrap .i64 ((IntKind.wrap .i64 (0 - 9223372036854775807)) - 1))), (20, .bool ((decide (p1 > 0)) && (decide (p0 > (IntKind.wrap .i64 (9223372036854775807 - p1))))))]) (As' := []) (ob := []) (by kernel_rfl) (trivial) fun a w hS => ?_
    refine wl_cut 20 rfl rfl fun K7 hK7 => ?_
    have JK7 : ∀ a w, Sy C 34 a w [(0, .int .i64 p0), (1, .int .i64 p1), (30, .bool (((decide (p1 > 0)) && (decide (p0 > (IntKind.wrap .i64 (9223372036854775807 - p1))))) || ((decide (p1 < 0)) && (decide (p0 < (IntKind.wrap .i64 ((IntKind.wrap .i64 ((IntKind.wrap .i64 (0 - 9223372036854775807)) - 1)) - p1)))))))] [] [] → K7 a w := by
      intro a w hS
      refine hK7 _ _ ?_
      refine wl_end ?_
      refine hK5 _ _ ?_
      refine k_cond (((decide (p1 > 0)) && (decide (p0 > (IntKind.wrap .i64 (9223372036854775807 - p1))))) || ((decide (p1 < 0)) && (decide (p0 < (IntKind.wrap .i64 ((IntKind.wrap .i64 ((IntKind.wrap .i64 (0 - 9223372036854775807)) - 1)) - p1)))))) hS.has (by kernel_rfl) (by kernel_rfl) (by kernel_rfl) (fun hb8 => ?_) (fun hb8 => ?_)
      · replace h := ctrue hb8 h
        refine k_seq (by kernel_rfl) fun K9 hK9 => ?_
        refine k_reg 2 (by kernel_rfl) ?_
        refine r_run 0 2 [4, 5] [] hS rfl (L' := [(4, .int .i64 0), (5, .bool false)]) (As' := []) (ob := []) (by kernel_rfl) (trivial) fun a w hS => ?_
        refine wl_end ?_
        refine hK9 _ _ ?_
        refine k_ret (by kernel_rfl) ?_
        obtain rfl := someI h
        try simp only [Exit.then, Exit.inBlock]
        refine r_ret hS [.tmp 4, .tmp 5] [] (xs := [.int .i64 0, .bool false]) (ps := []) [] [] rfl (by kernel_rfl) (fun hA => trivial) rfl (fun F up => trivial) ?_
        exact ⟨rfl, rfl, rfl⟩
      · replace h := cfalse hb8 h
        refine k_skip (by kernel_rfl) ?_
        refine hK4 _ _ ?_
        refine k_seq (by kernel_rfl) fun K10 hK10 => ?_
        refine k_reg 5 (by kernel_rfl) ?_
        refine r_run 0 5 [4, 5] [] hS rfl (L' := [(4, .int .i64 (IntKind.wrap .i64 (p0 + p1))), (5, .bool true)]) (As' := []) (ob := []) (by kernel_rfl) (trivial) fun a w hS => ?_
        refine wl_end ?_
        refine hK10 _ _ ?_
        refine k_ret (by kernel_rfl) ?_
        obtain rfl := someI h
        try simp only [Exit.then, Exit.inBlock]
        refine r_ret hS [.tmp 4, .tmp 5] [] (xs := [.int .i64 (IntKind.wrap .i64 (p0 + p1)), .bool true]) (ps := []) [] [] rfl (by kernel_rfl) (fun hA => trivial) rfl (fun F up => trivial) ?_
        exact ⟨rfl, rfl, rfl⟩
    cases hb11 : ((decide (p1 > 0)) && (decide (p0 > (IntKind.wrap .i64 (9223372036854775807 - p1)))))
    · replace hS := hS.env (L' := [(0, .int .i64 p0), (1, .int .i64 p1), (7, .int .i64 (IntKind.wrap .i64 ((IntKind.wrap .i64 (0 - 9223372036854775807)) - 1))), (20, .bool false)]) (by rw [hb11])
      refine r_run 10 3 [0, 1, 7, 20, 23] [] hS rfl (L' := [(0, .int .i64 p0), (1, .int .i64 p1), (7, .int .i64 (IntKind.wrap .i64 ((IntKind.wrap .i64 (0 - 9223372036854775807)) - 1))), (20, .bool false), (23, .bool (decide (p1 < 0)))]) (As' := []) (ob := []) (by kernel_rfl) (trivial) fun a w hS => ?_
      refine wl_cut 19 rfl rfl fun K12 hK12 => ?_
      have JK12 : ∀ a w, Sy C 34 a w [(0, .int .i64 p0), (1, .int .i64 p1), (20, .bool false), (29, .bool ((decide (p1 < 0)) && (decide (p0 < (IntKind.wrap .i64 ((IntKind.wrap .i64 ((IntKind.wrap .i64 (0 - 9223372036854775807)) - 1)) - p1))))))] [] [] → K12 a w := by
        intro a w hS
        refine hK12 _ _ ?_
        refine r_run 19 1 [0, 1, 30] [] hS rfl (L' := [(0, .int .i64 p0), (1, .int .i64 p1), (30, .bool ((decide (p1 < 0)) && (decide (p0 < (IntKind.wrap .i64 ((IntKind.wrap .i64 ((IntKind.wrap .i64 (0 - 9223372036854775807)) - 1)) - p1))))))]) (As' := []) (ob := []) (by kernel_rfl) (trivial) fun a w hS => ?_
        refine wl_end ?_
        replace hS := hS.got [0, 1, 30] [] [] 0 (L' := [(0, .int .i64 p0), (1, .int .i64 p1), (30, .bool ((decide (p1 < 0)) && (decide (p0 < (IntKind.wrap .i64 ((IntKind.wrap .i64 ((IntKind.wrap .i64 (0 - 9223372036854775807)) - 1)) - p1))))))]) (Bs := []) (Rs := []) (by kernel_rfl) (by kernel_rfl) (by kernel_rfl)
        exact JK7 _ _ (hS.env (by rw [hb11]; rfl))
      cases hb13 : (decide (p1 < 0))
      · replace hS := hS.env (L' := [(0, .int .i64 p0), (1, .int .i64 p1), (7, .int .i64 (IntKind.wrap .i64 ((IntKind.wrap .i64 (0 - 9223372036854775807)) - 1))), (20, .bool false), (23, .bool false)]) (by rw [hb13])
        refine r_run 13 6 [0, 1, 20, 29] [] hS rfl (L' := [(0, .int .i64 p0), (1, .int .i64 p1), (20, .bool false), (29, .bool false)]) (As' := []) (ob := []) (by kernel_rfl) (trivial) fun a w hS => ?_
        refine wl_end ?_
        replace hS := hS.got [0, 1, 20, 29] [] [] 0 (L' := [(0, .int .i64 p0), (1, .int .i64 p1), (20, .bool false), (29, .bool false)]) (Bs := []) (Rs := []) (by kernel_rfl) (by kernel_rfl) (by kernel_rfl)
        exact JK12 _ _ (hS.env (by rw [hb13]; rfl))
      · replace hS := hS.env (L' := [(0, .int .i64 p0), (1, .int .i64 p1), (7, .int .i64 (IntKind.wrap .i64 ((IntKind.wrap .i64 (0 - 9223372036854775807)) - 1))), (20, .bool false), (23, .bool true)]) (by rw [hb13])
        refine r_run 13 6 [0, 1, 20, 29] [] hS rfl (L' := [(0, .int .i64 p0), (1, .int .i64 p1), (20, .bool false), (29, .bool (decide (p0 < (IntKind.wrap .i64 ((IntKind.wrap .i64 ((IntKind.wrap .i64 (0 - 9223372036854775807)) - 1)) - p1)))))]) (As' := []) (ob := []) (by kernel_rfl) (trivial) fun a w hS => ?_
        refine wl_end ?_
        replace hS := hS.got [0, 1, 20, 29] [] [] 0 (L' := [(0, .int .i64 p0), (1, .int .i64 p1), (20, .bool false), (29, .bool (decide (p0 < (IntKind.wrap .i64 ((IntKind.wrap .i64 ((IntKind.wrap .i64 (0 - 9223372036854775807)) - 1)) - p1)))))]) (Bs := []) (Rs := []) (by kernel_rfl) (by kernel_rfl) (by kernel_rfl)
        exact JK12 _ _ (hS.env (by rw [hb13]; rfl))
    · replace hS := hS.env (L' := [(0, .int .i64 p0), (1, .int .i64 p1), (7, .int .i64 (IntKind.wrap .i64 ((IntKind.wrap .i64 (0 - 9223372036854775807)) - 1))), (20, .bool true)]) (by rw [hb11])
      refine r_run 10 10 [0, 1, 30] [] hS rfl (L' := [(0, .int .i64 p0), (1, .int .i64 p1), (30, .bool true)]) (As' := []) (ob := []) (by kernel_rfl) (trivial) fun a w hS => ?_
      refine wl_end ?_
      replace hS := hS.got [0, 1, 30] [] [] 0 (L' := [(0, .int .i64 p0), (1, .int .i64 p1), (30, .bool true)]) (Bs := []) (Rs := []) (by kernel_rfl) (by kernel_rfl) (by kernel_rfl)
      exact JK7 _ _ (hS.env (by rw [hb11]; rfl))
  cases hb14 : (decide (p1 > 0))
  · replace hS := hS.env (L' := [(0, .int .i64 p0), (1, .int .i64 p1), (6, .int .i64 9223372036854775807), (7, .int .i64 (IntKind.wrap .i64 ((IntKind.wrap .i64 (0 - 9223372036854775807)) - 1))), (13, .bool false)]) (by rw [hb14])
    refine r_run 3 6 [0, 1, 7, 19] [] hS rfl (L' := [(0, .int .i64 p0), (1, .int .i64 p1), (7, .int .i64 (IntKind.wrap .i64 ((IntKind.wrap .i64 (0 - 9223372036854775807)) - 1))), (19, .bool false)]) (As' := []) (ob := []) (by kernel_rfl) (trivial) fun a w hS => ?_
    refine wl_end ?_
    replace hS := hS.got [0, 1, 7, 19] [] [] 0 (L' := [(0, .int .i64 p0), (1, .int .i64 p1), (7, .int .i64 (IntKind.wrap .i64 ((IntKind.wrap .i64 (0 - 9223372036854775807)) - 1))), (19, .bool false)]) (Bs := []) (Rs := []) (by kernel_rfl) (by kernel_rfl) (by kernel_rfl)
    exact JK6 _ _ (hS.env (by rw [hb14]; rfl))
  · replace hS := hS.env (L' := [(0, .int .i64 p0), (1, .int .i64 p1), (6, .int .i64 9223372036854775807), (7, .int .i64 (IntKind.wrap .i64 ((IntKind.wrap .i64 (0 - 9223372036854775807)) - 1))), (13, .bool true)]) (by rw [hb14])
    refine r_run 3 6 [0, 1, 7, 19] [] hS rfl (L' := [(0, .int .i64 p0), (1, .int .i64 p1), (7, .int .i64 (IntKind.wrap .i64 ((IntKind.wrap .i64 (0 - 9223372036854775807)) - 1))), (19, .bool (decide (p0 > (IntKind.wrap .i64 (9223372036854775807 - p1)))))]) (As' := []) (ob := []) (by kernel_rfl) (trivial) fun a w hS => ?_
    refine wl_end ?_
    replace hS := hS.got [0, 1, 7, 19] [] [] 0 (L' := [(0, .int .i64 p0), (1, .int .i64 p1), (7, .int .i64 (IntKind.wrap .i64 ((IntKind.wrap .i64 (0 - 9223372036854775807)) - 1))), (19, .bool (decide (p0 > (IntKind.wrap .i64 (9223372036854775807 - p1)))))]) (Bs := []) (Rs := []) (by kernel_rfl) (by kernel_rfl) (by kernel_rfl)
    exact JK6 _ _ (hS.env (by rw [hb14]; rfl))

/-! bursary bursarylaw05.RowFinds -/
def law05_RowFinds_l2 (n : Nat) (p1 : (List Row)) (v27 : Int) (x35 : Row) (k_law05_RowFinds_l1 : (Int → Option Bool)) : Nat → Int → Option Bool
  | 0, _ => none
  | m49 + 1, v48 =>
    cond (decide (v48 < (p1.length : Int)))
      ((idx p1 v48).bind fun x56 =>
      (row_Plus n x35.val x56.val).bind fun y59 =>
      (ref05_Plus n x35.val x56.val).bind fun y61 =>
      cond ((y59.1 != y61.1) || (!(y59.2 == y61.2)))
        (some false)
        (law05_RowFinds_l2 n p1 v27 x35 k_law05_RowFinds_l1 m49 (IntKind.wrap .i64 (v48 + 1))))
      (k_law05_RowFinds_l1 (IntKind.wrap .i64 (v27 + 1)))
def law05_RowFinds_j1 (n : Nat) (p1 : (List Row)) (v27 : Int) (x35 : Row) (k_law05_RowFinds_l1 : (Int → Option Bool)) (v44 : Bool) : Option Bool :=
  cond v44
    (some false)
    (law05_RowFinds_l2 n p1 v27 x35 (k_law05_RowFinds_l1) n 0)
def law05_RowFinds_l1 (n : Nat) (p0 : (List Row)) (p1 : (List Row)) (p2 : Key) : Nat → Int → Option Bool
  | 0, _ => none
  | m28 + 1, v27 =>
    cond (decide (v27 < (p0.length : Int)))
      ((idx p0 v27).bind fun x35 =>
      (row_Plus n x35.val (IntKind.wrap .i64 ((IntKind.wrap .i64 p2.id) - 500))).bind fun y38 =>
      (ref05_Plus n x35.val (IntKind.wrap .i64 ((IntKind.wrap .i64 p2.id) - 500))).bind fun y40 =>
      (row_Compare n x35.key p2).bind fun y67 =>
      (ref05_Compare n x35.key p2).bind fun y68 =>
      cond (y67 != y68)
        (law05_RowFinds_j1 n p1 v27 x35 (law05_RowFinds_l1 n p0 p1 p2 m28) true)
        (cond (y38.1 != y40.1)
          (law05_RowFinds_j1 n p1 v27 x35 (law05_RowFinds_l1 n p0 p1 p2 m28) true)
          (law05_RowFinds_j1 n p1 v27 x35 (law05_RowFinds_l1 n p0 p1 p2 m28) (!(y38.2 == y40.2)))))
      (some true)
def law05_RowFinds_j2 (n : Nat) (p0 : (List Row)) (p1 : (List Row)) (p2 : Key) (v22 : Bool) : Option Bool :=
  cond v22
    (some false)
    (law05_RowFinds_l1 n p0 p1 p2 n 0)
def law05_RowFinds_j3 (n : Nat) (p0 : (List Row)) (p1 : (List Row)) (p2 : Key) (v12 : Bool) : Option Bool :=
  cond v12
    (some true)
    ((row_Find n p0 p2).bind fun y16 =>
    (ref05_Find n p0 p2).bind fun y18 =>
    cond (!(y16.2 == (decide (y18 ≥ 0))))
      (law05_RowFinds_j2 n p0 p1 p2 true)
      (cond (y16.1 != (if 0 > y18 then 0 else y18))
        (law05_RowFinds_j2 n p0 p1 p2 true)
        ((row_Of n p0 p2.table).bind fun y74 =>
        (ref05_Of n p0 p2.table).bind fun y78 =>
        (ref05_Same n y74 y78).bind fun y82 =>
        cond (!y82)
          (law05_RowFinds_j2 n p0 p1 p2 true)
          ((row_Same n p0 p1).bind fun y84 =>
          (ref05_Same n p0 p1).bind fun y85 =>
          cond (!(y84 == y85))
            (law05_RowFinds_j2 n p0 p1 p2 true)
            ((row_Same n p0 p0).bind fun y87 =>
            law05_RowFinds_j2 n p0 p1 p2 (!y87))))))
def law05_RowFinds (n : Nat) (p0 : (List Row)) (p1 : (List Row)) (p2 : Key) : Option Bool :=
  (law05_wakes n).bind fun y5 =>
  cond (!y5)
    (some false)
    ((law05_over n (Schema.mk ([] : (List Bounds))) p0).bind fun y10 =>
    cond y10
      (law05_RowFinds_j3 n p0 p1 p2 true)
      ((law05_over n (Schema.mk ([] : (List Bounds))) p1).bind fun y89 =>
      law05_RowFinds_j3 n p0 p1 p2 y89))
theorem law05_RowFinds_ok {a0 : Option Addr} {c0 : Nat} {a1 : Option Addr} {c1 : Nat} (n : Nat) (p0 : (List Row)) (p1 : (List Row)) (p2 : Key) (r : Bool)  (h : law05_RowFinds n p0 p1 p2 = some r) :
    Meets Try.prog 7 #[.slice a0 p0.length c0, .slice a1 p1.length c1, Value.agg #[.int .i64 p2.table, .int .u16 p2.id]] [] [RSf flat_Row a0 c0 p0, RSf flat_Row a1 c1 p1] fun v A P => v = .bool r ∧ A = [] ∧ P = [] := by
  unfold law05_RowFinds at h
  refine meets_enter 155 Try.func7 Try.call7 rfl (by kernel_rfl) (by simp) fun C a w hS => ?_
  refine k_seq (by kernel_rfl) fun K1 hK1 => ?_
  refine k_reg 2 (by kernel_rfl) ?_
  refine r_run1 0 2 [0, 1, 5] [] hS rfl (L' := fun b2 => [(0, .slice a0 p0.length c0), (1, .slice a1 p1.length c1), (5, .pointer (some ⟨b2, 0, none⟩))]) (As' := fun b2 => [.box b2 [.int .i64 p2.table, .int .u16 p2.id]]) (ob := fun b2 => []) (fun b2 => by kernel_rfl) (fun b2 => trivial) fun b2 a w hS => ?_
  refine wl_end ?_
  refine hK1 _ _ ?_
  refine k_seq (by kernel_rfl) fun K3 hK3 => ?_
  refine k_seq (by kernel_rfl) fun K4 hK4 => ?_
  refine k_reg 2 (by kernel_rfl) ?_
  obtain ⟨y5, hy5, h⟩ := bindS h
  refine r_call 0 rfl (d := some 22) (g := 9) (args := #[]) [] hS (by kernel_rfl) rfl (law05_wakes_ok n y5 hy5) (fun F up => trivial) ?_
  rintro v A P a w ⟨rfl, rfl, rfl⟩ hS
  refine r_run 1 1 [0, 1, 5, 23] [] hS rfl (L' := [(0, .slice a0 p0.length c0), (1, .slice a1 p1.length c1), (5, .pointer (some ⟨b2, 0, none⟩)), (23, .bool (!y5))]) (As' := [.box b2 [.int .i64 p2.table, .int .u16 p2.id]]) (ob := []) (by kernel_rfl) (trivial) fun a w hS => ?_
  refine wl_end ?_
  refine hK4 _ _ ?_
  refine k_cond (!y5) hS.has (by kernel_rfl) (by kernel_rfl) (by kernel_rfl) (fun hb6 => ?_) (fun hb6 => ?_)
  · replace h := ctrue hb6 h
    refine k_seq (by kernel_rfl) fun K7 hK7 => ?_
    refine k_reg 1 (by kernel_rfl) ?_
    refine r_run 0 1 [6] [] hS rfl (L' := [(6, .bool false)]) (As' := [.box b2 [.int .i64 p2.table, .int .u16 p2.id]]) (ob := []) (by kernel_rfl) (trivial) fun a w hS => ?_
    refine wl_end ?_
    refine hK7 _ _ ?_
    refine k_ret (by kernel_rfl) ?_
    obtain rfl := someI h
    try simp only [Exit.then, Exit.inBlock]
    refine r_ret hS [.tmp 6] [] (xs := [.bool false]) (ps := []) [] [] rfl (by kernel_rfl) (fun hA => trivial) rfl (fun F up => trivial) ?_
    exact ⟨rfl, rfl, rfl⟩
  · replace h := cfalse hb6 h
    refine k_skip (by kernel_rfl) ?_
    refine hK3 _ _ ?_
    refine k_seq (by kernel_rfl) fun K8 hK8 => ?_
    refine k_seq (by kernel_rfl) fun K9 hK9 => ?_
    refine k_reg 8 (by kernel_rfl) ?_
    refine r_run 0 2 [0, 1, 5, 24, 25] [] hS rfl (L' := [(0, .slice a0 p0.length c0), (1, .slice a1 p1.length c1), (5, .pointer (some ⟨b2, 0, none⟩)), (24, Value.agg #[.slice none 0 0]), (25, .slice a0 p0.length c0)]) (As' := [.box b2 [.int .i64 p2.table, .int .u16 p2.id]]) (ob := []) (by kernel_rfl) (trivial) fun a w hS => ?_
    obtain ⟨y10, hy10, h⟩ := bindS h
    refine r_call 2 rfl (d := some 26) (g := 10) (args := #[Value.agg #[.slice none 0 0], .slice a0 p0.length c0]) [] hS (by kernel_rfl) rfl (law05_over_ok n (Schema.mk ([] : (List Bounds))) p0 y10 hy10) (fun F up => ⟨nilB, up (hS.p 0 rfl), trivial⟩) ?_
    rintro v A P a w ⟨rfl, rfl, rfl⟩ hS
    refine r_run 3 1 [0, 1, 5, 27] [] hS rfl (L' := [(0, .slice a0 p0.length c0), (1, .slice a1 p1.length c1), (5, .pointer (some ⟨b2, 0, none⟩)), (27, .bool y10)]) (As' := [.box b2 [.int .i64 p2.table, .int .u16 p2.id]]) (ob := []) (by kernel_rfl) (trivial) fun a w hS => ?_
    refine wl_cut 8 rfl rfl fun K11 hK11 => ?_
    have JK11 : ∀ (v12 : Bool) a w, Sy C 155 a w [(0, .slice a0 p0.length c0), (1, .slice a1 p1.length c1), (5, .pointer (some ⟨b2, 0, none⟩)), (31, .bool v12)] [.box b2 [.int .i64 p2.table, .int .u16 p2.id]] [RSf flat_Row a0 c0 p0, RSf flat_Row a1 c1 p1] → law05_RowFinds_j3 n p0 p1 p2 v12 = some r → K11 a w := by
      intro v12 a w hS h
      unfold law05_RowFinds_j3 at h
      refine hK11 _ _ ?_
      refine wl_end ?_
      refine hK9 _ _ ?_
      refine k_cond v12 hS.has (by kernel_rfl) (by kernel_rfl) (by kernel_rfl) (fun hb13 => ?_) (fun hb13 => ?_)
      · replace h := ctrue hb13 h
        refine k_seq (by kernel_rfl) fun K14 hK14 => ?_
        refine k_reg 1 (by kernel_rfl) ?_
        refine r_run 0 1 [6] [] hS rfl (L' := [(6, .bool true)]) (As' := [.box b2 [.int .i64 p2.table, .int .u16 p2.id]]) (ob := []) (by kernel_rfl) (trivial) fun a w hS => ?_
        refine wl_end ?_
        refine hK14 _ _ ?_
        refine k_ret (by kernel_rfl) ?_
        obtain rfl := someI h
        try simp only [Exit.then, Exit.inBlock]
        refine r_ret hS [.tmp 6] [] (xs := [.bool true]) (ps := []) [] [] rfl (by kernel_rfl) (fun hA => trivial) rfl (fun F up => trivial) ?_
        exact ⟨rfl, rfl, rfl⟩
      · replace h := cfalse hb13 h
        refine k_skip (by kernel_rfl) ?_
        refine hK8 _ _ ?_
        refine k_seq (by kernel_rfl) fun K15 hK15 => ?_
        refine k_reg 8 (by kernel_rfl) ?_
        refine r_run 0 2 [0, 1, 5, 33, 34] [.own 0 0] hS rfl (L' := [(0, .slice a0 p0.length c0), (1, .slice a1 p1.length c1), (5, .pointer (some ⟨b2, 0, none⟩)), (33, .slice a0 p0.length c0), (34, Value.agg #[.int .i64 p2.table, .int .u16 p2.id])]) (As' := [.box b2 [.int .i64 p2.table, .int .u16 p2.id]]) (ob := [fun _ => (⟨b2, 0, none⟩ : Addr) = (⟨b2, 0, none⟩ : Addr).add 0]) (by kernel_rfl) (⟨Bx.c rfl, trivial⟩) fun a w hS => ?_
        obtain ⟨y16, hy16, h⟩ := bindS h
        refine r_call 2 rfl (d := some 35) (g := 28) (args := #[.slice a0 p0.length c0, Value.agg #[.int .i64 p2.table, .int .u16 p2.id]]) [] hS (by kernel_rfl) rfl (row_Find_ok n p0 p2 y16 hy16) (fun F up => ⟨up (hS.p 0 rfl), trivial⟩) ?_
        rintro v A P a w ⟨rfl, rfl, rfl⟩ hS
        refine r_run 3 5 [0, 1, 5, 7, 8] [] hS rfl (L' := [(0, .slice a0 p0.length c0), (1, .slice a1 p1.length c1), (5, .pointer (some ⟨b2, 0, none⟩)), (7, .int .i64 y16.1), (8, .bool y16.2)]) (As' := [.box b2 [.int .i64 p2.table, .int .u16 p2.id]]) (ob := []) (by kernel_rfl) (trivial) fun a w hS => ?_
        refine wl_end ?_
        refine hK15 _ _ ?_
        refine k_seq (by kernel_rfl) fun K17 hK17 => ?_
        refine k_reg 4 (by kernel_rfl) ?_
        refine r_run 0 2 [0, 1, 5, 7, 8, 38, 39] [.own 0 0] hS rfl (L' := [(0, .slice a0 p0.length c0), (1, .slice a1 p1.length c1), (5, .pointer (some ⟨b2, 0, none⟩)), (7, .int .i64 y16.1), (8, .bool y16.2), (38, .slice a0 p0.length c0), (39, Value.agg #[.int .i64 p2.table, .int .u16 p2.id])]) (As' := [.box b2 [.int .i64 p2.table, .int .u16 p2.id]]) (ob := [fun _ => (⟨b2, 0, none⟩ : Addr) = (⟨b2, 0, none⟩ : Addr).add 0]) (by kernel_rfl) (⟨Bx.c rfl, trivial⟩) fun a w hS => ?_
        obtain ⟨y18, hy18, h⟩ := bindS h
        refine r_call 2 rfl (d := some 40) (g := 25) (args := #[.slice a0 p0.length c0, Value.agg #[.int .i64 p2.table, .int .u16 p2.id]]) [] hS (by kernel_rfl) rfl (ref05_Find_ok n p0 p2 y18 hy18) (fun F up => ⟨up (hS.p 0 rfl), trivial⟩) ?_
        rintro v A P a w ⟨rfl, rfl, rfl⟩ hS
        refine r_run 3 1 [0, 1, 5, 7, 8, 9] [] hS rfl (L' := [(0, .slice a0 p0.length c0), (1, .slice a1 p1.length c1), (5, .pointer (some ⟨b2, 0, none⟩)), (7, .int .i64 y16.1), (8, .bool y16.2), (9, .int .i64 y18)]) (As' := [.box b2 [.int .i64 p2.table, .int .u16 p2.id]]) (ob := []) (by kernel_rfl) (trivial) fun a w hS => ?_
        refine wl_end ?_
        refine hK17 _ _ ?_
        refine k_seq (by kernel_rfl) fun K19 hK19 => ?_
        refine k_seq (by kernel_rfl) fun K20 hK20 => ?_
        refine c_name fun K21 hK21 => ?_
        have JK21 : ∀ (v22 : Bool) a w, Sy C 155 a w [(0, .slice a0 p0.length c0), (1, .slice a1 p1.length c1), (5, .pointer (some ⟨b2, 0, none⟩)), (77, .bool v22)] [.box b2 [.int .i64 p2.table, .int .u16 p2.id]] [RSf flat_Row a0 c0 p0, RSf flat_Row a1 c1 p1] → law05_RowFinds_j2 n p0 p1 p2 v22 = some r → K21 a w := by
          intro v22 a w hS h
          unfold law05_RowFinds_j2 at h
          refine hK21 _ _ ?_
          refine hK20 _ _ ?_
          refine k_cond v22 hS.has (by kernel_rfl) (by kernel_rfl) (by kernel_rfl) (fun hb23 => ?_) (fun hb23 => ?_)
          · replace h := ctrue hb23 h
            refine k_seq (by kernel_rfl) fun K24 hK24 => ?_
            refine k_reg 1 (by kernel_rfl) ?_
            refine r_run 0 1 [6] [] hS rfl (L' := [(6, .bool false)]) (As' := [.box b2 [.int .i64 p2.table, .int .u16 p2.id]]) (ob := []) (by kernel_rfl) (trivial) fun a w hS => ?_
            refine wl_end ?_
            refine hK24 _ _ ?_
            refine k_ret (by kernel_rfl) ?_
            obtain rfl := someI h
            try simp only [Exit.then, Exit.inBlock]
            refine r_ret hS [.tmp 6] [] (xs := [.bool false]) (ps := []) [] [] rfl (by kernel_rfl) (fun hA => trivial) rfl (fun F up => trivial) ?_
            exact ⟨rfl, rfl, rfl⟩
          · replace h := cfalse hb23 h
            refine k_skip (by kernel_rfl) ?_
            refine hK19 _ _ ?_
            refine k_seq (by kernel_rfl) fun K25 hK25 => ?_
            refine k_seq (by kernel_rfl) fun K26 hK26 => ?_
            refine k_reg 3 (by kernel_rfl) ?_
            refine r_run 0 3 [1, 5, 78, 79, 80] [] hS rfl (L' := [(1, .slice a1 p1.length c1), (5, .pointer (some ⟨b2, 0, none⟩)), (78, .slice a0 p0.length c0), (79, .int .i64 (p0.length : Int)), (80, .int .i64 0)]) (As' := [.box b2 [.int .i64 p2.table, .int .u16 p2.id]]) (ob := []) (by kernel_rfl) (trivial) fun a w hS => ?_
            refine wl_end ?_
            refine hK26 _ _ ?_
            refine k_blk (by kernel_rfl) ?_
            refine k_loop (by kernel_rfl) (fun m28 a w => ∃ (v27 : Int), law05_RowFinds_l1 n p0 p1 p2 m28 v27 = some r ∧ Sy C 155 a w [(1, .slice a1 p1.length c1), (5, .pointer (some ⟨b2, 0, none⟩)), (78, .slice a0 p0.length c0), (79, .int .i64 (p0.length : Int)), (80, .int .i64 v27)] [.box b2 [.int .i64 p2.table, .int .u16 p2.id]] [RSf flat_Row a0 c0 p0, RSf flat_Row a1 c1 p1]) n ⟨0, h, (hS.got [1, 5, 78, 79, 80] [0] [] 0 (by kernel_rfl) (by kernel_rfl) (by kernel_rfl))⟩ ?_
            rintro m28 a w ⟨v27, h, hS⟩ K29 hK29
            cases m28 with
            | zero => exact (noneS h).elim
            | succ m28 =>
              unfold law05_RowFinds_l1 at h
              refine k_seq (by kernel_rfl) fun K30 hK30 => ?_
              refine k_reg 1 (by kernel_rfl) ?_
              refine r_run 0 1 [1, 5, 78, 79, 80, 81] [] hS rfl (L' := [(1, .slice a1 p1.length c1), (5, .pointer (some ⟨b2, 0, none⟩)), (78, .slice a0 p0.length c0), (79, .int .i64 (p0.length : Int)), (80, .int .i64 v27), (81, .bool (decide (v27 < (p0.length : Int))))]) (As' := [.box b2 [.int .i64 p2.table, .int .u16 p2.id]]) (ob := []) (by kernel_rfl) (trivial) fun a w hS => ?_
              refine wl_end ?_
              refine hK30 _ _ ?_
              refine k_seq (by kernel_rfl) fun K31 hK31 => ?_
              refine k_cond (decide (v27 < (p0.length : Int))) hS.has (by kernel_rfl) (by kernel_rfl) (by kernel_rfl) (fun hb32 => ?_) (fun hb32 => ?_)
              · replace h := ctrue hb32 h
                refine k_skip (by kernel_rfl) ?_
                refine hK31 _ _ ?_
                refine k_seq (by kernel_rfl) fun K33 hK33 => ?_
                refine k_blk (by kernel_rfl) ?_
                refine k_seq (by kernel_rfl) fun K34 hK34 => ?_
                refine k_reg 4 (by kernel_rfl) ?_
                obtain ⟨x35, hx35, h⟩ := bindS h
                have ix35 := fidxB (F := flat_Row) (hS.p 0 rfl) hx35
                refine r_run1 0 4 [1, 5, 11, 78, 79, 80] [.ext [.int .i64 x35.key.table, .int .u16 x35.key.id, .int .i64 x35.val, .string x35.note], .own 0 0] hS rfl (L' := fun b36 => [(1, .slice a1 p1.length c1), (5, .pointer (some ⟨b2, 0, none⟩)), (11, .pointer (some ⟨b36, 0, none⟩)), (78, .slice a0 p0.length c0), (79, .int .i64 (p0.length : Int)), (80, .int .i64 v27)]) (As' := fun b36 => [.box b36 [.int .i64 x35.key.table, .int .u16 x35.key.id, .int .i64 x35.val, .string x35.note], .box b2 [.int .i64 p2.table, .int .u16 p2.id]]) (ob := fun b36 => [fun _ => Inb a0 p0.length v27, Cel (Addr.add (baseOf a0) (Int.toNat v27 * 4)) [.int .i64 x35.key.table, .int .u16 x35.key.id, .int .i64 x35.val, .string x35.note], fun _ => (⟨b36, 0, none⟩ : Addr) = (⟨b36, 0, none⟩ : Addr).add 0, fun _ => ∀ u ∈ ([.int .i64 x35.key.table, .int .u16 x35.key.id, .int .i64 x35.val, .string x35.note] : List Value), u.oneCell' = true]) (fun b36 => by kernel_rfl) (fun b36 => ⟨Bx.c ix35.1, ix35.2, Bx.c rfl, Bx.c (oneAll rfl), trivial⟩) fun b36 a w hS => ?_
                refine wl_end ?_
                refine hK34 _ _ ?_
                refine k_seq (by kernel_rfl) fun K37 hK37 => ?_
                refine k_reg 12 (by kernel_rfl) ?_
                refine r_run 0 6 [1, 5, 11, 78, 79, 80, 86, 90] [.own 0 2, .own 1 1] hS rfl (L' := [(1, .slice a1 p1.length c1), (5, .pointer (some ⟨b2, 0, none⟩)), (11, .pointer (some ⟨b36, 0, none⟩)), (78, .slice a0 p0.length c0), (79, .int .i64 (p0.length : Int)), (80, .int .i64 v27), (86, .int .i64 x35.val), (90, .int .i64 (IntKind.wrap .i64 ((IntKind.wrap .i64 p2.id) - 500)))]) (As' := [.box b36 [.int .i64 x35.key.table, .int .u16 x35.key.id, .int .i64 x35.val, .string x35.note], .box b2 [.int .i64 p2.table, .int .u16 p2.id]]) (ob := [fun _ => ⟨b36, 2, none⟩ = (⟨b36, 0, none⟩ : Addr).add 2, fun _ => ⟨b2, 1, none⟩ = (⟨b2, 0, none⟩ : Addr).add 1]) (by kernel_rfl) (⟨Bx.c rfl, Bx.c rfl, trivial⟩) fun a w hS => ?_
                obtain ⟨y38, hy38, h⟩ := bindS h
                refine r_call 6 rfl (d := some 91) (g := 30) (args := #[.int .i64 x35.val, .int .i64 (IntKind.wrap .i64 ((IntKind.wrap .i64 p2.id) - 500))]) [] hS (by kernel_rfl) rfl (row_Plus_ok n x35.val (IntKind.wrap .i64 ((IntKind.wrap .i64 p2.id) - 500)) y38 hy38) (fun F up => trivial) ?_
                rintro v A P a w ⟨rfl, rfl, rfl⟩ hS
                refine r_run 7 5 [1, 5, 11, 12, 13, 78, 79, 80] [] hS rfl (L' := [(1, .slice a1 p1.length c1), (5, .pointer (some ⟨b2, 0, none⟩)), (11, .pointer (some ⟨b36, 0, none⟩)), (12, .int .i64 y38.1), (13, .bool y38.2), (78, .slice a0 p0.length c0), (79, .int .i64 (p0.length : Int)), (80, .int .i64 v27)]) (As' := [.box b36 [.int .i64 x35.key.table, .int .u16 x35.key.id, .int .i64 x35.val, .string x35.note], .box b2 [.int .i64 p2.table, .int .u16 p2.id]]) (ob := []) (by kernel_rfl) (trivial) fun a w hS => ?_
                refine wl_end ?_
                refine hK37 _ _ ?_
                refine k_seq (by kernel_rfl) fun K39 hK39 => ?_
                refine k_reg 12 (by kernel_rfl) ?_
                refine r_run 0 6 [1, 5, 11, 12, 13, 78, 79, 80, 96, 100] [.own 0 2, .own 1 1] hS rfl (L' := [(1, .slice a1 p1.length c1), (5, .pointer (some ⟨b2, 0, none⟩)), (11, .pointer (some ⟨b36, 0, none⟩)), (12, .int .i64 y38.1), (13, .bool y38.2), (78, .slice a0 p0.length c0), (79, .int .i64 (p0.length : Int)), (80, .int .i64 v27), (96, .int .i64 x35.val), (100, .int .i64 (IntKind.wrap .i64 ((IntKind.wrap .i64 p2.id) - 500)))]) (As' := [.box b36 [.int .i64 x35.key.table, .int .u16 x35.key.id, .int .i64 x35.val, .string x35.note], .box b2 [.int .i64 p2.table, .int .u16 p2.id]]) (ob := [fun _ => ⟨b36, 2, none⟩ = (⟨b36, 0, none⟩ : Addr).add 2, fun _ => ⟨b2, 1, none⟩ = (⟨b2, 0, none⟩ : Addr).add 1]) (by kernel_rfl) (⟨Bx.c rfl, Bx.c rfl, trivial⟩) fun a w hS => ?_
                obtain ⟨y40, hy40, h⟩ := bindS h
                refine r_call 6 rfl (d := some 101) (g := 31) (args := #[.int .i64 x35.val, .int .i64 (IntKind.wrap .i64 ((IntKind.wrap .i64 p2.id) - 500))]) [] hS (by kernel_rfl) rfl (ref05_Plus_ok n x35.val (IntKind.wrap .i64 ((IntKind.wrap .i64 p2.id) - 500)) y40 hy40) (fun F up => trivial) ?_
                rintro v A P a w ⟨rfl, rfl, rfl⟩ hS
                refine r_run 7 5 [1, 5, 11, 12, 13, 14, 15, 78, 79, 80] [] hS rfl (L' := [(1, .slice a1 p1.length c1), (5, .pointer (some ⟨b2, 0, none⟩)), (11, .pointer (some ⟨b36, 0, none⟩)), (12, .int .i64 y38.1), (13, .bool y38.2), (14, .int .i64 y40.1), (15, .bool y40.2), (78, .slice a0 p0.length c0), (79, .int .i64 (p0.length : Int)), (80, .int .i64 v27)]) (As' := [.box b36 [.int .i64 x35.key.table, .int .u16 x35.key.id, .int .i64 x35.val, .string x35.note], .box b2 [.int .i64 p2.table, .int .u16 p2.id]]) (ob := []) (by kernel_rfl) (trivial) fun a w hS => ?_
                refine wl_end ?_
                refine hK39 _ _ ?_
                refine k_seq (by kernel_rfl) fun K41 hK41 => ?_
                refine k_seq (by kernel_rfl) fun K42 hK42 => ?_
                refine c_name fun K43 hK43 => ?_
                have JK43 : ∀ (v44 : Bool) a w, Sy C 155 a w [(1, .slice a1 p1.length c1), (5, .pointer (some ⟨b2, 0, none⟩)), (11, .pointer (some ⟨b36, 0, none⟩)), (78, .slice a0 p0.length c0), (79, .int .i64 (p0.length : Int)), (80, .int .i64 v27), (122, .bool v44)] [.box b36 [.int .i64 x35.key.table, .int .u16 x35.key.id, .int .i64 x35.val, .string x35.note], .box b2 [.int .i64 p2.table, .int .u16 p2.id]] [RSf flat_Row a0 c0 p0, RSf flat_Row a1 c1 p1] → law05_RowFinds_j1 n p1 v27 x35 (law05_RowFinds_l1 n p0 p1 p2 m28) v44 = some r → K43 a w := by
                  intro v44 a w hS h
                  unfold law05_RowFinds_j1 at h
                  refine hK43 _ _ ?_
                  refine hK42 _ _ ?_
                  refine k_cond v44 hS.has (by kernel_rfl) (by kernel_rfl) (by kernel_rfl) (fun hb45 => ?_) (fun hb45 => ?_)
                  · replace h := ctrue hb45 h
                    refine k_seq (by kernel_rfl) fun K46 hK46 => ?_
                    refine k_reg 1 (by kernel_rfl) ?_
                    refine r_run 0 1 [6] [] hS rfl (L' := [(6, .bool false)]) (As' := [.box b36 [.int .i64 x35.key.table, .int .u16 x35.key.id, .int .i64 x35.val, .string x35.note], .box b2 [.int .i64 p2.table, .int .u16 p2.id]]) (ob := []) (by kernel_rfl) (trivial) fun a w hS => ?_
                    refine wl_end ?_
                    refine hK46 _ _ ?_
                    refine k_ret (by kernel_rfl) ?_
                    obtain rfl := someI h
                    try simp only [Exit.then, Exit.inBlock]
                    refine r_ret hS [.tmp 6] [] (xs := [.bool false]) (ps := []) [] [] rfl (by kernel_rfl) (fun hA => trivial) rfl (fun F up => trivial) ?_
                    exact ⟨rfl, rfl, rfl⟩
                  · replace h := cfalse hb45 h
                    refine k_skip (by kernel_rfl) ?_
                    refine hK41 _ _ ?_
                    refine k_seq (by kernel_rfl) fun K47 hK47 => ?_
                    refine k_reg 3 (by kernel_rfl) ?_
                    refine r_run 0 3 [1, 5, 11, 78, 79, 80, 123, 124, 125] [] hS rfl (L' := [(1, .slice a1 p1.length c1), (5, .pointer (some ⟨b2, 0, none⟩)), (11, .pointer (some ⟨b36, 0, none⟩)), (78, .slice a0 p0.length c0), (79, .int .i64 (p0.length : Int)), (80, .int .i64 v27), (123, .slice a1 p1.length c1), (124, .int .i64 (p1.length : Int)), (125, .int .i64 0)]) (As' := [.box b36 [.int .i64 x35.key.table, .int .u16 x35.key.id, .int .i64 x35.val, .string x35.note], .box b2 [.int .i64 p2.table, .int .u16 p2.id]]) (ob := []) (by kernel_rfl) (trivial) fun a w hS => ?_
                    refine wl_end ?_
                    refine hK47 _ _ ?_
                    refine k_blk (by kernel_rfl) ?_
                    refine k_loop (by kernel_rfl) (fun m49 a w => ∃ (v48 : Int), law05_RowFinds_l2 n p1 v27 x35 (law05_RowFinds_l1 n p0 p1 p2 m28) m49 v48 = some r ∧ Sy C 155 a w [(1, .slice a1 p1.length c1), (5, .pointer (some ⟨b2, 0, none⟩)), (11, .pointer (some ⟨b36, 0, none⟩)), (78, .slice a0 p0.length c0), (79, .int .i64 (p0.length : Int)), (80, .int .i64 v27), (123, .slice a1 p1.length c1), (124, .int .i64 (p1.length : Int)), (125, .int .i64 v48)] [.box b36 [.int .i64 x35.key.table, .int .u16 x35.key.id, .int .i64 x35.val, .string x35.note], .box b2 [.int .i64 p2.table, .int .u16 p2.id]] [RSf flat_Row a0 c0 p0, RSf flat_Row a1 c1 p1]) n ⟨0, h, (hS.got [1, 5, 11, 78, 79, 80, 123, 124, 125] [0, 0] [] 0 (by kernel_rfl) (by kernel_rfl) (by kernel_rfl))⟩ ?_
                    rintro m49 a w ⟨v48, h, hS⟩ K50 hK50
                    cases m49 with
                    | zero => exact (noneS h).elim
                    | succ m49 =>
                      unfold law05_RowFinds_l2 at h
                      refine k_seq (by kernel_rfl) fun K51 hK51 => ?_
                      refine k_reg 1 (by kernel_rfl) ?_
                      refine r_run 0 1 [1, 5, 11, 78, 79, 80, 123, 124, 125, 126] [] hS rfl (L' := [(1, .slice a1 p1.length c1), (5, .pointer (some ⟨b2, 0, none⟩)), (11, .pointer (some ⟨b36, 0, none⟩)), (78, .slice a0 p0.length c0), (79, .int .i64 (p0.length : Int)), (80, .int .i64 v27), (123, .slice a1 p1.length c1), (124, .int .i64 (p1.length : Int)), (125, .int .i64 v48), (126, .bool (decide (v48 < (p1.length : Int))))]) (As' := [.box b36 [.int .i64 x35.key.table, .int .u16 x35.key.id, .int .i64 x35.val, .string x35.note], .box b2 [.int .i64 p2.table, .int .u16 p2.id]]) (ob := []) (by kernel_rfl) (trivial) fun a w hS => ?_
                      refine wl_end ?_
                      refine hK51 _ _ ?_
                      refine k_seq (by kernel_rfl) fun K52 hK52 => ?_
                      refine k_cond (decide (v48 < (p1.length : Int))) hS.has (by kernel_rfl) (by kernel_rfl) (by kernel_rfl) (fun hb53 => ?_) (fun hb53 => ?_)
                      · replace h := ctrue hb53 h
                        refine k_skip (by kernel_rfl) ?_
                        refine hK52 _ _ ?_
                        refine k_seq (by kernel_rfl) fun K54 hK54 => ?_
                        refine k_blk (by kernel_rfl) ?_
                        refine k_seq (by kernel_rfl) fun K55 hK55 => ?_
                        refine k_reg 4 (by kernel_rfl) ?_
                        obtain ⟨x56, hx56, h⟩ := bindS h
                        have ix56 := fidxB (F := flat_Row) (hS.p 1 rfl) hx56
                        refine r_run1 0 4 [1, 5, 11, 17, 78, 79, 80, 123, 124, 125] [.ext [.int .i64 x56.key.table, .int .u16 x56.key.id, .int .i64 x56.val, .string x56.note], .own 0 0] hS rfl (L' := fun b57 => [(1, .slice a1 p1.length c1), (5, .pointer (some ⟨b2, 0, none⟩)), (11, .pointer (some ⟨b36, 0, none⟩)), (17, .pointer (some ⟨b57, 0, none⟩)), (78, .slice a0 p0.length c0), (79, .int .i64 (p0.length : Int)), (80, .int .i64 v27), (123, .slice a1 p1.length c1), (124, .int .i64 (p1.length : Int)), (125, .int .i64 v48)]) (As' := fun b57 => [.box b57 [.int .i64 x56.key.table, .int .u16 x56.key.id, .int .i64 x56.val, .string x56.note], .box b36 [.int .i64 x35.key.table, .int .u16 x35.key.id, .int .i64 x35.val, .string x35.note], .box b2 [.int .i64 p2.table, .int .u16 p2.id]]) (ob := fun b57 => [fun _ => Inb a1 p1.length v48, Cel (Addr.add (baseOf a1) (Int.toNat v48 * 4)) [.int .i64 x56.key.table, .int .u16 x56.key.id, .int .i64 x56.val, .string x56.note], fun _ => (⟨b57, 0, none⟩ : Addr) = (⟨b57, 0, none⟩ : Addr).add 0, fun _ => ∀ u ∈ ([.int .i64 x56.key.table, .int .u16 x56.key.id, .int .i64 x56.val, .string x56.note] : List Value), u.oneCell' = true]) (fun b57 => by kernel_rfl) (fun b57 => ⟨Bx.c ix56.1, ix56.2, Bx.c rfl, Bx.c (oneAll rfl), trivial⟩) fun b57 a w hS => ?_
                        refine wl_end ?_
                        refine hK55 _ _ ?_
                        refine k_seq (by kernel_rfl) fun K58 hK58 => ?_
                        refine k_reg 10 (by kernel_rfl) ?_
                        refine r_run 0 4 [1, 5, 11, 17, 78, 79, 80, 123, 124, 125, 131, 133] [.own 1 2, .own 0 2] hS rfl (L' := [(1, .slice a1 p1.length c1), (5, .pointer (some ⟨b2, 0, none⟩)), (11, .pointer (some ⟨b36, 0, none⟩)), (17, .pointer (some ⟨b57, 0, none⟩)), (78, .slice a0 p0.length c0), (79, .int .i64 (p0.length : Int)), (80, .int .i64 v27), (123, .slice a1 p1.length c1), (124, .int .i64 (p1.length : Int)), (125, .int .i64 v48), (131, .int .i64 x35.val), (133, .int .i64 x56.val)]) (As' := [.box b57 [.int .i64 x56.key.table, .int .u16 x56.key.id, .int .i64 x56.val, .string x56.note], .box b36 [.int .i64 x35.key.table, .int .u16 x35.key.id, .int .i64 x35.val, .string x35.note], .box b2 [.int .i64 p2.table, .int .u16 p2.id]]) (ob := [fun _ => ⟨b36, 2, none⟩ = (⟨b36, 0, none⟩ : Addr).add 2, fun _ => ⟨b57, 2, none⟩ = (⟨b57, 0, none⟩ : Addr).add 2]) (by kernel_rfl) (⟨Bx.c rfl, Bx.c rfl, trivial⟩) fun a w hS => ?_
                        obtain ⟨y59, hy59, h⟩ := bindS h
                        refine r_call 4 rfl (d := some 134) (g := 30) (args := #[.int .i64 x35.val, .int .i64 x56.val]) [] hS (by kernel_rfl) rfl (row_Plus_ok n x35.val x56.val y59 hy59) (fun F up => trivial) ?_
                        rintro v A P a w ⟨rfl, rfl, rfl⟩ hS
                        refine r_run 5 5 [1, 5, 11, 17, 18, 19, 78, 79, 80, 123, 124, 125] [] hS rfl (L' := [(1, .slice a1 p1.length c1), (5, .pointer (some ⟨b2, 0, none⟩)), (11, .pointer (some ⟨b36, 0, none⟩)), (17, .pointer (some ⟨b57, 0, none⟩)), (18, .int .i64 y59.1), (19, .bool y59.2), (78, .slice a0 p0.length c0), (79, .int .i64 (p0.length : Int)), (80, .int .i64 v27), (123, .slice a1 p1.length c1), (124, .int .i64 (p1.length : Int)), (125, .int .i64 v48)]) (As' := [.box b57 [.int .i64 x56.key.table, .int .u16 x56.key.id, .int .i64 x56.val, .string x56.note], .box b36 [.int .i64 x35.key.table, .int .u16 x35.key.id, .int .i64 x35.val, .string x35.note], .box b2 [.int .i64 p2.table, .int .u16 p2.id]]) (ob := []) (by kernel_rfl) (trivial) fun a w hS => ?_
                        refine wl_end ?_
                        refine hK58 _ _ ?_
                        refine k_seq (by kernel_rfl) fun K60 hK60 => ?_
                        refine k_reg 10 (by kernel_rfl) ?_
                        refine r_run 0 4 [1, 5, 11, 18, 19, 78, 79, 80, 123, 124, 125, 139, 141] [.own 1 2, .own 0 2] hS rfl (L' := [(1, .slice a1 p1.length c1), (5, .pointer (some ⟨b2, 0, none⟩)), (11, .pointer (some ⟨b36, 0, none⟩)), (18, .int .i64 y59.1), (19, .bool y59.2), (78, .slice a0 p0.length c0), (79, .int .i64 (p0.length : Int)), (80, .int .i64 v27), (123, .slice a1 p1.length c1), (124, .int .i64 (p1.length : Int)), (125, .int .i64 v48), (139, .int .i64 x35.val), (141, .int .i64 x56.val)]) (As' := [.box b57 [.int .i64 x56.key.table, .int .u16 x56.key.id, .int .i64 x56.val, .string x56.note], .box b36 [.int .i64 x35.key.table, .int .u16 x35.key.id, .int .i64 x35.val, .string x35.note], .box b2 [.int .i64 p2.table, .int .u16 p2.id]]) (ob := [fun _ => ⟨b36, 2, none⟩ = (⟨b36, 0, none⟩ : Addr).add 2, fun _ => ⟨b57, 2, none⟩ = (⟨b57, 0, none⟩ : Addr).add 2]) (by kernel_rfl) (⟨Bx.c rfl, Bx.c rfl, trivial⟩) fun a w hS => ?_
                        obtain ⟨y61, hy61, h⟩ := bindS h
                        refine r_call 4 rfl (d := some 142) (g := 31) (args := #[.int .i64 x35.val, .int .i64 x56.val]) [] hS (by kernel_rfl) rfl (ref05_Plus_ok n x35.val x56.val y61 hy61) (fun F up => trivial) ?_
                        rintro v A P a w ⟨rfl, rfl, rfl⟩ hS
                        refine r_run 5 5 [1, 5, 11, 18, 19, 20, 21, 78, 79, 80, 123, 124, 125] [] hS rfl (L' := [(1, .slice a1 p1.length c1), (5, .pointer (some ⟨b2, 0, none⟩)), (11, .pointer (some ⟨b36, 0, none⟩)), (18, .int .i64 y59.1), (19, .bool y59.2), (20, .int .i64 y61.1), (21, .bool y61.2), (78, .slice a0 p0.length c0), (79, .int .i64 (p0.length : Int)), (80, .int .i64 v27), (123, .slice a1 p1.length c1), (124, .int .i64 (p1.length : Int)), (125, .int .i64 v48)]) (As' := [.box b57 [.int .i64 x56.key.table, .int .u16 x56.key.id, .int .i64 x56.val, .string x56.note], .box b36 [.int .i64 x35.key.table, .int .u16 x35.key.id, .int .i64 x35.val, .string x35.note], .box b2 [.int .i64 p2.table, .int .u16 p2.id]]) (ob := []) (by kernel_rfl) (trivial) fun a w hS => ?_
                        refine wl_end ?_
                        refine hK60 _ _ ?_
                        refine k_seq (by kernel_rfl) fun K62 hK62 => ?_
                        refine k_reg 8 (by kernel_rfl) ?_
                        refine r_run 0 4 [1, 5, 11, 19, 21, 78, 79, 80, 123, 124, 125, 148] [] hS rfl (L' := [(1, .slice a1 p1.length c1), (5, .pointer (some ⟨b2, 0, none⟩)), (11, .pointer (some ⟨b36, 0, none⟩)), (19, .bool y59.2), (21, .bool y61.2), (78, .slice a0 p0.length c0), (79, .int .i64 (p0.length : Int)), (80, .int .i64 v27), (123, .slice a1 p1.length c1), (124, .int .i64 (p1.length : Int)), (125, .int .i64 v48), (148, .bool (y59.1 != y61.1))]) (As' := [.box b57 [.int .i64 x56.key.table, .int .u16 x56.key.id, .int .i64 x56.val, .string x56.note], .box b36 [.int .i64 x35.key.table, .int .u16 x35.key.id, .int .i64 x35.val, .string x35.note], .box b2 [.int .i64 p2.table, .int .u16 p2.id]]) (ob := []) (by kernel_rfl) (trivial) fun a w hS => ?_
                        refine wl_cut 8 rfl rfl fun K63 hK63 => ?_
                        have JK63 : ∀ a w, Sy C 155 a w [(1, .slice a1 p1.length c1), (5, .pointer (some ⟨b2, 0, none⟩)), (11, .pointer (some ⟨b36, 0, none⟩)), (78, .slice a0 p0.length c0), (79, .int .i64 (p0.length : Int)), (80, .int .i64 v27), (123, .slice a1 p1.length c1), (124, .int .i64 (p1.length : Int)), (125, .int .i64 v48), (152, .bool ((y59.1 != y61.1) || (!(y59.2 == y61.2))))] [.box b57 [.int .i64 x56.key.table, .int .u16 x56.key.id, .int .i64 x56.val, .string x56.note], .box b36 [.int .i64 x35.key.table, .int .u16 x35.key.id, .int .i64 x35.val, .string x35.note], .box b2 [.int .i64 p2.table, .int .u16 p2.id]] [RSf flat_Row a0 c0 p0, RSf flat_Row a1 c1 p1] → K63 a w := by
                          intro a w hS
                          refine hK63 _ _ ?_
                          refine wl_end ?_
                          refine hK62 _ _ ?_
                          refine k_cond ((y59.1 != y61.1) || (!(y59.2 == y61.2))) hS.has (by kernel_rfl) (by kernel_rfl) (by kernel_rfl) (fun hb64 => ?_) (fun hb64 => ?_)
                          · replace h := ctrue hb64 h
                            refine k_seq (by kernel_rfl) fun K65 hK65 => ?_
                            refine k_reg 1 (by kernel_rfl) ?_
                            refine r_run 0 1 [6] [] hS rfl (L' := [(6, .bool false)]) (As' := [.box b57 [.int .i64 x56.key.table, .int .u16 x56.key.id, .int .i64 x56.val, .string x56.note], .box b36 [.int .i64 x35.key.table, .int .u16 x35.key.id, .int .i64 x35.val, .string x35.note], .box b2 [.int .i64 p2.table, .int .u16 p2.id]]) (ob := []) (by kernel_rfl) (trivial) fun a w hS => ?_
                            refine wl_end ?_
                            refine hK65 _ _ ?_
                            refine k_ret (by kernel_rfl) ?_
                            obtain rfl := someI h
                            try simp only [Exit.then, Exit.inBlock]
                            refine r_ret hS [.tmp 6] [] (xs := [.bool false]) (ps := []) [] [] rfl (by kernel_rfl) (fun hA => trivial) rfl (fun F up => trivial) ?_
                            exact ⟨rfl, rfl, rfl⟩
                          · replace h := cfalse hb64 h
                            refine k_skip (by kernel_rfl) ?_
                            refine hK54 _ _ ?_
                            refine k_reg 2 (by kernel_rfl) ?_
                            refine r_run 0 2 [1, 5, 11, 78, 79, 80, 123, 124, 125] [] hS rfl (L' := [(1, .slice a1 p1.length c1), (5, .pointer (some ⟨b2, 0, none⟩)), (11, .pointer (some ⟨b36, 0, none⟩)), (78, .slice a0 p0.length c0), (79, .int .i64 (p0.length : Int)), (80, .int .i64 v27), (123, .slice a1 p1.length c1), (124, .int .i64 (p1.length : Int)), (125, .int .i64 (IntKind.wrap .i64 (v48 + 1)))]) (As' := [.box b57 [.int .i64 x56.key.table, .int .u16 x56.key.id, .int .i64 x56.val, .string x56.note], .box b36 [.int .i64 x35.key.table, .int .u16 x35.key.id, .int .i64 x35.val, .string x35.note], .box b2 [.int .i64 p2.table, .int .u16 p2.id]]) (ob := []) (by kernel_rfl) (trivial) fun a w hS => ?_
                            refine wl_end ?_
                            exact hK50 m49 _ _ (Nat.lt_succ_self _) ⟨(IntKind.wrap .i64 (v48 + 1)), h, (hS.got [1, 5, 11, 78, 79, 80, 123, 124, 125] [1, 1] [] 0 (by kernel_rfl) (by kernel_rfl) (by kernel_rfl))⟩
                        cases hb66 : (y59.1 != y61.1)
                        · replace hS := hS.env (L' := [(1, .slice a1 p1.length c1), (5, .pointer (some ⟨b2, 0, none⟩)), (11, .pointer (some ⟨b36, 0, none⟩)), (19, .bool y59.2), (21, .bool y61.2), (78, .slice a0 p0.length c0), (79, .int .i64 (p0.length : Int)), (80, .int .i64 v27), (123, .slice a1 p1.length c1), (124, .int .i64 (p1.length : Int)), (125, .int .i64 v48), (148, .bool false)]) (by rw [hb66])
                          refine r_run 4 4 [1, 5, 11, 78, 79, 80, 123, 124, 125, 152] [] hS rfl (L' := [(1, .slice a1 p1.length c1), (5, .pointer (some ⟨b2, 0, none⟩)), (11, .pointer (some ⟨b36, 0, none⟩)), (78, .slice a0 p0.length c0), (79, .int .i64 (p0.length : Int)), (80, .int .i64 v27), (123, .slice a1 p1.length c1), (124, .int .i64 (p1.length : Int)), (125, .int .i64 v48), (152, .bool (!(y59.2 == y61.2)))]) (As' := [.box b57 [.int .i64 x56.key.table, .int .u16 x56.key.id, .int .i64 x56.val, .string x56.note], .box b36 [.int .i64 x35.key.table, .int .u16 x35.key.id, .int .i64 x35.val, .string x35.note], .box b2 [.int .i64 p2.table, .int .u16 p2.id]]) (ob := []) (by kernel_rfl) (trivial) fun a w hS => ?_
                          refine wl_end ?_
                          replace hS := hS.got [1, 5, 11, 78, 79, 80, 123, 124, 125, 152] [0, 0, 0] [] 0 (L' := [(1, .slice a1 p1.length c1), (5, .pointer (some ⟨b2, 0, none⟩)), (11, .pointer (some ⟨b36, 0, none⟩)), (78, .slice a0 p0.length c0), (79, .int .i64 (p0.length : Int)), (80, .int .i64 v27), (123, .slice a1 p1.length c1), (124, .int .i64 (p1.length : Int)), (125, .int .i64 v48), (152, .bool (!(y59.2 == y61.2)))]) (Bs := [.box b57 [.int .i64 x56.key.table, .int .u16 x56.key.id, .int .i64 x56.val, .string x56.note], .box b36 [.int .i64 x35.key.table, .int .u16 x35.key.id, .int .i64 x35.val, .string x35.note], .box b2 [.int .i64 p2.table, .int .u16 p2.id]]) (Rs := [RSf flat_Row a0 c0 p0, RSf flat_Row a1 c1 p1]) (by kernel_rfl) (by kernel_rfl) (by kernel_rfl)
                          exact JK63 _ _ (hS.env (by rw [hb66]; rfl))
                        · replace hS := hS.env (L' := [(1, .slice a1 p1.length c1), (5, .pointer (some ⟨b2, 0, none⟩)), (11, .pointer (some ⟨b36, 0, none⟩)), (19, .bool y59.2), (21, .bool y61.2), (78, .slice a0 p0.length c0), (79, .int .i64 (p0.length : Int)), (80, .int .i64 v27), (123, .slice a1 p1.length c1), (124, .int .i64 (p1.length : Int)), (125, .int .i64 v48), (148, .bool true)]) (by rw [hb66])
                          refine r_run 4 4 [1, 5, 11, 78, 79, 80, 123, 124, 125, 152] [] hS rfl (L' := [(1, .slice a1 p1.length c1), (5, .pointer (some ⟨b2, 0, none⟩)), (11, .pointer (some ⟨b36, 0, none⟩)), (78, .slice a0 p0.length c0), (79, .int .i64 (p0.length : Int)), (80, .int .i64 v27), (123, .slice a1 p1.length c1), (124, .int .i64 (p1.length : Int)), (125, .int .i64 v48), (152, .bool true)]) (As' := [.box b57 [.int .i64 x56.key.table, .int .u16 x56.key.id, .int .i64 x56.val, .string x56.note], .box b36 [.int .i64 x35.key.table, .int .u16 x35.key.id, .int .i64 x35.val, .string x35.note], .box b2 [.int .i64 p2.table, .int .u16 p2.id]]) (ob := []) (by kernel_rfl) (trivial) fun a w hS => ?_
                          refine wl_end ?_
                          replace hS := hS.got [1, 5, 11, 78, 79, 80, 123, 124, 125, 152] [0, 0, 0] [] 0 (L' := [(1, .slice a1 p1.length c1), (5, .pointer (some ⟨b2, 0, none⟩)), (11, .pointer (some ⟨b36, 0, none⟩)), (78, .slice a0 p0.length c0), (79, .int .i64 (p0.length : Int)), (80, .int .i64 v27), (123, .slice a1 p1.length c1), (124, .int .i64 (p1.length : Int)), (125, .int .i64 v48), (152, .bool true)]) (Bs := [.box b57 [.int .i64 x56.key.table, .int .u16 x56.key.id, .int .i64 x56.val, .string x56.note], .box b36 [.int .i64 x35.key.table, .int .u16 x35.key.id, .int .i64 x35.val, .string x35.note], .box b2 [.int .i64 p2.table, .int .u16 p2.id]]) (Rs := [RSf flat_Row a0 c0 p0, RSf flat_Row a1 c1 p1]) (by kernel_rfl) (by kernel_rfl) (by kernel_rfl)
                          exact JK63 _ _ (hS.env (by rw [hb66]; rfl))
                      · replace h := cfalse hb53 h
                        refine k_exit 2 (by kernel_rfl) ?_
                        refine hK33 _ _ ?_
                        refine k_reg 2 (by kernel_rfl) ?_
                        refine r_run 0 2 [1, 5, 78, 79, 80] [] hS rfl (L' := [(1, .slice a1 p1.length c1), (5, .pointer (some ⟨b2, 0, none⟩)), (78, .slice a0 p0.length c0), (79, .int .i64 (p0.length : Int)), (80, .int .i64 (IntKind.wrap .i64 (v27 + 1)))]) (As' := [.box b36 [.int .i64 x35.key.table, .int .u16 x35.key.id, .int .i64 x35.val, .string x35.note], .box b2 [.int .i64 p2.table, .int .u16 p2.id]]) (ob := []) (by kernel_rfl) (trivial) fun a w hS => ?_
                        refine wl_end ?_
                        exact hK29 m28 _ _ (Nat.lt_succ_self _) ⟨(IntKind.wrap .i64 (v27 + 1)), h, (hS.got [1, 5, 78, 79, 80] [1] [] 0 (by kernel_rfl) (by kernel_rfl) (by kernel_rfl))⟩
                obtain ⟨y67, hy67, h⟩ := bindS h
                obtain ⟨y68, hy68, h⟩ := bindS h
                cases hb69 : (y67 != y68)
                · replace h := cfalse hb69 h
                  cases hb70 : (y38.1 != y40.1)
                  · replace h := cfalse hb70 h
                    refine k_draw 17 19 [.val (.pointer (some ⟨b36, 0, none⟩)), .val (Value.agg #[.int .i64 x35.key.table, .int .u16 x35.key.id]), .val (Value.agg #[.int .i64 p2.table, .int .u16 p2.id]), .val (.int .i64 y67), .val (.pointer (some ⟨b36, 0, none⟩)), .val (Value.agg #[.int .i64 x35.key.table, .int .u16 x35.key.id]), .val (Value.agg #[.int .i64 p2.table, .int .u16 p2.id]), .val (.int .i64 y68), .val (.bool (y67 != y68)), .val (.bool false), .val (.int .i64 y38.1), .val (.int .i64 y40.1), .val (.bool (y38.1 != y40.1)), .val (.bool (y38.1 != y40.1)), .val (.bool false), .val (.bool y38.2), .val (.bool y40.2)] [] [(0, []), (1, [.own 0 0]), (2, [.own 1 0]), (4, []), (5, [.own 0 0]), (6, [.own 1 0]), (8, []), (9, [.as 113 (.bool false)]), (10, []), (11, []), (12, []), (13, []), (14, [.as 118 (.bool false)]), (15, []), (16, [])] [3, 7] (ob := [fun _ => (⟨b36, 0, none⟩ : Addr) = (⟨b36, 0, none⟩ : Addr).add 0, fun _ => (⟨b2, 0, none⟩ : Addr) = (⟨b2, 0, none⟩ : Addr).add 0, fun _ => (⟨b36, 0, none⟩ : Addr) = (⟨b36, 0, none⟩ : Addr).add 0, fun _ => (⟨b2, 0, none⟩ : Addr) = (⟨b2, 0, none⟩ : Addr).add 0, fun _ => Value.bool (y67 != y68) = .bool false, fun _ => Value.bool (y38.1 != y40.1) = .bool false]) (by kernel_rfl) (by kernel_rfl) hS (by kernel_rfl) (fun F N0 => by kernel_rfl) (by kernel_rfl) (by kernel_rfl) (by kernel_rfl) (by kernel_rfl) ⟨Bx.c rfl, Bx.c rfl, Bx.c rfl, Bx.c rfl, Bx.c (by rw [hb69]), Bx.c (by rw [hb70]), trivial⟩ ?_ ?_
                    · refine ⟨?_, ?_, trivial⟩
                      · intro V a w e hS hq
                        exact d_callV (d := 107) [] hS (args := #[Value.agg #[.int .i64 x35.key.table, .int .u16 x35.key.id], Value.agg #[.int .i64 p2.table, .int .u16 p2.id]]) (by kernel_rfl) rfl (row_Compare_ok n x35.key p2 y67 hy67) (fun F up le => trivial) (by rintro v A P ⟨rfl, rfl, rfl⟩; first | rfl | rw [hb69] | rw [hb70])
                      · intro V a w e hS hq
                        exact d_callV (d := 111) [] hS (args := #[Value.agg #[.int .i64 x35.key.table, .int .u16 x35.key.id], Value.agg #[.int .i64 p2.table, .int .u16 p2.id]]) (by kernel_rfl) rfl (ref05_Compare_ok n x35.key p2 y68 hy68) (fun F up le => trivial) (by rintro v A P ⟨rfl, rfl, rfl⟩; first | rfl | rw [hb69] | rw [hb70])
                    intro V a w e hS hq
                    refine r_run 17 2 [1, 5, 11, 78, 79, 80, 122] [] hS rfl (L' := [(1, .slice a1 p1.length c1), (5, .pointer (some ⟨b2, 0, none⟩)), (11, .pointer (some ⟨b36, 0, none⟩)), (78, .slice a0 p0.length c0), (79, .int .i64 (p0.length : Int)), (80, .int .i64 v27), (122, .bool (!(y38.2 == y40.2)))]) (As' := [.box b36 [.int .i64 x35.key.table, .int .u16 x35.key.id, .int .i64 x35.val, .string x35.note], .box b2 [.int .i64 p2.table, .int .u16 p2.id]]) (ob := []) (by kernel_rfl) (trivial) fun a w hS => ?_
                    refine wl_end ?_
                    exact JK43 (!(y38.2 == y40.2)) _ _ (hS.got [1, 5, 11, 78, 79, 80, 122] [0, 0] [] 0 (by kernel_rfl) (by kernel_rfl) (by kernel_rfl)) h
                  · replace h := ctrue hb70 h
                    refine k_draw 17 19 [.val (.pointer (some ⟨b36, 0, none⟩)), .val (Value.agg #[.int .i64 x35.key.table, .int .u16 x35.key.id]), .val (Value.agg #[.int .i64 p2.table, .int .u16 p2.id]), .val (.int .i64 y67), .val (.pointer (some ⟨b36, 0, none⟩)), .val (Value.agg #[.int .i64 x35.key.table, .int .u16 x35.key.id]), .val (Value.agg #[.int .i64 p2.table, .int .u16 p2.id]), .val (.int .i64 y68), .val (.bool (y67 != y68)), .val (.bool false), .val (.int .i64 y38.1), .val (.int .i64 y40.1), .val (.bool (y38.1 != y40.1)), .val (.bool (y38.1 != y40.1)), .val (.bool true), .val (undef), .val (undef)] [] [(0, []), (1, [.own 0 0]), (2, [.own 1 0]), (4, []), (5, [.own 0 0]), (6, [.own 1 0]), (8, []), (9, [.as 113 (.bool false)]), (10, []), (11, []), (12, []), (13, []), (14, [.as 118 (.bool true)]), (15, []), (16, [])] [3, 7] (ob := [fun _ => (⟨b36, 0, none⟩ : Addr) = (⟨b36, 0, none⟩ : Addr).add 0, fun _ => (⟨b2, 0, none⟩ : Addr) = (⟨b2, 0, none⟩ : Addr).add 0, fun _ => (⟨b36, 0, none⟩ : Addr) = (⟨b36, 0, none⟩ : Addr).add 0, fun _ => (⟨b2, 0, none⟩ : Addr) = (⟨b2, 0, none⟩ : Addr).add 0, fun _ => Value.bool (y67 != y68) = .bool false, fun _ => Value.bool (y38.1 != y40.1) = .bool true]) (by kernel_rfl) (by kernel_rfl) hS (by kernel_rfl) (fun F N0 => by kernel_rfl) (by kernel_rfl) (by kernel_rfl) (by kernel_rfl) (by kernel_rfl) ⟨Bx.c rfl, Bx.c rfl, Bx.c rfl, Bx.c rfl, Bx.c (by rw [hb69]), Bx.c (by rw [hb70]), trivial⟩ ?_ ?_
                    · refine ⟨?_, ?_, trivial⟩
                      · intro V a w e hS hq
                        exact d_callV (d := 107) [] hS (args := #[Value.agg #[.int .i64 x35.key.table, .int .u16 x35.key.id], Value.agg #[.int .i64 p2.table, .int .u16 p2.id]]) (by kernel_rfl) rfl (row_Compare_ok n x35.key p2 y67 hy67) (fun F up le => trivial) (by rintro v A P ⟨rfl, rfl, rfl⟩; first | rfl | rw [hb69] | rw [hb70])
                      · intro V a w e hS hq
                        exact d_callV (d := 111) [] hS (args := #[Value.agg #[.int .i64 x35.key.table, .int .u16 x35.key.id], Value.agg #[.int .i64 p2.table, .int .u16 p2.id]]) (by kernel_rfl) rfl (ref05_Compare_ok n x35.key p2 y68 hy68) (fun F up le => trivial) (by rintro v A P ⟨rfl, rfl, rfl⟩; first | rfl | rw [hb69] | rw [hb70])
                    intro V a w e hS hq
                    refine r_run 17 2 [1, 5, 11, 78, 79, 80, 122] [] hS rfl (L' := [(1, .slice a1 p1.length c1), (5, .pointer (some ⟨b2, 0, none⟩)), (11, .pointer (some ⟨b36, 0, none⟩)), (78, .slice a0 p0.length c0), (79, .int .i64 (p0.length : Int)), (80, .int .i64 v27), (122, .bool true)]) (As' := [.box b36 [.int .i64 x35.key.table, .int .u16 x35.key.id, .int .i64 x35.val, .string x35.note], .box b2 [.int .i64 p2.table, .int .u16 p2.id]]) (ob := []) (by kernel_rfl) (trivial) fun a w hS => ?_
                    refine wl_end ?_
                    exact JK43 true _ _ (hS.got [1, 5, 11, 78, 79, 80, 122] [0, 0] [] 0 (by kernel_rfl) (by kernel_rfl) (by kernel_rfl)) h
                · replace h := ctrue hb69 h
                  refine k_draw 17 19 [.val (.pointer (some ⟨b36, 0, none⟩)), .val (Value.agg #[.int .i64 x35.key.table, .int .u16 x35.key.id]), .val (Value.agg #[.int .i64 p2.table, .int .u16 p2.id]), .val (.int .i64 y67), .val (.pointer (some ⟨b36, 0, none⟩)), .val (Value.agg #[.int .i64 x35.key.table, .int .u16 x35.key.id]), .val (Value.agg #[.int .i64 p2.table, .int .u16 p2.id]), .val (.int .i64 y68), .val (.bool (y67 != y68)), .val (.bool true), .val (undef), .val (undef), .val (undef), .val (.bool true), .val (.bool true), .val (undef), .val (undef)] [] [(0, []), (1, [.own 0 0]), (2, [.own 1 0]), (4, []), (5, [.own 0 0]), (6, [.own 1 0]), (8, []), (9, [.as 113 (.bool true)]), (10, []), (11, []), (12, []), (13, []), (14, []), (15, []), (16, [])] [3, 7] (ob := [fun _ => (⟨b36, 0, none⟩ : Addr) = (⟨b36, 0, none⟩ : Addr).add 0, fun _ => (⟨b2, 0, none⟩ : Addr) = (⟨b2, 0, none⟩ : Addr).add 0, fun _ => (⟨b36, 0, none⟩ : Addr) = (⟨b36, 0, none⟩ : Addr).add 0, fun _ => (⟨b2, 0, none⟩ : Addr) = (⟨b2, 0, none⟩ : Addr).add 0, fun _ => Value.bool (y67 != y68) = .bool true]) (by kernel_rfl) (by kernel_rfl) hS (by kernel_rfl) (fun F N0 => by kernel_rfl) (by kernel_rfl) (by kernel_rfl) (by kernel_rfl) (by kernel_rfl) ⟨Bx.c rfl, Bx.c rfl, Bx.c rfl, Bx.c rfl, Bx.c (by rw [hb69]), trivial⟩ ?_ ?_
                  · refine ⟨?_, ?_, trivial⟩
                    · intro V a w e hS hq
                      exact d_callV (d := 107) [] hS (args := #[Value.agg #[.int .i64 x35.key.table, .int .u16 x35.key.id], Value.agg #[.int .i64 p2.table, .int .u16 p2.id]]) (by kernel_rfl) rfl (row_Compare_ok n x35.key p2 y67 hy67) (fun F up le => trivial) (by rintro v A P ⟨rfl, rfl, rfl⟩; first | rfl | rw [hb69])
                    · intro V a w e hS hq
                      exact d_callV (d := 111) [] hS (args := #[Value.agg #[.int .i64 x35.key.table, .int .u16 x35.key.id], Value.agg #[.int .i64 p2.table, .int .u16 p2.id]]) (by kernel_rfl) rfl (ref05_Compare_ok n x35.key p2 y68 hy68) (fun F up le => trivial) (by rintro v A P ⟨rfl, rfl, rfl⟩; first | rfl | rw [hb69])
                  intro V a w e hS hq
                  refine r_run 17 2 [1, 5, 11, 78, 79, 80, 122] [] hS rfl (L' := [(1, .slice a1 p1.length c1), (5, .pointer (some ⟨b2, 0, none⟩)), (11, .pointer (some ⟨b36, 0, none⟩)), (78, .slice a0 p0.length c0), (79, .int .i64 (p0.length : Int)), (80, .int .i64 v27), (122, .bool true)]) (As' := [.box b36 [.int .i64 x35.key.table, .int .u16 x35.key.id, .int .i64 x35.val, .string x35.note], .box b2 [.int .i64 p2.table, .int .u16 p2.id]]) (ob := []) (by kernel_rfl) (trivial) fun a w hS => ?_
                  refine wl_end ?_
                  exact JK43 true _ _ (hS.got [1, 5, 11, 78, 79, 80, 122] [0, 0] [] 0 (by kernel_rfl) (by kernel_rfl) (by kernel_rfl)) h
              · replace h := cfalse hb32 h
                refine k_exit 0 (by kernel_rfl) ?_
                refine hK25 _ _ ?_
                refine k_seq (by kernel_rfl) fun K71 hK71 => ?_
                refine k_reg 1 (by kernel_rfl) ?_
                refine r_run 0 1 [6] [] hS rfl (L' := [(6, .bool true)]) (As' := [.box b2 [.int .i64 p2.table, .int .u16 p2.id]]) (ob := []) (by kernel_rfl) (trivial) fun a w hS => ?_
                refine wl_end ?_
                refine hK71 _ _ ?_
                refine k_ret (by kernel_rfl) ?_
                obtain rfl := someI h
                try simp only [Exit.then, Exit.inBlock]
                refine r_ret hS [.tmp 6] [] (xs := [.bool true]) (ps := []) [] [] rfl (by kernel_rfl) (fun hA => trivial) rfl (fun F up => trivial) ?_
                exact ⟨rfl, rfl, rfl⟩
        cases hb72 : (!(y16.2 == (decide (y18 ≥ 0))))
        · replace h := cfalse hb72 h
          cases hb73 : (y16.1 != (if 0 > y18 then 0 else y18))
          · replace h := cfalse hb73 h
            obtain ⟨y74, hy74, h⟩ := bindS h
            obtain ⟨y78, hy78, h⟩ := bindS h
            obtain ⟨y82, hy82, h⟩ := bindS h
            cases hb83 : (!y82)
            · replace h := cfalse hb83 h
              obtain ⟨y84, hy84, h⟩ := bindS h
              obtain ⟨y85, hy85, h⟩ := bindS h
              cases hb86 : (!(y84 == y85))
              · replace h := cfalse hb86 h
                have hS0 := hS
                refine k_draw 34 37 [.val (.bool y16.2), .val (.int .i64 y18), .val (.bool (decide (y18 ≥ 0))), .val (.bool (!(y16.2 == (decide (y18 ≥ 0))))), .val (.bool false), .val (.int .i64 y16.1), .val (.int .i64 y18), .val (.int .i64 (if 0 > y18 then 0 else y18)), .val (.bool (y16.1 != (if 0 > y18 then 0 else y18))), .val (.bool (y16.1 != (if 0 > y18 then 0 else y18))), .val (.bool false), .val (.slice a0 p0.length c0), .val (.pointer (some ⟨b2, 0, none⟩)), .val (.int .i64 p2.table), .q (fun v A P => ∃ (a75 : Option Addr) (c76 : Nat), v = .slice a75 y74.length c76 ∧ A = [rowF flat_Row 38 a75 c76 y74] ∧ P = []), .val (.slice a0 p0.length c0), .val (.pointer (some ⟨b2, 0, none⟩)), .val (.int .i64 p2.table), .q (fun v A P => ∃ (a79 : Option Addr) (c80 : Nat), v = .slice a79 y78.length c80 ∧ A = [rowF flat_Row 38 a79 c80 y78] ∧ P = []), .val (.bool y82), .val (.bool (!y82)), .val (.bool (!y82)), .val (.bool false), .val (.slice a0 p0.length c0), .val (.slice a1 p1.length c1), .val (.bool y84), .val (.slice a0 p0.length c0), .val (.slice a1 p1.length c1), .val (.bool y85), .val (.bool (!(y84 == y85))), .val (.bool (!(y84 == y85))), .val (.bool false), .val (.slice a0 p0.length c0), .val (.slice a0 p0.length c0)] [] [(0, []), (1, []), (2, []), (3, []), (4, [.as 45 (.bool false)]), (5, []), (6, []), (7, []), (8, []), (9, []), (10, [.as 51 (.bool false)]), (11, []), (12, []), (13, [.own 0 0]), (15, []), (16, []), (17, [.own 0 0]), (20, []), (21, []), (22, [.as 63 (.bool false)]), (23, []), (24, []), (26, []), (27, []), (29, []), (30, []), (31, [.as 72 (.bool false)]), (32, []), (33, [])] [14, 18, 19, 25, 28] (ob := [fun _ => Value.bool (!(y16.2 == (decide (y18 ≥ 0)))) = .bool false, fun _ => Value.bool (y16.1 != (if 0 > y18 then 0 else y18)) = .bool false, fun _ => (⟨b2, 0, none⟩ : Addr) = (⟨b2, 0, none⟩ : Addr).add 0, fun _ => (⟨b2, 0, none⟩ : Addr) = (⟨b2, 0, none⟩ : Addr).add 0, fun _ => Value.bool (!y82) = .bool false, fun _ => Value.bool (!(y84 == y85)) = .bool false]) (by kernel_rfl) (by kernel_rfl) hS (by kernel_rfl) (fun F N0 => by kernel_rfl) (by kernel_rfl) (by kernel_rfl) (by kernel_rfl) (by kernel_rfl) ⟨Bx.c (by rw [hb72]), Bx.c (by rw [hb73]), Bx.c rfl, Bx.c rfl, Bx.c (by rw [hb83]), Bx.c (by rw [hb86]), trivial⟩ ?_ ?_
                · refine ⟨?_, ?_, ?_, ?_, ?_, trivial⟩
                  · intro V a w e hS hq
                    exact d_callQ (d := 55) hS e (args := #[.slice a0 p0.length c0, .int .i64 p2.table]) (by kernel_rfl) (row_Of_ok n p0 p2.table y74 hy74) (fun F up => ⟨up (hS.p 0 rfl), trivial⟩)
                  · intro V a w e hS hq
                    exact d_callQ (d := 59) hS e (args := #[.slice a0 p0.length c0, .int .i64 p2.table]) (by kernel_rfl) (ref05_Of_ok n p0 p2.table y78 hy78) (fun F up => ⟨up (hS.p 0 rfl), trivial⟩)
                  · intro V a w e hS hq
                    obtain ⟨A14, P14, ⟨a75, c76, hv14, rfl, rfl⟩, hst14, hn14⟩ := hq 14 (memN_iff.1 rfl) _ rfl
                    obtain ⟨A18, P18, ⟨a79, c80, hv18, rfl, rfl⟩, hst18, hn18⟩ := hq 18 (memN_iff.1 rfl) _ rfl
                    have hm : Meets Try.prog 24 #[.slice a75 y74.length c76, .slice a79 y78.length c80] _ _ _ := (ref05_Same_ok n y74 y78 y82 hy82)
                    rw [← hv14, ← hv18] at hm
                    exact d_callV (d := 60) [] hS (args := #[V 14, V 18]) (by kernel_rfl) rfl hm (fun F up le => ⟨up (lentB hst14 (k := 0) rfl (fun w h => rowRS h)), up (lentB hst18 (k := 0) rfl (fun w h => rowRS h)), trivial⟩) (by rintro v A P ⟨rfl, rfl, rfl⟩; first | rfl | rw [hb72] | rw [hb73] | rw [hb83] | rw [hb86])
                  · intro V a w e hS hq
                    exact d_callV (d := 66) [] hS (args := #[.slice a0 p0.length c0, .slice a1 p1.length c1]) (by kernel_rfl) rfl (row_Same_ok n p0 p1 y84 hy84) (fun F up le => ⟨up (hS.p 0 rfl), up (hS.p 1 rfl), trivial⟩) (by rintro v A P ⟨rfl, rfl, rfl⟩; first | rfl | rw [hb72] | rw [hb73] | rw [hb83] | rw [hb86])
                  · intro V a w e hS hq
                    exact d_callV (d := 69) [] hS (args := #[.slice a0 p0.length c0, .slice a1 p1.length c1]) (by kernel_rfl) rfl (ref05_Same_ok n p0 p1 y85 hy85) (fun F up le => ⟨up (hS.p 0 rfl), up (hS.p 1 rfl), trivial⟩) (by rintro v A P ⟨rfl, rfl, rfl⟩; first | rfl | rw [hb72] | rw [hb73] | rw [hb83] | rw [hb86])
                intro V a w e hS hq
                obtain ⟨y87, hy87, h⟩ := bindS h
                refine r_call 34 rfl (d := some 75) (g := 21) (args := #[.slice a0 p0.length c0, .slice a0 p0.length c0]) [] hS (by kernel_rfl) rfl (row_Same_ok n p0 p0 y87 hy87) (fun F up => ⟨up (hS.p 0 rfl), up (hS.p 0 rfl), trivial⟩) ?_
                rintro v A P a w ⟨rfl, rfl, rfl⟩ hS
                refine r_run 35 2 [0, 1, 5, 77] [] hS rfl (L' := [(0, .slice a0 p0.length c0), (1, .slice a1 p1.length c1), (5, .pointer (some ⟨b2, 0, none⟩)), (77, .bool (!y87))]) (As' := [.box b2 [.int .i64 p2.table, .int .u16 p2.id]]) (ob := []) (by kernel_rfl) (trivial) fun a w hS => ?_
                refine wl_end ?_
                exact JK21 (!y87) _ _ (hS.got [0, 1, 5, 77] [0] [] 0 (by kernel_rfl) (by kernel_rfl) (by kernel_rfl)) h
              · replace h := ctrue hb86 h
                have hS0 := hS
                refine k_draw 34 37 [.val (.bool y16.2), .val (.int .i64 y18), .val (.bool (decide (y18 ≥ 0))), .val (.bool (!(y16.2 == (decide (y18 ≥ 0))))), .val (.bool false), .val (.int .i64 y16.1), .val (.int .i64 y18), .val (.int .i64 (if 0 > y18 then 0 else y18)), .val (.bool (y16.1 != (if 0 > y18 then 0 else y18))), .val (.bool (y16.1 != (if 0 > y18 then 0 else y18))), .val (.bool false), .val (.slice a0 p0.length c0), .val (.pointer (some ⟨b2, 0, none⟩)), .val (.int .i64 p2.table), .q (fun v A P => ∃ (a75 : Option Addr) (c76 : Nat), v = .slice a75 y74.length c76 ∧ A = [rowF flat_Row 38 a75 c76 y74] ∧ P = []), .val (.slice a0 p0.length c0), .val (.pointer (some ⟨b2, 0, none⟩)), .val (.int .i64 p2.table), .q (fun v A P => ∃ (a79 : Option Addr) (c80 : Nat), v = .slice a79 y78.length c80 ∧ A = [rowF flat_Row 38 a79 c80 y78] ∧ P = []), .val (.bool y82), .val (.bool (!y82)), .val (.bool (!y82)), .val (.bool false), .val (.slice a0 p0.length c0), .val (.slice a1 p1.length c1), .val (.bool y84), .val (.slice a0 p0.length c0), .val (.slice a1 p1.length c1), .val (.bool y85), .val (.bool (!(y84 == y85))), .val (.bool (!(y84 == y85))), .val (.bool true), .val (undef), .val (undef)] [] [(0, []), (1, []), (2, []), (3, []), (4, [.as 45 (.bool false)]), (5, []), (6, []), (7, []), (8, []), (9, []), (10, [.as 51 (.bool false)]), (11, []), (12, []), (13, [.own 0 0]), (15, []), (16, []), (17, [.own 0 0]), (20, []), (21, []), (22, [.as 63 (.bool false)]), (23, []), (24, []), (26, []), (27, []), (29, []), (30, []), (31, [.as 72 (.bool true)]), (32, []), (33, [])] [14, 18, 19, 25, 28] (ob := [fun _ => Value.bool (!(y16.2 == (decide (y18 ≥ 0)))) = .bool false, fun _ => Value.bool (y16.1 != (if 0 > y18 then 0 else y18)) = .bool false, fun _ => (⟨b2, 0, none⟩ : Addr) = (⟨b2, 0, none⟩ : Addr).add 0, fun _ => (⟨b2, 0, none⟩ : Addr) = (⟨b2, 0, none⟩ : Addr).add 0, fun _ => Value.bool (!y82) = .bool false, fun _ => Value.bool (!(y84 == y85)) = .bool true]) (by kernel_rfl) (by kernel_rfl) hS (by kernel_rfl) (fun F N0 => by kernel_rfl) (by kernel_rfl) (by kernel_rfl) (by kernel_rfl) (by kernel_rfl) ⟨Bx.c (by rw [hb72]), Bx.c (by rw [hb73]), Bx.c rfl, Bx.c rfl, Bx.c (by rw [hb83]), Bx.c (by rw [hb86]), trivial⟩ ?_ ?_
                · refine ⟨?_, ?_, ?_, ?_, ?_, trivial⟩
                  · intro V a w e hS hq
                    exact d_callQ (d := 55) hS e (args := #[.slice a0 p0.length c0, .int .i64 p2.table]) (by kernel_rfl) (row_Of_ok n p0 p2.table y74 hy74) (fun F up => ⟨up (hS.p 0 rfl), trivial⟩)
                  · intro V a w e hS hq
                    exact d_callQ (d := 59) hS e (args := #[.slice a0 p0.length c0, .int .i64 p2.table]) (by kernel_rfl) (ref05_Of_ok n p0 p2.table y78 hy78) (fun F up => ⟨up (hS.p 0 rfl), trivial⟩)
                  · intro V a w e hS hq
                    obtain ⟨A14, P14, ⟨a75, c76, hv14, rfl, rfl⟩, hst14, hn14⟩ := hq 14 (memN_iff.1 rfl) _ rfl
                    obtain ⟨A18, P18, ⟨a79, c80, hv18, rfl, rfl⟩, hst18, hn18⟩ := hq 18 (memN_iff.1 rfl) _ rfl
                    have hm : Meets Try.prog 24 #[.slice a75 y74.length c76, .slice a79 y78.length c80] _ _ _ := (ref05_Same_ok n y74 y78 y82 hy82)
                    rw [← hv14, ← hv18] at hm
                    exact d_callV (d := 60) [] hS (args := #[V 14, V 18]) (by kernel_rfl) rfl hm (fun F up le => ⟨up (lentB hst14 (k := 0) rfl (fun w h => rowRS h)), up (lentB hst18 (k := 0) rfl (fun w h => rowRS h)), trivial⟩) (by rintro v A P ⟨rfl, rfl, rfl⟩; first | rfl | rw [hb72] | rw [hb73] | rw [hb83] | rw [hb86])
                  · intro V a w e hS hq
                    exact d_callV (d := 66) [] hS (args := #[.slice a0 p0.length c0, .slice a1 p1.length c1]) (by kernel_rfl) rfl (row_Same_ok n p0 p1 y84 hy84) (fun F up le => ⟨up (hS.p 0 rfl), up (hS.p 1 rfl), trivial⟩) (by rintro v A P ⟨rfl, rfl, rfl⟩; first | rfl | rw [hb72] | rw [hb73] | rw [hb83] | rw [hb86])
                  · intro V a w e hS hq
                    exact d_callV (d := 69) [] hS (args := #[.slice a0 p0.length c0, .slice a1 p1.length c1]) (by kernel_rfl) rfl (ref05_Same_ok n p0 p1 y85 hy85) (fun F up le => ⟨up (hS.p 0 rfl), up (hS.p 1 rfl), trivial⟩) (by rintro v A P ⟨rfl, rfl, rfl⟩; first | rfl | rw [hb72] | rw [hb73] | rw [hb83] | rw [hb86])
                intro V a w e hS hq
                refine r_run 34 3 [0, 1, 5, 77] [] hS rfl (L' := [(0, .slice a0 p0.length c0), (1, .slice a1 p1.length c1), (5, .pointer (some ⟨b2, 0, none⟩)), (77, .bool true)]) (As' := [.box b2 [.int .i64 p2.table, .int .u16 p2.id]]) (ob := []) (by kernel_rfl) (trivial) fun a w hS => ?_
                refine wl_end ?_
                exact JK21 true _ _ (hS.got [0, 1, 5, 77] [0] [] 0 (by kernel_rfl) (by kernel_rfl) (by kernel_rfl)) h
            · replace h := ctrue hb83 h
              have hS0 := hS
              refine k_draw 34 37 [.val (.bool y16.2), .val (.int .i64 y18), .val (.bool (decide (y18 ≥ 0))), .val (.bool (!(y16.2 == (decide (y18 ≥ 0))))), .val (.bool false), .val (.int .i64 y16.1), .val (.int .i64 y18), .val (.int .i64 (if 0 > y18 then 0 else y18)), .val (.bool (y16.1 != (if 0 > y18 then 0 else y18))), .val (.bool (y16.1 != (if 0 > y18 then 0 else y18))), .val (.bool false), .val (.slice a0 p0.length c0), .val (.pointer (some ⟨b2, 0, none⟩)), .val (.int .i64 p2.table), .q (fun v A P => ∃ (a75 : Option Addr) (c76 : Nat), v = .slice a75 y74.length c76 ∧ A = [rowF flat_Row 38 a75 c76 y74] ∧ P = []), .val (.slice a0 p0.length c0), .val (.pointer (some ⟨b2, 0, none⟩)), .val (.int .i64 p2.table), .q (fun v A P => ∃ (a79 : Option Addr) (c80 : Nat), v = .slice a79 y78.length c80 ∧ A = [rowF flat_Row 38 a79 c80 y78] ∧ P = []), .val (.bool y82), .val (.bool (!y82)), .val (.bool (!y82)), .val (.bool true), .val (undef), .val (undef), .val (undef), .val (undef), .val (undef), .val (undef), .val (undef), .val (.bool true), .val (.bool true), .val (undef), .val (undef)] [] [(0, []), (1, []), (2, []), (3, []), (4, [.as 45 (.bool false)]), (5, []), (6, []), (7, []), (8, []), (9, []), (10, [.as 51 (.bool false)]), (11, []), (12, []), (13, [.own 0 0]), (15, []), (16, []), (17, [.own 0 0]), (20, []), (21, []), (22, [.as 63 (.bool true)]), (23, []), (24, []), (25, []), (26, []), (27, []), (28, []), (29, []), (30, []), (31, []), (32, []), (33, [])] [14, 18, 19] (ob := [fun _ => Value.bool (!(y16.2 == (decide (y18 ≥ 0)))) = .bool false, fun _ => Value.bool (y16.1 != (if 0 > y18 then 0 else y18)) = .bool false, fun _ => (⟨b2, 0, none⟩ : Addr) = (⟨b2, 0, none⟩ : Addr).add 0, fun _ => (⟨b2, 0, none⟩ : Addr) = (⟨b2, 0, none⟩ : Addr).add 0, fun _ => Value.bool (!y82) = .bool true]) (by kernel_rfl) (by kernel_rfl) hS (by kernel_rfl) (fun F N0 => by kernel_rfl) (by kernel_rfl) (by kernel_rfl) (by kernel_rfl) (by kernel_rfl) ⟨Bx.c (by rw [hb72]), Bx.c (by rw [hb73]), Bx.c rfl, Bx.c rfl, Bx.c (by rw [hb83]), trivial⟩ ?_ ?_
              · refine ⟨?_, ?_, ?_, trivial⟩
                · intro V a w e hS hq
                  exact d_callQ (d := 55) hS e (args := #[.slice a0 p0.length c0, .int .i64 p2.table]) (by kernel_rfl) (row_Of_ok n p0 p2.table y74 hy74) (fun F up => ⟨up (hS.p 0 rfl), trivial⟩)
                · intro V a w e hS hq
                  exact d_callQ (d := 59) hS e (args := #[.slice a0 p0.length c0, .int .i64 p2.table]) (by kernel_rfl) (ref05_Of_ok n p0 p2.table y78 hy78) (fun F up => ⟨up (hS.p 0 rfl), trivial⟩)
                · intro V a w e hS hq
                  obtain ⟨A14, P14, ⟨a75, c76, hv14, rfl, rfl⟩, hst14, hn14⟩ := hq 14 (memN_iff.1 rfl) _ rfl
                  obtain ⟨A18, P18, ⟨a79, c80, hv18, rfl, rfl⟩, hst18, hn18⟩ := hq 18 (memN_iff.1 rfl) _ rfl
                  have hm : Meets Try.prog 24 #[.slice a75 y74.length c76, .slice a79 y78.length c80] _ _ _ := (ref05_Same_ok n y74 y78 y82 hy82)
                  rw [← hv14, ← hv18] at hm
                  exact d_callV (d := 60) [] hS (args := #[V 14, V 18]) (by kernel_rfl) rfl hm (fun F up le => ⟨up (lentB hst14 (k := 0) rfl (fun w h => rowRS h)), up (lentB hst18 (k := 0) rfl (fun w h => rowRS h)), trivial⟩) (by rintro v A P ⟨rfl, rfl, rfl⟩; first | rfl | rw [hb72] | rw [hb73] | rw [hb83])
              intro V a w e hS hq
              refine r_run 34 3 [0, 1, 5, 77] [] hS rfl (L' := [(0, .slice a0 p0.length c0), (1, .slice a1 p1.length c1), (5, .pointer (some ⟨b2, 0, none⟩)), (77, .bool true)]) (As' := [.box b2 [.int .i64 p2.table, .int .u16 p2.id]]) (ob := []) (by kernel_rfl) (trivial) fun a w hS => ?_
              refine wl_end ?_
              exact JK21 true _ _ (hS.got [0, 1, 5, 77] [0] [] 0 (by kernel_rfl) (by kernel_rfl) (by kernel_rfl)) h
          · replace h := ctrue hb73 h
            refine k_draw 34 37 [.val (.bool y16.2), .val (.int .i64 y18), .val (.bool (decide (y18 ≥ 0))), .val (.bool (!(y16.2 == (decide (y18 ≥ 0))))), .val (.bool false), .val (.int .i64 y16.1), .val (.int .i64 y18), .val (.int .i64 (if 0 > y18 then 0 else y18)), .val (.bool (y16.1 != (if 0 > y18 then 0 else y18))), .val (.bool (y16.1 != (if 0 > y18 then 0 else y18))), .val (.bool true), .val (undef), .val (undef), .val (undef), .val (undef), .val (undef), .val (undef), .val (undef), .val (undef), .val (undef), .val (undef), .val (.bool true), .val (.bool true), .val (undef), .val (undef), .val (undef), .val (undef), .val (undef), .val (undef), .val (undef), .val (.bool true), .val (.bool true), .val (undef), .val (undef)] [] [(0, []), (1, []), (2, []), (3, []), (4, [.as 45 (.bool false)]), (5, []), (6, []), (7, []), (8, []), (9, []), (10, [.as 51 (.bool true)]), (11, []), (12, []), (13, []), (14, []), (15, []), (16, []), (17, []), (18, []), (19, []), (20, []), (21, []), (22, []), (23, []), (24, []), (25, []), (26, []), (27, []), (28, []), (29, []), (30, []), (31, []), (32, []), (33, [])] [] (ob := [fun _ => Value.bool (!(y16.2 == (decide (y18 ≥ 0)))) = .bool false, fun _ => Value.bool (y16.1 != (if 0 > y18 then 0 else y18)) = .bool true]) (by kernel_rfl) (by kernel_rfl) hS (by kernel_rfl) (fun F N0 => by kernel_rfl) (by kernel_rfl) (by kernel_rfl) (by kernel_rfl) (by kernel_rfl) ⟨Bx.c (by rw [hb72]), Bx.c (by rw [hb73]), trivial⟩ ?_ ?_
            · exact trivial
            intro V a w e hS hq
            refine r_run 34 3 [0, 1, 5, 77] [] hS rfl (L' := [(0, .slice a0 p0.length c0), (1, .slice a1 p1.length c1), (5, .pointer (some ⟨b2, 0, none⟩)), (77, .bool true)]) (As' := [.box b2 [.int .i64 p2.table, .int .u16 p2.id]]) (ob := []) (by kernel_rfl) (trivial) fun a w hS => ?_
            refine wl_end ?_
            exact JK21 true _ _ (hS.got [0, 1, 5, 77] [0] [] 0 (by kernel_rfl) (by kernel_rfl) (by kernel_rfl)) h
        · replace h := ctrue hb72 h
          refine k_draw 34 37 [.val (.bool y16.2), .val (.int .i64 y18), .val (.bool (decide (y18 ≥ 0))), .val (.bool (!(y16.2 == (decide (y18 ≥ 0))))), .val (.bool true), .val (undef), .val (undef), .val (undef), .val (undef), .val (.bool true), .val (.bool true), .val (undef), .val (undef), .val (undef), .val (undef), .val (undef), .val (undef), .val (undef), .val (undef), .val (undef), .val (undef), .val (.bool true), .val (.bool true), .val (undef), .val (undef), .val (undef), .val (undef), .val (undef), .val (undef), .val (undef), .val (.bool true), .val (.bool true), .val (undef), .val (undef)] [] [(0, []), (1, []), (2, []), (3, []), (4, [.as 45 (.bool true)]), (5, []), (6, []), (7, []), (8, []), (9, []), (10, []), (11, []), (12, []), (13, []), (14, []), (15, []), (16, []), (17, []), (18, []), (19, []), (20, []), (21, []), (22, []), (23, []), (24, []), (25, []), (26, []), (27, []), (28, []), (29, []), (30, []), (31, []), (32, []), (33, [])] [] (ob := [fun _ => Value.bool (!(y16.2 == (decide (y18 ≥ 0)))) = .bool true]) (by kernel_rfl) (by kernel_rfl) hS (by kernel_rfl) (fun F N0 => by kernel_rfl) (by kernel_rfl) (by kernel_rfl) (by kernel_rfl) (by kernel_rfl) ⟨Bx.c (by rw [hb72]), trivial⟩ ?_ ?_
          · exact trivial
          intro V a w e hS hq
          refine r_run 34 3 [0, 1, 5, 77] [] hS rfl (L' := [(0, .slice a0 p0.length c0), (1, .slice a1 p1.length c1), (5, .pointer (some ⟨b2, 0, none⟩)), (77, .bool true)]) (As' := [.box b2 [.int .i64 p2.table, .int .u16 p2.id]]) (ob := []) (by kernel_rfl) (trivial) fun a w hS => ?_
          refine wl_end ?_
          exact JK21 true _ _ (hS.got [0, 1, 5, 77] [0] [] 0 (by kernel_rfl) (by kernel_rfl) (by kernel_rfl)) h
    cases hb88 : y10
    · replace hS := hS.env (L' := [(0, .slice a0 p0.length c0), (1, .slice a1 p1.length c1), (5, .pointer (some ⟨b2, 0, none⟩)), (27, .bool false)]) (by rw [hb88])
      replace h := cfalse hb88 h
      refine r_run 4 2 [0, 1, 5, 27, 28, 29] [] hS rfl (L' := [(0, .slice a0 p0.length c0), (1, .slice a1 p1.length c1), (5, .pointer (some ⟨b2, 0, none⟩)), (27, .bool false), (28, Value.agg #[.slice none 0 0]), (29, .slice a1 p1.length c1)]) (As' := [.box b2 [.int .i64 p2.table, .int .u16 p2.id]]) (ob := []) (by kernel_rfl) (trivial) fun a w hS => ?_
      obtain ⟨y89, hy89, h⟩ := bindS h
      refine r_call 6 rfl (d := some 30) (g := 10) (args := #[Value.agg #[.slice none 0 0], .slice a1 p1.length c1]) [] hS (by kernel_rfl) rfl (law05_over_ok n (Schema.mk ([] : (List Bounds))) p1 y89 hy89) (fun F up => ⟨nilB, up (hS.p 1 rfl), trivial⟩) ?_
      rintro v A P a w ⟨rfl, rfl, rfl⟩ hS
      refine r_run 7 1 [0, 1, 5, 31] [] hS rfl (L' := [(0, .slice a0 p0.length c0), (1, .slice a1 p1.length c1), (5, .pointer (some ⟨b2, 0, none⟩)), (31, .bool y89)]) (As' := [.box b2 [.int .i64 p2.table, .int .u16 p2.id]]) (ob := []) (by kernel_rfl) (trivial) fun a w hS => ?_
      refine wl_end ?_
      exact JK11 y89 _ _ (hS.got [0, 1, 5, 31] [0] [] 0 (by kernel_rfl) (by kernel_rfl) (by kernel_rfl)) h
    · replace hS := hS.env (L' := [(0, .slice a0 p0.length c0), (1, .slice a1 p1.length c1), (5, .pointer (some ⟨b2, 0, none⟩)), (27, .bool true)]) (by rw [hb88])
      replace h := ctrue hb88 h
      refine r_run 4 4 [0, 1, 5, 31] [] hS rfl (L' := [(0, .slice a0 p0.length c0), (1, .slice a1 p1.length c1), (5, .pointer (some ⟨b2, 0, none⟩)), (31, .bool true)]) (As' := [.box b2 [.int .i64 p2.table, .int .u16 p2.id]]) (ob := []) (by kernel_rfl) (trivial) fun a w hS => ?_
      refine wl_end ?_
      exact JK11 true _ _ (hS.got [0, 1, 5, 31] [0] [] 0 (by kernel_rfl) (by kernel_rfl) (by kernel_rfl)) h

end Go.Proofs.Ytlflbhhajnoelaa
