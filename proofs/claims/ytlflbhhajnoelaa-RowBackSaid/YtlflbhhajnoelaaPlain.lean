/- The plain laws of layer 5 (rows): what the printed twins compute is as the statements say. -/
import Derived.Test.YtlflbhhajnoelaaF4
import Derived.Test.YtlflbhhajnoelaaLst
import Derived.Test.YtlflbhhajnoelaaRead
namespace Go.Proofs.Ytlflbhhajnoelaa
open Go.Bur
set_option linter.unusedSimpArgs false
set_option linter.unusedVariables false
set_option maxRecDepth 100000

/-! ### Keys -/
def cmpI (a b : Int) : Int := if a < b then -1 else if a > b then 1 else 0
def cmpK (a b : Key) : Int := if cmpI a.table b.table ≠ 0 then cmpI a.table b.table else cmpI a.id b.id
theorem compare_int (n : Nat) (a b : Int) : cmp_Compare_int n a b = some (cmpI a b) := by
  unfold cmp_Compare_int cmp_isNaN_int cmpI
  by_cases h1 : a < b
  · simp [h1]
  · by_cases h2 : a > b
    · simp [h1, h2]
    · simp [h1, h2]
theorem compare_u16 (n : Nat) (a b : Int) : cmp_Compare_uint16 n a b = some (cmpI a b) := by
  unfold cmp_Compare_uint16 cmp_isNaN_uint16 cmpI
  by_cases h1 : a < b
  · simp [h1]
  · by_cases h2 : a > b
    · simp [h1, h2]
    · simp [h1, h2]
theorem or2 (n : Nat) (hn : 3 ≤ n) (a b : Int) : cmp_Or_int n [a, b] = some (if a ≠ 0 then a else b) := by
  obtain ⟨n, rfl⟩ : ∃ m, n = m + 3 := ⟨n - 3, by omega⟩
  unfold cmp_Or_int cmp_Or_int_l1 cmp_Or_int_l1 cmp_Or_int_l1
  by_cases ha : a = 0
  · by_cases hb : b = 0
    · subst ha hb; rfl
    · subst ha
      have : (b != 0) = true := by simpa using hb
      simp [idx, IntKind.wrap_i64, this]
  · have : (a != 0) = true := by simpa using ha
    simp [idx, this, ha]
theorem compare_eq (n : Nat) (hn : 3 ≤ n) (a b : Key) : row_Compare n a b = some (cmpK a b) := by
  unfold row_Compare
  rw [compare_int, compare_u16]
  simp only [Option.bind_some]
  rw [or2 n hn]
  rfl
instance : DecidableEq Key := fun a b => decidable_of_iff (a.table = b.table ∧ a.id = b.id) (by cases a; cases b; simp)
theorem key_eqb (a b : Key) : Key.eqb a b = decide (a = b) := by
  obtain ⟨a1, a2⟩ := a
  obtain ⟨b1, b2⟩ := b
  by_cases h1 : a1 = b1 <;> by_cases h2 : a2 = b2 <;> simp [Key.eqb, h1, h2]
theorem cmpI_zero {a b : Int} : cmpI a b = 0 ↔ a = b := by unfold cmpI; split <;> (try split) <;> omega
theorem cmpI_neg {a b : Int} : cmpI a b = -cmpI b a := by unfold cmpI; split <;> split <;> (try split) <;> (try split) <;> omega
theorem cmpI_lt {a b : Int} : cmpI a b < 0 ↔ a < b := by unfold cmpI; split <;> (try split) <;> omega
theorem cmpI_rng (a b : Int) : cmpI a b = -1 ∨ cmpI a b = 0 ∨ cmpI a b = 1 := by unfold cmpI; split <;> (try split) <;> omega
theorem cmpK_zero {a b : Key} : cmpK a b = 0 ↔ a = b := by
  obtain ⟨a1, a2⟩ := a
  obtain ⟨b1, b2⟩ := b
  unfold cmpK
  by_cases h : cmpI a1 b1 = 0
  · have := cmpI_zero.1 h
    subst this
    simp [h, cmpI_zero]
  · have h' : a1 ≠ b1 := fun e => h (cmpI_zero.2 e)
    simp [h, h']
theorem cmpK_neg {a b : Key} : cmpK a b = -cmpK b a := by
  unfold cmpK
  have h1 := cmpI_neg (a := a.table) (b := b.table)
  have h2 := cmpI_neg (a := a.id) (b := b.id)
  by_cases h : cmpI b.table a.table = 0
  · rw [h] at h1; simp [h1, h, h2]
  · have : cmpI a.table b.table ≠ 0 := by omega
    simp [h, this, h1]
theorem cmpK_rng (a b : Key) : cmpK a b = -1 ∨ cmpK a b = 0 ∨ cmpK a b = 1 := by
  unfold cmpK; split
  · exact cmpI_rng _ _
  · exact cmpI_rng _ _
theorem cmpK_lt {a b : Key} : cmpK a b < 0 ↔ a.table < b.table ∨ a.table = b.table ∧ a.id < b.id := by
  unfold cmpK
  by_cases h : cmpI a.table b.table = 0
  · have := cmpI_zero.1 h
    simp only [ne_eq, h, not_true_eq_false, if_false, cmpI_lt]
    omega
  · have h' : a.table ≠ b.table := fun e => h (cmpI_zero.2 e)
    simp only [ne_eq, h, not_false_eq_true, if_true, cmpI_lt]
    omega
theorem cmpK_trans {a b c : Key} (h : cmpK a b ≤ 0) (k : cmpK b c ≤ 0) : cmpK a c ≤ 0 := by
  have key : ∀ x y : Key, cmpK x y ≤ 0 ↔ ¬ cmpK y x < 0 := fun x y => by have := cmpK_neg (a := x) (b := y); omega
  rw [key, cmpK_lt] at *
  omega
theorem cmpK_ltt {a b c : Key} (h : cmpK a b < 0) (k : cmpK b c < 0) : cmpK a c < 0 := by
  rw [cmpK_lt] at *
  omega
theorem ref_compare (n : Nat) (a b : Key) : ref05_Compare n a b = some (cmpK a b) := by
  unfold ref05_Compare
  rw [key_eqb]
  by_cases h : a = b
  · subst h; simp [cmpK_zero.2 rfl]
  · have h0 : cmpK a b ≠ 0 := fun e => h (cmpK_zero.1 e)
    simp only [h, decide_false, cond_false]
    have hr := cmpK_rng a b
    by_cases hl : cmpK a b < 0
    · have hl' := cmpK_lt.1 hl
      rw [condT' (by simpa using hl')]
      congr 1; omega
    · have hl' := mt cmpK_lt.2 hl
      rw [condF' (by simp; omega)]
      congr 1; omega

theorem wakes_true : law05_wakes 200 = some true := by kernel_rfl

/-! ### RowOrder -/
section order
variable {n : Nat} (hn : 20 ≤ n) {l : List Key} (hl : l.length ≤ 12)
include hn hl
theorem order_l3 {a b : Key} {v : Int} {k : Int → Option Bool} : ∀ (m i : Nat), i ≤ l.length → l.length < m + i → law05_RowOrder_l3 n l a v b k m (i : Int) = k (IntKind.wrap .i64 (v + 1))
  | 0, i, h0, h => by omega
  | m + 1, i, h0, h => by
    have hn3 : 3 ≤ n := by omega
    unfold law05_RowOrder_l3
    by_cases hi : i < l.length
    · rw [condT' (lt_dec hi), idx_nat, get_some hi]
      simp only [Option.bind_some, compare_eq n hn3]
      have hk : ∀ b' : Bool, b' = false → law05_RowOrder_j1 n (i : Int) (law05_RowOrder_l3 n l a v b k m) b' = k (IntKind.wrap .i64 (v + 1)) := fun b' hb => by
        subst hb
        simp only [law05_RowOrder_j1, cond_false]
        rw [wrap_succ (by omega)]
        exact order_l3 m (i + 1) (by omega) (by omega)
      by_cases h1 : cmpK a b ≤ 0
      · rw [condT' (by simpa using h1)]
        by_cases h2 : cmpK b l[i] ≤ 0
        · have h3 := cmpK_trans h1 h2
          simp only [law05_RowOrder_j2, h2, decide_true, cond_true, compare_eq n hn3, Option.bind_some]
          exact hk _ (by simp; omega)
        · simp only [law05_RowOrder_j2, h2, decide_false, cond_false]
          exact hk _ rfl
      · rw [condF' (by simpa using h1)]
        simp only [law05_RowOrder_j2, cond_false]
        exact hk _ rfl
    · rw [condF' (ge_dec hi)]
theorem order_l2 {a : Key} {v : Int} {k : Int → Option Bool} : ∀ (m i : Nat), i ≤ l.length → l.length < m + i → law05_RowOrder_l2 n l v a k m (i : Int) = k (IntKind.wrap .i64 (v + 1))
  | 0, i, h0, h => by omega
  | m + 1, i, h0, h => by
    have hn3 : 3 ≤ n := by omega
    unfold law05_RowOrder_l2
    by_cases hi : i < l.length
    · rw [condT' (lt_dec hi), idx_nat, get_some hi]
      simp only [Option.bind_some, compare_eq n hn3]
      have hr := cmpK_rng l[i] a
      have e1 : (cmpK a l[i] != IntKind.wrap .i64 (0 - cmpK l[i] a)) = false := by
        rw [wrap_in (by omega)]
        have := cmpK_neg (a := a) (b := l[i])
        simp; omega
      have e2 : (!((cmpK a l[i] == 0) == Key.eqb a l[i])) = false := by
        rw [key_eqb]
        by_cases h : a = l[i]
        · rw [← h]; simp [cmpK_zero.2 rfl]
        · have h0 : cmpK a l[i] ≠ 0 := fun e => h (cmpK_zero.1 e)
          simp [h, h0]
      rw [condF' e1, e2]
      simp only [law05_RowOrder_j3, cond_false]
      rw [show (0 : Int) = ((0 : Nat) : Int) from rfl, order_l3 hn hl n 0 (by omega) (by omega), wrap_succ (by omega)]
      exact order_l2 m (i + 1) (by omega) (by omega)
    · rw [condF' (ge_dec hi)]
theorem order_l1 : ∀ (m i : Nat), i ≤ l.length → l.length < m + i → law05_RowOrder_l1 n l m (i : Int) = some true
  | 0, i, h0, h => by omega
  | m + 1, i, h0, h => by
    unfold law05_RowOrder_l1
    by_cases hi : i < l.length
    · rw [condT' (lt_dec hi), idx_nat, get_some hi]
      simp only [Option.bind_some]
      rw [show (0 : Int) = ((0 : Nat) : Int) from rfl, order_l2 hn hl n 0 (by omega) (by omega), wrap_succ (by omega)]
      exact order_l1 m (i + 1) (by omega) (by omega)
    · rw [condF' (ge_dec hi)]
end order
theorem rowOrder (l : List Key) (_ : (∀ y ∈ l, ok_Key y) ∧ l.length ≤ maxLen) : ∃ n, law05_RowOrder n l = some true := by
  refine ⟨200, ?_⟩
  unfold law05_RowOrder
  rw [bindE wakes_true]
  simp only [Bool.not_true, cond_false]
  by_cases h : l.length > 12
  · rw [condT' (by simp; omega), bindE (show sub l 0 12 = some _ from sub_ok (a := 0) (b := 12) (by omega) (by omega))]
    exact order_l1 (by omega) (by simp; omega) 200 0 (by omega) (by simp; omega)
  · rw [condF' (by simp; omega)]
    exact order_l1 (by omega) (by omega) 200 0 (by omega) (by omega)
end Go.Proofs.Ytlflbhhajnoelaa
