/- What the functions of layer 5 (row) compute. -/
import Derived.Test.YtfidbgcdjmhjnaaF4
import Derived.Test.YtfidbgcdjmhjnaaLst4
import Derived.Test.YtfidbgcdjmhjnaaRw
namespace Go.Proofs.Ytfidbgcdjmhjnaa
open Go.Bur
set_option linter.unusedSimpArgs false
set_option linter.unusedVariables false
set_option maxRecDepth 100000

/-! ### Keys -/
instance : DecidableEq Key := fun a b => match Int.decEq a.table b.table, Int.decEq a.id b.id with
  | .isTrue h, .isTrue k => .isTrue (by cases a; cases b; simp_all)
  | .isFalse h, _ => .isFalse (fun e => h (by rw [e]))
  | _, .isFalse h => .isFalse (fun e => h (by rw [e]))
def cmpI (a b : Int) : Int := if a < b then -1 else if a > b then 1 else 0
def cmpK (a b : Key) : Int := if cmpI a.table b.table ≠ 0 then cmpI a.table b.table else cmpI a.id b.id
theorem compare_int (n : Nat) (a b : Int) : cmp_Compare_int n a b = some (cmpI a b) := by
  unfold cmp_Compare_int cmp_isNaN_int cmpI
  by_cases h1 : a < b
  · simp [h1]
  · by_cases h2 : a > b
    · simp [h1, h2]
    · simp [h1, h2]
theorem compare_u16 (n : Nat) (a b : Int) : cmp_Compare_uint16 n a b = some (cmpI a b) := by
  unfold cmp_Compare_uint16 cmp_isNaN_uint16 cmpI
  by_cases h1 : a < b
  · simp [h1]
  · by_cases h2 : a > b
    · simp [h1, h2]
    · simp [h1, h2]
theorem or2 (n : Nat) (hn : 3 ≤ n) (a b : Int) : cmp_Or_int n [a, b] = some (if a ≠ 0 then a else b) := by
  obtain ⟨n, rfl⟩ : ∃ m, n = m + 3 := ⟨n - 3, by omega⟩
  unfold cmp_Or_int cmp_Or_int_l1
  by_cases ha : a = 0
  · by_cases hb : b = 0
    · subst ha hb; rfl
    · subst ha
      have : (b != 0) = true := by simpa using hb
      simp [loopF, idx, IntKind.wrap_i64, this]
  · have : (a != 0) = true := by simpa using ha
    simp [loopF, idx, this, ha]
theorem compare_eq (n : Nat) (hn : 3 ≤ n) (a b : Key) : row_Compare n a b = some (cmpK a b) := by
  unfold row_Compare
  rw [compare_int, compare_u16]
  simp only [Option.bind_some]
  rw [or2 n hn]
  rfl
theorem key_eqb (a b : Key) : Key.eqb a b = decide (a = b) := by
  obtain ⟨a1, a2⟩ := a
  obtain ⟨b1, b2⟩ := b
  by_cases h1 : a1 = b1 <;> by_cases h2 : a2 = b2 <;> simp [Key.eqb, h1, h2]
theorem cmpI_zero {a b : Int} : cmpI a b = 0 ↔ a = b := by unfold cmpI; split <;> (try split) <;> omega
theorem cmpI_neg {a b : Int} : cmpI a b = -cmpI b a := by unfold cmpI; split <;> split <;> (try split) <;> (try split) <;> omega
theorem cmpI_lt {a b : Int} : cmpI a b < 0 ↔ a < b := by unfold cmpI; split <;> (try split) <;> omega
theorem cmpI_rng (a b : Int) : cmpI a b = -1 ∨ cmpI a b = 0 ∨ cmpI a b = 1 := by unfold cmpI; split <;> (try split) <;> omega
theorem cmpK_zero {a b : Key} : cmpK a b = 0 ↔ a = b := by
  obtain ⟨a1, a2⟩ := a
  obtain ⟨b1, b2⟩ := b
  unfold cmpK
  by_cases h : cmpI a1 b1 = 0
  · have := cmpI_zero.1 h
    subst this
    simp [h, cmpI_zero]
  · have h' : a1 ≠ b1 := fun e => h (cmpI_zero.2 e)
    simp [h, h']
theorem cmpK_neg {a b : Key} : cmpK a b = -cmpK b a := by
  unfold cmpK
  have h1 := cmpI_neg (a := a.table) (b := b.table)
  have h2 := cmpI_neg (a := a.id) (b := b.id)
  by_cases h : cmpI b.table a.table = 0
  · rw [h] at h1; simp [h1, h, h2]
  · have : cmpI a.table b.table ≠ 0 := by omega
    simp [h, this, h1]
theorem cmpK_rng (a b : Key) : cmpK a b = -1 ∨ cmpK a b = 0 ∨ cmpK a b = 1 := by
  unfold cmpK; split
  · exact cmpI_rng _ _
  · exact cmpI_rng _ _
theorem cmpK_lt {a b : Key} : cmpK a b < 0 ↔ a.table < b.table ∨ a.table = b.table ∧ a.id < b.id := by
  unfold cmpK
  by_cases h : cmpI a.table b.table = 0
  · have := cmpI_zero.1 h
    simp only [ne_eq, h, not_true_eq_false, if_false, cmpI_lt]
    omega
  · have h' : a.table ≠ b.table := fun e => h (cmpI_zero.2 e)
    simp only [ne_eq, h, not_false_eq_true, if_true, cmpI_lt]
    omega
theorem cmpK_trans {a b c : Key} (h : cmpK a b ≤ 0) (k : cmpK b c ≤ 0) : cmpK a c ≤ 0 := by
  have key : ∀ x y : Key, cmpK x y ≤ 0 ↔ ¬ cmpK y x < 0 := fun x y => by have := cmpK_neg (a := x) (b := y); omega
  rw [key, cmpK_lt] at *
  omega
theorem cmpK_ltt {a b c : Key} (h : cmpK a b < 0) (k : cmpK b c < 0) : cmpK a c < 0 := by
  rw [cmpK_lt] at *
  omega
theorem ge_lt {a b : Key} : decide (cmpK a b ≥ 0) = !decide (cmpK a b < 0) := by
  by_cases h : cmpK a b < 0
  · rw [decide_eq_true h, decide_eq_false (by omega)]; rfl
  · rw [decide_eq_false h, decide_eq_true (by omega)]; rfl
theorem half_eq {x : Nat} (h : x < 4611686018427387904) : shrP .u64 (IntKind.wrap .u64 (IntKind.wrap .i64 (x : Int))) 1 = some ((x / 2 : Nat) : Int) ∧ IntKind.wrap .i64 ((x / 2 : Nat) : Int) = ((x / 2 : Nat) : Int) := by
  have e0 : IntKind.wrap .i64 (x : Int) = x := wrap_in (by omega)
  rw [e0]
  have e : IntKind.wrap .u64 (x : Int) = x := by rw [IntKind.wrap_u64]; omega
  rw [e]
  have e2 : shrV .u64 (x : Int) 1 = ((x / 2 : Nat) : Int) := by
    unfold shrV
    have e3 : (2 : Int) ^ (min (Int.toNat 1) (IntKind.u64.bits)) = 2 := by decide
    rw [e3, Int.fdiv_eq_ediv_of_nonneg _ (by decide)]
    omega
  refine ⟨?_, wrap_in (by omega)⟩
  unfold shrP
  rw [if_pos (by decide), e2]
def sameL {α : Type} (e : α → α → Bool) : List α → List α → Bool
  | [], [] => true
  | x :: a, y :: b => e x y && sameL e a b
  | _, _ => false
theorem sameL_len {α : Type} {e : α → α → Bool} : ∀ {a b : List α}, a.length ≠ b.length → sameL e a b = false
  | [], [], h => absurd rfl h
  | [], _ :: _, _ => rfl
  | _ :: _, [], _ => rfl
  | x :: a, y :: b, h => by
    simp only [sameL]
    rw [sameL_len (by simpa using h), Bool.and_false]
theorem sameL_refl {α : Type} {e : α → α → Bool} (he : ∀ x, e x x = true) : ∀ (a : List α), sameL e a a = true
  | [] => rfl
  | x :: a => by simp [sameL, he, sameL_refl he a]
def atE {α : Type} (e : α → α → Bool) (b : List α) (j : Nat) (x : α) : Bool := match b[j]? with
  | some y => e x y
  | none => true
theorem sameL_from {α : Type} {e : α → α → Bool} (b : List α) : ∀ (t : List α) (i : Nat), t.length + i = b.length → allFrom (atE e b) i t = sameL e t (b.drop i)
  | [], i, h => by
    rw [List.drop_eq_nil_of_le (by simp at h; omega)]; rfl
  | x :: t, i, h => by
    have hi : i < b.length := by simp at h; omega
    rw [drop_cons hi]
    simp only [allFrom, sameL, atE, get_some hi]
    rw [sameL_from b t (i + 1) (by simp at h; omega)]
end Go.Proofs.Ytfidbgcdjmhjnaa
