/- What the functions of layer 5 (row) compute. -/
import Derived.Test.YtegnflodgnfffaaGreatF3
import Derived.Test.YtegnflodgnfffaaGreatLst4
import Derived.Test.YtegnflodgnfffaaGreatRw
namespace Go.Proofs.YtegnflodgnfffaaGreat
open Go.Bur
set_option linter.unusedSimpArgs false
set_option linter.unusedVariables false
set_option maxRecDepth 100000

/-! ### Keys -/
instance : DecidableEq Key := fun a b => match Int.decEq a.table b.table, Int.decEq a.id b.id with
  | .isTrue h, .isTrue k => .isTrue (by cases a; cases b; simp_all)
  | .isFalse h, _ => .isFalse (fun e => h (by rw [e]))
  | _, .isFalse h => .isFalse (fun e => h (by rw [e]))
def cmpI (a b : Int) : Int := if a < b then -1 else if a > b then 1 else 0
def cmpK (a b : Key) : Int := if cmpI a.table b.table ≠ 0 then cmpI a.table b.table else cmpI a.id b.id
theorem compare_int (n : Nat) (a b : Int) : cmp_Compare_int n a b = some (cmpI a b) := by
  unfold cmp_Compare_int cmp_isNaN_int cmpI
  by_cases h1 : a < b
  · simp [h1]
  · by_cases h2 : a > b
    · simp [h1, h2]
    · simp [h1, h2]
theorem compare_u16 (n : Nat) (a b : Int) : cmp_Compare_uint16 n a b = some (cmpI a b) := by
  unfold cmp_Compare_uint16 cmp_isNaN_uint16 cmpI
  by_cases h1 : a < b
  · simp [h1]
  · by_cases h2 : a > b
    · simp [h1, h2]
    · simp [h1, h2]
theorem or2 (n : Nat) (hn : 3 ≤ n) (a b : Int) : cmp_Or_int n [a, b] = some (if a ≠ 0 then a else b) := by
  obtain ⟨n, rfl⟩ : ∃ m, n = m + 3 := ⟨n - 3, by omega⟩
  unfold cmp_Or_int cmp_Or_int_l1
  by_cases ha : a = 0
  · by_cases hb : b = 0
    · subst ha hb; rfl
    · subst ha
      have : (b != 0) = true := by simpa using hb
      simp [loopF, idx, IntKind.wrap_i64, this]
  · have : (a != 0) = true := by simpa using ha
    simp [loopF, idx, this, ha]
theorem compare_eq (n : Nat) (hn : 3 ≤ n) (a b : Key) : row_Compare n a b = some (cmpK a b) := by
  unfold row_Compare
  rw [compare_int, compare_u16]
  simp only [Option.bind_some]
  rw [or2 n hn]
  rfl
theorem key_eqb (a b : Key) : Key.eqb a b = decide (a = b) := by
  obtain ⟨a1, a2⟩ := a
  obtain ⟨b1, b2⟩ := b
  by_cases h1 : a1 = b1 <;> by_cases h2 : a2 = b2 <;> simp [Key.eqb, h1, h2]
theorem cmpI_zero {a b : Int} : cmpI a b = 0 ↔ a = b := by unfold cmpI; split <;> (try split) <;> omega
theorem cmpI_neg {a b : Int} : cmpI a b = -cmpI b a := by unfold cmpI; split <;> split <;> (try split) <;> (try split) <;> omega
theorem cmpI_lt {a b : Int} : cmpI a b < 0 ↔ a < b := by unfold cmpI; split <;> (try split) <;> omega
theorem cmpI_rng (a b : Int) : cmpI a b = -1 ∨ cmpI a b = 0 ∨ cmpI a b = 1 := by unfold cmpI; split <;> (try split) <;> omega
theorem cmpK_neg {a b : Key} : cmpK a b = -cmpK b a := by
  unfold cmpK
  have h1 := cmpI_neg (a := a.table) (b := b.table)
  have h2 := cmpI_neg (a := a.id) (b := b.id)
  by_cases h : cmpI b.table a.table = 0
  · rw [h] at h1; simp [h1, h, h2]
  · have : cmpI a.table b.table ≠ 0 := by omega
    simp [h, this, h1]
theorem cmpK_rng (a b : Key) : cmpK a b = -1 ∨ cmpK a b = 0 ∨ cmpK a b = 1 := by
  unfold cmpK; split
  · exact cmpI_rng _ _
  · exact cmpI_rng _ _
theorem cmpK_lt {a b : Key} : cmpK a b < 0 ↔ a.table < b.table ∨ a.table = b.table ∧ a.id < b.id := by
  unfold cmpK
  by_cases h : cmpI a.table b.table = 0
  · have := cmpI_zero.1 h
    simp only [ne_eq, h, not_true_eq_false, if_false, cmpI_lt]
    omega
  · have h' : a.table ≠ b.table := fun e => h (cmpI_zero.2 e)
    simp only [ne_eq, h, not_false_eq_true, if_true, cmpI_lt]
    omega
theorem cmpK_ltt {a b c : Key} (h : cmpK a b < 0) (k : cmpK b c < 0) : cmpK a c < 0 := by
  rw [cmpK_lt] at *
  omega
def right (s : Schema) : Bool := decide (1 ≤ s.tables.length ∧ s.tables.length ≤ 3) && !s.tables.any (fun b => decide (b.min > b.max))
theorem any_find {α : Type} {p : α → Bool} (l : List α) : l.any p = (l.findIdx? p).isSome := by
  induction l with
  | nil => rfl
  | cons x t ih =>
    rw [List.any_cons, List.findIdx?_cons]
    cases h : p x with
    | true => rfl
    | false => rw [if_neg (by decide), Option.isSome_map, Bool.false_or, ih]
theorem check_eq (n : Nat) (hn : 1003 ≤ n) (s : Schema) (hs : s.tables.length ≤ 1000) : row_Check n s = some (if right s then 0 else 150) := by
  have h2 : slices_ContainsFunc_Bounds_f43 n s.tables = some (s.tables.any fun b => decide (b.min > b.max)) := by
    have h3 : slices_IndexFunc_Bounds_f43 n s.tables = some (match s.tables.findIdx? (fun b => decide (b.min > b.max)) with | some j => (j : Int) | none => -1) := by
      show slices_IndexFunc_Bounds_f43_l1 n n (s.tables, (s.tables.length : Int), ((0 : Nat) : Int), ()) = _
      unfold slices_IndexFunc_Bounds_f43_l1
      refine (run_loop s.tables (fun (i : Nat) (_ : Unit) => (s.tables, (s.tables.length : Int), (i : Int), ())) (fun i x _ => if decide (x.min > x.max) then .inl (some (i : Int)) else .inr ()) (fun _ => some (-1)) (fun r i q x hx hi => ?_) (fun r q => ?_) n 0 () (by omega) (by omega)).trans ?_
      · simp only [lt_dec hi, cond_true, idx_nat, hx, Option.bind_some, row_Check_1, wrap_succ (show i < 4611686018427387904 by omega)]
        by_cases h : x.min > x.max
        · rw [decide_eq_true h]; rfl
        · rw [decide_eq_false h]; rfl
      · simp only [ge_dec (Nat.lt_irrefl _), cond_false]
      · rw [List.drop_zero, runL_find0]
        cases s.tables.findIdx? (fun b => decide (b.min > b.max)) with
        | none => rfl
        | some j => simp
    unfold slices_ContainsFunc_Bounds_f43
    rw [h3, any_find]
    cases s.tables.findIdx? (fun b => decide (b.min > b.max)) with
    | none => rfl
    | some j => simp
  unfold row_Check right
  rw [h2]
  simp only [jn, Option.bind_some]
  by_cases h : 1 ≤ s.tables.length ∧ s.tables.length ≤ 3
  · rw [decide_eq_true h, decide_eq_false (by omega : ¬ (s.tables.length : Int) < 1), decide_eq_false (by omega : ¬ (s.tables.length : Int) > 3)]
    cases s.tables.any (fun b => decide (b.min > b.max)) <;> rfl
  · rw [decide_eq_false h]
    by_cases h1 : (s.tables.length : Int) < 1
    · rw [decide_eq_true h1]; rfl
    · rw [decide_eq_false h1, decide_eq_true (by omega : (s.tables.length : Int) > 3)]; rfl
theorem right_eq (n : Nat) (hn : 1003 ≤ n) (s : Schema) (hs : s.tables.length ≤ 1000) : ref05_Right n s = some (right s) := by
  have h1 : ref05_Right_l1 n n (0, s, ()) = some (!s.tables.any fun b => decide (b.min > b.max)) := by
    show ref05_Right_l1 n n (((0 : Nat) : Int), s, ()) = _
    unfold ref05_Right_l1
    refine (run_loop s.tables (fun (i : Nat) (_ : Unit) => ((i : Int), s, ())) (fun i x _ => if decide (x.min > x.max) then .inl (some false) else .inr ()) (fun _ => some true) (fun r i q x hx hi => ?_) (fun r q => ?_) n 0 () (by omega) (by omega)).trans ?_
    · simp only [lt_dec hi, cond_true, idx_nat, hx, Option.bind_some, wrap_succ (show i < 4611686018427387904 by omega)]
      by_cases h : x.min > x.max
      · rw [decide_eq_true h]; rfl
      · rw [decide_eq_false h]; rfl
    · simp only [ge_dec (Nat.lt_irrefl _), cond_false]
    · rw [List.drop_zero, runL_any]
      cases s.tables.any (fun b => decide (b.min > b.max)) <;> rfl
  unfold ref05_Right right
  rw [h1]
  simp only [jn]
  by_cases h : 1 ≤ s.tables.length ∧ s.tables.length ≤ 3
  · rw [decide_eq_true h, decide_eq_false (by omega : ¬ (s.tables.length : Int) < 1), decide_eq_false (by omega : ¬ (s.tables.length : Int) > 3)]
    cases s.tables.any (fun b => decide (b.min > b.max)) <;> rfl
  · rw [decide_eq_false h]
    by_cases h1 : (s.tables.length : Int) < 1
    · rw [decide_eq_true h1]; rfl
    · rw [decide_eq_false h1, decide_eq_true (by omega : (s.tables.length : Int) > 3)]; rfl
theorem all1 (n : Nat) (hn : 3 ≤ n) (a : row_rule) : row_all n [a] = some (cond a.is 0 a.no) := by
  obtain ⟨n, rfl⟩ : ∃ m, n = m + 3 := ⟨n - 3, by omega⟩
  unfold row_all row_all_l1
  cases h : a.is <;> simp [loopF, idx, IntKind.wrap_i64, h]
def inTab (s : Schema) (k : Key) : Bool := decide (k.table ≥ 0) && decide (k.table < (s.tables.length : Int))
def keyErr (s : Schema) (k : Key) : Int := if inTab s k then 0 else 151
theorem inTab_iff {s : Schema} {k : Key} : inTab s k = true ↔ 0 ≤ k.table ∧ k.table < s.tables.length := by
  unfold inTab
  simp only [Bool.and_eq_true, decide_eq_true_iff, ge_iff_le]
theorem keyError_eq (n : Nat) (s : Schema) (k : Key) : ref05_KeyError n s k = some (keyErr s k) := by
  unfold ref05_KeyError keyErr inTab
  simp only [jn]
  by_cases h1 : k.table < 0
  · rw [decide_eq_true h1, decide_eq_false (by omega : ¬ k.table ≥ 0)]; rfl
  · rw [decide_eq_false h1, decide_eq_true (by omega : k.table ≥ 0)]
    by_cases h2 : k.table < (s.tables.length : Int)
    · rw [decide_eq_true h2, decide_eq_false (by omega : ¬ k.table ≥ (s.tables.length : Int))]; rfl
    · rw [decide_eq_false h2, decide_eq_true (by omega : k.table ≥ (s.tables.length : Int))]; rfl
theorem checkKey_eq (n : Nat) (hn : 1003 ≤ n) (s : Schema) (hs : s.tables.length ≤ 1000) (k : Key) : row_CheckKey n s k = some (if right s then keyErr s k else 150) := by
  unfold row_CheckKey keyErr inTab
  rw [check_eq n hn s hs]
  cases right s with
  | false => rfl
  | true =>
    simp only [if_true, Option.bind_some, show ((0 : Int) != 0) = false from by decide, cond_false, row_known, jn]
    cases decide (k.table ≥ 0) with
    | false => simp [all1 n (by omega)]
    | true => cases decide (k.table < (s.tables.length : Int)) <;> simp [all1 n (by omega)]
def fitsB (b : Bounds) (v : Int) : Bool := decide (v ≥ b.min) && decide (v ≤ b.max)
def rowErr (s : Schema) (r : Row) : Int :=
  if inTab s r.key then
    (if (r.note.size : Int) ≤ 8 then
      match idx s.tables r.key.table with
      | some x => if fitsB x r.val then 0 else 152
      | none => 0
    else 3)
  else 151
/-! ### Lists of rows -/
theorem ge_lt {a b : Key} : decide (cmpK a b ≥ 0) = !decide (cmpK a b < 0) := by
  by_cases h : cmpK a b < 0
  · rw [decide_eq_true h, decide_eq_false (by omega)]; rfl
  · rw [decide_eq_false h, decide_eq_true (by omega)]; rfl
def good (s : Schema) (l : List Row) : Prop := (∀ r ∈ l, rowErr s r = 0) ∧ l.Pairwise (fun a b => cmpK a.key b.key < 0)
/-! ### Where a key is in a right list -/
/-- l is A, perhaps y with the key, and B. -/
structure At (l : List Row) (k : Key) (A : List Row) (y : Option Row) (B : List Row) : Prop where
  eq : l = A ++ (y.toList ++ B)
  lo : ∀ r ∈ A, cmpK r.key k < 0
  mid : ∀ r, y = some r → r.key = k
  hi : ∀ r ∈ B, cmpK k r.key < 0
/-! ### Finding -/
def at_ (l : List Row) (k : Key) : Option Nat := l.findIdx? fun r => decide (r.key = k)
/-! ### With, without, of, the same, sums -/
/-! ### Put -/
end Go.Proofs.YtegnflodgnfffaaGreat

/- Escrows: sums of many numbers, ends, which may be. -/
namespace Go.Proofs.YtegnflodgnfffaaGreat
open Go.Bur
set_option linter.unusedSimpArgs false
set_option linter.unusedVariables false
set_option maxRecDepth 100000

/-! ### Conditions told in parts -/
theorem jn_and {R : Type} {f : Bool → R} {b x : Bool} : jn f (fun k => cond b (k x) (k false)) = f (b && x) := by cases b <;> rfl
theorem jn_or {R : Type} {f : Bool → R} {b x : Bool} : jn f (fun k => cond b (k true) (k x)) = f (b || x) := by cases b <;> rfl
theorem jn_id {R : Type} {f : Bool → R} {x : Bool} : jn f (fun k => k x) = f x := rfl
theorem sum_run {R : Type} {fin : Int → Option R} : ∀ (l : List Int) (i : Nat) (z : Int), runL (fun _ x z => .inr (z + x)) fin l i z = fin (z + l.sum)
  | [], _, z => by simp [runL]
  | x :: t, i, z => by simp only [runL]; rw [sum_run t]; simp [List.sum_cons]; congr 1; omega
theorem map_run {α β R : Type} {f : α → β} {fin : List β → Option R} : ∀ (l : List α) (i : Nat) (s : List β), runL (fun _ x s => .inr (s ++ [f x])) fin l i s = fin (s ++ l.map f)
  | [], _, s => by simp [runL]
  | x :: t, i, s => by simp only [runL]; rw [map_run t]; simp

/-! ### Numbers of 128 bits, and numbers of two digits -/
abbrev I64 (x : Int) : Prop := -9223372036854775808 ≤ x ∧ x ≤ 9223372036854775807
def wideOf (z : Int) : escrow_wide := ⟨z / 18446744073709551616, z % 18446744073709551616⟩
def bigOf (z : Int) : ref10_Big := ⟨z / 4294967296, z % 4294967296⟩
def fits (z : Int) : Bool := decide (-9223372036854775808 ≤ z ∧ z ≤ 9223372036854775807)
theorem shr63 {x : Int} (h : I64 x) : shrP .i64 x 63 = some (x / 18446744073709551616) := by
  unfold shrP
  rw [if_pos (by decide)]
  congr 1
  show x.fdiv 9223372036854775808 = _
  rw [Int.fdiv_eq_ediv_of_nonneg _ (by decide)]
  omega
theorem shr32 (x : Int) : shrP .i64 x 32 = some (x / 4294967296) := by
  unfold shrP
  rw [if_pos (by decide)]
  congr 1
  show x.fdiv 4294967296 = _
  rw [Int.fdiv_eq_ediv_of_nonneg _ (by decide)]
theorem mask32 (x : Int) : andV .i64 x 4294967295 = x % 4294967296 := by
  unfold andV
  show IntKind.wrap .i64 (((BitVec.ofInt 64 x &&& BitVec.ofInt 64 4294967295).toNat : Nat) : Int) = _
  have h1 : (BitVec.ofInt 64 4294967295).toNat = 2 ^ 32 - 1 := by decide
  rw [BitVec.toNat_and, h1, Nat.and_two_pow_sub_one_eq_mod, BitVec.toNat_ofInt, IntKind.wrap_i64]
  have h2 : ((x % ((2 ^ 64 : Nat) : Int)).toNat : Int) = x % 18446744073709551616 := by
    rw [Int.toNat_of_nonneg (by omega)]; rfl
  rw [Int.natCast_emod, h2]
  omega
theorem eof_eq (n : Nat) {x : Int} (h : I64 x) : escrow_of n x = some (wideOf x) := by
  unfold escrow_of
  rw [shr63 h]
  simp only [Option.bind_some, IntKind.wrap_u64]
  rfl
theorem add_low (a b : Int) : add64L (a % 18446744073709551616) (b % 18446744073709551616) = (a + b) % 18446744073709551616 := by
  unfold add64L
  rw [Int.natCast_emod, Int.natCast_add, Int.toNat_of_nonneg (by omega), Int.toNat_of_nonneg (by omega)]
  omega
theorem add_car (a b : Int) : add64C (a % 18446744073709551616) (b % 18446744073709551616) = (a % 18446744073709551616 + b % 18446744073709551616) / 18446744073709551616 := by
  unfold add64C
  rw [Int.natCast_ediv, Int.natCast_add, Int.toNat_of_nonneg (by omega), Int.toNat_of_nonneg (by omega)]
  rfl
theorem wide_add {z x : Int} (hz : -9223372036854775808000000 ≤ z ∧ z ≤ 9223372036854775808000000) (hx : I64 x) :
    escrow_wide.mk (IntKind.wrap .i64 ((IntKind.wrap .i64 ((wideOf z).high + (wideOf x).high)) + (IntKind.wrap .i64 (add64C (wideOf z).low (wideOf x).low)))) (add64L (wideOf z).low (wideOf x).low) = wideOf (z + x) := by
  unfold wideOf
  simp only
  rw [add_low, add_car, IntKind.wrap_i64, IntKind.wrap_i64, IntKind.wrap_i64]
  congr 1
  omega
theorem esum_eq (n : Nat) (hn : 1003 ≤ n) (l : List Int) (hl : l.length ≤ 100) (h : ∀ x ∈ l, I64 x) : escrow_sum n l = some (wideOf l.sum) := by
  unfold escrow_sum
  show escrow_sum_l1 n n (l, (l.length : Int), ((0 : Nat) : Int), escrow_wide.mk 0 0, wideOf 0, ()) = _
  unfold escrow_sum_l1
  refine (run_loopI l (fun (i : Nat) (z : Int) => (l, (l.length : Int), (i : Int), escrow_wide.mk 0 0, wideOf z, ())) (fun _ x z => .inr (z + x)) (fun z => some (wideOf z)) (fun i z => i ≤ 100 ∧ -(9223372036854775808 * (i : Int)) ≤ z ∧ z ≤ 9223372036854775808 * (i : Int)) (fun i z x z' hx hz hs => ?_) (fun r i z x hx hi hz => ?_) (fun r z _ => ?_) n 0 0 (Nat.zero_le _) (by omega) (by omega)).trans ?_
  · simp only [Sum.inr.injEq] at hs
    have hi := (List.getElem?_eq_some_iff.1 hx).1
    have := h x (List.mem_of_getElem? hx)
    subst hs
    refine ⟨by omega, ?_, ?_⟩ <;> rw [show ((i + 1 : Nat) : Int) = (i : Int) + 1 from by omega] <;> omega
  · simp only [lt_dec hi, cond_true, idx_nat, hx, Option.bind_some, eof_eq n (h x (List.mem_of_getElem? hx)), wrap_succ (show i < 4611686018427387904 by omega)]
    rw [wide_add (by omega) (h x (List.mem_of_getElem? hx))]
  · simp only [ge_dec (Nat.lt_irrefl _), cond_false]
  · rw [List.drop_zero, sum_run, Int.zero_add]
theorem small_eq (n : Nat) (z : Int) (hz : -9223372036854775808000000 ≤ z ∧ z ≤ 9223372036854775808000000) : escrow_wide_small n (wideOf z) = some (IntKind.wrap .i64 (z % 18446744073709551616), fits z) := by
  unfold escrow_wide_small
  have h1 : I64 (IntKind.wrap .i64 (wideOf z).low) := by rw [IntKind.wrap_i64]; unfold I64; omega
  rw [eof_eq n h1]
  simp only [Option.bind_some]
  have h2 : escrow_wide.eqb (wideOf (IntKind.wrap .i64 (wideOf z).low)) (wideOf z) = fits z := by
    unfold escrow_wide.eqb fits wideOf
    simp only
    rw [IntKind.wrap_i64]
    by_cases hf : -9223372036854775808 ≤ z ∧ z ≤ 9223372036854775807
    · rw [decide_eq_true hf]
      simp only [Bool.and_eq_true, beq_iff_eq, Bool.and_true]
      omega
    · rw [decide_eq_false hf]
      simp only [Bool.and_eq_false_iff, beq_eq_false_iff_ne, Bool.and_true]
      omega
  rw [h2]
  rfl
theorem fits_val {z : Int} (h : fits z = true) : IntKind.wrap .i64 (z % 18446744073709551616) = z := by
  have := of_decide_eq_true h
  rw [IntKind.wrap_i64]; omega
/-! ### The document's numbers -/
theorem bof_eq (n : Nat) (x : Int) : ref10_Of n x = some (bigOf x) := by
  unfold ref10_Of
  rw [shr32, mask32]; rfl
theorem bplus_eq (n : Nat) {a b : Int} (ha : -9223372036854775808000000 ≤ a ∧ a ≤ 9223372036854775808000000) (hb : -9223372036854775808000000 ≤ b ∧ b ≤ 9223372036854775808000000) : ref10_Plus n (bigOf a) (bigOf b) = some (bigOf (a + b)) := by
  unfold ref10_Plus
  rw [shr32, mask32]
  simp only [Option.bind_some]
  unfold bigOf
  simp only
  rw [IntKind.wrap_i64, IntKind.wrap_i64, IntKind.wrap_i64]
  congr 2
  · omega
  · omega
theorem rsmall_eq (n : Nat) (z : Int) (hz : -9223372036854775808000000 ≤ z ∧ z ≤ 9223372036854775808000000) : ref10_Small n (bigOf z) = some (if fits z then z else 0, fits z) := by
  unfold ref10_Small fits
  rw [jn_or]
  have e : (decide ((bigOf z).h < -2147483648) || decide ((bigOf z).h ≥ 2147483648)) = !decide (-9223372036854775808 ≤ z ∧ z ≤ 9223372036854775807) := by
    unfold bigOf
    simp only
    by_cases hf : -9223372036854775808 ≤ z ∧ z ≤ 9223372036854775807
    · rw [decide_eq_true hf, decide_eq_false (by omega), decide_eq_false (by omega)]; rfl
    · rw [decide_eq_false hf]
      by_cases h2 : z / 4294967296 < -2147483648
      · rw [decide_eq_true h2]; rfl
      · rw [decide_eq_false h2, decide_eq_true (by omega)]; rfl
  rw [e]
  by_cases hf : -9223372036854775808 ≤ z ∧ z ≤ 9223372036854775807
  · rw [decide_eq_true hf]
    simp only [Bool.not_true, cond_false]
    have h1 : shlP .i64 (bigOf z).h 32 = some (z / 4294967296 * 4294967296) := by
      unfold shlP
      rw [if_pos (by decide)]
      congr 1
      show IntKind.wrap .i64 (z / 4294967296 * 4294967296) = _
      rw [IntKind.wrap_i64]; omega
    rw [h1]
    simp only [Option.bind_some, if_true]
    unfold bigOf
    simp only
    rw [IntKind.wrap_i64, show (z / 4294967296 * 4294967296 + z % 4294967296) = z from by omega]
    congr 2
    omega
  · rw [decide_eq_false hf]; rfl
/-! ### Ends -/
def PendIn (p : Pending) : Prop := I64 p.value ∧ ∀ s ∈ p.shares, I64 s.lo ∧ I64 s.sum ∧ I64 s.hi
def lowZ (p : Pending) : Int := p.value + (p.shares.map (·.lo)).sum
def midZ (p : Pending) : Int := p.value + (p.shares.map (·.sum)).sum
def highZ (p : Pending) : Int := p.value + (p.shares.map (·.hi)).sum
theorem sum_rng : ∀ (l : List Int), (∀ x ∈ l, I64 x) → -(9223372036854775808 * (l.length : Int)) ≤ l.sum ∧ l.sum ≤ 9223372036854775808 * (l.length : Int)
  | [], _ => by simp
  | x :: t, h => by
    have h1 := h x (List.mem_cons_self ..)
    have h2 := sum_rng t fun y hy => h y (List.mem_cons_of_mem _ hy)
    rw [List.sum_cons, List.length_cons, show ((t.length + 1 : Nat) : Int) = (t.length : Int) + 1 from by omega]
    omega
theorem endZ_rng {v : Int} {l : List Int} (hv : I64 v) (hl : l.length ≤ 99) (h : ∀ x ∈ l, I64 x) : -9223372036854775808000000 ≤ v + l.sum ∧ v + l.sum ≤ 9223372036854775808000000 := by
  have := sum_rng l h
  omega
section
variable {n : Nat} {p : Pending}
theorem low_rng (hp : PendIn p) (hl : p.shares.length ≤ 99) : -9223372036854775808000000 ≤ lowZ p ∧ lowZ p ≤ 9223372036854775808000000 := endZ_rng hp.1 (by simpa using hl) fun x hx => by
  obtain ⟨s, hs, rfl⟩ := List.mem_map.1 hx; exact (hp.2 s hs).1
theorem mid_rng (hp : PendIn p) (hl : p.shares.length ≤ 99) : -9223372036854775808000000 ≤ midZ p ∧ midZ p ≤ 9223372036854775808000000 := endZ_rng hp.1 (by simpa using hl) fun x hx => by
  obtain ⟨s, hs, rfl⟩ := List.mem_map.1 hx; exact (hp.2 s hs).2.1
theorem high_rng (hp : PendIn p) (hl : p.shares.length ≤ 99) : -9223372036854775808000000 ≤ highZ p ∧ highZ p ≤ 9223372036854775808000000 := endZ_rng hp.1 (by simpa using hl) fun x hx => by
  obtain ⟨s, hs, rfl⟩ := List.mem_map.1 hx; exact (hp.2 s hs).2.2
theorem it_low (hn : 1003 ≤ n) (hl : p.shares.length ≤ 99) (f : HL tabT [.int .i64] → HL tabT [.sl (.int .i64)] → Option (Nat × HL tabT [.sl (.int .i64)])) (hf : ∀ (y : Int) (l : List Int), l.length ≤ 100 → f (y, ()) (l, ()) = some (0, (l ++ [y], ()))) (v : Int) :
    escrow_shares_1_fyd1_c1_50 n p () f 0 ([v], ()) = some (f, 0, (v :: p.shares.map (·.lo), ())) := by
  unfold escrow_shares_1_fyd1_c1_50
  show escrow_shares_1_fyd1_c1_50_l1 n n ((), p.shares, (p.shares.length : Int), ((0 : Nat) : Int), f, 0, ([v], ()), ()) = _
  unfold escrow_shares_1_fyd1_c1_50_l1
  refine (run_loopI p.shares (fun (i : Nat) (l : List Int) => ((), p.shares, (p.shares.length : Int), (i : Int), f, 0, (l, ()), ())) (fun _ x l => .inr (l ++ [x.lo])) (fun l => some (f, 0, (l, ()))) (fun i l => l.length = i + 1) (fun i l x l' hx hl' hs => ?_) (fun r i l x hx hi hl' => ?_) (fun r l _ => ?_) n 0 [v] (Nat.zero_le _) (by omega) rfl).trans ?_
  · simp only [Sum.inr.injEq] at hs; subst hs; simp [hl']
  · simp only [lt_dec hi, cond_true, idx_nat, hx, Option.bind_some, escrow_least, callY, hf _ l (by omega), wrap_succ (show i < 4611686018427387904 by omega)]
    rfl
  · simp only [ge_dec (Nat.lt_irrefl _), cond_false]
  · rw [List.drop_zero, map_run]; rfl
theorem it_mid (hn : 1003 ≤ n) (hl : p.shares.length ≤ 99) (f : HL tabT [.int .i64] → HL tabT [.sl (.int .i64)] → Option (Nat × HL tabT [.sl (.int .i64)])) (hf : ∀ (y : Int) (l : List Int), l.length ≤ 100 → f (y, ()) (l, ()) = some (0, (l ++ [y], ()))) (v : Int) :
    escrow_shares_1_fyd1_c1_52 n p () f 0 ([v], ()) = some (f, 0, (v :: p.shares.map (·.sum), ())) := by
  unfold escrow_shares_1_fyd1_c1_52
  show escrow_shares_1_fyd1_c1_52_l1 n n ((), p.shares, (p.shares.length : Int), ((0 : Nat) : Int), f, 0, ([v], ()), ()) = _
  unfold escrow_shares_1_fyd1_c1_52_l1
  refine (run_loopI p.shares (fun (i : Nat) (l : List Int) => ((), p.shares, (p.shares.length : Int), (i : Int), f, 0, (l, ()), ())) (fun _ x l => .inr (l ++ [x.sum])) (fun l => some (f, 0, (l, ()))) (fun i l => l.length = i + 1) (fun i l x l' hx hl' hs => ?_) (fun r i l x hx hi hl' => ?_) (fun r l _ => ?_) n 0 [v] (Nat.zero_le _) (by omega) rfl).trans ?_
  · simp only [Sum.inr.injEq] at hs; subst hs; simp [hl']
  · simp only [lt_dec hi, cond_true, idx_nat, hx, Option.bind_some, escrow_whole, callY, hf _ l (by omega), wrap_succ (show i < 4611686018427387904 by omega)]
    rfl
  · simp only [ge_dec (Nat.lt_irrefl _), cond_false]
  · rw [List.drop_zero, map_run]; rfl
theorem it_high (hn : 1003 ≤ n) (hl : p.shares.length ≤ 99) (f : HL tabT [.int .i64] → HL tabT [.sl (.int .i64)] → Option (Nat × HL tabT [.sl (.int .i64)])) (hf : ∀ (y : Int) (l : List Int), l.length ≤ 100 → f (y, ()) (l, ()) = some (0, (l ++ [y], ()))) (v : Int) :
    escrow_shares_1_fyd1_c1_53 n p () f 0 ([v], ()) = some (f, 0, (v :: p.shares.map (·.hi), ())) := by
  unfold escrow_shares_1_fyd1_c1_53
  show escrow_shares_1_fyd1_c1_53_l1 n n ((), p.shares, (p.shares.length : Int), ((0 : Nat) : Int), f, 0, ([v], ()), ()) = _
  unfold escrow_shares_1_fyd1_c1_53_l1
  refine (run_loopI p.shares (fun (i : Nat) (l : List Int) => ((), p.shares, (p.shares.length : Int), (i : Int), f, 0, (l, ()), ())) (fun _ x l => .inr (l ++ [x.hi])) (fun l => some (f, 0, (l, ()))) (fun i l => l.length = i + 1) (fun i l x l' hx hl' hs => ?_) (fun r i l x hx hi hl' => ?_) (fun r l _ => ?_) n 0 [v] (Nat.zero_le _) (by omega) rfl).trans ?_
  · simp only [Sum.inr.injEq] at hs; subst hs; simp [hl']
  · simp only [lt_dec hi, cond_true, idx_nat, hx, Option.bind_some, escrow_most, callY, hf _ l (by omega), wrap_succ (show i < 4611686018427387904 by omega)]
    rfl
  · simp only [ge_dec (Nat.lt_irrefl _), cond_false]
  · rw [List.drop_zero, map_run]; rfl
theorem app_one (y : Int) (l : List Int) (h : l.length ≤ 100) : ((app 8 l ([y] : List Int)).bind fun l4 => some ((0 : Nat), (l4, ()))) = some (0, (l ++ [y], ())) := by
  rw [app_lt (by simp; omega) (by omega)]; rfl
theorem end_low (hn : 1003 ≤ n) (hp : PendIn p) (hl : p.shares.length ≤ 98) : escrow_end_f50 n p = some (wideOf (lowZ p)) := by
  unfold escrow_end_f50 escrow_shares_f50
  simp only [Option.bind_some]
  rw [it_low hn (by omega) _ (fun y l h => app_one y l h)]
  simp only [Option.bind_some, sel]
  rw [esum_eq n hn _ (by simp; omega) (fun x hx => by
    rcases List.mem_cons.1 hx with rfl | hx
    · exact hp.1
    · obtain ⟨s, hs, rfl⟩ := List.mem_map.1 hx; exact (hp.2 s hs).1)]
  simp only [Option.bind_some, List.sum_cons]
  rfl
theorem end_mid (hn : 1003 ≤ n) (hp : PendIn p) (hl : p.shares.length ≤ 98) : escrow_end_f52 n p = some (wideOf (midZ p)) := by
  unfold escrow_end_f52 escrow_shares_f52
  simp only [Option.bind_some]
  rw [it_mid hn (by omega) _ (fun y l h => app_one y l h)]
  simp only [Option.bind_some, sel]
  rw [esum_eq n hn _ (by simp; omega) (fun x hx => by
    rcases List.mem_cons.1 hx with rfl | hx
    · exact hp.1
    · obtain ⟨s, hs, rfl⟩ := List.mem_map.1 hx; exact (hp.2 s hs).2.1)]
  simp only [Option.bind_some, List.sum_cons]
  rfl
theorem end_high (hn : 1003 ≤ n) (hp : PendIn p) (hl : p.shares.length ≤ 98) : escrow_end_f53 n p = some (wideOf (highZ p)) := by
  unfold escrow_end_f53 escrow_shares_f53
  simp only [Option.bind_some]
  rw [it_high hn (by omega) _ (fun y l h => app_one y l h)]
  simp only [Option.bind_some, sel]
  rw [esum_eq n hn _ (by simp; omega) (fun x hx => by
    rcases List.mem_cons.1 hx with rfl | hx
    · exact hp.1
    · obtain ⟨s, hs, rfl⟩ := List.mem_map.1 hx; exact (hp.2 s hs).2.2)]
  simp only [Option.bind_some, List.sum_cons]
  rfl
theorem ends_eq (hn : 1003 ≤ n) (hp : PendIn p) (hl : p.shares.length ≤ 98) : ref10_ends n p = some (bigOf (lowZ p), bigOf (midZ p), bigOf (highZ p)) := by
  unfold ref10_ends
  simp only [bof_eq, Option.bind_some]
  show ref10_ends_l1 n n (p.shares, (p.shares.length : Int), ((0 : Nat) : Int), ref10_Big.mk 0 0, ref10_Big.mk 0 0, ref10_Big.mk 0 0, bigOf p.value, bigOf p.value, bigOf p.value, ()) = _
  unfold ref10_ends_l1
  refine (run_loopI p.shares (fun (i : Nat) (z : Int × Int × Int) => (p.shares, (p.shares.length : Int), (i : Int), ref10_Big.mk 0 0, ref10_Big.mk 0 0, ref10_Big.mk 0 0, bigOf z.1, bigOf z.2.1, bigOf z.2.2, ())) (fun _ x z => .inr (z.1 + x.lo, z.2.1 + x.sum, z.2.2 + x.hi)) (fun z => some (bigOf z.1, bigOf z.2.1, bigOf z.2.2))
    (fun i z => i ≤ 98 ∧ (-(9223372036854775808 * (i + 1 : Int)) ≤ z.1 ∧ z.1 ≤ 9223372036854775808 * (i + 1 : Int)) ∧ (-(9223372036854775808 * (i + 1 : Int)) ≤ z.2.1 ∧ z.2.1 ≤ 9223372036854775808 * (i + 1 : Int)) ∧ (-(9223372036854775808 * (i + 1 : Int)) ≤ z.2.2 ∧ z.2.2 ≤ 9223372036854775808 * (i + 1 : Int))) (fun i z x z' hx hz hs => ?_) (fun r i z x hx hi hz => ?_) (fun r z _ => ?_) n 0 (p.value, p.value, p.value) (Nat.zero_le _) (by omega) (by have := hp.1; simp only; omega)).trans ?_
  · simp only [Sum.inr.injEq] at hs
    have hi := (List.getElem?_eq_some_iff.1 hx).1
    have := hp.2 x (List.mem_of_getElem? hx)
    subst hs
    simp only
    rw [show ((i + 1 : Nat) : Int) = (i : Int) + 1 from by omega]
    omega
  · have hxx := hp.2 x (List.mem_of_getElem? hx)
    simp only [lt_dec hi, cond_true, idx_nat, hx, Option.bind_some, bof_eq, wrap_succ (show i < 4611686018427387904 by omega)]
    rw [bplus_eq n (by omega) (by omega), bplus_eq n (by omega) (by omega), bplus_eq n (by omega) (by omega)]
    rfl
  · simp only [ge_dec (Nat.lt_irrefl _), cond_false]
  · have key : ∀ (l : List Share) (i : Nat) (z : Int × Int × Int), runL (fun (_ : Nat) (x : Share) (z : Int × Int × Int) => (.inr (z.1 + x.lo, z.2.1 + x.sum, z.2.2 + x.hi) : Option (ref10_Big × ref10_Big × ref10_Big) ⊕ (Int × Int × Int))) (fun z => some (bigOf z.1, bigOf z.2.1, bigOf z.2.2)) l i z = some (bigOf (z.1 + (l.map (·.lo)).sum), bigOf (z.2.1 + (l.map (·.sum)).sum), bigOf (z.2.2 + (l.map (·.hi)).sum)) := by
      intro l
      induction l with
      | nil => intro i z; simp [runL]
      | cons x t ih =>
        intro i z
        simp only [runL, ih, List.map_cons, List.sum_cons]
        rw [Int.add_assoc, Int.add_assoc, Int.add_assoc]
    rw [List.drop_zero, key]
    rfl
end
end Go.Proofs.YtegnflodgnfffaaGreat

/- More plain lemmas: loops as folds, lists in order, searches, things put into their place. -/
namespace Go.Bur
open Go.RowKit
set_option linter.unusedVariables false
set_option linter.unusedSimpArgs false

/-! ### Loops as folds -/
theorem runL_fold {α σ R : Type} {g : α → σ → σ} {fin : σ → Option R} : ∀ (l : List α) (i : Nat) (s : σ), runL (fun _ x s => .inr (g x s)) fin l i s = fin (l.foldl (fun s x => g x s) s)
  | [], _, _ => rfl
  | x :: t, i, s => by simp only [runL, List.foldl_cons]; exact runL_fold t (i + 1) (g x s)
/-! ### Each of a list, and each two that follow one another -/
def prevOk {α : Type} (r : α → α → Bool) (x : α) : Option α → Bool
  | none => true
  | some y => r y x
def prevO {α : Type} (l : List α) : Nat → Option α
  | 0 => none
  | j + 1 => l[j]?
def stepA {α : Type} (p : α → Bool) (r : α → α → Bool) (l : List α) (i : Nat) (x : α) : Bool := p x && prevOk r x (prevO l i)
def chainB {α : Type} (p : α → Bool) (r : α → α → Bool) : Option α → List α → Bool
  | _, [] => true
  | o, x :: t => p x && prevOk r x o && chainB p r (some x) t
theorem chain_from {α : Type} {p : α → Bool} {r : α → α → Bool} (l : List α) : ∀ (t pre : List α), l = pre ++ t → allFrom (stepA p r l) pre.length t = chainB p r pre.getLast? t
  | [], _, _ => rfl
  | x :: t, pre, h => by
    have h' : l = (pre ++ [x]) ++ t := by rw [h]; simp
    have ih := chain_from (p := p) (r := r) l t (pre ++ [x]) h'
    rw [List.length_append, List.length_singleton, List.getLast?_concat] at ih
    simp only [allFrom, chainB, ih]
    congr 1
    unfold stepA
    congr 1
    congr 1
    rcases List.eq_nil_or_concat pre with rfl | ⟨q, y, rfl⟩
    · rfl
    · simp only [List.concat_eq_append, List.length_append, List.length_singleton, List.getLast?_concat]
      rw [h]
      simp [prevO]
theorem allFrom_chain {α : Type} {p : α → Bool} {r : α → α → Bool} (l : List α) : allFrom (stepA p r l) 0 l = chainB p r none l := chain_from l l [] rfl
theorem chain_iff {α : Type} {p : α → Bool} {r : α → α → Bool} (tr : ∀ a b c, r a b = true → r b c = true → r a c = true) : ∀ {l : List α} {o : Option α},
    chainB p r o l = true ↔ (∀ x ∈ l, p x = true) ∧ l.Pairwise (fun a b => r a b = true) ∧ ∀ y, o = some y → ∀ x ∈ l, r y x = true
  | [], o => by simp [chainB]
  | x :: t, o => by
    simp only [chainB, Bool.and_eq_true, chain_iff tr (l := t), List.mem_cons, forall_eq_or_imp, List.pairwise_cons]
    constructor
    · rintro ⟨⟨h1, h2⟩, h3, h4, h5⟩
      refine ⟨⟨h1, h3⟩, ⟨fun z hz => h5 x rfl z hz, h4⟩, fun y hy => ?_⟩
      subst hy
      exact ⟨h2, fun z hz => tr y x z h2 (h5 x rfl z hz)⟩
    · rintro ⟨⟨h1, h3⟩, ⟨h5, h4⟩, h6⟩
      refine ⟨⟨h1, ?_⟩, h3, h4, fun y hy z hz => ?_⟩
      · cases o with
        | none => rfl
        | some y => exact (h6 y rfl).1
      · cases hy; exact h5 z hz

/-! ### Where a thing is in a list in order -/
section
variable {α : Type} {c : α → Int} {l A B : List α} {y : Option α}
end
/-! ### slices.DeleteFunc -/
/-! ### The first of its kind; a list changed place by place -/
end Go.Bur

/- Escrows: which may be, who may add. -/
namespace Go.Proofs.YtegnflodgnfffaaGreat
open Go.Bur
set_option linter.unusedSimpArgs false
set_option linter.unusedVariables false
set_option maxRecDepth 100000

/-! ### Which may be -/
def keyB (k : Key) : Bool := decide (0 ≤ k.table ∧ k.table < 3)
def txnB (t : Int) : Bool := decide (1 ≤ t ∧ t ≤ 1073741824)
def shareOk (s : Share) : Bool := txnB s.txn && decide (s.lo ≤ 0 ∧ s.lo ≤ s.sum ∧ s.sum ≤ s.hi ∧ 0 ≤ s.hi)
def ltT (a b : Share) : Bool := decide (a.txn < b.txn)
def rightP (p : Pending) : Bool := keyB p.key && decide (1 ≤ p.shares.length ∧ p.shares.length ≤ 8) && chainB shareOk ltT none p.shares && fits (lowZ p) && fits (highZ p)
def ltK (p q : Pending) : Bool := decide (cmpK p.key q.key < 0)
def rightE (l : List Pending) : Bool := decide (l.length ≤ 60) && chainB rightP ltK none l
theorem key_eq (n : Nat) (k : Key) : escrow_key n k = some (keyB k) := by
  unfold escrow_key keyB
  rw [jn_and]
  congr 1
  rw [Bool.eq_iff_iff]
  simp only [Bool.and_eq_true, decide_eq_true_iff, ge_iff_le]
theorem rkey_eq (n : Nat) (k : Key) : ref10_key n k = some (keyB k) := by
  unfold ref10_key keyB
  rw [jn_and]
  congr 1
  rw [Bool.eq_iff_iff]
  simp only [Bool.and_eq_true, decide_eq_true_iff, ge_iff_le]
theorem txn_eq (n : Nat) (t : Int) : escrow_txn n t = some (txnB t) := by
  unfold escrow_txn txnB
  rw [jn_and]
  congr 1
  rw [Bool.eq_iff_iff]
  simp only [Bool.and_eq_true, decide_eq_true_iff, ge_iff_le]
def lastT : Option Share → Int
  | none => 0
  | some y => y.txn
def rightS (x : Share) (s : Bool × Int) : Bool × Int := (s.1 && txnB x.txn && decide (x.txn > s.2) && decide (x.lo ≤ if x.sum < 0 then x.sum else 0) && decide (x.hi ≥ if x.sum > 0 then x.sum else 0), x.txn)
theorem right_run : ∀ (l : List Share) (o : Option Share) (b : Bool), (l.foldl (fun s x => rightS x s) (b, lastT o)).1 = (b && chainB shareOk ltT o l)
  | [], o, b => by simp [chainB]
  | x :: t, o, b => by
    rw [List.foldl_cons]
    have h1 : (x.lo ≤ if x.sum < 0 then x.sum else 0) ↔ (x.lo ≤ 0 ∧ x.lo ≤ x.sum) := by split <;> omega
    have h2 : (x.hi ≥ if x.sum > 0 then x.sum else 0) ↔ (x.sum ≤ x.hi ∧ 0 ≤ x.hi) := by split <;> omega
    have e : rightS x (b, lastT o) = (b && (shareOk x && prevOk ltT x o), lastT (some x)) := by
      unfold rightS shareOk
      refine Prod.ext ?_ rfl
      rw [Bool.eq_iff_iff]
      simp only [Bool.and_eq_true, decide_eq_true_iff, h1, h2]
      unfold txnB
      cases o with
      | none => cases b <;> simp only [prevOk, lastT, decide_eq_true_iff, Bool.false_eq_true, false_and, true_and, and_true] <;> omega
      | some y => cases b <;> simp only [prevOk, lastT, ltT, decide_eq_true_iff, Bool.false_eq_true, false_and, true_and, and_true] <;> omega
    rw [e, right_run t (some x)]
    simp only [chainB, Bool.and_assoc]
section
variable {n : Nat} {p : Pending}
theorem right_eqP (hn : 1003 ≤ n) (hp : PendIn p) (hl : p.shares.length ≤ 98) : escrow_right n p = some (rightP p) := by
  have h1 : ∀ b, escrow_right_l1 n n (b, 0, p.shares, (p.shares.length : Int), 0, p, ()) = some (b && chainB shareOk ltT none p.shares && fits (lowZ p) && fits (highZ p)) := fun b => by
    show escrow_right_l1 n n (b, lastT none, p.shares, (p.shares.length : Int), ((0 : Nat) : Int), p, ()) = _
    unfold escrow_right_l1
    refine (run_loop p.shares (fun (i : Nat) (s : Bool × Int) => (s.1, s.2, p.shares, (p.shares.length : Int), (i : Int), p, ())) (fun _ x s => .inr (rightS x s)) (fun s => some (s.1 && fits (lowZ p) && fits (highZ p))) (fun r i s x hx hi => ?_) (fun r s => ?_) n 0 (b, lastT none) (Nat.zero_le _) (by omega)).trans ?_
    · obtain ⟨b, a⟩ := s
      simp only [lt_dec hi, cond_true, idx_nat, hx, Option.bind_some, txn_eq, jn_and, jn_id, wrap_succ (show i < 4611686018427387904 by omega), rightS]
    · obtain ⟨b, a⟩ := s
      simp only [ge_dec (Nat.lt_irrefl _), cond_false, end_low hn hp hl, end_high hn hp hl, Option.bind_some, small_eq n _ (low_rng hp (by omega)), small_eq n _ (high_rng hp (by omega)), jn]
      cases b <;> cases fits (lowZ p) <;> simp
    · rw [List.drop_zero, runL_fold, right_run]
  unfold escrow_right rightP
  rw [key_eq]
  simp only [Option.bind_some, jn, h1]
  have e1 : decide ((p.shares.length : Int) > 0) = decide (1 ≤ p.shares.length) := by
    rw [Bool.eq_iff_iff]; simp only [decide_eq_true_iff]; omega
  have e2 : decide ((p.shares.length : Int) ≤ 8) = decide (p.shares.length ≤ 8) := by
    rw [Bool.eq_iff_iff]; simp only [decide_eq_true_iff]; omega
  rw [e1, e2]
  cases keyB p.key <;> cases h3 : decide (1 ≤ p.shares.length) <;> cases h4 : decide (p.shares.length ≤ 8) <;> simp only [cond_true, cond_false, Bool.false_and, Bool.true_and] <;> simp at h3 h4 <;> simp [h3, h4]
  all_goals omega
theorem rrightP_eq (hn : 1003 ≤ n) (hp : PendIn p) (hl : p.shares.length ≤ 98) : ref10_RightPending n p = some (rightP p) := by
  have h1 : ref10_RightPending_l1 n n (p.shares, (p.shares.length : Int), 0, p, ()) = some (chainB shareOk ltT none p.shares && fits (lowZ p) && fits (highZ p)) := by
    show ref10_RightPending_l1 n n (p.shares, (p.shares.length : Int), ((0 : Nat) : Int), p, ()) = _
    unfold ref10_RightPending_l1
    refine (run_loop p.shares (fun (i : Nat) (_ : Unit) => (p.shares, (p.shares.length : Int), (i : Int), p, ())) (fun i x _ => if stepA shareOk ltT p.shares i x then .inr () else .inl (some false)) (fun _ => some (fits (lowZ p) && fits (highZ p))) (fun r i s x hx hi => ?_) (fun r s => ?_) n 0 () (Nat.zero_le _) (by omega)).trans ?_
    · simp only [lt_dec hi, cond_true, idx_nat, hx, Option.bind_some, jn, wrap_succ (show i < 4611686018427387904 by omega)]
      have key : stepA shareOk ltT p.shares i x = (decide (1 ≤ x.txn) && decide (x.txn ≤ 1073741824) && prevOk ltT x (prevO p.shares i) && decide (x.lo ≤ 0) && decide (0 ≤ x.hi) && decide (x.lo ≤ x.sum) && decide (x.sum ≤ x.hi)) := by
        unfold stepA shareOk txnB
        rw [Bool.eq_iff_iff]
        simp only [Bool.and_eq_true, decide_eq_true_iff]
        constructor
        · rintro ⟨⟨⟨a1, a2⟩, a3, a4, a5, a6⟩, a7⟩; exact ⟨⟨⟨⟨⟨⟨a1, a2⟩, a7⟩, a3⟩, a6⟩, a4⟩, a5⟩
        · rintro ⟨⟨⟨⟨⟨⟨a1, a2⟩, a7⟩, a3⟩, a6⟩, a4⟩, a5⟩; exact ⟨⟨⟨a1, a2⟩, a3, a4, a5, a6⟩, a7⟩
      rw [key]
      have n1 : ∀ (a b : Int), decide (a < b) = !decide (b ≤ a) := fun a b => by rw [Bool.eq_iff_iff]; simp only [Bool.not_eq_true', decide_eq_true_iff, decide_eq_false_iff_not]; omega
      simp only [gt_iff_lt, n1]
      have tail : ∀ (b : Bool), cond (!decide (1 ≤ x.txn)) (cond b (some false) (r (p.shares, (p.shares.length : Int), ((i + 1 : Nat) : Int), p, ()))) (cond b (some false) (r (p.shares, (p.shares.length : Int), ((i + 1 : Nat) : Int), p, ()))) = cond b (some false) (r (p.shares, (p.shares.length : Int), ((i + 1 : Nat) : Int), p, ())) := fun b => by cases decide (1 ≤ x.txn) <;> rfl
      cases i with
      | zero =>
        simp only [show (!decide (((0 : Nat) : Int) ≤ 0)) = false from rfl, cond_false, prevOk, prevO]
        cases decide (1 ≤ x.txn) <;> cases decide (x.txn ≤ 1073741824) <;> cases decide (x.lo ≤ 0) <;> cases decide (0 ≤ x.hi) <;> cases decide (x.lo ≤ x.sum) <;> cases decide (x.sum ≤ x.hi) <;> rfl
      | succ j =>
        simp only [decide_eq_false (show ¬ ((j + 1 : Nat) : Int) ≤ 0 by omega), Bool.not_false, cond_true, wrap_pred (show j < 4611686018427387904 by omega), idx_nat, get_some (show j < p.shares.length by omega), Option.bind_some, prevOk, prevO, ltT, ge_iff_le, n1]
        cases decide (1 ≤ x.txn) <;> cases decide (x.txn ≤ 1073741824) <;> cases decide (x.txn ≤ (p.shares[j]).txn) <;> cases decide (x.lo ≤ 0) <;> cases decide (0 ≤ x.hi) <;> cases decide (x.lo ≤ x.sum) <;> cases decide (x.sum ≤ x.hi) <;> rfl
    · simp only [ge_dec (Nat.lt_irrefl _), cond_false, ends_eq hn hp hl, Option.bind_some, rsmall_eq n _ (low_rng hp (by omega)), rsmall_eq n _ (high_rng hp (by omega)), jn]
      cases fits (lowZ p) <;> rfl
    · rw [List.drop_zero, runL_allFrom, allFrom_chain]
      cases chainB shareOk ltT none p.shares <;> simp
  unfold ref10_RightPending rightP
  rw [rkey_eq]
  simp only [Option.bind_some, jn, h1]
  have e1 : decide ((p.shares.length : Int) < 1) = !decide (1 ≤ p.shares.length) := by
    rw [Bool.eq_iff_iff]; simp only [Bool.not_eq_true', decide_eq_true_iff, decide_eq_false_iff_not]; omega
  have e2 : decide ((p.shares.length : Int) > 8) = !decide (p.shares.length ≤ 8) := by
    rw [Bool.eq_iff_iff]; simp only [Bool.not_eq_true', decide_eq_true_iff, decide_eq_false_iff_not]; omega
  have e3 : decide (1 ≤ p.shares.length ∧ p.shares.length ≤ 8) = (decide (1 ≤ p.shares.length) && decide (p.shares.length ≤ 8)) := by
    rw [Bool.eq_iff_iff]; simp only [Bool.and_eq_true, decide_eq_true_iff]
  rw [e1, e2, e3]
  cases keyB p.key <;> cases decide (1 ≤ p.shares.length) <;> cases decide (p.shares.length ≤ 8) <;> simp
end
theorem byKey_eq (n : Nat) (hn : 3 ≤ n) (p : Pending) (k : Key) : escrow_byKey n p k = some (cmpK p.key k) := by
  unfold escrow_byKey
  rw [compare_eq n hn]; rfl
def KeyIn (k : Key) : Prop := 0 ≤ k.id ∧ k.id ≤ 65535
theorem order_eq (n : Nat) {a b : Key} (ha : keyB a = true) (hb : keyB b = true) (ia : KeyIn a) (ib : KeyIn b) : ref10_order n a b = some (cmpK a b) := by
  unfold ref10_order
  have ha := of_decide_eq_true ha
  have hb := of_decide_eq_true hb
  obtain ⟨i1, i2⟩ := ia
  obtain ⟨i3, i4⟩ := ib
  have hr := cmpK_rng a b
  have hl := cmpK_lt (a := a) (b := b)
  have hg := cmpK_lt (a := b) (b := a)
  have hn := cmpK_neg (a := a) (b := b)
  rw [wrap_in (x := a.table * 65536) (by omega), wrap_in (x := b.table * 65536) (by omega), wrap_in (x := a.id) (by omega), wrap_in (x := b.id) (by omega), wrap_in (x := a.table * 65536 + a.id) (by omega), wrap_in (x := b.table * 65536 + b.id) (by omega)]
  by_cases h1 : a.table * 65536 + a.id < b.table * 65536 + b.id
  · rw [decide_eq_true h1]
    have := hl.2 (by omega)
    show some (-1) = _
    congr 1; omega
  · rw [decide_eq_false h1]
    by_cases h2 : a.table * 65536 + a.id > b.table * 65536 + b.id
    · rw [decide_eq_true h2]
      have := hg.2 (by omega)
      show some 1 = _
      congr 1; omega
    · rw [decide_eq_false h2]
      have h3 : ¬ cmpK a b < 0 := fun e => by have := hl.1 e; omega
      have h4 : ¬ cmpK b a < 0 := fun e => by have := hg.1 e; omega
      show some 0 = _
      congr 1; omega
/-- What is known of an escrow's numbers, and how much of it there is. -/
def EscIn (l : List Pending) : Prop := ∀ p ∈ l, PendIn p ∧ KeyIn p.key ∧ p.shares.length ≤ 20
theorem rightP_key {p : Pending} (h : rightP p = true) : keyB p.key = true := by
  unfold rightP at h
  simp only [Bool.and_eq_true] at h
  exact h.1.1.1.1
section
variable {n : Nat} {l : List Pending}
theorem echeck_eq (hn : 1003 ≤ n) (h : EscIn l) (hl : l.length ≤ 90) : escrow_Check n ⟨l⟩ = some (if rightE l then 0 else 200) := by
  have h1 : escrow_Check_l1 n n (l, (l.length : Int), 0, ⟨l⟩, ()) = some (if chainB rightP ltK none l then 0 else 200) := by
    show escrow_Check_l1 n n (l, (l.length : Int), ((0 : Nat) : Int), ⟨l⟩, ()) = _
    unfold escrow_Check_l1
    refine (run_loop l (fun (i : Nat) (_ : Unit) => (l, (l.length : Int), (i : Int), Escrow.mk l, ())) (fun i x _ => if stepA rightP ltK l i x then .inr () else .inl (some 200)) (fun _ => some 0) (fun r i s x hx hi => ?_) (fun r s => ?_) n 0 () (Nat.zero_le _) (by omega)).trans ?_
    · obtain ⟨a1, a2, a3⟩ := h x (List.mem_of_getElem? hx)
      simp only [lt_dec hi, cond_true, idx_nat, hx, Option.bind_some, jn, right_eqP hn a1 (by omega), wrap_succ (show i < 4611686018427387904 by omega)]
      unfold stepA
      cases i with
      | zero => 
        simp only [show decide (((0 : Nat) : Int) > 0) = false from rfl, cond_false, prevOk, prevO]
        cases rightP x <;> rfl
      | succ j =>
        simp only [decide_eq_true (show ((j + 1 : Nat) : Int) > 0 by omega), cond_true, wrap_pred (show j < 4611686018427387904 by omega), idx_nat, get_some (show j < l.length by omega), Option.bind_some, byKey_eq n (show 3 ≤ n by omega), prevOk, prevO, ltK, ge_lt]
        cases rightP x <;> cases decide (cmpK (l[j]).key x.key < 0) <;> rfl
    · simp only [ge_dec (Nat.lt_irrefl _), cond_false]
    · rw [List.drop_zero, runL_allFrom, allFrom_chain]
      cases chainB rightP ltK none l <;> simp
  unfold escrow_Check rightE
  simp only [h1]
  by_cases h2 : l.length ≤ 60
  · rw [decide_eq_true h2, decide_eq_false (by omega : ¬ (l.length : Int) > 60)]; rfl
  · rw [decide_eq_false h2, decide_eq_true (by omega : (l.length : Int) > 60)]; rfl
theorem rright_eq (hn : 1003 ≤ n) (h : EscIn l) (hl : l.length ≤ 90) : ref10_Right n ⟨l⟩ = some (rightE l) := by
  have h1 : ref10_Right_l1 n n (l, (l.length : Int), 0, ⟨l⟩, ()) = some (chainB rightP ltK none l) := by
    show ref10_Right_l1 n n (l, (l.length : Int), ((0 : Nat) : Int), ⟨l⟩, ()) = _
    unfold ref10_Right_l1
    refine (run_loopI l (fun (i : Nat) (_ : Unit) => (l, (l.length : Int), (i : Int), Escrow.mk l, ())) (fun i x _ => if stepA rightP ltK l i x then .inr () else .inl (some false)) (fun _ => some true) (fun i _ => ∀ j x, j < i → l[j]? = some x → rightP x = true) (fun i s x s' hx hI hs => ?_) (fun r i s x hx hi hI => ?_) (fun r s _ => ?_) n 0 () (Nat.zero_le _) (by omega) (fun j x hj => by omega)).trans ?_
    · intro j y hj hy
      by_cases h0 : stepA rightP ltK l i x = true
      · rcases Nat.lt_or_ge j i with h2 | h2
        · exact hI j y h2 hy
        · obtain rfl : j = i := by omega
          rw [hx] at hy
          obtain rfl := Option.some.inj hy
          unfold stepA at h0
          simp only [Bool.and_eq_true] at h0
          exact h0.1
      · rw [if_neg h0] at hs; cases hs
    · obtain ⟨a1, a2, a3⟩ := h x (List.mem_of_getElem? hx)
      simp only [lt_dec hi, cond_true, idx_nat, hx, Option.bind_some, jn, rrightP_eq hn a1 (by omega), wrap_succ (show i < 4611686018427387904 by omega)]
      unfold stepA
      cases i with
      | zero => 
        simp only [show decide (((0 : Nat) : Int) > 0) = false from rfl, cond_false, prevOk, prevO]
        cases rightP x <;> rfl
      | succ j =>
        cases hx1 : rightP x with
        | false => rfl
        | true =>
          have hj := hI j l[j] (by omega) (get_some (by omega))
          obtain ⟨b1, b2, b3⟩ := h l[j] (List.getElem_mem _)
          simp only [decide_eq_true (show ((j + 1 : Nat) : Int) > 0 by omega), cond_true, wrap_pred (show j < 4611686018427387904 by omega), idx_nat, get_some (show j < l.length by omega), Option.bind_some, order_eq n (rightP_key hj) (rightP_key hx1) b2 a2, prevOk, prevO, ltK, ge_lt]
          cases decide (cmpK (l[j]).key x.key < 0) <;> rfl
    · simp only [ge_dec (Nat.lt_irrefl _), cond_false]
    · rw [List.drop_zero, runL_allFrom, allFrom_chain]
      cases chainB rightP ltK none l <;> simp
  unfold ref10_Right rightE
  simp only [h1]
  by_cases h2 : l.length ≤ 60
  · rw [decide_eq_true h2, decide_eq_false (by omega : ¬ (l.length : Int) > 60)]; rfl
  · rw [decide_eq_false h2, decide_eq_true (by omega : (l.length : Int) > 60)]; rfl
end
end Go.Proofs.YtegnflodgnfffaaGreat

/- Escrows: a transaction adds to a pending key. -/
namespace Go.Proofs.YtegnflodgnfffaaGreat
open Go.Bur
set_option linter.unusedSimpArgs false
set_option linter.unusedVariables false
set_option maxRecDepth 100000

/-! ### Numbers compared -/
section
variable {n : Nat} {p : Pending} {t d : Int} {b : Bounds} {A B : List Share} {y : Option Share}
end
end Go.Proofs.YtegnflodgnfffaaGreat

/- Escrows: the document's sums, finding, ends, likeness, copies. -/
namespace Go.Proofs.YtegnflodgnfffaaGreat
open Go.Bur
set_option linter.unusedSimpArgs false
set_option linter.unusedVariables false
set_option maxRecDepth 100000

/-! ### The document's Add -/
section
variable {n : Nat} {p : Pending} {t d : Int} {b : Bounds} {A B : List Share} {y : Option Share}
end
/-! ### Copies -/
end Go.Proofs.YtegnflodgnfffaaGreat

/- Escrows: Add, Back and Over, and what the document says of them. -/
namespace Go.Proofs.YtegnflodgnfffaaGreat
open Go.Bur
set_option linter.unusedSimpArgs false
set_option linter.unusedVariables false
set_option maxRecDepth 100000

/-! ### Rows of an escrow -/
theorem ltK_tr (a b c : Pending) (h : ltK a b = true) (k : ltK b c = true) : ltK a c = true := by
  unfold ltK at *; rw [decide_eq_true_iff] at *; exact cmpK_ltt h k
structure EscOk (l : List Pending) : Prop where
  len : l.length ≤ 60
  each : ∀ p ∈ l, rightP p = true
  ord : l.Pairwise (fun a b => ltK a b = true)
theorem rightE_iff {l : List Pending} : rightE l = true ↔ EscOk l := by
  unfold rightE
  rw [Bool.and_eq_true, decide_eq_true_iff, chain_iff ltK_tr]
  constructor
  · rintro ⟨h1, h2, h3, _⟩; exact ⟨h1, h2, h3⟩
  · rintro ⟨h1, h2, h3⟩; exact ⟨h1, h2, h3, fun y hy => by cases hy⟩
section
variable {n : Nat} {l A B : List Pending} {y : Option Pending} {k : Key}
/-! ### Copies of an escrow's rows -/
end
end Go.Proofs.YtegnflodgnfffaaGreat

/- Escrows: what Add, Back and Over come to, as the document says. -/
namespace Go.Proofs.YtegnflodgnfffaaGreat
open Go.Bur
set_option linter.unusedSimpArgs false
set_option linter.unusedVariables false
set_option maxRecDepth 100000

section
variable {n : Nat} {l A B : List Pending} {y : Option Pending} {k : Key}
end
end Go.Proofs.YtegnflodgnfffaaGreat

/- Escrows: Back and Over, both sides. -/
namespace Go.Proofs.YtegnflodgnfffaaGreat
open Go.Bur
set_option linter.unusedSimpArgs false
set_option linter.unusedVariables false
set_option maxRecDepth 100000

section
variable {n : Nat} {l A B : List Pending} {y : Option Pending} {k : Key}
/-! ### Back -/
theorem shareOk_le {s : Share} (h : shareOk s = true) : s.lo ≤ 0 ∧ s.lo ≤ s.sum ∧ s.sum ≤ s.hi ∧ 0 ≤ s.hi := by
  unfold shareOk at h
  rw [Bool.and_eq_true, decide_eq_true_iff] at h
  exact h.2
theorem sumMid_le : ∀ {l : List Share}, (∀ s ∈ l, shareOk s = true) → (l.map (·.lo)).sum ≤ (l.map (·.sum)).sum ∧ (l.map (·.sum)).sum ≤ (l.map (·.hi)).sum
  | [], _ => by simp
  | x :: l, h => by
    have h1 := shareOk_le (h x (List.mem_cons_self ..))
    have h2 := sumMid_le fun s hs => h s (List.mem_cons_of_mem _ hs)
    simp only [List.map_cons, List.sum_cons]
    omega
theorem ltT_tr (a b c : Share) (h : ltT a b = true) (k : ltT b c = true) : ltT a c = true := by
  unfold ltT at *; rw [decide_eq_true_iff] at *; omega
structure PendOk (p : Pending) : Prop where
  key : keyB p.key = true
  len1 : 1 ≤ p.shares.length
  len8 : p.shares.length ≤ 8
  each : ∀ s ∈ p.shares, shareOk s = true
  ord : p.shares.Pairwise (fun a b => ltT a b = true)
  low : I64 (lowZ p)
  high : I64 (highZ p)
theorem rightP_iff {p : Pending} : rightP p = true ↔ PendOk p := by
  unfold rightP
  simp only [Bool.and_eq_true, decide_eq_true_iff, chain_iff ltT_tr, fits]
  constructor
  · rintro ⟨⟨⟨⟨h1, h2, h3⟩, h4, h5, _⟩, h6⟩, h7⟩; exact ⟨h1, h2, h3, h4, h5, h6, h7⟩
  · rintro ⟨h1, h2, h3, h4, h5, h6, h7⟩; exact ⟨⟨⟨⟨h1, h2, h3⟩, h4, h5, fun y hy => by cases hy⟩, h6⟩, h7⟩
section
variable {p : Pending} {t : Int} {c : Bool} {A' B' : List Share} {y' : Option Share}
end
end
end Go.Proofs.YtegnflodgnfffaaGreat

/- Escrows: likeness, ends, a first run; which numbers a law is handed. -/
namespace Go.Proofs.YtegnflodgnfffaaGreat
open Go.Bur
set_option linter.unusedSimpArgs false
set_option linter.unusedVariables false
set_option maxRecDepth 100000

/-! ### Likeness -/
section
variable {n : Nat}
theorem mid_in {p : Pending} (h : PendOk p) : I64 (midZ p) := by
  have h1 := sumMid_le h.each
  have h2 := h.low
  have h3 := h.high
  unfold lowZ at h2
  unfold highZ at h3
  unfold I64 midZ at *
  omega
theorem fits_of {z : Int} (h : I64 z) : fits z = true := decide_eq_true h
theorem Ends_eq (hn : 1003 ≤ n) {p : Pending} (hp : PendIn p) (hl : p.shares.length ≤ 20) : escrow_Ends n p = some (if rightP p then (lowZ p, midZ p, highZ p, 0) else (0, 0, 0, 200)) := by
  unfold escrow_Ends
  rw [right_eqP hn hp (by omega)]
  cases h : rightP p with
  | false => rfl
  | true =>
    have hk := rightP_iff.1 h
    simp only [Option.bind_some, Bool.not_true, cond_false, end_low hn hp (show p.shares.length ≤ 98 by omega), end_mid hn hp (show p.shares.length ≤ 98 by omega), end_high hn hp (show p.shares.length ≤ 98 by omega), small_eq n _ (low_rng hp (by omega)), small_eq n _ (mid_rng hp (by omega)), small_eq n _ (high_rng hp (by omega)), fits_val (fits_of hk.low), fits_val (fits_of hk.high), fits_val (fits_of (mid_in hk)), if_true]
theorem rEnds_eq (hn : 1003 ≤ n) {p : Pending} (hp : PendIn p) (hl : p.shares.length ≤ 20) (h : rightP p = true) : ref10_Ends n p = some (lowZ p, midZ p, highZ p) := by
  have hk := rightP_iff.1 h
  unfold ref10_Ends
  simp only [ends_eq hn hp (show p.shares.length ≤ 98 by omega), Option.bind_some, rsmall_eq n _ (low_rng hp (by omega)), rsmall_eq n _ (mid_rng hp (by omega)), rsmall_eq n _ (high_rng hp (by omega)), fits_of hk.low, fits_of hk.high, fits_of (mid_in hk), if_true]
/-! ### A first run -/
end
/-! ### What a law is handed -/
theorem pend_of {d : Nat} {p : Pending} (h : okT tab (d + 3) (.st 4) p) : PendIn p ∧ KeyIn p.key := ⟨⟨h.2.2.1, fun s hs => ⟨(h.2.2.2.1.1 s hs).2.2.2.1, (h.2.2.2.1.1 s hs).2.1, (h.2.2.2.1.1 s hs).2.2.1⟩⟩, h.2.1⟩
end Go.Proofs.YtegnflodgnfffaaGreat

/- Layer 27: whether all choices of an escrow are within the bounds. -/
namespace Go.Proofs.YtegnflodgnfffaaGreat
open Go.Bur
set_option linter.unusedSimpArgs false
set_option linter.unusedVariables false
set_option maxRecDepth 100000

theorem wakesB : law27_wakes 4000 = some true := by kernel_rfl
theorem runL_findV {α R : Type} {p : α → Bool} {f : α → Option R} {fin : Unit → Option R} : ∀ (l : List α) (i : Nat), runL (fun _ x (_ : Unit) => if p x then .inl (f x) else .inr ()) fin l i () = match l.find? p with | some x => f x | none => fin ()
  | [], _ => rfl
  | x :: t, i => by
    by_cases hp : p x = true
    · simp [runL, hp]
    · simp only [runL, hp, List.find?_cons]
      exact runL_findV t (i + 1)
def overE (l : List Pending) : Bool := decide (80 < l.length) || l.any fun p => decide (20 < p.shares.length)
theorem overEscrow_eq (n : Nat) (hn : 1003 ≤ n) (l : List Pending) : law27_overEscrow n ⟨l⟩ = some (overE l) := by
  unfold law27_overEscrow overE
  dsimp only
  by_cases h2 : 80 < l.length
  · rw [decide_eq_true (by omega : (l.length : Int) > 80), decide_eq_true h2]; rfl
  · rw [decide_eq_false (by omega : ¬ (l.length : Int) > 80), decide_eq_false h2]
    show law27_overEscrow_l1 n n (l, (l.length : Int), ((0 : Nat) : Int), ()) = _
    unfold law27_overEscrow_l1
    refine (run_loop l (fun (i : Nat) (_ : Unit) => (l, (l.length : Int), (i : Int), ())) (fun _ x _ => if decide (20 < x.shares.length) then .inl (some true) else .inr ()) (fun _ => some false) (fun r i _ x hx hi => ?_) (fun r _ => ?_) n 0 () (by omega) (by omega)).trans ?_
    · simp only [lt_dec hi, cond_true, idx_nat, hx, Option.bind_some, wrap_succ (show i < 4611686018427387904 by omega)]
      by_cases h : 20 < x.shares.length
      · rw [decide_eq_true h, decide_eq_true (by omega : (x.shares.length : Int) > 20)]; rfl
      · rw [decide_eq_false h, decide_eq_false (by omega : ¬ (x.shares.length : Int) > 20)]; rfl
    · simp only [ge_dec (Nat.lt_irrefl _), cond_false]
    · rw [List.drop_zero, runL_any]
      cases l.any (fun p => decide (20 < p.shares.length)) <;> rfl
def outB (s : Schema) (p : Pending) : Bool := (keyErr s p.key != 0) || (match idx s.tables p.key.table with | some b => decide (lowZ p < b.min) || decide (highZ p > b.max) | none => false)
theorem keyErr_idx {s : Schema} {k : Key} (h : (keyErr s k != 0) = false) : ∃ b, idx s.tables k.table = some b := by
  unfold keyErr at h
  by_cases hi : inTab s k = true
  · obtain ⟨h0, h1⟩ := inTab_iff.1 hi
    obtain ⟨j, hj⟩ : ∃ j : Nat, k.table = (j : Int) := ⟨k.table.toNat, by omega⟩
    rw [hj, idx_nat]
    exact ⟨_, get_some (by omega)⟩
  · rw [if_neg hi] at h
    exact absurd h (by decide)
theorem jWithin_eq (n : Nat) (hn : 1003 ≤ n) (s : Schema) (hs : s.tables.length ≤ 1000) (l : List Pending) (hi : EscIn l) (hl : l.length ≤ 90) : judge_Within n s ⟨l⟩ = some ((if right s then (if rightE l then (match l.find? (outB s) with | some p => (p.key, 373) | none => (⟨0, 0⟩, 0)) else (⟨0, 0⟩, 200)) else (⟨0, 0⟩, 150) : Key × Int)) := by
  unfold judge_Within
  rw [check_eq n hn s hs]
  cases hr : right s with
  | false => rfl
  | true =>
    simp only [if_true, Option.bind_some, show ((0 : Int) != 0) = false from by decide, cond_false, echeck_eq hn hi hl]
    cases he : rightE l with
    | false => rfl
    | true =>
      simp only [if_true, show ((0 : Int) != 0) = false from by decide, cond_false]
      show judge_Within_l1 n n (l, (l.length : Int), ((0 : Nat) : Int), s, Key.mk 0 0, ()) = _
      unfold judge_Within_l1
      refine (run_loop l (fun (i : Nat) (_ : Unit) => (l, (l.length : Int), (i : Int), s, Key.mk 0 0, ())) (fun _ x _ => if outB s x then .inl (some (x.key, 373)) else .inr ()) (fun _ => some (⟨0, 0⟩, 0)) (fun r i _ x hx hi' => ?_) (fun r _ => ?_) n 0 () (by omega) (by omega)).trans ?_
      · obtain ⟨a1, a2, a3⟩ := hi x (List.mem_of_getElem? hx)
        have hp : rightP x = true := (rightE_iff.1 he).each x (List.mem_of_getElem? hx)
        simp only [lt_dec hi', cond_true, idx_nat, hx, Option.bind_some, wrap_succ (show i < 4611686018427387904 by omega), checkKey_eq n hn s hs, hr, if_true, Ends_eq hn a1 a3, hp, show ((0 : Int) != 0) = false from by decide, cond_false, jn]
        unfold outB
        cases hk : (keyErr s x.key != 0) with
        | true => rfl
        | false =>
          obtain ⟨b, hb⟩ := keyErr_idx hk
          simp only [hb, Option.bind_some, cond_false, Bool.false_or]
          cases decide (lowZ x < b.min) with
          | true => rfl
          | false => cases decide (highZ x > b.max) <;> rfl
      · simp only [ge_dec (Nat.lt_irrefl _), cond_false]
      · rw [List.drop_zero, runL_findV]
        cases l.find? (outB s) <;> rfl
theorem rWithin_eq (n : Nat) (hn : 1003 ≤ n) (s : Schema) (l : List Pending) (hi : EscIn l) (hl : l.length ≤ 90) (he : rightE l = true) : ref27_Within n s ⟨l⟩ = some (match l.find? (outB s) with | some p => (p.key, false) | none => (⟨0, 0⟩, true)) := by
  unfold ref27_Within
  show ref27_Within_l1 n n (((0 : Nat) : Int), s, Escrow.mk l, Key.mk 0 0, ()) = _
  unfold ref27_Within_l1
  refine (run_loop l (fun (i : Nat) (_ : Unit) => ((i : Int), s, Escrow.mk l, Key.mk 0 0, ())) (fun _ x _ => if outB s x then .inl (some (x.key, false)) else .inr ()) (fun _ => some (⟨0, 0⟩, true)) (fun r i _ x hx hi' => ?_) (fun r _ => ?_) n 0 () (by omega) (by omega)).trans ?_
  · obtain ⟨a1, a2, a3⟩ := hi x (List.mem_of_getElem? hx)
    have hp : rightP x = true := (rightE_iff.1 he).each x (List.mem_of_getElem? hx)
    simp only [lt_dec hi', cond_true, idx_nat, hx, Option.bind_some, wrap_succ (show i < 4611686018427387904 by omega), keyError_eq, rEnds_eq hn a1 a3 hp, jn]
    unfold outB
    cases hk : (keyErr s x.key != 0) with
    | true => rfl
    | false =>
      obtain ⟨b, hb⟩ := keyErr_idx hk
      simp only [hb, Option.bind_some, cond_false, Bool.false_or]
      cases decide (lowZ x < b.min) with
      | true => rfl
      | false => cases decide (highZ x > b.max) <;> rfl
  · simp only [ge_dec (Nat.lt_irrefl _), cond_false]
  · rw [List.drop_zero, runL_findV]
    cases l.find? (outB s) <;> rfl
theorem escIn_of {d : Nat} {x : Escrow} (h : okT tab (d + 4) (.st 5) x) (hs : overE x.rows = false) : EscIn x.rows ∧ x.rows.length ≤ 80 := by
  unfold overE at hs
  rw [Bool.or_eq_false_iff] at hs
  refine ⟨fun p hp => ?_, by have := of_decide_eq_false hs.1; omega⟩
  obtain ⟨h1, h2⟩ := pend_of (d := d) (h.1.1 p hp)
  have := List.any_eq_false.1 hs.2 p hp
  refine ⟨h1, h2, ?_⟩
  simp only [decide_eq_true_iff] at this
  omega
theorem plainJudgeBounds (s : Schema) (e : Escrow) (h1 : okT tab 9 (.st 1) s) (h2 : okT tab 9 (.st 5) e) : ∃ n, law27_JudgeBounds n s e = some true := by
  refine ⟨4000, ?_⟩
  have hn : 1003 ≤ 4000 := by omega
  have hw := wakesB
  generalize 4000 = N at hn hw ⊢
  obtain ⟨l⟩ := e
  unfold law27_JudgeBounds
  simp only [hw, Option.bind_some, Bool.not_true, cond_false, jn, overEscrow_eq N hn]
  by_cases h20 : (s.tables.length : Int) > 20
  · rw [decide_eq_true h20]; rfl
  · rw [decide_eq_false h20]
    simp only [cond_false]
    cases ho : overE l with
    | true => rfl
    | false =>
      obtain ⟨hi, hl⟩ := escIn_of (d := 5) h2 ho
      simp only [cond_false, jWithin_eq N hn s (by omega) l hi (by exact Nat.le_trans hl (by omega)), right_eq N hn s (by omega), rright_eq hn hi (show l.length ≤ 90 by exact Nat.le_trans hl (by omega)), Option.bind_some]
      cases hr : right s with
      | false => rfl
      | true =>
        simp only [if_true, Bool.not_true, cond_false]
        cases he : rightE l with
        | false => rfl
        | true =>
          simp only [if_true, Bool.not_true, cond_false, rWithin_eq N hn s l hi (show l.length ≤ 90 by exact Nat.le_trans hl (by omega)) he, Option.bind_some]
          cases hf : l.find? (outB s) with
          | none => rfl
          | some p => simp [key_eqb]
end Go.Proofs.YtegnflodgnfffaaGreat
