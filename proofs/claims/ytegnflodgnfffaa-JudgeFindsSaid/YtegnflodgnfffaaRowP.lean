/- What the functions of layer 5 (row) compute. -/
import Derived.Test.YtegnflodgnfffaaF3
import Derived.Test.YtegnflodgnfffaaLst4
import Derived.Test.YtegnflodgnfffaaRw
namespace Go.Proofs.Ytegnflodgnfffaa
open Go.Bur
set_option linter.unusedSimpArgs false
set_option linter.unusedVariables false
set_option maxRecDepth 100000

/-! ### Keys -/
instance : DecidableEq Key := fun a b => match Int.decEq a.table b.table, Int.decEq a.id b.id with
  | .isTrue h, .isTrue k => .isTrue (by cases a; cases b; simp_all)
  | .isFalse h, _ => .isFalse (fun e => h (by rw [e]))
  | _, .isFalse h => .isFalse (fun e => h (by rw [e]))
def cmpI (a b : Int) : Int := if a < b then -1 else if a > b then 1 else 0
def cmpK (a b : Key) : Int := if cmpI a.table b.table ≠ 0 then cmpI a.table b.table else cmpI a.id b.id
theorem compare_int (n : Nat) (a b : Int) : cmp_Compare_int n a b = some (cmpI a b) := by
  unfold cmp_Compare_int cmp_isNaN_int cmpI
  by_cases h1 : a < b
  · simp [h1]
  · by_cases h2 : a > b
    · simp [h1, h2]
    · simp [h1, h2]
theorem compare_u16 (n : Nat) (a b : Int) : cmp_Compare_uint16 n a b = some (cmpI a b) := by
  unfold cmp_Compare_uint16 cmp_isNaN_uint16 cmpI
  by_cases h1 : a < b
  · simp [h1]
  · by_cases h2 : a > b
    · simp [h1, h2]
    · simp [h1, h2]
theorem or2 (n : Nat) (hn : 3 ≤ n) (a b : Int) : cmp_Or_int n [a, b] = some (if a ≠ 0 then a else b) := by
  obtain ⟨n, rfl⟩ : ∃ m, n = m + 3 := ⟨n - 3, by omega⟩
  unfold cmp_Or_int cmp_Or_int_l1
  by_cases ha : a = 0
  · by_cases hb : b = 0
    · subst ha hb; rfl
    · subst ha
      have : (b != 0) = true := by simpa using hb
      simp [loopF, idx, IntKind.wrap_i64, this]
  · have : (a != 0) = true := by simpa using ha
    simp [loopF, idx, this, ha]
theorem compare_eq (n : Nat) (hn : 3 ≤ n) (a b : Key) : row_Compare n a b = some (cmpK a b) := by
  unfold row_Compare
  rw [compare_int, compare_u16]
  simp only [Option.bind_some]
  rw [or2 n hn]
  rfl
theorem key_eqb (a b : Key) : Key.eqb a b = decide (a = b) := by
  obtain ⟨a1, a2⟩ := a
  obtain ⟨b1, b2⟩ := b
  by_cases h1 : a1 = b1 <;> by_cases h2 : a2 = b2 <;> simp [Key.eqb, h1, h2]
theorem cmpI_zero {a b : Int} : cmpI a b = 0 ↔ a = b := by unfold cmpI; split <;> (try split) <;> omega
theorem cmpI_neg {a b : Int} : cmpI a b = -cmpI b a := by unfold cmpI; split <;> split <;> (try split) <;> (try split) <;> omega
theorem cmpI_lt {a b : Int} : cmpI a b < 0 ↔ a < b := by unfold cmpI; split <;> (try split) <;> omega
theorem cmpI_rng (a b : Int) : cmpI a b = -1 ∨ cmpI a b = 0 ∨ cmpI a b = 1 := by unfold cmpI; split <;> (try split) <;> omega
theorem cmpK_zero {a b : Key} : cmpK a b = 0 ↔ a = b := by
  obtain ⟨a1, a2⟩ := a
  obtain ⟨b1, b2⟩ := b
  unfold cmpK
  by_cases h : cmpI a1 b1 = 0
  · have := cmpI_zero.1 h
    subst this
    simp [h, cmpI_zero]
  · have h' : a1 ≠ b1 := fun e => h (cmpI_zero.2 e)
    simp [h, h']
theorem cmpK_neg {a b : Key} : cmpK a b = -cmpK b a := by
  unfold cmpK
  have h1 := cmpI_neg (a := a.table) (b := b.table)
  have h2 := cmpI_neg (a := a.id) (b := b.id)
  by_cases h : cmpI b.table a.table = 0
  · rw [h] at h1; simp [h1, h, h2]
  · have : cmpI a.table b.table ≠ 0 := by omega
    simp [h, this, h1]
theorem cmpK_rng (a b : Key) : cmpK a b = -1 ∨ cmpK a b = 0 ∨ cmpK a b = 1 := by
  unfold cmpK; split
  · exact cmpI_rng _ _
  · exact cmpI_rng _ _
theorem cmpK_lt {a b : Key} : cmpK a b < 0 ↔ a.table < b.table ∨ a.table = b.table ∧ a.id < b.id := by
  unfold cmpK
  by_cases h : cmpI a.table b.table = 0
  · have := cmpI_zero.1 h
    simp only [ne_eq, h, not_true_eq_false, if_false, cmpI_lt]
    omega
  · have h' : a.table ≠ b.table := fun e => h (cmpI_zero.2 e)
    simp only [ne_eq, h, not_false_eq_true, if_true, cmpI_lt]
    omega
theorem cmpK_trans {a b c : Key} (h : cmpK a b ≤ 0) (k : cmpK b c ≤ 0) : cmpK a c ≤ 0 := by
  have key : ∀ x y : Key, cmpK x y ≤ 0 ↔ ¬ cmpK y x < 0 := fun x y => by have := cmpK_neg (a := x) (b := y); omega
  rw [key, cmpK_lt] at *
  omega
theorem cmpK_ltt {a b c : Key} (h : cmpK a b < 0) (k : cmpK b c < 0) : cmpK a c < 0 := by
  rw [cmpK_lt] at *
  omega
theorem ref_compare (n : Nat) (a b : Key) : ref05_Compare n a b = some (cmpK a b) := by
  unfold ref05_Compare
  rw [key_eqb]
  by_cases h : a = b
  · subst h
    rw [decide_eq_true rfl, cmpK_zero.2 rfl]; rfl
  · have h0 : cmpK a b ≠ 0 := fun e => h (cmpK_zero.1 e)
    have hr := cmpK_rng a b
    have hl := cmpK_lt (a := a) (b := b)
    rw [decide_eq_false h]
    simp only [cond_false, jn, ibeq]
    by_cases h1 : a.table < b.table
    · rw [decide_eq_true h1, cond_true]
      have : cmpK a b < 0 := hl.2 (.inl h1)
      show some (-1) = _
      congr 1; omega
    · rw [decide_eq_false h1, cond_false]
      by_cases h2 : a.table = b.table
      · rw [decide_eq_true h2, cond_true]
        by_cases h3 : a.id < b.id
        · have : cmpK a b < 0 := hl.2 (.inr ⟨h2, h3⟩)
          rw [decide_eq_true h3]
          show some (-1) = _
          congr 1; omega
        · have : ¬ cmpK a b < 0 := fun e => by have := hl.1 e; omega
          rw [decide_eq_false h3]
          show some 1 = _
          congr 1; omega
      · have : ¬ cmpK a b < 0 := fun e => by have := hl.1 e; omega
        rw [decide_eq_false h2, cond_false]
        show some 1 = _
        congr 1; omega

/-! ### Schemas -/
def right (s : Schema) : Bool := decide (1 ≤ s.tables.length ∧ s.tables.length ≤ 3) && !s.tables.any (fun b => decide (b.min > b.max))
theorem schTab {s : Schema} (h : right s = true) : s.tables.length ≤ 3 := by
  unfold right at h
  simp only [Bool.and_eq_true, decide_eq_true_iff] at h
  exact h.1.2
theorem any_find {α : Type} {p : α → Bool} (l : List α) : l.any p = (l.findIdx? p).isSome := by
  induction l with
  | nil => rfl
  | cons x t ih =>
    rw [List.any_cons, List.findIdx?_cons]
    cases h : p x with
    | true => rfl
    | false => rw [if_neg (by decide), Option.isSome_map, Bool.false_or, ih]
theorem check_eq (n : Nat) (hn : 1003 ≤ n) (s : Schema) (hs : s.tables.length ≤ 1000) : row_Check n s = some (if right s then 0 else 150) := by
  have h2 : slices_ContainsFunc_Bounds_f59 n s.tables = some (s.tables.any fun b => decide (b.min > b.max)) := by
    have h3 : slices_IndexFunc_Bounds_f59 n s.tables = some (match s.tables.findIdx? (fun b => decide (b.min > b.max)) with | some j => (j : Int) | none => -1) := by
      show slices_IndexFunc_Bounds_f59_l1 n n (s.tables, (s.tables.length : Int), ((0 : Nat) : Int), ()) = _
      unfold slices_IndexFunc_Bounds_f59_l1
      refine (run_loop s.tables (fun (i : Nat) (_ : Unit) => (s.tables, (s.tables.length : Int), (i : Int), ())) (fun i x _ => if decide (x.min > x.max) then .inl (some (i : Int)) else .inr ()) (fun _ => some (-1)) (fun r i q x hx hi => ?_) (fun r q => ?_) n 0 () (by omega) (by omega)).trans ?_
      · simp only [lt_dec hi, cond_true, idx_nat, hx, Option.bind_some, row_Check_1, wrap_succ (show i < 4611686018427387904 by omega)]
        by_cases h : x.min > x.max
        · rw [decide_eq_true h]; rfl
        · rw [decide_eq_false h]; rfl
      · simp only [ge_dec (Nat.lt_irrefl _), cond_false]
      · rw [List.drop_zero, runL_find0]
        cases s.tables.findIdx? (fun b => decide (b.min > b.max)) with
        | none => rfl
        | some j => simp
    unfold slices_ContainsFunc_Bounds_f59
    rw [h3, any_find]
    cases s.tables.findIdx? (fun b => decide (b.min > b.max)) with
    | none => rfl
    | some j => simp
  unfold row_Check right
  rw [h2]
  simp only [jn, Option.bind_some]
  by_cases h : 1 ≤ s.tables.length ∧ s.tables.length ≤ 3
  · rw [decide_eq_true h, decide_eq_false (by omega : ¬ (s.tables.length : Int) < 1), decide_eq_false (by omega : ¬ (s.tables.length : Int) > 3)]
    cases s.tables.any (fun b => decide (b.min > b.max)) <;> rfl
  · rw [decide_eq_false h]
    by_cases h1 : (s.tables.length : Int) < 1
    · rw [decide_eq_true h1]; rfl
    · rw [decide_eq_false h1, decide_eq_true (by omega : (s.tables.length : Int) > 3)]; rfl
theorem right_eq (n : Nat) (hn : 1003 ≤ n) (s : Schema) (hs : s.tables.length ≤ 1000) : ref05_Right n s = some (right s) := by
  have h1 : ref05_Right_l1 n n (0, s, ()) = some (!s.tables.any fun b => decide (b.min > b.max)) := by
    show ref05_Right_l1 n n (((0 : Nat) : Int), s, ()) = _
    unfold ref05_Right_l1
    refine (run_loop s.tables (fun (i : Nat) (_ : Unit) => ((i : Int), s, ())) (fun i x _ => if decide (x.min > x.max) then .inl (some false) else .inr ()) (fun _ => some true) (fun r i q x hx hi => ?_) (fun r q => ?_) n 0 () (by omega) (by omega)).trans ?_
    · simp only [lt_dec hi, cond_true, idx_nat, hx, Option.bind_some, wrap_succ (show i < 4611686018427387904 by omega)]
      by_cases h : x.min > x.max
      · rw [decide_eq_true h]; rfl
      · rw [decide_eq_false h]; rfl
    · simp only [ge_dec (Nat.lt_irrefl _), cond_false]
    · rw [List.drop_zero, runL_any]
      cases s.tables.any (fun b => decide (b.min > b.max)) <;> rfl
  unfold ref05_Right right
  rw [h1]
  simp only [jn]
  by_cases h : 1 ≤ s.tables.length ∧ s.tables.length ≤ 3
  · rw [decide_eq_true h, decide_eq_false (by omega : ¬ (s.tables.length : Int) < 1), decide_eq_false (by omega : ¬ (s.tables.length : Int) > 3)]
    cases s.tables.any (fun b => decide (b.min > b.max)) <;> rfl
  · rw [decide_eq_false h]
    by_cases h1 : (s.tables.length : Int) < 1
    · rw [decide_eq_true h1]; rfl
    · rw [decide_eq_false h1, decide_eq_true (by omega : (s.tables.length : Int) > 3)]; rfl
theorem all1 (n : Nat) (hn : 3 ≤ n) (a : row_rule) : row_all n [a] = some (cond a.is 0 a.no) := by
  obtain ⟨n, rfl⟩ : ∃ m, n = m + 3 := ⟨n - 3, by omega⟩
  unfold row_all row_all_l1
  cases h : a.is <;> simp [loopF, idx, IntKind.wrap_i64, h]
theorem all2 (n : Nat) (hn : 4 ≤ n) (a b : row_rule) : row_all n [a, b] = some (cond a.is (cond b.is 0 b.no) a.no) := by
  obtain ⟨n, rfl⟩ : ∃ m, n = m + 4 := ⟨n - 4, by omega⟩
  unfold row_all row_all_l1
  cases h : a.is <;> cases h' : b.is <;> simp [loopF, idx, IntKind.wrap_i64, h, h']
def inTab (s : Schema) (k : Key) : Bool := decide (k.table ≥ 0) && decide (k.table < (s.tables.length : Int))
def keyErr (s : Schema) (k : Key) : Int := if inTab s k then 0 else 151
theorem inTab_iff {s : Schema} {k : Key} : inTab s k = true ↔ 0 ≤ k.table ∧ k.table < s.tables.length := by
  unfold inTab
  simp only [Bool.and_eq_true, decide_eq_true_iff, ge_iff_le]
theorem keyError_eq (n : Nat) (s : Schema) (k : Key) : ref05_KeyError n s k = some (keyErr s k) := by
  unfold ref05_KeyError keyErr inTab
  simp only [jn]
  by_cases h1 : k.table < 0
  · rw [decide_eq_true h1, decide_eq_false (by omega : ¬ k.table ≥ 0)]; rfl
  · rw [decide_eq_false h1, decide_eq_true (by omega : k.table ≥ 0)]
    by_cases h2 : k.table < (s.tables.length : Int)
    · rw [decide_eq_true h2, decide_eq_false (by omega : ¬ k.table ≥ (s.tables.length : Int))]; rfl
    · rw [decide_eq_false h2, decide_eq_true (by omega : k.table ≥ (s.tables.length : Int))]; rfl
theorem checkKey_eq (n : Nat) (hn : 1003 ≤ n) (s : Schema) (hs : s.tables.length ≤ 1000) (k : Key) : row_CheckKey n s k = some (if right s then keyErr s k else 150) := by
  unfold row_CheckKey keyErr inTab
  rw [check_eq n hn s hs]
  cases right s with
  | false => rfl
  | true =>
    simp only [if_true, Option.bind_some, show ((0 : Int) != 0) = false from by decide, cond_false, row_known, jn]
    cases decide (k.table ≥ 0) with
    | false => simp [all1 n (by omega)]
    | true => cases decide (k.table < (s.tables.length : Int)) <;> simp [all1 n (by omega)]
def fitsB (b : Bounds) (v : Int) : Bool := decide (v ≥ b.min) && decide (v ≤ b.max)
def rowErr (s : Schema) (r : Row) : Int :=
  if inTab s r.key then
    (if (r.note.size : Int) ≤ 8 then
      match idx s.tables r.key.table with
      | some x => if fitsB x r.val then 0 else 152
      | none => 0
    else 3)
  else 151
theorem rowError_eq (n : Nat) (s : Schema) (r : Row) : ref05_RowError n s r = some (rowErr s r) := by
  unfold ref05_RowError rowErr
  rw [keyError_eq n s r.key]
  unfold keyErr
  by_cases h : inTab s r.key = true
  · rw [h]
    obtain ⟨x, hx⟩ := idx_in (inTab_iff.1 h)
    simp only [if_true, Option.bind_some, show ((0 : Int) != 0) = false from by decide, cond_false, hx, jn]
    by_cases h1 : (r.note.size : Int) ≤ 8
    · rw [if_pos h1, decide_eq_false (by omega : ¬ (r.note.size : Int) > 8)]
      unfold fitsB
      by_cases h2 : r.val < x.min
      · rw [decide_eq_true h2, decide_eq_false (by omega : ¬ r.val ≥ x.min)]; rfl
      · rw [decide_eq_false h2, decide_eq_true (by omega : r.val ≥ x.min)]
        by_cases h3 : r.val > x.max
        · rw [decide_eq_true h3, decide_eq_false (by omega : ¬ r.val ≤ x.max)]; rfl
        · rw [decide_eq_false h3, decide_eq_true (by omega : r.val ≤ x.max)]; rfl
    · rw [if_neg h1, decide_eq_true (by omega : (r.note.size : Int) > 8)]; rfl
  · have h : inTab s r.key = false := by simpa using h
    rw [h]; rfl
theorem checkRow_eq (n : Nat) (hn : 1003 ≤ n) (s : Schema) (hs : s.tables.length ≤ 1000) (r : Row) : row_CheckRow n s r = some (if right s then rowErr s r else 150) := by
  unfold row_CheckRow
  rw [checkKey_eq n hn s hs r.key]
  cases right s with
  | false => rfl
  | true =>
    unfold keyErr rowErr
    by_cases h : inTab s r.key = true
    · rw [h]
      obtain ⟨x, hx⟩ := idx_in (inTab_iff.1 h)
      simp only [if_true, Option.bind_some, show ((0 : Int) != 0) = false from by decide, cond_false, hx, jn]
      unfold fitsB
      by_cases h1 : (r.note.size : Int) ≤ 8
      · rw [if_pos h1, decide_eq_true h1]
        cases decide (r.val ≥ x.min) <;> cases decide (r.val ≤ x.max) <;> simp [all2 n (by omega)]
      · rw [if_neg h1, decide_eq_false h1]
        cases decide (r.val ≥ x.min) <;> cases decide (r.val ≤ x.max) <;> simp [all2 n (by omega)]
    · have h : inTab s r.key = false := by simpa using h
      rw [h]; rfl
theorem rowErr_key {s : Schema} {r : Row} (h : rowErr s r = 0) : inTab s r.key = true := by
  unfold rowErr at h
  by_cases hk : inTab s r.key = true
  · exact hk
  · rw [if_neg hk] at h; cases h

/-! ### Lists of rows -/
def prevK (l : List Row) (i : Nat) : Option Key := match i with
  | 0 => none
  | j + 1 => (l[j]?).map (·.key)
def stepOk (s : Schema) (l : List Row) (i : Nat) (r : Row) : Bool := decide (rowErr s r = 0) && (match prevK l i with | none => true | some k => decide (cmpK k r.key < 0))
def goodB (s : Schema) (l : List Row) : Bool := allFrom (stepOk s l) 0 l
def listOk (s : Schema) (l : List Row) : Bool := decide (l.length ≤ 60) && goodB s l
theorem ge_lt {a b : Key} : decide (cmpK a b ≥ 0) = !decide (cmpK a b < 0) := by
  by_cases h : cmpK a b < 0
  · rw [decide_eq_true h, decide_eq_false (by omega)]; rfl
  · rw [decide_eq_false h, decide_eq_true (by omega)]; rfl
theorem checkList_eq (n : Nat) (hn : 1003 ≤ n) (s : Schema) (hs : s.tables.length ≤ 1000) (l : List Row) (hl : l.length ≤ 1000) : row_CheckList n s l = some (if right s then (if listOk s l then 0 else 151) else 150) := by
  unfold row_CheckList
  rw [check_eq n hn s hs]
  cases hr : right s with
  | false => rfl
  | true =>
    simp only [if_true, Option.bind_some, show ((0 : Int) != 0) = false from by decide, cond_false]
    show row_CheckList_l1 n n (l, l, (l.length : Int), ((0 : Nat) : Int), s, ()) = _
    unfold row_CheckList_l1
    refine (run_loop l (fun (i : Nat) (_ : Unit) => (l, l, (l.length : Int), (i : Int), s, ())) (fun i x _ => if stepOk s l i x then .inr () else .inl (some 151)) (fun _ => some (if l.length ≤ 60 then 0 else 151)) (fun r i q x hx hi => ?_) (fun r q => ?_) n 0 () (by omega) (by omega)).trans ?_
    · simp only [lt_dec hi, cond_true, idx_nat, hx, Option.bind_some, checkRow_eq n hn s hs, hr, if_true, jn, wrap_succ (show i < 4611686018427387904 by omega), ibne]
      unfold stepOk
      by_cases he : rowErr s x = 0
      · rw [decide_eq_true he]
        cases i with
        | zero => simp [prevK, show decide (((0 : Nat) : Int) > 0) = false from rfl]
        | succ i =>
          have hi' : l[i]? = some l[i] := get_some (by omega)
          have h0 : decide (((i + 1 : Nat) : Int) > 0) = true := decide_eq_true (by omega)
          simp only [h0, cond_true, wrap_pred (show i < 4611686018427387904 by omega), idx_nat, hi', Option.bind_some, compare_eq n (by omega), prevK, Option.map_some, ge_lt]
          cases decide (cmpK l[i].key x.key < 0) <;> rfl
      · rw [decide_eq_false he]; rfl
    · simp only [ge_dec (Nat.lt_irrefl _), cond_false, all1 n (by omega), Option.bind_some]
      by_cases h : l.length ≤ 60
      · rw [if_pos h, decide_eq_true (by omega : (l.length : Int) ≤ 60)]; rfl
      · rw [if_neg h, decide_eq_false (by omega : ¬ (l.length : Int) ≤ 60)]; rfl
    · rw [List.drop_zero, runL_allFrom]
      unfold listOk goodB
      by_cases h : l.length ≤ 60
      · rw [if_pos h, decide_eq_true h]
        cases allFrom (stepOk s l) 0 l <;> rfl
      · rw [if_neg h, decide_eq_false h]
        cases allFrom (stepOk s l) 0 l <;> rfl
theorem rightList_eq (n : Nat) (hn : 1003 ≤ n) (s : Schema) (l : List Row) (hl : l.length ≤ 1000) : ref05_RightList n s l = some (listOk s l) := by
  have h1 : ref05_RightList_l1 n n (l, 0, s, ()) = some (goodB s l) := by
    show ref05_RightList_l1 n n (l, ((0 : Nat) : Int), s, ()) = _
    unfold ref05_RightList_l1
    refine (run_loop l (fun (i : Nat) (_ : Unit) => (l, (i : Int), s, ())) (fun i x _ => if stepOk s l i x then .inr () else .inl (some false)) (fun _ => some true) (fun r i q x hx hi => ?_) (fun r q => ?_) n 0 () (by omega) (by omega)).trans ?_
    · simp only [lt_dec hi, cond_true, idx_nat, hx, Option.bind_some, rowError_eq, jn, wrap_succ (show i < 4611686018427387904 by omega), ibne]
      unfold stepOk
      by_cases he : rowErr s x = 0
      · rw [decide_eq_true he]
        cases i with
        | zero => simp [prevK, show decide (((0 : Nat) : Int) > 0) = false from rfl]
        | succ i =>
          have hi' : l[i]? = some l[i] := get_some (by omega)
          have h0 : decide (((i + 1 : Nat) : Int) > 0) = true := decide_eq_true (by omega)
          simp only [h0, cond_true, wrap_pred (show i < 4611686018427387904 by omega), idx_nat, hi', Option.bind_some, ref_compare, prevK, Option.map_some, ge_lt]
          cases decide (cmpK l[i].key x.key < 0) <;> rfl
      · rw [decide_eq_false he]; rfl
    · simp only [ge_dec (Nat.lt_irrefl _), cond_false]
    · rw [List.drop_zero, runL_allFrom]
      unfold goodB
      cases allFrom (stepOk s l) 0 l <;> rfl
  unfold ref05_RightList listOk
  rw [h1]
  by_cases h : l.length ≤ 60
  · rw [decide_eq_true h, decide_eq_false (by omega : ¬ (l.length : Int) > 60)]; rfl
  · rw [decide_eq_false h, decide_eq_true (by omega : (l.length : Int) > 60)]; rfl
def good (s : Schema) (l : List Row) : Prop := (∀ r ∈ l, rowErr s r = 0) ∧ l.Pairwise (fun a b => cmpK a.key b.key < 0)
def chk (s : Schema) (l : List Row) (i : Nat) : Prop := ∀ j (h : j < l.length), i ≤ j → rowErr s l[j] = 0 ∧ ∀ m, j = m + 1 → ∀ h' : m < l.length, cmpK (l[m]).key (l[j]).key < 0
theorem chk_good {s : Schema} {l : List Row} : chk s l 0 ↔ good s l := by
  constructor
  · intro h
    refine ⟨fun r hr => ?_, ?_⟩
    · obtain ⟨j, hj, rfl⟩ := List.getElem_of_mem hr
      exact (h j hj (Nat.zero_le _)).1
    · rw [List.pairwise_iff_getElem]
      intro i j hi hj hij
      obtain ⟨d, rfl⟩ : ∃ d, j = i + d + 1 := ⟨j - i - 1, by omega⟩
      clear hij
      induction d with
      | zero => exact (h _ hj (Nat.zero_le _)).2 i rfl hi
      | succ d ih => exact cmpK_ltt (ih (by omega)) ((h _ hj (Nat.zero_le _)).2 (i + d + 1) rfl (by omega))
  · rintro ⟨h1, h2⟩ j hj _
    rw [List.pairwise_iff_getElem] at h2
    exact ⟨h1 _ (List.getElem_mem hj), fun m hm h' => h2 m j h' hj (by omega)⟩
theorem goodB_iff {s : Schema} {l : List Row} : goodB s l = true ↔ good s l := by
  rw [← chk_good]
  have key : ∀ (t : List Row) (i : Nat), l.drop i = t → (allFrom (stepOk s l) i t = true ↔ chk s l i) := by
    intro t
    induction t with
    | nil =>
      intro i h
      have : l.length ≤ i := by
        have := congrArg List.length h
        rw [List.length_drop] at this
        simp at this; omega
      exact ⟨fun _ j hj hij => by omega, fun _ => rfl⟩
    | cons x t ih =>
      intro i h
      have hi : i < l.length := by
        rcases Nat.lt_or_ge i l.length with h1 | h1
        · exact h1
        · rw [List.drop_eq_nil_of_le h1] at h; cases h
      have hx : l[i] = x := by
        have := drop_cons hi
        rw [h] at this
        exact ((List.cons.inj this).1).symm
      have ht : l.drop (i + 1) = t := by rw [← List.drop_drop, h]; rfl
      simp only [allFrom, Bool.and_eq_true]
      rw [ih (i + 1) ht]
      unfold stepOk
      simp only [Bool.and_eq_true, decide_eq_true_iff]
      constructor
      · rintro ⟨⟨h1, h2⟩, h3⟩ j hj hij
        by_cases e : j = i
        · subst e
          refine ⟨by rw [hx]; exact h1, fun m hm h' => ?_⟩
          subst hm
          have hm' : l[m]? = some l[m] := get_some h'
          simp only [prevK, hm', Option.map_some, decide_eq_true_iff] at h2
          rw [hx]; exact h2
        · exact h3 j hj (by omega)
      · intro hk
        refine ⟨⟨by rw [← hx]; exact (hk i hi (Nat.le_refl _)).1, ?_⟩, fun j hj hij => hk j hj (by omega)⟩
        cases i with
        | zero => rfl
        | succ i =>
          have hm' : l[i]? = some l[i] := get_some (by omega)
          simp only [prevK, hm', Option.map_some, decide_eq_true_iff]
          rw [← hx]
          exact (hk (i + 1) hi (Nat.le_refl _)).2 i rfl (by omega)
  exact key l 0 rfl
theorem listOk_iff {s : Schema} {l : List Row} : listOk s l = true ↔ good s l ∧ l.length ≤ 60 := by
  unfold listOk
  rw [Bool.and_eq_true, decide_eq_true_iff, goodB_iff]
  exact And.comm

/-! ### Where a key is in a right list -/
/-- l is A, perhaps y with the key, and B. -/
structure At (l : List Row) (k : Key) (A : List Row) (y : Option Row) (B : List Row) : Prop where
  eq : l = A ++ (y.toList ++ B)
  lo : ∀ r ∈ A, cmpK r.key k < 0
  mid : ∀ r, y = some r → r.key = k
  hi : ∀ r ∈ B, cmpK k r.key < 0
theorem at_ex (k : Key) : ∀ {l : List Row}, l.Pairwise (fun a b => cmpK a.key b.key < 0) → ∃ A y B, At l k A y B
  | [], _ => ⟨[], none, [], ⟨rfl, by simp, by simp, by simp⟩⟩
  | x :: l, h => by
    rw [List.pairwise_cons] at h
    have hn := cmpK_neg (a := x.key) (b := k)
    rcases Int.lt_trichotomy (cmpK x.key k) 0 with h1 | h1 | h1
    · obtain ⟨A, y, B, ha⟩ := at_ex k h.2
      refine ⟨x :: A, y, B, ⟨by rw [ha.eq]; rfl, fun r hr => ?_, ha.mid, ha.hi⟩⟩
      rcases List.mem_cons.1 hr with rfl | hr
      · exact h1
      · exact ha.lo r hr
    · have hk := cmpK_zero.1 h1
      exact ⟨[], some x, l, ⟨rfl, by simp, fun r hr => by cases hr; exact hk, fun r hr => hk ▸ h.1 r hr⟩⟩
    · refine ⟨[], none, x :: l, ⟨rfl, by simp, by simp, fun r hr => ?_⟩⟩
      rcases List.mem_cons.1 hr with rfl | hr
      · omega
      · exact cmpK_ltt (by omega) (h.1 r hr)
theorem at_lt {l : List Row} {k : Key} {A B : List Row} {y : Option Row} (h : At l k A y B) {i : Nat} (hi : i < l.length) (hA : i < A.length) : cmpK l[i].key k < 0 := by
  have e := h.eq
  subst e
  rw [List.getElem_append_left hA]
  exact h.lo _ (List.getElem_mem hA)
theorem at_ge {l : List Row} {k : Key} {A B : List Row} {y : Option Row} (h : At l k A y B) {i : Nat} (hi : i < l.length) (hA : A.length ≤ i) : ¬ cmpK l[i].key k < 0 := by
  have e := h.eq
  subst e
  rw [List.getElem_append_right hA]
  have hm := List.getElem_mem (l := y.toList ++ B) (n := i - A.length) (by simp at hi ⊢; omega)
  rcases List.mem_append.1 hm with hm | hm
  · cases y with
    | none => cases hm
    | some r =>
      simp only [Option.toList_some, List.mem_singleton] at hm
      simp only [Option.toList_some] at hm ⊢
      rw [hm, cmpK_zero.2 (h.mid r rfl)]; omega
  · have := h.hi _ hm
    have := cmpK_neg (a := ((y.toList ++ B)[i - A.length]'(by simp at hi ⊢; omega)).key) (b := k)
    omega
theorem at_len {l : List Row} {k : Key} {A B : List Row} {y : Option Row} (h : At l k A y B) : l.length = A.length + (y.toList.length + B.length) := by rw [h.eq]; simp
theorem at_idx {l : List Row} {k : Key} {A B : List Row} {r : Row} (h : At l k A (some r) B) : idx l (A.length : Int) = some r := by
  rw [idx_nat, h.eq, List.getElem?_append_right (Nat.le_refl _)]; simp
theorem half_eq {x : Nat} (h : x < 4611686018427387904) : shrP .u64 (IntKind.wrap .u64 (IntKind.wrap .i64 (x : Int))) 1 = some ((x / 2 : Nat) : Int) ∧ IntKind.wrap .i64 ((x / 2 : Nat) : Int) = ((x / 2 : Nat) : Int) := by
  have e0 : IntKind.wrap .i64 (x : Int) = x := wrap_in (by omega)
  rw [e0]
  have e : IntKind.wrap .u64 (x : Int) = x := by rw [IntKind.wrap_u64]; omega
  rw [e]
  have e2 : shrV .u64 (x : Int) 1 = ((x / 2 : Nat) : Int) := by
    unfold shrV
    have e3 : (2 : Int) ^ (min (Int.toNat 1) (IntKind.u64.bits)) = 2 := by decide
    rw [e3, Int.fdiv_eq_ediv_of_nonneg _ (by decide)]
    omega
  refine ⟨?_, wrap_in (by omega)⟩
  unfold shrP
  rw [if_pos (by decide), e2]
theorem place1 (n : Nat) (hn : 3 ≤ n) (a : Row) (k : Key) : row_place_1 n a k = some (cmpK a.key k) := by
  unfold row_place_1
  rw [compare_eq n hn]; rfl
theorem search (n : Nat) (hn : 1003 ≤ n) {l : List Row} (hl : l.length ≤ 1000) {k : Key} {A B : List Row} {y : Option Row} (h : At l k A y B) :
    slices_BinarySearchFunc_Key_f100_l1 n n (l, (l.length : Int), 0, (l.length : Int), k, ()) = some ((A.length : Int), y.isSome) := by
  have hlen := at_len h
  show slices_BinarySearchFunc_Key_f100_l1 n n (l, (l.length : Int), ((0 : Nat) : Int), (l.length : Int), k, ()) = _
  unfold slices_BinarySearchFunc_Key_f100_l1
  refine bsearch (fun (i j : Nat) => (l, (l.length : Int), (i : Int), (j : Int), k, ())) A.length l.length _ (fun r i j hij hj hA => ?_) (fun r i j hij hj hA => ?_) (fun r => ?_) n 0 l.length (Nat.zero_le _) (by omega) (Nat.le_refl _) (by omega)
  · have e : ((i : Int) + (j : Int)) = ((i + j : Nat) : Int) := by omega
    obtain ⟨e1, e2⟩ := half_eq (x := i + j) (by omega)
    have := at_lt h (show (i + j) / 2 < l.length by omega) hA
    simp only [lt_dec hij, cond_true, e, e1, Option.bind_some, e2, idx_nat, get_some (show (i + j) / 2 < l.length by omega), place1 n (show 3 ≤ n by omega), jn, slices_BinarySearchFunc_Key_f100_j2, decide_eq_true this, wrap_succ (show (i + j) / 2 < 4611686018427387904 by omega)]
  · have e : ((i : Int) + (j : Int)) = ((i + j : Nat) : Int) := by omega
    obtain ⟨e1, e2⟩ := half_eq (x := i + j) (by omega)
    have := at_ge h (show (i + j) / 2 < l.length by omega) hA
    simp only [lt_dec hij, cond_true, e, e1, Option.bind_some, e2, idx_nat, get_some (show (i + j) / 2 < l.length by omega), place1 n (show 3 ≤ n by omega), jn, slices_BinarySearchFunc_Key_f100_j2, decide_eq_false this, cond_false]
  · simp only [ge_dec (Nat.lt_irrefl _), cond_false, jn]
    by_cases hA : A.length < l.length
    · simp only [lt_dec hA, cond_true, idx_nat, get_some hA, Option.bind_some, place1 n (show 3 ≤ n by omega)]
      congr 2
      cases y with
      | some r =>
        have h5 := at_idx h
        rw [idx_nat, get_some hA] at h5
        injection h5 with h5
        rw [h5, cmpK_zero.2 (h.mid r rfl)]; rfl
      | none =>
        have e := h.eq
        have hm : l[A.length] ∈ B := by
          subst e
          rw [List.getElem_append_right (Nat.le_refl _)]
          exact List.getElem_mem _
        have h6 := h.hi _ hm
        have h7 := cmpK_neg (a := k) (b := l[A.length].key)
        simp only [Option.isSome_none, beq_eq_false_iff_ne]
        omega
    · rw [ge_dec hA]
      cases y with
      | some r => simp at hlen; omega
      | none => rfl
theorem place_eq (n : Nat) (hn : 1003 ≤ n) {l : List Row} (hl : l.length ≤ 1000) {k : Key} {A B : List Row} {y : Option Row} (h : At l k A y B) : row_place n l k = some ((A.length : Int), y.isSome) := by
  unfold row_place slices_BinarySearchFunc_Key_f100
  rw [search n hn hl h]
  rfl

/-! ### Finding -/
def at_ (l : List Row) (k : Key) : Option Nat := l.findIdx? fun r => decide (r.key = k)
def ixI : Option Nat → Int
  | some i => (i : Int)
  | none => -1
theorem find_eq (n : Nat) (hn : 1003 ≤ n) (l : List Row) (hl : l.length ≤ 1000) (k : Key) : row_Find n l k = some (match at_ l k with | some i => ((i : Int), true) | none => (0, false)) := by
  have h1 : slices_IndexFunc_Row_1_f95 n l k = some (ixI (at_ l k)) := by
    show slices_IndexFunc_Row_1_f95_l1 n n (l, k, (l.length : Int), ((0 : Nat) : Int), ()) = _
    unfold slices_IndexFunc_Row_1_f95_l1
    refine (run_loop l (fun (i : Nat) (_ : Unit) => (l, k, (l.length : Int), (i : Int), ())) (fun i x _ => if decide (x.key = k) then .inl (some (i : Int)) else .inr ()) (fun _ => some (-1)) (fun r i q x hx hi => ?_) (fun r q => ?_) n 0 () (by omega) (by omega)).trans ?_
    · simp only [lt_dec hi, cond_true, idx_nat, hx, Option.bind_some, row_Find_1, key_eqb, wrap_succ (show i < 4611686018427387904 by omega)]
      by_cases h : x.key = k
      · rw [decide_eq_true h]; rfl
      · rw [decide_eq_false h]; rfl
    · simp only [ge_dec (Nat.lt_irrefl _), cond_false]
    · rw [List.drop_zero, runL_find0]
      unfold at_ ixI
      cases l.findIdx? (fun r => decide (r.key = k)) with
      | none => rfl
      | some j => simp
  unfold row_Find
  rw [h1]
  cases at_ l k with
  | none => rfl
  | some i =>
    simp only [ixI, Option.bind_some]
    rw [if_neg (by omega), decide_eq_true (by omega)]
theorem at_at {l : List Row} {k : Key} {A B : List Row} {y : Option Row} (h : At l k A y B) : at_ l k = if y.isSome then some A.length else none := by
  unfold at_
  have hA : ∀ x ∈ A, decide (x.key = k) = false := fun x hx => decide_eq_false fun e => by have := h.lo x hx; rw [cmpK_zero.2 e] at this; omega
  have hB : ∀ x ∈ B, decide (x.key = k) = false := fun x hx => decide_eq_false fun e => by have := h.hi x hx; rw [e, cmpK_zero.2 rfl] at this; omega
  have nA : A.findIdx? (fun r => decide (r.key = k)) = none := List.findIdx?_eq_none_iff.2 fun x hx => by simpa using hA x hx
  have nB : B.findIdx? (fun r => decide (r.key = k)) = none := List.findIdx?_eq_none_iff.2 fun x hx => by simpa using hB x hx
  rw [h.eq, List.findIdx?_append, nA, List.findIdx?_append, nB]
  cases y with
  | none => simp
  | some r => simp [List.findIdx?_cons, h.mid r rfl]
theorem rowfind_ok (n : Nat) (hn : 1003 ≤ n) {l : List Row} (hl : l.length ≤ 1000) {k : Key} {A B : List Row} {y : Option Row} (h : At l k A y B) : row_Find n l k = some (if y.isSome then ((A.length : Int), true) else (0, false)) := by
  rw [find_eq n hn l hl, at_at h]
  cases y <;> rfl

/-! ### With, without, of, the same, sums -/
theorem filt_at {l : List Row} {k : Key} {A B : List Row} {y : Option Row} (h : At l k A y B) : l.filter (fun r => !Key.eqb r.key k) = A ++ B := by
  rw [h.eq, List.filter_append, List.filter_append]
  have e1 : A.filter (fun r => !Key.eqb r.key k) = A := by
    rw [List.filter_eq_self]
    intro r hr
    have := h.lo r hr
    rw [key_eqb]
    simp only [Bool.not_eq_true', decide_eq_false_iff_not]
    intro e
    rw [cmpK_zero.2 e] at this; omega
  have e2 : B.filter (fun r => !Key.eqb r.key k) = B := by
    rw [List.filter_eq_self]
    intro r hr
    have := h.hi r hr
    rw [key_eqb]
    simp only [Bool.not_eq_true', decide_eq_false_iff_not]
    intro e
    rw [e, cmpK_zero.2 rfl] at this; omega
  rw [e1, e2]
  cases y with
  | none => rfl
  | some r => simp [key_eqb, h.mid r rfl]
def insP (r : Row) : List Row → List Row
  | [] => [r]
  | x :: t => if cmpK r.key x.key < 0 then r :: x :: t else x :: insP r t
theorem insP_len (r : Row) (l : List Row) : (insP r l).length = l.length + 1 := by
  induction l with
  | nil => rfl
  | cons x t ih =>
    simp only [insP]
    split
    · rfl
    · simp [ih]
theorem insP_at (r : Row) : ∀ (A B : List Row), (∀ x ∈ A, cmpK x.key r.key < 0) → (∀ x ∈ B, cmpK r.key x.key < 0) → insP r (A ++ B) = A ++ r :: B
  | [], [], _, _ => rfl
  | [], z :: t, _, h => by
    have := h z (by simp)
    simp [insP, this]
  | y :: A, B, hA, hB => by
    have hy := hA y (by simp)
    have : ¬ cmpK r.key y.key < 0 := by have := cmpK_neg (a := r.key) (b := y.key); omega
    simp only [List.cons_append, insP, if_neg this]
    rw [insP_at r A B (fun x hx => hA x (by simp [hx])) hB]
def stepW (r : Row) (i : Nat) (x : Row) (s : Bool × List Row) : Option (List Row) ⊕ (Bool × List Row) := .inr (if !s.1 && decide (cmpK r.key x.key < 0) then (true, s.2 ++ [r] ++ [x]) else (s.1, s.2 ++ [x]))
theorem with_run (r : Row) : ∀ (t : List Row) (i : Nat) (acc : List Row), runL (stepW r) (fun s => some (if s.1 then s.2 else s.2 ++ [r])) t i (true, acc) = some (acc ++ t) ∧ runL (stepW r) (fun s => some (if s.1 then s.2 else s.2 ++ [r])) t i (false, acc) = some (acc ++ insP r t)
  | [], i, acc => by simp [runL, insP]
  | x :: t, i, acc => by
    obtain ⟨h1, h2⟩ := with_run r t (i + 1) (acc ++ [x])
    obtain ⟨h3, h4⟩ := with_run r t (i + 1) (acc ++ [r] ++ [x])
    constructor
    · simp only [runL, stepW, Bool.not_true, Bool.false_and, Bool.false_eq_true, if_false]
      rw [h1]; simp
    · by_cases h : cmpK r.key x.key < 0
      · simp only [runL, stepW, Bool.not_false, Bool.true_and, decide_eq_true h, if_true, insP, if_pos h]
        rw [h3]; simp
      · simp only [runL, stepW, Bool.not_false, Bool.true_and, decide_eq_false h, Bool.false_eq_true, if_false, insP, if_neg h]
        rw [h2]; simp
def ofP (t : Int) (l : List Row) : List Row := l.filter fun r => decide (r.key.table = t)
theorem of_eq (n : Nat) (hn : 1003 ≤ n) (l : List Row) (hl : l.length ≤ 1000) (t : Int) : row_Of n l t = some (ofP t l) := by
  show row_Of_l1 n n (t, l, (l.length : Int), ((0 : Nat) : Int), [], ()) = _
  unfold row_Of_l1
  refine (run_loopI l (fun (i : Nat) (s : List Row) => (t, l, (l.length : Int), (i : Int), s, ())) (fun i x s => .inr (if decide (x.key.table = t) then s ++ [x] else s)) (fun s => some s) (fun i s => s.length ≤ i) (fun i s x s' hx hi hs => ?_) (fun r i s x hx hi hs => ?_) (fun r s hs => ?_) n 0 [] (by omega) (by omega) (by simp)).trans ?_
  · injection hs with hs
    subst hs
    split <;> first | (simp; omega) | omega
  · have a1 : app 40 s [x] = some (s ++ [x]) := app_lt (by simp; omega) (by decide)
    simp only [lt_dec hi, cond_true, idx_nat, hx, Option.bind_some, jn, row_Of_j2, a1, wrap_succ (show i < 4611686018427387904 by omega), ibeq]
    cases decide (x.key.table = t) <;> rfl
  · simp only [ge_dec (Nat.lt_irrefl _), cond_false]
  · rw [List.drop_zero, runL_filter]
    rfl
theorem row_eqb (x : Row) : Row.eqb x x = true := by simp [Row.eqb]
def sameL {α : Type} (e : α → α → Bool) : List α → List α → Bool
  | [], [] => true
  | x :: a, y :: b => e x y && sameL e a b
  | _, _ => false
theorem sameL_len {α : Type} {e : α → α → Bool} : ∀ {a b : List α}, a.length ≠ b.length → sameL e a b = false
  | [], [], h => absurd rfl h
  | [], _ :: _, _ => rfl
  | _ :: _, [], _ => rfl
  | x :: a, y :: b, h => by
    simp only [sameL]
    rw [sameL_len (by simpa using h), Bool.and_false]
theorem sameL_refl {α : Type} {e : α → α → Bool} (he : ∀ x, e x x = true) : ∀ (a : List α), sameL e a a = true
  | [] => rfl
  | x :: a => by simp [sameL, he, sameL_refl he a]
def atE {α : Type} (e : α → α → Bool) (b : List α) (j : Nat) (x : α) : Bool := match b[j]? with
  | some y => e x y
  | none => true
theorem sameL_from {α : Type} {e : α → α → Bool} (b : List α) : ∀ (t : List α) (i : Nat), t.length + i = b.length → allFrom (atE e b) i t = sameL e t (b.drop i)
  | [], i, h => by
    rw [List.drop_eq_nil_of_le (by simp at h; omega)]; rfl
  | x :: t, i, h => by
    have hi : i < b.length := by simp at h; omega
    rw [drop_cons hi]
    simp only [allFrom, sameL, atE, get_some hi]
    rw [sameL_from b t (i + 1) (by simp at h; omega)]
def rowsSame (a b : List Row) : Bool := sameL Row.eqb a b
theorem rsame_eq (n : Nat) (hn : 1003 ≤ n) (a b : List Row) (ha : a.length ≤ 1000) : ref05_Same n a b = some (rowsSame a b) := by
  unfold ref05_Same rowsSame
  rw [ineN]
  by_cases h : a.length = b.length
  · rw [decide_eq_true h]
    show ref05_Same_l1 n n (a, b, ((0 : Nat) : Int), ()) = _
    unfold ref05_Same_l1
    refine (run_loop a (fun (i : Nat) (_ : Unit) => (a, b, (i : Int), ())) (fun i x _ => if atE Row.eqb b i x then .inr () else .inl (some false)) (fun _ => some true) (fun r i q x hx hi => ?_) (fun r q => ?_) n 0 () (by omega) (by omega)).trans ?_
    · have hb := get_some (show i < b.length by omega)
      simp only [lt_dec hi, cond_true, idx_nat, hx, hb, Option.bind_some, wrap_succ (show i < 4611686018427387904 by omega), atE]
      cases Row.eqb x b[i] <;> rfl
    · simp only [ge_dec (Nat.lt_irrefl _), cond_false]
    · rw [List.drop_zero, runL_allFrom, sameL_from b a 0 (by omega), List.drop_zero]
      cases sameL Row.eqb a b <;> rfl
  · rw [decide_eq_false h, sameL_len h]; rfl
theorem same_eq (n : Nat) (hn : 1003 ≤ n) (a b : List Row) (ha : a.length ≤ 1000) : row_Same n a b = some (rowsSame a b) := by
  unfold row_Same slices_Equal_Row rowsSame
  rw [ineN]
  by_cases h : a.length = b.length
  · rw [decide_eq_true h]
    have h1 : slices_Equal_Row_l1 n n (a, b, (a.length : Int), ((0 : Nat) : Int), ()) = some (sameL Row.eqb a b) := by
      unfold slices_Equal_Row_l1
      refine (run_loop a (fun (i : Nat) (_ : Unit) => (a, b, (a.length : Int), (i : Int), ())) (fun i x _ => if atE Row.eqb b i x then .inr () else .inl (some false)) (fun _ => some true) (fun r i q x hx hi => ?_) (fun r q => ?_) n 0 () (by omega) (by omega)).trans ?_
      · have hb := get_some (show i < b.length by omega)
        simp only [lt_dec hi, cond_true, idx_nat, hx, hb, Option.bind_some, wrap_succ (show i < 4611686018427387904 by omega), atE]
        cases Row.eqb x b[i] <;> rfl
      · simp only [ge_dec (Nat.lt_irrefl _), cond_false]
      · rw [List.drop_zero, runL_allFrom, sameL_from b a 0 (by omega), List.drop_zero]
        cases sameL Row.eqb a b <;> rfl
    have h1' : slices_Equal_Row_l1 n n (a, b, (a.length : Int), 0, ()) = some (sameL Row.eqb a b) := h1
    simp only [Bool.not_true, cond_false, h1', Option.bind_some]
  · rw [decide_eq_false h, sameL_len h]; rfl
theorem rowsSame_refl (a : List Row) : rowsSame a a = true := sameL_refl row_eqb a
def i64 (x : Int) : Prop := -9223372036854775808 ≤ x ∧ x ≤ 9223372036854775807
def plusP (a b : Int) : Int × Bool := if -9223372036854775808 ≤ a + b ∧ a + b ≤ 9223372036854775807 then (a + b, true) else (0, false)
theorem plus_eq (n : Nat) {a b : Int} (ha : i64 a) (hb : i64 b) : row_Plus n a b = some (plusP a b) := by
  obtain ⟨a1, a2⟩ := ha
  obtain ⟨b1, b2⟩ := hb
  unfold row_Plus plusP
  simp only [jn, ibne]
  by_cases hz : b = 0
  · subst hz
    rw [if_pos (by omega), Int.add_zero, wrap_in (by omega), decide_eq_false (by omega : ¬ a > a)]
    rfl
  · rw [decide_eq_false hz]
    by_cases ho : -9223372036854775808 ≤ a + b ∧ a + b ≤ 9223372036854775807
    · rw [if_pos ho, wrap_in ho]
      by_cases hp : b > 0
      · rw [decide_eq_true hp, decide_eq_true (by omega : a + b > a)]; rfl
      · rw [decide_eq_false hp, decide_eq_false (by omega : ¬ a + b > a)]; rfl
    · rw [if_neg ho]
      by_cases hp : b > 0
      · rw [decide_eq_true hp, decide_eq_false (by rw [IntKind.wrap_i64]; omega : ¬ IntKind.wrap .i64 (a + b) > a)]; rfl
      · rw [decide_eq_false hp, decide_eq_true (by rw [IntKind.wrap_i64]; omega : IntKind.wrap .i64 (a + b) > a)]; rfl
theorem plusP_i64 {a b : Int} : i64 (plusP a b).1 := by
  unfold plusP
  split
  · rename_i h; exact h
  · exact ⟨by decide, by decide⟩
theorem clone_ok (n : Nat) (l : List Row) (h : l.length ≤ 1000) : slices_Clone_Row n l = some l := clone_eq (by omega) (by decide)

/-! ### Put -/
theorem good_sub {s : Schema} {l m : List Row} (h : good s l) (hs : m.Sublist l) : good s m := ⟨fun r hr => h.1 r (hs.subset hr), h.2.sublist hs⟩
theorem good_less {s : Schema} {l : List Row} {k : Key} {A B : List Row} {y : Option Row} (h : At l k A y B) (hg : good s l) : good s (A ++ B) := by
  refine good_sub hg ?_
  rw [h.eq]
  exact List.Sublist.append (List.Sublist.refl _) (List.sublist_append_right _ _)
theorem good_more {s : Schema} {l : List Row} {r : Row} {A B : List Row} {y : Option Row} (h : At l r.key A y B) (hg : good s l) (hr : rowErr s r = 0) : good s (A ++ r :: B) := by
  have h1 := good_less h hg
  refine ⟨fun x hx => ?_, ?_⟩
  · rcases List.mem_append.1 hx with hx | hx
    · exact h1.1 x (List.mem_append_left _ hx)
    · rcases List.mem_cons.1 hx with rfl | hx
      · exact hr
      · exact h1.1 x (List.mem_append_right _ hx)
  · have h2 := List.pairwise_append.1 h1.2
    rw [List.pairwise_append]
    refine ⟨h2.1, List.pairwise_cons.2 ⟨h.hi, h2.2.1⟩, fun a ha b hb => ?_⟩
    rcases List.mem_cons.1 hb with rfl | hb
    · exact h.lo a ha
    · exact h2.2.2 a ha b hb
theorem at_more {l : List Row} {r : Row} {A B : List Row} {y : Option Row} (h : At l r.key A y B) : At (A ++ r :: B) r.key A (some r) B := ⟨rfl, h.lo, fun x hx => by cases hx; rfl, h.hi⟩
theorem at_less {l : List Row} {k : Key} {A B : List Row} {y : Option Row} (h : At l k A y B) : At (A ++ B) k A none B := ⟨rfl, h.lo, by simp, h.hi⟩
def putErr (s : Schema) (l : List Row) (r : Row) (y : Option Row) : Int := if rowErr s r ≠ 0 then rowErr s r else if y = none ∧ l.length = 60 then 6 else 0
theorem put_eq (n : Nat) (hn : 1003 ≤ n) {s : Schema} (hs : s.tables.length ≤ 1000) (hr : right s = true) {l : List Row} (hg : listOk s l = true) {r : Row} {A B : List Row} {y : Option Row} (h : At l r.key A y B) :
    row_Put n s l r = some (if putErr s l r y = 0 then (0, A ++ r :: B) else (putErr s l r y, [])) := by
  have hl := (listOk_iff.1 hg).2
  unfold row_Put
  rw [checkList_eq n hn s hs l (by omega), checkRow_eq n hn s hs r, hr, hg]
  simp only [if_true, Option.bind_some, show ((0 : Int) != 0) = false from by decide, cond_false, ibne]
  unfold putErr
  by_cases he : rowErr s r = 0
  · have hlen := at_len h
    have heq := h.eq
    simp only [he, decide_true, Bool.not_true, cond_false, ne_eq, not_true_eq_false, if_false, place_eq n hn (show l.length ≤ 1000 by omega) h, clone_ok n l (by omega), Option.bind_some, jn, row_Put_j1]
    cases y with
    | some r0 =>
      simp only [Option.isSome_some, cond_true, at_idx h, Option.bind_some, reduceCtorEq, false_and, if_false, if_true]
      have : put l (A.length : Int) r = some (A ++ r :: B) := by
        rw [put_ok (by simp at hlen; omega), heq]
        simp
      rw [this]; rfl
    | none =>
      simp only [Option.isSome_none, cond_false, true_and]
      rw [show ((l.length : Int) == 60) = decide (l.length = 60) from ieqN (m := 60)]
      by_cases h60 : l.length = 60
      · rw [decide_eq_true h60, if_pos h60]; rfl
      · rw [decide_eq_false h60, if_neg h60]
        have : slices_Insert_Row n (A.length : Int) l [r] = some (A ++ r :: B) := by
          show insL 40 l _ [r] = _
          unfold insL
          rw [if_pos ⟨by omega, by simp at hlen; omega⟩, room_ok (by simp; omega), heq]
          simp
        simp only [cond_false, this, Option.bind_some]
        rfl
  · rw [decide_eq_false he, if_pos he, if_neg he]; rfl
theorem key_in {s : Schema} {l : List Row} {k : Key} {A B : List Row} {r : Row} (h : At l k A (some r) B) (hg : good s l) : inTab s k = true := by
  have := rowErr_key (hg.1 r (by rw [h.eq]; simp))
  rwa [h.mid r rfl] at this
end Go.Proofs.Ytegnflodgnfffaa
