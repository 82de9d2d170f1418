/- What the functions of layer 5 (row) compute. -/
import Derived.Test.YtlfjoaipbpendaaGreatDoorF3
import Derived.Test.YtlfjoaipbpendaaGreatDoorLst4
import Derived.Test.YtlfjoaipbpendaaGreatDoorRw
namespace Go.Proofs.YtlfjoaipbpendaaGreatDoor
open Go.Bur
set_option linter.unusedSimpArgs false
set_option linter.unusedVariables false
set_option maxRecDepth 100000

/-! ### Keys -/
instance : DecidableEq Key := fun a b => match Int.decEq a.table b.table, Int.decEq a.id b.id with
  | .isTrue h, .isTrue k => .isTrue (by cases a; cases b; simp_all)
  | .isFalse h, _ => .isFalse (fun e => h (by rw [e]))
  | _, .isFalse h => .isFalse (fun e => h (by rw [e]))
def cmpI (a b : Int) : Int := if a < b then -1 else if a > b then 1 else 0
def cmpK (a b : Key) : Int := if cmpI a.table b.table ≠ 0 then cmpI a.table b.table else cmpI a.id b.id
theorem compare_int (n : Nat) (a b : Int) : cmp_Compare_int n a b = some (cmpI a b) := by
  unfold cmp_Compare_int cmp_isNaN_int cmpI
  by_cases h1 : a < b
  · simp [h1]
  · by_cases h2 : a > b
    · simp [h1, h2]
    · simp [h1, h2]
theorem compare_u16 (n : Nat) (a b : Int) : cmp_Compare_uint16 n a b = some (cmpI a b) := by
  unfold cmp_Compare_uint16 cmp_isNaN_uint16 cmpI
  by_cases h1 : a < b
  · simp [h1]
  · by_cases h2 : a > b
    · simp [h1, h2]
    · simp [h1, h2]
theorem or2 (n : Nat) (hn : 3 ≤ n) (a b : Int) : cmp_Or_int n [a, b] = some (if a ≠ 0 then a else b) := by
  obtain ⟨n, rfl⟩ : ∃ m, n = m + 3 := ⟨n - 3, by omega⟩
  unfold cmp_Or_int cmp_Or_int_l1
  by_cases ha : a = 0
  · by_cases hb : b = 0
    · subst ha hb; rfl
    · subst ha
      have : (b != 0) = true := by simpa using hb
      simp [loopF, idx, IntKind.wrap_i64, this]
  · have : (a != 0) = true := by simpa using ha
    simp [loopF, idx, this, ha]
theorem compare_eq (n : Nat) (hn : 3 ≤ n) (a b : Key) : row_Compare n a b = some (cmpK a b) := by
  unfold row_Compare
  rw [compare_int, compare_u16]
  simp only [Option.bind_some]
  rw [or2 n hn]
  rfl
theorem key_eqb (a b : Key) : Key.eqb a b = decide (a = b) := by
  obtain ⟨a1, a2⟩ := a
  obtain ⟨b1, b2⟩ := b
  by_cases h1 : a1 = b1 <;> by_cases h2 : a2 = b2 <;> simp [Key.eqb, h1, h2]
theorem cmpI_zero {a b : Int} : cmpI a b = 0 ↔ a = b := by unfold cmpI; split <;> (try split) <;> omega
theorem cmpI_neg {a b : Int} : cmpI a b = -cmpI b a := by unfold cmpI; split <;> split <;> (try split) <;> (try split) <;> omega
theorem cmpI_lt {a b : Int} : cmpI a b < 0 ↔ a < b := by unfold cmpI; split <;> (try split) <;> omega
theorem cmpK_zero {a b : Key} : cmpK a b = 0 ↔ a = b := by
  obtain ⟨a1, a2⟩ := a
  obtain ⟨b1, b2⟩ := b
  unfold cmpK
  by_cases h : cmpI a1 b1 = 0
  · have := cmpI_zero.1 h
    subst this
    simp [h, cmpI_zero]
  · have h' : a1 ≠ b1 := fun e => h (cmpI_zero.2 e)
    simp [h, h']
theorem cmpK_neg {a b : Key} : cmpK a b = -cmpK b a := by
  unfold cmpK
  have h1 := cmpI_neg (a := a.table) (b := b.table)
  have h2 := cmpI_neg (a := a.id) (b := b.id)
  by_cases h : cmpI b.table a.table = 0
  · rw [h] at h1; simp [h1, h, h2]
  · have : cmpI a.table b.table ≠ 0 := by omega
    simp [h, this, h1]
theorem cmpK_lt {a b : Key} : cmpK a b < 0 ↔ a.table < b.table ∨ a.table = b.table ∧ a.id < b.id := by
  unfold cmpK
  by_cases h : cmpI a.table b.table = 0
  · have := cmpI_zero.1 h
    simp only [ne_eq, h, not_true_eq_false, if_false, cmpI_lt]
    omega
  · have h' : a.table ≠ b.table := fun e => h (cmpI_zero.2 e)
    simp only [ne_eq, h, not_false_eq_true, if_true, cmpI_lt]
    omega
theorem cmpK_ltt {a b c : Key} (h : cmpK a b < 0) (k : cmpK b c < 0) : cmpK a c < 0 := by
  rw [cmpK_lt] at *
  omega
/-! ### Schemas -/
def right (s : Schema) : Bool := decide (1 ≤ s.tables.length ∧ s.tables.length ≤ 3) && !s.tables.any (fun b => decide (b.min > b.max))
theorem schTab {s : Schema} (h : right s = true) : s.tables.length ≤ 3 := by
  unfold right at h
  simp only [Bool.and_eq_true, decide_eq_true_iff] at h
  exact h.1.2
theorem any_find {α : Type} {p : α → Bool} (l : List α) : l.any p = (l.findIdx? p).isSome := by
  induction l with
  | nil => rfl
  | cons x t ih =>
    rw [List.any_cons, List.findIdx?_cons]
    cases h : p x with
    | true => rfl
    | false => rw [if_neg (by decide), Option.isSome_map, Bool.false_or, ih]
theorem check_eq (n : Nat) (hn : 1003 ≤ n) (s : Schema) (hs : s.tables.length ≤ 1000) : row_Check n s = some (if right s then 0 else 150) := by
  have h2 : slices_ContainsFunc_Bounds_f72 n s.tables = some (s.tables.any fun b => decide (b.min > b.max)) := by
    have h3 : slices_IndexFunc_Bounds_f72 n s.tables = some (match s.tables.findIdx? (fun b => decide (b.min > b.max)) with | some j => (j : Int) | none => -1) := by
      show slices_IndexFunc_Bounds_f72_l1 n n (s.tables, (s.tables.length : Int), ((0 : Nat) : Int), ()) = _
      unfold slices_IndexFunc_Bounds_f72_l1
      refine (run_loop s.tables (fun (i : Nat) (_ : Unit) => (s.tables, (s.tables.length : Int), (i : Int), ())) (fun i x _ => if decide (x.min > x.max) then .inl (some (i : Int)) else .inr ()) (fun _ => some (-1)) (fun r i q x hx hi => ?_) (fun r q => ?_) n 0 () (by omega) (by omega)).trans ?_
      · simp only [lt_dec hi, cond_true, idx_nat, hx, Option.bind_some, row_Check_1, wrap_succ (show i < 4611686018427387904 by omega)]
        by_cases h : x.min > x.max
        · rw [decide_eq_true h]; rfl
        · rw [decide_eq_false h]; rfl
      · simp only [ge_dec (Nat.lt_irrefl _), cond_false]
      · rw [List.drop_zero, runL_find0]
        cases s.tables.findIdx? (fun b => decide (b.min > b.max)) with
        | none => rfl
        | some j => simp
    unfold slices_ContainsFunc_Bounds_f72
    rw [h3, any_find]
    cases s.tables.findIdx? (fun b => decide (b.min > b.max)) with
    | none => rfl
    | some j => simp
  unfold row_Check right
  rw [h2]
  simp only [jn, Option.bind_some]
  by_cases h : 1 ≤ s.tables.length ∧ s.tables.length ≤ 3
  · rw [decide_eq_true h, decide_eq_false (by omega : ¬ (s.tables.length : Int) < 1), decide_eq_false (by omega : ¬ (s.tables.length : Int) > 3)]
    cases s.tables.any (fun b => decide (b.min > b.max)) <;> rfl
  · rw [decide_eq_false h]
    by_cases h1 : (s.tables.length : Int) < 1
    · rw [decide_eq_true h1]; rfl
    · rw [decide_eq_false h1, decide_eq_true (by omega : (s.tables.length : Int) > 3)]; rfl
theorem all1 (n : Nat) (hn : 3 ≤ n) (a : row_rule) : row_all n [a] = some (cond a.is 0 a.no) := by
  obtain ⟨n, rfl⟩ : ∃ m, n = m + 3 := ⟨n - 3, by omega⟩
  unfold row_all row_all_l1
  cases h : a.is <;> simp [loopF, idx, IntKind.wrap_i64, h]
theorem all2 (n : Nat) (hn : 4 ≤ n) (a b : row_rule) : row_all n [a, b] = some (cond a.is (cond b.is 0 b.no) a.no) := by
  obtain ⟨n, rfl⟩ : ∃ m, n = m + 4 := ⟨n - 4, by omega⟩
  unfold row_all row_all_l1
  cases h : a.is <;> cases h' : b.is <;> simp [loopF, idx, IntKind.wrap_i64, h, h']
def inTab (s : Schema) (k : Key) : Bool := decide (k.table ≥ 0) && decide (k.table < (s.tables.length : Int))
def keyErr (s : Schema) (k : Key) : Int := if inTab s k then 0 else 151
theorem inTab_iff {s : Schema} {k : Key} : inTab s k = true ↔ 0 ≤ k.table ∧ k.table < s.tables.length := by
  unfold inTab
  simp only [Bool.and_eq_true, decide_eq_true_iff, ge_iff_le]
theorem checkKey_eq (n : Nat) (hn : 1003 ≤ n) (s : Schema) (hs : s.tables.length ≤ 1000) (k : Key) : row_CheckKey n s k = some (if right s then keyErr s k else 150) := by
  unfold row_CheckKey keyErr inTab
  rw [check_eq n hn s hs]
  cases right s with
  | false => rfl
  | true =>
    simp only [if_true, Option.bind_some, show ((0 : Int) != 0) = false from by decide, cond_false, row_known, jn]
    cases decide (k.table ≥ 0) with
    | false => simp [all1 n (by omega)]
    | true => cases decide (k.table < (s.tables.length : Int)) <;> simp [all1 n (by omega)]
def fitsB (b : Bounds) (v : Int) : Bool := decide (v ≥ b.min) && decide (v ≤ b.max)
def rowErr (s : Schema) (r : Row) : Int :=
  if inTab s r.key then
    (if (r.note.size : Int) ≤ 8 then
      match idx s.tables r.key.table with
      | some x => if fitsB x r.val then 0 else 152
      | none => 0
    else 3)
  else 151
theorem checkRow_eq (n : Nat) (hn : 1003 ≤ n) (s : Schema) (hs : s.tables.length ≤ 1000) (r : Row) : row_CheckRow n s r = some (if right s then rowErr s r else 150) := by
  unfold row_CheckRow
  rw [checkKey_eq n hn s hs r.key]
  cases right s with
  | false => rfl
  | true =>
    unfold keyErr rowErr
    by_cases h : inTab s r.key = true
    · rw [h]
      obtain ⟨x, hx⟩ := idx_in (inTab_iff.1 h)
      simp only [if_true, Option.bind_some, show ((0 : Int) != 0) = false from by decide, cond_false, hx, jn]
      unfold fitsB
      by_cases h1 : (r.note.size : Int) ≤ 8
      · rw [if_pos h1, decide_eq_true h1]
        cases decide (r.val ≥ x.min) <;> cases decide (r.val ≤ x.max) <;> simp [all2 n (by omega)]
      · rw [if_neg h1, decide_eq_false h1]
        cases decide (r.val ≥ x.min) <;> cases decide (r.val ≤ x.max) <;> simp [all2 n (by omega)]
    · have h : inTab s r.key = false := by simpa using h
      rw [h]; rfl
theorem rowErr_key {s : Schema} {r : Row} (h : rowErr s r = 0) : inTab s r.key = true := by
  unfold rowErr at h
  by_cases hk : inTab s r.key = true
  · exact hk
  · rw [if_neg hk] at h; cases h

/-! ### Lists of rows -/
def prevK (l : List Row) (i : Nat) : Option Key := match i with
  | 0 => none
  | j + 1 => (l[j]?).map (·.key)
def stepOk (s : Schema) (l : List Row) (i : Nat) (r : Row) : Bool := decide (rowErr s r = 0) && (match prevK l i with | none => true | some k => decide (cmpK k r.key < 0))
def goodB (s : Schema) (l : List Row) : Bool := allFrom (stepOk s l) 0 l
def listOk (s : Schema) (l : List Row) : Bool := decide (l.length ≤ 60) && goodB s l
theorem ge_lt {a b : Key} : decide (cmpK a b ≥ 0) = !decide (cmpK a b < 0) := by
  by_cases h : cmpK a b < 0
  · rw [decide_eq_true h, decide_eq_false (by omega)]; rfl
  · rw [decide_eq_false h, decide_eq_true (by omega)]; rfl
theorem checkList_eq (n : Nat) (hn : 1003 ≤ n) (s : Schema) (hs : s.tables.length ≤ 1000) (l : List Row) (hl : l.length ≤ 1000) : row_CheckList n s l = some (if right s then (if listOk s l then 0 else 151) else 150) := by
  unfold row_CheckList
  rw [check_eq n hn s hs]
  cases hr : right s with
  | false => rfl
  | true =>
    simp only [if_true, Option.bind_some, show ((0 : Int) != 0) = false from by decide, cond_false]
    show row_CheckList_l1 n n (l, l, (l.length : Int), ((0 : Nat) : Int), s, ()) = _
    unfold row_CheckList_l1
    refine (run_loop l (fun (i : Nat) (_ : Unit) => (l, l, (l.length : Int), (i : Int), s, ())) (fun i x _ => if stepOk s l i x then .inr () else .inl (some 151)) (fun _ => some (if l.length ≤ 60 then 0 else 151)) (fun r i q x hx hi => ?_) (fun r q => ?_) n 0 () (by omega) (by omega)).trans ?_
    · simp only [lt_dec hi, cond_true, idx_nat, hx, Option.bind_some, checkRow_eq n hn s hs, hr, if_true, jn, wrap_succ (show i < 4611686018427387904 by omega), ibne]
      unfold stepOk
      by_cases he : rowErr s x = 0
      · rw [decide_eq_true he]
        cases i with
        | zero => simp [prevK, show decide (((0 : Nat) : Int) > 0) = false from rfl]
        | succ i =>
          have hi' : l[i]? = some l[i] := get_some (by omega)
          have h0 : decide (((i + 1 : Nat) : Int) > 0) = true := decide_eq_true (by omega)
          simp only [h0, cond_true, wrap_pred (show i < 4611686018427387904 by omega), idx_nat, hi', Option.bind_some, compare_eq n (by omega), prevK, Option.map_some, ge_lt]
          cases decide (cmpK l[i].key x.key < 0) <;> rfl
      · rw [decide_eq_false he]; rfl
    · simp only [ge_dec (Nat.lt_irrefl _), cond_false, all1 n (by omega), Option.bind_some]
      by_cases h : l.length ≤ 60
      · rw [if_pos h, decide_eq_true (by omega : (l.length : Int) ≤ 60)]; rfl
      · rw [if_neg h, decide_eq_false (by omega : ¬ (l.length : Int) ≤ 60)]; rfl
    · rw [List.drop_zero, runL_allFrom]
      unfold listOk goodB
      by_cases h : l.length ≤ 60
      · rw [if_pos h, decide_eq_true h]
        cases allFrom (stepOk s l) 0 l <;> rfl
      · rw [if_neg h, decide_eq_false h]
        cases allFrom (stepOk s l) 0 l <;> rfl
def good (s : Schema) (l : List Row) : Prop := (∀ r ∈ l, rowErr s r = 0) ∧ l.Pairwise (fun a b => cmpK a.key b.key < 0)
def chk (s : Schema) (l : List Row) (i : Nat) : Prop := ∀ j (h : j < l.length), i ≤ j → rowErr s l[j] = 0 ∧ ∀ m, j = m + 1 → ∀ h' : m < l.length, cmpK (l[m]).key (l[j]).key < 0
theorem chk_good {s : Schema} {l : List Row} : chk s l 0 ↔ good s l := by
  constructor
  · intro h
    refine ⟨fun r hr => ?_, ?_⟩
    · obtain ⟨j, hj, rfl⟩ := List.getElem_of_mem hr
      exact (h j hj (Nat.zero_le _)).1
    · rw [List.pairwise_iff_getElem]
      intro i j hi hj hij
      obtain ⟨d, rfl⟩ : ∃ d, j = i + d + 1 := ⟨j - i - 1, by omega⟩
      clear hij
      induction d with
      | zero => exact (h _ hj (Nat.zero_le _)).2 i rfl hi
      | succ d ih => exact cmpK_ltt (ih (by omega)) ((h _ hj (Nat.zero_le _)).2 (i + d + 1) rfl (by omega))
  · rintro ⟨h1, h2⟩ j hj _
    rw [List.pairwise_iff_getElem] at h2
    exact ⟨h1 _ (List.getElem_mem hj), fun m hm h' => h2 m j h' hj (by omega)⟩
theorem goodB_iff {s : Schema} {l : List Row} : goodB s l = true ↔ good s l := by
  rw [← chk_good]
  have key : ∀ (t : List Row) (i : Nat), l.drop i = t → (allFrom (stepOk s l) i t = true ↔ chk s l i) := by
    intro t
    induction t with
    | nil =>
      intro i h
      have : l.length ≤ i := by
        have := congrArg List.length h
        rw [List.length_drop] at this
        simp at this; omega
      exact ⟨fun _ j hj hij => by omega, fun _ => rfl⟩
    | cons x t ih =>
      intro i h
      have hi : i < l.length := by
        rcases Nat.lt_or_ge i l.length with h1 | h1
        · exact h1
        · rw [List.drop_eq_nil_of_le h1] at h; cases h
      have hx : l[i] = x := by
        have := drop_cons hi
        rw [h] at this
        exact ((List.cons.inj this).1).symm
      have ht : l.drop (i + 1) = t := by rw [← List.drop_drop, h]; rfl
      simp only [allFrom, Bool.and_eq_true]
      rw [ih (i + 1) ht]
      unfold stepOk
      simp only [Bool.and_eq_true, decide_eq_true_iff]
      constructor
      · rintro ⟨⟨h1, h2⟩, h3⟩ j hj hij
        by_cases e : j = i
        · subst e
          refine ⟨by rw [hx]; exact h1, fun m hm h' => ?_⟩
          subst hm
          have hm' : l[m]? = some l[m] := get_some h'
          simp only [prevK, hm', Option.map_some, decide_eq_true_iff] at h2
          rw [hx]; exact h2
        · exact h3 j hj (by omega)
      · intro hk
        refine ⟨⟨by rw [← hx]; exact (hk i hi (Nat.le_refl _)).1, ?_⟩, fun j hj hij => hk j hj (by omega)⟩
        cases i with
        | zero => rfl
        | succ i =>
          have hm' : l[i]? = some l[i] := get_some (by omega)
          simp only [prevK, hm', Option.map_some, decide_eq_true_iff]
          rw [← hx]
          exact (hk (i + 1) hi (Nat.le_refl _)).2 i rfl (by omega)
  exact key l 0 rfl
theorem listOk_iff {s : Schema} {l : List Row} : listOk s l = true ↔ good s l ∧ l.length ≤ 60 := by
  unfold listOk
  rw [Bool.and_eq_true, decide_eq_true_iff, goodB_iff]
  exact And.comm

/-! ### Where a key is in a right list -/
/-- l is A, perhaps y with the key, and B. -/
structure At (l : List Row) (k : Key) (A : List Row) (y : Option Row) (B : List Row) : Prop where
  eq : l = A ++ (y.toList ++ B)
  lo : ∀ r ∈ A, cmpK r.key k < 0
  mid : ∀ r, y = some r → r.key = k
  hi : ∀ r ∈ B, cmpK k r.key < 0
theorem at_ex (k : Key) : ∀ {l : List Row}, l.Pairwise (fun a b => cmpK a.key b.key < 0) → ∃ A y B, At l k A y B
  | [], _ => ⟨[], none, [], ⟨rfl, by simp, by simp, by simp⟩⟩
  | x :: l, h => by
    rw [List.pairwise_cons] at h
    have hn := cmpK_neg (a := x.key) (b := k)
    rcases Int.lt_trichotomy (cmpK x.key k) 0 with h1 | h1 | h1
    · obtain ⟨A, y, B, ha⟩ := at_ex k h.2
      refine ⟨x :: A, y, B, ⟨by rw [ha.eq]; rfl, fun r hr => ?_, ha.mid, ha.hi⟩⟩
      rcases List.mem_cons.1 hr with rfl | hr
      · exact h1
      · exact ha.lo r hr
    · have hk := cmpK_zero.1 h1
      exact ⟨[], some x, l, ⟨rfl, by simp, fun r hr => by cases hr; exact hk, fun r hr => hk ▸ h.1 r hr⟩⟩
    · refine ⟨[], none, x :: l, ⟨rfl, by simp, by simp, fun r hr => ?_⟩⟩
      rcases List.mem_cons.1 hr with rfl | hr
      · omega
      · exact cmpK_ltt (by omega) (h.1 r hr)
theorem at_lt {l : List Row} {k : Key} {A B : List Row} {y : Option Row} (h : At l k A y B) {i : Nat} (hi : i < l.length) (hA : i < A.length) : cmpK l[i].key k < 0 := by
  have e := h.eq
  subst e
  rw [List.getElem_append_left hA]
  exact h.lo _ (List.getElem_mem hA)
theorem at_ge {l : List Row} {k : Key} {A B : List Row} {y : Option Row} (h : At l k A y B) {i : Nat} (hi : i < l.length) (hA : A.length ≤ i) : ¬ cmpK l[i].key k < 0 := by
  have e := h.eq
  subst e
  rw [List.getElem_append_right hA]
  have hm := List.getElem_mem (l := y.toList ++ B) (n := i - A.length) (by simp at hi ⊢; omega)
  rcases List.mem_append.1 hm with hm | hm
  · cases y with
    | none => cases hm
    | some r =>
      simp only [Option.toList_some, List.mem_singleton] at hm
      simp only [Option.toList_some] at hm ⊢
      rw [hm, cmpK_zero.2 (h.mid r rfl)]; omega
  · have := h.hi _ hm
    have := cmpK_neg (a := ((y.toList ++ B)[i - A.length]'(by simp at hi ⊢; omega)).key) (b := k)
    omega
theorem at_len {l : List Row} {k : Key} {A B : List Row} {y : Option Row} (h : At l k A y B) : l.length = A.length + (y.toList.length + B.length) := by rw [h.eq]; simp
theorem at_idx {l : List Row} {k : Key} {A B : List Row} {r : Row} (h : At l k A (some r) B) : idx l (A.length : Int) = some r := by
  rw [idx_nat, h.eq, List.getElem?_append_right (Nat.le_refl _)]; simp
theorem half_eq {x : Nat} (h : x < 4611686018427387904) : shrP .u64 (IntKind.wrap .u64 (IntKind.wrap .i64 (x : Int))) 1 = some ((x / 2 : Nat) : Int) ∧ IntKind.wrap .i64 ((x / 2 : Nat) : Int) = ((x / 2 : Nat) : Int) := by
  have e0 : IntKind.wrap .i64 (x : Int) = x := wrap_in (by omega)
  rw [e0]
  have e : IntKind.wrap .u64 (x : Int) = x := by rw [IntKind.wrap_u64]; omega
  rw [e]
  have e2 : shrV .u64 (x : Int) 1 = ((x / 2 : Nat) : Int) := by
    unfold shrV
    have e3 : (2 : Int) ^ (min (Int.toNat 1) (IntKind.u64.bits)) = 2 := by decide
    rw [e3, Int.fdiv_eq_ediv_of_nonneg _ (by decide)]
    omega
  refine ⟨?_, wrap_in (by omega)⟩
  unfold shrP
  rw [if_pos (by decide), e2]
theorem place1 (n : Nat) (hn : 3 ≤ n) (a : Row) (k : Key) : row_place_1 n a k = some (cmpK a.key k) := by
  unfold row_place_1
  rw [compare_eq n hn]; rfl
theorem search (n : Nat) (hn : 1003 ≤ n) {l : List Row} (hl : l.length ≤ 1000) {k : Key} {A B : List Row} {y : Option Row} (h : At l k A y B) :
    slices_BinarySearchFunc_Key_f164_l1 n n (l, (l.length : Int), 0, (l.length : Int), k, ()) = some ((A.length : Int), y.isSome) := by
  have hlen := at_len h
  show slices_BinarySearchFunc_Key_f164_l1 n n (l, (l.length : Int), ((0 : Nat) : Int), (l.length : Int), k, ()) = _
  unfold slices_BinarySearchFunc_Key_f164_l1
  refine bsearch (fun (i j : Nat) => (l, (l.length : Int), (i : Int), (j : Int), k, ())) A.length l.length _ (fun r i j hij hj hA => ?_) (fun r i j hij hj hA => ?_) (fun r => ?_) n 0 l.length (Nat.zero_le _) (by omega) (Nat.le_refl _) (by omega)
  · have e : ((i : Int) + (j : Int)) = ((i + j : Nat) : Int) := by omega
    obtain ⟨e1, e2⟩ := half_eq (x := i + j) (by omega)
    have := at_lt h (show (i + j) / 2 < l.length by omega) hA
    simp only [lt_dec hij, cond_true, e, e1, Option.bind_some, e2, idx_nat, get_some (show (i + j) / 2 < l.length by omega), place1 n (show 3 ≤ n by omega), jn, slices_BinarySearchFunc_Key_f164_j2, decide_eq_true this, wrap_succ (show (i + j) / 2 < 4611686018427387904 by omega)]
  · have e : ((i : Int) + (j : Int)) = ((i + j : Nat) : Int) := by omega
    obtain ⟨e1, e2⟩ := half_eq (x := i + j) (by omega)
    have := at_ge h (show (i + j) / 2 < l.length by omega) hA
    simp only [lt_dec hij, cond_true, e, e1, Option.bind_some, e2, idx_nat, get_some (show (i + j) / 2 < l.length by omega), place1 n (show 3 ≤ n by omega), jn, slices_BinarySearchFunc_Key_f164_j2, decide_eq_false this, cond_false]
  · simp only [ge_dec (Nat.lt_irrefl _), cond_false, jn]
    by_cases hA : A.length < l.length
    · simp only [lt_dec hA, cond_true, idx_nat, get_some hA, Option.bind_some, place1 n (show 3 ≤ n by omega)]
      congr 2
      cases y with
      | some r =>
        have h5 := at_idx h
        rw [idx_nat, get_some hA] at h5
        injection h5 with h5
        rw [h5, cmpK_zero.2 (h.mid r rfl)]; rfl
      | none =>
        have e := h.eq
        have hm : l[A.length] ∈ B := by
          subst e
          rw [List.getElem_append_right (Nat.le_refl _)]
          exact List.getElem_mem _
        have h6 := h.hi _ hm
        have h7 := cmpK_neg (a := k) (b := l[A.length].key)
        simp only [Option.isSome_none, beq_eq_false_iff_ne]
        omega
    · rw [ge_dec hA]
      cases y with
      | some r => simp at hlen; omega
      | none => rfl
theorem place_eq (n : Nat) (hn : 1003 ≤ n) {l : List Row} (hl : l.length ≤ 1000) {k : Key} {A B : List Row} {y : Option Row} (h : At l k A y B) : row_place n l k = some ((A.length : Int), y.isSome) := by
  unfold row_place slices_BinarySearchFunc_Key_f164
  rw [search n hn hl h]
  rfl

/-! ### Finding -/
def at_ (l : List Row) (k : Key) : Option Nat := l.findIdx? fun r => decide (r.key = k)
def ixI : Option Nat → Int
  | some i => (i : Int)
  | none => -1
theorem find_eq (n : Nat) (hn : 1003 ≤ n) (l : List Row) (hl : l.length ≤ 1000) (k : Key) : row_Find n l k = some (match at_ l k with | some i => ((i : Int), true) | none => (0, false)) := by
  have h1 : slices_IndexFunc_Row_f66 n l k = some (ixI (at_ l k)) := by
    show slices_IndexFunc_Row_f66_l1 n n (l, k, (l.length : Int), ((0 : Nat) : Int), ()) = _
    unfold slices_IndexFunc_Row_f66_l1
    refine (run_loop l (fun (i : Nat) (_ : Unit) => (l, k, (l.length : Int), (i : Int), ())) (fun i x _ => if decide (x.key = k) then .inl (some (i : Int)) else .inr ()) (fun _ => some (-1)) (fun r i q x hx hi => ?_) (fun r q => ?_) n 0 () (by omega) (by omega)).trans ?_
    · simp only [lt_dec hi, cond_true, idx_nat, hx, Option.bind_some, row_Find_1, key_eqb, wrap_succ (show i < 4611686018427387904 by omega)]
      by_cases h : x.key = k
      · rw [decide_eq_true h]; rfl
      · rw [decide_eq_false h]; rfl
    · simp only [ge_dec (Nat.lt_irrefl _), cond_false]
    · rw [List.drop_zero, runL_find0]
      unfold at_ ixI
      cases l.findIdx? (fun r => decide (r.key = k)) with
      | none => rfl
      | some j => simp
  unfold row_Find
  rw [h1]
  cases at_ l k with
  | none => rfl
  | some i =>
    simp only [ixI, Option.bind_some]
    rw [if_neg (by omega), decide_eq_true (by omega)]
theorem at_at {l : List Row} {k : Key} {A B : List Row} {y : Option Row} (h : At l k A y B) : at_ l k = if y.isSome then some A.length else none := by
  unfold at_
  have hA : ∀ x ∈ A, decide (x.key = k) = false := fun x hx => decide_eq_false fun e => by have := h.lo x hx; rw [cmpK_zero.2 e] at this; omega
  have hB : ∀ x ∈ B, decide (x.key = k) = false := fun x hx => decide_eq_false fun e => by have := h.hi x hx; rw [e, cmpK_zero.2 rfl] at this; omega
  have nA : A.findIdx? (fun r => decide (r.key = k)) = none := List.findIdx?_eq_none_iff.2 fun x hx => by simpa using hA x hx
  have nB : B.findIdx? (fun r => decide (r.key = k)) = none := List.findIdx?_eq_none_iff.2 fun x hx => by simpa using hB x hx
  rw [h.eq, List.findIdx?_append, nA, List.findIdx?_append, nB]
  cases y with
  | none => simp
  | some r => simp [List.findIdx?_cons, h.mid r rfl]
/-! ### With, without, of, the same, sums -/
theorem filt_at {l : List Row} {k : Key} {A B : List Row} {y : Option Row} (h : At l k A y B) : l.filter (fun r => !Key.eqb r.key k) = A ++ B := by
  rw [h.eq, List.filter_append, List.filter_append]
  have e1 : A.filter (fun r => !Key.eqb r.key k) = A := by
    rw [List.filter_eq_self]
    intro r hr
    have := h.lo r hr
    rw [key_eqb]
    simp only [Bool.not_eq_true', decide_eq_false_iff_not]
    intro e
    rw [cmpK_zero.2 e] at this; omega
  have e2 : B.filter (fun r => !Key.eqb r.key k) = B := by
    rw [List.filter_eq_self]
    intro r hr
    have := h.hi r hr
    rw [key_eqb]
    simp only [Bool.not_eq_true', decide_eq_false_iff_not]
    intro e
    rw [e, cmpK_zero.2 rfl] at this; omega
  rw [e1, e2]
  cases y with
  | none => rfl
  | some r => simp [key_eqb, h.mid r rfl]
def insP (r : Row) : List Row → List Row
  | [] => [r]
  | x :: t => if cmpK r.key x.key < 0 then r :: x :: t else x :: insP r t
theorem insP_len (r : Row) (l : List Row) : (insP r l).length = l.length + 1 := by
  induction l with
  | nil => rfl
  | cons x t ih =>
    simp only [insP]
    split
    · rfl
    · simp [ih]
theorem insP_at (r : Row) : ∀ (A B : List Row), (∀ x ∈ A, cmpK x.key r.key < 0) → (∀ x ∈ B, cmpK r.key x.key < 0) → insP r (A ++ B) = A ++ r :: B
  | [], [], _, _ => rfl
  | [], z :: t, _, h => by
    have := h z (by simp)
    simp [insP, this]
  | y :: A, B, hA, hB => by
    have hy := hA y (by simp)
    have : ¬ cmpK r.key y.key < 0 := by have := cmpK_neg (a := r.key) (b := y.key); omega
    simp only [List.cons_append, insP, if_neg this]
    rw [insP_at r A B (fun x hx => hA x (by simp [hx])) hB]
def ofP (t : Int) (l : List Row) : List Row := l.filter fun r => decide (r.key.table = t)
theorem of_eq (n : Nat) (hn : 1003 ≤ n) (l : List Row) (hl : l.length ≤ 1000) (t : Int) : row_Of n l t = some (ofP t l) := by
  show row_Of_l1 n n (t, l, (l.length : Int), ((0 : Nat) : Int), [], ()) = _
  unfold row_Of_l1
  refine (run_loopI l (fun (i : Nat) (s : List Row) => (t, l, (l.length : Int), (i : Int), s, ())) (fun i x s => .inr (if decide (x.key.table = t) then s ++ [x] else s)) (fun s => some s) (fun i s => s.length ≤ i) (fun i s x s' hx hi hs => ?_) (fun r i s x hx hi hs => ?_) (fun r s hs => ?_) n 0 [] (by omega) (by omega) (by simp)).trans ?_
  · injection hs with hs
    subst hs
    split <;> first | (simp; omega) | omega
  · have a1 : app 40 s [x] = some (s ++ [x]) := app_lt (by simp; omega) (by decide)
    simp only [lt_dec hi, cond_true, idx_nat, hx, Option.bind_some, jn, row_Of_j2, a1, wrap_succ (show i < 4611686018427387904 by omega), ibeq]
    cases decide (x.key.table = t) <;> rfl
  · simp only [ge_dec (Nat.lt_irrefl _), cond_false]
  · rw [List.drop_zero, runL_filter]
    rfl
theorem row_eqb (x : Row) : Row.eqb x x = true := by simp [Row.eqb]
def sameL {α : Type} (e : α → α → Bool) : List α → List α → Bool
  | [], [] => true
  | x :: a, y :: b => e x y && sameL e a b
  | _, _ => false
theorem sameL_len {α : Type} {e : α → α → Bool} : ∀ {a b : List α}, a.length ≠ b.length → sameL e a b = false
  | [], [], h => absurd rfl h
  | [], _ :: _, _ => rfl
  | _ :: _, [], _ => rfl
  | x :: a, y :: b, h => by
    simp only [sameL]
    rw [sameL_len (by simpa using h), Bool.and_false]
theorem sameL_refl {α : Type} {e : α → α → Bool} (he : ∀ x, e x x = true) : ∀ (a : List α), sameL e a a = true
  | [] => rfl
  | x :: a => by simp [sameL, he, sameL_refl he a]
def atE {α : Type} (e : α → α → Bool) (b : List α) (j : Nat) (x : α) : Bool := match b[j]? with
  | some y => e x y
  | none => true
theorem sameL_from {α : Type} {e : α → α → Bool} (b : List α) : ∀ (t : List α) (i : Nat), t.length + i = b.length → allFrom (atE e b) i t = sameL e t (b.drop i)
  | [], i, h => by
    rw [List.drop_eq_nil_of_le (by simp at h; omega)]; rfl
  | x :: t, i, h => by
    have hi : i < b.length := by simp at h; omega
    rw [drop_cons hi]
    simp only [allFrom, sameL, atE, get_some hi]
    rw [sameL_from b t (i + 1) (by simp at h; omega)]
def rowsSame (a b : List Row) : Bool := sameL Row.eqb a b
theorem same_eq (n : Nat) (hn : 1003 ≤ n) (a b : List Row) (ha : a.length ≤ 1000) : row_Same n a b = some (rowsSame a b) := by
  unfold row_Same slices_Equal_Row rowsSame
  rw [ineN]
  by_cases h : a.length = b.length
  · rw [decide_eq_true h]
    have h1 : slices_Equal_Row_l1 n n (a, b, (a.length : Int), ((0 : Nat) : Int), ()) = some (sameL Row.eqb a b) := by
      unfold slices_Equal_Row_l1
      refine (run_loop a (fun (i : Nat) (_ : Unit) => (a, b, (a.length : Int), (i : Int), ())) (fun i x _ => if atE Row.eqb b i x then .inr () else .inl (some false)) (fun _ => some true) (fun r i q x hx hi => ?_) (fun r q => ?_) n 0 () (by omega) (by omega)).trans ?_
      · have hb := get_some (show i < b.length by omega)
        simp only [lt_dec hi, cond_true, idx_nat, hx, hb, Option.bind_some, wrap_succ (show i < 4611686018427387904 by omega), atE]
        cases Row.eqb x b[i] <;> rfl
      · simp only [ge_dec (Nat.lt_irrefl _), cond_false]
      · rw [List.drop_zero, runL_allFrom, sameL_from b a 0 (by omega), List.drop_zero]
        cases sameL Row.eqb a b <;> rfl
    have h1' : slices_Equal_Row_l1 n n (a, b, (a.length : Int), 0, ()) = some (sameL Row.eqb a b) := h1
    simp only [Bool.not_true, cond_false, h1', Option.bind_some]
  · rw [decide_eq_false h, sameL_len h]; rfl
theorem rowsSame_refl (a : List Row) : rowsSame a a = true := sameL_refl row_eqb a
def i64 (x : Int) : Prop := -9223372036854775808 ≤ x ∧ x ≤ 9223372036854775807
def plusP (a b : Int) : Int × Bool := if -9223372036854775808 ≤ a + b ∧ a + b ≤ 9223372036854775807 then (a + b, true) else (0, false)
theorem plus_eq (n : Nat) {a b : Int} (ha : i64 a) (hb : i64 b) : row_Plus n a b = some (plusP a b) := by
  obtain ⟨a1, a2⟩ := ha
  obtain ⟨b1, b2⟩ := hb
  unfold row_Plus plusP
  simp only [jn, ibne]
  by_cases hz : b = 0
  · subst hz
    rw [if_pos (by omega), Int.add_zero, wrap_in (by omega), decide_eq_false (by omega : ¬ a > a)]
    rfl
  · rw [decide_eq_false hz]
    by_cases ho : -9223372036854775808 ≤ a + b ∧ a + b ≤ 9223372036854775807
    · rw [if_pos ho, wrap_in ho]
      by_cases hp : b > 0
      · rw [decide_eq_true hp, decide_eq_true (by omega : a + b > a)]; rfl
      · rw [decide_eq_false hp, decide_eq_false (by omega : ¬ a + b > a)]; rfl
    · rw [if_neg ho]
      by_cases hp : b > 0
      · rw [decide_eq_true hp, decide_eq_false (by rw [IntKind.wrap_i64]; omega : ¬ IntKind.wrap .i64 (a + b) > a)]; rfl
      · rw [decide_eq_false hp, decide_eq_true (by rw [IntKind.wrap_i64]; omega : IntKind.wrap .i64 (a + b) > a)]; rfl
theorem clone_ok (n : Nat) (l : List Row) (h : l.length ≤ 1000) : slices_Clone_Row n l = some l := clone_eq (by omega) (by decide)

/-! ### Put -/
theorem good_sub {s : Schema} {l m : List Row} (h : good s l) (hs : m.Sublist l) : good s m := ⟨fun r hr => h.1 r (hs.subset hr), h.2.sublist hs⟩
theorem good_less {s : Schema} {l : List Row} {k : Key} {A B : List Row} {y : Option Row} (h : At l k A y B) (hg : good s l) : good s (A ++ B) := by
  refine good_sub hg ?_
  rw [h.eq]
  exact List.Sublist.append (List.Sublist.refl _) (List.sublist_append_right _ _)
theorem good_more {s : Schema} {l : List Row} {r : Row} {A B : List Row} {y : Option Row} (h : At l r.key A y B) (hg : good s l) (hr : rowErr s r = 0) : good s (A ++ r :: B) := by
  have h1 := good_less h hg
  refine ⟨fun x hx => ?_, ?_⟩
  · rcases List.mem_append.1 hx with hx | hx
    · exact h1.1 x (List.mem_append_left _ hx)
    · rcases List.mem_cons.1 hx with rfl | hx
      · exact hr
      · exact h1.1 x (List.mem_append_right _ hx)
  · have h2 := List.pairwise_append.1 h1.2
    rw [List.pairwise_append]
    refine ⟨h2.1, List.pairwise_cons.2 ⟨h.hi, h2.2.1⟩, fun a ha b hb => ?_⟩
    rcases List.mem_cons.1 hb with rfl | hb
    · exact h.lo a ha
    · exact h2.2.2 a ha b hb
def putErr (s : Schema) (l : List Row) (r : Row) (y : Option Row) : Int := if rowErr s r ≠ 0 then rowErr s r else if y = none ∧ l.length = 60 then 6 else 0
theorem put_eq (n : Nat) (hn : 1003 ≤ n) {s : Schema} (hs : s.tables.length ≤ 1000) (hr : right s = true) {l : List Row} (hg : listOk s l = true) {r : Row} {A B : List Row} {y : Option Row} (h : At l r.key A y B) :
    row_Put n s l r = some (if putErr s l r y = 0 then (0, A ++ r :: B) else (putErr s l r y, [])) := by
  have hl := (listOk_iff.1 hg).2
  unfold row_Put
  rw [checkList_eq n hn s hs l (by omega), checkRow_eq n hn s hs r, hr, hg]
  simp only [if_true, Option.bind_some, show ((0 : Int) != 0) = false from by decide, cond_false, ibne]
  unfold putErr
  by_cases he : rowErr s r = 0
  · have hlen := at_len h
    have heq := h.eq
    simp only [he, decide_true, Bool.not_true, cond_false, ne_eq, not_true_eq_false, if_false, place_eq n hn (show l.length ≤ 1000 by omega) h, clone_ok n l (by omega), Option.bind_some, jn, row_Put_j1]
    cases y with
    | some r0 =>
      simp only [Option.isSome_some, cond_true, at_idx h, Option.bind_some, reduceCtorEq, false_and, if_false, if_true]
      have : put l (A.length : Int) r = some (A ++ r :: B) := by
        rw [put_ok (by simp at hlen; omega), heq]
        simp
      rw [this]; rfl
    | none =>
      simp only [Option.isSome_none, cond_false, true_and]
      rw [show ((l.length : Int) == 60) = decide (l.length = 60) from ieqN (m := 60)]
      by_cases h60 : l.length = 60
      · rw [decide_eq_true h60, if_pos h60]; rfl
      · rw [decide_eq_false h60, if_neg h60]
        have : slices_Insert_Row n (A.length : Int) l [r] = some (A ++ r :: B) := by
          show insL 40 l _ [r] = _
          unfold insL
          rw [if_pos ⟨by omega, by simp at hlen; omega⟩, room_ok (by simp; omega), heq]
          simp
        simp only [cond_false, this, Option.bind_some]
        rfl
  · rw [decide_eq_false he, if_pos he, if_neg he]; rfl
end Go.Proofs.YtlfjoaipbpendaaGreatDoor

/- Layer 15: sizes, sameness; the plain law IdealSame. -/
namespace Go.Proofs.YtlfjoaipbpendaaGreatDoor
open Go.Bur
set_option linter.unusedSimpArgs false
set_option linter.unusedVariables false
set_option maxRecDepth 100000

def bigRow (r : Row) : Bool := decide ((r.note.size : Int) > 100)
def ansSame (a b : Answer) : Bool := (decide (a.err = b.err) && decide (a.n = b.n)) && rowsSame a.rows b.rows
theorem ansSame_refl (a : Answer) : ansSame a a = true := by
  unfold ansSame
  rw [rowsSame_refl]
  simp
theorem sameAns_eq (n : Nat) (hn : 1003 ≤ n) (a b : Answer) (ha : a.rows.length ≤ 1000) : ideal_SameAnswer n a b = some (ansSame a b) := by
  unfold ideal_SameAnswer ansSame
  simp only [jn, ibeq, same_eq n hn _ _ ha, Option.bind_some]
  cases decide (a.err = b.err) <;> cases decide (a.n = b.n) <;> rfl
end Go.Proofs.YtlfjoaipbpendaaGreatDoor

/- Layer 15: what requests come to. -/
namespace Go.Proofs.YtlfjoaipbpendaaGreatDoor
open Go.Bur
set_option linter.unusedSimpArgs false
set_option linter.unusedVariables false
set_option maxRecDepth 100000

/-! ### Requests -/
def key0 : Key := ⟨0, 0⟩
def req0 : Request := ⟨0, key0, key0, 0, ByteArray.empty, 0⟩
def bareP (q : Request) : Request :=
  if q.kind = 1 ∨ q.kind = 4 then ⟨0, key0, q.to, q.val, q.note, q.n⟩
  else if q.kind = 2 then ⟨0, ⟨0, q.key.id⟩, q.to, q.val, q.note, q.n⟩
  else if q.kind = 3 then ⟨0, key0, q.to, 0, ByteArray.empty, q.n⟩
  else if q.kind = 5 then ⟨0, key0, q.to, q.val, ByteArray.empty, q.n⟩
  else if q.kind = 6 ∨ q.kind = 7 then ⟨0, key0, q.to, 0, q.note, q.n⟩
  else if q.kind = 8 then ⟨0, key0, key0, 0, q.note, q.n⟩
  else if q.kind = 10 then ⟨0, q.key, q.to, q.val, q.note, 0⟩
  else ⟨0, q.key, q.to, q.val, q.note, q.n⟩
theorem bare_eq (n : Nat) (q : Request) : ideal_bare n q = some (bareP q) := by
  unfold ideal_bare ideal_bare_j1 ideal_bare_j2 ideal_bare_j3 ideal_bare_j4 ideal_bare_j5 ideal_bare_j6 ideal_bare_j7 ideal_bare_j8 ideal_bare_j9 bareP
  simp only [jn, ibeq]
  have hE : ByteArray.mk #[] = ByteArray.empty := rfl
  rw [hE]
  by_cases h1 : q.kind = 1
  · simp [h1, key0]
  · by_cases h4 : q.kind = 4
    · simp [h4, key0]
    · by_cases h2 : q.kind = 2
      · simp [h2]
      · by_cases h3 : q.kind = 3
        · simp [h3, key0]
        · by_cases h5 : q.kind = 5
          · simp [h5, key0]
          · by_cases h6 : q.kind = 6
            · simp [h6, key0]
            · by_cases h7 : q.kind = 7
              · simp [h7, key0]
              · by_cases h8 : q.kind = 8
                · simp [h8, key0]
                · by_cases h10 : q.kind = 10
                  · simp [h10]
                  · simp [h1, h2, h3, h4, h5, h6, h7, h8, h10]
def moreOk (q : Request) : Bool := if q.kind = 8 then !Key.eqb q.key q.to && decide (q.val ≥ 0) else if q.kind = 10 then decide (q.n ≥ 1) else true
def reqOk (s : Schema) (q : Request) : Bool := (((((decide (q.kind ≥ 1) && decide (q.kind ≤ 12)) && Request.eqb (bareP q) req0) && decide ((q.note.size : Int) ≤ 8)) && inTab s q.key) && inTab s q.to) && moreOk q
theorem keyErr_beq (s : Schema) (k : Key) : (keyErr s k == 0) = inTab s k := by
  unfold keyErr
  cases inTab s k <;> rfl
theorem checkReq_eq (n : Nat) (hn : 1003 ≤ n) (s : Schema) (hs : s.tables.length ≤ 1000) (q : Request) : ideal_CheckRequest n s q = some (if right s then (if reqOk s q then 0 else 250) else 150) := by
  unfold ideal_CheckRequest reqOk moreOk
  rw [check_eq n hn s hs]
  cases hr : right s with
  | false => rfl
  | true =>
    simp only [if_true, Option.bind_some, show ((0 : Int) != 0) = false from by decide, cond_false, jn, bare_eq, checkKey_eq n hn s hs, hr, keyErr_beq, ideal_CheckRequest_j1, ideal_CheckRequest_j2, ibeq q.kind, show Request.mk 0 (Key.mk 0 0) (Key.mk 0 0) 0 ByteArray.empty 0 = req0 from rfl]
    cases decide (q.kind ≥ 1) <;> cases decide (q.kind ≤ 12) <;> cases Request.eqb (bareP q) req0 <;> cases decide ((q.note.size : Int) ≤ 8) <;> cases inTab s q.key <;> cases inTab s q.to <;> (by_cases h8 : q.kind = 8 <;> by_cases h10 : q.kind = 10 <;> cases Key.eqb q.key q.to <;> cases decide (q.val ≥ 0) <;> cases decide (q.n ≥ 1) <;> simp [h8, h10])
/-! ### Rows by their keys -/
def getK (l : List Row) (k : Key) : Option Row := l.find? fun r => decide (r.key = k)
def putK (l : List Row) (r : Row) : List Row := insP r (l.filter fun x => !Key.eqb x.key r.key)
def delK (l : List Row) (k : Key) : List Row := l.filter fun x => !Key.eqb x.key k
abbrev Srt (l : List Row) : Prop := l.Pairwise (fun a b => cmpK a.key b.key < 0)
theorem getK_at {l : List Row} {k : Key} {A B : List Row} {y : Option Row} (h : At l k A y B) : getK l k = y := by
  unfold getK
  have hA : ∀ x ∈ A, decide (x.key = k) = false := fun x hx => decide_eq_false fun e => by have := h.lo x hx; rw [cmpK_zero.2 e] at this; omega
  have hB : ∀ x ∈ B, decide (x.key = k) = false := fun x hx => decide_eq_false fun e => by have := h.hi x hx; rw [e, cmpK_zero.2 rfl] at this; omega
  have nA : A.find? (fun r => decide (r.key = k)) = none := List.find?_eq_none.2 fun x hx => by simpa using hA x hx
  have nB : B.find? (fun r => decide (r.key = k)) = none := List.find?_eq_none.2 fun x hx => by simpa using hB x hx
  rw [h.eq, List.find?_append, nA, List.find?_append, nB]
  cases y with
  | none => rfl
  | some r => simp [h.mid r rfl]
theorem delK_at {l : List Row} {k : Key} {A B : List Row} {y : Option Row} (h : At l k A y B) : delK l k = A ++ B := filt_at h
theorem putK_at {l : List Row} {r : Row} {A B : List Row} {y : Option Row} (h : At l r.key A y B) : putK l r = A ++ r :: B := by
  unfold putK
  rw [filt_at h, insP_at r A B h.lo h.hi]
/-- Where a key is. -/
theorem at_cases {l : List Row} (hs : Srt l) (k : Key) : (at_ l k = none ∧ getK l k = none ∧ ∃ A B, At l k A none B) ∨ ∃ A r B, At l k A (some r) B ∧ at_ l k = some A.length ∧ getK l k = some r ∧ r.key = k ∧ r ∈ l ∧ idx l (A.length : Int) = some r ∧ A.length < l.length := by
  obtain ⟨A, y, B, h⟩ := at_ex k hs
  have h1 := at_at h
  have h2 := getK_at h
  cases y with
  | none => exact .inl ⟨h1, h2, A, B, h⟩
  | some r =>
    have := at_len h
    exact .inr ⟨A, r, B, h, h1, h2, h.mid r rfl, by rw [h.eq]; simp, at_idx h, by simp at this; omega⟩
theorem set_at {l : List Row} {r x : Row} {A B : List Row} (h : At l r.key A (some x) B) : l.set A.length r = putK l r := by
  rw [putK_at h, h.eq]
  simp
theorem put_at {l : List Row} {r x : Row} {A B : List Row} (h : At l r.key A (some x) B) : put l (A.length : Int) r = some (putK l r) := by
  have := at_len h
  rw [put_ok (by simp at this; omega), set_at h]

/-! ### What a request comes to -/
def ansE (e : Int) : Answer := ⟨e, [], 0⟩
def fitsP (s : Schema) (k : Key) (v : Int) : Bool := match idx s.tables k.table with
  | some b => fitsB b v
  | none => false
def sumB (s : Schema) (r : Row) (v : Int) : Bool := (plusP r.val v).2 && fitsP s r.key (plusP r.val v).1
def onRow (l : List Row) (k : Key) (f : Row → Answer × List Row) : Answer × List Row := match getK l k with
  | none => (ansE 4, l)
  | some r => f r
def withV (r : Row) (v : Int) : Row := ⟨r.key, v, r.note⟩
def doP (s : Schema) (l : List Row) (q : Request) : Answer × List Row :=
  if q.kind = 1 then onRow l q.key fun r => (⟨0, [r], 0⟩, l)
  else if q.kind = 2 then (⟨0, ofP q.key.table l, 0⟩, l)
  else if q.kind = 3 then (if fitsP s q.key q.val then (match getK l q.key with | some _ => (ansE 5, l) | none => if l.length = 60 then (ansE 6, l) else (ansE 0, putK l ⟨q.key, q.val, q.note⟩)) else (ansE 152, l))
  else if q.kind = 4 then onRow l q.key fun _ => (ansE 0, delK l q.key)
  else if q.kind = 5 then onRow l q.key fun r => (ansE 0, putK l ⟨r.key, r.val, q.note⟩)
  else if q.kind = 6 then (if fitsP s q.key q.val then onRow l q.key fun r => (ansE 0, putK l (withV r q.val)) else (ansE 152, l))
  else if q.kind = 7 then onRow l q.key fun r => if sumB s r q.val then (ansE 0, putK l (withV r (plusP r.val q.val).1)) else (ansE 152, l)
  else onRow l q.key fun r => onRow l q.to fun t => if sumB s r (-q.val) && sumB s t q.val then (ansE 0, putK (putK l (withV t (plusP t.val q.val).1)) (withV r (plusP r.val (-q.val)).1)) else (ansE 152, l)
section
variable (n : Nat) (hn : 1003 ≤ n) (T : List Bounds) (k a b c d : Int) (v : Int) (note : ByteArray) (m : Int) (l : List Row)
theorem t_fits (kk : Key) (x : Int) (h : inTab ⟨T⟩ kk = true) : ideal_turn_fits n kk x T k a b c d v note m l = some (fitsP ⟨T⟩ kk x, T, k, a, b, c, d, v, note, m, l) := by
  obtain ⟨y, hy⟩ := idx_in (inTab_iff.1 h)
  have hy : idx T kk.table = some y := hy
  unfold ideal_turn_fits fitsP fitsB
  simp only [hy, Option.bind_some, jn]
  cases decide (x ≥ y.min) <;> rfl
theorem t_sum (i : Int) (x : Int) (r : Row) (hi : idx l i = some r) (h : inTab ⟨T⟩ r.key = true) (h1 : i64 r.val) (h2 : i64 x) : ideal_turn_sum n i x T k a b c d v note m l = some ((plusP r.val x).1, sumB ⟨T⟩ r x, T, k, a, b, c, d, v, note, m, l) := by
  unfold ideal_turn_sum sumB
  simp only [hi, Option.bind_some, plus_eq n h1 h2, t_fits n T k a b c d v note m l r.key _ h]
  cases (plusP r.val x).2 <;> rfl
include hn in
theorem t_read (hl : l.length ≤ 1000) (hs : Srt l) : ideal_turn_read n T k a b c d v note m l = some ((onRow l ⟨a, b⟩ fun r => (⟨0, [r], 0⟩, l)).1, T, k, a, b, c, d, v, note, m, l) := by
  unfold ideal_turn_read ideal_turn_found_f109 ideal_turn_read_1 onRow
  rw [find_eq n hn l hl]
  rcases at_cases hs ⟨a, b⟩ with ⟨h1, h2, _⟩ | ⟨A, r, B, h, h1, h2, h3, h4, h5, h6⟩
  · rw [h1, h2]; rfl
  · rw [h1, h2]
    simp only [Option.bind_some, Bool.not_true, cond_false, h5]
include hn in
theorem t_scan (hl : l.length ≤ 1000) : ideal_turn_scan n T k a b c d v note m l = some (⟨0, ofP a l, 0⟩, T, k, a, b, c, d, v, note, m, l) := by
  unfold ideal_turn_scan
  rw [of_eq n hn l hl]; rfl
include hn in
theorem t_insert (hr : right ⟨T⟩ = true) (hg : listOk ⟨T⟩ l = true) (h : inTab ⟨T⟩ ⟨a, b⟩ = true) (hnote : (note.size : Int) ≤ 8) (P : Answer × List Row)
    (hP : P = if fitsP ⟨T⟩ ⟨a, b⟩ v then (match getK l ⟨a, b⟩ with | some _ => (ansE 5, l) | none => if l.length = 60 then (ansE 6, l) else (ansE 0, putK l ⟨⟨a, b⟩, v, note⟩)) else (ansE 152, l)) :
    ideal_turn_insert n T k a b c d v note m l = some (P.1, T, k, a, b, c, d, v, note, m, P.2) := by
  subst hP
  have hs : (Schema.mk T).tables.length ≤ 1000 := by have := schTab hr; omega
  obtain ⟨hg1, hl⟩ := listOk_iff.1 hg
  obtain ⟨y, hy⟩ := idx_in (inTab_iff.1 h)
  unfold ideal_turn_insert
  rw [t_fits n T k a b c d v note m l ⟨a, b⟩ v h]
  cases hf : fitsP ⟨T⟩ ⟨a, b⟩ v with
  | false => rfl
  | true =>
    simp only [Option.bind_some, Bool.not_true, cond_false, if_true, find_eq n hn l (by omega), jn, ideal_turn_insert_j1]
    rcases at_cases hg1.2 ⟨a, b⟩ with ⟨h1, h2, A, B, h3⟩ | ⟨A, r, B, h3, h1, h2, h4, h5, h6, h7⟩
    · have he : rowErr ⟨T⟩ ⟨⟨a, b⟩, v, note⟩ = 0 := by
        unfold rowErr
        unfold fitsP at hf
        rw [hy] at hf
        simp only [h, if_true, hnote, hy, hf]
      rw [h1, h2, put_eq n hn hs hr hg (r := ⟨⟨a, b⟩, v, note⟩) h3]
      unfold putErr
      rw [he]
      by_cases h60 : l.length = 60
      · simp [h60, ansE]
      · simp only [cond_false, Option.bind_some, ne_eq, not_true_eq_false, if_false, h60, and_false, if_true, putK_at (r := ⟨⟨a, b⟩, v, note⟩) h3]
        rfl
    · rw [h1, h2]; rfl
include hn in
theorem t_remove (hl : l.length ≤ 1000) (hs : Srt l) (P : Answer × List Row) (hP : P = onRow l ⟨a, b⟩ fun _ => (ansE 0, delK l ⟨a, b⟩)) : ideal_turn_remove n T k a b c d v note m l = some (P.1, T, k, a, b, c, d, v, note, m, P.2) := by
  subst hP
  unfold ideal_turn_remove ideal_turn_found_f113 ideal_turn_remove_1 onRow
  rw [find_eq n hn l hl]
  rcases at_cases hs ⟨a, b⟩ with ⟨h1, h2, _⟩ | ⟨A, r, B, h, h1, h2, h3, h4, h5, h6⟩
  · rw [h1, h2]; rfl
  · have hd : slices_Delete_Row n (A.length : Int) ((A.length + 1 : Nat) : Int) l = some (delK l ⟨a, b⟩) := by
      show delL l _ _ = _
      unfold delL
      rw [if_pos ⟨by omega, by omega, by omega⟩, delK_at h]
      conv => lhs; rw [h.eq]
      simp
    rw [h1, h2]
    simp only [Option.bind_some, Bool.not_true, cond_false, wrap_succ (show A.length < 4611686018427387904 by omega), hd]
    rfl
include hn in
theorem t_note (hl : l.length ≤ 1000) (hs : Srt l) (P : Answer × List Row) (hP : P = onRow l ⟨a, b⟩ fun r => (ansE 0, putK l ⟨r.key, r.val, note⟩)) : ideal_turn_note n T k a b c d v note m l = some (P.1, T, k, a, b, c, d, v, note, m, P.2) := by
  subst hP
  unfold ideal_turn_note ideal_turn_found_f115 ideal_turn_note_1 onRow
  rw [find_eq n hn l hl]
  rcases at_cases hs ⟨a, b⟩ with ⟨h1, h2, _⟩ | ⟨A, r, B, h, h1, h2, h3, h4, h5, h6⟩
  · rw [h1, h2]; rfl
  · have hp := put_at (r := ⟨r.key, r.val, note⟩) (show At l r.key A (some r) B by rw [h3]; exact h)
    rw [h1, h2]
    simp only [Option.bind_some, Bool.not_true, cond_false, h5, hp]
    rfl
include hn in
theorem t_set (hl : l.length ≤ 1000) (hs : Srt l) (h : inTab ⟨T⟩ ⟨a, b⟩ = true) (P : Answer × List Row) (hP : P = if fitsP ⟨T⟩ ⟨a, b⟩ v then onRow l ⟨a, b⟩ fun r => (ansE 0, putK l (withV r v)) else (ansE 152, l)) : ideal_turn_set n T k a b c d v note m l = some (P.1, T, k, a, b, c, d, v, note, m, P.2) := by
  subst hP
  unfold ideal_turn_set
  rw [t_fits n T k a b c d v note m l ⟨a, b⟩ v h]
  cases hf : fitsP ⟨T⟩ ⟨a, b⟩ v with
  | false => rfl
  | true =>
    simp only [Option.bind_some, Bool.not_true, cond_false, if_true]
    unfold ideal_turn_found_f116 ideal_turn_set_1 onRow
    rw [find_eq n hn l hl]
    rcases at_cases hs ⟨a, b⟩ with ⟨h1, h2, _⟩ | ⟨A, r, B, h, h1, h2, h3, h4, h5, h6⟩
    · rw [h1, h2]; rfl
    · have hp := put_at (r := withV r v) (show At l r.key A (some r) B by rw [h3]; exact h)
      unfold withV at hp ⊢
      rw [h1, h2]
      simp only [Option.bind_some, Bool.not_true, cond_false, h5, hp]
      rfl
include hn in
theorem t_add (hl : l.length ≤ 1000) (hg : good ⟨T⟩ l) (hv : i64 v) (hi : ∀ r ∈ l, i64 r.val) (P : Answer × List Row) (hP : P = onRow l ⟨a, b⟩ fun r => if sumB ⟨T⟩ r v then (ansE 0, putK l (withV r (plusP r.val v).1)) else (ansE 152, l)) : ideal_turn_add n T k a b c d v note m l = some (P.1, T, k, a, b, c, d, v, note, m, P.2) := by
  subst hP
  unfold ideal_turn_add ideal_turn_found_f117 ideal_turn_add_1 onRow
  rw [find_eq n hn l hl]
  rcases at_cases hg.2 ⟨a, b⟩ with ⟨h1, h2, _⟩ | ⟨A, r, B, h, h1, h2, h3, h4, h5, h6⟩
  · rw [h1, h2]; rfl
  · have hp := put_at (r := withV r (plusP r.val v).1) (show At l r.key A (some r) B by rw [h3]; exact h)
    unfold withV at hp ⊢
    rw [h1, h2]
    simp only [Option.bind_some, Bool.not_true, cond_false, t_sum n T k a b c d v note m l _ v r h5 (rowErr_key (hg.1 r h4)) (hi r h4) hv]
    cases hb : sumB ⟨T⟩ r v with
    | false => rfl
    | true => simp only [Bool.not_true, cond_false, h5, hp, Option.bind_some, if_true]; rfl
theorem at_put {x : Row} {A B : List Row} (kk : Key) (hs : Srt l) (h : At l kk A (some x) B) (j : Nat) (t y : Row) (hj : l[j]? = some t) (hy : y.key = t.key) (hne : t.key ≠ kk) : ∃ A' B', At (l.set j y) kk A' (some x) B' ∧ A'.length = A.length := by
  have hjl : j < l.length := (List.getElem?_eq_some_iff.1 hj).1
  have hlen := at_len h
  have he := h.eq
  by_cases h1 : j < A.length
  · refine ⟨A.set j y, B, ⟨?_, fun r hr => ?_, h.mid, h.hi⟩, by simp⟩
    · rw [he, List.set_append_left _ _ h1]
    · rcases List.mem_or_eq_of_mem_set hr with hr | rfl
      · exact h.lo r hr
      · rw [hy]
        have hm : A[j]? = some t := by rw [he, List.getElem?_append_left h1] at hj; exact hj
        exact h.lo t (List.mem_of_getElem? hm)
  · have h2 : j ≠ A.length := fun e => by
      rw [he, e, List.getElem?_append_right (Nat.le_refl _)] at hj
      simp at hj
      subst hj
      exact hne (h.mid _ rfl)
    obtain ⟨d, rfl⟩ : ∃ d, j = A.length + (d + 1) := ⟨j - A.length - 1, by omega⟩
    refine ⟨A, B.set d y, ⟨?_, h.lo, h.mid, fun r hr => ?_⟩, rfl⟩
    · rw [he, List.set_append_right _ _ (by omega)]
      simp
    · have hm : B[d]? = some t := by
        rw [he, List.getElem?_append_right (by omega)] at hj
        simp at hj
        exact hj
      rcases List.mem_or_eq_of_mem_set hr with hr | rfl
      · exact h.hi r hr
      · rw [hy]
        exact h.hi t (List.mem_of_getElem? hm)
include hn in
theorem t_move (hl : l.length ≤ 1000) (hg : good ⟨T⟩ l) (hv : i64 v) (hv0 : 0 ≤ v) (hi : ∀ r ∈ l, i64 r.val) (hne : (Key.mk a b) ≠ Key.mk c d) (P : Answer × List Row)
    (hP : P = onRow l ⟨a, b⟩ fun r => onRow l ⟨c, d⟩ fun t => if sumB ⟨T⟩ r (-v) && sumB ⟨T⟩ t v then (ansE 0, putK (putK l (withV t (plusP t.val v).1)) (withV r (plusP r.val (-v)).1)) else (ansE 152, l)) : ideal_turn_move n T k a b c d v note m l = some (P.1, T, k, a, b, c, d, v, note, m, P.2) := by
  subst hP
  have hv' : i64 (-v) := ⟨by have := hv.2; omega, by omega⟩
  have hw : IntKind.wrap .i64 (0 - v) = -v := by rw [wrap_in (by have := hv.2; omega)]; omega
  unfold ideal_turn_move ideal_turn_found_f119 ideal_turn_move_1 ideal_turn_found_f120 ideal_turn_move_1_1 onRow
  rw [find_eq n hn l hl]
  rcases at_cases hg.2 ⟨a, b⟩ with ⟨h1, h2, _⟩ | ⟨A, r, B, h, h1, h2, h3, h4, h5, h6⟩
  · rw [h1, h2]; rfl
  · rw [h1, h2]
    simp only [Option.bind_some, Bool.not_true, cond_false, find_eq n hn l hl]
    rcases at_cases hg.2 ⟨c, d⟩ with ⟨g1, g2, _⟩ | ⟨A2, t, B2, g, g1, g2, g3, g4, g5, g6⟩
    · rw [g1, g2]; rfl
    · rw [g1, g2]
      simp only [Option.bind_some, Bool.not_true, cond_false, hw, t_sum n T k a b c d v note m l _ (-v) r h5 (rowErr_key (hg.1 r h4)) (hi r h4) hv', t_sum n T k a b c d v note m l _ v t g5 (rowErr_key (hg.1 t g4)) (hi t g4) hv, jn]
      cases hb : sumB ⟨T⟩ r (-v) with
      | false => rfl
      | true =>
        cases hb2 : sumB ⟨T⟩ t v with
        | false => rfl
        | true =>
          have hrt : A.length ≠ A2.length := fun e => by
            rw [e, g5] at h5
            injection h5 with h5
            rw [← h5, g3] at h3
            exact hne h3.symm
          have e5 : l[A.length]? = some r := by rw [← idx_nat]; exact h5
          have f5 : l[A2.length]? = some t := by rw [← idx_nat]; exact g5
          have p1 : put l (A.length : Int) (Row.mk r.key (plusP r.val (-v)).1 r.note) = some (l.set A.length (withV r (plusP r.val (-v)).1)) := put_ok h6
          have q1 : idx (l.set A.length (withV r (plusP r.val (-v)).1)) (A2.length : Int) = some t := by
            rw [idx_nat, List.getElem?_set_ne hrt]; exact f5
          have p2 : put (l.set A.length (withV r (plusP r.val (-v)).1)) (A2.length : Int) (Row.mk t.key (plusP t.val v).1 t.note) = some ((l.set A.length (withV r (plusP r.val (-v)).1)).set A2.length (withV t (plusP t.val v).1)) := put_ok (by simpa using g6)
          have hcomm : (l.set A.length (withV r (plusP r.val (-v)).1)).set A2.length (withV t (plusP t.val v).1) = putK (putK l (withV t (plusP t.val v).1)) (withV r (plusP r.val (-v)).1) := by
            rw [List.set_comm _ _ hrt]
            have s1 := set_at (r := withV t (plusP t.val v).1) (show At l t.key A2 (some t) B2 by rw [g3]; exact g)
            obtain ⟨A', B', k1, k2⟩ := at_put l ⟨a, b⟩ hg.2 h A2.length t (withV t (plusP t.val v).1) f5 rfl (by rw [g3]; exact fun e => hne e.symm)
            have s2 := set_at (r := withV r (plusP r.val (-v)).1) (show At (l.set A2.length (withV t (plusP t.val v).1)) r.key A' (some r) B' by rw [h3]; exact k1)
            rw [← s1, ← k2, s2]
          simp only [Bool.not_true, cond_false, Bool.and_self, if_true, h5, p1, q1, p2, Option.bind_some, hcomm]
          rfl
end
/-- What a request comes to that may be. -/
structure Fit (s : Schema) (l : List Row) (q : Request) : Prop where
  right : right s = true
  list : listOk s l = true
  req : reqOk s q = true
  kind : q.kind ≤ 8
  val : i64 q.val
  rows : ∀ r ∈ l, i64 r.val
theorem reqOk_facts {s : Schema} {q : Request} (h : reqOk s q = true) : 1 ≤ q.kind ∧ q.kind ≤ 12 ∧ inTab s q.key = true ∧ inTab s q.to = true ∧ (q.note.size : Int) ≤ 8 ∧ (q.kind = 8 → q.key ≠ q.to ∧ 0 ≤ q.val) ∧ (q.kind = 10 → 1 ≤ q.n) := by
  unfold reqOk at h
  simp only [Bool.and_eq_true, decide_eq_true_iff] at h
  obtain ⟨⟨⟨⟨⟨⟨h1, h2⟩, h3⟩, h4⟩, h5⟩, h6⟩, h7⟩ := h
  unfold moreOk at h7
  refine ⟨h1, h2, h5, h6, h4, fun e => ?_, fun e => ?_⟩
  · rw [if_pos e, key_eqb] at h7
    simpa using h7
  · rw [if_neg (by rw [e]; decide), if_pos e] at h7
    simpa using h7
theorem does_eq (n : Nat) (hn : 1003 ≤ n) {s : Schema} {l : List Row} {q : Request} (h : Fit s l q) : ideal_does n s l q = some (doP s l q) := by
  obtain ⟨hg, hl⟩ := listOk_iff.1 h.list
  obtain ⟨k1, k2, k3, k4, k5, k6, _⟩ := reqOk_facts h.req
  have hl' : l.length ≤ 1000 := by omega
  have hkk := h.kind
  unfold ideal_does doP
  rw [clone_ok n l hl']
  simp only [Option.bind_some]
  obtain ⟨T⟩ := s
  obtain ⟨kind, ⟨a, b⟩, ⟨c, d⟩, v, note, m⟩ := q
  simp only at k1 k2 k3 k4 k5 k6 hkk ⊢
  by_cases e1 : kind = 1
  · rw [decide_eq_true e1, if_pos e1, cond_true, t_read n hn T kind a b c d v note m l hl' hg.2]
    unfold onRow
    cases getK l ⟨a, b⟩ <;> rfl
  rw [decide_eq_false e1, if_neg e1, cond_false]
  by_cases e2 : kind = 2
  · rw [decide_eq_true e2, if_pos e2, cond_true, t_scan n hn T kind a b c d v note m l hl']; rfl
  rw [decide_eq_false e2, if_neg e2, cond_false]
  by_cases e3 : kind = 3
  · rw [decide_eq_true e3, if_pos e3, cond_true, t_insert n hn T kind a b c d v note m l h.right h.list k3 k5 _ rfl]; rfl
  rw [decide_eq_false e3, if_neg e3, cond_false]
  by_cases e4 : kind = 4
  · rw [decide_eq_true e4, if_pos e4, cond_true, t_remove n hn T kind a b c d v note m l hl' hg.2 _ rfl]; rfl
  rw [decide_eq_false e4, if_neg e4, cond_false]
  by_cases e5 : kind = 5
  · rw [decide_eq_true e5, if_pos e5, cond_true, t_note n hn T kind a b c d v note m l hl' hg.2 _ rfl]; rfl
  rw [decide_eq_false e5, if_neg e5, cond_false]
  by_cases e6 : kind = 6
  · rw [decide_eq_true e6, if_pos e6, cond_true, t_set n hn T kind a b c d v note m l hl' hg.2 k3 _ rfl]; rfl
  rw [decide_eq_false e6, if_neg e6, cond_false]
  by_cases e7 : kind = 7
  · rw [decide_eq_true e7, if_pos e7, cond_true, t_add n hn T kind a b c d v note m l hl' hg h.val h.rows _ rfl]; rfl
  rw [decide_eq_false e7, if_neg e7, cond_false]
  obtain rfl : kind = 8 := by omega
  rw [decide_eq_true rfl, cond_true, t_move n hn T 8 a b c d v note m l hl' hg h.val (k6 rfl).2 h.rows (k6 rfl).1 _ rfl]; rfl
end Go.Proofs.YtlfjoaipbpendaaGreatDoor

/- Layer 15: the plain law IdealDoes. -/
namespace Go.Proofs.YtlfjoaipbpendaaGreatDoor
open Go.Bur
set_option linter.unusedSimpArgs false
set_option linter.unusedVariables false
set_option maxRecDepth 100000

theorem putK_len (l : List Row) (r : Row) : (putK l r).length ≤ l.length + 1 := by
  unfold putK
  rw [insP_len]
  exact Nat.add_le_add_right (List.length_filter_le _ _) 1
/-- What the program's Do answers. -/
def doAll (s : Schema) (l : List Row) (q : Request) : Answer × List Row :=
  if right s then (if listOk s l then (if reqOk s q && decide (q.kind ≤ 8) then doP s l q else (ansE 250, l)) else (ansE 151, l)) else (ansE 150, l)
theorem do_eq (n : Nat) (hn : 1003 ≤ n) {s : Schema} {l : List Row} {q : Request} (hs : s.tables.length ≤ 1000) (hl : l.length ≤ 1000) (hv : i64 q.val) (hi : ∀ r ∈ l, i64 r.val) : ideal_Do n s l q = some (doAll s l q) := by
  unfold ideal_Do ideal_Do_j1 ideal_Do_j2 doAll
  rw [checkList_eq n hn s hs l hl]
  cases hr : right s with
  | false => simp [jn, clone_ok n l hl, ansE]
  | true =>
    cases hg : listOk s l with
    | false => simp [jn, clone_ok n l hl, ansE]
    | true =>
      cases hq : reqOk s q with
      | false => simp [jn, clone_ok n l hl, ansE, checkReq_eq n hn s hs, hr, hq]
      | true =>
        by_cases hk : q.kind ≤ 8
        · have hk' : decide (q.kind > 8) = false := decide_eq_false (by omega)
          have hd := does_eq n hn (s := s) (l := l) (q := q) ⟨hr, hg, hq, hk, hv, hi⟩
          simp only [jn, if_true, Option.bind_some, show ((0 : Int) == 0) = true from by decide, cond_true, cond_false, checkReq_eq n hn s hs, hr, hq, hk', show ((0 : Int) != 0) = false from by decide, hd, decide_eq_true hk, Bool.and_self]
        · have hk' : decide (q.kind > 8) = true := decide_eq_true (by omega)
          simp [jn, clone_ok n l hl, ansE, checkReq_eq n hn s hs, hr, hq, hk', hk]
theorem ofP_len (t : Int) (l : List Row) : (ofP t l).length ≤ l.length := List.length_filter_le _ _
def LenOk (l : List Row) (y : Answer × List Row) : Prop := y.2.length ≤ l.length + 2 ∧ y.1.rows.length ≤ l.length + 1
theorem doP_len (s : Schema) (l : List Row) (q : Request) : LenOk l (doP s l q) := by
  have h0 : ∀ e, LenOk l (ansE e, l) := fun e => ⟨by simp, by simp [ansE]⟩
  have hp : ∀ r, LenOk l (ansE 0, putK l r) := fun r => ⟨by have := putK_len l r; show (putK l r).length ≤ _; omega, by simp [ansE]⟩
  have hp2 : ∀ r t, LenOk l (ansE 0, putK (putK l r) t) := fun r t => ⟨by have := putK_len l r; have := putK_len (putK l r) t; show (putK (putK l r) t).length ≤ _; omega, by simp [ansE]⟩
  have hon : ∀ k f, (∀ r, LenOk l (f r)) → LenOk l (onRow l k f) := fun k f hf => by
    unfold onRow
    cases getK l k with
    | none => exact h0 4
    | some r => exact hf r
  unfold doP
  split
  · exact hon _ _ fun r => ⟨by simp, by simp⟩
  split
  · exact ⟨by simp, by have := ofP_len q.key.table l; show (ofP q.key.table l).length ≤ _; omega⟩
  split
  · split
    · split
      · exact h0 5
      · split
        · exact h0 6
        · exact hp _
    · exact h0 152
  split
  · exact hon _ _ fun r => ⟨by have : (delK l q.key).length ≤ l.length := List.length_filter_le _ _; show (delK l q.key).length ≤ _; omega, by simp [ansE]⟩
  split
  · exact hon _ _ fun r => hp _
  split
  · split
    · exact hon _ _ fun r => hp _
    · exact h0 152
  split
  · refine hon _ _ fun r => ?_
    split
    · exact hp _
    · exact h0 152
  · refine hon _ _ fun r => hon _ _ fun t => ?_
    split
    · exact hp2 _ _
    · exact h0 152
end Go.Proofs.YtlfjoaipbpendaaGreatDoor

/- More plain lemmas: loops as folds, lists in order, searches, things put into their place. -/
namespace Go.Bur
open Go.RowKit
set_option linter.unusedVariables false
set_option linter.unusedSimpArgs false

/-! ### Loops as folds -/
/-! ### Each of a list, and each two that follow one another -/
/-! ### Where a thing is in a list in order -/
section
variable {α : Type} {c : α → Int} {l A B : List α} {y : Option α}
end
/-! ### slices.DeleteFunc -/
/-! ### The first of its kind; a list changed place by place -/
end Go.Bur

/- Layer 7 (modes): which go together, by the code and by the document. -/
namespace Go.Proofs.YtlfjoaipbpendaaGreatDoor
open Go.Bur
set_option linter.unusedSimpArgs false
set_option linter.unusedVariables false
set_option maxRecDepth 100000

/-! ### Modes -/
def isM (a : Int) : Bool := decide (0 ≤ a ∧ a ≤ 6)
theorem isM_cases {a : Int} (h : isM a = true) : a = 0 ∨ a = 1 ∨ a = 2 ∨ a = 3 ∨ a = 4 ∨ a = 5 ∨ a = 6 := by
  have := of_decide_eq_true h; omega
def goesB (a b : Int) : Bool := isM a && isM b && (decide (a = 0) || decide (b = 0) || decide (a = 1 ∧ b ≤ 4) || decide (b = 1 ∧ a ≤ 4) || decide (a = 2 ∧ b = 2) || decide (a = 3 ∧ b = 3) || decide (a = 6 ∧ b = 6))
theorem mode_is_eq (n : Nat) (a : Int) : mode_is n a = some (isM a) := by
  unfold mode_is isM
  simp only [jn]
  by_cases h1 : a ≥ 0
  · rw [decide_eq_true h1]
    simp only [cond_true]
    congr 1
    exact decide_eq_decide.2 (by omega)
  · rw [decide_eq_false h1, decide_eq_false (show ¬ (0 ≤ a ∧ a ≤ 6) by omega)]; rfl
theorem goes_eq (n : Nat) (hn : 20 ≤ n) (a b : Int) : mode_Goes n a b = some (goesB a b) := by
  obtain ⟨n, rfl⟩ : ∃ m, n = m + 20 := ⟨n - 20, by omega⟩
  cases ha : isM a with
  | false => unfold mode_Goes goesB; simp only [mode_is_eq, ha, Option.bind_some, jn, cond_false, Bool.false_and]
  | true =>
    cases hb : isM b with
    | false => unfold mode_Goes goesB; simp only [mode_is_eq, ha, hb, Option.bind_some, jn, cond_true, cond_false, Bool.false_and, Bool.and_false]
    | true =>
      rcases isM_cases ha with rfl | rfl | rfl | rfl | rfl | rfl | rfl <;> rcases isM_cases hb with rfl | rfl | rfl | rfl | rfl | rfl | rfl <;> kernel_rfl
end Go.Proofs.YtlfjoaipbpendaaGreatDoor

/- Layer 19 (request): what is locked; RequestLocks, RequestOrder. -/
namespace Go.Proofs.YtlfjoaipbpendaaGreatDoor
open Go.Bur
set_option linter.unusedSimpArgs false
set_option linter.unusedVariables false
set_option maxRecDepth 100000

theorem wakes19 : law19_wakes 2000 = some true := by kernel_rfl
def bigReq (q : Request) : Bool := decide ((q.note.size : Int) > 100)
def overQ (s : Schema) (l : List Request) : Bool := decide (20 < s.tables.length) || l.any bigReq
theorem overQ_eq (n : Nat) (hn : 1003 ≤ n) (s : Schema) (l : List Request) (hl : l.length ≤ 1000) : law19_over n s l = some (overQ s l) := by
  unfold law19_over overQ
  by_cases h1 : 20 < s.tables.length
  · rw [decide_eq_true (by omega : (s.tables.length : Int) > 20), decide_eq_true h1]; rfl
  · rw [decide_eq_false (by omega : ¬ (s.tables.length : Int) > 20), decide_eq_false h1]
    show law19_over_l1 n n (l, (l.length : Int), ((0 : Nat) : Int), ()) = _
    unfold law19_over_l1
    refine (run_loop l (fun (i : Nat) (_ : Unit) => (l, (l.length : Int), (i : Int), ())) (fun _ x _ => if bigReq x then .inl (some true) else .inr ()) (fun _ => some false) (fun r i s x hx hi => ?_) (fun r s => ?_) n 0 () (by omega) (by omega)).trans ?_
    · simp only [lt_dec hi, cond_true, idx_nat, hx, Option.bind_some, wrap_succ (show i < 4611686018427387904 by omega)]
      unfold bigReq
      cases decide ((x.note.size : Int) > 100) <;> rfl
    · simp only [ge_dec (Nat.lt_irrefl _), cond_false]
    · rw [List.drop_zero, runL_any]
      cases l.any bigReq <;> rfl
theorem overQ_len {s : Schema} {l : List Request} (h : overQ s l = false) : s.tables.length ≤ 20 := by
  unfold overQ at h
  simp only [Bool.or_eq_false_iff, decide_eq_false_iff_not] at h
  omega

/-! ### What is locked -/
def wT (k : Key) (m : Int) : Want := ⟨⟨k.table, false, 0⟩, m⟩
def wK (k : Key) (m : Int) : Want := ⟨⟨k.table, true, k.id⟩, m⟩
def lockE (a b : Key) : List Want := if a.table = b.table then [wT a 2, wK a 6, wK b 6] else [wT a 2, wT b 2, wK a 6, wK b 6]
def locksP (q : Request) : List Want :=
  if q.kind = 1 then [wT q.key 1, wK q.key 3] else if q.kind = 2 then [wT q.key 3]
  else if q.kind = 3 ∨ q.kind = 4 ∨ q.kind = 5 ∨ q.kind = 6 then [wT q.key 2, wK q.key 5]
  else if q.kind = 7 then [wT q.key 2, wK q.key 6]
  else if q.kind = 8 then (if cmpK q.to q.key < 0 then lockE q.to q.key else lockE q.key q.to) else []
theorem ins2 (a b : Key) : slices_insertionSortCmpFunc_Key_f17 2000 0 2 [a, b] = (row_Compare 2000 b a).bind fun y => cond (decide (y < 0)) (some [b, a]) (some [a, b]) := by kernel_rfl
theorem sort2 (a b : Key) : slices_SortFunc_Key_f17 2000 [a, b] = some (if cmpK b a < 0 then [b, a] else [a, b]) := by
  have h1 : bits_Len 2000 (IntKind.wrap .u64 (([a, b] : List Key).length : Int)) = some 2 := by kernel_rfl
  have h2 : slices_insertionSortCmpFunc_Key_f17 2000 0 2 [a, b] = some (if cmpK b a < 0 then [b, a] else [a, b]) := by
    rw [ins2, compare_eq 2000 (by omega)]
    show cond (decide (cmpK b a < 0)) _ _ = _
    by_cases hc : cmpK b a < 0 <;> simp [hc]
  have h3 : slices_pdqsortCmpFunc_Key_f17 2000 0 2 2 [a, b] = (slices_insertionSortCmpFunc_Key_f17 2000 0 2 [a, b]).bind fun y => some y := by kernel_rfl
  unfold slices_SortFunc_Key_f17
  rw [bindE h1]
  show (slices_pdqsortCmpFunc_Key_f17 2000 0 2 2 [a, b]).bind _ = _
  rw [h3, h2]
  rfl
theorem kinds {k : Int} (h1 : 1 ≤ k) (h2 : k ≤ 12) : k = 1 ∨ k = 2 ∨ k = 3 ∨ k = 4 ∨ k = 5 ∨ k = 6 ∨ k = 7 ∨ k = 8 ∨ k = 9 ∨ k = 10 ∨ k = 11 ∨ k = 12 := by omega
theorem locks8 (a b : Key) : request_locks_j1 2000 (⟨2, 6⟩, [a, b], ()) = some (lockE a b) := by
  have h : request_locks_j1 2000 (⟨2, 6⟩, [a, b], ()) = cond (a.table != b.table) (some [wT a 2, wT b 2, wK a 6, wK b 6]) (some [wT a 2, wK a 6, wK b 6]) := by
    kernel_rfl
  rw [h]
  unfold lockE
  by_cases hc : a.table = b.table
  · simp [hc]
  · have : (a.table != b.table) = true := by simp; omega
    rw [this, if_neg hc]; rfl
theorem locks_eq (q : Request) (h1 : 1 ≤ q.kind) (h2 : q.kind ≤ 12) : request_locks 2000 q = some (locksP q) := by
  obtain ⟨kind, k, t, v, note, n⟩ := q
  simp only at h1 h2
  rcases kinds h1 h2 with rfl | rfl | rfl | rfl | rfl | rfl | rfl | rfl | rfl | rfl | rfl | rfl
  · kernel_rfl
  · kernel_rfl
  · kernel_rfl
  · kernel_rfl
  · kernel_rfl
  · kernel_rfl
  · kernel_rfl
  · have h : request_locks 2000 ⟨8, k, t, v, note, n⟩ = (slices_SortFunc_Key_f17 2000 [k, t]).bind fun y => request_locks_j1 2000 (⟨2, 6⟩, y, ()) := by kernel_rfl
    rw [h, sort2]
    show request_locks_j1 2000 (⟨2, 6⟩, (if cmpK t k < 0 then [t, k] else [k, t]), ()) = some (if cmpK t k < 0 then lockE t k else lockE k t)
    by_cases hc : cmpK t k < 0
    · rw [if_pos hc, if_pos hc, locks8]
    · rw [if_neg hc, if_neg hc, locks8]
  · kernel_rfl
  · kernel_rfl
  · kernel_rfl
  · kernel_rfl
theorem lockE_len (a b : Key) : (lockE a b).length ≤ 4 := by unfold lockE; split <;> simp
theorem locksP_len (q : Request) : (locksP q).length ≤ 4 := by
  unfold locksP
  split
  · simp
  split
  · simp
  split
  · simp
  split
  · simp
  split
  · split <;> exact lockE_len _ _
  · simp
/-! ### Which go together -/
def clash (x y : Want) : Bool := Res.eqb x.res y.res && !goesB x.mode y.mode
def togP (a b : List Want) : Bool := !a.any fun x => b.any fun y => clash x y
def togE (s : Schema) (a b : Request) : Bool × Int := if right s then (if reqOk s a then (if reqOk s b then (togP (locksP a) (locksP b), 0) else (false, 250)) else (false, 250)) else (false, 150)
theorem tog3 (q : Request) (x : Want) (a b : List Want) (m : Int) (hb : b.length ≤ 1000) (i : Int) (r2 : Int × Int × Request × List Want × Unit → Option (Bool × Int)) :
    request_Together_l3 2000 r2 2000 (m, i, (b.length : Int), 0, q, x, a, b, ()) = if b.any (fun y => clash x y) then some (false, 0) else r2 (m, IntKind.wrap .i64 (i + 1), q, a, ()) := by
  unfold request_Together_l3
  refine (run_loop b (fun (k : Nat) (_ : Unit) => (m, i, (b.length : Int), (k : Int), q, x, a, b, ())) (fun _ y _ => if clash x y then .inl (some (false, 0)) else .inr ()) (fun _ => r2 (m, IntKind.wrap .i64 (i + 1), q, a, ())) (fun r k s y hy hk => ?_) (fun r s => ?_) 2000 0 () (by omega) (by omega)).trans ?_
  · simp only [lt_dec hk, cond_true, idx_nat, hy, Option.bind_some, jn, wrap_succ (show k < 4611686018427387904 by omega), goes_eq 2000 (by omega)]
    unfold clash
    cases Res.eqb x.res y.res <;> cases goesB x.mode y.mode <;> rfl
  · simp only [ge_dec (Nat.lt_irrefl _), cond_false]
  · rw [List.drop_zero, runL_any]
theorem tog2 (q : Request) (h1 : 1 ≤ q.kind) (h2 : q.kind ≤ 12) (a : List Want) (ha : a.length ≤ 1000) :
    request_Together_l2 2000 2000 ((a.length : Int), 0, q, a, ()) = some (togP a (locksP q), 0) := by
  unfold request_Together_l2
  refine (run_loop a (fun (k : Nat) (_ : Unit) => ((a.length : Int), (k : Int), q, a, ())) (fun _ x _ => if (locksP q).any (fun y => clash x y) then .inl (some (false, 0)) else .inr ()) (fun _ => some (true, 0)) (fun r k s y hy hk => ?_) (fun r s => ?_) 2000 0 () (by omega) (by omega)).trans ?_
  · simp only [lt_dec hk, cond_true, idx_nat, hy, Option.bind_some, locks_eq q h1 h2]
    have hl := locksP_len q
    rw [tog3 _ _ _ _ _ (by omega)]
    by_cases hc : ((locksP q).any fun z => clash y z) = true
    · rw [if_pos hc, if_pos hc]
    · rw [if_neg hc, if_neg hc, wrap_succ (show k < 4611686018427387904 by omega)]
  · simp only [ge_dec (Nat.lt_irrefl _), cond_false]
  · rw [List.drop_zero, runL_any]
    unfold togP
    cases a.any fun x => (locksP q).any fun y => clash x y <;> rfl
theorem tog_eq (s : Schema) (hs : s.tables.length ≤ 1000) (a b : Request) : request_Together 2000 s a b = some (togE s a b) := by
  have h0 : request_Together 2000 s a b = (ideal_CheckRequest 2000 s a).bind fun y => cond (y != 0) (some (false, y)) ((ideal_CheckRequest 2000 s b).bind fun z => cond (z != 0) (some (false, z)) ((request_locks 2000 a).bind fun l => request_Together_l2 2000 2000 ((l.length : Int), 0, b, l, ()))) := by kernel_rfl
  rw [h0, checkReq_eq 2000 (by omega) s hs a, checkReq_eq 2000 (by omega) s hs b]
  unfold togE
  by_cases hr : right s = true
  · simp only [if_pos hr]
    by_cases ha : reqOk s a = true
    · obtain ⟨h1, h2, _⟩ := reqOk_facts ha
      simp only [if_pos ha]
      by_cases hb : reqOk s b = true
      · obtain ⟨h3, h4, _⟩ := reqOk_facts hb
        simp only [if_pos hb]
        show (request_locks 2000 a).bind _ = _
        rw [locks_eq a h1 h2]
        have hl := locksP_len a
        exact tog2 b h3 h4 _ (by omega)
      · simp only [if_neg hb]; rfl
    · simp only [if_neg ha]; rfl
  · simp only [if_neg hr]; rfl
end Go.Proofs.YtlfjoaipbpendaaGreatDoor

/- Layer 19 (request): the laws RequestLocks and RequestOrder. -/
namespace Go.Proofs.YtlfjoaipbpendaaGreatDoor
open Go.Bur
set_option linter.unusedSimpArgs false
set_option linter.unusedVariables false
set_option maxRecDepth 100000

theorem blind_eq (q : Request) : request_Blind 2000 q = some (q.kind == 7 || q.kind == 8) := by
  unfold request_Blind
  cases h : (q.kind == 7) <;> rfl
/-! ### In order -/
end Go.Proofs.YtlfjoaipbpendaaGreatDoor

/- Layer 15: the plain law IdealSteps. -/
namespace Go.Proofs.YtlfjoaipbpendaaGreatDoor
open Go.Bur
set_option linter.unusedSimpArgs false
set_option linter.unusedVariables false
set_option maxRecDepth 100000

end Go.Proofs.YtlfjoaipbpendaaGreatDoor

/- Layer 15: what comes may be; the plain laws IdealKeeps, IdealBack. -/
namespace Go.Proofs.YtlfjoaipbpendaaGreatDoor
open Go.Bur
set_option linter.unusedSimpArgs false
set_option linter.unusedVariables false
set_option maxRecDepth 100000

theorem rowErr_iff {s : Schema} {r : Row} : rowErr s r = 0 ↔ inTab s r.key = true ∧ (r.note.size : Int) ≤ 8 ∧ fitsP s r.key r.val = true := by
  unfold rowErr fitsP
  by_cases h : inTab s r.key = true
  · obtain ⟨x, hx⟩ := idx_in (inTab_iff.1 h)
    rw [if_pos h, hx]
    by_cases h1 : (r.note.size : Int) ≤ 8
    · rw [if_pos h1]
      cases hf : fitsB x r.val <;> simp [h, h1]
    · rw [if_neg h1]
      simp [h1]
  · rw [if_neg h]
    simp [h]
theorem good_put {s : Schema} {l : List Row} (hg : good s l) {r : Row} (hr : rowErr s r = 0) : good s (putK l r) := by
  obtain ⟨A, y, B, h⟩ := at_ex r.key hg.2
  rw [putK_at h]
  exact good_more h hg hr
theorem putK_len_in {l : List Row} (hs : Srt l) {r x : Row} (hx : getK l r.key = some x) : (putK l r).length = l.length := by
  rcases at_cases hs r.key with ⟨_, h2, _⟩ | ⟨A, y, B, h, h1, h2, _⟩
  · rw [h2] at hx; cases hx
  · rw [putK_at h, h.eq]; simp
theorem getK_mem {l : List Row} {k : Key} {r : Row} (h : getK l k = some r) : r ∈ l ∧ r.key = k := by
  unfold getK at h
  have := List.find?_some h
  exact ⟨List.mem_of_find?_eq_some h, by simpa using this⟩
theorem ok_put {s : Schema} {l : List Row} (h : listOk s l = true) {r x : Row} (hr : rowErr s r = 0) (hx : getK l r.key = some x) : listOk s (putK l r) = true := by
  obtain ⟨hg, hl⟩ := listOk_iff.1 h
  exact listOk_iff.2 ⟨good_put hg hr, by rw [putK_len_in hg.2 hx]; exact hl⟩
theorem ok_sub {s : Schema} {l m : List Row} (h : listOk s l = true) (hm : m.Sublist l) : listOk s m = true := by
  obtain ⟨hg, hl⟩ := listOk_iff.1 h
  exact listOk_iff.2 ⟨good_sub hg hm, by have := hm.length_le; omega⟩
theorem sumB_facts {s : Schema} {r : Row} {v : Int} (h : sumB s r v = true) : (plusP r.val v).1 = r.val + v ∧ i64 (r.val + v) ∧ fitsP s r.key (r.val + v) = true := by
  unfold sumB plusP at h
  unfold plusP
  split at h
  · rename_i hr
    rw [if_pos hr]
    simp only [Bool.true_and] at h
    exact ⟨rfl, hr, h⟩
  · simp at h
theorem ok_withV {s : Schema} {l : List Row} (h : listOk s l = true) {r : Row} {k : Key} (hr : getK l k = some r) {v : Int} (hf : fitsP s r.key v = true) : listOk s (putK l (withV r v)) = true := by
  obtain ⟨hm, hk⟩ := getK_mem hr
  have he := rowErr_iff.1 ((listOk_iff.1 h).1.1 r hm)
  exact ok_put h (x := r) (rowErr_iff.2 ⟨he.1, he.2.1, hf⟩) (by show getK l r.key = _; rw [hk]; exact hr)
/-- What is put does not turn what else stands there. -/
theorem getK_put {l : List Row} (hs : Srt l) {r x : Row} {k : Key} (hk : r.key ≠ k) (hx : getK l r.key = some x) : getK (putK l r) k = getK l k := by
  rcases at_cases hs r.key with ⟨_, h2, _⟩ | ⟨A, y, B, h, h1, h2, _⟩
  · rw [h2] at hx; cases hx
  · rw [putK_at h]
    conv => rhs; rw [h.eq]
    unfold getK
    have hy : y.key ≠ k := by rw [h.mid y rfl]; exact hk
    simp [List.find?_append, List.find?_cons, hk, hy]
theorem keep_do {s : Schema} {l : List Row} {q : Request} (h : Fit s l q) : listOk s (doP s l q).2 = true := by
  obtain ⟨k1, k2, k3, k4, k5, k6, _⟩ := reqOk_facts h.req
  obtain ⟨hg, hl⟩ := listOk_iff.1 h.list
  have hon : ∀ k f, (∀ r, getK l k = some r → listOk s (f r).2 = true) → listOk s (onRow l k f).2 = true := fun k f hf => by
    unfold onRow
    cases hr : getK l k with
    | none => exact h.list
    | some r => exact hf r hr
  unfold doP
  split
  · exact hon _ _ fun r _ => h.list
  split
  · exact h.list
  split
  · split
    · rename_i hf
      split
      · exact h.list
      · rename_i hn
        split
        · exact h.list
        · rename_i h60
          refine listOk_iff.2 ⟨good_put hg (rowErr_iff.2 ⟨k3, k5, hf⟩), ?_⟩
          have := putK_len l ⟨q.key, q.val, q.note⟩
          show (putK l ⟨q.key, q.val, q.note⟩).length ≤ 60
          omega
    · exact h.list
  split
  · exact hon _ _ fun r _ => ok_sub h.list List.filter_sublist
  split
  · refine hon _ _ fun r hr => ?_
    obtain ⟨hm, hk⟩ := getK_mem hr
    have he := rowErr_iff.1 (hg.1 r hm)
    exact ok_put h.list (x := r) (rowErr_iff.2 ⟨he.1, k5, he.2.2⟩) (by show getK l r.key = _; rw [hk]; exact hr)
  split
  · split
    · rename_i hf
      refine hon _ _ fun r hr => ok_withV h.list hr ?_
      rw [(getK_mem hr).2]; exact hf
    · exact h.list
  split
  · refine hon _ _ fun r hr => ?_
    split
    · rename_i hb
      obtain ⟨e1, e2, e3⟩ := sumB_facts hb
      refine ok_withV h.list hr ?_
      rw [e1]; exact e3
    · exact h.list
  · refine hon _ _ fun r hr => hon _ _ fun t ht => ?_
    split
    · rename_i hb
      rw [Bool.and_eq_true] at hb
      obtain ⟨e1, e2, e3⟩ := sumB_facts hb.1
      obtain ⟨f1, f2, f3⟩ := sumB_facts hb.2
      have e8 : q.kind = 8 := by have := h.kind; omega
      have h1 := ok_withV h.list ht (v := (plusP t.val q.val).1) (by rw [f1]; exact f3)
      have h2 : getK (putK l (withV t (plusP t.val q.val).1)) q.key = some r := by
        rw [getK_put hg.2 (r := withV t (plusP t.val q.val).1) (x := t) (k := q.key) (show t.key ≠ q.key by rw [(getK_mem ht).2]; exact fun e => (k6 e8).1 e.symm) (by show getK l t.key = _; rw [(getK_mem ht).2]; exact ht)]
        exact hr
      refine ok_withV h1 h2 ?_
      rw [e1]; exact e3
    · exact h.list
theorem do_reads {s : Schema} {l : List Row} {q : Request} (h : q.kind = 1 ∨ q.kind = 2) : (doP s l q).2 = l := by
  unfold doP
  rcases h with h | h
  · rw [if_pos h]
    unfold onRow
    cases getK l q.key <;> rfl
  · rw [if_neg (by omega), if_pos h]
/-- Bounds as they are handed over. -/
def SchIn (s : Schema) : Prop := ∀ b ∈ s.tables, i64 b.min ∧ i64 b.max
theorem good_i64 {s : Schema} {l : List Row} (hs : SchIn s) (hg : listOk s l = true) : ∀ r ∈ l, i64 r.val := fun r hr => by
  obtain ⟨h1, h2, h3⟩ := rowErr_iff.1 ((listOk_iff.1 hg).1.1 r hr)
  obtain ⟨x, hx⟩ := idx_in (inTab_iff.1 h1)
  unfold fitsP fitsB at h3
  rw [hx] at h3
  simp only [Bool.and_eq_true, decide_eq_true_iff] at h3
  obtain ⟨a, b⟩ := hs x (idx_some hx).2.2
  exact ⟨by have := a.1; omega, by have := b.2; omega⟩
theorem sch_in {s : Schema} (h : okT tab 9 (.st 1) s) : SchIn s := fun b hb => ⟨(h.1.1 b hb).1, (h.1.1 b hb).2.1⟩
end Go.Proofs.YtlfjoaipbpendaaGreatDoor

/- Layer 19 (request): what a request reads and changes; the law RequestOwn. -/
namespace Go.Proofs.YtlfjoaipbpendaaGreatDoor
open Go.Bur
set_option linter.unusedSimpArgs false
set_option linter.unusedVariables false
set_option maxRecDepth 100000

/-! ### Rows as a map -/
theorem getK_nil (k : Key) : getK [] k = none := rfl
theorem getK_cons (a : Row) (l : List Row) (k : Key) : getK (a :: l) k = if a.key = k then some a else getK l k := by
  unfold getK
  rw [List.find?_cons]
  by_cases h : a.key = k
  · rw [decide_eq_true h, if_pos h]
  · rw [decide_eq_false h, if_neg h]
theorem getK_none {l : List Row} {k : Key} (h : ∀ x ∈ l, x.key ≠ k) : getK l k = none := by
  unfold getK
  exact List.find?_eq_none.2 fun x hx => by simpa using h x hx
theorem getK_mem2 {l : List Row} {k : Key} {r : Row} (h : getK l k = some r) : r ∈ l ∧ r.key = k := by
  unfold getK at h
  exact ⟨List.mem_of_find?_eq_some h, by simpa using List.find?_some h⟩
theorem getK_insP {r : Row} {k : Key} : ∀ {m : List Row}, (∀ x ∈ m, x.key ≠ r.key) → getK (insP r m) k = if r.key = k then some r else getK m k
  | [], _ => getK_cons _ _ _
  | x :: m, h => by
    have ih := getK_insP (r := r) (k := k) (m := m) fun y hy => h y (List.mem_cons_of_mem _ hy)
    have hx := h x (List.mem_cons_self ..)
    unfold insP
    split
    · rw [getK_cons]
    · rw [getK_cons, ih, getK_cons]
      by_cases h1 : x.key = k
      · rw [if_pos h1, if_pos h1, if_neg fun h2 => hx (h1.trans h2.symm)]
      · rw [if_neg h1, if_neg h1]
theorem getK_del {l : List Row} {k0 k : Key} : getK (delK l k0) k = if k0 = k then none else getK l k := by
  unfold delK
  induction l with
  | nil => rw [List.filter_nil, getK_nil, ite_self]
  | cons a l ih =>
    rw [List.filter_cons, key_eqb]
    by_cases h : a.key = k0
    · rw [decide_eq_true h, Bool.not_true, if_neg (by simp), ih, getK_cons]
      by_cases h1 : k0 = k
      · rw [if_pos h1, if_pos h1]
      · rw [if_neg h1, if_neg h1, if_neg fun e => h1 (h.symm.trans e)]
    · rw [decide_eq_false h, Bool.not_false, if_pos rfl, getK_cons, ih, getK_cons]
      by_cases h1 : k0 = k
      · rw [if_pos h1, if_pos h1, if_neg fun e => h (e.trans h1.symm)]
      · rw [if_neg h1, if_neg h1]
theorem getK_put2 {l : List Row} {r : Row} {k : Key} : getK (putK l r) k = if r.key = k then some r else getK l k := by
  have h := getK_insP (r := r) (k := k) (m := delK l r.key) fun x hx => by
    unfold delK at hx
    have := (List.mem_filter.1 hx).2
    rw [key_eqb] at this
    simpa using this
  rw [getK_del] at h
  show getK (insP r (delK l r.key)) k = _
  rw [h]
  by_cases h1 : r.key = k
  · rw [if_pos h1, if_pos h1]
  · rw [if_neg h1, if_neg h1, if_neg h1]
theorem getK_lt {l : List Row} {a : Row} (h : Srt (a :: l)) {k : Key} (hk : cmpK k a.key ≤ 0) : getK l k = none :=
  getK_none fun x hx e => by
    have h1 : cmpK a.key x.key < 0 := (List.pairwise_cons.1 h).1 x hx
    have h2 := cmpK_neg (a := a.key) (b := x.key)
    rw [e] at h1 h2
    omega
theorem getK_ext : ∀ {l m : List Row}, Srt l → Srt m → (∀ k, getK l k = getK m k) → l = m
  | [], [], _, _, _ => rfl
  | [], b :: m, _, _, h => by
    have := h b.key
    rw [getK_nil, getK_cons, if_pos rfl] at this
    cases this
  | a :: l, [], _, _, h => by
    have := h a.key
    rw [getK_nil, getK_cons, if_pos rfl] at this
    cases this
  | a :: l, b :: m, hl, hm, h => by
    have hab : a = b := by
      have ha := h a.key
      have hb := h b.key
      rw [getK_cons, if_pos rfl, getK_cons] at ha
      rw [getK_cons, getK_cons, if_pos rfl] at hb
      by_cases e : b.key = a.key
      · rw [if_pos e] at ha
        exact Option.some.inj ha
      · rw [if_neg e] at ha
        rw [if_neg fun e2 => e e2.symm] at hb
        have n1 := cmpK_neg (a := a.key) (b := b.key)
        rcases Int.le_total (cmpK a.key b.key) 0 with h1 | h1
        · rw [getK_lt hm h1] at ha; cases ha
        · rw [getK_lt hl (by omega)] at hb; cases hb
    subst hab
    congr 1
    refine getK_ext (List.pairwise_cons.1 hl).2 (List.pairwise_cons.1 hm).2 fun k => ?_
    have hk := h k
    rw [getK_cons, getK_cons] at hk
    by_cases e : a.key = k
    · have h0 : cmpK k a.key ≤ 0 := by rw [← e, cmpK_zero.2 rfl]; omega
      rw [getK_lt hl h0, getK_lt hm h0]
    · rwa [if_neg e, if_neg e] at hk
/-! ### What a request comes to, by kinds -/
theorem doP1 {s : Schema} {l : List Row} {q : Request} (h : q.kind = 1) : doP s l q = onRow l q.key fun r => (⟨0, [r], 0⟩, l) := by unfold doP; rw [if_pos h]
theorem doP2 {s : Schema} {l : List Row} {q : Request} (h : q.kind = 2) : doP s l q = (⟨0, ofP q.key.table l, 0⟩, l) := by unfold doP; rw [if_neg (by omega), if_pos h]
theorem doP3 {s : Schema} {l : List Row} {q : Request} (h : q.kind = 3) : doP s l q = if fitsP s q.key q.val then (match getK l q.key with | some _ => (ansE 5, l) | none => if l.length = 60 then (ansE 6, l) else (ansE 0, putK l ⟨q.key, q.val, q.note⟩)) else (ansE 152, l) := by unfold doP; rw [if_neg (by omega), if_neg (by omega), if_pos h] <;> rfl
theorem doP4 {s : Schema} {l : List Row} {q : Request} (h : q.kind = 4) : doP s l q = onRow l q.key fun _ => (ansE 0, delK l q.key) := by unfold doP; rw [if_neg (by omega), if_neg (by omega), if_neg (by omega), if_pos h]
theorem doP5 {s : Schema} {l : List Row} {q : Request} (h : q.kind = 5) : doP s l q = onRow l q.key fun r => (ansE 0, putK l ⟨r.key, r.val, q.note⟩) := by unfold doP; rw [if_neg (by omega), if_neg (by omega), if_neg (by omega), if_neg (by omega), if_pos h]
theorem doP6 {s : Schema} {l : List Row} {q : Request} (h : q.kind = 6) : doP s l q = if fitsP s q.key q.val then onRow l q.key fun r => (ansE 0, putK l (withV r q.val)) else (ansE 152, l) := by unfold doP; rw [if_neg (by omega), if_neg (by omega), if_neg (by omega), if_neg (by omega), if_neg (by omega), if_pos h]
theorem doP7 {s : Schema} {l : List Row} {q : Request} (h : q.kind = 7) : doP s l q = onRow l q.key fun r => if sumB s r q.val then (ansE 0, putK l (withV r (plusP r.val q.val).1)) else (ansE 152, l) := by unfold doP; rw [if_neg (by omega), if_neg (by omega), if_neg (by omega), if_neg (by omega), if_neg (by omega), if_neg (by omega), if_pos h]
theorem doP8 {s : Schema} {l : List Row} {q : Request} (h : q.kind = 8) : doP s l q = onRow l q.key fun r => onRow l q.to fun t => if sumB s r (-q.val) && sumB s t q.val then (ansE 0, putK (putK l (withV t (plusP t.val q.val).1)) (withV r (plusP r.val (-q.val)).1)) else (ansE 152, l) := by unfold doP; rw [if_neg (by omega), if_neg (by omega), if_neg (by omega), if_neg (by omega), if_neg (by omega), if_neg (by omega), if_neg (by omega)]
theorem onRow_none {l : List Row} {k : Key} {f : Row → Answer × List Row} (h : getK l k = none) : onRow l k f = (ansE 4, l) := by unfold onRow; rw [h]
theorem onRow_some {l : List Row} {k : Key} {f : Row → Answer × List Row} {r : Row} (h : getK l k = some r) : onRow l k f = f r := by unfold onRow; rw [h]
/-- The keys that it may change; those of rows that it hangs on. -/
def Wk (q : Request) (k : Key) : Prop := (3 ≤ q.kind ∧ k = q.key) ∨ (q.kind = 8 ∧ k = q.to)
def Rk (q : Request) (k : Key) : Prop := k = q.key ∨ (q.kind = 8 ∧ k = q.to)
theorem kinds8 {k : Int} (h1 : 1 ≤ k) (h2 : k ≤ 8) : k = 1 ∨ k = 2 ∨ k = 3 ∨ k = 4 ∨ k = 5 ∨ k = 6 ∨ k = 7 ∨ k = 8 := by omega
theorem do_off {s : Schema} {l : List Row} {q : Request} (h1 : 1 ≤ q.kind) (h2 : q.kind ≤ 8) {k : Key} (h : ¬ Wk q k) : getK (doP s l q).2 k = getK l k := by
  have hp : ∀ (m : List Row) (r : Row), r.key ≠ k → getK (putK m r) k = getK m k := fun m r hr => by rw [getK_put2, if_neg hr]
  have hkey : 3 ≤ q.kind → q.key ≠ k := fun h3 e => h (.inl ⟨h3, e.symm⟩)
  rcases kinds8 h1 h2 with e | e | e | e | e | e | e | e
  · rw [doP1 e]
    cases hg : getK l q.key with
    | none => rw [onRow_none hg]
    | some r => rw [onRow_some hg]
  · rw [doP2 e]
  · rw [doP3 e]
    have hk := hkey (by omega)
    split
    · split
      · rfl
      · split
        · rfl
        · exact hp _ _ hk
    · rfl
  · rw [doP4 e]
    have hk := hkey (by omega)
    cases hg : getK l q.key with
    | none => rw [onRow_none hg]
    | some r => rw [onRow_some hg]; show getK (delK l q.key) k = _; rw [getK_del, if_neg hk]
  · rw [doP5 e]
    have hk := hkey (by omega)
    cases hg : getK l q.key with
    | none => rw [onRow_none hg]
    | some r => rw [onRow_some hg]; exact hp _ _ (by show r.key ≠ k; rw [(getK_mem2 hg).2]; exact hk)
  · rw [doP6 e]
    have hk := hkey (by omega)
    split
    · cases hg : getK l q.key with
      | none => rw [onRow_none hg]
      | some r => rw [onRow_some hg]; exact hp _ _ (by show r.key ≠ k; rw [(getK_mem2 hg).2]; exact hk)
    · rfl
  · rw [doP7 e]
    have hk := hkey (by omega)
    cases hg : getK l q.key with
    | none => rw [onRow_none hg]
    | some r =>
      rw [onRow_some hg]
      split
      · exact hp _ _ (by show r.key ≠ k; rw [(getK_mem2 hg).2]; exact hk)
      · rfl
  · rw [doP8 e]
    have hk := hkey (by omega)
    have hk2 : q.to ≠ k := fun e2 => h (.inr ⟨e, e2.symm⟩)
    cases hg : getK l q.key with
    | none => rw [onRow_none hg]
    | some r =>
      rw [onRow_some hg]
      cases hg2 : getK l q.to with
      | none => rw [onRow_none hg2]
      | some t =>
        rw [onRow_some hg2]
        split
        · refine (hp _ _ ?_).trans (hp _ _ ?_)
          · show r.key ≠ k; rw [(getK_mem2 hg).2]; exact hk
          · show t.key ≠ k; rw [(getK_mem2 hg2).2]; exact hk2
        · rfl
theorem do_on {s : Schema} {l l' : List Row} {q : Request} (h1 : 1 ≤ q.kind) (h2 : q.kind ≤ 8) (hn2 : q.kind ≠ 2) (hk : ∀ k, Rk q k → getK l k = getK l' k)
    (hf : q.kind = 3 → (l.length = 60 ↔ l'.length = 60) ∨ ((doP s l q).1.err ≠ 6 ∧ (doP s l' q).1.err ≠ 6)) : (doP s l q).1 = (doP s l' q).1 ∧ ∀ k, Rk q k → getK (doP s l q).2 k = getK (doP s l' q).2 k := by
  have e0 := hk q.key (.inl rfl)
  have hput : ∀ (r : Row), ∀ k, Rk q k → getK (putK l r) k = getK (putK l' r) k := fun r k h => by rw [getK_put2, getK_put2, hk k h]
  rcases kinds8 h1 h2 with e | e | e | e | e | e | e | e
  · rw [doP1 e, doP1 e]
    cases hg : getK l q.key with
    | none => rw [onRow_none hg, onRow_none (e0.symm.trans hg)]; exact ⟨rfl, hk⟩
    | some r => rw [onRow_some hg, onRow_some (e0.symm.trans hg)]; exact ⟨rfl, hk⟩
  · exact absurd e hn2
  · have hf := hf e
    rw [doP3 e, doP3 e] at hf ⊢
    cases hfit : fitsP s q.key q.val with
    | false => exact ⟨rfl, hk⟩
    | true =>
      rw [hfit] at hf
      simp only [if_true] at hf ⊢
      cases hg : getK l q.key with
      | some r => rw [e0.symm.trans hg]; exact ⟨rfl, hk⟩
      | none =>
        rw [hg, e0.symm.trans hg] at hf
        rw [e0.symm.trans hg]
        simp only at hf ⊢
        by_cases a : l.length = 60
        · by_cases b : l'.length = 60
          · rw [if_pos a, if_pos b]; exact ⟨rfl, hk⟩
          · rw [if_pos a] at hf
            rcases hf with hf | hf
            · exact absurd (hf.1 a) b
            · exact absurd rfl hf.1
        · by_cases b : l'.length = 60
          · rw [if_pos b] at hf
            rcases hf with hf | hf
            · exact absurd (hf.2 b) a
            · exact absurd rfl hf.2
          · rw [if_neg a, if_neg b]; exact ⟨rfl, hput _⟩
  · rw [doP4 e, doP4 e]
    cases hg : getK l q.key with
    | none => rw [onRow_none hg, onRow_none (e0.symm.trans hg)]; exact ⟨rfl, hk⟩
    | some r => rw [onRow_some hg, onRow_some (e0.symm.trans hg)]; exact ⟨rfl, fun k h => by show getK (delK l q.key) k = getK (delK l' q.key) k; rw [getK_del, getK_del, hk k h]⟩
  · rw [doP5 e, doP5 e]
    cases hg : getK l q.key with
    | none => rw [onRow_none hg, onRow_none (e0.symm.trans hg)]; exact ⟨rfl, hk⟩
    | some r => rw [onRow_some hg, onRow_some (e0.symm.trans hg)]; exact ⟨rfl, hput _⟩
  · rw [doP6 e, doP6 e]
    cases fitsP s q.key q.val with
    | false => exact ⟨rfl, hk⟩
    | true =>
      simp only [if_true]
      cases hg : getK l q.key with
      | none => rw [onRow_none hg, onRow_none (e0.symm.trans hg)]; exact ⟨rfl, hk⟩
      | some r => rw [onRow_some hg, onRow_some (e0.symm.trans hg)]; exact ⟨rfl, hput _⟩
  · rw [doP7 e, doP7 e]
    cases hg : getK l q.key with
    | none => rw [onRow_none hg, onRow_none (e0.symm.trans hg)]; exact ⟨rfl, hk⟩
    | some r =>
      rw [onRow_some hg, onRow_some (e0.symm.trans hg)]
      cases sumB s r q.val with
      | false => exact ⟨rfl, hk⟩
      | true => exact ⟨rfl, hput _⟩
  · rw [doP8 e, doP8 e]
    have e1 := hk q.to (.inr ⟨e, rfl⟩)
    cases hg : getK l q.key with
    | none => rw [onRow_none hg, onRow_none (e0.symm.trans hg)]; exact ⟨rfl, hk⟩
    | some r =>
      rw [onRow_some hg, onRow_some (e0.symm.trans hg)]
      cases hg2 : getK l q.to with
      | none => rw [onRow_none hg2, onRow_none (e1.symm.trans hg2)]; exact ⟨rfl, hk⟩
      | some t =>
        rw [onRow_some hg2, onRow_some (e1.symm.trans hg2)]
        cases sumB s r (-q.val) && sumB s t q.val with
        | false => exact ⟨rfl, hk⟩
        | true =>
          refine ⟨rfl, fun k h => ?_⟩
          show getK (putK (putK l _) _) k = getK (putK (putK l' _) _) k
          rw [getK_put2, getK_put2, getK_put2, getK_put2, hk k h]
theorem doAll_ok {s : Schema} {l : List Row} {q : Request} (hr : right s = true) (hl : listOk s l = true) (hq : reqOk s q = true) (hk : q.kind ≤ 8) : doAll s l q = doP s l q := by
  unfold doAll
  rw [hr, hl, hq, decide_eq_true hk]
  rfl

/-! ### What is locked -/
theorem lockE_mem (a b : Key) : wK a 6 ∈ lockE a b ∧ wK b 6 ∈ lockE a b := by unfold lockE; split <;> simp
/-! ### With another value of a row -/
def overR (l : List Row) : Bool := decide (100 < l.length) || l.any bigRow
theorem overList_eq (n : Nat) (hn : 1003 ≤ n) (l : List Row) : law19_overList n l = some (overR l) := by
  unfold law19_overList overR
  by_cases h2 : 100 < l.length
  · rw [decide_eq_true (by omega : (l.length : Int) > 100), decide_eq_true h2]; rfl
  · rw [decide_eq_false (by omega : ¬ (l.length : Int) > 100), decide_eq_false h2]
    show law19_overList_l1 n n (l, (l.length : Int), ((0 : Nat) : Int), ()) = _
    unfold law19_overList_l1
    refine (run_loop l (fun (i : Nat) (_ : Unit) => (l, (l.length : Int), (i : Int), ())) (fun _ x _ => if bigRow x then .inl (some true) else .inr ()) (fun _ => some false) (fun r i s x hx hi => ?_) (fun r s => ?_) n 0 () (by omega) (by omega)).trans ?_
    · simp only [lt_dec hi, cond_true, idx_nat, hx, Option.bind_some, wrap_succ (show i < 4611686018427387904 by omega)]
      unfold bigRow
      cases decide ((x.note.size : Int) > 100) <;> rfl
    · simp only [ge_dec (Nat.lt_irrefl _), cond_false]
    · rw [List.drop_zero, runL_any]
      cases l.any bigRow <;> rfl
theorem overR_len {l : List Row} (h : overR l = false) : l.length ≤ 100 := by
  unfold overR at h
  simp only [Bool.or_eq_false_iff, decide_eq_false_iff_not] at h
  omega
end Go.Proofs.YtlfjoaipbpendaaGreatDoor

/- Layer 15: the plain law IdealAdds. -/
namespace Go.Proofs.YtlfjoaipbpendaaGreatDoor
open Go.Bur
set_option linter.unusedSimpArgs false
set_option linter.unusedVariables false
set_option maxRecDepth 100000

/-- All values raised, each by what its key is given. -/
def addM (d : Key → Int) (l : List Row) : List Row := l.map fun r => withV r (r.val + d r.key)
theorem addM_comm (d e : Key → Int) (l : List Row) : addM d (addM e l) = addM e (addM d l) := by
  unfold addM
  rw [List.map_map, List.map_map]
  refine List.map_congr_left fun r _ => ?_
  simp only [Function.comp, withV]
  congr 1
  omega
def one1 (k : Key) (v : Int) : Key → Int := fun x => if x = k then v else 0
theorem put_map {l : List Row} (hs : Srt l) {r : Row} {k : Key} (hr : getK l k = some r) (v : Int) : putK l (withV r (r.val + v)) = addM (one1 k v) l := by
  obtain ⟨hm, hk⟩ := getK_mem hr
  rcases at_cases hs k with ⟨_, h2, _⟩ | ⟨A, y, B, h, h1, h2, h3, _⟩
  · rw [h2] at hr; cases hr
  · rw [hr] at h2
    injection h2 with h2
    subst h2
    rw [putK_at (r := withV r (r.val + v)) (show At l r.key A (some r) B by rw [hk]; exact h)]
    conv => rhs; rw [h.eq]
    have hA : A.map (fun r => withV r (r.val + one1 k v r.key)) = A := by
      conv => rhs; rw [← List.map_id A]
      refine List.map_congr_left fun x hx => ?_
      have : x.key ≠ k := fun e => by have := h.lo x hx; rw [cmpK_zero.2 e] at this; omega
      simp [one1, this, withV]
    have hB : B.map (fun r => withV r (r.val + one1 k v r.key)) = B := by
      conv => rhs; rw [← List.map_id B]
      refine List.map_congr_left fun x hx => ?_
      have : x.key ≠ k := fun e => by have := h.hi x hx; rw [e, cmpK_zero.2 rfl] at this; omega
      simp [one1, this, withV]
    unfold addM
    rw [List.map_append, List.map_append, hA, hB]
    simp [one1, hk]
theorem addM_add (d e : Key → Int) (l : List Row) : addM d (addM e l) = addM (fun k => e k + d k) l := by
  unfold addM
  rw [List.map_map]
  refine List.map_congr_left fun r _ => ?_
  simp only [Function.comp, withV]
  congr 1
  omega
theorem srt_addM {l : List Row} (hs : Srt l) (d : Key → Int) : Srt (addM d l) := by
  unfold Srt addM
  rw [List.pairwise_map]
  exact hs
/-- What a blind request that is OK comes to. -/
def deltaQ (q : Request) : Key → Int := fun k => if q.kind = 7 then one1 q.key q.val k else one1 q.to q.val k + one1 q.key (-q.val) k
theorem blind_ok {s : Schema} {l : List Row} {q : Request} (h : Fit s l q) (hk : q.kind = 7 ∨ q.kind = 8) (he : (doP s l q).1.err = 0) : (doP s l q).2 = addM (deltaQ q) l ∧ ∃ r, getK l q.key = some r ∧ i64 (r.val + (if q.kind = 7 then q.val else -q.val)) ∧ (q.kind = 8 → ∃ t, getK l q.to = some t ∧ i64 (t.val + q.val)) := by
  obtain ⟨k1, k2, k3, k4, k5, k6, _⟩ := reqOk_facts h.req
  obtain ⟨hg, hl⟩ := listOk_iff.1 h.list
  unfold doP at he ⊢
  rcases hk with hk | hk
  · have hd : deltaQ q = one1 q.key q.val := by funext k; simp [deltaQ, hk]
    rw [hk] at he ⊢
    simp only [show ¬ ((7 : Int) = 1) from by decide, show ¬ ((7 : Int) = 2) from by decide, show ¬ ((7 : Int) = 3) from by decide, show ¬ ((7 : Int) = 4) from by decide, show ¬ ((7 : Int) = 5) from by decide, show ¬ ((7 : Int) = 6) from by decide, if_false, if_true] at he ⊢
    unfold onRow at he ⊢
    cases hr : getK l q.key with
    | none => rw [hr] at he; simp [ansE] at he
    | some r =>
      rw [hr] at he
      cases hb : sumB s r q.val with
      | false => simp [hb, ansE] at he
      | true =>
        obtain ⟨e1, e2, e3⟩ := sumB_facts hb
        simp only [hb, if_true]
        rw [hd]
        exact ⟨by rw [e1]; exact put_map hg.2 hr q.val, r, rfl, e2, fun e => absurd e (by decide)⟩
  · have hd : deltaQ q = fun k => one1 q.to q.val k + one1 q.key (-q.val) k := by funext k; simp [deltaQ, hk]
    obtain ⟨hne, _⟩ := k6 hk
    rw [hk] at he ⊢
    simp only [show ¬ ((8 : Int) = 1) from by decide, show ¬ ((8 : Int) = 2) from by decide, show ¬ ((8 : Int) = 3) from by decide, show ¬ ((8 : Int) = 4) from by decide, show ¬ ((8 : Int) = 5) from by decide, show ¬ ((8 : Int) = 6) from by decide, show ¬ ((8 : Int) = 7) from by decide, if_false, if_true] at he ⊢
    unfold onRow at he ⊢
    cases hr : getK l q.key with
    | none => rw [hr] at he; simp [ansE] at he
    | some r =>
      rw [hr] at he
      cases ht : getK l q.to with
      | none => rw [ht] at he; simp [ansE] at he
      | some t =>
        rw [ht] at he
        cases hb : sumB s r (-q.val) with
        | false => simp [hb, ansE] at he
        | true =>
          cases hb2 : sumB s t q.val with
          | false => simp [hb, hb2, ansE] at he
          | true =>
            obtain ⟨e1, e2, e3⟩ := sumB_facts hb
            obtain ⟨f1, f2, f3⟩ := sumB_facts hb2
            simp only [hb, hb2, Bool.and_self, if_true]
            have p1 := put_map hg.2 ht q.val
            have p2 : getK (addM (one1 q.to q.val) l) q.key = some r := by
              rw [← p1, getK_put hg.2 (r := withV t (t.val + q.val)) (x := t) (k := q.key) (show t.key ≠ q.key by rw [(getK_mem ht).2]; exact fun e => hne e.symm) (by show getK l t.key = _; rw [(getK_mem ht).2]; exact ht)]
              exact hr
            refine ⟨?_, r, rfl, e2, fun _ => ⟨t, rfl, f2⟩⟩
            rw [f1, p1, e1, put_map (srt_addM hg.2 _) p2 (-q.val), addM_add, hd]
end Go.Proofs.YtlfjoaipbpendaaGreatDoor

/- Layer 19 (request): the law RequestTogether. -/
namespace Go.Proofs.YtlfjoaipbpendaaGreatDoor
open Go.Bur
set_option linter.unusedSimpArgs false
set_option linter.unusedVariables false
set_option maxRecDepth 100000

/-! ### What goes together -/
def kMode (q : Request) : Int := if q.kind = 1 then 3 else if q.kind ≤ 6 then 5 else 6
def tMode (q : Request) : Int := if q.kind = 1 then 1 else if q.kind = 2 then 3 else 2
theorem key_lock {q : Request} (h1 : 1 ≤ q.kind) (h2 : q.kind ≤ 8) (hn : q.kind ≠ 2) {k : Key} (h : Rk q k) : wK k (kMode q) ∈ locksP q := by
  unfold locksP kMode
  by_cases e1 : q.kind = 1
  · rw [if_pos e1, if_pos e1]
    rcases h with h | ⟨h8, _⟩
    · subst h; simp
    · omega
  · rw [if_neg e1, if_neg e1, if_neg hn]
    by_cases e2 : q.kind ≤ 6
    · rw [if_pos e2, if_pos (by omega)]
      rcases h with h | ⟨h8, _⟩
      · subst h; simp
      · omega
    · rw [if_neg e2, if_neg (by omega)]
      by_cases e3 : q.kind = 7
      · rw [if_pos e3]
        rcases h with h | ⟨h8, _⟩
        · subst h; simp
        · omega
      · rw [if_neg e3, if_pos (by omega)]
        split <;> rcases h with h | ⟨_, h⟩ <;> subst h
        · exact (lockE_mem _ _).2
        · exact (lockE_mem _ _).1
        · exact (lockE_mem _ _).1
        · exact (lockE_mem _ _).2
theorem lockE_tab (a b : Key) : wT a 2 ∈ lockE a b ∧ wT b 2 ∈ lockE a b := by
  unfold lockE
  split
  · rename_i h
    have e : wT b 2 = wT a 2 := by unfold wT; rw [h]
    rw [e]; simp
  · simp
theorem tab_lock {q : Request} (h1 : 1 ≤ q.kind) (h2 : q.kind ≤ 8) {k : Key} (h : Rk q k) : wT k (tMode q) ∈ locksP q := by
  unfold locksP tMode
  by_cases e1 : q.kind = 1
  · rw [if_pos e1, if_pos e1]
    rcases h with h | ⟨h8, _⟩
    · subst h; simp
    · omega
  · rw [if_neg e1, if_neg e1]
    by_cases hn : q.kind = 2
    · rw [if_pos hn, if_pos hn]
      rcases h with h | ⟨h8, _⟩
      · subst h; simp
      · omega
    · rw [if_neg hn, if_neg hn]
      by_cases e2 : q.kind ≤ 6
      · rw [if_pos (by omega)]
        rcases h with h | ⟨h8, _⟩
        · subst h; simp
        · omega
      · rw [if_neg (by omega)]
        by_cases e3 : q.kind = 7
        · rw [if_pos e3]
          rcases h with h | ⟨h8, _⟩
          · subst h; simp
          · omega
        · rw [if_neg e3, if_pos (by omega)]
          split <;> rcases h with h | ⟨_, h⟩ <;> subst h
          · exact (lockE_tab _ _).2
          · exact (lockE_tab _ _).1
          · exact (lockE_tab _ _).1
          · exact (lockE_tab _ _).2
theorem tog_goes {a b : List Want} (h : togP a b = true) {x y : Want} (hx : x ∈ a) (hy : y ∈ b) (he : x.res = y.res) : goesB x.mode y.mode = true := by
  unfold togP at h
  cases hg : goesB x.mode y.mode with
  | true => rfl
  | false =>
    have : (a.any fun x => b.any fun y => clash x y) = true := List.any_eq_true.2 ⟨x, hx, List.any_eq_true.2 ⟨y, hy, by unfold clash; rw [hg, he]; simp [Res.eqb]⟩⟩
    rw [this] at h
    cases h
/-- What two requests that go together may share. -/
structure Goes (a b : Request) : Prop where
  keys : ∀ k, a.kind ≠ 2 → b.kind ≠ 2 → Rk a k → Rk b k → (a.kind = 1 ∧ b.kind = 1) ∨ (7 ≤ a.kind ∧ 7 ≤ b.kind)
  ab : ∀ k, a.kind = 2 → 3 ≤ b.kind → Rk b k → k.table ≠ a.key.table
  ba : ∀ k, b.kind = 2 → 3 ≤ a.kind → Rk a k → k.table ≠ b.key.table
theorem tog_goes2 {a b : Request} (a1 : 1 ≤ a.kind) (a2 : a.kind ≤ 8) (b1 : 1 ≤ b.kind) (b2 : b.kind ≤ 8) (h : togP (locksP a) (locksP b) = true) : Goes a b := by
  refine ⟨fun k ha hb ka kb => ?_, fun k ha hb kb e => ?_, fun k hb ha ka e => ?_⟩
  · have h1 := tog_goes h (key_lock a1 a2 ha ka) (key_lock b1 b2 hb kb) rfl
    have h1 : goesB (kMode a) (kMode b) = true := h1
    unfold kMode at h1
    by_cases c1 : a.kind = 1
    · by_cases d1 : b.kind = 1
      · exact .inl ⟨c1, d1⟩
      · rw [if_pos c1, if_neg d1] at h1
        split at h1 <;> exact absurd h1 (by decide)
    · rw [if_neg c1] at h1
      by_cases c2 : a.kind ≤ 6
      · rw [if_pos c2] at h1
        split at h1
        · exact absurd h1 (by decide)
        · split at h1 <;> exact absurd h1 (by decide)
      · rw [if_neg c2] at h1
        split at h1
        · exact absurd h1 (by decide)
        · split at h1
          · exact absurd h1 (by decide)
          · exact .inr ⟨by omega, by omega⟩
  · have h1 := tog_goes h (tab_lock a1 a2 (.inl rfl)) (tab_lock b1 b2 kb) (by unfold wT; simp only; rw [e])
    have h1 : goesB (tMode a) (tMode b) = true := h1
    unfold tMode at h1
    rw [if_neg (by omega), if_pos ha, if_neg (by omega), if_neg (by omega)] at h1
    exact absurd h1 (by decide)
  · have h1 := tog_goes h (tab_lock a1 a2 ka) (tab_lock b1 b2 (.inl rfl)) (by unfold wT; simp only; rw [e])
    have h1 : goesB (tMode a) (tMode b) = true := h1
    unfold tMode at h1
    rw [if_neg (by omega), if_neg (by omega), if_neg (by omega), if_pos hb] at h1
    exact absurd h1 (by decide)
theorem Goes.symm {a b : Request} (h : Goes a b) : Goes b a :=
  ⟨fun k hb ha kb ka => (h.keys k ha hb ka kb).elim (fun x => .inl ⟨x.2, x.1⟩) fun x => .inr ⟨x.2, x.1⟩, h.ba, h.ab⟩
theorem Wk.rk {q : Request} {k : Key} (h : Wk q k) : Rk q k := h.elim (fun h => .inl h.2) fun h => .inr h

/-! ### Whichever comes first -/
theorem getK_ofP {l : List Row} {t : Int} {k : Key} : getK (ofP t l) k = if k.table = t then getK l k else none := by
  unfold ofP
  induction l with
  | nil => rw [List.filter_nil, getK_nil, ite_self]
  | cons a l ih =>
    rw [List.filter_cons]
    by_cases h : a.key.table = t
    · rw [decide_eq_true h, if_pos rfl, getK_cons, ih, getK_cons]
      by_cases h1 : a.key = k
      · subst h1; rw [if_pos rfl, if_pos h, if_pos rfl]
      · rw [if_neg h1, if_neg h1]
    · rw [decide_eq_false h, if_neg (by simp), ih, getK_cons]
      by_cases h1 : a.key = k
      · subst h1; rw [if_neg h, if_neg h]
      · rw [if_neg h1]
theorem srt_ofP {l : List Row} (h : Srt l) (t : Int) : Srt (ofP t l) := h.filter _
theorem do_srt {s : Schema} {l : List Row} {q : Request} (h : Fit s l q) : Srt (doP s l q).2 := (listOk_iff.1 (keep_do h)).1.2
theorem fit_srt {s : Schema} {l : List Row} {q : Request} (h : Fit s l q) : Srt l := (listOk_iff.1 h.list).1.2
theorem fit_next {s : Schema} {l : List Row} {a b : Request} (hs : SchIn s) (ha : Fit s l a) (hb : Fit s l b) : Fit s (doP s l a).2 b :=
  ⟨hb.right, keep_do ha, hb.req, hb.kind, hb.val, good_i64 hs (keep_do ha)⟩
theorem fit_lo {s : Schema} {l : List Row} {q : Request} (h : Fit s l q) : 1 ≤ q.kind := (reqOk_facts h.req).1
/-- It hangs on room, or on bounds though it is blind. -/
def resB (q : Request) (x : Answer) : Bool := x.err == 6 || (x.err == 152 && (q.kind == 7 || q.kind == 8))
def Swap (s : Schema) (l : List Row) (a b : Request) : Prop := (doP s l a).1 = (doP s (doP s l b).2 a).1 ∧ (doP s (doP s l a).2 b).1 = (doP s l b).1 ∧ (doP s (doP s l a).2 b).2 = (doP s (doP s l b).2 a).2
theorem Swap.symm {s : Schema} {l : List Row} {a b : Request} (h : Swap s l a b) : Swap s l b a := ⟨h.2.1.symm, h.1.symm, h.2.2.symm⟩
theorem swap_read {s : Schema} {l : List Row} {a b : Request} (hs : SchIn s) (ha : Fit s l a) (hb : Fit s l b) (hg : Goes a b) (hk : a.kind ≤ 2) : Swap s l a b := by
  have a1 := fit_lo ha
  have b1 := fit_lo hb
  have r1 : ∀ m, (doP s m a).2 = m := fun m => do_reads (by omega)
  unfold Swap
  rw [r1, r1]
  refine ⟨?_, rfl, rfl⟩
  by_cases e : a.kind = 2
  · rw [doP2 e, doP2 e]
    have : ofP a.key.table l = ofP a.key.table (doP s l b).2 := by
      refine getK_ext (srt_ofP (fit_srt ha) _) (srt_ofP (do_srt hb) _) fun k => ?_
      rw [getK_ofP, getK_ofP]
      by_cases ht : k.table = a.key.table
      · rw [if_pos ht, if_pos ht, do_off b1 hb.kind fun hw => ?_]
        have h3 : 3 ≤ b.kind := by rcases hw with hw | hw <;> omega
        exact hg.ab k e h3 hw.rk ht
      · rw [if_neg ht, if_neg ht]
    rw [this]
  · refine (do_on a1 ha.kind e (fun k hr => ?_) fun h3 => by omega).1
    rw [do_off b1 hb.kind fun hw => ?_]
    have h3 : 3 ≤ b.kind := by rcases hw with hw | hw <;> omega
    rcases hg.keys k e (by omega) hr hw.rk with h | h <;> omega
theorem swap_apart {s : Schema} {l : List Row} {a b : Request} (hs : SchIn s) (ha : Fit s l a) (hb : Fit s l b) (ka : 3 ≤ a.kind) (kb : 3 ≤ b.kind) (hd : ∀ k, Rk a k → ¬ Rk b k)
    (e1 : (doP s l a).1.err ≠ 6) (e2 : (doP s (doP s l a).2 b).1.err ≠ 6) (e3 : (doP s l b).1.err ≠ 6) (e4 : (doP s (doP s l b).2 a).1.err ≠ 6) : Swap s l a b := by
  have a1 := fit_lo ha
  have b1 := fit_lo hb
  have oa : ∀ m k, ¬ Rk a k → getK (doP s m a).2 k = getK m k := fun m k h => do_off a1 ha.kind fun hw => h hw.rk
  have ob : ∀ m k, ¬ Rk b k → getK (doP s m b).2 k = getK m k := fun m k h => do_off b1 hb.kind fun hw => h hw.rk
  obtain ⟨p1, p2⟩ := do_on (l := l) (l' := (doP s l b).2) (s := s) a1 ha.kind (by omega) (fun k hk => (ob l k (hd k hk)).symm) fun _ => .inr ⟨e1, e4⟩
  obtain ⟨q1, q2⟩ := do_on (l := (doP s l a).2) (l' := l) (s := s) b1 hb.kind (by omega) (fun k hk => oa l k fun h => hd k h hk) fun _ => .inr ⟨e2, e3⟩
  refine ⟨p1, q1, getK_ext (do_srt (fit_next hs ha hb)) (do_srt (fit_next hs hb ha)) fun k => ?_⟩
  by_cases h1 : Rk a k
  · rw [ob _ k (hd k h1)]
    exact p2 k h1
  · rw [oa _ k h1]
    by_cases h2 : Rk b k
    · exact q2 k h2
    · rw [ob _ k h2, ob _ k h2, oa _ k h1]
theorem getK_addM {d : Key → Int} {l : List Row} {k : Key} : getK (addM d l) k = none ↔ getK l k = none := by
  unfold addM
  induction l with
  | nil => simp [getK_nil]
  | cons a l ih =>
    rw [List.map_cons, getK_cons, getK_cons]
    show (if a.key = k then _ else _) = none ↔ _
    by_cases h : a.key = k
    · rw [if_pos h, if_pos h]; simp
    · rw [if_neg h, if_neg h]; exact ih
def There (q : Request) (l : List Row) : Prop := getK l q.key ≠ none ∧ (q.kind = 8 → getK l q.to ≠ none)
theorem there_addM {q : Request} {d : Key → Int} {l : List Row} : There q (addM d l) ↔ There q l := by
  unfold There
  rw [ne_eq, ne_eq, ne_eq, ne_eq, getK_addM, getK_addM]
open Classical in
theorem blind_do {s : Schema} {l : List Row} {q : Request} (h : Fit s l q) (hk : 7 ≤ q.kind) (he : (doP s l q).1.err ≠ 152) : doP s l q = if There q l then (ansE 0, addM (deltaQ q) l) else (ansE 4, l) := by
  have h8 := h.kind
  have ok0 : (doP s l q).1 = ansE 0 → There q l → doP s l q = if There q l then (ansE 0, addM (deltaQ q) l) else (ansE 4, l) := fun e ht => by
    have h1 := (blind_ok h (by omega) (by rw [e]; rfl)).1
    rw [if_pos ht, ← e, ← h1]
  by_cases e : q.kind = 7
  · have hd := doP7 (s := s) (l := l) e
    cases hg : getK l q.key with
    | none => rw [if_neg fun ht => ht.1 hg, hd, onRow_none hg]
    | some r =>
      rw [onRow_some hg] at hd
      cases hb : sumB s r q.val with
      | false => rw [hd, hb] at he; exact absurd rfl he
      | true => rw [hb] at hd; exact ok0 (by rw [hd]; rfl) ⟨by rw [hg]; simp, fun e8 => by omega⟩
  · have e : q.kind = 8 := by omega
    have hd := doP8 (s := s) (l := l) e
    cases hg : getK l q.key with
    | none => rw [if_neg fun ht => ht.1 hg, hd, onRow_none hg]
    | some r =>
      rw [onRow_some hg] at hd
      cases hg2 : getK l q.to with
      | none => rw [if_neg fun ht => ht.2 e hg2, hd, onRow_none hg2]
      | some t =>
        rw [onRow_some hg2] at hd
        cases hb : (sumB s r (-q.val) && sumB s t q.val) with
        | false => rw [hd, hb] at he; exact absurd rfl he
        | true => rw [hb] at hd; exact ok0 (by rw [hd]; rfl) ⟨by rw [hg]; simp, fun _ => by rw [hg2]; simp⟩
open Classical in
theorem swap_blind {s : Schema} {l : List Row} {a b : Request} (hs : SchIn s) (ha : Fit s l a) (hb : Fit s l b) (ka : 7 ≤ a.kind) (kb : 7 ≤ b.kind)
    (e1 : (doP s l a).1.err ≠ 152) (e2 : (doP s (doP s l a).2 b).1.err ≠ 152) (e3 : (doP s l b).1.err ≠ 152) (e4 : (doP s (doP s l b).2 a).1.err ≠ 152) : Swap s l a b := by
  have d1 := blind_do ha ka e1
  have d3 := blind_do hb kb e3
  have d2 := blind_do (fit_next hs ha hb) kb e2
  have d4 := blind_do (fit_next hs hb ha) ka e4
  unfold Swap
  rw [d2, d4, d1, d3]
  by_cases ta : There a l
  · rw [if_pos ta]
    simp only [there_addM]
    by_cases tb : There b l
    · rw [if_pos tb]
      simp only [there_addM, if_pos ta, if_pos tb, true_and]
      exact addM_comm _ _ _
    · rw [if_neg tb]
      simp only [if_pos ta, if_neg tb, and_self]
  · rw [if_neg ta]
    by_cases tb : There b l
    · rw [if_pos tb]
      simp only [there_addM, if_neg ta, if_pos tb, and_self]
    · rw [if_neg tb]
      simp only [if_neg ta, if_neg tb, and_self]
theorem resB_no {q : Request} {x : Answer} (h : resB q x = false) : x.err ≠ 6 ∧ (q.kind = 7 ∨ q.kind = 8 → x.err ≠ 152) := by
  unfold resB at h
  simp only [Bool.or_eq_false_iff, Bool.and_eq_false_iff, beq_eq_false_iff_ne] at h
  refine ⟨h.1, fun hk e => ?_⟩
  rcases h.2 with h2 | h2
  · exact h2 e
  · rcases hk with hk | hk
    · exact h2.1 hk
    · exact h2.2 hk
theorem swap_all {s : Schema} {l : List Row} {a b : Request} (hs : SchIn s) (ha : Fit s l a) (hb : Fit s l b) (ht : togP (locksP a) (locksP b) = true)
    (e1 : resB a (doP s l a).1 = false) (e2 : resB b (doP s (doP s l a).2 b).1 = false) (e3 : resB b (doP s l b).1 = false) (e4 : resB a (doP s (doP s l b).2 a).1 = false) : Swap s l a b := by
  have a1 := fit_lo ha
  have b1 := fit_lo hb
  have a2 := ha.kind
  have b2 := hb.kind
  have hg := tog_goes2 a1 a2 b1 b2 ht
  by_cases ra : a.kind ≤ 2
  · exact swap_read hs ha hb hg ra
  by_cases rb : b.kind ≤ 2
  · exact (swap_read hs hb ha hg.symm rb).symm
  by_cases bl : 7 ≤ a.kind ∧ 7 ≤ b.kind
  · exact swap_blind hs ha hb bl.1 bl.2 ((resB_no e1).2 (by omega)) ((resB_no e2).2 (by omega)) ((resB_no e3).2 (by omega)) ((resB_no e4).2 (by omega))
  · refine swap_apart hs ha hb (by omega) (by omega) (fun k h1 h2 => ?_) (resB_no e1).1 (resB_no e2).1 (resB_no e3).1 (resB_no e4).1
    rcases hg.keys k (by omega) (by omega) h1 h2 with h | h
    · omega
    · exact bl h
theorem res_eq (q : Request) (x : Answer) : law19_resources 2000 q x = some (resB q x) := by
  unfold law19_resources resB
  simp only [jn, blind_eq, Option.bind_some]
  cases x.err == 6 <;> cases x.err == 152 <;> rfl
theorem reqs2_i64 {l : Arr2_Request} (h : okT tab 9 (.st 13) l) : i64 l.a0.val ∧ i64 l.a1.val := ⟨h.2.2.2.2.2.1, h.2.2.2.2.2.2.2.2.2.2.2.2.2.1⟩
theorem plainRequestTogether (s : Schema) (l : List Row) (q : Arr2_Request) (h1 : okT tab 9 (.st 1) s) (h2 : okT tab 9 (.sl (.st 9)) l) (h3 : okT tab 9 (.st 13) q) : ∃ n, law19_RequestTogether n s l q = some true := by
  refine ⟨2000, ?_⟩
  unfold law19_RequestTogether
  simp only [jn]
  rw [bindE wakes19, Bool.not_true, cond_false, bindE (overQ_eq 2000 (by omega) s [q.a0, q.a1] (by simp)), bindE (overList_eq 2000 (by omega) l)]
  cases ho : overQ s [q.a0, q.a1] with
  | true => rfl
  | false =>
    rw [cond_false]
    have hts := overQ_len ho
    cases ho2 : overR l with
    | true => rfl
    | false =>
      have hl := overR_len ho2
      rw [cond_false, bindE (checkList_eq 2000 (by omega) s (by omega) l (by omega))]
      cases hr : right s with
      | false => rfl
      | true =>
        rw [if_pos rfl]
        cases hg : listOk s l with
        | false => rfl
        | true =>
          rw [if_pos rfl, bne_self_eq_false, cond_false, bindE (tog_eq s (by omega) q.a0 q.a1)]
          obtain ⟨v1, v2⟩ := reqs2_i64 h3
          have hs := sch_in h1
          clear h3 ho
          obtain ⟨a, b⟩ := q
          simp only at v1 v2 ⊢
          cases hq : reqOk s a with
          | false => unfold togE; rw [hr, hq]; rfl
          | true =>
            cases hq2 : reqOk s b with
            | false => unfold togE; rw [hr, hq, hq2]; rfl
            | true =>
              have e1 : togE s a b = (togP (locksP a) (locksP b), 0) := by unfold togE; rw [hr, hq, hq2]; rfl
              rw [e1]
              simp only [bne_self_eq_false, cond_false]
              cases ht : togP (locksP a) (locksP b) with
              | false => rfl
              | true =>
                simp only [Bool.not_true, cond_false]
                by_cases k1 : a.kind > 8
                · rw [decide_eq_true k1]; rfl
                · rw [decide_eq_false k1, cond_false]
                  by_cases k2 : b.kind > 8
                  · rw [decide_eq_true k2]; rfl
                  · rw [decide_eq_false k2, cond_false]
                    have ha : Fit s l a := ⟨hr, hg, hq, by omega, v1, good_i64 hs hg⟩
                    have hb : Fit s l b := ⟨hr, hg, hq2, by omega, v2, good_i64 hs hg⟩
                    have hab := fit_next hs ha hb
                    have hba := fit_next hs hb ha
                    have doE : ∀ {m : List Row} {q : Request}, Fit s m q → ideal_Do 2000 s m q = some (doP s m q) := fun {m q} h => by
                      have hm := (listOk_iff.1 h.list).2
                      rw [do_eq 2000 (by omega) (show s.tables.length ≤ 1000 by omega) (show m.length ≤ 1000 by omega) h.val h.rows, doAll_ok h.right h.list h.req h.kind]
                    have lnA : ∀ {m : List Row} {q : Request}, Fit s m q → (doP s m q).1.rows.length ≤ 1000 ∧ (doP s m q).2.length ≤ 1000 := fun {m q} h => by
                      have hm := (listOk_iff.1 h.list).2
                      obtain ⟨n1, n2⟩ := doP_len s m q
                      omega
                    have sw : resB a (doP s l a).1 = false → resB b (doP s (doP s l a).2 b).1 = false → resB b (doP s l b).1 = false → resB a (doP s (doP s l b).2 a).1 = false → Swap s l a b := swap_all hs ha hb ht
                    rw [bindE (doE ha), bindE (doE hab), bindE (doE hb), bindE (doE hba)]
                    simp only [res_eq, Option.bind_some, sameAns_eq 2000 (by omega) _ _ (lnA ha).1, sameAns_eq 2000 (by omega) _ _ (lnA hab).1, same_eq 2000 (by omega) _ _ (lnA hab).2]
                    cases f1 : resB a (doP s l a).1 with
                    | true => rfl
                    | false =>
                      cases f2 : resB b (doP s (doP s l a).2 b).1 with
                      | true => rfl
                      | false =>
                        cases f3 : resB b (doP s l b).1 with
                        | true => rfl
                        | false =>
                          cases f4 : resB a (doP s (doP s l b).2 a).1 with
                          | true => rfl
                          | false =>
                            obtain ⟨g1, g2, g3⟩ := sw f1 f2 f3 f4
                            simp only [cond_false]
                            rw [← g1, g2, ← g3, ansSame_refl, ansSame_refl, rowsSame_refl]
                            rfl
end Go.Proofs.YtlfjoaipbpendaaGreatDoor
