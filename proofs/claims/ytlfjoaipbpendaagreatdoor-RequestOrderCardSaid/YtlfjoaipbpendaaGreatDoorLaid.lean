/- What the functions of layer 5 (row) compute. -/
import Derived.Test.YtlfjoaipbpendaaGreatDoorF3
import Derived.Test.YtlfjoaipbpendaaGreatDoorLst4
import Derived.Test.YtlfjoaipbpendaaGreatDoorRw
import Derived.Test.YtlfjoaipbpendaaGreatDoorSx
import Derived.Test.YtlfjoaipbpendaaGreatDoorRows
import Derived.WalkKit
import Derived.ProofKit
import Derived.LaidLaws
import Derived.Deep.DeepLaidRun
import Derived.Lib.LaidTab
import Derived.Stop.LaidErr
import Derived.HandedShaped
import Derived.Shelf.Vars
namespace Go.Proofs.YtlfjoaipbpendaaGreatDoor
open Go.Bur
set_option linter.unusedSimpArgs false
set_option linter.unusedVariables false
set_option maxRecDepth 100000

/-! ### Keys -/
instance : DecidableEq Key := fun a b => match Int.decEq a.table b.table, Int.decEq a.id b.id with
  | .isTrue h, .isTrue k => .isTrue (by cases a; cases b; simp_all)
  | .isFalse h, _ => .isFalse (fun e => h (by rw [e]))
  | _, .isFalse h => .isFalse (fun e => h (by rw [e]))
def cmpI (a b : Int) : Int := if a < b then -1 else if a > b then 1 else 0
def cmpK (a b : Key) : Int := if cmpI a.table b.table ≠ 0 then cmpI a.table b.table else cmpI a.id b.id
theorem compare_int (n : Nat) (a b : Int) : cmp_Compare_int n a b = some (cmpI a b) := by
  unfold cmp_Compare_int cmp_isNaN_int cmpI
  by_cases h1 : a < b
  · simp [h1]
  · by_cases h2 : a > b
    · simp [h1, h2]
    · simp [h1, h2]
theorem compare_u16 (n : Nat) (a b : Int) : cmp_Compare_uint16 n a b = some (cmpI a b) := by
  unfold cmp_Compare_uint16 cmp_isNaN_uint16 cmpI
  by_cases h1 : a < b
  · simp [h1]
  · by_cases h2 : a > b
    · simp [h1, h2]
    · simp [h1, h2]
theorem or2 (n : Nat) (hn : 3 ≤ n) (a b : Int) : cmp_Or_int n [a, b] = some (if a ≠ 0 then a else b) := by
  obtain ⟨n, rfl⟩ : ∃ m, n = m + 3 := ⟨n - 3, by omega⟩
  unfold cmp_Or_int cmp_Or_int_l1
  by_cases ha : a = 0
  · by_cases hb : b = 0
    · subst ha hb; rfl
    · subst ha
      have : (b != 0) = true := by simpa using hb
      simp [loopF, idx, IntKind.wrap_i64, this]
  · have : (a != 0) = true := by simpa using ha
    simp [loopF, idx, this, ha]
theorem compare_eq (n : Nat) (hn : 3 ≤ n) (a b : Key) : row_Compare n a b = some (cmpK a b) := by
  unfold row_Compare
  rw [compare_int, compare_u16]
  simp only [Option.bind_some]
  rw [or2 n hn]
  rfl
theorem key_eqb (a b : Key) : Key.eqb a b = decide (a = b) := by
  obtain ⟨a1, a2⟩ := a
  obtain ⟨b1, b2⟩ := b
  by_cases h1 : a1 = b1 <;> by_cases h2 : a2 = b2 <;> simp [Key.eqb, h1, h2]
theorem cmpI_zero {a b : Int} : cmpI a b = 0 ↔ a = b := by unfold cmpI; split <;> (try split) <;> omega
theorem cmpI_neg {a b : Int} : cmpI a b = -cmpI b a := by unfold cmpI; split <;> split <;> (try split) <;> (try split) <;> omega
theorem cmpI_lt {a b : Int} : cmpI a b < 0 ↔ a < b := by unfold cmpI; split <;> (try split) <;> omega
theorem cmpK_zero {a b : Key} : cmpK a b = 0 ↔ a = b := by
  obtain ⟨a1, a2⟩ := a
  obtain ⟨b1, b2⟩ := b
  unfold cmpK
  by_cases h : cmpI a1 b1 = 0
  · have := cmpI_zero.1 h
    subst this
    simp [h, cmpI_zero]
  · have h' : a1 ≠ b1 := fun e => h (cmpI_zero.2 e)
    simp [h, h']
theorem cmpK_neg {a b : Key} : cmpK a b = -cmpK b a := by
  unfold cmpK
  have h1 := cmpI_neg (a := a.table) (b := b.table)
  have h2 := cmpI_neg (a := a.id) (b := b.id)
  by_cases h : cmpI b.table a.table = 0
  · rw [h] at h1; simp [h1, h, h2]
  · have : cmpI a.table b.table ≠ 0 := by omega
    simp [h, this, h1]
theorem cmpK_lt {a b : Key} : cmpK a b < 0 ↔ a.table < b.table ∨ a.table = b.table ∧ a.id < b.id := by
  unfold cmpK
  by_cases h : cmpI a.table b.table = 0
  · have := cmpI_zero.1 h
    simp only [ne_eq, h, not_true_eq_false, if_false, cmpI_lt]
    omega
  · have h' : a.table ≠ b.table := fun e => h (cmpI_zero.2 e)
    simp only [ne_eq, h, not_false_eq_true, if_true, cmpI_lt]
    omega
/-! ### Schemas -/
def right (s : Schema) : Bool := decide (1 ≤ s.tables.length ∧ s.tables.length ≤ 3) && !s.tables.any (fun b => decide (b.min > b.max))
theorem any_find {α : Type} {p : α → Bool} (l : List α) : l.any p = (l.findIdx? p).isSome := by
  induction l with
  | nil => rfl
  | cons x t ih =>
    rw [List.any_cons, List.findIdx?_cons]
    cases h : p x with
    | true => rfl
    | false => rw [if_neg (by decide), Option.isSome_map, Bool.false_or, ih]
theorem check_eq (n : Nat) (hn : 1003 ≤ n) (s : Schema) (hs : s.tables.length ≤ 1000) : row_Check n s = some (if right s then 0 else 150) := by
  have h2 : slices_ContainsFunc_Bounds_f72 n s.tables = some (s.tables.any fun b => decide (b.min > b.max)) := by
    have h3 : slices_IndexFunc_Bounds_f72 n s.tables = some (match s.tables.findIdx? (fun b => decide (b.min > b.max)) with | some j => (j : Int) | none => -1) := by
      show slices_IndexFunc_Bounds_f72_l1 n n (s.tables, (s.tables.length : Int), ((0 : Nat) : Int), ()) = _
      unfold slices_IndexFunc_Bounds_f72_l1
      refine (run_loop s.tables (fun (i : Nat) (_ : Unit) => (s.tables, (s.tables.length : Int), (i : Int), ())) (fun i x _ => if decide (x.min > x.max) then .inl (some (i : Int)) else .inr ()) (fun _ => some (-1)) (fun r i q x hx hi => ?_) (fun r q => ?_) n 0 () (by omega) (by omega)).trans ?_
      · simp only [lt_dec hi, cond_true, idx_nat, hx, Option.bind_some, row_Check_1, wrap_succ (show i < 4611686018427387904 by omega)]
        by_cases h : x.min > x.max
        · rw [decide_eq_true h]; rfl
        · rw [decide_eq_false h]; rfl
      · simp only [ge_dec (Nat.lt_irrefl _), cond_false]
      · rw [List.drop_zero, runL_find0]
        cases s.tables.findIdx? (fun b => decide (b.min > b.max)) with
        | none => rfl
        | some j => simp
    unfold slices_ContainsFunc_Bounds_f72
    rw [h3, any_find]
    cases s.tables.findIdx? (fun b => decide (b.min > b.max)) with
    | none => rfl
    | some j => simp
  unfold row_Check right
  rw [h2]
  simp only [jn, Option.bind_some]
  by_cases h : 1 ≤ s.tables.length ∧ s.tables.length ≤ 3
  · rw [decide_eq_true h, decide_eq_false (by omega : ¬ (s.tables.length : Int) < 1), decide_eq_false (by omega : ¬ (s.tables.length : Int) > 3)]
    cases s.tables.any (fun b => decide (b.min > b.max)) <;> rfl
  · rw [decide_eq_false h]
    by_cases h1 : (s.tables.length : Int) < 1
    · rw [decide_eq_true h1]; rfl
    · rw [decide_eq_false h1, decide_eq_true (by omega : (s.tables.length : Int) > 3)]; rfl
theorem all1 (n : Nat) (hn : 3 ≤ n) (a : row_rule) : row_all n [a] = some (cond a.is 0 a.no) := by
  obtain ⟨n, rfl⟩ : ∃ m, n = m + 3 := ⟨n - 3, by omega⟩
  unfold row_all row_all_l1
  cases h : a.is <;> simp [loopF, idx, IntKind.wrap_i64, h]
def inTab (s : Schema) (k : Key) : Bool := decide (k.table ≥ 0) && decide (k.table < (s.tables.length : Int))
def keyErr (s : Schema) (k : Key) : Int := if inTab s k then 0 else 151
theorem inTab_iff {s : Schema} {k : Key} : inTab s k = true ↔ 0 ≤ k.table ∧ k.table < s.tables.length := by
  unfold inTab
  simp only [Bool.and_eq_true, decide_eq_true_iff, ge_iff_le]
theorem checkKey_eq (n : Nat) (hn : 1003 ≤ n) (s : Schema) (hs : s.tables.length ≤ 1000) (k : Key) : row_CheckKey n s k = some (if right s then keyErr s k else 150) := by
  unfold row_CheckKey keyErr inTab
  rw [check_eq n hn s hs]
  cases right s with
  | false => rfl
  | true =>
    simp only [if_true, Option.bind_some, show ((0 : Int) != 0) = false from by decide, cond_false, row_known, jn]
    cases decide (k.table ≥ 0) with
    | false => simp [all1 n (by omega)]
    | true => cases decide (k.table < (s.tables.length : Int)) <;> simp [all1 n (by omega)]
def fitsB (b : Bounds) (v : Int) : Bool := decide (v ≥ b.min) && decide (v ≤ b.max)
def rowErr (s : Schema) (r : Row) : Int :=
  if inTab s r.key then
    (if (r.note.size : Int) ≤ 8 then
      match idx s.tables r.key.table with
      | some x => if fitsB x r.val then 0 else 152
      | none => 0
    else 3)
  else 151
/-! ### Lists of rows -/
def good (s : Schema) (l : List Row) : Prop := (∀ r ∈ l, rowErr s r = 0) ∧ l.Pairwise (fun a b => cmpK a.key b.key < 0)
/-! ### Where a key is in a right list -/
/-- l is A, perhaps y with the key, and B. -/
structure At (l : List Row) (k : Key) (A : List Row) (y : Option Row) (B : List Row) : Prop where
  eq : l = A ++ (y.toList ++ B)
  lo : ∀ r ∈ A, cmpK r.key k < 0
  mid : ∀ r, y = some r → r.key = k
  hi : ∀ r ∈ B, cmpK k r.key < 0
/-! ### Finding -/
def at_ (l : List Row) (k : Key) : Option Nat := l.findIdx? fun r => decide (r.key = k)
/-! ### With, without, of, the same, sums -/
/-! ### Put -/
end Go.Proofs.YtlfjoaipbpendaaGreatDoor

/- Layer 15: sizes, sameness; the plain law IdealSame. -/
namespace Go.Proofs.YtlfjoaipbpendaaGreatDoor
open Go.Bur
set_option linter.unusedSimpArgs false
set_option linter.unusedVariables false
set_option maxRecDepth 100000

end Go.Proofs.YtlfjoaipbpendaaGreatDoor

/- Layer 15: what requests come to. -/
namespace Go.Proofs.YtlfjoaipbpendaaGreatDoor
open Go.Bur
set_option linter.unusedSimpArgs false
set_option linter.unusedVariables false
set_option maxRecDepth 100000

/-! ### Requests -/
def key0 : Key := ⟨0, 0⟩
def req0 : Request := ⟨0, key0, key0, 0, ByteArray.empty, 0⟩
def bareP (q : Request) : Request :=
  if q.kind = 1 ∨ q.kind = 4 then ⟨0, key0, q.to, q.val, q.note, q.n⟩
  else if q.kind = 2 then ⟨0, ⟨0, q.key.id⟩, q.to, q.val, q.note, q.n⟩
  else if q.kind = 3 then ⟨0, key0, q.to, 0, ByteArray.empty, q.n⟩
  else if q.kind = 5 then ⟨0, key0, q.to, q.val, ByteArray.empty, q.n⟩
  else if q.kind = 6 ∨ q.kind = 7 then ⟨0, key0, q.to, 0, q.note, q.n⟩
  else if q.kind = 8 then ⟨0, key0, key0, 0, q.note, q.n⟩
  else if q.kind = 10 then ⟨0, q.key, q.to, q.val, q.note, 0⟩
  else ⟨0, q.key, q.to, q.val, q.note, q.n⟩
theorem bare_eq (n : Nat) (q : Request) : ideal_bare n q = some (bareP q) := by
  unfold ideal_bare ideal_bare_j1 ideal_bare_j2 ideal_bare_j3 ideal_bare_j4 ideal_bare_j5 ideal_bare_j6 ideal_bare_j7 ideal_bare_j8 ideal_bare_j9 bareP
  simp only [jn, ibeq]
  have hE : ByteArray.mk #[] = ByteArray.empty := rfl
  rw [hE]
  by_cases h1 : q.kind = 1
  · simp [h1, key0]
  · by_cases h4 : q.kind = 4
    · simp [h4, key0]
    · by_cases h2 : q.kind = 2
      · simp [h2]
      · by_cases h3 : q.kind = 3
        · simp [h3, key0]
        · by_cases h5 : q.kind = 5
          · simp [h5, key0]
          · by_cases h6 : q.kind = 6
            · simp [h6, key0]
            · by_cases h7 : q.kind = 7
              · simp [h7, key0]
              · by_cases h8 : q.kind = 8
                · simp [h8, key0]
                · by_cases h10 : q.kind = 10
                  · simp [h10]
                  · simp [h1, h2, h3, h4, h5, h6, h7, h8, h10]
def moreOk (q : Request) : Bool := if q.kind = 8 then !Key.eqb q.key q.to && decide (q.val ≥ 0) else if q.kind = 10 then decide (q.n ≥ 1) else true
def reqOk (s : Schema) (q : Request) : Bool := (((((decide (q.kind ≥ 1) && decide (q.kind ≤ 12)) && Request.eqb (bareP q) req0) && decide ((q.note.size : Int) ≤ 8)) && inTab s q.key) && inTab s q.to) && moreOk q
theorem keyErr_beq (s : Schema) (k : Key) : (keyErr s k == 0) = inTab s k := by
  unfold keyErr
  cases inTab s k <;> rfl
theorem checkReq_eq (n : Nat) (hn : 1003 ≤ n) (s : Schema) (hs : s.tables.length ≤ 1000) (q : Request) : ideal_CheckRequest n s q = some (if right s then (if reqOk s q then 0 else 250) else 150) := by
  unfold ideal_CheckRequest reqOk moreOk
  rw [check_eq n hn s hs]
  cases hr : right s with
  | false => rfl
  | true =>
    simp only [if_true, Option.bind_some, show ((0 : Int) != 0) = false from by decide, cond_false, jn, bare_eq, checkKey_eq n hn s hs, hr, keyErr_beq, ideal_CheckRequest_j1, ideal_CheckRequest_j2, ibeq q.kind, show Request.mk 0 (Key.mk 0 0) (Key.mk 0 0) 0 ByteArray.empty 0 = req0 from rfl]
    cases decide (q.kind ≥ 1) <;> cases decide (q.kind ≤ 12) <;> cases Request.eqb (bareP q) req0 <;> cases decide ((q.note.size : Int) ≤ 8) <;> cases inTab s q.key <;> cases inTab s q.to <;> (by_cases h8 : q.kind = 8 <;> by_cases h10 : q.kind = 10 <;> cases Key.eqb q.key q.to <;> cases decide (q.val ≥ 0) <;> cases decide (q.n ≥ 1) <;> simp [h8, h10])
/-! ### Rows by their keys -/
/-! ### What a request comes to -/
section
variable (n : Nat) (hn : 1003 ≤ n) (T : List Bounds) (k a b c d : Int) (v : Int) (note : ByteArray) (m : Int) (l : List Row)
end
theorem reqOk_facts {s : Schema} {q : Request} (h : reqOk s q = true) : 1 ≤ q.kind ∧ q.kind ≤ 12 ∧ inTab s q.key = true ∧ inTab s q.to = true ∧ (q.note.size : Int) ≤ 8 ∧ (q.kind = 8 → q.key ≠ q.to ∧ 0 ≤ q.val) ∧ (q.kind = 10 → 1 ≤ q.n) := by
  unfold reqOk at h
  simp only [Bool.and_eq_true, decide_eq_true_iff] at h
  obtain ⟨⟨⟨⟨⟨⟨h1, h2⟩, h3⟩, h4⟩, h5⟩, h6⟩, h7⟩ := h
  unfold moreOk at h7
  refine ⟨h1, h2, h5, h6, h4, fun e => ?_, fun e => ?_⟩
  · rw [if_pos e, key_eqb] at h7
    simpa using h7
  · rw [if_neg (by rw [e]; decide), if_pos e] at h7
    simpa using h7
end Go.Proofs.YtlfjoaipbpendaaGreatDoor

/- Layer 15: the plain law IdealDoes. -/
namespace Go.Proofs.YtlfjoaipbpendaaGreatDoor
open Go.Bur
set_option linter.unusedSimpArgs false
set_option linter.unusedVariables false
set_option maxRecDepth 100000

end Go.Proofs.YtlfjoaipbpendaaGreatDoor

/- More plain lemmas: loops as folds, lists in order, searches, things put into their place. -/
namespace Go.Bur
open Go.RowKit
set_option linter.unusedVariables false
set_option linter.unusedSimpArgs false

/-! ### Loops as folds -/
/-! ### Each of a list, and each two that follow one another -/
/-! ### Where a thing is in a list in order -/
section
variable {α : Type} {c : α → Int} {l A B : List α} {y : Option α}
end
/-! ### slices.DeleteFunc -/
/-! ### The first of its kind; a list changed place by place -/
end Go.Bur

/- Layer 7 (modes): which go together, by the code and by the document. -/
namespace Go.Proofs.YtlfjoaipbpendaaGreatDoor
open Go.Bur
set_option linter.unusedSimpArgs false
set_option linter.unusedVariables false
set_option maxRecDepth 100000

/-! ### Modes -/
end Go.Proofs.YtlfjoaipbpendaaGreatDoor

/- Layer 19 (request): what is locked; RequestLocks, RequestOrder. -/
namespace Go.Proofs.YtlfjoaipbpendaaGreatDoor
open Go.Bur
set_option linter.unusedSimpArgs false
set_option linter.unusedVariables false
set_option maxRecDepth 100000

theorem wakes19 : law19_wakes 2000 = some true := by kernel_rfl
def bigReq (q : Request) : Bool := decide ((q.note.size : Int) > 100)
def overQ (s : Schema) (l : List Request) : Bool := decide (20 < s.tables.length) || l.any bigReq
theorem overQ_eq (n : Nat) (hn : 1003 ≤ n) (s : Schema) (l : List Request) (hl : l.length ≤ 1000) : law19_over n s l = some (overQ s l) := by
  unfold law19_over overQ
  by_cases h1 : 20 < s.tables.length
  · rw [decide_eq_true (by omega : (s.tables.length : Int) > 20), decide_eq_true h1]; rfl
  · rw [decide_eq_false (by omega : ¬ (s.tables.length : Int) > 20), decide_eq_false h1]
    show law19_over_l1 n n (l, (l.length : Int), ((0 : Nat) : Int), ()) = _
    unfold law19_over_l1
    refine (run_loop l (fun (i : Nat) (_ : Unit) => (l, (l.length : Int), (i : Int), ())) (fun _ x _ => if bigReq x then .inl (some true) else .inr ()) (fun _ => some false) (fun r i s x hx hi => ?_) (fun r s => ?_) n 0 () (by omega) (by omega)).trans ?_
    · simp only [lt_dec hi, cond_true, idx_nat, hx, Option.bind_some, wrap_succ (show i < 4611686018427387904 by omega)]
      unfold bigReq
      cases decide ((x.note.size : Int) > 100) <;> rfl
    · simp only [ge_dec (Nat.lt_irrefl _), cond_false]
    · rw [List.drop_zero, runL_any]
      cases l.any bigReq <;> rfl
theorem overQ_len {s : Schema} {l : List Request} (h : overQ s l = false) : s.tables.length ≤ 20 := by
  unfold overQ at h
  simp only [Bool.or_eq_false_iff, decide_eq_false_iff_not] at h
  omega

/-! ### What is locked -/
def wT (k : Key) (m : Int) : Want := ⟨⟨k.table, false, 0⟩, m⟩
def wK (k : Key) (m : Int) : Want := ⟨⟨k.table, true, k.id⟩, m⟩
def lockE (a b : Key) : List Want := if a.table = b.table then [wT a 2, wK a 6, wK b 6] else [wT a 2, wT b 2, wK a 6, wK b 6]
def locksP (q : Request) : List Want :=
  if q.kind = 1 then [wT q.key 1, wK q.key 3] else if q.kind = 2 then [wT q.key 3]
  else if q.kind = 3 ∨ q.kind = 4 ∨ q.kind = 5 ∨ q.kind = 6 then [wT q.key 2, wK q.key 5]
  else if q.kind = 7 then [wT q.key 2, wK q.key 6]
  else if q.kind = 8 then (if cmpK q.to q.key < 0 then lockE q.to q.key else lockE q.key q.to) else []
theorem ins2 (a b : Key) : slices_insertionSortCmpFunc_Key_f17 2000 0 2 [a, b] = (row_Compare 2000 b a).bind fun y => cond (decide (y < 0)) (some [b, a]) (some [a, b]) := by kernel_rfl
theorem sort2 (a b : Key) : slices_SortFunc_Key_f17 2000 [a, b] = some (if cmpK b a < 0 then [b, a] else [a, b]) := by
  have h1 : bits_Len 2000 (IntKind.wrap .u64 (([a, b] : List Key).length : Int)) = some 2 := by kernel_rfl
  have h2 : slices_insertionSortCmpFunc_Key_f17 2000 0 2 [a, b] = some (if cmpK b a < 0 then [b, a] else [a, b]) := by
    rw [ins2, compare_eq 2000 (by omega)]
    show cond (decide (cmpK b a < 0)) _ _ = _
    by_cases hc : cmpK b a < 0 <;> simp [hc]
  have h3 : slices_pdqsortCmpFunc_Key_f17 2000 0 2 2 [a, b] = (slices_insertionSortCmpFunc_Key_f17 2000 0 2 [a, b]).bind fun y => some y := by kernel_rfl
  unfold slices_SortFunc_Key_f17
  rw [bindE h1]
  show (slices_pdqsortCmpFunc_Key_f17 2000 0 2 2 [a, b]).bind _ = _
  rw [h3, h2]
  rfl
theorem kinds {k : Int} (h1 : 1 ≤ k) (h2 : k ≤ 12) : k = 1 ∨ k = 2 ∨ k = 3 ∨ k = 4 ∨ k = 5 ∨ k = 6 ∨ k = 7 ∨ k = 8 ∨ k = 9 ∨ k = 10 ∨ k = 11 ∨ k = 12 := by omega
theorem locks8 (a b : Key) : request_locks_j1 2000 (⟨2, 6⟩, [a, b], ()) = some (lockE a b) := by
  have h : request_locks_j1 2000 (⟨2, 6⟩, [a, b], ()) = cond (a.table != b.table) (some [wT a 2, wT b 2, wK a 6, wK b 6]) (some [wT a 2, wK a 6, wK b 6]) := by
    kernel_rfl
  rw [h]
  unfold lockE
  by_cases hc : a.table = b.table
  · simp [hc]
  · have : (a.table != b.table) = true := by simp; omega
    rw [this, if_neg hc]; rfl
theorem locks_eq (q : Request) (h1 : 1 ≤ q.kind) (h2 : q.kind ≤ 12) : request_locks 2000 q = some (locksP q) := by
  obtain ⟨kind, k, t, v, note, n⟩ := q
  simp only at h1 h2
  rcases kinds h1 h2 with rfl | rfl | rfl | rfl | rfl | rfl | rfl | rfl | rfl | rfl | rfl | rfl
  · kernel_rfl
  · kernel_rfl
  · kernel_rfl
  · kernel_rfl
  · kernel_rfl
  · kernel_rfl
  · kernel_rfl
  · have h : request_locks 2000 ⟨8, k, t, v, note, n⟩ = (slices_SortFunc_Key_f17 2000 [k, t]).bind fun y => request_locks_j1 2000 (⟨2, 6⟩, y, ()) := by kernel_rfl
    rw [h, sort2]
    show request_locks_j1 2000 (⟨2, 6⟩, (if cmpK t k < 0 then [t, k] else [k, t]), ()) = some (if cmpK t k < 0 then lockE t k else lockE k t)
    by_cases hc : cmpK t k < 0
    · rw [if_pos hc, if_pos hc, locks8]
    · rw [if_neg hc, if_neg hc, locks8]
  · kernel_rfl
  · kernel_rfl
  · kernel_rfl
  · kernel_rfl
def locksE (s : Schema) (q : Request) : Int × List Want := if right s then (if reqOk s q then (0, locksP q) else (250, [])) else (150, [])
theorem reqLocks_eq (s : Schema) (hs : s.tables.length ≤ 1000) (q : Request) : request_Locks 2000 s q = some (locksE s q) := by
  unfold request_Locks locksE
  rw [checkReq_eq 2000 (by omega) s hs q]
  by_cases hr : right s = true
  · rw [if_pos hr, if_pos hr]
    by_cases hq : reqOk s q = true
    · obtain ⟨h1, h2, _⟩ := reqOk_facts hq
      rw [if_pos hq, if_pos hq]
      show (request_locks 2000 q).bind _ = _
      rw [locks_eq q h1 h2]; rfl
    · rw [if_neg hq, if_neg hq]; rfl
  · rw [if_neg hr, if_neg hr]; rfl

/-! ### Which go together -/
end Go.Proofs.YtlfjoaipbpendaaGreatDoor

/- Layer 19 (request): the laws RequestLocks and RequestOrder. -/
namespace Go.Proofs.YtlfjoaipbpendaaGreatDoor
open Go.Bur
set_option linter.unusedSimpArgs false
set_option linter.unusedVariables false
set_option maxRecDepth 100000

/-! ### In order -/
theorem keyIn_sm {x : Int} (h : 0 ≤ x ∧ x ≤ 1000000) : keyIn .i64 x = true := by
  unfold keyIn
  have h1 : IntKind.i64.min = -9223372036854775808 := rfl
  have h2 : IntKind.i64.max = 9223372036854775807 := rfl
  simp [Lit.wf, h1, h2]
  omega
theorem key_in_tab {s : Schema} (hs : s.tables.length ≤ 1000) {k : Key} (h : inTab s k = true) : keyIn .i64 k.table = true := by
  obtain ⟨h1, h2⟩ := inTab_iff.1 h
  exact keyIn_sm ⟨h1, by omega⟩
theorem look_sm {m : List (Int × Bool)} {x : Int} (hk : keyIn .i64 x = true) : mlook .i64 false m x = some (mget false m x) := by unfold mlook; rw [hk]
theorem put_sm {m : List (Int × Bool)} {x : Int} (hk : keyIn .i64 x = true) (hm : m.length ≤ 1000000) : mput .i64 m x true = some ((x, true) :: m) := by
  unfold mput
  rw [hk, Bool.true_and, show Nat.ble m.length 1000000 = true from Nat.ble_eq_true_of_le hm]
theorem w64 : IntKind.wrap .i64 1 = 1 ∧ IntKind.wrap .i64 2 = 2 ∧ IntKind.wrap .i64 3 = 3 ∧ IntKind.wrap .i64 4 = 4 ∧ IntKind.wrap .i64 0 = 0 := ⟨by kernel_rfl, by kernel_rfl, by kernel_rfl, by kernel_rfl, by kernel_rfl⟩
theorem ord1 (k : Key) (m1 : Int) (hk : keyIn .i64 k.table = true) (m : Nat) : law19_RequestOrder_l1 2000 (m + 6) (false, 1, 0, [wT k m1], [], ()) = some true := by
  simp [law19_RequestOrder_l1, loopF, law19_RequestOrder_j2, jn, idx, wT, wK, look_sm hk, put_sm hk, mget, w64]
theorem ord2 (k : Key) (m1 m2 : Int) (hk : keyIn .i64 k.table = true) (m : Nat) : law19_RequestOrder_l1 2000 (m + 6) (false, 2, 0, [wT k m1, wK k m2], [], ()) = some true := by
  simp [law19_RequestOrder_l1, loopF, law19_RequestOrder_j2, jn, idx, wT, wK, look_sm hk, put_sm hk, mget, w64]
theorem ord3 (a b : Key) (h : a.table = b.table) (hab : cmpK a b < 0) (hk : keyIn .i64 b.table = true) (m : Nat) : law19_RequestOrder_l1 2000 (m + 6) (false, 3, 0, [wT a 2, wK a 6, wK b 6], [], ()) = some true := by
  have hc := compare_eq 2000 (by omega) a b
  have hd : decide (cmpK a b ≥ 0) = false := decide_eq_false (by omega)
  obtain ⟨t, i⟩ := a
  obtain ⟨u, j⟩ := b
  simp only at h hk
  subst h
  simp [law19_RequestOrder_l1, loopF, law19_RequestOrder_j2, jn, idx, wT, wK, look_sm hk, put_sm hk, mget, w64, hc, hd]
theorem ord4 (a b : Key) (h : a.table ≠ b.table) (hab : cmpK a b < 0) (hk : keyIn .i64 a.table = true) (hk2 : keyIn .i64 b.table = true) (m : Nat) : law19_RequestOrder_l1 2000 (m + 6) (false, 4, 0, [wT a 2, wT b 2, wK a 6, wK b 6], [], ()) = some true := by
  have hc := compare_eq 2000 (by omega) a b
  have hc2 := compare_eq 2000 (by omega) ⟨a.table, 0⟩ ⟨b.table, 0⟩
  have hd : decide (cmpK a b ≥ 0) = false := decide_eq_false (by omega)
  have hd2 : decide (cmpK ⟨a.table, 0⟩ ⟨b.table, 0⟩ ≥ 0) = false := by
    refine decide_eq_false ?_
    have h1 := (@cmpK_lt a b).1 hab
    have h2 : cmpK ⟨a.table, 0⟩ ⟨b.table, 0⟩ < 0 := cmpK_lt.2 (.inl (by show a.table < b.table; omega))
    omega
  obtain ⟨t, i⟩ := a
  obtain ⟨u, j⟩ := b
  simp only at h hk hk2 hc hc2 hd hd2
  have h' : ¬ u = t := fun e => h e.symm
  simp [law19_RequestOrder_l1, loopF, law19_RequestOrder_j2, jn, idx, wT, wK, look_sm hk, put_sm hk, look_sm hk2, put_sm hk2, mget, w64, hc, hc2, hd, hd2, h, h']
theorem plainRequestOrder (s : Schema) (q : Request) (h1 : okT tab 9 (.st 1) s) (h2 : okT tab 9 (.st 3) q) : ∃ n, law19_RequestOrder n s q = some true := by
  refine ⟨2000, ?_⟩
  unfold law19_RequestOrder
  rw [bindE wakes19, Bool.not_true, cond_false, bindE (overQ_eq 2000 (by omega) s [q] (by simp))]
  cases ho : overQ s [q] with
  | true => rfl
  | false =>
    rw [cond_false]
    have hs := overQ_len ho
    rw [bindE (reqLocks_eq s (by omega) q)]
    cases hr : right s with
    | false => unfold locksE; rw [hr]; rfl
    | true =>
      cases ha : reqOk s q with
      | false => unfold locksE; rw [hr, ha]; rfl
      | true =>
        obtain ⟨f1, f2, f3, f4, _, f8, _⟩ := reqOk_facts ha
        have e1 : locksE s q = (0, locksP q) := by unfold locksE; rw [hr, ha]; rfl
        have k1 := key_in_tab (show s.tables.length ≤ 1000 by omega) f3
        have k2 := key_in_tab (show s.tables.length ≤ 1000 by omega) f4
        rw [e1]
        show law19_RequestOrder_l1 2000 2000 (false, ((locksP q).length : Int), 0, locksP q, [], ()) = some true
        have lE : ∀ a b : Key, cmpK a b < 0 → keyIn .i64 a.table = true → keyIn .i64 b.table = true → law19_RequestOrder_l1 2000 2000 (false, ((lockE a b).length : Int), 0, lockE a b, [], ()) = some true := by
          intro a b hab ha hb
          unfold lockE
          by_cases hc : a.table = b.table
          · rw [if_pos hc]; exact ord3 a b hc hab hb 1994
          · rw [if_neg hc]; exact ord4 a b hc hab ha hb 1994
        unfold locksP
        split
        · exact ord2 _ _ _ k1 1994
        split
        · exact ord1 _ _ k1 1994
        split
        · exact ord2 _ _ _ k1 1994
        split
        · exact ord2 _ _ _ k1 1994
        split
        · rename_i h8
          split
          · rename_i hc; exact lE _ _ hc k2 k1
          · rename_i hc
            refine lE _ _ ?_ k1 k2
            have n1 := @cmpK_neg q.to q.key
            have n2 : cmpK q.to q.key ≠ 0 := fun e => (f8 h8).1 (cmpK_zero.1 e).symm
            omega
        · rfl
end Go.Proofs.YtlfjoaipbpendaaGreatDoor

/- What the rows' listed variables give the walk; one start that fits. -/
namespace Go.Proofs.YtlfjoaipbpendaaGreatDoor
open Go Go.Bur Go.RowKit Go.ChangeShapes
set_option linter.unusedVariables false
set_option maxRecDepth 100000

def laidL : List (String × DataW Unit) := [("math/bits.deBruijn32tab", Rows.laid_math_bits_deBruijn32tab), ("math/bits.deBruijn64tab", Rows.laid_math_bits_deBruijn64tab), ("internal/strconv.uint64pow10", Rows.laid_internal_strconv_uint64pow10), ("strconv.ErrRange", Rows.laid_strconv_ErrRange), ("strconv.ErrSyntax", Rows.laid_strconv_ErrSyntax)]

/-! ### One start that fits -/
abbrev synS : ByteArray := { data := #[105, 110, 118, 97, 108, 105, 100, 32, 115, 121, 110, 116, 97, 120] }
abbrev rngS : ByteArray := { data := #[118, 97, 108, 117, 101, 32, 111, 117, 116, 32, 111, 102, 32, 114, 97, 110, 103, 101] }
noncomputable def low : Nat := (World.holding Tryz.prog default ⟨#[], #[], []⟩).heap.size
def lay (cs : Array Value) : Obj → Obj
  | .cells _ t frozen => .cells cs t frozen
  | o => o
noncomputable def laidWorld (os : Os) : World :=
  let w0 := World.holding Tryz.prog os ⟨#[.cells #[.string synS] 224, .cells #[.string rngS] 224], #[], []⟩
  { w0 with heap := ((((w0.heap.modify 0 (lay #[.int .u64 1, .int .u64 10, .int .u64 100, .int .u64 1000, .int .u64 10000, .int .u64 100000, .int .u64 1000000, .int .u64 10000000, .int .u64 100000000, .int .u64 1000000000, .int .u64 10000000000, .int .u64 100000000000, .int .u64 1000000000000, .int .u64 10000000000000, .int .u64 100000000000000, .int .u64 1000000000000000, .int .u64 10000000000000000, .int .u64 100000000000000000, .int .u64 1000000000000000000, .int .u64 10000000000000000000])).modify 2 (lay #[.iface 222 (.pointer (some ⟨low, 0, none⟩))])).modify 3 (lay #[.iface 222 (.pointer (some ⟨low + 1, 0, none⟩))])).modify 4 (lay #[.int .u8 0, .int .u8 1, .int .u8 28, .int .u8 2, .int .u8 29, .int .u8 14, .int .u8 24, .int .u8 3, .int .u8 30, .int .u8 22, .int .u8 20, .int .u8 15, .int .u8 25, .int .u8 17, .int .u8 4, .int .u8 8, .int .u8 31, .int .u8 27, .int .u8 13, .int .u8 23, .int .u8 21, .int .u8 19, .int .u8 16, .int .u8 7, .int .u8 26, .int .u8 12, .int .u8 18, .int .u8 6, .int .u8 11, .int .u8 5, .int .u8 10, .int .u8 9])).modify 5 (lay #[.int .u8 0, .int .u8 1, .int .u8 56, .int .u8 2, .int .u8 57, .int .u8 49, .int .u8 28, .int .u8 3, .int .u8 61, .int .u8 58, .int .u8 42, .int .u8 50, .int .u8 38, .int .u8 29, .int .u8 17, .int .u8 4, .int .u8 62, .int .u8 47, .int .u8 59, .int .u8 36, .int .u8 45, .int .u8 43, .int .u8 51, .int .u8 22, .int .u8 53, .int .u8 39, .int .u8 33, .int .u8 30, .int .u8 24, .int .u8 18, .int .u8 12, .int .u8 5, .int .u8 63, .int .u8 55, .int .u8 48, .int .u8 27, .int .u8 60, .int .u8 41, .int .u8 37, .int .u8 16, .int .u8 46, .int .u8 35, .int .u8 44, .int .u8 21, .int .u8 52, .int .u8 32, .int .u8 23, .int .u8 11, .int .u8 54, .int .u8 26, .int .u8 40, .int .u8 15, .int .u8 34, .int .u8 20, .int .u8 31, .int .u8 10, .int .u8 25, .int .u8 14, .int .u8 19, .int .u8 9, .int .u8 13, .int .u8 8, .int .u8 7, .int .u8 6]) }
theorem laidWorld_met (os : Os) (args : Array Value) : laidMet Tryz.prog laidL ((laidWorld os).forCall (fun _ _ => 0) ⟨#[], args, []⟩).memory :=
  laidMet_of_run3 8 (by kernel_rfl) (by kernel_rfl) (by kernel_rfl)

/-! ### What it gives -/
theorem gPow : Tryz.prog.globalNamed "internal/strconv.uint64pow10" = some 0 := by kernel_rfl
theorem gSyn : Tryz.prog.globalNamed "strconv.ErrSyntax" = some 2 := by kernel_rfl
theorem gRng : Tryz.prog.globalNamed "strconv.ErrRange" = some 3 := by kernel_rfl
theorem gPowT : (Tryz.prog.globals[0]?).map (·.type) = some 193 := by kernel_rfl
theorem gSynT : (Tryz.prog.globals[2]?).map (·.type) = some 150 := by kernel_rfl
theorem gRngT : (Tryz.prog.globals[3]?).map (·.type) = some 150 := by kernel_rfl
theorem starE : "*" ++ "errors.errorString" = "*errors.errorString" := by decide
theorem row222 (u : TypeId) (h : Tryz.prog.typeName? 3 u = some "*errors.errorString") : u = 222 :=
  typeName_ptr_named (nm := "errors.errorString") (by rw [starE]; kernel_rfl) (by kernel_rfl) (by decide) u (by rw [starE]; exact h)
theorem c224 : Tryz.prog.cellsOf 224 = 1 := by kernel_rfl
theorem c9 : Tryz.prog.cellsOf 9 = 1 := by kernel_rfl
theorem bx_cell {W : World} {g : Nat} {v : Value} (h : W.cell? ⟨g, 0, none⟩ = some v) {W' : World} (k : Keep [] W W') : W'.cell? ⟨g, 0, none⟩ = some v := by
  have hlt : g < W.heap.size := by
    rcases Nat.lt_or_ge g W.heap.size with h' | h'
    · exact h'
    · simp [World.cell?, Array.getElem?_eq_none h'] at h
  rw [← h]
  simp only [World.cell?, k.block g hlt (by simp)]
theorem bx_row {W : World} {g : Nat} {vs : Array Value} (h : gRow g vs W) {W' : World} (k : Keep [] W W') : gRow g vs W' := by
  unfold gRow at h ⊢
  have hlt : g < W.heap.size := by
    rcases Nat.lt_or_ge g W.heap.size with h' | h'
    · exact h'
    · simp [Array.getElem?_eq_none h'] at h
  rw [k.block g hlt (by simp)]
  exact h
theorem globOf {W : World} (hL : laidMet Tryz.prog laidL W) (hsh : W.ShapedOpen Tryz.prog) : ∀ p ∈ glob, Bx [] W p := by
  have h2 : laidMet Tryz.prog (("internal/strconv.uint64pow10", Lib.tabData .u64 Lib.pow10Tab) :: ("strconv.ErrRange", Rows.laid_strconv_ErrRange) :: ("strconv.ErrSyntax", Rows.laid_strconv_ErrSyntax) :: []) W := hL.tail.tail
  have t0 : Lib.TabIs Tryz.prog W "internal/strconv.uint64pow10" .u64 Lib.pow10Tab := Lib.tabIs_of_head gPow gPowT Tryz.underlying193 Tryz.underlying126 (by kernel_rfl) (by kernel_rfl) h2
  obtain ⟨a0, s0, v0, -, -, -⟩ := laid_sentinel h2.tail gRng gRngT Tryz.underlying150 row222 Tryz.underlying222 Tryz.underlying224 rfl rfl Tryz.underlying9 c224 c9
  obtain ⟨a1, s1, v1, -, -, -⟩ := laid_sentinel h2.tail.tail gSyn gSynT Tryz.underlying150 row222 Tryz.underlying222 Tryz.underlying224 rfl rfl Tryz.underlying9 c224 c9
  obtain ⟨m, hm⟩ := cell_of_shapedOpen_int (P := Tryz.prog) (g := 1) (t := 3) (zero := #[.int .i64 0]) hsh (of_decide_eq_true (by kernel_rfl)) (by kernel_rfl) rfl (by kernel_rfl) (by kernel_rfl) Tryz.underlying3
  have tR : gRow 0 (Lib.pow10Tab.map fun z => Value.int .u64 z).toArray W := by
    unfold Lib.TabIs World.var? at t0
    rw [gPow] at t0
    exact t0
  intro p hp W' k
  simp only [glob, List.mem_cons, List.not_mem_nil, or_false] at hp
  rcases hp with rfl | rfl | rfl | rfl
  · exact bx_row tR k
  · exact ⟨m, bx_cell hm k⟩
  · exact ⟨_, _, bx_cell (by have h0 := World.var?_cell gSyn v1 0; simpa using h0) k⟩
  · exact ⟨_, _, bx_cell (by have h0 := World.var?_cell gRng v0 0; simpa using h0) k⟩

/-- The wrap for a row that lists variables, the world's shape kept. -/
theorem returnsBoth {H : Type} {enc : TypeId × Value → H} {a : Assume} {C : Checked} {os : Os} {f : FuncId} {fn : Func} {s : ChangeSpec} {conds : List PathCond} {apart fresh handsOn again : Bool} {X : World → Array Value → Prop}
    (hX : ∀ (w w' : World) (args : Array Value), w.heap = w'.heap → X w args → X w' args)
    (own : ownKnob C.prog.godebug = none) (started : os.Started) (noInit : C.prog.inits.idxOf? f = none) (hfn : C.prog.funcs[f]? = some fn)
    (witness : ∃ (w : World) (tape : Tape) (i : Input), w.os = os ∧ (w.forCall tape i).Shaped C.prog ∧ i.vars = [] ∧ Input.okWide C.prog (w.forCall tape i) .any w.heap.size f i ∧
      ((s.pre enc C.prog fn conds apart (w.forCall tape i).memory i.args ∧ X (w.forCall tape i).memory i.args) ∧ sizedMet enc C.prog fn (OpenSpec.ofChange s) apart (w.forCall tape i).memory i.args) ∧ a.holds C.prog (lone (Frame.enter C.prog f i.args .normal) [] (w.forCall tape i)))
    (contract : ∀ (W : World) (base : Nat) (args : Array Value) (ds gs : List (DataW H)) (before : List MemPlace),
      (∀ (j : Nat) t v, fn.params[j]? = some t → args[j]? = some v → Value.okWide C.prog W .any base t v) →
      DataW.Whole enc C.prog fn.params.toList s.vars apart W args.toList ds gs before →
      conds.all (PathCond.test C.prog ⟨fn.params.toList, ds, s.plain.varTypes C.prog, gs⟩) = true →
      X W args → W.ShapedOpen C.prog →
      a.holds C.prog (lone (Frame.enter C.prog f args .normal) [] W) →
      Calls C.prog f args W fun e W' => ∃ v, e = .returned v ∧ s.post enc C.prog fn apart fresh handsOn again W args v W') :
    ReturnsInHanded a C os f .any (fun w args => (s.pre enc C.prog fn conds apart w args ∧ X w args) ∧ sizedMet enc C.prog fn (OpenSpec.ofChange s) apart w args) (s.post enc C.prog fn apart fresh handsOn again) := by
  refine returnsInHanded_of_calls own started noInit witness ?_
  intro w tape i _ hsh _ hok hpre hholds
  obtain ⟨_, _, _, fn', hfn', _, _, _, _, hval⟩ := hok
  obtain rfl := Option.some.inj (hfn'.symm.trans hfn)
  obtain ⟨⟨⟨ds, gs, before, hw, hc⟩, hx⟩, _⟩ := hpre
  refine (contract (w.forCall tape i) w.heap.size i.args ds gs before hval (DataW.Whole.of_heap (w' := w.forCall tape i) (by rfl) hw) hc (hX _ _ _ (by rfl) hx) hsh hholds).mono fun e W' ⟨v, he, hp⟩ => ?_
  subst he
  exact ChangeSpec.post_blind hp
end Go.Proofs.YtlfjoaipbpendaaGreatDoor
