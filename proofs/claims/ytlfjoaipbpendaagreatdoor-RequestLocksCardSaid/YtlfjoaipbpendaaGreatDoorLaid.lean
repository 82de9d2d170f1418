/- What the functions of layer 5 (row) compute. -/
import Derived.Test.YtlfjoaipbpendaaGreatDoorF3
import Derived.Test.YtlfjoaipbpendaaGreatDoorLst4
import Derived.Test.YtlfjoaipbpendaaGreatDoorRw
import Derived.Test.YtlfjoaipbpendaaGreatDoorSx
import Derived.Test.YtlfjoaipbpendaaGreatDoorRows
import Derived.WalkKit
import Derived.ProofKit
import Derived.LaidLaws
import Derived.Deep.DeepLaidRun
import Derived.Lib.LaidTab
import Derived.Stop.LaidErr
import Derived.HandedShaped
import Derived.Shelf.Vars
namespace Go.Proofs.YtlfjoaipbpendaaGreatDoor
open Go.Bur
set_option linter.unusedSimpArgs false
set_option linter.unusedVariables false
set_option maxRecDepth 100000

/-! ### Keys -/
instance : DecidableEq Key := fun a b => match Int.decEq a.table b.table, Int.decEq a.id b.id with
  | .isTrue h, .isTrue k => .isTrue (by cases a; cases b; simp_all)
  | .isFalse h, _ => .isFalse (fun e => h (by rw [e]))
  | _, .isFalse h => .isFalse (fun e => h (by rw [e]))
def cmpI (a b : Int) : Int := if a < b then -1 else if a > b then 1 else 0
def cmpK (a b : Key) : Int := if cmpI a.table b.table ≠ 0 then cmpI a.table b.table else cmpI a.id b.id
theorem compare_int (n : Nat) (a b : Int) : cmp_Compare_int n a b = some (cmpI a b) := by
  unfold cmp_Compare_int cmp_isNaN_int cmpI
  by_cases h1 : a < b
  · simp [h1]
  · by_cases h2 : a > b
    · simp [h1, h2]
    · simp [h1, h2]
theorem compare_u16 (n : Nat) (a b : Int) : cmp_Compare_uint16 n a b = some (cmpI a b) := by
  unfold cmp_Compare_uint16 cmp_isNaN_uint16 cmpI
  by_cases h1 : a < b
  · simp [h1]
  · by_cases h2 : a > b
    · simp [h1, h2]
    · simp [h1, h2]
theorem or2 (n : Nat) (hn : 3 ≤ n) (a b : Int) : cmp_Or_int n [a, b] = some (if a ≠ 0 then a else b) := by
  obtain ⟨n, rfl⟩ : ∃ m, n = m + 3 := ⟨n - 3, by omega⟩
  unfold cmp_Or_int cmp_Or_int_l1
  by_cases ha : a = 0
  · by_cases hb : b = 0
    · subst ha hb; rfl
    · subst ha
      have : (b != 0) = true := by simpa using hb
      simp [loopF, idx, IntKind.wrap_i64, this]
  · have : (a != 0) = true := by simpa using ha
    simp [loopF, idx, this, ha]
theorem compare_eq (n : Nat) (hn : 3 ≤ n) (a b : Key) : row_Compare n a b = some (cmpK a b) := by
  unfold row_Compare
  rw [compare_int, compare_u16]
  simp only [Option.bind_some]
  rw [or2 n hn]
  rfl
theorem key_eqb (a b : Key) : Key.eqb a b = decide (a = b) := by
  obtain ⟨a1, a2⟩ := a
  obtain ⟨b1, b2⟩ := b
  by_cases h1 : a1 = b1 <;> by_cases h2 : a2 = b2 <;> simp [Key.eqb, h1, h2]
theorem cmpI_zero {a b : Int} : cmpI a b = 0 ↔ a = b := by unfold cmpI; split <;> (try split) <;> omega
theorem cmpI_neg {a b : Int} : cmpI a b = -cmpI b a := by unfold cmpI; split <;> split <;> (try split) <;> (try split) <;> omega
theorem cmpI_lt {a b : Int} : cmpI a b < 0 ↔ a < b := by unfold cmpI; split <;> (try split) <;> omega
theorem cmpI_rng (a b : Int) : cmpI a b = -1 ∨ cmpI a b = 0 ∨ cmpI a b = 1 := by unfold cmpI; split <;> (try split) <;> omega
theorem cmpK_zero {a b : Key} : cmpK a b = 0 ↔ a = b := by
  obtain ⟨a1, a2⟩ := a
  obtain ⟨b1, b2⟩ := b
  unfold cmpK
  by_cases h : cmpI a1 b1 = 0
  · have := cmpI_zero.1 h
    subst this
    simp [h, cmpI_zero]
  · have h' : a1 ≠ b1 := fun e => h (cmpI_zero.2 e)
    simp [h, h']
theorem cmpK_neg {a b : Key} : cmpK a b = -cmpK b a := by
  unfold cmpK
  have h1 := cmpI_neg (a := a.table) (b := b.table)
  have h2 := cmpI_neg (a := a.id) (b := b.id)
  by_cases h : cmpI b.table a.table = 0
  · rw [h] at h1; simp [h1, h, h2]
  · have : cmpI a.table b.table ≠ 0 := by omega
    simp [h, this, h1]
theorem cmpK_rng (a b : Key) : cmpK a b = -1 ∨ cmpK a b = 0 ∨ cmpK a b = 1 := by
  unfold cmpK; split
  · exact cmpI_rng _ _
  · exact cmpI_rng _ _
theorem cmpK_lt {a b : Key} : cmpK a b < 0 ↔ a.table < b.table ∨ a.table = b.table ∧ a.id < b.id := by
  unfold cmpK
  by_cases h : cmpI a.table b.table = 0
  · have := cmpI_zero.1 h
    simp only [ne_eq, h, not_true_eq_false, if_false, cmpI_lt]
    omega
  · have h' : a.table ≠ b.table := fun e => h (cmpI_zero.2 e)
    simp only [ne_eq, h, not_false_eq_true, if_true, cmpI_lt]
    omega
theorem ref_compare (n : Nat) (a b : Key) : ref05_Compare n a b = some (cmpK a b) := by
  unfold ref05_Compare
  rw [key_eqb]
  by_cases h : a = b
  · subst h
    rw [decide_eq_true rfl, cmpK_zero.2 rfl]; rfl
  · have h0 : cmpK a b ≠ 0 := fun e => h (cmpK_zero.1 e)
    have hr := cmpK_rng a b
    have hl := cmpK_lt (a := a) (b := b)
    rw [decide_eq_false h]
    simp only [cond_false, jn, ibeq]
    by_cases h1 : a.table < b.table
    · rw [decide_eq_true h1, cond_true]
      have : cmpK a b < 0 := hl.2 (.inl h1)
      show some (-1) = _
      congr 1; omega
    · rw [decide_eq_false h1, cond_false]
      by_cases h2 : a.table = b.table
      · rw [decide_eq_true h2, cond_true]
        by_cases h3 : a.id < b.id
        · have : cmpK a b < 0 := hl.2 (.inr ⟨h2, h3⟩)
          rw [decide_eq_true h3]
          show some (-1) = _
          congr 1; omega
        · have : ¬ cmpK a b < 0 := fun e => by have := hl.1 e; omega
          rw [decide_eq_false h3]
          show some 1 = _
          congr 1; omega
      · have : ¬ cmpK a b < 0 := fun e => by have := hl.1 e; omega
        rw [decide_eq_false h2, cond_false]
        show some 1 = _
        congr 1; omega

/-! ### Schemas -/
def right (s : Schema) : Bool := decide (1 ≤ s.tables.length ∧ s.tables.length ≤ 3) && !s.tables.any (fun b => decide (b.min > b.max))
theorem any_find {α : Type} {p : α → Bool} (l : List α) : l.any p = (l.findIdx? p).isSome := by
  induction l with
  | nil => rfl
  | cons x t ih =>
    rw [List.any_cons, List.findIdx?_cons]
    cases h : p x with
    | true => rfl
    | false => rw [if_neg (by decide), Option.isSome_map, Bool.false_or, ih]
theorem check_eq (n : Nat) (hn : 1003 ≤ n) (s : Schema) (hs : s.tables.length ≤ 1000) : row_Check n s = some (if right s then 0 else 150) := by
  have h2 : slices_ContainsFunc_Bounds_f72 n s.tables = some (s.tables.any fun b => decide (b.min > b.max)) := by
    have h3 : slices_IndexFunc_Bounds_f72 n s.tables = some (match s.tables.findIdx? (fun b => decide (b.min > b.max)) with | some j => (j : Int) | none => -1) := by
      show slices_IndexFunc_Bounds_f72_l1 n n (s.tables, (s.tables.length : Int), ((0 : Nat) : Int), ()) = _
      unfold slices_IndexFunc_Bounds_f72_l1
      refine (run_loop s.tables (fun (i : Nat) (_ : Unit) => (s.tables, (s.tables.length : Int), (i : Int), ())) (fun i x _ => if decide (x.min > x.max) then .inl (some (i : Int)) else .inr ()) (fun _ => some (-1)) (fun r i q x hx hi => ?_) (fun r q => ?_) n 0 () (by omega) (by omega)).trans ?_
      · simp only [lt_dec hi, cond_true, idx_nat, hx, Option.bind_some, row_Check_1, wrap_succ (show i < 4611686018427387904 by omega)]
        by_cases h : x.min > x.max
        · rw [decide_eq_true h]; rfl
        · rw [decide_eq_false h]; rfl
      · simp only [ge_dec (Nat.lt_irrefl _), cond_false]
      · rw [List.drop_zero, runL_find0]
        cases s.tables.findIdx? (fun b => decide (b.min > b.max)) with
        | none => rfl
        | some j => simp
    unfold slices_ContainsFunc_Bounds_f72
    rw [h3, any_find]
    cases s.tables.findIdx? (fun b => decide (b.min > b.max)) with
    | none => rfl
    | some j => simp
  unfold row_Check right
  rw [h2]
  simp only [jn, Option.bind_some]
  by_cases h : 1 ≤ s.tables.length ∧ s.tables.length ≤ 3
  · rw [decide_eq_true h, decide_eq_false (by omega : ¬ (s.tables.length : Int) < 1), decide_eq_false (by omega : ¬ (s.tables.length : Int) > 3)]
    cases s.tables.any (fun b => decide (b.min > b.max)) <;> rfl
  · rw [decide_eq_false h]
    by_cases h1 : (s.tables.length : Int) < 1
    · rw [decide_eq_true h1]; rfl
    · rw [decide_eq_false h1, decide_eq_true (by omega : (s.tables.length : Int) > 3)]; rfl
theorem right_eq (n : Nat) (hn : 1003 ≤ n) (s : Schema) (hs : s.tables.length ≤ 1000) : ref05_Right n s = some (right s) := by
  have h1 : ref05_Right_l1 n n (0, s, ()) = some (!s.tables.any fun b => decide (b.min > b.max)) := by
    show ref05_Right_l1 n n (((0 : Nat) : Int), s, ()) = _
    unfold ref05_Right_l1
    refine (run_loop s.tables (fun (i : Nat) (_ : Unit) => ((i : Int), s, ())) (fun i x _ => if decide (x.min > x.max) then .inl (some false) else .inr ()) (fun _ => some true) (fun r i q x hx hi => ?_) (fun r q => ?_) n 0 () (by omega) (by omega)).trans ?_
    · simp only [lt_dec hi, cond_true, idx_nat, hx, Option.bind_some, wrap_succ (show i < 4611686018427387904 by omega)]
      by_cases h : x.min > x.max
      · rw [decide_eq_true h]; rfl
      · rw [decide_eq_false h]; rfl
    · simp only [ge_dec (Nat.lt_irrefl _), cond_false]
    · rw [List.drop_zero, runL_any]
      cases s.tables.any (fun b => decide (b.min > b.max)) <;> rfl
  unfold ref05_Right right
  rw [h1]
  simp only [jn]
  by_cases h : 1 ≤ s.tables.length ∧ s.tables.length ≤ 3
  · rw [decide_eq_true h, decide_eq_false (by omega : ¬ (s.tables.length : Int) < 1), decide_eq_false (by omega : ¬ (s.tables.length : Int) > 3)]
    cases s.tables.any (fun b => decide (b.min > b.max)) <;> rfl
  · rw [decide_eq_false h]
    by_cases h1 : (s.tables.length : Int) < 1
    · rw [decide_eq_true h1]; rfl
    · rw [decide_eq_false h1, decide_eq_true (by omega : (s.tables.length : Int) > 3)]; rfl
theorem all1 (n : Nat) (hn : 3 ≤ n) (a : row_rule) : row_all n [a] = some (cond a.is 0 a.no) := by
  obtain ⟨n, rfl⟩ : ∃ m, n = m + 3 := ⟨n - 3, by omega⟩
  unfold row_all row_all_l1
  cases h : a.is <;> simp [loopF, idx, IntKind.wrap_i64, h]
def inTab (s : Schema) (k : Key) : Bool := decide (k.table ≥ 0) && decide (k.table < (s.tables.length : Int))
def keyErr (s : Schema) (k : Key) : Int := if inTab s k then 0 else 151
theorem inTab_iff {s : Schema} {k : Key} : inTab s k = true ↔ 0 ≤ k.table ∧ k.table < s.tables.length := by
  unfold inTab
  simp only [Bool.and_eq_true, decide_eq_true_iff, ge_iff_le]
theorem keyError_eq (n : Nat) (s : Schema) (k : Key) : ref05_KeyError n s k = some (keyErr s k) := by
  unfold ref05_KeyError keyErr inTab
  simp only [jn]
  by_cases h1 : k.table < 0
  · rw [decide_eq_true h1, decide_eq_false (by omega : ¬ k.table ≥ 0)]; rfl
  · rw [decide_eq_false h1, decide_eq_true (by omega : k.table ≥ 0)]
    by_cases h2 : k.table < (s.tables.length : Int)
    · rw [decide_eq_true h2, decide_eq_false (by omega : ¬ k.table ≥ (s.tables.length : Int))]; rfl
    · rw [decide_eq_false h2, decide_eq_true (by omega : k.table ≥ (s.tables.length : Int))]; rfl
theorem checkKey_eq (n : Nat) (hn : 1003 ≤ n) (s : Schema) (hs : s.tables.length ≤ 1000) (k : Key) : row_CheckKey n s k = some (if right s then keyErr s k else 150) := by
  unfold row_CheckKey keyErr inTab
  rw [check_eq n hn s hs]
  cases right s with
  | false => rfl
  | true =>
    simp only [if_true, Option.bind_some, show ((0 : Int) != 0) = false from by decide, cond_false, row_known, jn]
    cases decide (k.table ≥ 0) with
    | false => simp [all1 n (by omega)]
    | true => cases decide (k.table < (s.tables.length : Int)) <;> simp [all1 n (by omega)]
def fitsB (b : Bounds) (v : Int) : Bool := decide (v ≥ b.min) && decide (v ≤ b.max)
def rowErr (s : Schema) (r : Row) : Int :=
  if inTab s r.key then
    (if (r.note.size : Int) ≤ 8 then
      match idx s.tables r.key.table with
      | some x => if fitsB x r.val then 0 else 152
      | none => 0
    else 3)
  else 151
/-! ### Lists of rows -/
def good (s : Schema) (l : List Row) : Prop := (∀ r ∈ l, rowErr s r = 0) ∧ l.Pairwise (fun a b => cmpK a.key b.key < 0)
/-! ### Where a key is in a right list -/
/-- l is A, perhaps y with the key, and B. -/
structure At (l : List Row) (k : Key) (A : List Row) (y : Option Row) (B : List Row) : Prop where
  eq : l = A ++ (y.toList ++ B)
  lo : ∀ r ∈ A, cmpK r.key k < 0
  mid : ∀ r, y = some r → r.key = k
  hi : ∀ r ∈ B, cmpK k r.key < 0
/-! ### Finding -/
def at_ (l : List Row) (k : Key) : Option Nat := l.findIdx? fun r => decide (r.key = k)
/-! ### With, without, of, the same, sums -/
/-! ### Put -/
end Go.Proofs.YtlfjoaipbpendaaGreatDoor

/- Layer 15: sizes, sameness; the plain law IdealSame. -/
namespace Go.Proofs.YtlfjoaipbpendaaGreatDoor
open Go.Bur
set_option linter.unusedSimpArgs false
set_option linter.unusedVariables false
set_option maxRecDepth 100000

end Go.Proofs.YtlfjoaipbpendaaGreatDoor

/- Layer 15: what requests come to. -/
namespace Go.Proofs.YtlfjoaipbpendaaGreatDoor
open Go.Bur
set_option linter.unusedSimpArgs false
set_option linter.unusedVariables false
set_option maxRecDepth 100000

/-! ### Requests -/
def key0 : Key := ⟨0, 0⟩
def req0 : Request := ⟨0, key0, key0, 0, ByteArray.empty, 0⟩
def bareP (q : Request) : Request :=
  if q.kind = 1 ∨ q.kind = 4 then ⟨0, key0, q.to, q.val, q.note, q.n⟩
  else if q.kind = 2 then ⟨0, ⟨0, q.key.id⟩, q.to, q.val, q.note, q.n⟩
  else if q.kind = 3 then ⟨0, key0, q.to, 0, ByteArray.empty, q.n⟩
  else if q.kind = 5 then ⟨0, key0, q.to, q.val, ByteArray.empty, q.n⟩
  else if q.kind = 6 ∨ q.kind = 7 then ⟨0, key0, q.to, 0, q.note, q.n⟩
  else if q.kind = 8 then ⟨0, key0, key0, 0, q.note, q.n⟩
  else if q.kind = 10 then ⟨0, q.key, q.to, q.val, q.note, 0⟩
  else ⟨0, q.key, q.to, q.val, q.note, q.n⟩
theorem bare_eq (n : Nat) (q : Request) : ideal_bare n q = some (bareP q) := by
  unfold ideal_bare ideal_bare_j1 ideal_bare_j2 ideal_bare_j3 ideal_bare_j4 ideal_bare_j5 ideal_bare_j6 ideal_bare_j7 ideal_bare_j8 ideal_bare_j9 bareP
  simp only [jn, ibeq]
  have hE : ByteArray.mk #[] = ByteArray.empty := rfl
  rw [hE]
  by_cases h1 : q.kind = 1
  · simp [h1, key0]
  · by_cases h4 : q.kind = 4
    · simp [h4, key0]
    · by_cases h2 : q.kind = 2
      · simp [h2]
      · by_cases h3 : q.kind = 3
        · simp [h3, key0]
        · by_cases h5 : q.kind = 5
          · simp [h5, key0]
          · by_cases h6 : q.kind = 6
            · simp [h6, key0]
            · by_cases h7 : q.kind = 7
              · simp [h7, key0]
              · by_cases h8 : q.kind = 8
                · simp [h8, key0]
                · by_cases h10 : q.kind = 10
                  · simp [h10]
                  · simp [h1, h2, h3, h4, h5, h6, h7, h8, h10]
def moreOk (q : Request) : Bool := if q.kind = 8 then !Key.eqb q.key q.to && decide (q.val ≥ 0) else if q.kind = 10 then decide (q.n ≥ 1) else true
def reqOk (s : Schema) (q : Request) : Bool := (((((decide (q.kind ≥ 1) && decide (q.kind ≤ 12)) && Request.eqb (bareP q) req0) && decide ((q.note.size : Int) ≤ 8)) && inTab s q.key) && inTab s q.to) && moreOk q
theorem keyErr_beq (s : Schema) (k : Key) : (keyErr s k == 0) = inTab s k := by
  unfold keyErr
  cases inTab s k <;> rfl
theorem checkReq_eq (n : Nat) (hn : 1003 ≤ n) (s : Schema) (hs : s.tables.length ≤ 1000) (q : Request) : ideal_CheckRequest n s q = some (if right s then (if reqOk s q then 0 else 250) else 150) := by
  unfold ideal_CheckRequest reqOk moreOk
  rw [check_eq n hn s hs]
  cases hr : right s with
  | false => rfl
  | true =>
    simp only [if_true, Option.bind_some, show ((0 : Int) != 0) = false from by decide, cond_false, jn, bare_eq, checkKey_eq n hn s hs, hr, keyErr_beq, ideal_CheckRequest_j1, ideal_CheckRequest_j2, ibeq q.kind, show Request.mk 0 (Key.mk 0 0) (Key.mk 0 0) 0 ByteArray.empty 0 = req0 from rfl]
    cases decide (q.kind ≥ 1) <;> cases decide (q.kind ≤ 12) <;> cases Request.eqb (bareP q) req0 <;> cases decide ((q.note.size : Int) ≤ 8) <;> cases inTab s q.key <;> cases inTab s q.to <;> (by_cases h8 : q.kind = 8 <;> by_cases h10 : q.kind = 10 <;> cases Key.eqb q.key q.to <;> cases decide (q.val ≥ 0) <;> cases decide (q.n ≥ 1) <;> simp [h8, h10])
theorem inTab0 {s : Schema} (h : right s = true) : inTab s key0 = true := by
  unfold right at h
  simp only [Bool.and_eq_true, decide_eq_true_iff] at h
  refine inTab_iff.2 ⟨Int.le_refl _, ?_⟩
  show (0 : Int) < _
  omega
theorem condS (a b : Bool) : cond a (some b) (some false) = some (a && b) := by cases a <;> rfl
theorem condN (a b : Bool) : cond a (some false) (some b) = some (!a && b) := by cases a <;> rfl
theorem emptyB {b : ByteArray} (h : b.toList = ByteArray.empty.toList) : b = ByteArray.empty := by
  rw [ByteArray.toList_eq, ByteArray.toList_eq] at h
  exact Go.WideShapes.bytes_inj h
/-- What the document says of requests, kind by kind. -/
theorem rightReq_eq (n : Nat) (s : Schema) (hr : right s = true) (q : Request) : ref15_RightRequest n s q = some (reqOk s q) := by
  have h0 := inTab0 hr
  have hz : ∀ k : Key, k.table = 0 → k.id = 0 → inTab s k = true := fun k h1 h2 => by
    obtain ⟨a, b⟩ := k
    simp only at h1 h2
    subst h1 h2
    exact h0
  have hsz : ∀ b : ByteArray, b.toList = ByteArray.empty.toList → (b.size : Int) ≤ 8 := fun b hb => by
    have := emptyB hb
    rw [this]; decide
  obtain ⟨kind, key, to, val, note, m⟩ := q
  by_cases hk : kind = 1 ∨ kind = 2 ∨ kind = 3 ∨ kind = 4 ∨ kind = 5 ∨ kind = 6 ∨ kind = 7 ∨ kind = 8 ∨ kind = 9 ∨ kind = 10 ∨ kind = 11 ∨ kind = 12
  · have key' : ∀ b : Bool, (b = true ↔ reqOk s ⟨kind, key, to, val, note, m⟩ = true) → some b = some (reqOk s ⟨kind, key, to, val, note, m⟩) := fun b hb => by rw [Bool.eq_iff_iff.2 hb]
    rcases hk with rfl | rfl | rfl | rfl | rfl | rfl | rfl | rfl | rfl | rfl | rfl | rfl
    all_goals
      unfold ref15_RightRequest ref15_RightRequest_j1 ref15_RightRequest_j2 ref15_RightRequest_j3 ref15_RightRequest_j4 ref15_RightRequest_j5 ref15_RightRequest_j6 ref15_RightRequest_j7 ref15_RightRequest_j8 ref15_RightRequest_j9
      simp only [jn, keyError_eq, Option.bind_some, keyErr_beq, bne, Int.reduceBEq, cond_true, cond_false, condS, condN]
      refine key' _ ?_
      simp [reqOk, moreOk, bareP, req0, key0, Request.eqb, Bool.cond_eq_ite]
      try (intro hm)
      try (constructor <;> intro h <;> simp_all)
  · have h1 : reqOk s ⟨kind, key, to, val, note, m⟩ = false := by
      unfold reqOk
      by_cases a : kind ≥ 1
      · by_cases b : kind ≤ 12
        · omega
        · simp [b]
      · simp [a]
    rw [h1]
    simp only [not_or] at hk
    unfold ref15_RightRequest ref15_RightRequest_j1 ref15_RightRequest_j2 ref15_RightRequest_j3 ref15_RightRequest_j4 ref15_RightRequest_j5 ref15_RightRequest_j6 ref15_RightRequest_j7 ref15_RightRequest_j8 ref15_RightRequest_j9
    simp [jn, ibeq, hk]

/-! ### Rows by their keys -/
/-! ### What a request comes to -/
section
variable (n : Nat) (hn : 1003 ≤ n) (T : List Bounds) (k a b c d : Int) (v : Int) (note : ByteArray) (m : Int) (l : List Row)
end
theorem reqOk_facts {s : Schema} {q : Request} (h : reqOk s q = true) : 1 ≤ q.kind ∧ q.kind ≤ 12 ∧ inTab s q.key = true ∧ inTab s q.to = true ∧ (q.note.size : Int) ≤ 8 ∧ (q.kind = 8 → q.key ≠ q.to ∧ 0 ≤ q.val) ∧ (q.kind = 10 → 1 ≤ q.n) := by
  unfold reqOk at h
  simp only [Bool.and_eq_true, decide_eq_true_iff] at h
  obtain ⟨⟨⟨⟨⟨⟨h1, h2⟩, h3⟩, h4⟩, h5⟩, h6⟩, h7⟩ := h
  unfold moreOk at h7
  refine ⟨h1, h2, h5, h6, h4, fun e => ?_, fun e => ?_⟩
  · rw [if_pos e, key_eqb] at h7
    simpa using h7
  · rw [if_neg (by rw [e]; decide), if_pos e] at h7
    simpa using h7
end Go.Proofs.YtlfjoaipbpendaaGreatDoor

/- Layer 15: the plain law IdealDoes. -/
namespace Go.Proofs.YtlfjoaipbpendaaGreatDoor
open Go.Bur
set_option linter.unusedSimpArgs false
set_option linter.unusedVariables false
set_option maxRecDepth 100000

end Go.Proofs.YtlfjoaipbpendaaGreatDoor

/- More plain lemmas: loops as folds, lists in order, searches, things put into their place. -/
namespace Go.Bur
open Go.RowKit
set_option linter.unusedVariables false
set_option linter.unusedSimpArgs false

/-! ### Loops as folds -/
/-! ### Each of a list, and each two that follow one another -/
/-! ### Where a thing is in a list in order -/
section
variable {α : Type} {c : α → Int} {l A B : List α} {y : Option α}
end
/-! ### slices.DeleteFunc -/
/-! ### The first of its kind; a list changed place by place -/
end Go.Bur

/- Layer 7 (modes): which go together, by the code and by the document. -/
namespace Go.Proofs.YtlfjoaipbpendaaGreatDoor
open Go.Bur
set_option linter.unusedSimpArgs false
set_option linter.unusedVariables false
set_option maxRecDepth 100000

/-! ### Modes -/
def isM (a : Int) : Bool := decide (0 ≤ a ∧ a ≤ 6)
theorem isM_cases {a : Int} (h : isM a = true) : a = 0 ∨ a = 1 ∨ a = 2 ∨ a = 3 ∨ a = 4 ∨ a = 5 ∨ a = 6 := by
  have := of_decide_eq_true h; omega
def goesB (a b : Int) : Bool := isM a && isM b && (decide (a = 0) || decide (b = 0) || decide (a = 1 ∧ b ≤ 4) || decide (b = 1 ∧ a ≤ 4) || decide (a = 2 ∧ b = 2) || decide (a = 3 ∧ b = 3) || decide (a = 6 ∧ b = 6))
theorem mode_is_eq (n : Nat) (a : Int) : mode_is n a = some (isM a) := by
  unfold mode_is isM
  simp only [jn]
  by_cases h1 : a ≥ 0
  · rw [decide_eq_true h1]
    simp only [cond_true]
    congr 1
    exact decide_eq_decide.2 (by omega)
  · rw [decide_eq_false h1, decide_eq_false (show ¬ (0 ≤ a ∧ a ≤ 6) by omega)]; rfl
theorem ref_is_eq (n : Nat) (a : Int) : ref07_Is n a = some (isM a) := by
  unfold ref07_Is isM
  simp only [jn]
  by_cases h1 : a ≥ 0
  · rw [decide_eq_true h1]
    simp only [cond_true]
    congr 1
    exact decide_eq_decide.2 (by omega)
  · rw [decide_eq_false h1, decide_eq_false (show ¬ (0 ≤ a ∧ a ≤ 6) by omega)]; rfl
theorem goes_eq (n : Nat) (hn : 20 ≤ n) (a b : Int) : mode_Goes n a b = some (goesB a b) := by
  obtain ⟨n, rfl⟩ : ∃ m, n = m + 20 := ⟨n - 20, by omega⟩
  cases ha : isM a with
  | false => unfold mode_Goes goesB; simp only [mode_is_eq, ha, Option.bind_some, jn, cond_false, Bool.false_and]
  | true =>
    cases hb : isM b with
    | false => unfold mode_Goes goesB; simp only [mode_is_eq, ha, hb, Option.bind_some, jn, cond_true, cond_false, Bool.false_and, Bool.and_false]
    | true =>
      rcases isM_cases ha with rfl | rfl | rfl | rfl | rfl | rfl | rfl <;> rcases isM_cases hb with rfl | rfl | rfl | rfl | rfl | rfl | rfl <;> kernel_rfl
theorem rgoes_eq (n : Nat) (a b : Int) : ref07_Goes n a b = some (goesB a b) := by
  cases ha : isM a with
  | false => unfold ref07_Goes goesB; simp only [ref_is_eq, ha, Option.bind_some, jn, cond_true, Bool.not_false, Bool.false_and]
  | true =>
    cases hb : isM b with
    | false => unfold ref07_Goes goesB; simp only [ref_is_eq, ha, hb, Option.bind_some, jn, cond_true, cond_false, Bool.not_true, Bool.not_false, Bool.false_and, Bool.and_false]
    | true =>
      rcases isM_cases ha with rfl | rfl | rfl | rfl | rfl | rfl | rfl <;> rcases isM_cases hb with rfl | rfl | rfl | rfl | rfl | rfl | rfl <;> kernel_rfl
end Go.Proofs.YtlfjoaipbpendaaGreatDoor

/- Layer 19 (request): what is locked; RequestLocks, RequestOrder. -/
namespace Go.Proofs.YtlfjoaipbpendaaGreatDoor
open Go.Bur
set_option linter.unusedSimpArgs false
set_option linter.unusedVariables false
set_option maxRecDepth 100000

theorem wakes19 : law19_wakes 2000 = some true := by kernel_rfl
def bigReq (q : Request) : Bool := decide ((q.note.size : Int) > 100)
def overQ (s : Schema) (l : List Request) : Bool := decide (20 < s.tables.length) || l.any bigReq
theorem overQ_eq (n : Nat) (hn : 1003 ≤ n) (s : Schema) (l : List Request) (hl : l.length ≤ 1000) : law19_over n s l = some (overQ s l) := by
  unfold law19_over overQ
  by_cases h1 : 20 < s.tables.length
  · rw [decide_eq_true (by omega : (s.tables.length : Int) > 20), decide_eq_true h1]; rfl
  · rw [decide_eq_false (by omega : ¬ (s.tables.length : Int) > 20), decide_eq_false h1]
    show law19_over_l1 n n (l, (l.length : Int), ((0 : Nat) : Int), ()) = _
    unfold law19_over_l1
    refine (run_loop l (fun (i : Nat) (_ : Unit) => (l, (l.length : Int), (i : Int), ())) (fun _ x _ => if bigReq x then .inl (some true) else .inr ()) (fun _ => some false) (fun r i s x hx hi => ?_) (fun r s => ?_) n 0 () (by omega) (by omega)).trans ?_
    · simp only [lt_dec hi, cond_true, idx_nat, hx, Option.bind_some, wrap_succ (show i < 4611686018427387904 by omega)]
      unfold bigReq
      cases decide ((x.note.size : Int) > 100) <;> rfl
    · simp only [ge_dec (Nat.lt_irrefl _), cond_false]
    · rw [List.drop_zero, runL_any]
      cases l.any bigReq <;> rfl
theorem overQ_len {s : Schema} {l : List Request} (h : overQ s l = false) : s.tables.length ≤ 20 := by
  unfold overQ at h
  simp only [Bool.or_eq_false_iff, decide_eq_false_iff_not] at h
  omega

/-! ### What is locked -/
def wT (k : Key) (m : Int) : Want := ⟨⟨k.table, false, 0⟩, m⟩
def wK (k : Key) (m : Int) : Want := ⟨⟨k.table, true, k.id⟩, m⟩
def lockE (a b : Key) : List Want := if a.table = b.table then [wT a 2, wK a 6, wK b 6] else [wT a 2, wT b 2, wK a 6, wK b 6]
def locksP (q : Request) : List Want :=
  if q.kind = 1 then [wT q.key 1, wK q.key 3] else if q.kind = 2 then [wT q.key 3]
  else if q.kind = 3 ∨ q.kind = 4 ∨ q.kind = 5 ∨ q.kind = 6 then [wT q.key 2, wK q.key 5]
  else if q.kind = 7 then [wT q.key 2, wK q.key 6]
  else if q.kind = 8 then (if cmpK q.to q.key < 0 then lockE q.to q.key else lockE q.key q.to) else []
theorem ins2 (a b : Key) : slices_insertionSortCmpFunc_Key_f17 2000 0 2 [a, b] = (row_Compare 2000 b a).bind fun y => cond (decide (y < 0)) (some [b, a]) (some [a, b]) := by kernel_rfl
theorem sort2 (a b : Key) : slices_SortFunc_Key_f17 2000 [a, b] = some (if cmpK b a < 0 then [b, a] else [a, b]) := by
  have h1 : bits_Len 2000 (IntKind.wrap .u64 (([a, b] : List Key).length : Int)) = some 2 := by kernel_rfl
  have h2 : slices_insertionSortCmpFunc_Key_f17 2000 0 2 [a, b] = some (if cmpK b a < 0 then [b, a] else [a, b]) := by
    rw [ins2, compare_eq 2000 (by omega)]
    show cond (decide (cmpK b a < 0)) _ _ = _
    by_cases hc : cmpK b a < 0 <;> simp [hc]
  have h3 : slices_pdqsortCmpFunc_Key_f17 2000 0 2 2 [a, b] = (slices_insertionSortCmpFunc_Key_f17 2000 0 2 [a, b]).bind fun y => some y := by kernel_rfl
  unfold slices_SortFunc_Key_f17
  rw [bindE h1]
  show (slices_pdqsortCmpFunc_Key_f17 2000 0 2 2 [a, b]).bind _ = _
  rw [h3, h2]
  rfl
theorem kinds {k : Int} (h1 : 1 ≤ k) (h2 : k ≤ 12) : k = 1 ∨ k = 2 ∨ k = 3 ∨ k = 4 ∨ k = 5 ∨ k = 6 ∨ k = 7 ∨ k = 8 ∨ k = 9 ∨ k = 10 ∨ k = 11 ∨ k = 12 := by omega
theorem locks8 (a b : Key) : request_locks_j1 2000 (⟨2, 6⟩, [a, b], ()) = some (lockE a b) := by
  have h : request_locks_j1 2000 (⟨2, 6⟩, [a, b], ()) = cond (a.table != b.table) (some [wT a 2, wT b 2, wK a 6, wK b 6]) (some [wT a 2, wK a 6, wK b 6]) := by
    kernel_rfl
  rw [h]
  unfold lockE
  by_cases hc : a.table = b.table
  · simp [hc]
  · have : (a.table != b.table) = true := by simp; omega
    rw [this, if_neg hc]; rfl
theorem locks_eq (q : Request) (h1 : 1 ≤ q.kind) (h2 : q.kind ≤ 12) : request_locks 2000 q = some (locksP q) := by
  obtain ⟨kind, k, t, v, note, n⟩ := q
  simp only at h1 h2
  rcases kinds h1 h2 with rfl | rfl | rfl | rfl | rfl | rfl | rfl | rfl | rfl | rfl | rfl | rfl
  · kernel_rfl
  · kernel_rfl
  · kernel_rfl
  · kernel_rfl
  · kernel_rfl
  · kernel_rfl
  · kernel_rfl
  · have h : request_locks 2000 ⟨8, k, t, v, note, n⟩ = (slices_SortFunc_Key_f17 2000 [k, t]).bind fun y => request_locks_j1 2000 (⟨2, 6⟩, y, ()) := by kernel_rfl
    rw [h, sort2]
    show request_locks_j1 2000 (⟨2, 6⟩, (if cmpK t k < 0 then [t, k] else [k, t]), ()) = some (if cmpK t k < 0 then lockE t k else lockE k t)
    by_cases hc : cmpK t k < 0
    · rw [if_pos hc, if_pos hc, locks8]
    · rw [if_neg hc, if_neg hc, locks8]
  · kernel_rfl
  · kernel_rfl
  · kernel_rfl
  · kernel_rfl
theorem rlocks8 (a b : Key) (hne : a ≠ b) : ref19_Locks_j1 2000 (2, 6, [], a, b, ()) = some (lockE a b) := by
  have h : ref19_Locks_j1 2000 (2, 6, [], a, b, ()) = cond (b.table != a.table) (cond (!(Key.eqb b a)) (some [wT a 2, wT b 2, wK a 6, wK b 6]) (some [wT a 2, wT b 2, wK a 6])) (cond (!(Key.eqb b a)) (some [wT a 2, wK a 6, wK b 6]) (some [wT a 2, wK a 6])) := by
    kernel_rfl
  have he : Key.eqb b a = false := by rw [key_eqb]; exact decide_eq_false fun e => hne e.symm
  rw [h, he]
  unfold lockE
  by_cases hc : a.table = b.table
  · simp [hc]
  · have : (b.table != a.table) = true := by simp; omega
    rw [this, if_neg hc]; rfl
theorem rlocks1 (k : Key) (m1 m2 : Int) : ref19_Locks_j1 2000 (m1, m2, [], k, k, ()) = cond (m2 != 0) (some [wT k m1, wK k m2]) (some [wT k m1]) := by
  have h : ref19_Locks_j1 2000 (m1, m2, [], k, k, ()) = cond (k.table != k.table) (cond (m2 != 0) (cond (!(Key.eqb k k)) (some [wT k m1, wT k m1, wK k m2, wK k m2]) (some [wT k m1, wT k m1, wK k m2])) (some [wT k m1, wT k m1])) (cond (m2 != 0) (cond (!(Key.eqb k k)) (some [wT k m1, wK k m2, wK k m2]) (some [wT k m1, wK k m2])) (some [wT k m1])) := by
    kernel_rfl
  have he : Key.eqb k k = true := by rw [key_eqb]; exact decide_eq_true rfl
  have ht : (k.table != k.table) = false := by simp
  rw [h, he, ht]; rfl
theorem rlocks_eq (q : Request) (h1 : 1 ≤ q.kind) (h2 : q.kind ≤ 12) (h8 : q.kind = 8 → q.key ≠ q.to) : ref19_Locks 2000 q = some (locksP q) := by
  obtain ⟨kind, k, t, v, note, n⟩ := q
  simp only at h1 h2 h8
  rcases kinds h1 h2 with rfl | rfl | rfl | rfl | rfl | rfl | rfl | rfl | rfl | rfl | rfl | rfl
  · exact (show ref19_Locks 2000 ⟨1, k, t, v, note, n⟩ = ref19_Locks_j1 2000 (1, 3, [], k, k, ()) by kernel_rfl).trans (rlocks1 k 1 3)
  · exact (show ref19_Locks 2000 ⟨2, k, t, v, note, n⟩ = ref19_Locks_j1 2000 (3, 0, [], k, k, ()) by kernel_rfl).trans (rlocks1 k 3 0)
  · exact (show ref19_Locks 2000 ⟨3, k, t, v, note, n⟩ = ref19_Locks_j1 2000 (2, 5, [], k, k, ()) by kernel_rfl).trans (rlocks1 k 2 5)
  · exact (show ref19_Locks 2000 ⟨4, k, t, v, note, n⟩ = ref19_Locks_j1 2000 (2, 5, [], k, k, ()) by kernel_rfl).trans (rlocks1 k 2 5)
  · exact (show ref19_Locks 2000 ⟨5, k, t, v, note, n⟩ = ref19_Locks_j1 2000 (2, 5, [], k, k, ()) by kernel_rfl).trans (rlocks1 k 2 5)
  · exact (show ref19_Locks 2000 ⟨6, k, t, v, note, n⟩ = ref19_Locks_j1 2000 (2, 5, [], k, k, ()) by kernel_rfl).trans (rlocks1 k 2 5)
  · exact (show ref19_Locks 2000 ⟨7, k, t, v, note, n⟩ = ref19_Locks_j1 2000 (2, 6, [], k, k, ()) by kernel_rfl).trans (rlocks1 k 2 6)
  · have hne := h8 rfl
    have h : ref19_Locks 2000 ⟨8, k, t, v, note, n⟩ = (ref05_Compare 2000 k t).bind fun y => cond (decide (y > 0)) (ref19_Locks_j1 2000 (2, 6, [], t, k, ())) (ref19_Locks_j1 2000 (2, 6, [], k, t, ())) := by kernel_rfl
    rw [h, ref_compare, rlocks8 k t hne, rlocks8 t k (fun e => hne e.symm)]
    show cond (decide (cmpK k t > 0)) _ _ = some (if cmpK t k < 0 then lockE t k else lockE k t)
    have := @cmpK_neg k t
    by_cases hc : cmpK t k < 0
    · rw [if_pos hc, decide_eq_true (show cmpK k t > 0 by omega)]; rfl
    · rw [if_neg hc, decide_eq_false (show ¬ cmpK k t > 0 by omega)]; rfl
  · kernel_rfl
  · kernel_rfl
  · kernel_rfl
  · kernel_rfl
theorem lockE_len (a b : Key) : (lockE a b).length ≤ 4 := by unfold lockE; split <;> simp
theorem locksP_len (q : Request) : (locksP q).length ≤ 4 := by
  unfold locksP
  split
  · simp
  split
  · simp
  split
  · simp
  split
  · simp
  split
  · split <;> exact lockE_len _ _
  · simp
def locksE (s : Schema) (q : Request) : Int × List Want := if right s then (if reqOk s q then (0, locksP q) else (250, [])) else (150, [])
theorem reqLocks_eq (s : Schema) (hs : s.tables.length ≤ 1000) (q : Request) : request_Locks 2000 s q = some (locksE s q) := by
  unfold request_Locks locksE
  rw [checkReq_eq 2000 (by omega) s hs q]
  by_cases hr : right s = true
  · rw [if_pos hr, if_pos hr]
    by_cases hq : reqOk s q = true
    · obtain ⟨h1, h2, _⟩ := reqOk_facts hq
      rw [if_pos hq, if_pos hq]
      show (request_locks 2000 q).bind _ = _
      rw [locks_eq q h1 h2]; rfl
    · rw [if_neg hq, if_neg hq]; rfl
  · rw [if_neg hr, if_neg hr]; rfl

/-! ### Which go together -/
def clash (x y : Want) : Bool := Res.eqb x.res y.res && !goesB x.mode y.mode
def togP (a b : List Want) : Bool := !a.any fun x => b.any fun y => clash x y
def togE (s : Schema) (a b : Request) : Bool × Int := if right s then (if reqOk s a then (if reqOk s b then (togP (locksP a) (locksP b), 0) else (false, 250)) else (false, 250)) else (false, 150)
theorem tog3 (q : Request) (x : Want) (a b : List Want) (m : Int) (hb : b.length ≤ 1000) (i : Int) (r2 : Int × Int × Request × List Want × Unit → Option (Bool × Int)) :
    request_Together_l3 2000 r2 2000 (m, i, (b.length : Int), 0, q, x, a, b, ()) = if b.any (fun y => clash x y) then some (false, 0) else r2 (m, IntKind.wrap .i64 (i + 1), q, a, ()) := by
  unfold request_Together_l3
  refine (run_loop b (fun (k : Nat) (_ : Unit) => (m, i, (b.length : Int), (k : Int), q, x, a, b, ())) (fun _ y _ => if clash x y then .inl (some (false, 0)) else .inr ()) (fun _ => r2 (m, IntKind.wrap .i64 (i + 1), q, a, ())) (fun r k s y hy hk => ?_) (fun r s => ?_) 2000 0 () (by omega) (by omega)).trans ?_
  · simp only [lt_dec hk, cond_true, idx_nat, hy, Option.bind_some, jn, wrap_succ (show k < 4611686018427387904 by omega), goes_eq 2000 (by omega)]
    unfold clash
    cases Res.eqb x.res y.res <;> cases goesB x.mode y.mode <;> rfl
  · simp only [ge_dec (Nat.lt_irrefl _), cond_false]
  · rw [List.drop_zero, runL_any]
theorem tog2 (q : Request) (h1 : 1 ≤ q.kind) (h2 : q.kind ≤ 12) (a : List Want) (ha : a.length ≤ 1000) :
    request_Together_l2 2000 2000 ((a.length : Int), 0, q, a, ()) = some (togP a (locksP q), 0) := by
  unfold request_Together_l2
  refine (run_loop a (fun (k : Nat) (_ : Unit) => ((a.length : Int), (k : Int), q, a, ())) (fun _ x _ => if (locksP q).any (fun y => clash x y) then .inl (some (false, 0)) else .inr ()) (fun _ => some (true, 0)) (fun r k s y hy hk => ?_) (fun r s => ?_) 2000 0 () (by omega) (by omega)).trans ?_
  · simp only [lt_dec hk, cond_true, idx_nat, hy, Option.bind_some, locks_eq q h1 h2]
    have hl := locksP_len q
    rw [tog3 _ _ _ _ _ (by omega)]
    by_cases hc : ((locksP q).any fun z => clash y z) = true
    · rw [if_pos hc, if_pos hc]
    · rw [if_neg hc, if_neg hc, wrap_succ (show k < 4611686018427387904 by omega)]
  · simp only [ge_dec (Nat.lt_irrefl _), cond_false]
  · rw [List.drop_zero, runL_any]
    unfold togP
    cases a.any fun x => (locksP q).any fun y => clash x y <;> rfl
theorem tog_eq (s : Schema) (hs : s.tables.length ≤ 1000) (a b : Request) : request_Together 2000 s a b = some (togE s a b) := by
  have h0 : request_Together 2000 s a b = (ideal_CheckRequest 2000 s a).bind fun y => cond (y != 0) (some (false, y)) ((ideal_CheckRequest 2000 s b).bind fun z => cond (z != 0) (some (false, z)) ((request_locks 2000 a).bind fun l => request_Together_l2 2000 2000 ((l.length : Int), 0, b, l, ()))) := by kernel_rfl
  rw [h0, checkReq_eq 2000 (by omega) s hs a, checkReq_eq 2000 (by omega) s hs b]
  unfold togE
  by_cases hr : right s = true
  · simp only [if_pos hr]
    by_cases ha : reqOk s a = true
    · obtain ⟨h1, h2, _⟩ := reqOk_facts ha
      simp only [if_pos ha]
      by_cases hb : reqOk s b = true
      · obtain ⟨h3, h4, _⟩ := reqOk_facts hb
        simp only [if_pos hb]
        show (request_locks 2000 a).bind _ = _
        rw [locks_eq a h1 h2]
        have hl := locksP_len a
        exact tog2 b h3 h4 _ (by omega)
      · simp only [if_neg hb]; rfl
    · simp only [if_neg ha]; rfl
  · simp only [if_neg hr]; rfl
theorem rtog2 (x : Want) (a b : List Want) (i : Nat) (hi : a[i]? = some x) (hil : i < a.length) (ha : a.length ≤ 1000) (hb : b.length ≤ 1000) (r1 : Int × List Want × List Want × Unit → Option Bool) :
    ref19_Together_l2 2000 r1 2000 ((i : Int), 0, a, b, ()) = if b.any (fun y => clash x y) then some false else r1 (((i + 1 : Nat) : Int), a, b, ()) := by
  unfold ref19_Together_l2
  refine (run_loop b (fun (k : Nat) (_ : Unit) => ((i : Int), (k : Int), a, b, ())) (fun _ y _ => if clash x y then .inl (some false) else .inr ()) (fun _ => r1 (((i + 1 : Nat) : Int), a, b, ())) (fun r k s y hy hk => ?_) (fun r s => ?_) 2000 0 () (by omega) (by omega)).trans ?_
  · simp only [lt_dec hk, cond_true, idx_nat, hy, hi, Option.bind_some, jn, wrap_succ (show k < 4611686018427387904 by omega), rgoes_eq]
    unfold clash
    cases Res.eqb x.res y.res <;> cases goesB x.mode y.mode <;> rfl
  · simp only [ge_dec (Nat.lt_irrefl _), cond_false, wrap_succ (show i < 4611686018427387904 by omega)]
  · rw [List.drop_zero, runL_any]
theorem rtog_eq (a b : Request) (a1 : 1 ≤ a.kind) (a2 : a.kind ≤ 12) (a8 : a.kind = 8 → a.key ≠ a.to) (b1 : 1 ≤ b.kind) (b2 : b.kind ≤ 12) (b8 : b.kind = 8 → b.key ≠ b.to) : ref19_Together 2000 a b = some (togP (locksP a) (locksP b)) := by
  unfold ref19_Together
  rw [bindE (rlocks_eq a a1 a2 a8), bindE (rlocks_eq b b1 b2 b8)]
  have hla := locksP_len a
  have hlb := locksP_len b
  generalize locksP a = l at hla ⊢
  generalize locksP b = m at hlb ⊢
  unfold ref19_Together_l1
  refine (run_loop l (fun (k : Nat) (_ : Unit) => ((k : Int), l, m, ())) (fun _ x _ => if m.any (fun y => clash x y) then .inl (some false) else .inr ()) (fun _ => some true) (fun r k s y hy hk => ?_) (fun r s => ?_) 2000 0 () (by omega) (by omega)).trans ?_
  · simp only [lt_dec hk, cond_true]
    rw [rtog2 y l m k hy hk (by omega) (by omega)]
    by_cases hc : (m.any fun z => clash y z) = true
    · rw [if_pos hc, if_pos hc]
    · rw [if_neg hc, if_neg hc]
  · simp only [ge_dec (Nat.lt_irrefl _), cond_false]
  · rw [List.drop_zero, runL_any]
    unfold togP
    cases l.any fun x => m.any fun y => clash x y <;> rfl
theorem want_eqb (x : Want) : Want.eqb x x = true := by simp [Want.eqb]
theorem sameWants_eq (a : List Want) (ha : a.length ≤ 1000) : ref19_SameWants 2000 a a = some true := by
  unfold ref19_SameWants
  have : ((a.length : Int) != (a.length : Int)) = false := by simp
  rw [condF' this]
  show ref19_SameWants_l1 2000 2000 (a, a, ((0 : Nat) : Int), ()) = _
  unfold ref19_SameWants_l1
  refine (run_loop a (fun (k : Nat) (_ : Unit) => (a, a, (k : Int), ())) (fun _ x _ => .inr ()) (fun _ => some true) (fun r k s y hy hk => ?_) (fun r s => ?_) 2000 0 () (by omega) (by omega)).trans ?_
  · simp only [lt_dec hk, cond_true, idx_nat, hy, Option.bind_some, want_eqb, Bool.not_true, cond_false, wrap_succ (show k < 4611686018427387904 by omega)]
  · simp only [ge_dec (Nat.lt_irrefl _), cond_false]
  · rw [List.drop_zero, runL_skip]
end Go.Proofs.YtlfjoaipbpendaaGreatDoor

/- Layer 19 (request): the laws RequestLocks and RequestOrder. -/
namespace Go.Proofs.YtlfjoaipbpendaaGreatDoor
open Go.Bur
set_option linter.unusedSimpArgs false
set_option linter.unusedVariables false
set_option maxRecDepth 100000

theorem blind_eq (q : Request) : request_Blind 2000 q = some (q.kind == 7 || q.kind == 8) := by
  unfold request_Blind
  cases h : (q.kind == 7) <;> rfl
theorem ends_eq (q : Request) : request_Ends 2000 q = some (q.kind == 11 || q.kind == 12) := by
  unfold request_Ends
  cases h : (q.kind == 11) <;> rfl
theorem plainRequestLocks (s : Schema) (a b : Request) (h1 : okT tab 9 (.st 1) s) (h2 : okT tab 9 (.st 3) a) (h3 : okT tab 9 (.st 3) b) : ∃ n, law19_RequestLocks n s a b = some true := by
  refine ⟨2000, ?_⟩
  unfold law19_RequestLocks
  rw [bindE wakes19, Bool.not_true, cond_false, bindE (overQ_eq 2000 (by omega) s [a, b] (by simp))]
  cases ho : overQ s [a, b] with
  | true => rfl
  | false =>
    rw [cond_false]
    have hs := overQ_len ho
    rw [bindE (reqLocks_eq s (by omega) a), bindE (tog_eq s (by omega) a b), bindE (blind_eq a)]
    have hR : ref05_Right 2000 s = some (right s) := right_eq 2000 (by omega) s (by omega)
    simp only [jn, hR, ends_eq, Option.bind_some]
    cases hr : right s with
    | false =>
      have e1 : locksE s a = (150, []) := by unfold locksE; rw [hr]; rfl
      have e2 : togE s a b = (false, 150) := by unfold togE; rw [hr]; rfl
      rw [e1, e2]
      cases (a.kind == 7) <;> cases (a.kind == 8) <;> cases (a.kind == 11) <;> cases (a.kind == 12) <;> rfl
    | true =>
      have hQ : ∀ q, ref15_RightRequest 2000 s q = some (reqOk s q) := fun q => rightReq_eq 2000 s hr q
      simp only [hQ, Option.bind_some]
      cases ha : reqOk s a with
      | false =>
        have e1 : locksE s a = (250, []) := by unfold locksE; rw [hr, ha]; rfl
        have e2 : togE s a b = (false, 250) := by unfold togE; rw [hr, ha]; rfl
        rw [e1, e2]
        cases (a.kind == 7) <;> cases (a.kind == 8) <;> cases (a.kind == 11) <;> cases (a.kind == 12) <;> rfl
      | true =>
        obtain ⟨f1, f2, _, _, _, f8, _⟩ := reqOk_facts ha
        have e1 : locksE s a = (0, locksP a) := by unfold locksE; rw [hr, ha]; rfl
        have hl := locksP_len a
        have hL : ref19_Locks 2000 a = some (locksP a) := rlocks_eq a f1 f2 fun h => (f8 h).1
        have hS : ref19_SameWants 2000 (locksP a) (locksP a) = some true := sameWants_eq _ (by omega)
        rw [e1]
        simp only [hL, hS, Option.bind_some]
        cases hb : reqOk s b with
        | false =>
          have e2 : togE s a b = (false, 250) := by unfold togE; rw [hr, ha, hb]; rfl
          rw [e2]
          cases (a.kind == 7) <;> cases (a.kind == 8) <;> cases (a.kind == 11) <;> cases (a.kind == 12) <;> rfl
        | true =>
          obtain ⟨g1, g2, _, _, _, g8, _⟩ := reqOk_facts hb
          have e2 : togE s a b = (togP (locksP a) (locksP b), 0) := by unfold togE; rw [hr, ha, hb]; rfl
          have hT : ref19_Together 2000 a b = some (togP (locksP a) (locksP b)) := rtog_eq a b f1 f2 (fun h => (f8 h).1) g1 g2 fun h => (g8 h).1
          rw [e2]
          simp only [hT, Option.bind_some]
          generalize togP (locksP a) (locksP b) = t
          cases (a.kind == 7) <;> cases (a.kind == 8) <;> cases (a.kind == 11) <;> cases (a.kind == 12) <;> cases t <;> rfl

/-! ### In order -/
end Go.Proofs.YtlfjoaipbpendaaGreatDoor

/- What the rows' listed variables give the walk; one start that fits. -/
namespace Go.Proofs.YtlfjoaipbpendaaGreatDoor
open Go Go.Bur Go.RowKit Go.ChangeShapes
set_option linter.unusedVariables false
set_option maxRecDepth 100000

def laidL : List (String × DataW Unit) := [("math/bits.deBruijn32tab", Rows.laid_math_bits_deBruijn32tab), ("math/bits.deBruijn64tab", Rows.laid_math_bits_deBruijn64tab), ("internal/strconv.uint64pow10", Rows.laid_internal_strconv_uint64pow10), ("strconv.ErrRange", Rows.laid_strconv_ErrRange), ("strconv.ErrSyntax", Rows.laid_strconv_ErrSyntax)]

/-! ### One start that fits -/
abbrev synS : ByteArray := { data := #[105, 110, 118, 97, 108, 105, 100, 32, 115, 121, 110, 116, 97, 120] }
abbrev rngS : ByteArray := { data := #[118, 97, 108, 117, 101, 32, 111, 117, 116, 32, 111, 102, 32, 114, 97, 110, 103, 101] }
noncomputable def low : Nat := (World.holding Tryz.prog default ⟨#[], #[], []⟩).heap.size
def lay (cs : Array Value) : Obj → Obj
  | .cells _ t frozen => .cells cs t frozen
  | o => o
noncomputable def laidWorld (os : Os) : World :=
  let w0 := World.holding Tryz.prog os ⟨#[.cells #[.string synS] 224, .cells #[.string rngS] 224], #[], []⟩
  { w0 with heap := ((((w0.heap.modify 0 (lay #[.int .u64 1, .int .u64 10, .int .u64 100, .int .u64 1000, .int .u64 10000, .int .u64 100000, .int .u64 1000000, .int .u64 10000000, .int .u64 100000000, .int .u64 1000000000, .int .u64 10000000000, .int .u64 100000000000, .int .u64 1000000000000, .int .u64 10000000000000, .int .u64 100000000000000, .int .u64 1000000000000000, .int .u64 10000000000000000, .int .u64 100000000000000000, .int .u64 1000000000000000000, .int .u64 10000000000000000000])).modify 2 (lay #[.iface 222 (.pointer (some ⟨low, 0, none⟩))])).modify 3 (lay #[.iface 222 (.pointer (some ⟨low + 1, 0, none⟩))])).modify 4 (lay #[.int .u8 0, .int .u8 1, .int .u8 28, .int .u8 2, .int .u8 29, .int .u8 14, .int .u8 24, .int .u8 3, .int .u8 30, .int .u8 22, .int .u8 20, .int .u8 15, .int .u8 25, .int .u8 17, .int .u8 4, .int .u8 8, .int .u8 31, .int .u8 27, .int .u8 13, .int .u8 23, .int .u8 21, .int .u8 19, .int .u8 16, .int .u8 7, .int .u8 26, .int .u8 12, .int .u8 18, .int .u8 6, .int .u8 11, .int .u8 5, .int .u8 10, .int .u8 9])).modify 5 (lay #[.int .u8 0, .int .u8 1, .int .u8 56, .int .u8 2, .int .u8 57, .int .u8 49, .int .u8 28, .int .u8 3, .int .u8 61, .int .u8 58, .int .u8 42, .int .u8 50, .int .u8 38, .int .u8 29, .int .u8 17, .int .u8 4, .int .u8 62, .int .u8 47, .int .u8 59, .int .u8 36, .int .u8 45, .int .u8 43, .int .u8 51, .int .u8 22, .int .u8 53, .int .u8 39, .int .u8 33, .int .u8 30, .int .u8 24, .int .u8 18, .int .u8 12, .int .u8 5, .int .u8 63, .int .u8 55, .int .u8 48, .int .u8 27, .int .u8 60, .int .u8 41, .int .u8 37, .int .u8 16, .int .u8 46, .int .u8 35, .int .u8 44, .int .u8 21, .int .u8 52, .int .u8 32, .int .u8 23, .int .u8 11, .int .u8 54, .int .u8 26, .int .u8 40, .int .u8 15, .int .u8 34, .int .u8 20, .int .u8 31, .int .u8 10, .int .u8 25, .int .u8 14, .int .u8 19, .int .u8 9, .int .u8 13, .int .u8 8, .int .u8 7, .int .u8 6]) }
theorem laidWorld_met (os : Os) (args : Array Value) : laidMet Tryz.prog laidL ((laidWorld os).forCall (fun _ _ => 0) ⟨#[], args, []⟩).memory :=
  laidMet_of_run3 8 (by kernel_rfl) (by kernel_rfl) (by kernel_rfl)

/-! ### What it gives -/
theorem gPow : Tryz.prog.globalNamed "internal/strconv.uint64pow10" = some 0 := by kernel_rfl
theorem gSyn : Tryz.prog.globalNamed "strconv.ErrSyntax" = some 2 := by kernel_rfl
theorem gRng : Tryz.prog.globalNamed "strconv.ErrRange" = some 3 := by kernel_rfl
theorem gPowT : (Tryz.prog.globals[0]?).map (·.type) = some 193 := by kernel_rfl
theorem gSynT : (Tryz.prog.globals[2]?).map (·.type) = some 150 := by kernel_rfl
theorem gRngT : (Tryz.prog.globals[3]?).map (·.type) = some 150 := by kernel_rfl
theorem starE : "*" ++ "errors.errorString" = "*errors.errorString" := by decide
theorem row222 (u : TypeId) (h : Tryz.prog.typeName? 3 u = some "*errors.errorString") : u = 222 :=
  typeName_ptr_named (nm := "errors.errorString") (by rw [starE]; kernel_rfl) (by kernel_rfl) (by decide) u (by rw [starE]; exact h)
theorem c224 : Tryz.prog.cellsOf 224 = 1 := by kernel_rfl
theorem c9 : Tryz.prog.cellsOf 9 = 1 := by kernel_rfl
theorem bx_cell {W : World} {g : Nat} {v : Value} (h : W.cell? ⟨g, 0, none⟩ = some v) {W' : World} (k : Keep [] W W') : W'.cell? ⟨g, 0, none⟩ = some v := by
  have hlt : g < W.heap.size := by
    rcases Nat.lt_or_ge g W.heap.size with h' | h'
    · exact h'
    · simp [World.cell?, Array.getElem?_eq_none h'] at h
  rw [← h]
  simp only [World.cell?, k.block g hlt (by simp)]
theorem bx_row {W : World} {g : Nat} {vs : Array Value} (h : gRow g vs W) {W' : World} (k : Keep [] W W') : gRow g vs W' := by
  unfold gRow at h ⊢
  have hlt : g < W.heap.size := by
    rcases Nat.lt_or_ge g W.heap.size with h' | h'
    · exact h'
    · simp [Array.getElem?_eq_none h'] at h
  rw [k.block g hlt (by simp)]
  exact h
theorem globOf {W : World} (hL : laidMet Tryz.prog laidL W) (hsh : W.ShapedOpen Tryz.prog) : ∀ p ∈ glob, Bx [] W p := by
  have h2 : laidMet Tryz.prog (("internal/strconv.uint64pow10", Lib.tabData .u64 Lib.pow10Tab) :: ("strconv.ErrRange", Rows.laid_strconv_ErrRange) :: ("strconv.ErrSyntax", Rows.laid_strconv_ErrSyntax) :: []) W := hL.tail.tail
  have t0 : Lib.TabIs Tryz.prog W "internal/strconv.uint64pow10" .u64 Lib.pow10Tab := Lib.tabIs_of_head gPow gPowT Tryz.underlying193 Tryz.underlying126 (by kernel_rfl) (by kernel_rfl) h2
  obtain ⟨a0, s0, v0, -, -, -⟩ := laid_sentinel h2.tail gRng gRngT Tryz.underlying150 row222 Tryz.underlying222 Tryz.underlying224 rfl rfl Tryz.underlying9 c224 c9
  obtain ⟨a1, s1, v1, -, -, -⟩ := laid_sentinel h2.tail.tail gSyn gSynT Tryz.underlying150 row222 Tryz.underlying222 Tryz.underlying224 rfl rfl Tryz.underlying9 c224 c9
  obtain ⟨m, hm⟩ := cell_of_shapedOpen_int (P := Tryz.prog) (g := 1) (t := 3) (zero := #[.int .i64 0]) hsh (of_decide_eq_true (by kernel_rfl)) (by kernel_rfl) rfl (by kernel_rfl) (by kernel_rfl) Tryz.underlying3
  have tR : gRow 0 (Lib.pow10Tab.map fun z => Value.int .u64 z).toArray W := by
    unfold Lib.TabIs World.var? at t0
    rw [gPow] at t0
    exact t0
  intro p hp W' k
  simp only [glob, List.mem_cons, List.not_mem_nil, or_false] at hp
  rcases hp with rfl | rfl | rfl | rfl
  · exact bx_row tR k
  · exact ⟨m, bx_cell hm k⟩
  · exact ⟨_, _, bx_cell (by have h0 := World.var?_cell gSyn v1 0; simpa using h0) k⟩
  · exact ⟨_, _, bx_cell (by have h0 := World.var?_cell gRng v0 0; simpa using h0) k⟩

/-- The wrap for a row that lists variables, the world's shape kept. -/
theorem returnsBoth {H : Type} {enc : TypeId × Value → H} {a : Assume} {C : Checked} {os : Os} {f : FuncId} {fn : Func} {s : ChangeSpec} {conds : List PathCond} {apart fresh handsOn again : Bool} {X : World → Array Value → Prop}
    (hX : ∀ (w w' : World) (args : Array Value), w.heap = w'.heap → X w args → X w' args)
    (own : ownKnob C.prog.godebug = none) (started : os.Started) (noInit : C.prog.inits.idxOf? f = none) (hfn : C.prog.funcs[f]? = some fn)
    (witness : ∃ (w : World) (tape : Tape) (i : Input), w.os = os ∧ (w.forCall tape i).Shaped C.prog ∧ i.vars = [] ∧ Input.okWide C.prog (w.forCall tape i) .any w.heap.size f i ∧
      ((s.pre enc C.prog fn conds apart (w.forCall tape i).memory i.args ∧ X (w.forCall tape i).memory i.args) ∧ sizedMet enc C.prog fn (OpenSpec.ofChange s) apart (w.forCall tape i).memory i.args) ∧ a.holds C.prog (lone (Frame.enter C.prog f i.args .normal) [] (w.forCall tape i)))
    (contract : ∀ (W : World) (base : Nat) (args : Array Value) (ds gs : List (DataW H)) (before : List MemPlace),
      (∀ (j : Nat) t v, fn.params[j]? = some t → args[j]? = some v → Value.okWide C.prog W .any base t v) →
      DataW.Whole enc C.prog fn.params.toList s.vars apart W args.toList ds gs before →
      conds.all (PathCond.test C.prog ⟨fn.params.toList, ds, s.plain.varTypes C.prog, gs⟩) = true →
      X W args → W.ShapedOpen C.prog →
      a.holds C.prog (lone (Frame.enter C.prog f args .normal) [] W) →
      Calls C.prog f args W fun e W' => ∃ v, e = .returned v ∧ s.post enc C.prog fn apart fresh handsOn again W args v W') :
    ReturnsInHanded a C os f .any (fun w args => (s.pre enc C.prog fn conds apart w args ∧ X w args) ∧ sizedMet enc C.prog fn (OpenSpec.ofChange s) apart w args) (s.post enc C.prog fn apart fresh handsOn again) := by
  refine returnsInHanded_of_calls own started noInit witness ?_
  intro w tape i _ hsh _ hok hpre hholds
  obtain ⟨_, _, _, fn', hfn', _, _, _, _, hval⟩ := hok
  obtain rfl := Option.some.inj (hfn'.symm.trans hfn)
  obtain ⟨⟨⟨ds, gs, before, hw, hc⟩, hx⟩, _⟩ := hpre
  refine (contract (w.forCall tape i) w.heap.size i.args ds gs before hval (DataW.Whole.of_heap (w' := w.forCall tape i) (by rfl) hw) hc (hX _ _ _ (by rfl) hx) hsh hholds).mono fun e W' ⟨v, he, hp⟩ => ?_
  subst he
  exact ChangeSpec.post_blind hp
end Go.Proofs.YtlfjoaipbpendaaGreatDoor
