/- What the functions of layer 5 (row) compute. -/
import Derived.Test.YtlfjoaipbpendaaGreatDoorF3
import Derived.Test.YtlfjoaipbpendaaGreatDoorLst4
import Derived.Test.YtlfjoaipbpendaaGreatDoorRw
import Derived.Test.YtlfjoaipbpendaaGreatDoorSx
import Derived.Test.YtlfjoaipbpendaaGreatDoorRows
import Derived.WalkKit
import Derived.ProofKit
import Derived.LaidLaws
import Derived.Deep.DeepLaidRun
import Derived.Lib.LaidTab
import Derived.Stop.LaidErr
import Derived.HandedShaped
import Derived.Shelf.Vars
namespace Go.Proofs.YtlfjoaipbpendaaGreatDoor
open Go.Bur
set_option linter.unusedSimpArgs false
set_option linter.unusedVariables false
set_option maxRecDepth 100000

/-! ### Keys -/
instance : DecidableEq Key := fun a b => match Int.decEq a.table b.table, Int.decEq a.id b.id with
  | .isTrue h, .isTrue k => .isTrue (by cases a; cases b; simp_all)
  | .isFalse h, _ => .isFalse (fun e => h (by rw [e]))
  | _, .isFalse h => .isFalse (fun e => h (by rw [e]))
def cmpI (a b : Int) : Int := if a < b then -1 else if a > b then 1 else 0
def cmpK (a b : Key) : Int := if cmpI a.table b.table ≠ 0 then cmpI a.table b.table else cmpI a.id b.id
theorem key_eqb (a b : Key) : Key.eqb a b = decide (a = b) := by
  obtain ⟨a1, a2⟩ := a
  obtain ⟨b1, b2⟩ := b
  by_cases h1 : a1 = b1 <;> by_cases h2 : a2 = b2 <;> simp [Key.eqb, h1, h2]
/-! ### Schemas -/
def right (s : Schema) : Bool := decide (1 ≤ s.tables.length ∧ s.tables.length ≤ 3) && !s.tables.any (fun b => decide (b.min > b.max))
theorem any_find {α : Type} {p : α → Bool} (l : List α) : l.any p = (l.findIdx? p).isSome := by
  induction l with
  | nil => rfl
  | cons x t ih =>
    rw [List.any_cons, List.findIdx?_cons]
    cases h : p x with
    | true => rfl
    | false => rw [if_neg (by decide), Option.isSome_map, Bool.false_or, ih]
theorem check_eq (n : Nat) (hn : 1003 ≤ n) (s : Schema) (hs : s.tables.length ≤ 1000) : row_Check n s = some (if right s then 0 else 150) := by
  have h2 : slices_ContainsFunc_Bounds_f72 n s.tables = some (s.tables.any fun b => decide (b.min > b.max)) := by
    have h3 : slices_IndexFunc_Bounds_f72 n s.tables = some (match s.tables.findIdx? (fun b => decide (b.min > b.max)) with | some j => (j : Int) | none => -1) := by
      show slices_IndexFunc_Bounds_f72_l1 n n (s.tables, (s.tables.length : Int), ((0 : Nat) : Int), ()) = _
      unfold slices_IndexFunc_Bounds_f72_l1
      refine (run_loop s.tables (fun (i : Nat) (_ : Unit) => (s.tables, (s.tables.length : Int), (i : Int), ())) (fun i x _ => if decide (x.min > x.max) then .inl (some (i : Int)) else .inr ()) (fun _ => some (-1)) (fun r i q x hx hi => ?_) (fun r q => ?_) n 0 () (by omega) (by omega)).trans ?_
      · simp only [lt_dec hi, cond_true, idx_nat, hx, Option.bind_some, row_Check_1, wrap_succ (show i < 4611686018427387904 by omega)]
        by_cases h : x.min > x.max
        · rw [decide_eq_true h]; rfl
        · rw [decide_eq_false h]; rfl
      · simp only [ge_dec (Nat.lt_irrefl _), cond_false]
      · rw [List.drop_zero, runL_find0]
        cases s.tables.findIdx? (fun b => decide (b.min > b.max)) with
        | none => rfl
        | some j => simp
    unfold slices_ContainsFunc_Bounds_f72
    rw [h3, any_find]
    cases s.tables.findIdx? (fun b => decide (b.min > b.max)) with
    | none => rfl
    | some j => simp
  unfold row_Check right
  rw [h2]
  simp only [jn, Option.bind_some]
  by_cases h : 1 ≤ s.tables.length ∧ s.tables.length ≤ 3
  · rw [decide_eq_true h, decide_eq_false (by omega : ¬ (s.tables.length : Int) < 1), decide_eq_false (by omega : ¬ (s.tables.length : Int) > 3)]
    cases s.tables.any (fun b => decide (b.min > b.max)) <;> rfl
  · rw [decide_eq_false h]
    by_cases h1 : (s.tables.length : Int) < 1
    · rw [decide_eq_true h1]; rfl
    · rw [decide_eq_false h1, decide_eq_true (by omega : (s.tables.length : Int) > 3)]; rfl
theorem right_eq (n : Nat) (hn : 1003 ≤ n) (s : Schema) (hs : s.tables.length ≤ 1000) : ref05_Right n s = some (right s) := by
  have h1 : ref05_Right_l1 n n (0, s, ()) = some (!s.tables.any fun b => decide (b.min > b.max)) := by
    show ref05_Right_l1 n n (((0 : Nat) : Int), s, ()) = _
    unfold ref05_Right_l1
    refine (run_loop s.tables (fun (i : Nat) (_ : Unit) => ((i : Int), s, ())) (fun i x _ => if decide (x.min > x.max) then .inl (some false) else .inr ()) (fun _ => some true) (fun r i q x hx hi => ?_) (fun r q => ?_) n 0 () (by omega) (by omega)).trans ?_
    · simp only [lt_dec hi, cond_true, idx_nat, hx, Option.bind_some, wrap_succ (show i < 4611686018427387904 by omega)]
      by_cases h : x.min > x.max
      · rw [decide_eq_true h]; rfl
      · rw [decide_eq_false h]; rfl
    · simp only [ge_dec (Nat.lt_irrefl _), cond_false]
    · rw [List.drop_zero, runL_any]
      cases s.tables.any (fun b => decide (b.min > b.max)) <;> rfl
  unfold ref05_Right right
  rw [h1]
  simp only [jn]
  by_cases h : 1 ≤ s.tables.length ∧ s.tables.length ≤ 3
  · rw [decide_eq_true h, decide_eq_false (by omega : ¬ (s.tables.length : Int) < 1), decide_eq_false (by omega : ¬ (s.tables.length : Int) > 3)]
    cases s.tables.any (fun b => decide (b.min > b.max)) <;> rfl
  · rw [decide_eq_false h]
    by_cases h1 : (s.tables.length : Int) < 1
    · rw [decide_eq_true h1]; rfl
    · rw [decide_eq_false h1, decide_eq_true (by omega : (s.tables.length : Int) > 3)]; rfl
theorem all1 (n : Nat) (hn : 3 ≤ n) (a : row_rule) : row_all n [a] = some (cond a.is 0 a.no) := by
  obtain ⟨n, rfl⟩ : ∃ m, n = m + 3 := ⟨n - 3, by omega⟩
  unfold row_all row_all_l1
  cases h : a.is <;> simp [loopF, idx, IntKind.wrap_i64, h]
def inTab (s : Schema) (k : Key) : Bool := decide (k.table ≥ 0) && decide (k.table < (s.tables.length : Int))
def keyErr (s : Schema) (k : Key) : Int := if inTab s k then 0 else 151
theorem inTab_iff {s : Schema} {k : Key} : inTab s k = true ↔ 0 ≤ k.table ∧ k.table < s.tables.length := by
  unfold inTab
  simp only [Bool.and_eq_true, decide_eq_true_iff, ge_iff_le]
theorem keyError_eq (n : Nat) (s : Schema) (k : Key) : ref05_KeyError n s k = some (keyErr s k) := by
  unfold ref05_KeyError keyErr inTab
  simp only [jn]
  by_cases h1 : k.table < 0
  · rw [decide_eq_true h1, decide_eq_false (by omega : ¬ k.table ≥ 0)]; rfl
  · rw [decide_eq_false h1, decide_eq_true (by omega : k.table ≥ 0)]
    by_cases h2 : k.table < (s.tables.length : Int)
    · rw [decide_eq_true h2, decide_eq_false (by omega : ¬ k.table ≥ (s.tables.length : Int))]; rfl
    · rw [decide_eq_false h2, decide_eq_true (by omega : k.table ≥ (s.tables.length : Int))]; rfl
theorem checkKey_eq (n : Nat) (hn : 1003 ≤ n) (s : Schema) (hs : s.tables.length ≤ 1000) (k : Key) : row_CheckKey n s k = some (if right s then keyErr s k else 150) := by
  unfold row_CheckKey keyErr inTab
  rw [check_eq n hn s hs]
  cases right s with
  | false => rfl
  | true =>
    simp only [if_true, Option.bind_some, show ((0 : Int) != 0) = false from by decide, cond_false, row_known, jn]
    cases decide (k.table ≥ 0) with
    | false => simp [all1 n (by omega)]
    | true => cases decide (k.table < (s.tables.length : Int)) <;> simp [all1 n (by omega)]
def fitsB (b : Bounds) (v : Int) : Bool := decide (v ≥ b.min) && decide (v ≤ b.max)
def rowErr (s : Schema) (r : Row) : Int :=
  if inTab s r.key then
    (if (r.note.size : Int) ≤ 8 then
      match idx s.tables r.key.table with
      | some x => if fitsB x r.val then 0 else 152
      | none => 0
    else 3)
  else 151
/-! ### Lists of rows -/
def good (s : Schema) (l : List Row) : Prop := (∀ r ∈ l, rowErr s r = 0) ∧ l.Pairwise (fun a b => cmpK a.key b.key < 0)
/-! ### Where a key is in a right list -/
/-- l is A, perhaps y with the key, and B. -/
structure At (l : List Row) (k : Key) (A : List Row) (y : Option Row) (B : List Row) : Prop where
  eq : l = A ++ (y.toList ++ B)
  lo : ∀ r ∈ A, cmpK r.key k < 0
  mid : ∀ r, y = some r → r.key = k
  hi : ∀ r ∈ B, cmpK k r.key < 0
/-! ### Finding -/
def at_ (l : List Row) (k : Key) : Option Nat := l.findIdx? fun r => decide (r.key = k)
/-! ### With, without, of, the same, sums -/
/-! ### Put -/
end Go.Proofs.YtlfjoaipbpendaaGreatDoor

/- Layer 15: sizes, sameness; the plain law IdealSame. -/
namespace Go.Proofs.YtlfjoaipbpendaaGreatDoor
open Go.Bur
set_option linter.unusedSimpArgs false
set_option linter.unusedVariables false
set_option maxRecDepth 100000

end Go.Proofs.YtlfjoaipbpendaaGreatDoor

/- Layer 15: what requests come to. -/
namespace Go.Proofs.YtlfjoaipbpendaaGreatDoor
open Go.Bur
set_option linter.unusedSimpArgs false
set_option linter.unusedVariables false
set_option maxRecDepth 100000

/-! ### Requests -/
def key0 : Key := ⟨0, 0⟩
def req0 : Request := ⟨0, key0, key0, 0, ByteArray.empty, 0⟩
def bareP (q : Request) : Request :=
  if q.kind = 1 ∨ q.kind = 4 then ⟨0, key0, q.to, q.val, q.note, q.n⟩
  else if q.kind = 2 then ⟨0, ⟨0, q.key.id⟩, q.to, q.val, q.note, q.n⟩
  else if q.kind = 3 then ⟨0, key0, q.to, 0, ByteArray.empty, q.n⟩
  else if q.kind = 5 then ⟨0, key0, q.to, q.val, ByteArray.empty, q.n⟩
  else if q.kind = 6 ∨ q.kind = 7 then ⟨0, key0, q.to, 0, q.note, q.n⟩
  else if q.kind = 8 then ⟨0, key0, key0, 0, q.note, q.n⟩
  else if q.kind = 10 then ⟨0, q.key, q.to, q.val, q.note, 0⟩
  else ⟨0, q.key, q.to, q.val, q.note, q.n⟩
theorem bare_eq (n : Nat) (q : Request) : ideal_bare n q = some (bareP q) := by
  unfold ideal_bare ideal_bare_j1 ideal_bare_j2 ideal_bare_j3 ideal_bare_j4 ideal_bare_j5 ideal_bare_j6 ideal_bare_j7 ideal_bare_j8 ideal_bare_j9 bareP
  simp only [jn, ibeq]
  have hE : ByteArray.mk #[] = ByteArray.empty := rfl
  rw [hE]
  by_cases h1 : q.kind = 1
  · simp [h1, key0]
  · by_cases h4 : q.kind = 4
    · simp [h4, key0]
    · by_cases h2 : q.kind = 2
      · simp [h2]
      · by_cases h3 : q.kind = 3
        · simp [h3, key0]
        · by_cases h5 : q.kind = 5
          · simp [h5, key0]
          · by_cases h6 : q.kind = 6
            · simp [h6, key0]
            · by_cases h7 : q.kind = 7
              · simp [h7, key0]
              · by_cases h8 : q.kind = 8
                · simp [h8, key0]
                · by_cases h10 : q.kind = 10
                  · simp [h10]
                  · simp [h1, h2, h3, h4, h5, h6, h7, h8, h10]
def moreOk (q : Request) : Bool := if q.kind = 8 then !Key.eqb q.key q.to && decide (q.val ≥ 0) else if q.kind = 10 then decide (q.n ≥ 1) else true
def reqOk (s : Schema) (q : Request) : Bool := (((((decide (q.kind ≥ 1) && decide (q.kind ≤ 12)) && Request.eqb (bareP q) req0) && decide ((q.note.size : Int) ≤ 8)) && inTab s q.key) && inTab s q.to) && moreOk q
theorem keyErr_beq (s : Schema) (k : Key) : (keyErr s k == 0) = inTab s k := by
  unfold keyErr
  cases inTab s k <;> rfl
theorem checkReq_eq (n : Nat) (hn : 1003 ≤ n) (s : Schema) (hs : s.tables.length ≤ 1000) (q : Request) : ideal_CheckRequest n s q = some (if right s then (if reqOk s q then 0 else 250) else 150) := by
  unfold ideal_CheckRequest reqOk moreOk
  rw [check_eq n hn s hs]
  cases hr : right s with
  | false => rfl
  | true =>
    simp only [if_true, Option.bind_some, show ((0 : Int) != 0) = false from by decide, cond_false, jn, bare_eq, checkKey_eq n hn s hs, hr, keyErr_beq, ideal_CheckRequest_j1, ideal_CheckRequest_j2, ibeq q.kind, show Request.mk 0 (Key.mk 0 0) (Key.mk 0 0) 0 ByteArray.empty 0 = req0 from rfl]
    cases decide (q.kind ≥ 1) <;> cases decide (q.kind ≤ 12) <;> cases Request.eqb (bareP q) req0 <;> cases decide ((q.note.size : Int) ≤ 8) <;> cases inTab s q.key <;> cases inTab s q.to <;> (by_cases h8 : q.kind = 8 <;> by_cases h10 : q.kind = 10 <;> cases Key.eqb q.key q.to <;> cases decide (q.val ≥ 0) <;> cases decide (q.n ≥ 1) <;> simp [h8, h10])
theorem inTab0 {s : Schema} (h : right s = true) : inTab s key0 = true := by
  unfold right at h
  simp only [Bool.and_eq_true, decide_eq_true_iff] at h
  refine inTab_iff.2 ⟨Int.le_refl _, ?_⟩
  show (0 : Int) < _
  omega
theorem condS (a b : Bool) : cond a (some b) (some false) = some (a && b) := by cases a <;> rfl
theorem condN (a b : Bool) : cond a (some false) (some b) = some (!a && b) := by cases a <;> rfl
theorem emptyB {b : ByteArray} (h : b.toList = ByteArray.empty.toList) : b = ByteArray.empty := by
  rw [ByteArray.toList_eq, ByteArray.toList_eq] at h
  exact Go.WideShapes.bytes_inj h
/-- What the document says of requests, kind by kind. -/
theorem rightReq_eq (n : Nat) (s : Schema) (hr : right s = true) (q : Request) : ref15_RightRequest n s q = some (reqOk s q) := by
  have h0 := inTab0 hr
  have hz : ∀ k : Key, k.table = 0 → k.id = 0 → inTab s k = true := fun k h1 h2 => by
    obtain ⟨a, b⟩ := k
    simp only at h1 h2
    subst h1 h2
    exact h0
  have hsz : ∀ b : ByteArray, b.toList = ByteArray.empty.toList → (b.size : Int) ≤ 8 := fun b hb => by
    have := emptyB hb
    rw [this]; decide
  obtain ⟨kind, key, to, val, note, m⟩ := q
  by_cases hk : kind = 1 ∨ kind = 2 ∨ kind = 3 ∨ kind = 4 ∨ kind = 5 ∨ kind = 6 ∨ kind = 7 ∨ kind = 8 ∨ kind = 9 ∨ kind = 10 ∨ kind = 11 ∨ kind = 12
  · have key' : ∀ b : Bool, (b = true ↔ reqOk s ⟨kind, key, to, val, note, m⟩ = true) → some b = some (reqOk s ⟨kind, key, to, val, note, m⟩) := fun b hb => by rw [Bool.eq_iff_iff.2 hb]
    rcases hk with rfl | rfl | rfl | rfl | rfl | rfl | rfl | rfl | rfl | rfl | rfl | rfl
    all_goals
      unfold ref15_RightRequest ref15_RightRequest_j1 ref15_RightRequest_j2 ref15_RightRequest_j3 ref15_RightRequest_j4 ref15_RightRequest_j5 ref15_RightRequest_j6 ref15_RightRequest_j7 ref15_RightRequest_j8 ref15_RightRequest_j9
      simp only [jn, keyError_eq, Option.bind_some, keyErr_beq, bne, Int.reduceBEq, cond_true, cond_false, condS, condN]
      refine key' _ ?_
      simp [reqOk, moreOk, bareP, req0, key0, Request.eqb, Bool.cond_eq_ite]
      try (intro hm)
      try (constructor <;> intro h <;> simp_all)
  · have h1 : reqOk s ⟨kind, key, to, val, note, m⟩ = false := by
      unfold reqOk
      by_cases a : kind ≥ 1
      · by_cases b : kind ≤ 12
        · omega
        · simp [b]
      · simp [a]
    rw [h1]
    simp only [not_or] at hk
    unfold ref15_RightRequest ref15_RightRequest_j1 ref15_RightRequest_j2 ref15_RightRequest_j3 ref15_RightRequest_j4 ref15_RightRequest_j5 ref15_RightRequest_j6 ref15_RightRequest_j7 ref15_RightRequest_j8 ref15_RightRequest_j9
    simp [jn, ibeq, hk]

/-! ### Rows by their keys -/
/-! ### What a request comes to -/
section
variable (n : Nat) (hn : 1003 ≤ n) (T : List Bounds) (k a b c d : Int) (v : Int) (note : ByteArray) (m : Int) (l : List Row)
end
theorem reqOk_facts {s : Schema} {q : Request} (h : reqOk s q = true) : 1 ≤ q.kind ∧ q.kind ≤ 12 ∧ inTab s q.key = true ∧ inTab s q.to = true ∧ (q.note.size : Int) ≤ 8 ∧ (q.kind = 8 → q.key ≠ q.to ∧ 0 ≤ q.val) ∧ (q.kind = 10 → 1 ≤ q.n) := by
  unfold reqOk at h
  simp only [Bool.and_eq_true, decide_eq_true_iff] at h
  obtain ⟨⟨⟨⟨⟨⟨h1, h2⟩, h3⟩, h4⟩, h5⟩, h6⟩, h7⟩ := h
  unfold moreOk at h7
  refine ⟨h1, h2, h5, h6, h4, fun e => ?_, fun e => ?_⟩
  · rw [if_pos e, key_eqb] at h7
    simpa using h7
  · rw [if_neg (by rw [e]; decide), if_pos e] at h7
    simpa using h7
end Go.Proofs.YtlfjoaipbpendaaGreatDoor

/- Layer 15: the plain law IdealDoes. -/
namespace Go.Proofs.YtlfjoaipbpendaaGreatDoor
open Go.Bur
set_option linter.unusedSimpArgs false
set_option linter.unusedVariables false
set_option maxRecDepth 100000

end Go.Proofs.YtlfjoaipbpendaaGreatDoor

/- More plain lemmas: loops as folds, lists in order, searches, things put into their place. -/
namespace Go.Bur
open Go.RowKit
set_option linter.unusedVariables false
set_option linter.unusedSimpArgs false

/-! ### Loops as folds -/
/-! ### Each of a list, and each two that follow one another -/
/-! ### Where a thing is in a list in order -/
/-- l is A, perhaps y that is it, and B. -/
structure Cut {α : Type} (c : α → Int) (l A : List α) (y : Option α) (B : List α) : Prop where
  eq : l = A ++ (y.toList ++ B)
  lo : ∀ x ∈ A, c x < 0
  mid : ∀ x, y = some x → c x = 0
  hi : ∀ x ∈ B, 0 < c x
section
variable {α : Type} {c : α → Int} {l A B : List α} {y : Option α}
theorem cut_len (h : Cut c l A y B) : l.length = A.length + (y.toList.length + B.length) := by rw [h.eq]; simp
end
/-! ### slices.DeleteFunc -/
/-! ### The first of its kind; a list changed place by place -/
end Go.Bur

/- Layer 7 (modes): which go together, by the code and by the document. -/
namespace Go.Proofs.YtlfjoaipbpendaaGreatDoor
open Go.Bur
set_option linter.unusedSimpArgs false
set_option linter.unusedVariables false
set_option maxRecDepth 100000

/-! ### Modes -/
end Go.Proofs.YtlfjoaipbpendaaGreatDoor

/- Layer 19 (request): what is locked; RequestLocks, RequestOrder. -/
namespace Go.Proofs.YtlfjoaipbpendaaGreatDoor
open Go.Bur
set_option linter.unusedSimpArgs false
set_option linter.unusedVariables false
set_option maxRecDepth 100000

theorem wakes19 : law19_wakes 2000 = some true := by kernel_rfl
def bigReq (q : Request) : Bool := decide ((q.note.size : Int) > 100)
def overQ (s : Schema) (l : List Request) : Bool := decide (20 < s.tables.length) || l.any bigReq
theorem overQ_eq (n : Nat) (hn : 1003 ≤ n) (s : Schema) (l : List Request) (hl : l.length ≤ 1000) : law19_over n s l = some (overQ s l) := by
  unfold law19_over overQ
  by_cases h1 : 20 < s.tables.length
  · rw [decide_eq_true (by omega : (s.tables.length : Int) > 20), decide_eq_true h1]; rfl
  · rw [decide_eq_false (by omega : ¬ (s.tables.length : Int) > 20), decide_eq_false h1]
    show law19_over_l1 n n (l, (l.length : Int), ((0 : Nat) : Int), ()) = _
    unfold law19_over_l1
    refine (run_loop l (fun (i : Nat) (_ : Unit) => (l, (l.length : Int), (i : Int), ())) (fun _ x _ => if bigReq x then .inl (some true) else .inr ()) (fun _ => some false) (fun r i s x hx hi => ?_) (fun r s => ?_) n 0 () (by omega) (by omega)).trans ?_
    · simp only [lt_dec hi, cond_true, idx_nat, hx, Option.bind_some, wrap_succ (show i < 4611686018427387904 by omega)]
      unfold bigReq
      cases decide ((x.note.size : Int) > 100) <;> rfl
    · simp only [ge_dec (Nat.lt_irrefl _), cond_false]
    · rw [List.drop_zero, runL_any]
      cases l.any bigReq <;> rfl
theorem overQ_len {s : Schema} {l : List Request} (h : overQ s l = false) : s.tables.length ≤ 20 := by
  unfold overQ at h
  simp only [Bool.or_eq_false_iff, decide_eq_false_iff_not] at h
  omega

/-! ### What is locked -/
theorem kinds {k : Int} (h1 : 1 ≤ k) (h2 : k ≤ 12) : k = 1 ∨ k = 2 ∨ k = 3 ∨ k = 4 ∨ k = 5 ∨ k = 6 ∨ k = 7 ∨ k = 8 ∨ k = 9 ∨ k = 10 ∨ k = 11 ∨ k = 12 := by omega
/-! ### Which go together -/
end Go.Proofs.YtlfjoaipbpendaaGreatDoor

/- Layer 19 (request): the laws RequestLocks and RequestOrder. -/
namespace Go.Proofs.YtlfjoaipbpendaaGreatDoor
open Go.Bur
set_option linter.unusedSimpArgs false
set_option linter.unusedVariables false
set_option maxRecDepth 100000

/-! ### In order -/
end Go.Proofs.YtlfjoaipbpendaaGreatDoor

/- Layer 19 (request): texts as lists of bytes. -/
namespace Go.Proofs.YtlfjoaipbpendaaGreatDoor
open Go.Bur Go.Lib
set_option linter.unusedSimpArgs false
set_option linter.unusedVariables false
set_option maxRecDepth 100000

abbrev bs (l : List UInt8) : ByteArray := ⟨l.toArray⟩
theorem bs_of (b : ByteArray) : bs b.data.toList = b := by cases b; rfl
theorem bs_data (l : List UInt8) : (bs l).data.toList = l := by simp [bs]
theorem bs_size (l : List UInt8) : (bs l).size = l.length := rfl
theorem bs_toList (l : List UInt8) : (bs l).toList = l := by rw [ByteArray.toList_eq]
theorem bs_app (a b : List UInt8) : bs a ++ bs b = bs (a ++ b) := by
  refine ByteArray.ext ?_
  rw [ByteArray.data_append]
  simp [bs]
theorem cat_bs {a b : List UInt8} (h : a.length + b.length ≤ 100000) : catP (bs a) (bs b) = some (bs (a ++ b)) := by
  unfold catP
  rw [bs_size, bs_size, Nat.ble_eq_true_of_le (by omega), bs_app]
theorem sidx_bs (l : List UInt8) (i : Nat) : sIdx (bs l) (i : Int) = (l[i]?).map fun c => (c.toNat : Int) := by
  unfold sIdx
  rw [decide_eq_true (Int.natCast_nonneg i), Int.toNat_natCast]
  have : (bs l)[i]? = l[i]? := by
    by_cases h : i < l.length
    · rw [List.getElem?_eq_getElem h, getElem?_pos (bs l) i (by rw [bs_size]; exact h)]
      congr 1
    · rw [List.getElem?_eq_none (by omega), getElem?_neg (bs l) i (by rw [bs_size]; exact h)]
  simp only [this]
  cases l[i]? <;> rfl
theorem bs_inj {a b : List UInt8} (h : bs a = bs b) : a = b := by rw [← bs_data a, h, bs_data]

/-! ### Numbers -/
def I64 (x : Int) : Prop := -9223372036854775808 ≤ x ∧ x ≤ 9223372036854775807
theorem fmt_eq (n : Nat) {z : Int} (h : I64 z) : strconv_FormatInt n z 10 = some (bs (itoa z)) := by
  unfold strconv_FormatInt fmtZ
  rw [decide_eq_true ⟨rfl, h.1, h.2⟩]
theorem word_eq (n : Nat) {z : Int} (h : I64 z) : request_word n z = some (bs (itoa z)) := by
  unfold request_word
  rw [fmt_eq n h]
  rfl
theorem nDigits_le : ∀ (k u : Nat), 1 ≤ k → u < 10 ^ k → nDigits u ≤ k
  | 0, u, h, _ => by omega
  | k + 1, u, _, h => by
    by_cases hu : u < 10
    · rw [nDigits_small hu]; omega
    · rw [nDigits_big hu]
      by_cases hk : 1 ≤ k
      · have := nDigits_le k (u / 10) hk (by rw [Nat.pow_succ] at h; omega)
        omega
      · have : k = 0 := by omega
        subst this
        omega
theorem itoa_len {z : Int} (h : I64 z) : (itoa z).length ≤ 21 ∧ 1 ≤ (itoa z).length := by
  unfold itoa
  obtain ⟨h1, h2⟩ := h
  have e : (10 : Nat) ^ 20 = 100000000000000000000 := by decide
  split
  · have := nDigits_le 20 z.natAbs (by omega) (by omega)
    rw [List.length_cons, decDigits_length]
    omega
  · have := nDigits_le 20 z.toNat (by omega) (by omega)
    rw [decDigits_length]
    have := nDigits_pos z.toNat
    omega
theorem parN_i64 (l : List UInt8) : I64 (parN l).1 := by
  unfold parN I64
  cases h : parseIntB 64 l with
  | ok v =>
    have e63 : (2 : Nat) ^ (64 - 1) = 9223372036854775808 := by decide
    simp only
    unfold parseIntB at h
    split at h
    · cases h
    · simp only at h
      split at h
      · cases h
      · cases h
      · rename_i u hu
        rw [e63] at h
        split at h
        · cases h
        · split at h
          · cases h
          · rename_i n1 n2
            injection h with h
            subst h
            split
            · rename_i n3
              have : ¬ 9223372036854775808 < u := fun x => n2 ⟨n3, x⟩
              omega
            · rename_i n3
              have : ¬ 9223372036854775808 ≤ u := fun x => n1 ⟨n3, x⟩
              omega
  | «syntax» => show (-9223372036854775808 : Int) ≤ 0 ∧ (0 : Int) ≤ 9223372036854775807; omega
  | range =>
    have e63 : (2 : Nat) ^ (64 - 1) = 9223372036854775808 := by decide
    show -9223372036854775808 ≤ intSat 64 l ∧ intSat 64 l ≤ 9223372036854775807
    unfold intSat
    rw [e63]
    split <;> omega
/-! ### The document's numbers -/
theorem wrap64 {x : Int} (h : 0 ≤ x) (h2 : x ≤ 18446744073709551615) : IntKind.wrap .u64 x = x := by rw [IntKind.wrap_u64]; omega
theorem bstr_one {d : Nat} (h : d < 10) : bstr [IntKind.wrap .u8 (IntKind.wrap .u64 (48 + (d : Int)))] = bs [UInt8.ofNat (48 + d)] := by
  have e1 : IntKind.wrap .u64 (48 + (d : Int)) = ((48 + d : Nat) : Int) := by rw [IntKind.wrap_u64]; omega
  have e2 : IntKind.wrap .u8 ((48 + d : Nat) : Int) = ((48 + d : Nat) : Int) := by rw [IntKind.wrap_u8]; omega
  rw [e1, e2]
  unfold bstr strOfNums
  simp only [List.map_cons, List.map_nil, Int.toNat_natCast]
def dgF : Nat → (Int × Unit → Option ByteArray) → Int × Unit → Option ByteArray := fun n self x => ref19_digits_b n self x.1
theorem dg_step (m : Nat) (x : Int) : recF dgF (m + 1) (x, ()) = ref19_digits_b m (recF dgF m) x := rfl
theorem dg_eq (m : Nat) (x : Int) : ref19_digits m x = recF dgF m (x, ()) := rfl
theorem digits_eq : ∀ (k u : Nat), u < 10 ^ (k + 1) → u ≤ 18446744073709551615 → k ≤ 5000 → recF dgF (k + 2) ((u : Int), ()) = some (bs (decDigits u))
  | 0, u, h, h2, _ => by
    have hu : u < 10 := by simpa using h
    rw [dg_step]
    unfold ref19_digits_b
    rw [decide_eq_true (by omega : (u : Int) < 10), cond_true, bstr_one hu, decDigits_one hu]
  | k + 1, u, h, h2, hk => by
    rw [dg_step]
    unfold ref19_digits_b
    by_cases hu : u < 10
    · rw [decide_eq_true (by omega : (u : Int) < 10), cond_true, bstr_one hu, decDigits_one hu]
    · rw [decide_eq_false (by omega : ¬ (u : Int) < 10), cond_false]
      have q1 : quoP .u64 (u : Int) 10 = some ((u / 10 : Nat) : Int) := by
        unfold quoP
        rw [if_pos (by omega)]
        congr 1
        rw [show (u : Int).tdiv 10 = ((u / 10 : Nat) : Int) by simp [Int.tdiv]]
        exact wrap64 (by omega) (by omega)
      have q2 : remP (u : Int) 10 = some ((u % 10 : Nat) : Int) := by
        unfold remP
        rw [if_pos (by omega)]
        simp [Int.tmod]
      have hd : u % 10 < 10 := by omega
      have i1 := digits_eq k (u / 10) (by rw [Nat.pow_succ] at h; omega) (by omega) (by omega)
      have i2 := digits_eq k (u % 10) (by have := Nat.pow_succ 10 k; have := Nat.one_le_pow k 10 (by omega); omega) (by omega) (by omega)
      have l1 : (decDigits (u / 10)).length ≤ k + 1 := by rw [decDigits_length]; exact nDigits_le _ _ (by omega) (by rw [Nat.pow_succ] at h; omega)
      rw [q1, Option.bind_some, i1, Option.bind_some, q2, Option.bind_some, i2, Option.bind_some, cat_bs (by rw [decDigits_one hd]; simp; omega), Option.bind_some, decDigits_one hd]
      conv => rhs; rw [decDigits, dif_neg hu]
theorem number_eq (n : Nat) (hn : 40 ≤ n) (hn2 : n ≤ 5000) {z : Int} (h : I64 z) : ref19_Number n z = some (bs (itoa z)) := by
  obtain ⟨h1, h2⟩ := h
  have dig : ∀ u : Nat, u ≤ 9223372036854775808 → ref19_digits n (u : Int) = some (bs (decDigits u)) := fun u hu => by
    obtain ⟨k, rfl⟩ : ∃ k, n = k + 2 := ⟨n - 2, by omega⟩
    rw [dg_eq]
    refine digits_eq k u ?_ (by omega) (by omega)
    have h1 : (10 : Nat) ^ 20 ≤ 10 ^ (k + 1) := Nat.pow_le_pow_right (by omega) (by omega)
    have e : (10 : Nat) ^ 20 = 100000000000000000000 := by decide
    omega
  have l1 : ∀ u : Nat, u ≤ 9223372036854775808 → (decDigits u).length ≤ 20 := fun u hu => by
    rw [decDigits_length]
    exact nDigits_le _ _ (by omega) (by have e : (10 : Nat) ^ 20 = 100000000000000000000 := by decide
                                        omega)
  unfold ref19_Number itoa
  by_cases hz : z < 0
  · rw [decide_eq_true hz, cond_true, if_pos hz]
    have e : IntKind.wrap .u64 ((IntKind.wrap .u64 (IntKind.wrap .i64 (0 - (IntKind.wrap .i64 (z + 1))))) + 1) = (z.natAbs : Int) := by
      rw [IntKind.wrap_i64, IntKind.wrap_i64, IntKind.wrap_u64, IntKind.wrap_u64]
      omega
    rw [e, dig _ (by omega), Option.bind_some]
    show (catP (bs [45]) (bs (decDigits z.natAbs))).bind _ = _
    rw [cat_bs (by have := l1 z.natAbs (by omega); simp; omega)]
    rfl
  · rw [decide_eq_false hz, cond_false, if_neg hz]
    have e : IntKind.wrap .u64 z = (z.toNat : Int) := by rw [IntKind.wrap_u64]; omega
    rw [e, dig _ (by omega)]
    rfl
end Go.Proofs.YtlfjoaipbpendaaGreatDoor

/- Layer 19 (request): a request's line, by the code and by the document. -/
namespace Go.Proofs.YtlfjoaipbpendaaGreatDoor
open Go.Bur Go.Lib
set_option linter.unusedSimpArgs false
set_option linter.unusedVariables false
set_option maxRecDepth 100000

def keyT (k : Key) : List UInt8 := itoa k.table ++ 32 :: itoa k.id
def badC (c : UInt8) : Bool := (decide ((c.toNat : Int) < 32) || decide ((c.toNat : Int) > 126)) || ((c.toNat : Int) == 34)
def quoB (l : List UInt8) : Bool := !l.any badC
def quoT (l : List UInt8) : List UInt8 := 34 :: (l ++ [34])
def noteL (q : Request) : List UInt8 := q.note.data.toList
def wordsP (q : Request) : List (List UInt8) :=
  if q.kind = 1 then [[114, 101, 97, 100], keyT q.key]
  else if q.kind = 2 then [[115, 99, 97, 110], itoa q.key.table]
  else if q.kind = 3 then [[105, 110, 115, 101, 114, 116], keyT q.key, itoa q.val, quoT (noteL q)]
  else if q.kind = 4 then [[100, 101, 108, 101, 116, 101], keyT q.key]
  else if q.kind = 5 then [[110, 111, 116, 101], keyT q.key, quoT (noteL q)]
  else if q.kind = 6 then [[115, 101, 116], keyT q.key, itoa q.val]
  else if q.kind = 7 then [[97, 100, 100], keyT q.key, itoa q.val]
  else if q.kind = 8 then [[109, 111, 118, 101], keyT q.key, keyT q.to, itoa q.val]
  else if q.kind = 9 then [[109, 97, 114, 107]]
  else if q.kind = 10 then [[98, 97, 99, 107], itoa q.n]
  else if q.kind = 11 then [[99, 111, 109, 109, 105, 116]]
  else [[97, 98, 111, 114, 116]]
def textP (q : Request) : List UInt8 := join (wordsP q) [32]
structure KIn (k : Key) : Prop where
  table : I64 k.table
  id0 : 0 ≤ k.id
  id1 : k.id ≤ 65535
structure QIn (q : Request) : Prop where
  key : KIn q.key
  to : KIn q.to
  val : I64 q.val
  n : I64 q.n
  note : (noteL q).length ≤ 1000
theorem KIn.id {k : Key} (h : KIn k) : I64 k.id := ⟨by have := h.id0; omega, by have := h.id1; omega⟩
theorem join2 (a b : List UInt8) : join [a, b] [32] = a ++ 32 :: b := by simp [join, List.intercalate]
theorem join3 (a b c : List UInt8) : join [a, b, c] [32] = a ++ 32 :: (b ++ 32 :: c) := by simp [join, List.intercalate]
theorem join4 (a b c d : List UInt8) : join [a, b, c, d] [32] = a ++ 32 :: (b ++ 32 :: (c ++ 32 :: d)) := by simp [join, List.intercalate]
theorem keyT_len {k : Key} (h : KIn k) : (keyT k).length ≤ 43 ∧ 3 ≤ (keyT k).length := by
  unfold keyT
  have h1 := itoa_len h.table
  have h2 := itoa_len h.id
  rw [List.length_append, List.length_cons]
  omega
theorem quoT_len (l : List UInt8) : (quoT l).length = l.length + 2 := by simp [quoT]
theorem key_eq2 (n : Nat) {k : Key} (h : KIn k) : request_key n k = some (bs (keyT k)) := by
  unfold request_key
  have h1 := itoa_len h.table
  have h2 := itoa_len h.id
  have e : IntKind.wrap .i64 k.id = k.id := by rw [IntKind.wrap_i64]; have := h.id0; have := h.id1; omega
  rw [word_eq n h.table, Option.bind_some, cat_bs (by simp; omega), Option.bind_some, e, word_eq n h.id, Option.bind_some, cat_bs (by simp; omega), Option.bind_some]
  unfold keyT
  rw [List.append_assoc]
  rfl
theorem rkey_eq (n : Nat) (hn : 40 ≤ n) (hn2 : n ≤ 5000) {k : Key} (h : KIn k) : ref19_key n k = some (bs (32 :: keyT k)) := by
  unfold ref19_key
  have h1 := itoa_len h.table
  have h2 := itoa_len h.id
  have e : IntKind.wrap .i64 k.id = k.id := by rw [IntKind.wrap_i64]; have := h.id0; have := h.id1; omega
  rw [number_eq n hn hn2 h.table, Option.bind_some, cat_bs (by simp; omega), Option.bind_some, cat_bs (by simp; omega), Option.bind_some, e, number_eq n hn hn2 h.id, Option.bind_some, cat_bs (by simp; omega), Option.bind_some]
  unfold keyT
  simp
theorem quoted_eq (n : Nat) (hn : 1003 ≤ n) (l : List UInt8) (hl : l.length ≤ 1000) : request_quoted n (bs l) = some (if quoB l then (bs (quoT l), true) else (bs [], false)) := by
  show request_quoted_l1 n n (bs l, ((bs l).size : Int), ((0 : Nat) : Int), ()) = _
  rw [bs_size]
  unfold request_quoted_l1
  refine (run_loop l (fun (i : Nat) (_ : Unit) => (bs l, (l.length : Int), (i : Int), ())) (fun _ c _ => if badC c then .inl (some (bs [], false)) else .inr ()) (fun _ => some (bs (quoT l), true)) (fun r i s c hc hi => ?_) (fun r s => ?_) n 0 () (by omega) (by omega)).trans ?_
  · simp only [lt_dec hi, cond_true, sidx_bs, hc, Option.map_some, Option.bind_some, jn, wrap_succ (show i < 4611686018427387904 by omega)]
    unfold badC
    cases decide ((c.toNat : Int) < 32) <;> cases decide ((c.toNat : Int) > 126) <;> cases ((c.toNat : Int) == 34) <;> rfl
  · have e1 : catP (ByteArray.mk #[34]) (bs l) = some (bs ([34] ++ l)) := cat_bs (by simp; omega)
    have e2 : catP (bs ([34] ++ l)) (ByteArray.mk #[34]) = some (bs (([34] ++ l) ++ [34])) := cat_bs (by simp; omega)
    simp only [ge_dec (Nat.lt_irrefl _), cond_false, e1, e2, Option.bind_some]
    rfl
  · rw [List.drop_zero, runL_any]
    unfold quoB
    cases l.any badC <;> rfl
theorem rquotes_eq (n : Nat) (hn : 1003 ≤ n) (l : List UInt8) (hl : l.length ≤ 1000) : ref19_Quotes n (bs l) = some (quoB l) := by
  show ref19_Quotes_l1 n n (bs l, ((0 : Nat) : Int), ()) = _
  unfold ref19_Quotes_l1
  refine (run_loop l (fun (i : Nat) (_ : Unit) => (bs l, (i : Int), ())) (fun _ c _ => if badC c then .inl (some false) else .inr ()) (fun _ => some true) (fun r i s c hc hi => ?_) (fun r s => ?_) n 0 () (by omega) (by omega)).trans ?_
  · simp only [bs_size, lt_dec hi, cond_true, sidx_bs, hc, Option.map_some, Option.bind_some, jn, wrap_succ (show i < 4611686018427387904 by omega)]
    unfold badC
    cases decide ((c.toNat : Int) < 32) <;> cases decide ((c.toNat : Int) > 126) <;> cases ((c.toNat : Int) == 34) <;> rfl
  · simp only [bs_size, ge_dec (Nat.lt_irrefl _), cond_false]
  · rw [List.drop_zero, runL_any]
    unfold quoB
    cases l.any badC <;> rfl
theorem line_eq (n : Nat) (ws : List (List UInt8)) (h : (join ws [32]).length ≤ 100000) (h2 : ws.length ≤ 10) : request_line n (ws.map bs) = some (bs (join ws [32])) := by
  have e : joinB (ws.map bs) (bs [32]) = join ws [32] := by
    unfold joinB
    rw [List.map_map]
    have : (fun x : ByteArray => x.data.toList) ∘ bs = id := by funext l; exact bs_data l
    rw [this, List.map_id]
  unfold request_line strings_Join joinZ
  show (match Nat.ble (joinB (ws.map bs) (bs [32])).length 140737488355328 && Nat.ble (ws.map bs).length 140737488355328 with | true => some (bs (joinB (ws.map bs) (bs [32]))) | false => none).bind _ = _
  rw [e, Nat.ble_eq_true_of_le (by omega), List.length_map, Nat.ble_eq_true_of_le (by omega)]
  rfl
def textE (s : Schema) (q : Request) : ByteArray × Int := if right s then (if reqOk s q then (if quoB (noteL q) then (bs (textP q), 0) else (bs [], 250)) else (bs [], 250)) else (bs [], 150)
theorem text_eq (s : Schema) (hs : s.tables.length ≤ 1000) (q : Request) (h : QIn q) : request_Text 2000 s q = some (textE s q) := by
  unfold request_Text textE
  rw [checkReq_eq 2000 (by omega) s hs q]
  cases hr : right s with
  | false => rfl
  | true =>
    cases hq : reqOk s q with
    | false => rfl
    | true =>
      obtain ⟨f1, f2, _⟩ := reqOk_facts hq
      have hn := h.note
      have hqu : request_quoted 2000 q.note = some (if quoB (noteL q) then (bs (quoT (noteL q)), true) else (bs [], false)) := by
        have := quoted_eq 2000 (by omega) (noteL q) hn
        rwa [show bs (noteL q) = q.note from bs_of _] at this
      rw [if_pos rfl, if_pos rfl, Option.bind_some, bne_self_eq_false, cond_false, hqu]
      cases hb : quoB (noteL q) with
      | false => rfl
      | true =>
        have k1 := keyT_len h.key
        have k2 := keyT_len h.to
        have k3 := itoa_len h.val
        have k4 := itoa_len h.n
        have k5 := itoa_len h.key.table
        have k6 := quoT_len (noteL q)
        have w2 : ∀ a b : List UInt8, a.length + b.length ≤ 5000 → request_line 2000 [bs a, bs b] = some (bs (join [a, b] [32])) := fun a b hh => line_eq 2000 [a, b] (by rw [join2]; simp; omega) (by simp)
        have w3 : ∀ a b c : List UInt8, a.length + b.length + c.length ≤ 5000 → request_line 2000 [bs a, bs b, bs c] = some (bs (join [a, b, c] [32])) := fun a b c hh => line_eq 2000 [a, b, c] (by rw [join3]; simp; omega) (by simp)
        have w4 : ∀ a b c d : List UInt8, a.length + b.length + c.length + d.length ≤ 5000 → request_line 2000 [bs a, bs b, bs c, bs d] = some (bs (join [a, b, c, d] [32])) := fun a b c d hh => line_eq 2000 [a, b, c, d] (by rw [join4]; simp; omega) (by simp)
        simp only [if_true, Option.bind_some, Bool.not_true, cond_false, key_eq2 2000 h.key, key_eq2 2000 h.to, word_eq 2000 h.val, word_eq 2000 h.n, word_eq 2000 h.key.table]
        unfold textP wordsP
        rcases kinds f1 f2 with e | e | e | e | e | e | e | e | e | e | e | e <;> rw [e] <;> simp only [Int.reduceBEq, cond_true, cond_false, if_true, if_false, Int.reduceEq]
        · rw [w2 [114, 101, 97, 100] _ (by simp; omega)]; rfl
        · rw [w2 [115, 99, 97, 110] _ (by simp; omega)]; rfl
        · rw [w4 [105, 110, 115, 101, 114, 116] _ _ _ (by simp; omega)]; rfl
        · rw [w2 [100, 101, 108, 101, 116, 101] _ (by simp; omega)]; rfl
        · rw [w3 [110, 111, 116, 101] _ _ (by simp; omega)]; rfl
        · rw [w3 [115, 101, 116] _ _ (by simp; omega)]; rfl
        · rw [w3 [97, 100, 100] _ _ (by simp; omega)]; rfl
        · rw [w4 [109, 111, 118, 101] _ _ _ (by simp; omega)]; rfl
        · rfl
        · rw [w2 [98, 97, 99, 107] _ (by simp; omega)]; rfl
        · rfl
        · rfl
theorem rtext_eq (q : Request) (h : QIn q) (f1 : 1 ≤ q.kind) (f2 : q.kind ≤ 12) : ref19_Text 2000 q = some (bs (textP q)) := by
  unfold ref19_Text
  have k1 := keyT_len h.key
  have k2 := keyT_len h.to
  have k3 := itoa_len h.val
  have k4 := itoa_len h.n
  have k5 := itoa_len h.key.table
  have hn := h.note
  have c : ∀ a b : List UInt8, a.length + b.length ≤ 10000 → catP (bs a) (bs b) = some (bs (a ++ b)) := fun a b hh => cat_bs (by omega)
  have e0 : q.note = bs (noteL q) := (bs_of _).symm
  rw [e0]
  rw [number_eq 2000 (by omega) (by omega) h.val, Option.bind_some, c [32] _ (by simp; omega), Option.bind_some, c [32, 34] _ (by simp; omega), Option.bind_some, c _ [34] (by simp; omega), Option.bind_some]
  simp only [rkey_eq 2000 (by omega) (by omega) h.key, rkey_eq 2000 (by omega) (by omega) h.to, number_eq 2000 (by omega) (by omega) h.n, number_eq 2000 (by omega) (by omega) h.key.table, Option.bind_some]
  unfold textP wordsP
  rcases kinds f1 f2 with e | e | e | e | e | e | e | e | e | e | e | e <;> rw [e] <;> simp only [Int.reduceBEq, cond_true, cond_false, if_true, if_false, Int.reduceEq]
  · rw [c [114, 101, 97, 100] _ (by simp; omega), Option.bind_some, join2]
  · rw [c [115, 99, 97, 110, 32] _ (by simp; omega), Option.bind_some, join2]; rfl
  · rw [c [105, 110, 115, 101, 114, 116] _ (by simp; omega), Option.bind_some, c _ _ (by simp; omega), Option.bind_some, c _ _ (by simp; omega), Option.bind_some, join4]; simp [quoT]
  · rw [c [100, 101, 108, 101, 116, 101] _ (by simp; omega), Option.bind_some, join2]
  · rw [c [110, 111, 116, 101] _ (by simp; omega), Option.bind_some, c _ _ (by simp; omega), Option.bind_some, join3]; simp [quoT]
  · rw [c [115, 101, 116] _ (by simp; omega), Option.bind_some, c _ _ (by simp; omega), Option.bind_some, join3]; simp
  · rw [c [97, 100, 100] _ (by simp; omega), Option.bind_some, c _ _ (by simp; omega), Option.bind_some, join3]; simp
  · rw [c [109, 111, 118, 101] _ (by simp; omega), Option.bind_some, c _ _ (by simp; omega), Option.bind_some, c _ _ (by simp; omega), Option.bind_some, join4]; simp
  · rfl
  · rw [c [98, 97, 99, 107, 32] _ (by simp; omega), Option.bind_some, join2]; rfl
  · rfl
  · rfl
theorem rright19 (s : Schema) (hr : right s = true) (q : Request) (hn : (noteL q).length ≤ 1000) : ref19_Right 2000 s q = some (reqOk s q && quoB (noteL q)) := by
  unfold ref19_Right
  have := rquotes_eq 2000 (by omega) (noteL q) hn
  rw [show bs (noteL q) = q.note from bs_of _] at this
  rw [rightReq_eq 2000 s hr q, this]
  cases reqOk s q <;> rfl
end Go.Proofs.YtlfjoaipbpendaaGreatDoor

/- Layer 19 (request): a line is read; the laws RequestTexts and RequestReads. -/
namespace Go.Proofs.YtlfjoaipbpendaaGreatDoor
open Go.Bur Go.Lib
set_option linter.unusedSimpArgs false
set_option linter.unusedVariables false
set_option maxRecDepth 100000

/-! ### Words -/
def cutL (r : List UInt8) : List UInt8 × List UInt8 × Bool := cut r [32]
theorem cut_len (r : List UInt8) : (cutL r).1.length ≤ r.length ∧ (cutL r).2.1.length ≤ r.length := by
  unfold cutL cut
  split
  · simp only [List.length_take, List.length_drop]; omega
  · simp
def nxB (r : List UInt8) (bad : Bool) : Bool := bad || ((cutL r).2.2 && decide ((cutL r).2.1 = []))
theorem toList_eq_bs (a b : List UInt8) : ((bs a).toList == (bs b).toList) = decide (a = b) := by
  rw [bs_toList, bs_toList, Bool.eq_iff_iff]
  simp
theorem next_eq (n : Nat) (s : Schema) (r : List UInt8) (bad : Bool) (h : r.length ≤ 1000) : request_reader_next n ⟨s, bs r, bad⟩ = some (bs (cutL r).1, ⟨s, bs (cutL r).2.1, nxB r bad⟩) := by
  unfold request_reader_next strings_Cut cutZ nxB
  have hb : Nat.blt (bs r).size 4294967281 = true := by rw [bs_size, Nat.blt_eq]; omega
  simp only [hb, Option.bind_some, jn]
  show cond bad _ (cond (cutL r).2.2 (some _) _) = _
  cases bad with
  | true => rfl
  | false =>
    cases (cutL r).2.2 with
    | false => rfl
    | true =>
      show some (bs (cutL r).1, request_reader.mk s (bs (cutL r).2.1) ((bs (cutL r).2.1).toList == (bs []).toList)) = _
      rw [toList_eq_bs]
      rfl
/-- What the next word says as a number. -/
def nmZ (r : List UInt8) : Int := (parN (cutL r).1).1
def nmB (r : List UInt8) (bad : Bool) : Bool := (nxB r bad || (parN (cutL r).1).2) || !decide (itoa (nmZ r) = (cutL r).1)
theorem nmZ_i64 (r : List UInt8) : I64 (nmZ r) := parN_i64 _
theorem number_at (n : Nat) (s : Schema) (r : List UInt8) (bad : Bool) (h : r.length ≤ 1000) : request_reader_number n ⟨s, bs r, bad⟩ = some (nmZ r, ⟨s, bs (cutL r).2.1, nmB r bad⟩) := by
  have hl := cut_len r
  unfold request_reader_number strconv_ParseInt parZ
  rw [next_eq n s r bad h]
  simp only [Option.bind_some, jn]
  rw [decide_eq_true (show ((True ∧ True ∧ (bs (cutL r).1).size ≤ 281474976710656) : Prop) from ⟨trivial, trivial, by rw [bs_size]; omega⟩)]
  simp only [Option.bind_some, show ((bs (cutL r).1).data.toList) = (cutL r).1 from bs_data _]
  rw [word_eq n (parN_i64 _)]
  simp only [Option.bind_some, toList_eq_bs]
  unfold nmB nmZ
  cases nxB r bad <;> cases (parN (cutL r).1).2 <;> rfl
def clamp (m z : Int) : Int := if 0 > (if m < z then m else z) then 0 else (if m < z then m else z)
theorem clamp_in {m z : Int} (hm : 0 ≤ m) : 0 ≤ clamp m z ∧ clamp m z ≤ m := by unfold clamp; split <;> split at * <;> omega
def plB (m : Int) (r : List UInt8) (bad : Bool) : Bool := (nmB r bad || decide (nmZ r < 0)) || decide (nmZ r > m)
theorem place_at (n : Nat) (s : Schema) (m : Int) (r : List UInt8) (bad : Bool) (h : r.length ≤ 1000) : request_reader_place n m ⟨s, bs r, bad⟩ = some (clamp m (nmZ r), ⟨s, bs (cutL r).2.1, plB m r bad⟩) := by
  unfold request_reader_place
  rw [number_at n s r bad h]
  simp only [Option.bind_some, jn]
  unfold plB
  cases nmB r bad <;> cases decide (nmZ r < 0) <;> rfl

/-! ### Of whatever line -/
/-- The reader is where it may be, and what it has read may be. -/
def rdE (s : Schema) (t : List UInt8) (b : Bool) : request_reader := ⟨s, bs t, b⟩
theorem key_any (n : Nat) (s : Schema) (r : List UInt8) (bad : Bool) (h : r.length ≤ 1000) : ∃ k t b, request_reader_key n (rdE s r bad) = some (k, rdE s t b) ∧ t.length ≤ 1000 ∧ KIn k := by
  have h1 := cut_len r
  have h2 := cut_len (cutL r).2.1
  unfold request_reader_key rdE
  rw [place_at n s 3 r bad h, Option.bind_some, place_at n s 65535 _ _ (by omega), Option.bind_some]
  refine ⟨_, _, _, rfl, by omega, ?_⟩
  have c1 := clamp_in (m := 3) (z := nmZ r) (by omega)
  have c2 := clamp_in (m := 65535) (z := nmZ (cutL r).2.1) (by omega)
  refine ⟨⟨?_, ?_⟩, ?_, ?_⟩
  · show -9223372036854775808 ≤ clamp 3 _; omega
  · show clamp 3 _ ≤ 9223372036854775807; omega
  · show 0 ≤ IntKind.wrap .u16 _; rw [IntKind.wrap_u16]; omega
  · show IntKind.wrap .u16 _ ≤ 65535; rw [IntKind.wrap_u16]; omega
theorem num_any (n : Nat) (s : Schema) (r : List UInt8) (bad : Bool) (h : r.length ≤ 1000) : ∃ z t b, request_reader_number n (rdE s r bad) = some (z, rdE s t b) ∧ t.length ≤ 1000 ∧ I64 z := by
  have h1 := cut_len r
  exact ⟨_, _, _, number_at n s r bad h, by omega, nmZ_i64 r⟩
theorem place_any (n : Nat) (s : Schema) {m : Int} (hm : 0 ≤ m) (hm2 : m ≤ 9223372036854775807) (r : List UInt8) (bad : Bool) (h : r.length ≤ 1000) : ∃ z t b, request_reader_place n m (rdE s r bad) = some (z, rdE s t b) ∧ t.length ≤ 1000 ∧ I64 z := by
  have h1 := cut_len r
  have c1 := clamp_in (m := m) (z := nmZ r) hm
  exact ⟨_, _, _, place_at n s m r bad h, by omega, by omega, by omega⟩
theorem extract_bs (l : List UInt8) (a b : Nat) : ByteArray.extract (bs l) a b = bs ((l.drop a).take (b - a)) := ByteArray.extract_mk l a b
theorem note_eq (n : Nat) (hn : 1003 ≤ n) (s : Schema) (r : List UInt8) (bad : Bool) (h : r.length ≤ 1000) : request_reader_note n (rdE s r bad) =
    some (if 2 ≤ r.length ∧ r[0]? = some 34 ∧ r[r.length - 1]? = some 34 then (bs ((r.drop 1).take (r.length - 2)), rdE s [] (bad || !quoB ((r.drop 1).take (r.length - 2)))) else (bs [], rdE s [] true)) := by
  unfold request_reader_note rdE
  simp only [bs_size, jn]
  by_cases h2 : 2 ≤ r.length
  · have e1 : IntKind.wrap .i64 ((r.length : Int) - 1) = ((r.length - 1 : Nat) : Int) := by rw [IntKind.wrap_i64]; omega
    have e0 : sIdx (bs r) 0 = (r[0]?).map fun c => (c.toNat : Int) := sidx_bs r 0
    have ge0 : r[0]? = some r[0] := List.getElem?_eq_getElem (by omega)
    have gel : r[r.length - 1]? = some (r[r.length - 1]) := List.getElem?_eq_getElem (by omega)
    have e5 : ((0 : Int) ≤ 1 ∧ (1 : Int) ≤ ((r.length - 1 : Nat) : Int) ∧ ((r.length - 1 : Nat) : Int) ≤ (r.length : Int)) = True := eq_true (by omega)
    simp only [decide_eq_false (by omega : ¬ (r.length : Int) < 2), cond_false, e1, e0, sidx_bs, ge0, gel, Option.map_some, Option.bind_some, e5, decide_true, cond_true, Int.toNat_natCast]
    have u8 : ∀ c : UInt8, ((c.toNat : Int) != 34) = !decide (c = 34) := fun c => by
      rw [Bool.eq_iff_iff]
      simp only [bne_iff_ne, ne_eq, Bool.not_eq_true', decide_eq_false_iff_not]
      constructor
      · intro h e; subst e; exact h rfl
      · intro h e
        refine h (UInt8.toNat_inj.1 ?_)
        show c.toNat = 34
        omega
    rw [u8, u8]
    by_cases c0 : r[0] = 34
    · rw [decide_eq_true c0, Bool.not_true, cond_false]
      by_cases c1 : r[r.length - 1] = 34
      · rw [decide_eq_true c1, Bool.not_true, cond_false]
        rw [show Int.toNat 1 = 1 from rfl, extract_bs, show r.length - 1 - 1 = r.length - 2 by omega]
        have hc : 2 ≤ r.length ∧ some r[0] = some 34 ∧ some r[r.length - 1] = some 34 := ⟨h2, by rw [c0], by rw [c1]⟩
        rw [if_pos hc, quoted_eq n hn _ (by simp; omega), Option.bind_some]
        cases bad <;> cases quoB ((r.drop 1).take (r.length - 2)) <;> rfl
      · rw [decide_eq_false c1, Bool.not_false, cond_true, if_neg fun hh => c1 (Option.some.inj hh.2.2)]
    · rw [decide_eq_false c0, Bool.not_false, cond_true, if_neg fun hh => c0 (Option.some.inj hh.2.1)]
  · rw [decide_eq_true (by omega : (r.length : Int) < 2), cond_true, if_neg fun hh => h2 hh.1]
    rfl
theorem note_any (n : Nat) (hn : 1003 ≤ n) (s : Schema) (r : List UInt8) (bad : Bool) (h : r.length ≤ 1000) : ∃ l b, request_reader_note n (rdE s r bad) = some (bs l, rdE s [] b) ∧ l.length ≤ 1000 := by
  rw [note_eq n hn s r bad h]
  split
  · exact ⟨_, _, rfl, by simp; omega⟩
  · exact ⟨_, _, rfl, by simp⟩
def q0 (k : Int) : Request := ⟨k, ⟨0, 0⟩, ⟨0, 0⟩, 0, ByteArray.empty, 0⟩
theorem i64_0 : I64 0 := ⟨by decide, by decide⟩
theorem kin0 : KIn ⟨0, 0⟩ := ⟨i64_0, by decide, by decide⟩
/-- The fields of a line: whatever is there. -/
def Fld (f : request_reader → Request → Option (request_reader × Request)) : Prop := ∀ (s : Schema) (r : List UInt8) (bad : Bool) (k : Int), r.length ≤ 1000 → ∃ t b q, f (rdE s r bad) (q0 k) = some (rdE s t b, q) ∧ QIn q
theorem fld_keyed : Fld (request_reader_keyed 2000) := fun s r bad k h => by
  obtain ⟨a, t, b, e, ht, ha⟩ := key_any 2000 s r bad h
  exact ⟨t, b, _, by unfold request_reader_keyed; rw [e]; rfl, ha, kin0, i64_0, i64_0, Nat.zero_le _⟩
theorem fld_scanned : Fld (request_reader_scanned 2000) := fun s r bad k h => by
  obtain ⟨a, t, b, e, ht, ha⟩ := place_any 2000 s (m := 3) (by omega) (by omega) r bad h
  exact ⟨t, b, _, by unfold request_reader_scanned; rw [e]; rfl, ⟨ha, (by show (0 : Int) ≤ 0; omega), (by show (0 : Int) ≤ 65535; omega)⟩, kin0, i64_0, i64_0, Nat.zero_le _⟩
theorem fld_valued : Fld (request_reader_valued 2000) := fun s r bad k h => by
  obtain ⟨a, t, b, e, ht, ha⟩ := key_any 2000 s r bad h
  obtain ⟨z, t2, b2, e2, ht2, hz⟩ := num_any 2000 s t b ht
  exact ⟨t2, b2, _, by unfold request_reader_valued; rw [e, Option.bind_some, e2]; rfl, ha, kin0, hz, i64_0, Nat.zero_le _⟩
theorem fld_inserted : Fld (request_reader_inserted 2000) := fun s r bad k h => by
  obtain ⟨a, t, b, e, ht, ha⟩ := key_any 2000 s r bad h
  obtain ⟨z, t2, b2, e2, ht2, hz⟩ := num_any 2000 s t b ht
  obtain ⟨l, b3, e3, hl⟩ := note_any 2000 (by omega) s t2 b2 ht2
  exact ⟨_, _, ⟨k, a, ⟨0, 0⟩, z, bs l, 0⟩, by unfold request_reader_inserted request_reader_valued; rw [e, Option.bind_some, e2, Option.bind_some, Option.bind_some, e3]; rfl, ha, kin0, hz, i64_0, (show ((bs l).data.toList).length ≤ 1000 by rw [bs_data]; exact hl)⟩
theorem fld_noted : Fld (request_reader_noted 2000) := fun s r bad k h => by
  obtain ⟨a, t, b, e, ht, ha⟩ := key_any 2000 s r bad h
  obtain ⟨l, b3, e3, hl⟩ := note_any 2000 (by omega) s t b ht
  exact ⟨_, _, ⟨k, a, ⟨0, 0⟩, 0, bs l, 0⟩, by unfold request_reader_noted; rw [e, Option.bind_some, e3]; rfl, ha, kin0, i64_0, i64_0, (show ((bs l).data.toList).length ≤ 1000 by rw [bs_data]; exact hl)⟩
theorem fld_moved : Fld (request_reader_moved 2000) := fun s r bad k h => by
  obtain ⟨a, t, b, e, ht, ha⟩ := key_any 2000 s r bad h
  obtain ⟨a2, t2, b2, e2, ht2, ha2⟩ := key_any 2000 s t b ht
  obtain ⟨z, t3, b3, e3, ht3, hz⟩ := num_any 2000 s t2 b2 ht2
  exact ⟨_, _, _, by unfold request_reader_moved; rw [e, Option.bind_some, e2, Option.bind_some, e3]; rfl, ha, ha2, hz, i64_0, Nat.zero_le _⟩
theorem fld_backed : Fld (request_reader_backed 2000) := fun s r bad k h => by
  obtain ⟨a, t, b, e, ht, ha⟩ := place_any 2000 s (m := 9223372036854775807) (by omega) (by omega) r bad h
  exact ⟨t, b, _, by unfold request_reader_backed; rw [e]; rfl, kin0, kin0, i64_0, ha, Nat.zero_le _⟩
def aloneF (r : request_reader) (q : Request) : Option (request_reader × Request) := some (r, q)
theorem fld_alone : Fld aloneF := fun s r bad k h => ⟨r, bad, _, rfl, kin0, kin0, i64_0, i64_0, Nat.zero_le _⟩

/-! ### The line's end -/
def tailT (p1 : ByteArray) (y3 : request_reader × Request) : Option (Request × Int) :=
  (request_Text 2000 y3.1.schema y3.2).bind fun y4 =>
  jn (fun (b5 : Bool) =>
      jn (fun (b7 : Bool) =>
          jn (fun (b9 : Bool) =>
              cond b9
                (some ((Request.mk 0 (Key.mk 0 0) (Key.mk 0 0) 0 ByteArray.empty 0), 250))
                (some (y3.2, 0))) fun k10 =>
          cond b7
            (k10 true)
            (k10 (!(y4.1.toList == p1.toList)))) fun k8 =>
      cond b5
        (k8 true)
        (k8 (y4.2 != 0))) fun k6 =>
  cond y3.1.bad
    (k6 true)
    (k6 (!(y3.1.rest.toList == (ByteArray.mk #[]).toList)))
theorem tail_eq (s : Schema) (hs : s.tables.length ≤ 1000) (p : List UInt8) (t : List UInt8) (b : Bool) (q : Request) (h : QIn q) : tailT (bs p) (rdE s t b, q) =
    some (if b = true ∨ t ≠ [] ∨ (textE s q).2 ≠ 0 ∨ (textE s q).1 ≠ bs p then (q0 0, 250) else (q, 0)) := by
  unfold tailT
  show (request_Text 2000 s q).bind _ = _
  rw [text_eq s hs q h, Option.bind_some]
  have e1 : ((rdE s t b).rest.toList == (ByteArray.mk #[]).toList) = decide (t = []) := toList_eq_bs t []
  have e2 : ((textE s q).1.toList == (bs p).toList) = decide ((textE s q).1 = bs p) := by
    generalize (textE s q).1 = B
    rw [← bs_of B, toList_eq_bs]
    exact decide_eq_decide.2 ⟨fun h => by rw [h], fun h => bs_inj h⟩
  simp only [jn, e1, e2]
  show cond b _ _ = _
  cases b with
  | true => rw [if_pos (.inl rfl)]; rfl
  | false =>
    by_cases ht : t = []
    · by_cases h2 : (textE s q).2 = 0
      · by_cases h3 : (textE s q).1 = bs p
        · rw [if_neg (by simp [ht, h2, h3]), decide_eq_true ht, decide_eq_true h3, h2]; rfl
        · rw [if_pos (.inr (.inr (.inr h3))), decide_eq_true ht, decide_eq_false h3, h2]; rfl
      · rw [if_pos (.inr (.inr (.inl h2))), decide_eq_true ht, bne_iff_ne.2 h2]; rfl
    · rw [if_pos (.inr (.inl ht)), decide_eq_false ht]; rfl
/-- Reading, word by word. -/
def parseB (p1 : ByteArray) (y2 : ByteArray × request_reader) : Option (Request × Int) :=
  cond (strEq y2.1 (bs [114, 101, 97, 100])) ((request_reader_keyed 2000 y2.2 (q0 1)).bind (tailT p1))
  (cond (strEq y2.1 (bs [115, 99, 97, 110])) ((request_reader_scanned 2000 y2.2 (q0 2)).bind (tailT p1))
  (cond (strEq y2.1 (bs [105, 110, 115, 101, 114, 116])) ((request_reader_inserted 2000 y2.2 (q0 3)).bind (tailT p1))
  (cond (strEq y2.1 (bs [100, 101, 108, 101, 116, 101])) ((request_reader_keyed 2000 y2.2 (q0 4)).bind (tailT p1))
  (cond (strEq y2.1 (bs [110, 111, 116, 101])) ((request_reader_noted 2000 y2.2 (q0 5)).bind (tailT p1))
  (cond (strEq y2.1 (bs [115, 101, 116])) ((request_reader_valued 2000 y2.2 (q0 6)).bind (tailT p1))
  (cond (strEq y2.1 (bs [97, 100, 100])) ((request_reader_valued 2000 y2.2 (q0 7)).bind (tailT p1))
  (cond (strEq y2.1 (bs [109, 111, 118, 101])) ((request_reader_moved 2000 y2.2 (q0 8)).bind (tailT p1))
  (cond (strEq y2.1 (bs [109, 97, 114, 107])) ((aloneF y2.2 (q0 9)).bind (tailT p1))
  (cond (strEq y2.1 (bs [98, 97, 99, 107])) ((request_reader_backed 2000 y2.2 (q0 10)).bind (tailT p1))
  (cond (strEq y2.1 (bs [99, 111, 109, 109, 105, 116])) ((aloneF y2.2 (q0 11)).bind (tailT p1))
  (cond (strEq y2.1 (bs [97, 98, 111, 114, 116])) ((aloneF y2.2 (q0 12)).bind (tailT p1)) (some (q0 0, 250)))))))))))))
theorem parse_def (s : Schema) (p : ByteArray) : request_Parse 2000 s p = (row_Check 2000 s).bind fun y1 => cond (y1 != 0) (some (q0 0, y1)) ((request_reader_next 2000 ⟨s, p, false⟩).bind (parseB p)) := by
  rfl
end Go.Proofs.YtlfjoaipbpendaaGreatDoor

/- Layer 19 (request): the laws RequestTexts and RequestReads. -/
namespace Go.Proofs.YtlfjoaipbpendaaGreatDoor
open Go.Bur Go.Lib
set_option linter.unusedSimpArgs false
set_option linter.unusedVariables false
set_option maxRecDepth 100000

def Read (s : Schema) (l : List UInt8) (x : Option (Request × Int)) : Prop := ∃ q e, x = some (q, e) ∧ ((q = q0 0 ∧ e = 250) ∨ (e = 0 ∧ QIn q ∧ textE s q = (bs l, 0)))
theorem read_branch {s : Schema} (hs : s.tables.length ≤ 1000) (l : List UInt8) {f : request_reader → Request → Option (request_reader × Request)} (hf : Fld f) (r : List UInt8) (bad : Bool) (k : Int) (hr : r.length ≤ 1000) : Read s l ((f (rdE s r bad) (q0 k)).bind (tailT (bs l))) := by
  obtain ⟨t, b, q, e, hq⟩ := hf s r bad k hr
  rw [e, Option.bind_some, tail_eq s hs l t b q hq]
  by_cases h : b = true ∨ t ≠ [] ∨ (textE s q).2 ≠ 0 ∨ (textE s q).1 ≠ bs l
  · rw [if_pos h]; exact ⟨_, _, rfl, .inl ⟨rfl, rfl⟩⟩
  · rw [if_neg h]
    refine ⟨_, _, rfl, .inr ⟨rfl, hq, ?_⟩⟩
    have h1 : (textE s q).2 = 0 := Classical.byContradiction fun e => h (.inr (.inr (.inl e)))
    have h2 : (textE s q).1 = bs l := Classical.byContradiction fun e => h (.inr (.inr (.inr e)))
    exact Prod.ext h2 h1
theorem parseB_any {s : Schema} (hs : s.tables.length ≤ 1000) (l w : List UInt8) (r : List UInt8) (bad : Bool) (hr : r.length ≤ 1000) : Read s l (parseB (bs l) (bs w, rdE s r bad)) := by
  have go := fun {f} (hf : Fld f) k => read_branch hs l hf r bad k hr
  unfold parseB
  simp only
  cases strEq (bs w) (bs [114, 101, 97, 100]) with
  | true => exact go fld_keyed 1
  | false =>
  cases strEq (bs w) (bs [115, 99, 97, 110]) with
  | true => exact go fld_scanned 2
  | false =>
  cases strEq (bs w) (bs [105, 110, 115, 101, 114, 116]) with
  | true => exact go fld_inserted 3
  | false =>
  cases strEq (bs w) (bs [100, 101, 108, 101, 116, 101]) with
  | true => exact go fld_keyed 4
  | false =>
  cases strEq (bs w) (bs [110, 111, 116, 101]) with
  | true => exact go fld_noted 5
  | false =>
  cases strEq (bs w) (bs [115, 101, 116]) with
  | true => exact go fld_valued 6
  | false =>
  cases strEq (bs w) (bs [97, 100, 100]) with
  | true => exact go fld_valued 7
  | false =>
  cases strEq (bs w) (bs [109, 111, 118, 101]) with
  | true => exact go fld_moved 8
  | false =>
  cases strEq (bs w) (bs [109, 97, 114, 107]) with
  | true => exact go fld_alone 9
  | false =>
  cases strEq (bs w) (bs [98, 97, 99, 107]) with
  | true => exact go fld_backed 10
  | false =>
  cases strEq (bs w) (bs [99, 111, 109, 109, 105, 116]) with
  | true => exact go fld_alone 11
  | false =>
  cases strEq (bs w) (bs [97, 98, 111, 114, 116]) with
  | true => exact go fld_alone 12
  | false => exact ⟨_, _, rfl, .inl ⟨rfl, rfl⟩⟩
theorem req_refl (q : Request) : Request.eqb q q = true := by unfold Request.eqb; simp
theorem eqb_q0 : Request.eqb (q0 0) (Request.mk 0 (Key.mk 0 0) (Key.mk 0 0) 0 ByteArray.empty 0) = true := req_refl _
theorem textE_ok {s : Schema} {q : Request} {l : List UInt8} (h : textE s q = (bs l, 0)) : right s = true ∧ reqOk s q = true ∧ quoB (noteL q) = true ∧ textP q = l := by
  unfold textE at h
  cases hr : right s with
  | false => rw [hr] at h; cases h
  | true =>
    cases hq : reqOk s q with
    | false => rw [hr, hq] at h; cases h
    | true =>
      cases hb : quoB (noteL q) with
      | false => rw [hr, hq, hb] at h; cases h
      | true =>
        rw [hr, hq, hb] at h
        exact ⟨rfl, rfl, rfl, bs_inj (congrArg Prod.fst h)⟩
theorem plainRequestReads (s : Schema) (p : ByteArray) (h1 : okT tab 9 (.st 1) s) (h2 : okT tab 9 .str p) : ∃ n, law19_RequestReads n s p = some true := by
  refine ⟨2000, ?_⟩
  unfold law19_RequestReads
  rw [bindE wakes19, Bool.not_true, cond_false, bindE (overQ_eq 2000 (by omega) s [] (by simp))]
  simp only [jn]
  cases ho : overQ s [] with
  | true => rfl
  | false =>
    rw [cond_false]
    have hs := overQ_len ho
    by_cases hl : (p.size : Int) > 300
    · rw [decide_eq_true hl]; rfl
    · rw [decide_eq_false hl, cond_false]
      obtain ⟨l, rfl⟩ : ∃ l, p = bs l := ⟨_, (bs_of p).symm⟩
      rw [bs_size] at hl
      have hR : ref05_Right 2000 s = some (right s) := right_eq 2000 (by omega) s (by omega)
      rw [parse_def, check_eq 2000 (by omega) s (by omega), Option.bind_some]
      cases hr : right s with
      | false =>
        rw [hR, hr, if_neg (by simp), show ((150 : Int) != 0) = true from rfl, cond_true, Option.bind_some, Option.bind_some, Bool.not_false, cond_true, eqb_q0]; rfl
      | true =>
        rw [if_pos rfl, bne_self_eq_false, cond_false, next_eq 2000 s l false (by omega), Option.bind_some]
        have hc := cut_len l
        obtain ⟨q, e, hq, hc⟩ := parseB_any (s := s) (by omega) l (cutL l).1 (cutL l).2.1 (nxB l false) (by omega)
        unfold rdE at hq
        rw [hq, Option.bind_some, hR, hr]
        rcases hc with ⟨rfl, rfl⟩ | ⟨rfl, hqi, ht⟩
        · rw [Option.bind_some, Bool.not_true, cond_false, show ((250 : Int) != 0) = true from rfl, cond_true, eqb_q0]; rfl
        · obtain ⟨_, t2, t3, t4⟩ := textE_ok ht
          obtain ⟨f1, f2, _⟩ := reqOk_facts t2
          simp only [Option.bind_some, Bool.not_true, cond_false, bne_self_eq_false, rright19 s hr q hqi.note, t2, t3, Bool.and_self, cond_true, rtext_eq q hqi f1 f2, t4, toList_eq_bs, decide_true]

/-! ### Written and read again -/
end Go.Proofs.YtlfjoaipbpendaaGreatDoor

/- What the rows' listed variables give the walk; one start that fits. -/
namespace Go.Proofs.YtlfjoaipbpendaaGreatDoor
open Go Go.Bur Go.RowKit Go.ChangeShapes
set_option linter.unusedVariables false
set_option maxRecDepth 100000

def laidL : List (String × DataW Unit) := [("math/bits.deBruijn32tab", Rows.laid_math_bits_deBruijn32tab), ("math/bits.deBruijn64tab", Rows.laid_math_bits_deBruijn64tab), ("internal/strconv.uint64pow10", Rows.laid_internal_strconv_uint64pow10), ("strconv.ErrRange", Rows.laid_strconv_ErrRange), ("strconv.ErrSyntax", Rows.laid_strconv_ErrSyntax)]

/-! ### One start that fits -/
abbrev synS : ByteArray := { data := #[105, 110, 118, 97, 108, 105, 100, 32, 115, 121, 110, 116, 97, 120] }
abbrev rngS : ByteArray := { data := #[118, 97, 108, 117, 101, 32, 111, 117, 116, 32, 111, 102, 32, 114, 97, 110, 103, 101] }
noncomputable def low : Nat := (World.holding Tryz.prog default ⟨#[], #[], []⟩).heap.size
def lay (cs : Array Value) : Obj → Obj
  | .cells _ t frozen => .cells cs t frozen
  | o => o
noncomputable def laidWorld (os : Os) : World :=
  let w0 := World.holding Tryz.prog os ⟨#[.cells #[.string synS] 224, .cells #[.string rngS] 224], #[], []⟩
  { w0 with heap := ((((w0.heap.modify 0 (lay #[.int .u64 1, .int .u64 10, .int .u64 100, .int .u64 1000, .int .u64 10000, .int .u64 100000, .int .u64 1000000, .int .u64 10000000, .int .u64 100000000, .int .u64 1000000000, .int .u64 10000000000, .int .u64 100000000000, .int .u64 1000000000000, .int .u64 10000000000000, .int .u64 100000000000000, .int .u64 1000000000000000, .int .u64 10000000000000000, .int .u64 100000000000000000, .int .u64 1000000000000000000, .int .u64 10000000000000000000])).modify 2 (lay #[.iface 222 (.pointer (some ⟨low, 0, none⟩))])).modify 3 (lay #[.iface 222 (.pointer (some ⟨low + 1, 0, none⟩))])).modify 4 (lay #[.int .u8 0, .int .u8 1, .int .u8 28, .int .u8 2, .int .u8 29, .int .u8 14, .int .u8 24, .int .u8 3, .int .u8 30, .int .u8 22, .int .u8 20, .int .u8 15, .int .u8 25, .int .u8 17, .int .u8 4, .int .u8 8, .int .u8 31, .int .u8 27, .int .u8 13, .int .u8 23, .int .u8 21, .int .u8 19, .int .u8 16, .int .u8 7, .int .u8 26, .int .u8 12, .int .u8 18, .int .u8 6, .int .u8 11, .int .u8 5, .int .u8 10, .int .u8 9])).modify 5 (lay #[.int .u8 0, .int .u8 1, .int .u8 56, .int .u8 2, .int .u8 57, .int .u8 49, .int .u8 28, .int .u8 3, .int .u8 61, .int .u8 58, .int .u8 42, .int .u8 50, .int .u8 38, .int .u8 29, .int .u8 17, .int .u8 4, .int .u8 62, .int .u8 47, .int .u8 59, .int .u8 36, .int .u8 45, .int .u8 43, .int .u8 51, .int .u8 22, .int .u8 53, .int .u8 39, .int .u8 33, .int .u8 30, .int .u8 24, .int .u8 18, .int .u8 12, .int .u8 5, .int .u8 63, .int .u8 55, .int .u8 48, .int .u8 27, .int .u8 60, .int .u8 41, .int .u8 37, .int .u8 16, .int .u8 46, .int .u8 35, .int .u8 44, .int .u8 21, .int .u8 52, .int .u8 32, .int .u8 23, .int .u8 11, .int .u8 54, .int .u8 26, .int .u8 40, .int .u8 15, .int .u8 34, .int .u8 20, .int .u8 31, .int .u8 10, .int .u8 25, .int .u8 14, .int .u8 19, .int .u8 9, .int .u8 13, .int .u8 8, .int .u8 7, .int .u8 6]) }
theorem laidWorld_met (os : Os) (args : Array Value) : laidMet Tryz.prog laidL ((laidWorld os).forCall (fun _ _ => 0) ⟨#[], args, []⟩).memory :=
  laidMet_of_run3 8 (by kernel_rfl) (by kernel_rfl) (by kernel_rfl)

/-! ### What it gives -/
theorem gPow : Tryz.prog.globalNamed "internal/strconv.uint64pow10" = some 0 := by kernel_rfl
theorem gSyn : Tryz.prog.globalNamed "strconv.ErrSyntax" = some 2 := by kernel_rfl
theorem gRng : Tryz.prog.globalNamed "strconv.ErrRange" = some 3 := by kernel_rfl
theorem gPowT : (Tryz.prog.globals[0]?).map (·.type) = some 193 := by kernel_rfl
theorem gSynT : (Tryz.prog.globals[2]?).map (·.type) = some 150 := by kernel_rfl
theorem gRngT : (Tryz.prog.globals[3]?).map (·.type) = some 150 := by kernel_rfl
theorem starE : "*" ++ "errors.errorString" = "*errors.errorString" := by decide
theorem row222 (u : TypeId) (h : Tryz.prog.typeName? 3 u = some "*errors.errorString") : u = 222 :=
  typeName_ptr_named (nm := "errors.errorString") (by rw [starE]; kernel_rfl) (by kernel_rfl) (by decide) u (by rw [starE]; exact h)
theorem c224 : Tryz.prog.cellsOf 224 = 1 := by kernel_rfl
theorem c9 : Tryz.prog.cellsOf 9 = 1 := by kernel_rfl
theorem bx_cell {W : World} {g : Nat} {v : Value} (h : W.cell? ⟨g, 0, none⟩ = some v) {W' : World} (k : Keep [] W W') : W'.cell? ⟨g, 0, none⟩ = some v := by
  have hlt : g < W.heap.size := by
    rcases Nat.lt_or_ge g W.heap.size with h' | h'
    · exact h'
    · simp [World.cell?, Array.getElem?_eq_none h'] at h
  rw [← h]
  simp only [World.cell?, k.block g hlt (by simp)]
theorem bx_row {W : World} {g : Nat} {vs : Array Value} (h : gRow g vs W) {W' : World} (k : Keep [] W W') : gRow g vs W' := by
  unfold gRow at h ⊢
  have hlt : g < W.heap.size := by
    rcases Nat.lt_or_ge g W.heap.size with h' | h'
    · exact h'
    · simp [Array.getElem?_eq_none h'] at h
  rw [k.block g hlt (by simp)]
  exact h
theorem globOf {W : World} (hL : laidMet Tryz.prog laidL W) (hsh : W.ShapedOpen Tryz.prog) : ∀ p ∈ glob, Bx [] W p := by
  have h2 : laidMet Tryz.prog (("internal/strconv.uint64pow10", Lib.tabData .u64 Lib.pow10Tab) :: ("strconv.ErrRange", Rows.laid_strconv_ErrRange) :: ("strconv.ErrSyntax", Rows.laid_strconv_ErrSyntax) :: []) W := hL.tail.tail
  have t0 : Lib.TabIs Tryz.prog W "internal/strconv.uint64pow10" .u64 Lib.pow10Tab := Lib.tabIs_of_head gPow gPowT Tryz.underlying193 Tryz.underlying126 (by kernel_rfl) (by kernel_rfl) h2
  obtain ⟨a0, s0, v0, -, -, -⟩ := laid_sentinel h2.tail gRng gRngT Tryz.underlying150 row222 Tryz.underlying222 Tryz.underlying224 rfl rfl Tryz.underlying9 c224 c9
  obtain ⟨a1, s1, v1, -, -, -⟩ := laid_sentinel h2.tail.tail gSyn gSynT Tryz.underlying150 row222 Tryz.underlying222 Tryz.underlying224 rfl rfl Tryz.underlying9 c224 c9
  obtain ⟨m, hm⟩ := cell_of_shapedOpen_int (P := Tryz.prog) (g := 1) (t := 3) (zero := #[.int .i64 0]) hsh (of_decide_eq_true (by kernel_rfl)) (by kernel_rfl) rfl (by kernel_rfl) (by kernel_rfl) Tryz.underlying3
  have tR : gRow 0 (Lib.pow10Tab.map fun z => Value.int .u64 z).toArray W := by
    unfold Lib.TabIs World.var? at t0
    rw [gPow] at t0
    exact t0
  intro p hp W' k
  simp only [glob, List.mem_cons, List.not_mem_nil, or_false] at hp
  rcases hp with rfl | rfl | rfl | rfl
  · exact bx_row tR k
  · exact ⟨m, bx_cell hm k⟩
  · exact ⟨_, _, bx_cell (by have h0 := World.var?_cell gSyn v1 0; simpa using h0) k⟩
  · exact ⟨_, _, bx_cell (by have h0 := World.var?_cell gRng v0 0; simpa using h0) k⟩

/-- The wrap for a row that lists variables, the world's shape kept. -/
theorem returnsBoth {H : Type} {enc : TypeId × Value → H} {a : Assume} {C : Checked} {os : Os} {f : FuncId} {fn : Func} {s : ChangeSpec} {conds : List PathCond} {apart fresh handsOn again : Bool} {X : World → Array Value → Prop}
    (hX : ∀ (w w' : World) (args : Array Value), w.heap = w'.heap → X w args → X w' args)
    (own : ownKnob C.prog.godebug = none) (started : os.Started) (noInit : C.prog.inits.idxOf? f = none) (hfn : C.prog.funcs[f]? = some fn)
    (witness : ∃ (w : World) (tape : Tape) (i : Input), w.os = os ∧ (w.forCall tape i).Shaped C.prog ∧ i.vars = [] ∧ Input.okWide C.prog (w.forCall tape i) .any w.heap.size f i ∧
      ((s.pre enc C.prog fn conds apart (w.forCall tape i).memory i.args ∧ X (w.forCall tape i).memory i.args) ∧ sizedMet enc C.prog fn (OpenSpec.ofChange s) apart (w.forCall tape i).memory i.args) ∧ a.holds C.prog (lone (Frame.enter C.prog f i.args .normal) [] (w.forCall tape i)))
    (contract : ∀ (W : World) (base : Nat) (args : Array Value) (ds gs : List (DataW H)) (before : List MemPlace),
      (∀ (j : Nat) t v, fn.params[j]? = some t → args[j]? = some v → Value.okWide C.prog W .any base t v) →
      DataW.Whole enc C.prog fn.params.toList s.vars apart W args.toList ds gs before →
      conds.all (PathCond.test C.prog ⟨fn.params.toList, ds, s.plain.varTypes C.prog, gs⟩) = true →
      X W args → W.ShapedOpen C.prog →
      a.holds C.prog (lone (Frame.enter C.prog f args .normal) [] W) →
      Calls C.prog f args W fun e W' => ∃ v, e = .returned v ∧ s.post enc C.prog fn apart fresh handsOn again W args v W') :
    ReturnsInHanded a C os f .any (fun w args => (s.pre enc C.prog fn conds apart w args ∧ X w args) ∧ sizedMet enc C.prog fn (OpenSpec.ofChange s) apart w args) (s.post enc C.prog fn apart fresh handsOn again) := by
  refine returnsInHanded_of_calls own started noInit witness ?_
  intro w tape i _ hsh _ hok hpre hholds
  obtain ⟨_, _, _, fn', hfn', _, _, _, _, hval⟩ := hok
  obtain rfl := Option.some.inj (hfn'.symm.trans hfn)
  obtain ⟨⟨⟨ds, gs, before, hw, hc⟩, hx⟩, _⟩ := hpre
  refine (contract (w.forCall tape i) w.heap.size i.args ds gs before hval (DataW.Whole.of_heap (w' := w.forCall tape i) (by rfl) hw) hc (hX _ _ _ (by rfl) hx) hsh hholds).mono fun e W' ⟨v, he, hp⟩ => ?_
  subst he
  exact ChangeSpec.post_blind hp
end Go.Proofs.YtlfjoaipbpendaaGreatDoor
