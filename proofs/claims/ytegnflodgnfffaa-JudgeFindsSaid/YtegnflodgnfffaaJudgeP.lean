/- Layer 27: histories: sizes, what is let pass, the order of commits, a transaction's entries. -/
import Derived.Test.YtegnflodgnfffaaIdealT
namespace Go.Proofs.Ytegnflodgnfffaa
open Go.Bur
set_option linter.unusedSimpArgs false
set_option linter.unusedVariables false
set_option maxRecDepth 100000

theorem wakes27 : law27_wakes 4000 = some true := by kernel_rfl

/-! ### Sizes -/
def overRowsP (l : List Row) : Bool := decide (100 < l.length) || l.any bigRow
theorem overRows_eq (n : Nat) (hn : 1003 ≤ n) (l : List Row) : law27_overRows n l = some (overRowsP l) := by
  unfold law27_overRows overRowsP
  by_cases h2 : 100 < l.length
  · rw [decide_eq_true (by omega : (l.length : Int) > 100), decide_eq_true h2]; rfl
  · rw [decide_eq_false (by omega : ¬ (l.length : Int) > 100), decide_eq_false h2]
    show law27_overRows_l1 n n (l, (l.length : Int), ((0 : Nat) : Int), ()) = _
    unfold law27_overRows_l1
    refine (run_loop l (fun (i : Nat) (_ : Unit) => (l, (l.length : Int), (i : Int), ())) (fun _ x _ => if bigRow x then .inl (some true) else .inr ()) (fun _ => some false) (fun r i _ x hx hi => ?_) (fun r _ => ?_) n 0 () (Nat.zero_le _) (by omega)).trans ?_
    · simp only [lt_dec hi, cond_true, idx_nat, hx, Option.bind_some, wrap_succ (show i < 4611686018427387904 by omega)]
      unfold bigRow
      cases decide ((x.note.size : Int) > 100) <;> rfl
    · simp only [ge_dec (Nat.lt_irrefl _), cond_false]
    · rw [List.drop_zero, runL_any]
      cases l.any bigRow <;> rfl
def bigEntry (e : Entry) : Bool := decide ((e.request.note.size : Int) > 100) || overRowsP e.answer.rows
def overH (h : History) : Bool := ((decide (20 < h.schema.tables.length) || overRowsP h.begun) || ((decide (150 < h.entries.length) && decide (h.entries.length ≤ 2000)) || decide (2100 < h.entries.length))) || h.entries.any bigEntry
theorem over27_eq (n : Nat) (hn : 3000 ≤ n) (h : History) : law27_over n h = some (overH h) := by
  unfold law27_over overH
  simp only [jn, overRows_eq n (by omega), Option.bind_some]
  rw [show decide ((h.schema.tables.length : Int) > 20) = decide (20 < h.schema.tables.length) from by simp [Int.ofNat_lt]; omega,
    show decide ((h.entries.length : Int) > 2100) = decide (2100 < h.entries.length) from decide_eq_decide.2 (by omega),
    show decide ((h.entries.length : Int) > 150) = decide (150 < h.entries.length) from decide_eq_decide.2 (by omega),
    show decide ((h.entries.length : Int) ≤ 2000) = decide (h.entries.length ≤ 2000) from decide_eq_decide.2 (by omega)]
  have hl : h.entries.length ≤ 2100 → law27_over_l1 n n (h.entries, (h.entries.length : Int), 0, ()) = some (h.entries.any bigEntry) := fun hlen => by
    show law27_over_l1 n n (h.entries, (h.entries.length : Int), ((0 : Nat) : Int), ()) = _
    unfold law27_over_l1
    refine (run_loop h.entries (fun (i : Nat) (_ : Unit) => (h.entries, (h.entries.length : Int), (i : Int), ())) (fun _ x _ => if bigEntry x then .inl (some true) else .inr ()) (fun _ => some false) (fun r i _ x hx hi => ?_) (fun r _ => ?_) n 0 () (Nat.zero_le _) (by omega)).trans ?_
    · simp only [lt_dec hi, cond_true, idx_nat, hx, Option.bind_some, wrap_succ (show i < 4611686018427387904 by omega), jn, overRows_eq n (by omega)]
      unfold bigEntry
      cases decide ((x.request.note.size : Int) > 100) <;> cases overRowsP x.answer.rows <;> rfl
    · simp only [ge_dec (Nat.lt_irrefl _), cond_false]
    · rw [List.drop_zero, runL_any]
      cases h.entries.any bigEntry <;> rfl
  cases decide (20 < h.schema.tables.length) <;> cases overRowsP h.begun <;> cases decide (150 < h.entries.length) <;> cases decide (h.entries.length ≤ 2000) <;> simp only [cond_true, cond_false, Bool.true_or, Bool.false_or, Bool.or_true, Bool.or_false, Bool.and_true, Bool.and_false, Bool.false_and, Bool.true_and]
  all_goals
    by_cases hlen : 2100 < h.entries.length
    · simp [hlen]
    · simp only [decide_eq_false hlen, cond_false, Bool.false_or]
      first | rfl | exact hl (by omega)
/-! ### What is let pass -/
def passesB (e : Entry) : Bool := (e.answer.err == 261) || ((e.answer.err == 6) && (e.request.kind == 3)) || ((e.answer.err == 152) && ((e.request.kind == 7) || (e.request.kind == 8)))
theorem rpasses_eq (n : Nat) (e : Entry) : ref27_Passes n e = some (passesB e) := by
  unfold ref27_Passes passesB
  simp only [jn]
  cases (e.answer.err == 261) <;> cases (e.answer.err == 6) <;> cases (e.request.kind == 3) <;> cases (e.answer.err == 152) <;> cases (e.request.kind == 7) <;> cases (e.request.kind == 8) <;> rfl
theorem passes_eq (n : Nat) (e : Entry) : judge_Passes n e = some (passesB e) := by
  unfold judge_Passes passesB
  simp only [jn]
  by_cases h1 : e.answer.err = 152
  · rw [h1]
    cases (e.request.kind == 3) <;> cases (e.request.kind == 7) <;> cases (e.request.kind == 8) <;> rfl
  · have h1' : (e.answer.err == 152) = false := by simpa using h1
    by_cases h2 : e.answer.err = 6
    · rw [h2]
      cases (e.request.kind == 3) <;> cases (e.request.kind == 7) <;> cases (e.request.kind == 8) <;> rfl
    · have h2' : (e.answer.err == 6) = false := by simpa using h2
      rw [h1', h2']
      cases (e.answer.err == 261) <;> rfl
/-! ### Who has committed -/
def commits (e : Entry) : Bool := (e.request.kind == 11) && (e.answer.err == 0)
theorem order_eq (n : Nat) (hn : 3000 ≤ n) (h : History) (hl : h.entries.length ≤ 2100) : judge_order n h = some ((h.entries.filter commits).map Entry.txn) := by
  unfold judge_order
  show judge_order_l1 n n (h.entries, (h.entries.length : Int), ((0 : Nat) : Int), ([] : List Int), ()) = _
  unfold judge_order_l1
  refine (run_loopI h.entries (fun (i : Nat) (s : List Int) => (h.entries, (h.entries.length : Int), (i : Int), s, ())) (fun _ x s => .inr (if commits x then s ++ [x.txn] else s)) (fun s => some s) (fun i s => s.length ≤ i) (fun i s x s' _ hs he => ?_) (fun r i s x hx hi hs => ?_) (fun r s _ => ?_) n 0 [] (Nat.zero_le _) (by omega) (Nat.le_refl _)).trans ?_
  · simp only [Sum.inr.injEq] at he
    subst he
    split
    · simp; omega
    · omega
  · simp only [lt_dec hi, cond_true, idx_nat, hx, Option.bind_some, jn, wrap_succ (show i < 4611686018427387904 by omega), judge_order_j2, app_lt (l := s) (m := [x.txn]) (b := 8) (by simp; omega) (by omega)]
    unfold commits
    cases (x.request.kind == 11) <;> cases (x.answer.err == 0) <;> rfl
  · simp only [ge_dec (Nat.lt_irrefl _), cond_false]
  · rw [List.drop_zero]
    have key : ∀ (l : List Entry) (i : Nat) (s : List Int), runL (fun _ x s => (.inr (if commits x then s ++ [x.txn] else s) : Option (List Int) ⊕ List Int)) (fun s => some s) l i s = some (s ++ (l.filter commits).map Entry.txn) := by
      intro l
      induction l with
      | nil => intro i s; simp [runL]
      | cons x l ih =>
        intro i s
        simp only [runL, ih, List.filter_cons]
        cases commits x <;> simp
    rw [key]; rfl
end Go.Proofs.Ytegnflodgnfffaa
